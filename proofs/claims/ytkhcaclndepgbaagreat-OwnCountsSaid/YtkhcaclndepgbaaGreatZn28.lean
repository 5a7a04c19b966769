/- Package find: Right of a tree; Walk and Right of no base. · Package base: Up, Down. · Package base: Up, Down, Back. · Supers are held against one another. -/
import Derived.Test.YtkhcaclndepgbaaGreatZn24
import Derived.Test.YtkhcaclndepgbaaGreatZn27
import Derived.Laws.StructEq
import Derived.ChangeKeysEq
set_option linter.unusedVariables false
set_option linter.unusedSimpArgs false
set_option maxRecDepth 100000
set_option maxHeartbeats 20000000
namespace Go.Proofs.YtkhcaclndepgbaaGreat
open Go.RowKit
theorem right_all {M:Bm} {F:List Nat} {B:Bs} : ∀ h:Nat,h<=100->RtAt M F B h
 | 0,hh=>right_step hh (fun h' e=>by omega)
 | h+1,hh=>right_step hh (fun h' e=>by
   obtain rfl:h=h':=by omega
   exact right_all h (by omega))
theorem height_bd {B:Bs} : ∀ (f:Nat) (x:Int),(heightP B f x).1<=f/\(x≠0->(heightP B f x).2=0->1<=(heightP B f x).1)
 | 0,x=>by
  unfold heightP;by_cases hx:x=0
  ·rw [if_pos hx];exact ⟨zLr _,fun h=>absurd hx h⟩
  ·rw [if_neg hx]
   cases hd:B.nodeI x with
   | none=>exact ⟨zLr _,fun _ h=>by
     have:B.nodeE x=0:=h;unfold Bs.nodeE at this;split at this <;> cases this⟩
   | some d=>exact ⟨zLr _,fun _ h=>by cases h⟩
 | f+1,x=>by
  unfold heightP;by_cases hx:x=0
  ·rw [if_pos hx];exact ⟨Nat.zero_le _,fun h=>absurd hx h⟩
  ·rw [if_neg hx]
   cases hd:B.nodeI x with
   | none=>exact ⟨Nat.zero_le _,fun _ h=>by
     have:B.nodeE x=0:=h;unfold Bs.nodeE at this;split at this <;> cases this⟩
   | some d =>
    have ih:=height_bd (B:=B) f (kidI (d.v 0))
    show (if d.leaf=true then ((1:Nat),(0:Int)) else if (heightP B f (kidI (d.v 0))).2=0 then ((heightP B f (kidI (d.v 0))).1+1,0) else (0,(heightP B f (kidI (d.v 0))).2)).1<=f+1/\(x≠0->(if d.leaf=true then ((1:Nat),(0:Int)) else if (heightP B f (kidI (d.v 0))).2=0 then ((heightP B f (kidI (d.v 0))).1+1,0) else (0,(heightP B f (kidI (d.v 0))).2)).2=0->1<=(if d.leaf=true then ((1:Nat),(0:Int)) else if (heightP B f (kidI (d.v 0))).2=0 then ((heightP B f (kidI (d.v 0))).1+1,0) else (0,(heightP B f (kidI (d.v 0))).2)).1)
    by_cases hl:d.leaf=true
    ·rw [if_pos hl];exact ⟨by show 1<=f+1;omega,fun _ _=>zLr _⟩
    ·rw [if_neg hl]
     by_cases h0:(heightP B f (kidI (d.v 0))).2=0
     ·rw [if_pos h0];exact ⟨by show (heightP B f (kidI (d.v 0))).1+1<=f+1;omega,fun _ _=>by show 1<=(heightP B f (kidI (d.v 0))).1+1;omega⟩
     ·rw [if_neg h0];exact ⟨Nat.zero_le _,fun _ h=>absurd h h0⟩
def rightT (B:Bs) (x:Int):Bool:=x==0||((heightP B 8 x).2==0&&rightP B ((heightP B 8 x).1 - 1) x 0 18446744073709551615 (if 1<(heightP B 8 x).1 then 2 else 1))
theorem fdRight_at {w:World} {M:Bm} {F:List Nat} {B:Bs} (h:BaseAt w M F B) (x:Int) (hx:(Lit.int .i64 x).wf=true) :
  Calls Tryz.prog 52 #[.pointer (some ⟨M.b,0,none⟩),.int .i64 x] w fun e w'=>e = .returned (.bool (rightT B x))/\Chg [] w w':=by
 have cb:=h.cBlocks;have ch:=fHeight_at h x hx;have hbd:=height_bd (B:=B) 8 x;obtain ⟨res,hres⟩:∃ res,res=rightT B x:=⟨_,rfl⟩;rw [<- hres];unfold rightT at hres
 have hn0:((B.T.n:Int)==0)=false:=by
  obtain ⟨R',hi',-⟩:=h;have:=hi'.c.ok.n;simp;omega
 obtain ⟨n,hn⟩:∃ n,n=B.T.n:=⟨_,rfl⟩;rw [<- hn] at cb hn0;obtain ⟨⟨hg,he⟩,hH⟩:∃ r,r=heightP B 8 x:=⟨_,rfl⟩;rw [<- hH] at ch hbd hres;have HB:=zh h;have CH:=zh ch;clear h hn hH ch;go_enter Tryz.func52,Tryz.ntmps52;go_wp2_with fail;refine (cb).mono ?_;rintro e w' ⟨rfl,rfl⟩;clear cb;by_cases hx0:x=0
 ·subst hx0
  have hR:res=true:=by rw [hres];rfl
  subst hR;clear hres;go_wp2_with fail;go_ret;exact ⟨rfl,Chg.refl _ _⟩
 ·have hx1:(x==0)=false:=by simpa using hx0
  rw [hx1,Bool.false_or] at hres;have HBD:=zh hbd;have hg8:hg<=8:=hbd.1;clear hbd;by_cases he0:he=0
  ·subst he0
   have hg1:1<=hg:=HBD.out.2 hx0 rfl;have hR:res=rightP B (hg - 1) x 0 18446744073709551615 (if 1<hg then 2 else 1):=hres;clear hres;have hs:((hg:Int) - 1)=((hg - 1:Nat):Int):=by omega
   obtain ⟨h1,hh1⟩:∃ h1,h1=hg - 1:=⟨_,rfl⟩;rw [<- hh1] at hR hs;have HS:=zh hs;have HRR:=zh hR;have hh8:h1<=8:=by omega
   clear hh1 hR hs;have hcase:(1<hg/\(1:Int)<(hg:Int))∨(¬ 1<hg/\¬ (1:Int)<(hg:Int)):=by omega
   rcases hcase with ⟨l1,l2⟩ | ⟨l1,l2⟩
   all_goals go_wp2_with fail
   all_goals refine CH.out.mono ?_
   all_goals rintro e w1 ⟨rfl,hc1⟩
   all_goals have HC:=zh hc1
   all_goals clear hc1
   ·have cr:=right_all (M:=M) (F:=F) (B:=B) h1 (by omega) w1 x 0 18446744073709551615 2 (HB.out.chg HC.out (by simp)) hx (by decide) (by decide) (by decide)
    have hR:=HRR.out;rw [if_pos l1] at hR;rw [<- hR] at cr;have CR:Hid (Calls Tryz.prog 111 #[.pointer (some ⟨M.b,0,none⟩),.int .i64 x,.int .i64 ((hg:Int) - 1),.agg #[.int .u64 0,.int .u64 18446744073709551615],.int .i64 2] w1 fun e w'=>e = .returned (.bool res)/\Chg [] w1 w'):=zh (by rw [HS.out];exact cr);clear cr hR;go_wp2_with fail;refine CR.out.mono ?_;clear CR CH;rintro e w2 ⟨rfl,hc2⟩;have HC2:=zh (HC.out.trans hc2);clear hc2;go_wp2_with fail;go_ret;exact ⟨rfl,HC2.out⟩
   ·have cr:=right_all (M:=M) (F:=F) (B:=B) h1 (by omega) w1 x 0 18446744073709551615 1 (HB.out.chg HC.out (by simp)) hx (by decide) (by decide) (by decide)
    have hR:=HRR.out;rw [if_neg l1] at hR;rw [<- hR] at cr;have CR:Hid (Calls Tryz.prog 111 #[.pointer (some ⟨M.b,0,none⟩),.int .i64 x,.int .i64 ((hg:Int) - 1),.agg #[.int .u64 0,.int .u64 18446744073709551615],.int .i64 1] w1 fun e w'=>e = .returned (.bool res)/\Chg [] w1 w'):=zh (by rw [HS.out];exact cr);clear cr hR;go_wp2_with fail;refine CR.out.mono ?_;clear CR CH;rintro e w2 ⟨rfl,hc2⟩;have HC2:=zh (HC.out.trans hc2);clear hc2;go_wp2_with fail;go_ret;exact ⟨rfl,HC2.out⟩
  ·have he1:(he==0)=false:=by simpa using he0
   rw [he1,Bool.false_and] at hres;subst hres;go_wp2_with fail;refine CH.out.mono ?_;rintro e w1 ⟨rfl,hc1⟩;have HC:=zh hc1;clear hc1;have hcase:(1:Int)<(hg:Int)∨¬ (1:Int)<(hg:Int):=by omega
   rcases hcase with l2 | l2
   all_goals go_wp2_with fail
   all_goals go_ret
   all_goals exact ⟨rfl,HC.out⟩
def Bs.mayC (B:Bs) (x:Int):Bool:=decide (2<=x)&&decide (x<(B.T.n:Int)) && !pageB B 0 x && !pageB B 1 x
theorem BaseC.cont {w:World} {M:Bm} {R:Br} {B:Bs} (h:BaseC w M R B) {k:Nat} (hk:k<2) (x:Int) :
  Calls Tryz.prog 148 #[.slice (some ⟨R.g k,0,none⟩) (nOf B.T.n k) (R.c k),.int .i64 x] w fun e w'=>e = .returned (.bool (pageB B k x))/\w=w':=by
 have n1:=h.ok.n;have hp:=nOf_pos (k:=k) n1.1;have hle:nOf B.T.n k<=4096:=by unfold nOf pg;split <;> omega
 rcases h.sh.l k hk with ⟨e,_⟩ | ⟨g,c,e,h1,h2,h3,h4⟩
 ·cases e
 ·injection e with e e2 e3
  injection e with e;injection e with e;subst e3;rw [<- e] at h4;refine contI_at (l:=B.a k) hle ?_ (fun i hi=>?_) pageB_iff
  ·rw [e2];exact h1
  ·have:=h4 i (by rw [atL_len];exact hi)
   rw [atL_get _ _ hi] at this;exact this
theorem bCount_bad {w:World} {M:Bm} {R:Br} {B:Bs} (h:BaseC w M R B) {x:Int} {v:Value} (hx:B.mayC x=false) :
  Calls Tryz.prog 93 #[.pointer (some ⟨M.b,0,none⟩),.int .i64 x,v] w fun e w'=>e = .returned (.int .i64 2)/\w=w':=by
 have n1:=h.ok.n;have cb:=bBlocks_at h;have c3:=h.c3;have c4:=h.c4;have p0:=h.cont (k:=0) (by omega) x;have p1:=h.cont (k:=1) (by omega) x;have HX:=zh hx;unfold Bs.mayC at hx;by_cases i0:x<2
 ·go_enter Tryz.func93,Tryz.ntmps93
  go_wp2_with fail;go_ret;exact ⟨rfl,rfl⟩
 by_cases i1:(B.T.n:Int)<=x
 ·go_enter Tryz.func93,Tryz.ntmps93
  go_wp2_with fail;refine (cb).mono ?_;rintro e w' ⟨rfl,rfl⟩;go_wp2_with fail;go_ret;exact ⟨rfl,rfl⟩
 rw [decide_eq_true (by omega),decide_eq_true (by omega)] at hx
 cases e0:pageB B 0 x with
 | true =>
  rw [e0] at p0;go_enter Tryz.func93,Tryz.ntmps93;go_wp2_with fail;refine (cb).mono ?_;rintro e w' ⟨rfl,rfl⟩;go_wp2_with fail;refine (p0).mono ?_;rintro e w' ⟨rfl,rfl⟩;go_wp2_with fail;go_ret;exact ⟨rfl,rfl⟩
 | false =>
  have e1:pageB B 1 x=true:=by rw [e0] at hx;simpa using hx
  rw [e0] at p0;rw [e1] at p1;go_enter Tryz.func93,Tryz.ntmps93;go_wp2_with fail;refine (cb).mono ?_;rintro e w' ⟨rfl,rfl⟩;go_wp2_with fail;refine (p0).mono ?_;rintro e w' ⟨rfl,rfl⟩;go_wp2_with fail;refine (p1).mono ?_;rintro e w' ⟨rfl,rfl⟩;go_wp2_with fail;go_ret;exact ⟨rfl,rfl⟩
theorem Bs.mayC_nat {B:Bs} {x:Int} (h:B.mayC x=true):2<=x/\x<(B.T.n:Int)/\pageB B 0 x=false/\pageB B 1 x=false:=by
 simp only [Bs.mayC,Bool.and_eq_true,decide_eq_true_iff,Bool.not_eq_true'] at h;exact ⟨h.1.1.1,h.1.1.2,h.1.2,h.2⟩
theorem bCount_zero {w:World} {M:Bm} {R:Br} {B:Bs} (h:BaseC w M R B) {x:Int} {v:Value} (hx:B.mayC x=true) (h0:getV B.T x=0) :
  Calls Tryz.prog 93 #[.pointer (some ⟨M.b,0,none⟩),.int .i64 x,v] w fun e w'=>e = .returned (.int .i64 82)/\w=w':=by
 have n1:=h.ok.n;have cb:=bBlocks_at h;have c1:=h.c1;have c3:=h.c3;have c4:=h.c4;have p0:=h.cont (k:=0) (by omega) x;have p1:=h.cont (k:=1) (by omega) x;obtain ⟨j0,j1,e0,e1⟩:=B.mayC_nat hx;have i0:¬ x<2:=by omega
 have i1:¬ (B.T.n:Int)<=x:=by omega
 rw [e0] at p0;rw [e1] at p1;have cg:=get_at h.pt.ht x;rw [h0] at cg;clear e0 e1 h0 h hx;go_enter Tryz.func93,Tryz.ntmps93;go_wp2_with fail;refine (cb).mono ?_;rintro e w' ⟨rfl,rfl⟩;go_wp2_with fail;refine (p0).mono ?_;rintro e w' ⟨rfl,rfl⟩;go_wp2_with fail;refine (p1).mono ?_;rintro e w' ⟨rfl,rfl⟩;go_wp2_with fail;refine (cg).mono ?_;rintro e w' ⟨rfl,rfl⟩;go_wp2_with fail;go_ret;exact ⟨rfl,rfl⟩
theorem BaseIn.less {w w2:World} {M:Bm} {R:Br} {B B':Bs} {F:List Nat} (h:BaseIn w M R B) (hFF:∀ q,Bown M R B q->q∉F) (c:Chg M.L w w2) (hn:B'.T.n=B.T.n) (ha:B'.a=B.a) (hD:B'.D=B.D)
  (hfr:∀ y f,B'.fr y=some f->B.fr y=some f) (pt:PT w2 M.p M.t M.bc M.bk B'.K B'.T) (top:w2.heap[M.b]?=some (.cells (fnRow 44 (baseV M R B')) 51 (0,0))) (fm:KMapV Tryz.prog 3 goodF w2 M.mf B.T.n (frV R B'))
  (d:DiskAt w2 M.d M.bb (.slice none 0 0) ⟨B.T.n,B.D,[]⟩) (ok:B'.Ok) (hF:∀ q,q∈F->q<w.heap.size):BaseAt w2 M F B':=by
 have hin:BaseIn w2 M R B':=h.remake c hn ha rfl rfl top pt (by rw [hn];exact fm) (fun k f hk hf=>h.fd_keep c (by rw [<- hn];exact hk) (hfr k f hf)) (by rw [hn,hD];exact d) ok;refine BaseAt.of h hFF hin hn rfl hF (fun k hk hs => .inl ⟨?_,rfl⟩)
 cases hq:B'.fr k with
 | none=>rw [hq] at hs;cases hs
 | some f=>rw [hfr k f hq];rfl
def Bs.counted (B:Bs) (T':Tal) (x:Nat):Bs := { B with T:=T',fr:=fun y=>if y=x/\T'.now x=0 then none else B.fr y }
theorem bCount_up {w:World} {M:Bm} {F:List Nat} {B:Bs} (h:BaseAt w M F B) (hF:∀ q,q∈F->q<w.heap.size) {x:Nat} {E:Int} {T':Tal} (hx:B.mayC (x:Int)=true) (h0:B.T.now x≠0)
  (hg:∀ w,PT w M.p M.t M.bc M.bk B.K B.T->Calls Tryz.prog 96 #[.pointer (some ⟨M.t,0,none⟩),.int .i64 (x:Int)] w fun e w'=>e = .returned (.int .i64 E)/\PT w' M.p M.t M.bc M.bk B.K T'/\Chg [M.p,M.t,M.bc,M.bk] w w')
  (hn:T'.n=B.T.n) (hok:(B.counted T' x).Ok) :
  Calls Tryz.prog 93 #[.pointer (some ⟨M.b,0,none⟩),.int .i64 (x:Int),.func (.func 96) #[.pointer (some ⟨M.t,0,none⟩)] #[]] w fun e w'=>e = .returned (.int .i64 E)/\BaseAt w' M F (B.counted T' x)/\Chg M.L w w':=by
 obtain ⟨R,hB,hFF⟩:=h;have n1:=hB.c.ok.n;have cb:=bBlocks_at hB.c;have c1:=hB.c.c1;have c3:=hB.c.c3;have c4:=hB.c.c4;have p0:=hB.c.cont (k:=0) (by omega) (x:Int);have p1:=hB.c.cont (k:=1) (by omega) (x:Int);obtain ⟨j0,j1,e0,e1⟩:=B.mayC_nat hx;have i0:¬ (x:Int)<2:=by omega
 have i1:¬ (B.T.n:Int)<=(x:Int):=by omega
 rw [e0] at p0;rw [e1] at p1;have xlt:x<B.T.n:=by omega
 have cg:=get_at hB.c.pt.ht (x:Int)
 have egv:∀ T:Tal,T.n=B.T.n->getV T (x:Int)=(T.now x:Int):=fun T hT=>by
  unfold getV;rw [(hasB_iff T (x:Int)).2 (by omega),if_pos rfl,Int.toNat_natCast]
 rw [egv _ rfl] at cg;have i2:¬ B.T.now x=0:=h0;have CG:=zh (hg w hB.c.pt);have nd:=hB.nodup;simp only [Bm.L,List.nodup_cons,List.mem_cons,List.not_mem_nil,or_false,not_or,List.nodup_nil,and_true] at nd;have HB:=zh (zA hB hFF);have HH:=zh (zA hok (zA hF (zA nd egv)));clear hB hFF hok hF nd egv e0 e1 hx hg h0;go_enter Tryz.func93,Tryz.ntmps93;go_wp2_with fail;refine (cb).mono ?_;rintro e w' ⟨rfl,rfl⟩;go_wp2_with fail;refine (p0).mono ?_;rintro e w' ⟨rfl,rfl⟩;go_wp2_with fail;refine (p1).mono ?_;rintro e w' ⟨rfl,rfl⟩;go_wp2_with fail;refine (cg).mono ?_;rintro e w' ⟨rfl,rfl⟩;go_wp2_with fail;go_simp;refine CG.out.mono ?_;rintro e w1 ⟨rfl,hpt,hc⟩;have nd:=HH.out.2.2.1;have hnb:∀ q,q≠M.p->q≠M.t->q≠M.bc->q≠M.bk->q∉[M.p,M.t,M.bc,M.bk]:=fun q a b c d=>by simp [a,b,c,d]
 have l1:=zhl HB.out.1.c.top;have hb1:=(hc.block M.b l1 (hnb _ nd.1.2.2.1 nd.1.2.2.2.1 nd.1.2.2.2.2.1 nd.1.2.2.2.2.2.1)).trans HB.out.1.c.top;have d1:w1.cell? ⟨M.b,1,none⟩=some (.pointer (some ⟨M.t,0,none⟩)):=(cell_fn hb1 (by omega)).trans rfl;have d5:w1.cell? ⟨M.b,5,none⟩=some (.map (some M.mf)):=(cell_fn hb1 (by omega)).trans rfl;have cg1:=get_at hpt.ht (x:Int);rw [HH.out.2.2.2 _ hn] at cg1;have i3:x<B.T.n:=xlt;have HP:=zh (zA hpt (zA hc (zA hb1 nd)));have l11:=zhl hb1;clear hpt hc hb1 nd hnb;have hm1:=HB.out.1.c.fm.chg HP.out.2.1 (by have:=HP.out.2.2.2;simp only [List.mem_cons,List.not_mem_nil,or_false,not_or];exact ⟨fun e=>this.2.2.2.1.2.2.2 e.symm,fun e=>this.2.2.2.2.1.2.2 e.symm,fun e=>this.2.2.2.2.2.1.2 e.symm,HB.out.1.c.ne⟩);by_cases hz:T'.now x=0
 ·obtain ⟨w2,hrun,hm2,ht2⟩:=hm1.del (t:=43) (k:=x) Tryz.underlying3 Tryz.underlying43 xlt n1.2 0
  have hc2:=mapTurned_chg ht2;have HZ:=zh (zA hm2 hc2);clear hm1 hm2 ht2 hc2;go_wp2_with fail;refine (cg1).mono ?_;rintro e w' ⟨rfl,rfl⟩;go_wp2_with fail;go_ret;have nd:=HP.out.2.2.2;have hne:∀ q,q≠M.mf->q∉[M.mf]:=fun q hq=>by simpa using hq
  have c02:Chg M.L w w2:=(HP.out.2.1.mono (by simp [Bm.L])).trans (HZ.out.2.mono (by simp [Bm.L]));refine ⟨rfl,HB.out.1.less HB.out.2 c02 hn rfl rfl (fun y f hy=>?_) (HP.out.1.chg HZ.out.2 (hne _ nd.2.2.2.1.2.2.2) (hne _ nd.2.2.2.2.1.2.2) (hne _ nd.2.2.2.2.2.1.2) (hne _ nd.2.2.2.2.2.2.1)) ?_ ?_ ?_ HH.out.1 HH.out.2.1,c02⟩
  ·have hy':(if y=x/\T'.now x=0 then none else B.fr y)=some f:=hy
   split at hy'
   ·cases hy'
   ·exact hy'
  ·rw [baseV_same (B:=B) (B':=B.counted T' x) hn rfl rfl rfl rfl]
   exact (HZ.out.2.block M.b l11 (hne _ nd.1.2.2.2.2.2.2)).trans HP.out.2.2.1
  ·refine HZ.out.1.congr (fun i hi=>?_)
   unfold frV Bs.counted;by_cases e:i=x
   ·simp [e,hz]
   ·simp [e]
  ·exact (HB.out.1.d.chg HP.out.2.1 (by simp [nd]) (by simp [nd]) (fun k hk=>by cases hk)).chg HZ.out.2 (hne _ nd.2.1.2.2.2.2.2) (hne _ nd.2.2.1.2.2.2.2) (fun k hk=>by cases hk)
 ·have i4:¬ T'.now x=0:=hz
  have HM:=zh hm1;clear hm1;go_wp2_with fail;refine (cg1).mono ?_;rintro e w' ⟨rfl,rfl⟩;go_wp2_with fail;go_ret;have nd:=HP.out.2.2.2;have c02:Chg M.L w w1:=HP.out.2.1.mono (by simp [Bm.L])
  have efr:(B.counted T' x).fr=B.fr:=by
   funext y
   show (if y=x/\T'.now x=0 then none else B.fr y)=B.fr y
   rw [if_neg (fun h=>hz h.2)]
  refine ⟨rfl,HB.out.1.less HB.out.2 c02 hn rfl rfl (fun y f hy=>by rw [efr] at hy;exact hy) HP.out.1 ?_ ?_ ?_ HH.out.1 HH.out.2.1,c02⟩
  ·rw [baseV_same (B:=B) (B':=B.counted T' x) hn rfl rfl rfl rfl]
   exact HP.out.2.2.1
  ·refine HM.out.congr (fun i hi=>?_)
   unfold frV;rw [efr]
  ·exact HB.out.1.d.chg HP.out.2.1 (by simp [nd]) (by simp [nd]) (fun k hk=>by cases hk)
theorem bCount_dn {w:World} {M:Bm} {F:List Nat} {B:Bs} (h:BaseAt w M F B) (hF:∀ q,q∈F->q<w.heap.size) {x:Nat} {E:Int} {T':Tal} (hx:B.mayC (x:Int)=true) (h0:B.T.now x≠0)
  (hg:∀ w,PT w M.p M.t M.bc M.bk B.K B.T->Calls Tryz.prog 94 #[.pointer (some ⟨M.t,0,none⟩),.int .i64 (x:Int)] w fun e w'=>e = .returned (.int .i64 E)/\PT w' M.p M.t M.bc M.bk B.K T'/\Chg [M.p,M.t,M.bc,M.bk] w w')
  (hn:T'.n=B.T.n) (hok:(B.counted T' x).Ok) :
  Calls Tryz.prog 93 #[.pointer (some ⟨M.b,0,none⟩),.int .i64 (x:Int),.func (.func 94) #[.pointer (some ⟨M.t,0,none⟩)] #[]] w fun e w'=>e = .returned (.int .i64 E)/\BaseAt w' M F (B.counted T' x)/\Chg M.L w w':=by
 obtain ⟨R,hB,hFF⟩:=h;have n1:=hB.c.ok.n;have cb:=bBlocks_at hB.c;have c1:=hB.c.c1;have c3:=hB.c.c3;have c4:=hB.c.c4;have p0:=hB.c.cont (k:=0) (by omega) (x:Int);have p1:=hB.c.cont (k:=1) (by omega) (x:Int);obtain ⟨j0,j1,e0,e1⟩:=B.mayC_nat hx;have i0:¬ (x:Int)<2:=by omega
 have i1:¬ (B.T.n:Int)<=(x:Int):=by omega
 rw [e0] at p0;rw [e1] at p1;have xlt:x<B.T.n:=by omega
 have cg:=get_at hB.c.pt.ht (x:Int)
 have egv:∀ T:Tal,T.n=B.T.n->getV T (x:Int)=(T.now x:Int):=fun T hT=>by
  unfold getV;rw [(hasB_iff T (x:Int)).2 (by omega),if_pos rfl,Int.toNat_natCast]
 rw [egv _ rfl] at cg;have i2:¬ B.T.now x=0:=h0;have CG:=zh (hg w hB.c.pt);have nd:=hB.nodup;simp only [Bm.L,List.nodup_cons,List.mem_cons,List.not_mem_nil,or_false,not_or,List.nodup_nil,and_true] at nd;have HB:=zh (zA hB hFF);have HH:=zh (zA hok (zA hF (zA nd egv)));clear hB hFF hok hF nd egv e0 e1 hx hg h0;go_enter Tryz.func93,Tryz.ntmps93;go_wp2_with fail;refine (cb).mono ?_;rintro e w' ⟨rfl,rfl⟩;go_wp2_with fail;refine (p0).mono ?_;rintro e w' ⟨rfl,rfl⟩;go_wp2_with fail;refine (p1).mono ?_;rintro e w' ⟨rfl,rfl⟩;go_wp2_with fail;refine (cg).mono ?_;rintro e w' ⟨rfl,rfl⟩;go_wp2_with fail;go_simp;refine CG.out.mono ?_;rintro e w1 ⟨rfl,hpt,hc⟩;have nd:=HH.out.2.2.1;have hnb:∀ q,q≠M.p->q≠M.t->q≠M.bc->q≠M.bk->q∉[M.p,M.t,M.bc,M.bk]:=fun q a b c d=>by simp [a,b,c,d]
 have l1:=zhl HB.out.1.c.top;have hb1:=(hc.block M.b l1 (hnb _ nd.1.2.2.1 nd.1.2.2.2.1 nd.1.2.2.2.2.1 nd.1.2.2.2.2.2.1)).trans HB.out.1.c.top;have d1:w1.cell? ⟨M.b,1,none⟩=some (.pointer (some ⟨M.t,0,none⟩)):=(cell_fn hb1 (by omega)).trans rfl;have d5:w1.cell? ⟨M.b,5,none⟩=some (.map (some M.mf)):=(cell_fn hb1 (by omega)).trans rfl;have cg1:=get_at hpt.ht (x:Int);rw [HH.out.2.2.2 _ hn] at cg1;have i3:x<B.T.n:=xlt;have HP:=zh (zA hpt (zA hc (zA hb1 nd)));have l11:=zhl hb1;clear hpt hc hb1 nd hnb;have hm1:=HB.out.1.c.fm.chg HP.out.2.1 (by have:=HP.out.2.2.2;simp only [List.mem_cons,List.not_mem_nil,or_false,not_or];exact ⟨fun e=>this.2.2.2.1.2.2.2 e.symm,fun e=>this.2.2.2.2.1.2.2 e.symm,fun e=>this.2.2.2.2.2.1.2 e.symm,HB.out.1.c.ne⟩);by_cases hz:T'.now x=0
 ·obtain ⟨w2,hrun,hm2,ht2⟩:=hm1.del (t:=43) (k:=x) Tryz.underlying3 Tryz.underlying43 xlt n1.2 0
  have hc2:=mapTurned_chg ht2;have HZ:=zh (zA hm2 hc2);clear hm1 hm2 ht2 hc2;go_wp2_with fail;refine (cg1).mono ?_;rintro e w' ⟨rfl,rfl⟩;go_wp2_with fail;go_ret;have nd:=HP.out.2.2.2;have hne:∀ q,q≠M.mf->q∉[M.mf]:=fun q hq=>by simpa using hq
  have c02:Chg M.L w w2:=(HP.out.2.1.mono (by simp [Bm.L])).trans (HZ.out.2.mono (by simp [Bm.L]));refine ⟨rfl,HB.out.1.less HB.out.2 c02 hn rfl rfl (fun y f hy=>?_) (HP.out.1.chg HZ.out.2 (hne _ nd.2.2.2.1.2.2.2) (hne _ nd.2.2.2.2.1.2.2) (hne _ nd.2.2.2.2.2.1.2) (hne _ nd.2.2.2.2.2.2.1)) ?_ ?_ ?_ HH.out.1 HH.out.2.1,c02⟩
  ·have hy':(if y=x/\T'.now x=0 then none else B.fr y)=some f:=hy
   split at hy'
   ·cases hy'
   ·exact hy'
  ·rw [baseV_same (B:=B) (B':=B.counted T' x) hn rfl rfl rfl rfl]
   exact (HZ.out.2.block M.b l11 (hne _ nd.1.2.2.2.2.2.2)).trans HP.out.2.2.1
  ·refine HZ.out.1.congr (fun i hi=>?_)
   unfold frV Bs.counted;by_cases e:i=x
   ·simp [e,hz]
   ·simp [e]
  ·exact (HB.out.1.d.chg HP.out.2.1 (by simp [nd]) (by simp [nd]) (fun k hk=>by cases hk)).chg HZ.out.2 (hne _ nd.2.1.2.2.2.2.2) (hne _ nd.2.2.1.2.2.2.2) (fun k hk=>by cases hk)
 ·have i4:¬ T'.now x=0:=hz
  have HM:=zh hm1;clear hm1;go_wp2_with fail;refine (cg1).mono ?_;rintro e w' ⟨rfl,rfl⟩;go_wp2_with fail;go_ret;have nd:=HP.out.2.2.2;have c02:Chg M.L w w1:=HP.out.2.1.mono (by simp [Bm.L])
  have efr:(B.counted T' x).fr=B.fr:=by
   funext y
   show (if y=x/\T'.now x=0 then none else B.fr y)=B.fr y
   rw [if_neg (fun h=>hz h.2)]
  refine ⟨rfl,HB.out.1.less HB.out.2 c02 hn rfl rfl (fun y f hy=>by rw [efr] at hy;exact hy) HP.out.1 ?_ ?_ ?_ HH.out.1 HH.out.2.1,c02⟩
  ·rw [baseV_same (B:=B) (B':=B.counted T' x) hn rfl rfl rfl rfl]
   exact HP.out.2.2.1
  ·refine HM.out.congr (fun i hi=>?_)
   unfold frV;rw [efr]
  ·exact HB.out.1.d.chg HP.out.2.1 (by simp [nd]) (by simp [nd]) (fun k hk=>by cases hk)
def Bs.upE (B:Bs) (x:Int):Int:=if B.mayC x then (if getV B.T x=0 then 82 else Proofs.YtkhcaclndepgbaaGreat.upE B.T x) else 2
def Bs.downE (B:Bs) (x:Int):Int:=if B.mayC x then (if getV B.T x=0 then 82 else Proofs.YtkhcaclndepgbaaGreat.downE B.T x) else 2
def Bs.up (B:Bs) (x:Int):Bs:=if B.mayC x && !decide (getV B.T x=0) then B.counted (Proofs.YtkhcaclndepgbaaGreat.up B.T x) x.toNat else B
def Bs.down (B:Bs) (x:Int):Bs:=if B.mayC x && !decide (getV B.T x=0) then B.counted (Proofs.YtkhcaclndepgbaaGreat.down B.T x) x.toNat else B
theorem pageB_no {B:Bs} {x k i:Nat} (h:pageB B k (x:Int)=false) (hi:i<nOf B.T.n k):B.a k i≠x:=fun e=>by
 have:=pageB_iff.2 ⟨i,hi,(by rw [e]:(B.a k i:Int)=(x:Int))⟩;rw [h] at this;cases this
theorem Bs.Ok.counted_ok {B:Bs} (h:B.Ok) {x v:Nat} (h0:B.T.now x≠0) (hx:B.mayC (x:Int)=true) (hv:v<=65535):(B.counted (B.T.set x v) x).Ok:=by
 obtain ⟨j0,j1,e0,e1⟩:=B.mayC_nat hx;have hset:∀ y,(B.T.set x v).now y=if y=x then v else B.T.now y:=fun y=>set_now ..
 have hp:∀ k i,k<2->i<nOf B.T.n k->B.a k i≠x:=fun k i hk hi=>by
  rcases (show k=0∨k=1 by omega) with rfl | rfl
  ·exact pageB_no e0 hi
  ·exact pageB_no e1 hi
 refine { n:=h.n,own:=h.own.set v hp,a2:=h.a2,low:=?_,le:=?_,first:=h.first,nx:=h.nx,fr:=?_,fle:=?_,s:=h.s,kp:=h.kp,sg:=h.sg,disk:=h.disk,dle:=h.dle }
 ·intro b hb
  refine ⟨?_,(h.low b hb).2⟩
  show (B.T.set x v).now b=0
  rw [hset,if_neg (by omega)];exact (h.low b hb).1
 ·intro b hb
  refine ⟨?_,(h.le b hb).2⟩
  show (B.T.set x v).now b<=65535
  rw [hset]
  split
  ·exact hv
  ·exact (h.le b hb).1
 ·intro b hb
  show ((if b=x/\(B.T.set x v).now x=0 then none else B.fr b).isSome=true↔B.T.kept b=0/\(B.T.set x v).now b≠0)
  have hf:=h.fr b hb;rw [hset,hset,if_pos rfl];by_cases e:b=x
  ·subst e
   rw [if_pos rfl];by_cases e2:v=0
   ·simp [e2]
   ·simp only [e2,and_false,if_false]
    rw [hf];exact ⟨fun q=>⟨q.1,e2⟩,fun q=>⟨q.1,h0⟩⟩
  ·rw [if_neg (fun q=>e q.1),if_neg e];exact hf
 ·intro b f hb hf
  have hf':(if b=x/\(B.T.set x v).now x=0 then none else B.fr b)=some f:=hf
  split at hf'
  ·cases hf'
  ·exact h.fle b f hb hf'
theorem Bs.Ok.up_counted {B:Bs} (h:B.Ok) {x:Nat} (h0:B.T.now x≠0) (hx:B.mayC (x:Int)=true):(B.counted (Proofs.YtkhcaclndepgbaaGreat.up B.T (x:Int)) x).Ok:=by
 obtain ⟨j0,j1,e0,e1⟩:=B.mayC_nat hx;have hh:=(hasB_iff B.T (x:Int)).2 (by omega);unfold Proofs.YtkhcaclndepgbaaGreat.up;by_cases e:B.T.now x=65535
 ·have:Proofs.YtkhcaclndepgbaaGreat.upE B.T (x:Int)=81:=by simp [Proofs.YtkhcaclndepgbaaGreat.upE,hh,e]
  rw [this,if_neg (by decide)]
  have es:B.T.set x (B.T.now x)=B.T:=by
   show ({ B.T with now:=_ } : Tal)=B.T
   rw [show (fun i=>if i=x then B.T.now x else B.T.now i)=B.T.now from funext fun i=>by by_cases q:i=x <;> simp [q]]
  have:=h.counted_ok (v:=B.T.now x) h0 hx (by omega);rw [es] at this;exact this
 ·have:Proofs.YtkhcaclndepgbaaGreat.upE B.T (x:Int)=0:=by simp [Proofs.YtkhcaclndepgbaaGreat.upE,hh,e]
  rw [this,if_pos rfl,Int.toNat_natCast];have:=(h.le x (by omega)).1;exact h.counted_ok h0 hx (by omega)
theorem Bs.Ok.down_counted {B:Bs} (h:B.Ok) {x:Nat} (h0:B.T.now x≠0) (hx:B.mayC (x:Int)=true):(B.counted (Proofs.YtkhcaclndepgbaaGreat.down B.T (x:Int)) x).Ok:=by
 obtain ⟨j0,j1,e0,e1⟩:=B.mayC_nat hx;have hh:=(hasB_iff B.T (x:Int)).2 (by omega);unfold Proofs.YtkhcaclndepgbaaGreat.down;have:Proofs.YtkhcaclndepgbaaGreat.downE B.T (x:Int)=0:=by simp [Proofs.YtkhcaclndepgbaaGreat.downE,hh,h0]
 rw [this,if_pos rfl,Int.toNat_natCast];have:=(h.le x (by omega)).1;exact h.counted_ok h0 hx (by omega)
theorem bUp_in {w:World} {M:Bm} {F:List Nat} {B:Bs} (h:BaseAt w M F B) (hF:∀ q,q∈F->q<w.heap.size) (x:Int) :
  Calls Tryz.prog 93 #[.pointer (some ⟨M.b,0,none⟩),.int .i64 x,.func (.func 96) #[.pointer (some ⟨M.t,0,none⟩)] #[]] w fun e w'=>e = .returned (.int .i64 (B.upE x))/\BaseAt w' M F (B.up x)/\Chg M.L w w':=by
 have h':=h;obtain ⟨R,hB,hFF⟩:=h';unfold Bs.upE Bs.up
 cases hx:B.mayC x with
 | false=>exact (bCount_bad hB.c hx).mono fun e w' ⟨q1,q2⟩=>by subst q2;exact ⟨q1,h,Chg.refl _ _⟩
 | true =>
  by_cases h0:getV B.T x=0
  ·rw [if_pos rfl,if_pos h0,decide_eq_true h0]
   exact (bCount_zero hB.c hx h0).mono fun e w' ⟨q1,q2⟩=>by subst q2;exact ⟨q1,h,Chg.refl _ _⟩
  ·rw [if_pos rfl,if_neg h0,decide_eq_false h0,if_pos (show (true && !false)=true from rfl)]
   obtain ⟨j0,j1,-,-⟩:=B.mayC_nat hx;obtain ⟨y,rfl⟩:=Int.eq_ofNat_of_zero_le (show 0<=x by omega);rw [Int.toNat_natCast];have hn0:B.T.now y≠0:=fun e=>h0 (by unfold getV;rw [(hasB_iff B.T (y:Int)).2 (by omega),if_pos rfl,Int.toNat_natCast,e];rfl);exact bCount_up h hF hx hn0 (fun w hpt=>hpt.up _) (up_n ..) (hB.c.ok.up_counted hn0 hx)
theorem bDown_in {w:World} {M:Bm} {F:List Nat} {B:Bs} (h:BaseAt w M F B) (hF:∀ q,q∈F->q<w.heap.size) (x:Int) :
  Calls Tryz.prog 93 #[.pointer (some ⟨M.b,0,none⟩),.int .i64 x,.func (.func 94) #[.pointer (some ⟨M.t,0,none⟩)] #[]] w fun e w'=>e = .returned (.int .i64 (B.downE x))/\BaseAt w' M F (B.down x)/\Chg M.L w w':=by
 have h':=h;obtain ⟨R,hB,hFF⟩:=h';unfold Bs.downE Bs.down
 cases hx:B.mayC x with
 | false=>exact (bCount_bad hB.c hx).mono fun e w' ⟨q1,q2⟩=>by subst q2;exact ⟨q1,h,Chg.refl _ _⟩
 | true =>
  by_cases h0:getV B.T x=0
  ·rw [if_pos rfl,if_pos h0,decide_eq_true h0]
   exact (bCount_zero hB.c hx h0).mono fun e w' ⟨q1,q2⟩=>by subst q2;exact ⟨q1,h,Chg.refl _ _⟩
  ·rw [if_pos rfl,if_neg h0,decide_eq_false h0,if_pos (show (true && !false)=true from rfl)]
   obtain ⟨j0,j1,-,-⟩:=B.mayC_nat hx;obtain ⟨y,rfl⟩:=Int.eq_ofNat_of_zero_le (show 0<=x by omega);rw [Int.toNat_natCast];have hn0:B.T.now y≠0:=fun e=>h0 (by unfold getV;rw [(hasB_iff B.T (y:Int)).2 (by omega),if_pos rfl,Int.toNat_natCast,e];rfl);exact bCount_dn h hF hx hn0 (fun w hpt=>hpt.down _) (down_n ..) (hB.c.ok.down_counted hn0 hx)
theorem bUp_at {w:World} {M:Bm} {F:List Nat} {B:Bs} (h:BaseAt w M F B) (hF:∀ q,q∈F->q<w.heap.size) (x:Int) :
  Calls Tryz.prog 28 #[.pointer (some ⟨M.b,0,none⟩),.int .i64 x] w fun e w'=>e = .returned (.int .i64 (B.upE x))/\BaseAt w' M F (B.up x)/\Chg M.L w w':=by
 have h':=h;obtain ⟨R,hB,hFF⟩:=h';have cm:=bMay_at hB.c;have c1:=hB.c.c1;have cc:=zh (bUp_in h hF x);clear h hB hFF hF;go_enter Tryz.func28,Tryz.ntmps28;go_wp2_with fail;refine (cm).mono ?_;rintro e w' ⟨rfl,rfl⟩;go_wp2_with fail;refine cc.out.mono ?_;rintro e w' ⟨rfl,hq⟩;have HQ:=zh hq;clear hq cc;go_wp2_with fail;go_ret;exact ⟨rfl,HQ.out⟩
theorem bDown_at {w:World} {M:Bm} {F:List Nat} {B:Bs} (h:BaseAt w M F B) (hF:∀ q,q∈F->q<w.heap.size) (x:Int) :
  Calls Tryz.prog 23 #[.pointer (some ⟨M.b,0,none⟩),.int .i64 x] w fun e w'=>e = .returned (.int .i64 (B.downE x))/\BaseAt w' M F (B.down x)/\Chg M.L w w':=by
 have h':=h;obtain ⟨R,hB,hFF⟩:=h';have cm:=bMay_at hB.c;have c1:=hB.c.c1;have cc:=zh (bDown_in h hF x);clear h hB hFF hF;go_enter Tryz.func23,Tryz.ntmps23;go_wp2_with fail;refine (cm).mono ?_;rintro e w' ⟨rfl,rfl⟩;go_wp2_with fail;refine cc.out.mono ?_;rintro e w' ⟨rfl,hq⟩;have HQ:=zh hq;clear hq cc;go_wp2_with fail;go_ret;exact ⟨rfl,HQ.out⟩
def supLit (S:Sup):Array Value:=#[.int .u64 (S.gen:Int),.int .u32 (S.blocks:Int),.int .u32 (S.roots 0:Int),.int .u32 (S.roots 1:Int),.int .u32 (S.roots 2:Int),.int .u32 (S.roots 3:Int),.int .u32 (S.roots 4:Int),.int .u32 (S.roots 5:Int),.int .u32 (S.roots 6:Int),.int .u32 (S.roots 7:Int),.int .u64 (S.marks 0:Int),.int .u64 (S.marks 1:Int),.int .u64 (S.marks 2:Int),.int .u64 (S.marks 3:Int),.int .u64 (S.marks 4:Int),.int .u64 (S.marks 5:Int),.int .u64 (S.marks 6:Int),.int .u64 (S.marks 7:Int)]
theorem row_lit (S:Sup):S.row=supLit S:=by rfl
theorem eqItems_int {w:World} {e:TypeId} {k:IntKind} (hu:Tryz.prog.underlying e=some (.int k)) (hpk:Tryz.prog.plainKey e=true) (hc:Tryz.prog.cellsOf e=1) {xs ys:Array Value} {f g:Nat->Int} (d:Nat):∀ (is:List Nat),(∀ i∈is,xs[i]?=some (.int k (f i)))->(∀ i∈is,ys[i]?=some (.int k (g i))) ->
  ∃ r:Bool,(Op.eqItems (d+1) e (Tryz.prog.cellsOf e) xs ys is).run Tryz.prog w = .ok r w/\(r=true↔∀ i∈is,f i=g i)
 | [],_,_=>⟨true,by simp [Op.eqItems],by simp⟩
 | i::is,hx,hy=>by
  have ha:=hx i (by simp);have hb:=hy i (by simp);obtain ⟨r,hr,hi⟩:=eqItems_int (w:=w) hu hpk hc d is (fun j hj=>hx j (by simp [hj])) (fun j hj=>hy j (by simp [hj]));have p1:(part e xs (i*Tryz.prog.cellsOf e)).run Tryz.prog w = .ok (.int k (f i)) w:=by rw [hc,Nat.mul_one];exact run_part_plain w hpk ha
  have p2:(part e ys (i*Tryz.prog.cellsOf e)).run Tryz.prog w = .ok (.int k (g i)) w:=by rw [hc,Nat.mul_one];exact run_part_plain w hpk hb
  have p3:(Op.equalIn (d+1) e (.int k (f i)) (.int k (g i))).run Tryz.prog w = .ok (f i==g i) w:=by
   simp [Op.equalIn,run_underlying hu]
  simp only [Op.eqItems,Sem.run_bind,p1,p2,p3,Result.andThen_ok];by_cases e:f i=g i
  ·refine ⟨r,by simpa [e] using hr,?_⟩
   rw [hi];simp [e]
  ·refine ⟨false,by simp [e],?_⟩
   simp [e]
theorem eqField_int {w:World} {fd:Field} {e:TypeId} {off:Nat} {k:IntKind} (hn:fd.name ≠ "_") (ht:fd.type=e) (ho:fd.offset=off) (hu:Tryz.prog.underlying e=some (.int k)) (hpk:Tryz.prog.plainKey e=true) {xs ys:Array Value} {a b:Int} (hx:xs[off]?=some (.int k a)) (hy:ys[off]?=some (.int k b)) (d:Nat) (fs:List Field) {r:Bool}
  (hr:(Op.eqFields (d+1) xs ys fs).run Tryz.prog w = .ok r w):(Op.eqFields (d+1) xs ys (fd::fs)).run Tryz.prog w = .ok (decide (a=b)&&r) w:=by
 subst ht;subst ho;have p1:=run_part_plain w hpk hx;have p2:=run_part_plain w hpk hy;have p3:(Op.equalIn (d+1) fd.type (.int k a) (.int k b)).run Tryz.prog w = .ok (a==b) w:=by simp [Op.equalIn,run_underlying hu]
 simp only [Op.eqFields,ne_eq,hn,not_false_eq_true,if_true,Sem.run_bind,p1,p2,p3,Result.andThen_ok];by_cases e:a=b
 ·subst e;simp [hr]
 ·simp [e]
theorem eqField_arr {w:World} {fd:Field} {t e:TypeId} {off n:Nat} {k:IntKind} (hn:fd.name ≠ "_") (ht:fd.type=t) (ho:fd.offset=off) (hut:Tryz.prog.underlying t=some (.array n e)) (hsz:Tryz.prog.cellsOf t=n) (hu:Tryz.prog.underlying e=some (.int k)) (hpk:Tryz.prog.plainKey e=true) (hc:Tryz.prog.cellsOf e=1)
  {xs ys:Array Value} {f g:Nat->Int} (hx:∀ i,i<n->xs[off+i]?=some (.int k (f i))) (hy:∀ i,i<n->ys[off+i]?=some (.int k (g i))) (d:Nat) (fs:List Field) {r:Bool}
  (hr:(Op.eqFields (d+2) xs ys fs).run Tryz.prog w = .ok r w):∃ q:Bool,(Op.eqFields (d+2) xs ys (fd::fs)).run Tryz.prog w = .ok (q&&r) w/\(q=true↔∀ i,i<n->f i=g i):=by
 subst ht;subst ho;obtain ⟨i0,hi0⟩:∃ i,Tryz.prog.info? fd.type=some i:=info_of_underlying hut;obtain ⟨i1,hi1⟩:∃ i,Tryz.prog.info? e=some i:=info_of_underlying hu;have hagg:(isAgg fd.type).run Tryz.prog w = .ok true w:=by unfold isAgg;rw [Sem.run_bind,run_underlying hut w];rfl
 have pp:∀ zs:Array Value,(part fd.type zs fd.offset).run Tryz.prog w = .ok (.agg (zs.extract fd.offset (fd.offset+n))) w:=fun zs=>by
  simp [part,Sem.run_bind,hagg,run_sizeOf w hi0,hsz]
 have ext:∀ (zs:Array Value) (h:Nat->Int),(∀ i,i<n->zs[fd.offset+i]?=some (.int k (h i)))->∀ i∈List.range n,(zs.extract fd.offset (fd.offset+n))[i]?=some (.int k (h i)):=fun zs h hz i hi=>by
  have hin:i<n:=by simpa using hi
  have:=hz i hin;have hlt:=(Array.getElem?_eq_some_iff.1 this).1;rw [Array.getElem?_extract,if_pos (by omega),this]
 obtain ⟨q,hq,hiff⟩:=eqItems_int (w:=w) hu hpk hc d (List.range n) (ext xs f hx) (ext ys g hy);have p3:=run_equalIn_array (P:=Tryz.prog) w (d+1) (xs.extract fd.offset (fd.offset+n)) (ys.extract fd.offset (fd.offset+n)) hut hi1;refine ⟨q,?_,by rw [hiff];simp⟩;simp only [Op.eqFields,ne_eq,hn,not_false_eq_true,if_true,Sem.run_bind,pp,Result.andThen_ok];rw [p3,hq];cases q
 ·simp
 ·simp [hr]
theorem sup_eq (w:World) (S S':Sup):∃ r:Bool,(Op.equalIn 10000 49 (.agg S.row) (.agg S'.row)).run Tryz.prog w = .ok r w/\(r=true↔S.row=S'.row):=by
 have hf:(Tryz.prog.fieldsOf 49).toList=[(Tryz.prog.fieldsOf 49)[0]!,(Tryz.prog.fieldsOf 49)[1]!,(Tryz.prog.fieldsOf 49)[2]!,(Tryz.prog.fieldsOf 49)[3]!]:=by kernel_rfl
 have gx:∀ (T:Sup) {i:Nat},i<18->T.row[i]?=some (T.cellV i):=fun T {i} hi=>zfg hi
 obtain ⟨q3,h3,i3⟩:=eqField_arr (w:=w) (fd:=(Tryz.prog.fieldsOf 49)[3]!) (t:=47) (e:=44) (off:=10) (n:=8) (k := .u64) (xs:=S.row) (ys:=S'.row) (f:=fun i=>(S.marks i:Int)) (g:=fun i=>(S'.marks i:Int)) (by decide +kernel) (by kernel_rfl) (by kernel_rfl) Tryz.underlying47 (by kernel_rfl) Tryz.underlying44 (by kernel_rfl) (by kernel_rfl)
  (fun i hi=>(gx S (by omega)).trans (by unfold Sup.cellV;rw [if_neg (by omega),if_neg (by omega),if_neg (by omega),Nat.add_sub_cancel_left])) (fun i hi=>(gx S' (by omega)).trans (by unfold Sup.cellV;rw [if_neg (by omega),if_neg (by omega),if_neg (by omega),Nat.add_sub_cancel_left])) 9997 [] (r:=true) (by simp [Op.eqFields])
 obtain ⟨q2,h2,i2⟩:=eqField_arr (w:=w) (fd:=(Tryz.prog.fieldsOf 49)[2]!) (t:=46) (e:=45) (off:=2) (n:=8) (k := .u32) (xs:=S.row) (ys:=S'.row) (f:=fun i=>(S.roots i:Int)) (g:=fun i=>(S'.roots i:Int)) (by decide +kernel) (by kernel_rfl) (by kernel_rfl) Tryz.underlying46 (by kernel_rfl) Tryz.underlying45 (by kernel_rfl) (by kernel_rfl)
  (fun i hi=>(gx S (by omega)).trans (by unfold Sup.cellV;rw [if_neg (by omega),if_neg (by omega),if_pos (by omega),Nat.add_sub_cancel_left])) (fun i hi=>(gx S' (by omega)).trans (by unfold Sup.cellV;rw [if_neg (by omega),if_neg (by omega),if_pos (by omega),Nat.add_sub_cancel_left])) 9997 [(Tryz.prog.fieldsOf 49)[3]!] h3
 have h1:=eqField_int (w:=w) (fd:=(Tryz.prog.fieldsOf 49)[1]!) (e:=45) (off:=1) (k := .u32) (xs:=S.row) (ys:=S'.row) (a:=(S.blocks:Int)) (b:=(S'.blocks:Int)) (by decide +kernel) (by kernel_rfl) (by kernel_rfl) Tryz.underlying45 (by kernel_rfl) (gx S (by omega)) (gx S' (by omega)) 9998 _ h2;have h0:=eqField_int (w:=w) (fd:=(Tryz.prog.fieldsOf 49)[0]!) (e:=44) (off:=0) (k := .u64) (xs:=S.row) (ys:=S'.row) (a:=(S.gen:Int)) (b:=(S'.gen:Int)) (by decide +kernel) (by kernel_rfl) (by kernel_rfl) Tryz.underlying44 (by kernel_rfl) (gx S (by omega)) (gx S' (by omega)) 9998 _ h1;have hs:=run_equalIn_struct (P:=Tryz.prog) w 9999 49 S.row S'.row (by kernel_rfl) (by kernel_rfl);rw [hf,h0] at hs;refine ⟨_,hs,?_⟩;simp only [Bool.and_eq_true,decide_eq_true_eq,and_true,i3,i2];constructor
 ·rintro ⟨e0,e1,e2,e3⟩
  refine row_congr fun i hi=>?_;unfold Sup.valS;by_cases c0:i=0
  ·rw [if_pos c0,if_pos c0];omega
  ·rw [if_neg c0,if_neg c0]
   by_cases c1:i=1
   ·rw [if_pos c1,if_pos c1];omega
   ·rw [if_neg c1,if_neg c1]
    by_cases c2:i<10
    ·rw [if_pos c2,if_pos c2];have:=e2 (i - 2) (by omega);omega
    ·rw [if_neg c2,if_neg c2];have:=e3 (i - 10) (by omega);omega
 ·intro h
  have e:=row_inj h
  have v:∀ (T:Sup) (i:Nat),i<8->T.valS (2+i)=T.roots i/\T.valS (10+i)=T.marks i:=fun T i hi=>by
   unfold Sup.valS;rw [if_neg (by omega),if_neg (by omega),if_pos (by omega),if_neg (by omega),if_neg (by omega),if_neg (by omega),Nat.add_sub_cancel_left,Nat.add_sub_cancel_left];exact ⟨rfl,rfl⟩
  refine ⟨congrArg Nat.cast (e 0 (by omega)),congrArg Nat.cast (e 1 (by omega)),fun i hi=>?_,fun i hi=>?_⟩
  ·rw [<- (v S i hi).1,<- (v S' i hi).1,e _ (by omega)]
  ·rw [<- (v S i hi).2,<- (v S' i hi).2,e _ (by omega)]
end Go.Proofs.YtkhcaclndepgbaaGreat
