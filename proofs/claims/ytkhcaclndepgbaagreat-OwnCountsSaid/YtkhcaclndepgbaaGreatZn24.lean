/- Package find: right, Right. -/
import Derived.Test.YtkhcaclndepgbaaGreatZn23
import Derived.BigGuard
set_option linter.unusedVariables false
set_option linter.unusedSimpArgs false
set_option maxRecDepth 100000
set_option maxHeartbeats 20000000
namespace Go.Proofs.YtkhcaclndepgbaaGreat
open Go.RowKit
def kidOk (B:Bs) (h:Nat) (d:Nd) (lo hi i:Nat):Bool:=decide (lo<=d.k i/\d.k i<=hi)&&(match h with
 | 0=>true
 | h'+1=>decide (2<=d.v i/\d.v i<B.T.n)&&rightP B h' (d.v i:Int) (d.k i) (d.hi hi i) 3)
theorem rightP_none {B:Bs} {h:Nat} {x:Int} {lo hi least:Nat} (hd:B.nodeI x=none):rightP B h x lo hi least=false:=by
 cases h <;> (unfold rightP;rw [hd])
theorem rightP_node {B:Bs} {h:Nat} {x:Int} {lo hi least:Nat} {d:Nd} (hd:B.nodeI x=some d):rightP B h x lo hi least=(decide (least<=d.n)&&((d.leaf==decide (h=0))&&(List.range d.n).all fun i=>kidOk B h d lo hi i)):=by
 cases h with
 | zero =>
  unfold rightP;rw [hd];simp [kidOk]
 | succ h =>
  unfold rightP;rw [hd];cases hl:d.leaf <;> simp [kidOk,hl]
theorem rightP_all {B:Bs} {h:Nat} {x:Int} {lo hi least:Nat} {d:Nd} (hd:B.nodeI x=some d) (h1:least<=d.n) (h2:(d.leaf==decide (h=0))=true) (h3:∀ i,i<d.n->kidOk B h d lo hi i=true):rightP B h x lo hi least=true:=by
 rw [rightP_node hd,h2,decide_eq_true h1];simpa using h3
theorem rightP_bad {B:Bs} {h:Nat} {x:Int} {lo hi least:Nat} {d:Nd} (hd:B.nodeI x=some d) {i:Nat} (hi':i<d.n) (h3:kidOk B h d lo hi i=false):rightP B h x lo hi least=false:=by
 rw [rightP_node hd]
 have:((List.range d.n).all fun i=>kidOk B h d lo hi i)=false:=by
  rw [Bool.eq_false_iff];intro q;rw [List.all_eq_true] at q;rw [q i (List.mem_range.2 hi')] at h3;cases h3
 rw [this];simp
theorem rightP_few {B:Bs} {h:Nat} {x:Int} {lo hi least:Nat} {d:Nd} (hd:B.nodeI x=some d) (h1:¬ least<=d.n):rightP B h x lo hi least=false:=by
 rw [rightP_node hd,decide_eq_false h1];rfl
theorem rightP_kind {B:Bs} {h:Nat} {x:Int} {lo hi least:Nat} {d:Nd} (hd:B.nodeI x=some d) (h2:(d.leaf==decide (h=0))=false):rightP B h x lo hi least=false:=by
 rw [rightP_node hd,h2];simp
theorem ite_yes {b:Bool} {A E:Prop} (h:b=true) (k:A):if b=true then A else E:=by rw [if_pos h];exact k
def RtS (xb vb n i u bb k hj:Nat) (w:World):Prop:=(w.cell? ⟨xb,2,none⟩=some (.slice (some ⟨vb,0,none⟩) n n)/\w.cell? ⟨vb,i,none⟩=some (.int .u64 (u:Int)))/\w.cell? ⟨bb,0,none⟩=some (.int .u64 (k:Int))/\w.cell? ⟨bb,1,none⟩=some (.int .u64 (hj:Int))
theorem RtS.chg {xb vb n i u bb k hj:Nat} {w w':World} (h:RtS xb vb n i u bb k hj w) (c:Chg [] w w'):RtS xb vb n i u bb k hj w':=by
 obtain ⟨⟨h1,h2⟩,h3,h4⟩:=h;exact ⟨⟨(c.cell (World.block_lt_of_cell? _ _ h1) (by simp)).trans h1,(c.cell (World.block_lt_of_cell? _ _ h2) (by simp)).trans h2⟩,(c.cell (World.block_lt_of_cell? _ _ h3) (by simp)).trans h3,(c.cell (World.block_lt_of_cell? _ _ h4) (by simp)).trans h4⟩
def RtAt (M:Bm) (F:List Nat) (B:Bs) (h:Nat):Prop:=∀ (w:World) (x:Int) (lo hi least:Nat),BaseAt w M F B->(Lit.int .i64 x).wf=true->lo<18446744073709551616->hi<18446744073709551616->least<=7 ->
 Calls Tryz.prog 111 #[.pointer (some ⟨M.b,0,none⟩),.int .i64 x,.int .i64 (h:Int),.agg #[.int .u64 (lo:Int),.int .u64 (hi:Int)],.int .i64 (least:Int)] w fun e w'=>e = .returned (.bool (rightP B h x lo hi least))/\Chg [] w w'
theorem right_step {M:Bm} {F:List Nat} {B:Bs} {h:Nat} (hh:h<=100) (ih:∀ h',h=h'+1->RtAt M F B h'):RtAt M F B h:=by
 intro w x lo hi least hb hx hlo hhi hle;have ok:B.Ok:=by obtain ⟨R,hi',_⟩:=hb;exact hi'.c.ok
 have hN:16<=B.T.n/\B.T.n<=4096:=ok.n;obtain ⟨res,hres⟩:∃ res,res=rightP B h x lo hi least:=⟨_,rfl⟩;rw [<- hres];have c0:=(Chg.refl [] w).alloc (.cells #[.int .u64 (lo:Int),.int .u64 (hi:Int)] 179);have k0:=znb w (.cells #[.int .u64 (lo:Int),.int .u64 (hi:Int)] 179);have cn:=(hb.chg c0 (by simp)).cNode x;have HB:=zh hb;have HHI:=zh hhi;have HIH:=zh ih;have HRS:=zh hres;have HOK:=zh ok;have HK0:=zh (zA k0 c0);have CN:=zh cn;clear hb ih hres ok k0 c0 cn;go_enter Tryz.func111,Tryz.ntmps111;go_wp2_with (refine wpList_boxAgg rfl 179 (.tmp 3) rfl (cells:=#[.int .u64 (lo:Int),.int .u64 (hi:Int)]) rfl ?_);generalize w.alloc (.cells #[.int .u64 (lo:Int),.int .u64 (hi:Int)] 179)=W0 at *;refine CN.out.mono ?_;clear CN;rintro e w1 (⟨d,kb,vb,hd,rfl,k1,k2,k3,r1,r2,hc1⟩ | ⟨hd,rfl,hc1⟩)
 ·have hd1:=(HOK.out.node_ok hd).1
  have hnb:=znb w1 (.cells #[.bool d.leaf,.slice (some ⟨kb,0,none⟩) d.n d.n,.slice (some ⟨vb,0,none⟩) d.n d.n] 107);have hcb:=(Chg.refl [] w1).alloc (.cells #[.bool d.leaf,.slice (some ⟨kb,0,none⟩) d.n d.n,.slice (some ⟨vb,0,none⟩) d.n d.n] 107);have hnd:=NodeEnd.box hd1 k1 k2 r1 r2 hc1 hnb (hcb.mono (by simp));have HC:=zh (hc1.trans hcb);have HND:=zh hnd;have cr:=ndRight_at hnd.ki hnd.vi (leaf:=d.leaf);rw [hd1.rightN] at cr;have CR:=zh cr;have HD:=zh (zA hd hd1);obtain ⟨y0,y1,y2⟩:=hnd.c;clear cr hnd hnb hcb hc1 r1 r2 hd k1 k2 k3;go_upto_region 2 with fail;generalize w1.alloc (.cells #[.bool d.leaf,.slice (some ⟨kb,0,none⟩) d.n d.n,.slice (some ⟨vb,0,none⟩) d.n d.n] 107)=W at *;obtain ⟨xb,hxb⟩:∃ xb,xb=w1.heap.size:=⟨_,rfl⟩;rw [<- hxb] at HND y0 y1 y2 ⊢;clear hxb;obtain ⟨n,hn⟩:∃ n,n=d.n:=⟨_,rfl⟩;rw [<- hn] at y1 y2 CR ⊢;have HN:=zh hn;have n7:n<=7:=by rw [hn];exact hd1.n
  clear hn;go_wp2_with fail;refine CR.out.mono ?_;clear CR;rintro e w2 ⟨rfl,hc2⟩;have HND2:=zh (HND.out.chg hc2 (by simp));have HC2:=zh (HC.out.trans hc2);obtain ⟨z0,z1,z2⟩:=HND2.out.c;rw [<- HN.out] at z1 z2;obtain ⟨sb,hsb⟩:∃ sb,sb=w.heap.size:=⟨_,rfl⟩
  have HSP:Hid (∀ W',Chg [] w2 W'->W'.heap[sb]?=some (.cells #[.int .u64 (lo:Int),.int .u64 (hi:Int)] 179 (0,0))):=zh fun W' c=>by
   have:=(HC2.out.trans c).block sb (by rw [hsb];exact zhl HK0.out.1) (by simp);rw [this,hsb];exact HK0.out.1
  rw [<- hsb];clear y0 y1 y2 hc2 HND HC hsb;by_cases hfew:least<=n
  case neg =>
   have hR:=HRS.out.trans (rightP_few HD.out.1 (by rw [<- HN.out];exact hfew));subst hR;have i1:(n:Int)<(least:Int):=by omega
   go_wp2_with fail;go_ret;exact ⟨rfl,HK0.out.2.trans HC2.out⟩
  have i1:¬ (n:Int)<(least:Int):=by omega
  have hcase:(d.leaf=true/\h=0)∨(d.leaf=false/\∃ h',h=h'+1)∨((d.leaf==decide (h=0))=false/\(d.leaf==((h:Int)==0))=false):=by
   cases hl:d.leaf <;> cases h with
   | zero=>simp
   | succ h'=>simp <;> omega
  rcases hcase with ⟨hl,hh0⟩ | ⟨hl,h',hh0⟩ | ⟨hb1,hb2⟩
  ·subst hh0
   rw [hl] at z0;have hz0:(((0:Nat):Int)==0)=true:=by decide
   go_wp2_with fail
   go_loopw [46] (fun s wr=>∃ i:Nat,s = .int .i64 (i:Int)/\i<=n/\Hid ((∀ j,j<i->kidOk B 0 d lo hi j=true)/\Chg [] w2 wr)) (fun s _=>n - (intOf s).toNat)
   case atStart=>exact ⟨0,rfl,Nat.zero_le _,zh ⟨fun j hj=>by omega,Chg.refl _ _⟩⟩
   case round =>
    obtain ⟨i,rfl,hi',HX⟩:=hrel;have hnd:=HND2.out.chg HX.out.2 (by simp);obtain ⟨q0,q1,q2⟩:=hnd.c;rw [hl] at q0;rw [<- HN.out] at q1 q2;have hsp:=HSP.out wr HX.out.2;have s0:wr.cell? ⟨sb,0,none⟩=some (.int .u64 (lo:Int)):=(zcb hsp 0).trans rfl;have s1:wr.cell? ⟨sb,1,none⟩=some (.int .u64 (hi:Int)):=(zcb hsp 1).trans rfl;by_cases hin:i<n
    ·have i2:(i:Int)<(n:Int):=by omega
     have hk:=hnd.k.cell (i:=i) (by rw [<- HN.out];exact hin);clear hnd hsp;by_cases hlk:lo<=d.k i
     ·have i3:¬ (d.k i:Int)<(lo:Int):=by omega
      by_cases hhk:d.k i<=hi
      ·have i4:¬ (hi:Int)<(d.k i:Int):=by omega
       have hok:kidOk B 0 d lo hi i=true:=by unfold kidOk;rw [decide_eq_true ⟨hlk,hhk⟩];rfl
       have HX2:Hid ((∀ j,j<i+1->kidOk B 0 d lo hi j=true)/\Chg [] w2 wr):=zh ⟨fun j hj=>by
        by_cases e:j=i
        ·rw [e];exact hok
        ·exact HX.out.1 j (by omega),HX.out.2⟩
       clear hok;go_wp2_with fail
       go_roundw
       case rel=>exact ⟨i+1,by go_num,by omega,HX2⟩
       case measure=>first | (simp [intOf];omega) | omega
      ·have i4:(hi:Int)<(d.k i:Int):=by omega
       have hR:=HRS.out.trans (rightP_bad HD.out.1 (by rw [<- HN.out];exact hin) (by unfold kidOk;rw [decide_eq_false (fun q=>hhk q.2)];rfl));subst hR;have HZ:=zh ((HK0.out.2.trans HC2.out).trans HX.out.2);go_wp2_with fail;go_ret;exact ⟨rfl,HZ.out⟩
     ·have i3:(d.k i:Int)<(lo:Int):=by omega
      have hR:=HRS.out.trans (rightP_bad HD.out.1 (by rw [<- HN.out];exact hin) (by unfold kidOk;rw [decide_eq_false (fun q=>hlk q.1)];rfl));subst hR;have HZ:=zh ((HK0.out.2.trans HC2.out).trans HX.out.2);go_wp2_with fail;go_ret;exact ⟨rfl,HZ.out⟩
    ·obtain rfl:i=n:=by omega
     have hR:=HRS.out.trans (rightP_all HD.out.1 (by rw [<- HN.out];exact hfew) (by rw [hl];rfl) (fun j hj=>HX.out.1 j (by rw [HN.out];exact hj)));subst hR;have HZ:=zh ((HK0.out.2.trans HC2.out).trans HX.out.2);clear hnd hsp;go_wp2_with fail;go_ret;exact ⟨rfl,HZ.out⟩
  ·subst hh0
   rw [hl] at z0;have hz0:(((h'+1:Nat):Int)==0)=false:=by simp;omega
   have hz1:(((h':Int)+1)==0)=false:=by simp;omega
   have HKN:Hid (∀ j,j<n->d.v j≠0/\d.v j<4096):=zh fun j hj=>((kidsB_iff _ _).1 (hd1.kids hl)).2.1 j (by rw [<- HN.out];exact hj);go_wp2_with fail
   go_loopw [46] (fun s wr=>∃ i:Nat,s = .int .i64 (i:Int)/\i<=n/\Hid ((∀ j,j<i->kidOk B (h'+1) d lo hi j=true)/\Chg [] w2 wr)) (fun s _=>n - (intOf s).toNat)
   case atStart=>exact ⟨0,rfl,Nat.zero_le _,zh ⟨fun j hj=>by omega,Chg.refl _ _⟩⟩
   case round =>
    obtain ⟨i,rfl,hi',HX⟩:=hrel;have hnd:=HND2.out.chg HX.out.2 (by simp);obtain ⟨q0,q1,q2⟩:=hnd.c;rw [hl] at q0;rw [<- HN.out] at q1 q2;have hsp:=HSP.out wr HX.out.2;have s0:wr.cell? ⟨sb,0,none⟩=some (.int .u64 (lo:Int)):=(zcb hsp 0).trans rfl;have s1:wr.cell? ⟨sb,1,none⟩=some (.int .u64 (hi:Int)):=(zcb hsp 1).trans rfl;by_cases hin:i<n
    ·have i2:(i:Int)<(n:Int):=by omega
     have hk:=hnd.k.cell (i:=i) (by rw [<- HN.out];exact hin);by_cases hlk:lo<=d.k i
     ·have i3:¬ (d.k i:Int)<(lo:Int):=by omega
      by_cases hhk:d.k i<=hi
      ·have i4:¬ (hi:Int)<(d.k i:Int):=by omega
       have hv:=hnd.v.cell (i:=i) (by rw [<- HN.out];exact hin);have hvb:=HKN.out i hin;obtain ⟨u,hu⟩:∃ u,u=d.v i:=⟨_,rfl⟩;rw [<- hu] at hv hvb;have HU:=zh hu;have HK2:Hid (i+1<n->wr.cell? ⟨kb,i+1,none⟩=some (.int .u64 (d.k (i+1):Int))/\d.k i<d.k (i+1)/\d.k (i+1)<18446744073709551616):=zh fun hj=>⟨hnd.k.cell (i:=i+1) (by rw [<- HN.out];exact hj),asc_lt hd1.asc (by omega) (by rw [<- HN.out];exact hj),hd1.k _ (by rw [<- HN.out];exact hj)⟩;have HNW:=zh hnd;have HBK:=zh (zA hlk hhk);have lk:=hnd.k.lt;have lv:=hnd.v.lt;have lx:=zhl hnd.top;clear hu hnd hsp;by_cases hj:i+1<n
       ·obtain ⟨hk1,hk2,hk3⟩:=HK2.out hj
        obtain ⟨k1,hkk⟩:∃ k1,k1=d.k (i+1):=⟨_,rfl⟩;rw [<- hkk] at hk1 hk2 hk3;have i5:(i:Int)+1<(n:Int):=by omega
        have E1:IntKind.u64.wrap ((k1:Int) - 1)=((k1 - 1:Nat):Int):=by rw [IntKind.wrap_u64];omega
        have HKK:=zh hkk;clear hkk;go_upto_region 13 with fail;clear hk1 hk2 hk3 E1;have hc6:Chg [] wr (wr.alloc (.cells #[.int .u64 (d.k i:Int),.int .u64 ((k1 - 1:Nat):Int)] 179)):=(Chg.refl [] wr).alloc _;have kb6:=znb wr (.cells #[.int .u64 (d.k i:Int),.int .u64 ((k1 - 1:Nat):Int)] 179);generalize wr.alloc (.cells #[.int .u64 (d.k i:Int),.int .u64 ((k1 - 1:Nat):Int)] 179)=W6 at *;have hhi:k1 - 1=d.hi hi i:=by unfold Nd.hi;rw [if_pos (by have:=HN.out;omega),HKK.out]
        rw [hhi] at kb6;clear hhi;obtain ⟨bb,hbb⟩:∃ bb,bb=wr.heap.size:=⟨_,rfl⟩;rw [<- hbb] at kb6 ⊢;obtain ⟨hjv,hhj⟩:∃ z,z=d.hi hi i:=⟨_,rfl⟩;rw [<- hhj] at kb6;have hnd6:=HNW.out.chg hc6 (by simp)
        have hcl:RtS xb vb n i u bb (d.k i) hjv W6:=by
         obtain ⟨-,-,p2⟩:=hnd6.c;rw [<- HN.out] at p2;have pv:=hnd6.v.cell (i:=i) (by rw [<- HN.out];exact hin);rw [<- HU.out] at pv;exact ⟨⟨p2,pv⟩,(zcb kb6 0).trans rfl,(zcb kb6 1).trans rfl⟩
        have HCL:=zh hcl;have HZ6:=zh ((HK0.out.2.trans HC2.out).trans (HX.out.2.trans hc6));have HJV:=zh (show hjv=d.hi hi i/\hjv<18446744073709551616 from ⟨hhj,by rw [hhj];unfold Nd.hi;split;(· have:=HK2.out (by have:=HN.out;omega);omega);(· exact HHI.out)⟩);clear hnd6 hbb hhj hk q0 q1 q2 s0 s1 hv lk lv lx;have HC6:=zh hc6;clear hc6 kb6;have hbs:=(HB.out.chg HZ6.out (by simp)).chg (Chg.refl [] W6).drew (by simp);have cB:=hbs.cBlocks;obtain ⟨N,hNN⟩:∃ N,N=B.T.n:=⟨_,rfl⟩;rw [<- hNN] at cB;have hN2:N<=4096:=by omega
        have CB:=zh cB;have HNN:=zh hNN;have HBS:=zh hbs;clear cB hNN hbs hN;by_cases hu2:u<2
        ·have j1:(u:Int)<2:=by omega
         refine wp_region_held_drew (S:=RtS xb vb n i u bb (d.k i) hjv) (by kernel_rfl) (by exact hcl) (fun hHeld=>?_);clear hcl;refine wVa 0 ?_;refine wVa 1 ?_;refine wVa 2 ?_;try simp only [Act.put,sA1,sA2,sA3]
         refine wVa 3 ?_;refine wVa 4 ?_;refine wVa 5 ?_;try simp only [Act.put,sA1,sA2,sA3]
         refine wVa 6 ?_;refine wN 7 ?_;refine wN 8 ?_;try simp only [Act.put,sA1,sA2,sA3]
         refine wN 9 ?_;refine wN 10 ?_;refine wN 11 ?_;try simp only [Act.put,sA1,sA2,sA3]
         refine wN 12 ?_;refine wN 13 ?_;refine wN 14 ?_;try simp only [Act.put,sA1,sA2,sA3]
         refine wN 15 ?_;refine wVa 16 ?_;refine wVa 17 ?_;try simp only [Act.put,sA1,sA2,sA3]
         refine wN 18 ?_;refine wN 19 ?_;refine wN 20 ?_;try simp only [Act.put,sA1,sA2,sA3]
         refine wN 21 ?_;refine wN 22 ?_;refine wN 23 ?_;try simp only [Act.put,sA1,sA2,sA3]
         refine wN 24 ?_;refine wN 25 ?_;refine wN 26 ?_;try simp only [Act.put,sA1,sA2,sA3]
         refine wN 27 ?_;refine wN 28 ?_;refine wN 29 ?_;try simp only [Act.put,sA1,sA2,sA3]
         refine wVa 30 ?_;try simp only [Act.put,sA1,sA2,sA3]
         refine wpAnyH_done (by kernel_rfl) ?_ _;have HZ:=zh (HZ6.out.trans (Chg.refl [] W6).drew);have hR:=HRS.out.trans (rightP_bad HD.out.1 (by rw [<- HN.out];exact hin) (by unfold kidOk;rw [decide_eq_false (show ¬ (2<=d.v i/\d.v i<B.T.n) from fun q=>by have:=HU.out;omega)];simp));subst hR;go_wp2_with fail;go_ret;exact ⟨rfl,HZ.out⟩
        ·have j1:¬ (u:Int)<2:=by omega
         have e2:IntKind.u64.wrap (N:Int)=(N:Int):=by rw [IntKind.wrap_u64];omega
         have e3:(N:Int) % 18446744073709551616=(N:Int):=by omega
         by_cases huN:u<N
         ·have j2:¬ (N:Int)<=(u:Int):=by omega
          have cr:=HIH.out h' rfl W6.drew (u:Int) (d.k i) hjv 3 HBS.out (WalkArith.wf_i64 (by omega)) (hd1.k i (by rw [<- HN.out];exact hin)) HJV.out.2 (by omega);rw [show ((3:Nat):Int)=3 from rfl] at cr;have CR:=zh cr;have HW1:Hid (IntKind.i64.wrap (u:Int)=(u:Int)):=zh (IntWalk.i64_in _ (by omega));have HW2:Hid (IntKind.i64.wrap (h':Int)=(h':Int)):=zh (IntWalk.i64_in _ (by omega));obtain ⟨rr,hrr⟩:∃ rr,rr=rightP B h' (u:Int) (d.k i) hjv 3:=⟨_,rfl⟩;rw [<- hrr] at CR;have HRR:=zh hrr;clear cr hrr;have e1:wrap64 (u:Int)=(u:Int):=IntWalk.wrap64_in _ (by omega);refine wp_region_held_drew (S:=RtS xb vb n i u bb (d.k i) hjv) (by kernel_rfl) (by exact hcl) (fun hHeld=>?_);clear hcl;refine wVa 0 ?_;refine wVa 1 ?_;refine wVa 2 ?_;try simp only [Act.put,sA1,sA2,sA3]
          refine wVa 3 ?_;refine wVa 4 ?_;refine wVa 5 ?_;try simp only [Act.put,sA1,sA2,sA3]
          refine wVa 6 ?_;refine wVa 7 ?_;refine wVa 8 ?_;try simp only [Act.put,sA1,sA2,sA3]
          refine wVa 9 ?_;refine wVa 10 ?_;refine wVa 11 ?_;try simp only [Act.put,sA1,sA2,sA3]
          refine wVa 12 ?_;try simp only [Act.put,sA1,sA2,sA3]
          refine wE 13 (fun K hK=>?_)
          (refine ite_yes (by rfl) ?_;go_simp;refine CB.out.mono ?_;rintro e w' ⟨rfl,rfl⟩)
          refine hK.out _ _ (HCL.out) (fun hHeld=>?_);clear hK K;try simp only [Act.put,sA1,sA2,sA3]
          refine wVa 14 ?_;refine wVa 15 ?_;refine wVa 16 ?_;try simp only [Act.put,sA1,sA2,sA3]
          refine wVa 17 ?_;refine wVa 18 ?_;refine wVa 19 ?_;try simp only [Act.put,sA1,sA2,sA3]
          refine wVa 20 ?_;refine wVa 21 ?_;refine wVa 22 ?_;try simp only [Act.put,sA1,sA2,sA3]
          refine wVa 23 ?_;refine wVa 24 ?_;refine wVa 25 ?_;try simp only [Act.put,sA1,sA2,sA3]
          refine wVa 26 ?_;refine wVa 27 ?_;try simp only [Act.put,sA1,sA2,sA3]
          refine wE 28 (fun K hK=>?_)
          (refine ite_yes (by rfl) ?_;go_simp;rw [HW1.out,HW2.out];refine CR.out.mono ?_;rintro e w8 ⟨rfl,hc8⟩;have H8:=zh hc8;clear hc8)
          refine hK.out _ _ (RtS.chg HCL.out ((Chg.refl [] W6).drew.trans H8.out)) (fun hHeld=>?_);clear hK K;try simp only [Act.put,sA1,sA2,sA3]
          refine wVa 29 ?_;refine wVa 30 ?_;try simp only [Act.put,sA1,sA2,sA3]
          refine wpAnyH_done (by kernel_rfl) ?_ _;clear e1 e2 e3;have HZ:=zh ((HZ6.out.trans (Chg.refl [] W6).drew).trans H8.out)
          cases hrb:rr with
          | true =>
           have hok:kidOk B (h'+1) d lo hi i=true:=by
            unfold kidOk;rw [decide_eq_true HBK.out];have h1:=HRR.out;rw [hrb,HJV.out.1,HU.out] at h1;have h2:decide (2<=d.v i/\d.v i<B.T.n)=true:=decide_eq_true (by have:=HU.out;have:=HNN.out;omega);simp only [h2,<- h1,Bool.and_self]
           have HX2:Hid ((∀ j,j<i+1->kidOk B (h'+1) d lo hi j=true)/\Chg [] w2 w8):=zh ⟨fun j hj=>by
            by_cases e:j=i
            ·rw [e];exact hok
            ·exact HX.out.1 j (by omega),(HX.out.2.trans HC6.out).trans ((Chg.refl [] W6).drew.trans H8.out)⟩
           clear hok;go_wp2_with fail
           go_roundw
           case rel=>exact ⟨_,_,_,_,.int .i64 ((i+1:Nat):Int),⟨i+1,rfl,by omega,HX2⟩,rfl,rfl,rfl,rfl,by go_num⟩
           case measure=>first | (simp [intOf];omega) | omega
          | false =>
           have hR:=HRS.out.trans (rightP_bad HD.out.1 (by rw [<- HN.out];exact hin) (by unfold kidOk;have h1:=HRR.out;rw [hrb,HJV.out.1,HU.out] at h1;simp only [<- h1,Bool.and_false]));subst hR;go_wp2_with fail;go_ret;exact ⟨rfl,HZ.out⟩
         ·have j2:(N:Int)<=(u:Int):=by omega
          refine wp_region_held_drew (S:=RtS xb vb n i u bb (d.k i) hjv) (by kernel_rfl) (by exact hcl) (fun hHeld=>?_);clear hcl;refine wVa 0 ?_;refine wVa 1 ?_;refine wVa 2 ?_;try simp only [Act.put,sA1,sA2,sA3]
          refine wVa 3 ?_;refine wVa 4 ?_;refine wVa 5 ?_;try simp only [Act.put,sA1,sA2,sA3]
          refine wVa 6 ?_;refine wVa 7 ?_;refine wVa 8 ?_;try simp only [Act.put,sA1,sA2,sA3]
          refine wVa 9 ?_;refine wVa 10 ?_;refine wVa 11 ?_;try simp only [Act.put,sA1,sA2,sA3]
          refine wVa 12 ?_;try simp only [Act.put,sA1,sA2,sA3]
          refine wE 13 (fun K hK=>?_)
          (refine ite_yes (by rfl) ?_;go_simp;refine CB.out.mono ?_;rintro e w' ⟨rfl,rfl⟩)
          refine hK.out _ _ (HCL.out) (fun hHeld=>?_);clear hK K;try simp only [Act.put,sA1,sA2,sA3]
          refine wVa 14 ?_;refine wVa 15 ?_;refine wVa 16 ?_;try simp only [Act.put,sA1,sA2,sA3]
          refine wVa 17 ?_;refine wN 18 ?_;refine wN 19 ?_;try simp only [Act.put,sA1,sA2,sA3]
          refine wN 20 ?_;refine wN 21 ?_;refine wN 22 ?_;try simp only [Act.put,sA1,sA2,sA3]
          refine wN 23 ?_;refine wN 24 ?_;refine wN 25 ?_;try simp only [Act.put,sA1,sA2,sA3]
          refine wN 26 ?_;refine wN 27 ?_;refine wN 28 ?_;try simp only [Act.put,sA1,sA2,sA3]
          refine wN 29 ?_;refine wVa 30 ?_;try simp only [Act.put,sA1,sA2,sA3]
          refine wpAnyH_done (by kernel_rfl) ?_ _;clear e2 e3;have HZ:=zh (HZ6.out.trans (Chg.refl [] W6).drew);have hR:=HRS.out.trans (rightP_bad HD.out.1 (by rw [<- HN.out];exact hin) (by unfold kidOk;rw [decide_eq_false (show ¬ (2<=d.v i/\d.v i<B.T.n) from fun q=>by have:=HU.out;have:=HNN.out;omega)];simp));subst hR;go_wp2_with fail;go_ret;exact ⟨rfl,HZ.out⟩
       ·have i5:¬ (i:Int)+1<(n:Int):=by omega
        go_upto_region 13 with fail;have hc6:Chg [] wr (wr.alloc (.cells #[.int .u64 (d.k i:Int),.int .u64 (hi:Int)] 179)):=(Chg.refl [] wr).alloc _;have kb6:=znb wr (.cells #[.int .u64 (d.k i:Int),.int .u64 (hi:Int)] 179);generalize wr.alloc (.cells #[.int .u64 (d.k i:Int),.int .u64 (hi:Int)] 179)=W6 at *;have hhi:hi=d.hi hi i:=by unfold Nd.hi;rw [if_neg (by have:=HN.out;omega)]
        rw [hhi] at kb6;clear hhi;obtain ⟨bb,hbb⟩:∃ bb,bb=wr.heap.size:=⟨_,rfl⟩;rw [<- hbb] at kb6 ⊢;obtain ⟨hjv,hhj⟩:∃ z,z=d.hi hi i:=⟨_,rfl⟩;rw [<- hhj] at kb6;have hnd6:=HNW.out.chg hc6 (by simp)
        have hcl:RtS xb vb n i u bb (d.k i) hjv W6:=by
         obtain ⟨-,-,p2⟩:=hnd6.c;rw [<- HN.out] at p2;have pv:=hnd6.v.cell (i:=i) (by rw [<- HN.out];exact hin);rw [<- HU.out] at pv;exact ⟨⟨p2,pv⟩,(zcb kb6 0).trans rfl,(zcb kb6 1).trans rfl⟩
        have HCL:=zh hcl;have HZ6:=zh ((HK0.out.2.trans HC2.out).trans (HX.out.2.trans hc6));have HJV:=zh (show hjv=d.hi hi i/\hjv<18446744073709551616 from ⟨hhj,by rw [hhj];unfold Nd.hi;split;(· have:=HK2.out (by have:=HN.out;omega);omega);(· exact HHI.out)⟩);clear hnd6 hbb hhj hk q0 q1 q2 s0 s1 hv lk lv lx;have HC6:=zh hc6;clear hc6 kb6;have hbs:=(HB.out.chg HZ6.out (by simp)).chg (Chg.refl [] W6).drew (by simp);have cB:=hbs.cBlocks;obtain ⟨N,hNN⟩:∃ N,N=B.T.n:=⟨_,rfl⟩;rw [<- hNN] at cB;have hN2:N<=4096:=by omega
        have CB:=zh cB;have HNN:=zh hNN;have HBS:=zh hbs;clear cB hNN hbs hN;by_cases hu2:u<2
        ·have j1:(u:Int)<2:=by omega
         refine wp_region_held_drew (S:=RtS xb vb n i u bb (d.k i) hjv) (by kernel_rfl) (by exact hcl) (fun hHeld=>?_);clear hcl;refine wVa 0 ?_;refine wVa 1 ?_;refine wVa 2 ?_;try simp only [Act.put,sA1,sA2,sA3]
         refine wVa 3 ?_;refine wVa 4 ?_;refine wVa 5 ?_;try simp only [Act.put,sA1,sA2,sA3]
         refine wVa 6 ?_;refine wN 7 ?_;refine wN 8 ?_;try simp only [Act.put,sA1,sA2,sA3]
         refine wN 9 ?_;refine wN 10 ?_;refine wN 11 ?_;try simp only [Act.put,sA1,sA2,sA3]
         refine wN 12 ?_;refine wN 13 ?_;refine wN 14 ?_;try simp only [Act.put,sA1,sA2,sA3]
         refine wN 15 ?_;refine wVa 16 ?_;refine wVa 17 ?_;try simp only [Act.put,sA1,sA2,sA3]
         refine wN 18 ?_;refine wN 19 ?_;refine wN 20 ?_;try simp only [Act.put,sA1,sA2,sA3]
         refine wN 21 ?_;refine wN 22 ?_;refine wN 23 ?_;try simp only [Act.put,sA1,sA2,sA3]
         refine wN 24 ?_;refine wN 25 ?_;refine wN 26 ?_;try simp only [Act.put,sA1,sA2,sA3]
         refine wN 27 ?_;refine wN 28 ?_;refine wN 29 ?_;try simp only [Act.put,sA1,sA2,sA3]
         refine wVa 30 ?_;try simp only [Act.put,sA1,sA2,sA3]
         refine wpAnyH_done (by kernel_rfl) ?_ _;have HZ:=zh (HZ6.out.trans (Chg.refl [] W6).drew);have hR:=HRS.out.trans (rightP_bad HD.out.1 (by rw [<- HN.out];exact hin) (by unfold kidOk;rw [decide_eq_false (show ¬ (2<=d.v i/\d.v i<B.T.n) from fun q=>by have:=HU.out;omega)];simp));subst hR;go_wp2_with fail;go_ret;exact ⟨rfl,HZ.out⟩
        ·have j1:¬ (u:Int)<2:=by omega
         have e2:IntKind.u64.wrap (N:Int)=(N:Int):=by rw [IntKind.wrap_u64];omega
         have e3:(N:Int) % 18446744073709551616=(N:Int):=by omega
         by_cases huN:u<N
         ·have j2:¬ (N:Int)<=(u:Int):=by omega
          have cr:=HIH.out h' rfl W6.drew (u:Int) (d.k i) hjv 3 HBS.out (WalkArith.wf_i64 (by omega)) (hd1.k i (by rw [<- HN.out];exact hin)) HJV.out.2 (by omega);rw [show ((3:Nat):Int)=3 from rfl] at cr;have CR:=zh cr;have HW1:Hid (IntKind.i64.wrap (u:Int)=(u:Int)):=zh (IntWalk.i64_in _ (by omega));have HW2:Hid (IntKind.i64.wrap (h':Int)=(h':Int)):=zh (IntWalk.i64_in _ (by omega));obtain ⟨rr,hrr⟩:∃ rr,rr=rightP B h' (u:Int) (d.k i) hjv 3:=⟨_,rfl⟩;rw [<- hrr] at CR;have HRR:=zh hrr;clear cr hrr;have e1:wrap64 (u:Int)=(u:Int):=IntWalk.wrap64_in _ (by omega);refine wp_region_held_drew (S:=RtS xb vb n i u bb (d.k i) hjv) (by kernel_rfl) (by exact hcl) (fun hHeld=>?_);clear hcl;refine wVa 0 ?_;refine wVa 1 ?_;refine wVa 2 ?_;try simp only [Act.put,sA1,sA2,sA3]
          refine wVa 3 ?_;refine wVa 4 ?_;refine wVa 5 ?_;try simp only [Act.put,sA1,sA2,sA3]
          refine wVa 6 ?_;refine wVa 7 ?_;refine wVa 8 ?_;try simp only [Act.put,sA1,sA2,sA3]
          refine wVa 9 ?_;refine wVa 10 ?_;refine wVa 11 ?_;try simp only [Act.put,sA1,sA2,sA3]
          refine wVa 12 ?_;try simp only [Act.put,sA1,sA2,sA3]
          refine wE 13 (fun K hK=>?_)
          (refine ite_yes (by rfl) ?_;go_simp;refine CB.out.mono ?_;rintro e w' ⟨rfl,rfl⟩)
          refine hK.out _ _ (HCL.out) (fun hHeld=>?_);clear hK K;try simp only [Act.put,sA1,sA2,sA3]
          refine wVa 14 ?_;refine wVa 15 ?_;refine wVa 16 ?_;try simp only [Act.put,sA1,sA2,sA3]
          refine wVa 17 ?_;refine wVa 18 ?_;refine wVa 19 ?_;try simp only [Act.put,sA1,sA2,sA3]
          refine wVa 20 ?_;refine wVa 21 ?_;refine wVa 22 ?_;try simp only [Act.put,sA1,sA2,sA3]
          refine wVa 23 ?_;refine wVa 24 ?_;refine wVa 25 ?_;try simp only [Act.put,sA1,sA2,sA3]
          refine wVa 26 ?_;refine wVa 27 ?_;try simp only [Act.put,sA1,sA2,sA3]
          refine wE 28 (fun K hK=>?_)
          (refine ite_yes (by rfl) ?_;go_simp;rw [HW1.out,HW2.out];refine CR.out.mono ?_;rintro e w8 ⟨rfl,hc8⟩;have H8:=zh hc8;clear hc8)
          refine hK.out _ _ (RtS.chg HCL.out ((Chg.refl [] W6).drew.trans H8.out)) (fun hHeld=>?_);clear hK K;try simp only [Act.put,sA1,sA2,sA3]
          refine wVa 29 ?_;refine wVa 30 ?_;try simp only [Act.put,sA1,sA2,sA3]
          refine wpAnyH_done (by kernel_rfl) ?_ _;clear e1 e2 e3;have HZ:=zh ((HZ6.out.trans (Chg.refl [] W6).drew).trans H8.out)
          cases hrb:rr with
          | true =>
           have hok:kidOk B (h'+1) d lo hi i=true:=by
            unfold kidOk;rw [decide_eq_true HBK.out];have h1:=HRR.out;rw [hrb,HJV.out.1,HU.out] at h1;have h2:decide (2<=d.v i/\d.v i<B.T.n)=true:=decide_eq_true (by have:=HU.out;have:=HNN.out;omega);simp only [h2,<- h1,Bool.and_self]
           have HX2:Hid ((∀ j,j<i+1->kidOk B (h'+1) d lo hi j=true)/\Chg [] w2 w8):=zh ⟨fun j hj=>by
            by_cases e:j=i
            ·rw [e];exact hok
            ·exact HX.out.1 j (by omega),(HX.out.2.trans HC6.out).trans ((Chg.refl [] W6).drew.trans H8.out)⟩
           clear hok;go_wp2_with fail
           go_roundw
           case rel=>exact ⟨_,_,_,_,.int .i64 ((i+1:Nat):Int),⟨i+1,rfl,by omega,HX2⟩,rfl,rfl,rfl,rfl,by go_num⟩
           case measure=>first | (simp [intOf];omega) | omega
          | false =>
           have hR:=HRS.out.trans (rightP_bad HD.out.1 (by rw [<- HN.out];exact hin) (by unfold kidOk;have h1:=HRR.out;rw [hrb,HJV.out.1,HU.out] at h1;simp only [<- h1,Bool.and_false]));subst hR;go_wp2_with fail;go_ret;exact ⟨rfl,HZ.out⟩
         ·have j2:(N:Int)<=(u:Int):=by omega
          refine wp_region_held_drew (S:=RtS xb vb n i u bb (d.k i) hjv) (by kernel_rfl) (by exact hcl) (fun hHeld=>?_);clear hcl;refine wVa 0 ?_;refine wVa 1 ?_;refine wVa 2 ?_;try simp only [Act.put,sA1,sA2,sA3]
          refine wVa 3 ?_;refine wVa 4 ?_;refine wVa 5 ?_;try simp only [Act.put,sA1,sA2,sA3]
          refine wVa 6 ?_;refine wVa 7 ?_;refine wVa 8 ?_;try simp only [Act.put,sA1,sA2,sA3]
          refine wVa 9 ?_;refine wVa 10 ?_;refine wVa 11 ?_;try simp only [Act.put,sA1,sA2,sA3]
          refine wVa 12 ?_;try simp only [Act.put,sA1,sA2,sA3]
          refine wE 13 (fun K hK=>?_)
          (refine ite_yes (by rfl) ?_;go_simp;refine CB.out.mono ?_;rintro e w' ⟨rfl,rfl⟩)
          refine hK.out _ _ (HCL.out) (fun hHeld=>?_);clear hK K;try simp only [Act.put,sA1,sA2,sA3]
          refine wVa 14 ?_;refine wVa 15 ?_;refine wVa 16 ?_;try simp only [Act.put,sA1,sA2,sA3]
          refine wVa 17 ?_;refine wN 18 ?_;refine wN 19 ?_;try simp only [Act.put,sA1,sA2,sA3]
          refine wN 20 ?_;refine wN 21 ?_;refine wN 22 ?_;try simp only [Act.put,sA1,sA2,sA3]
          refine wN 23 ?_;refine wN 24 ?_;refine wN 25 ?_;try simp only [Act.put,sA1,sA2,sA3]
          refine wN 26 ?_;refine wN 27 ?_;refine wN 28 ?_;try simp only [Act.put,sA1,sA2,sA3]
          refine wN 29 ?_;refine wVa 30 ?_;try simp only [Act.put,sA1,sA2,sA3]
          refine wpAnyH_done (by kernel_rfl) ?_ _;clear e2 e3;have HZ:=zh (HZ6.out.trans (Chg.refl [] W6).drew);have hR:=HRS.out.trans (rightP_bad HD.out.1 (by rw [<- HN.out];exact hin) (by unfold kidOk;rw [decide_eq_false (show ¬ (2<=d.v i/\d.v i<B.T.n) from fun q=>by have:=HU.out;have:=HNN.out;omega)];simp));subst hR;go_wp2_with fail;go_ret;exact ⟨rfl,HZ.out⟩
      ·have i4:(hi:Int)<(d.k i:Int):=by omega
       have hR:=HRS.out.trans (rightP_bad HD.out.1 (by rw [<- HN.out];exact hin) (by unfold kidOk;rw [decide_eq_false (fun q=>hhk q.2)];rfl));subst hR;have HZ:=zh ((HK0.out.2.trans HC2.out).trans HX.out.2);clear hnd hsp;go_wp2_with fail;go_ret;exact ⟨rfl,HZ.out⟩
     ·have i3:(d.k i:Int)<(lo:Int):=by omega
      have hR:=HRS.out.trans (rightP_bad HD.out.1 (by rw [<- HN.out];exact hin) (by unfold kidOk;rw [decide_eq_false (fun q=>hlk q.1)];rfl));subst hR;have HZ:=zh ((HK0.out.2.trans HC2.out).trans HX.out.2);clear hnd hsp;go_wp2_with fail;go_ret;exact ⟨rfl,HZ.out⟩
    ·obtain rfl:i=n:=by omega
     have hR:=HRS.out.trans (rightP_all HD.out.1 (by rw [<- HN.out];exact hfew) (by rw [hl];simp) (fun j hj=>HX.out.1 j (by rw [HN.out];exact hj)));subst hR;have HZ:=zh ((HK0.out.2.trans HC2.out).trans HX.out.2);clear hnd hsp;go_wp2_with fail;go_ret;exact ⟨rfl,HZ.out⟩
  ·have hR:=HRS.out.trans (rightP_kind HD.out.1 hb1)
   subst hR;go_wp2_with fail;go_ret;exact ⟨rfl,HK0.out.2.trans HC2.out⟩
 ·have hE:B.nodeE x=130∨B.nodeE x=2:=by unfold Bs.nodeE;split <;> simp
  have hR:=HRS.out.trans (rightP_none hd);subst hR;have HC:=zh (HK0.out.2.trans hc1);generalize B.nodeE x=E at *;clear hc1 hd;rcases hE with rfl | rfl
  all_goals go_wp2_with fail
  all_goals go_ret
  all_goals exact ⟨rfl,HC.out.trans ((Chg.refl [] _).alloc _)⟩
end Go.Proofs.YtkhcaclndepgbaaGreat
