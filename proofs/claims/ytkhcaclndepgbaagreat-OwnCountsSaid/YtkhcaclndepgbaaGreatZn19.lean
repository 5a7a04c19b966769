/- Package base: Read, Put, Over, Up, Down, Back. · Package base: what a base's users call. · Package leaf: numbers in memory; the body of a node; each, as Encode calls it. · slices.Sort at []uint64, of at most 12 numbers. · leaf.each, as Decode calls it: the closure. · leaf.each, as Decode calls it. -/
import Derived.Test.YtkhcaclndepgbaaGreatZn18
set_option linter.unusedVariables false
set_option linter.unusedSimpArgs false
set_option maxRecDepth 100000
set_option maxHeartbeats 20000000
namespace Go.Proofs.YtkhcaclndepgbaaGreat
open Go.RowKit
theorem bRead_at {w:World} {M:Bm} {R:Br} {B:Bs} (h:BaseIn w M R B) {a:Nat} (ha:a<B.T.n) :
  Calls Tryz.prog 26 #[.pointer (some ⟨M.b,0,none⟩),.int .i64 (a:Int)] w fun e w'=>∃ g c,e = .returned (.tuple #[.slice (some ⟨g,0,none⟩) 128 c,.int .i64 0])/\128<=c/\c<=maxLen/\w.heap.size<=g/\(∃ cur,w'.heap[g]?=some (.cells cur 5 (0,0)))/\BytesAt w' g 0 128 (B.read a)/\Chg [] w w':=by
 have n1:=h.c.ok.n;have cn:=bNone_at h.c;have cb:=bBlocks_at h.c;have cf:=bFresh_at h.c (a:Int) (WalkArith.wf_i64 (by omega))
 have efb:B.freshB (a:Int)=(B.fr a).isSome:=by
  unfold Bs.freshB;rw [decide_eq_true (show (0:Int)<=(a:Int) by omega),decide_eq_true (show (a:Int)<(B.T.n:Int) by omega)];rfl
 rw [efb] at cf;have i0:¬ (a:Int)<0:=by omega
 have i1:¬ (B.T.n:Int)<=(a:Int):=by omega
 cases hf:B.fr a with
 | some f =>
  rw [hf] at cf;obtain ⟨f1,f2,f3,_⟩:=h.c.fd a f ha hf;have lk:=(h.c.fm.look (t:=43) Tryz.underlying3 Tryz.underlying43 (zeroSl8 w) goodF_zero ha n1.2).2;rw [show (frV R B a).getD (.slice none 0 0) = .slice (some ⟨R.fg a,0,none⟩) 128 (R.fc a) from by unfold frV;rw [hf];rfl] at lk;have c5:=h.c.c5;have cc:=clone8_at (n:=128) (c:=R.fc a) f3 (by omega) (by omega);have er:B.read a=f:=by unfold Bs.read;rw [hf];rfl
  rw [er];have CC:=zh cc;clear h efb er f1 f2 f3 cc hf;go_enter Tryz.func26,Tryz.ntmps26;go_wp2_with fail;refine (cn).mono ?_;rintro e w' ⟨rfl,rfl⟩;go_wp2_with fail;refine (cb).mono ?_;rintro e w' ⟨rfl,rfl⟩;go_wp2_with fail;refine (cf).mono ?_;rintro e w' ⟨rfl,rfl⟩;go_wp2_with fail;refine CC.out.mono ?_;rintro e w' ⟨g,c,rfl,q1,q2,q3,q4,q5,q6⟩;have HQ:=zh (zA q1 (zA q2 (zA q3 (zA q4 (zA q5 q6)))));clear q1 q2 q3 q4 q5 q6 CC;go_wp2_with fail
  go_ret2
  exact ⟨g,c,rfl,HQ.out⟩
 | none =>
  rw [hf] at cf;have c0:=h.c.c0;have cr:=dRead_at (at':=a) h.d.rd ha;have er:B.read a=B.D a:=by unfold Bs.read;rw [hf];rfl
  rw [er];have HD:=zh h.c.ok.dle;have CR:=zh cr;clear h efb er cr hf;go_enter Tryz.func26,Tryz.ntmps26;go_wp2_with fail;refine (cn).mono ?_;rintro e w' ⟨rfl,rfl⟩;go_wp2_with fail;refine (cb).mono ?_;rintro e w' ⟨rfl,rfl⟩;go_wp2_with fail;refine (cf).mono ?_;rintro e w' ⟨rfl,rfl⟩;go_wp2_with fail;refine CR.out.mono ?_;rintro e w' ⟨rfl,hb,hc⟩;have HQ:=zh (zA hb hc);clear hb hc CR;go_wp2_with fail
  go_ret2
  refine ⟨w.heap.size,128,rfl,zLr _,by unfold maxLen;omega,zLr _,⟨_,HQ.out.1⟩,fun i hi=>⟨?_,HD.out a ha i hi⟩,HQ.out.2⟩;rw [Nat.zero_add,zcb HQ.out.1,u8s_get hi];rfl
def Bs.at_ (B:Bs):Nat:=(takeR B.T B.K).getD 0
def Bs.put (B:Bs) (f:Nat->Nat):Bs := { B with T:=B.T.set B.at_ 1,K:=takeK B.T B.K,fr:=fun x=>if x=B.at_ then some f else B.fr x }
theorem Bs.Ok.put_spec {B:Bs} (h:B.Ok) (hr:0<B.room):takeR B.T B.K=some B.at_/\2<=B.at_/\B.at_<B.T.n/\B.T.free B.at_=true:=by
 have hf:B.K.first<=B.K.next:=by rw [h.first];exact h.nx.1
 cases ht:takeR B.T B.K with
 | none =>
  have:=room_none hf h.nx.2 ht;rw [h.first] at this;unfold Bs.room at hr;omega
 | some b =>
  have e:B.at_=b:=by unfold Bs.at_;rw [ht];rfl
  have:=takeR_spec hf h.nx.2 ht;rw [h.first] at this;rw [e];exact ⟨rfl,this⟩
theorem Bs.Ok.put_ok {B:Bs} (h:B.Ok) (hr:0<B.room) {f:Nat->Nat} (hf:∀ i,i<128->f i<=255):(B.put f).Ok:=by
 obtain ⟨ht,b1,b2,b3⟩:=h.put_spec hr;have hff:B.K.first<=B.K.next:=by rw [h.first];exact h.nx.1
 have hk:=takeK_bd (T:=B.T) (K:=B.K) hff h.nx.2;have hfree:=b3;simp only [Tal.free,Bool.and_eq_true,beq_iff_eq] at hfree;have own:=h.own.take (b:=B.at_) b3;refine { n:=h.n,own:=own,a2:=h.a2,low:=?_,le:=?_,first:=hk.2.2.2.trans h.first,nx:=⟨?_,hk.2.1⟩,fr:=?_,fle:=?_,s:=h.s,kp:=h.kp,sg:=h.sg,disk:=h.disk,dle:=h.dle }
 ·intro b hb
  refine ⟨?_,(h.low b hb).2⟩
  show (if b=B.at_ then 1 else B.T.now b)=0
  rw [if_neg (by omega)];exact (h.low b hb).1
 ·intro b hb
  refine ⟨?_,(h.le b hb).2⟩
  show (if b=B.at_ then 1 else B.T.now b)<=65535
  split
  ·omega
  ·exact (h.le b hb).1
 ·have:=hk.1
  rw [hk.2.2.2,h.first] at this;exact this
 ·intro b hb
  show ((if b=B.at_ then some f else B.fr b).isSome=true↔B.T.kept b=0/\(if b=B.at_ then 1 else B.T.now b)≠0)
  by_cases e:b=B.at_
  ·rw [if_pos e,if_pos e,e]
   simp [hfree.2]
  ·rw [if_neg e,if_neg e];exact h.fr b hb
 ·intro b g hb hg
  have hg':(if b=B.at_ then some f else B.fr b)=some g:=hg;by_cases e:b=B.at_
  ·rw [if_pos e] at hg';injection hg' with hg';rw [<- hg'];exact hf
  ·rw [if_neg e] at hg';exact h.fle b g hb hg'
theorem BaseIn.anew {w w2:World} {M:Bm} {R:Br} {B B':Bs} {F:List Nat} {x g cg:Nat} {f:Nat->Nat} (h:BaseIn w M R B) (hFF:∀ q,Bown M R B q->q∉F) (c:Chg M.L w w2)
  (hn:B'.T.n=B.T.n) (ha:B'.a=B.a) (hS:B'.S=B.S) (hK:B'.Kp=B.Kp) (hD:B'.D=B.D) (hfr:B'.fr=fun y=>if y=x then some f else B.fr y) (pt:PT w2 M.p M.t M.bc M.bk B'.K B'.T)
  (top:w2.heap[M.b]?=some (.cells (fnRow 44 (baseV M R B)) 51 (0,0))) (fm:KMapV Tryz.prog 3 goodF w2 M.mf B.T.n (fun i=>if i=x then some (.slice (some ⟨g,0,none⟩) 128 cg) else frV R B i))
  (hg:w.heap.size<=g) (hd:128<=cg/\cg<=maxLen/\BytesAt w2 g 0 128 f/\∃ cur z,w2.heap[g]?=some (.cells cur 5 z)) (d:DiskAt w2 M.d M.bb (.slice none 0 0) ⟨B.T.n,B.D,[]⟩) (ok:B'.Ok) (hF:∀ q,q∈F->q<w.heap.size):BaseAt w2 M F B':=by
 have hfe:∀ y,y≠x->B'.fr y=B.fr y:=fun y hy=>by rw [hfr];exact if_neg hy
 have hfx:B'.fr x=some f:=by rw [hfr];exact if_pos rfl
 let R':Br := { R with fg:=fun y=>if y=x then g else R.fg y,fc:=fun y=>if y=x then cg else R.fc y }
 have hin:BaseIn w2 M R' B':=by
  refine h.remake c hn ha rfl rfl ?_ pt ?_ ?_ ?_ ok
  ·rw [baseV_same hn hS hK rfl rfl];exact top
  ·rw [hn]
   refine fm.congr (fun i hi=>?_);unfold frV;by_cases e:i=x
   ·subst e
    rw [if_pos rfl,hfx]
    show _=some (Value.slice (some ⟨if i=i then g else _,0,none⟩) 128 (if i=i then cg else _))
    rw [if_pos rfl,if_pos rfl]
   ·rw [if_neg e,hfe i e]
    cases B.fr i with
    | none=>rfl
    | some f' =>
     show _=some (Value.slice (some ⟨if i=x then g else R.fg i,0,none⟩) 128 (if i=x then cg else R.fc i))
     rw [if_neg e,if_neg e];rfl
  ·intro k f' hk hf'
   rw [hn] at hk;by_cases e:k=x
   ·subst e
    rw [hfx] at hf';injection hf' with hf';subst hf'
    show 128<=(if k=k then cg else _)/\(if k=k then cg else _)<=maxLen/\BytesAt w2 (if k=k then g else _) 0 128 _/\∃ cur z,w2.heap[if k=k then g else _]?=_
    rw [if_pos rfl,if_pos rfl];exact hd
   ·rw [hfe k e] at hf'
    have:=h.fd_keep c hk hf'
    show 128<=(if k=x then cg else R.fc k)/\(if k=x then cg else R.fc k)<=maxLen/\BytesAt w2 (if k=x then g else R.fg k) 0 128 _/\∃ cur z,w2.heap[if k=x then g else R.fg k]?=_
    rw [if_neg e,if_neg e];exact this
  ·rw [hn,hD];exact d
 refine BaseAt.of h hFF hin hn rfl hF (fun k hk hs=>?_);by_cases e:k=x
 ·exact .inr (by show _<=(if k=x then g else R.fg k);rw [if_pos e];exact hg)
 ·exact .inl ⟨by rw [<- hfe k e];exact hs,if_neg e⟩
theorem bPut_at {w:World} {M:Bm} {F:List Nat} {B:Bs} (h:BaseAt w M F B) (hF:∀ q,q∈F->q<w.heap.size) {k o c:Nat} {f:Nat->Nat} (hd:BytesAt w k o 128 f) (hk:k∉M.L) (hr:0<B.room) :
  Calls Tryz.prog 17 #[.pointer (some ⟨M.b,0,none⟩),.slice (some ⟨k,o,none⟩) 128 c] w fun e w'=>e = .returned (.tuple #[.int .i64 (B.at_:Int),.int .i64 0])/\BaseAt w' M F (B.put f)/\Chg M.L w w':=by
 obtain ⟨R,hB,hFF⟩:=h;have n1:=hB.c.ok.n;have cm:=bMay_at hB.c;have cr:=bRoom_at hB.c;have c2:=hB.c.c2;obtain ⟨ht,b1,b2,b3⟩:=hB.c.ok.put_spec hr;have b2lt:=b2;have cp:=hB.c.pt.take;have e1:takeB B.T B.K=(B.at_:Int):=by unfold takeB;rw [ht]
 have e2:takeE B.T B.K=0:=by unfold takeE;rw [ht]
 have e3:takeT B.T B.K=B.T.set B.at_ 1:=by unfold takeT;rw [ht]
 rw [e1,e2,e3] at cp;have hok:=hB.c.ok.put_ok hr (fun i hi=>(hd i hi).2);have i0:¬ (B.room=0):=by omega
 have HB:=zh (zA hB hFF);have HH:=zh (zA hd (zA hok (zA b2 hF)));have CP:=zh cp;obtain ⟨x,hx⟩:∃ x,x=B.at_:=⟨_,rfl⟩;rw [<- hx] at CP ⊢;have HX:=zh hx;have xlt:x<B.T.n:=by rw [hx];exact b2lt
 clear hB hFF hd hok hF e1 e2 e3 ht b1 b2 b3 b2lt cp hx;go_enter Tryz.func17,Tryz.ntmps17;go_wp2_with fail;refine (cm).mono ?_;rintro e w' ⟨rfl,rfl⟩;go_wp2_with fail;refine (cr).mono ?_;rintro e w' ⟨rfl,rfl⟩;go_wp2_with fail;refine CP.out.mono ?_;clear CP;rintro e w1 ⟨rfl,hpt,hc⟩;have nd:=HB.out.1.nodup;simp only [Bm.L,List.nodup_cons,List.mem_cons,List.not_mem_nil,or_false,not_or,List.nodup_nil,and_true] at nd;have HN:=zh nd;have hcL:=hc.mono (L':=M.L) (by simp [Bm.L]);have hb1:=(hc.block M.b (zhl HB.out.1.c.top) (by have:=HN.out;simp only [List.mem_cons,List.not_mem_nil,or_false,not_or];exact ⟨this.1.2.2.1,this.1.2.2.2.1,this.1.2.2.2.2.1,this.1.2.2.2.2.2.1⟩)).trans HB.out.1.c.top;have c5:w1.cell? ⟨M.b,5,none⟩=some (.map (some M.mf)):=(cell_fn hb1 (by omega)).trans rfl;have hm1:=HB.out.1.c.fm.chg hc (by have:=HN.out;simp only [List.mem_cons,List.not_mem_nil,or_false,not_or];exact ⟨fun e=>this.2.2.2.1.2.2.2 e.symm,fun e=>this.2.2.2.2.1.2.2 e.symm,fun e=>this.2.2.2.2.2.1.2 e.symm,HB.out.1.c.ne⟩);have hd1:=HH.out.1.chg hcL hk;have cc:=clone8_at (c:=c) (hd1.chg (Chg.refl [] w1).drew (by simp)) (by omega) (by omega);have CC:=zh cc;have l1:=zhl hb1;have HKD:=zh hc;have HP:=zh (zA hpt (zA hcL (zA hb1 hm1)));clear cc nd hpt hc hcL hb1 hm1 hd1;go_wp2_with fail;go_upto_region 9 with fail;refine wp_region_held_drew (S:=fun W'=>W'.cell? ⟨M.b,5,none⟩=some (.map (some M.mf))) (by kernel_rfl) (by exact c5) (fun hHeld=>?_);refine wVd 0 ?_;refine wVd 1 ?_;refine wVd 2 ?_;refine wVd 3 ?_
 refine wVd 4 ?_;refine wVd 5 ?_;try simp only [Act.put,sA1,sA2,sA3]
 refine wE 6 (fun K hK=>?_)
 (go_simp;refine CC.out.mono ?_;rintro e wR ⟨g,cg,rfl,q1,q2,q3,q4,q5,q6⟩;have HQ:=zh (zA q1 (zA q2 (zA q3 (zA q4 (zA q5 ((Chg.refl [] w1).drew.trans q6))))));clear q1 q2 q3 q4 q5 q6)
 refine hK.out _ _ ((HQ.out.2.2.2.2.2.cell (p:=⟨M.b,5,none⟩) l1 (by simp)).trans c5) (fun hHeld=>?_);clear hK K;try simp only [Act.put,sA1,sA2,sA3]
 have hcR:=HQ.out.2.2.2.2.2;have hmR:=HP.out.2.2.2.chg hcR (by simp);obtain ⟨w2,hrun,hm2,ht2⟩:=hmR.put (t:=43) (k:=x) (v := .slice (some ⟨g,0,none⟩) 128 cg) Tryz.underlying3 Tryz.underlying43 xlt n1.2 rfl;have hc2:=mapTurned_chg ht2;have HZ:=zh (zA hm2 hc2);clear hcR hmR hm2 ht2 hc2;refine wE 7 (fun K hK=>?_)
 (go_simp)
 refine hK.out _ _ ((HZ.out.2.cell (p:=⟨M.b,5,none⟩) (zLl l1 HQ.out.2.2.2.2.2.size) (by have:=HN.out;simp only [zms];exact this.1.2.2.2.2.2.2)).trans ((HQ.out.2.2.2.2.2.cell (p:=⟨M.b,5,none⟩) l1 (by simp)).trans c5)) (fun hHeld=>?_);clear hK K;try simp only [Act.put,sA1,sA2,sA3]
 refine wpAnyH_done (by kernel_rfl) ?_ _;go_wp2_with fail
 go_ret2
 refine ⟨rfl,?_⟩;have hcL:=HP.out.2.1;have c02:Chg M.L w w2:=(hcL.trans (HQ.out.2.2.2.2.2.mono (by simp))).trans (HZ.out.2.mono (by simp [Bm.L]));refine ⟨?_,c02⟩;have c12:Chg [M.mf] w1 w2:=(HQ.out.2.2.2.2.2.mono (by simp)).trans HZ.out.2;have hne:∀ q,q≠M.mf->q∉[M.mf]:=fun q hq=>by simpa using hq
 have nd:=HN.out;obtain ⟨cur,q5⟩:=HQ.out.2.2.2.1
 have gmf:g∉[M.mf]:=by
  refine hne _ (fun e=>?_);have h1:=HP.out.2.2.2.lt;have h2:=HQ.out.2.2.1;have h3:w1.drew.heap.size=w1.heap.size:=rfl;omega
 refine HB.out.1.anew HB.out.2 (x:=x) (g:=g) (cg:=cg) (f:=f) c02 rfl rfl rfl rfl rfl (by rw [HX.out];rfl) ?_ ((c12.block M.b l1 (hne _ nd.1.2.2.2.2.2.2)).trans HP.out.2.2.1) HZ.out.1 (zLt hcL.size HQ.out.2.2.1) ⟨HQ.out.1,HQ.out.2.1,HQ.out.2.2.2.2.1.chg HZ.out.2 gmf,_,_,(HZ.out.2.block g (zhl q5) gmf).trans q5⟩ ((HB.out.1.d.chg HKD.out (by simp [nd]) (by simp [nd]) (fun k hk=>by cases hk)).chg c12 (by simp [nd]) (by simp [nd]) (fun k hk=>by cases hk)) HH.out.2.1 HH.out.2.2.2;have:=HP.out.1.chg c12 (hne _ nd.2.2.2.1.2.2.2) (hne _ nd.2.2.2.2.1.2.2) (hne _ nd.2.2.2.2.2.1.2) (hne _ nd.2.2.2.2.2.2.1);rw [HX.out] at this;exact this
def Bs.over (B:Bs) (x:Nat) (f:Nat->Nat):Bs := { B with fr:=fun y=>if y=x then some f else B.fr y }
theorem Bs.Ok.over_ok {B:Bs} (h:B.Ok) {x:Nat} (hx:(B.fr x).isSome=true) {f:Nat->Nat} (hf:∀ i,i<128->f i<=255):(B.over x f).Ok:=by
 refine { h with fr:=?_,fle:=?_ }
 ·intro b hb
  show ((if b=x then some f else B.fr b).isSome=true↔_)
  by_cases e:b=x
  ·subst e;rw [if_pos rfl];exact ⟨fun _=>(h.fr b hb).1 hx,fun _=>rfl⟩
  ·rw [if_neg e];exact h.fr b hb
 ·intro b g hb hg
  have hg':(if b=x then some f else B.fr b)=some g:=hg;by_cases e:b=x
  ·rw [if_pos e] at hg';injection hg' with hg';rw [<- hg'];exact hf
  ·rw [if_neg e] at hg';exact h.fle b g hb hg'
theorem bOver_at {w:World} {M:Bm} {F:List Nat} {B:Bs} (h:BaseAt w M F B) (hF:∀ q,q∈F->q<w.heap.size) {k o c x:Nat} {f:Nat->Nat} (hd:BytesAt w k o 128 f) (xlt:x<B.T.n) (hx:(B.fr x).isSome=true) :
  Calls Tryz.prog 27 #[.pointer (some ⟨M.b,0,none⟩),.int .i64 (x:Int),.slice (some ⟨k,o,none⟩) 128 c] w fun e w'=>e = .returned (.int .i64 0)/\BaseAt w' M F (B.over x f)/\Chg M.L w w':=by
 obtain ⟨R,hB,hFF⟩:=h;have n1:=hB.c.ok.n;have cm:=bMay_at hB.c;have cb:=bBlocks_at hB.c;have cf:=bFresh_at hB.c (x:Int) (WalkArith.wf_i64 (by omega))
 have efb:B.freshB (x:Int)=true:=by
  unfold Bs.freshB;rw [decide_eq_true (show (0:Int)<=(x:Int) by omega),decide_eq_true (show (x:Int)<(B.T.n:Int) by omega)];exact hx
 rw [efb] at cf;have hok:=hB.c.ok.over_ok hx (fun i hi=>(hd i hi).2);have i0:¬ (x:Int)<0:=by omega
 have i1:¬ (B.T.n:Int)<=(x:Int):=by omega
 have c5:=hB.c.c5;have l1:=zhl hB.c.top;have nd:=hB.nodup;simp only [Bm.L,List.nodup_cons,List.mem_cons,List.not_mem_nil,or_false,not_or,List.nodup_nil,and_true] at nd;have cc:=clone8_at (c:=c) (hd.chg (Chg.refl [] w).drew (by simp)) (by omega) (by omega);have CC:=zh cc;have HB:=zh (zA hB hFF);have HH:=zh (zA hok (zA hF nd));clear hB hFF hok hF efb cc nd hd hx;go_enter Tryz.func27,Tryz.ntmps27;go_wp2_with fail;refine (cm).mono ?_;rintro e w' ⟨rfl,rfl⟩;go_wp2_with fail;refine (cb).mono ?_;rintro e w' ⟨rfl,rfl⟩;go_wp2_with fail;refine (cf).mono ?_;rintro e w' ⟨rfl,rfl⟩;go_wp2_with fail;go_upto_region 8 with fail;refine wp_region_held_drew (S:=fun W'=>W'.cell? ⟨M.b,5,none⟩=some (.map (some M.mf))) (by kernel_rfl) (by exact c5) (fun hHeld=>?_);refine wVd 0 ?_;refine wVd 1 ?_;refine wVd 2 ?_;refine wVd 3 ?_;refine wVd 4 ?_;refine wVd 5 ?_;try simp only [Act.put,sA1,sA2,sA3]
 refine wE 6 (fun K hK=>?_)
 (go_simp;refine CC.out.mono ?_;rintro e wR ⟨g,cg,rfl,q1,q2,q3,q4,q5,q6⟩;have HQ:=zh (zA q1 (zA q2 (zA q3 (zA q4 (zA q5 ((Chg.refl [] w).drew.trans q6))))));clear q1 q2 q3 q4 q5 q6)
 refine hK.out _ _ ((HQ.out.2.2.2.2.2.cell (p:=⟨M.b,5,none⟩) l1 (by simp)).trans c5) (fun hHeld=>?_);clear hK K;try simp only [Act.put,sA1,sA2,sA3]
 have hmR:=HB.out.1.c.fm.chg HQ.out.2.2.2.2.2 (by simp);obtain ⟨w2,hrun,hm2,ht2⟩:=hmR.put (t:=43) (k:=x) (v := .slice (some ⟨g,0,none⟩) 128 cg) Tryz.underlying3 Tryz.underlying43 xlt n1.2 rfl;have hc2:=mapTurned_chg ht2;have HZ:=zh (zA hm2 hc2);clear hmR hm2 ht2 hc2;refine wE 7 (fun K hK=>?_)
 (go_simp)
 refine hK.out _ _ ((HZ.out.2.cell (p:=⟨M.b,5,none⟩) (zLl l1 HQ.out.2.2.2.2.2.size) (by simp only [zms];exact HH.out.2.2.1.2.2.2.2.2.2)).trans ((HQ.out.2.2.2.2.2.cell (p:=⟨M.b,5,none⟩) l1 (by simp)).trans c5)) (fun hHeld=>?_);clear hK K;try simp only [Act.put,sA1,sA2,sA3]
 refine wpAnyH_done (by kernel_rfl) ?_ _;go_wp2_with fail;go_ret;refine ⟨rfl,?_⟩;have c12:Chg [M.mf] w w2:=(HQ.out.2.2.2.2.2.mono (by simp)).trans HZ.out.2;have c02:Chg M.L w w2:=c12.mono (by simp [Bm.L]);refine ⟨?_,c02⟩;have nd:=HH.out.2.2;have hne:∀ q,q≠M.mf->q∉[M.mf]:=fun q hq=>by simpa using hq
 obtain ⟨cur,q5⟩:=HQ.out.2.2.2.1
 have gmf:g∉[M.mf]:=by
  refine hne _ (fun e=>?_);have h1:=HB.out.1.c.fm.lt;have h2:=HQ.out.2.2.1;have h3:w.drew.heap.size=w.heap.size:=rfl;omega
 exact HB.out.1.anew HB.out.2 (x:=x) (g:=g) (cg:=cg) (f:=f) c02 rfl rfl rfl rfl rfl rfl
  (HB.out.1.c.pt.chg c12 (hne _ nd.2.2.2.1.2.2.2) (hne _ nd.2.2.2.2.1.2.2) (hne _ nd.2.2.2.2.2.1.2) (hne _ nd.2.2.2.2.2.2.1))
  ((c12.block M.b l1 (hne _ nd.1.2.2.2.2.2.2)).trans HB.out.1.c.top) HZ.out.1 HQ.out.2.2.1 ⟨HQ.out.1,HQ.out.2.1,HQ.out.2.2.2.2.1.chg HZ.out.2 gmf,_,_,(HZ.out.2.block g (zhl q5) gmf).trans q5⟩
  (HB.out.1.d.chg c12 (hne _ nd.2.1.2.2.2.2.2) (hne _ nd.2.2.1.2.2.2.2) (fun k hk=>by cases hk)) HH.out.1 HH.out.2.1
section
variable {w w':World} {M:Bm} {B:Bs} {L F:List Nat}
theorem BaseAt.cRoom (h:BaseAt w M F B):Calls Tryz.prog 16 #[.pointer (some ⟨M.b,0,none⟩)] w fun e w'=>e = .returned (.int .i64 B.room)/\w=w':=by obtain ⟨R,hi,_⟩:=h;exact bRoom_at hi.c
theorem BaseAt.cBlocks (h:BaseAt w M F B):Calls Tryz.prog 20 #[.pointer (some ⟨M.b,0,none⟩)] w fun e w'=>e = .returned (.int .i64 (B.T.n:Int))/\w=w':=by obtain ⟨R,hi,_⟩:=h;exact bBlocks_at hi.c
theorem BaseAt.cCount (h:BaseAt w M F B) (a:Int):Calls Tryz.prog 22 #[.pointer (some ⟨M.b,0,none⟩),.int .i64 a] w fun e w'=>e = .returned (.int .i64 (getV B.T a))/\w=w':=by obtain ⟨R,hi,_⟩:=h;exact bCount_at hi.c a
theorem BaseAt.cFresh (h:BaseAt w M F B) (a:Int) (ha:(Lit.int .i64 a).wf=true):Calls Tryz.prog 32 #[.pointer (some ⟨M.b,0,none⟩),.int .i64 a] w fun e w'=>e = .returned (.bool (B.freshB a))/\w=w':=by obtain ⟨R,hi,_⟩:=h;exact bFresh_at hi.c a ha
end
def NumsAt (w:World) (b off n:Nat) (f:Nat->Nat):Prop:=∀ i,i<n->w.cell? ⟨b,off+i,none⟩=some (.int .u64 (f i:Int))/\f i<18446744073709551616
theorem NumsAt.chg {w w':World} {b off n:Nat} {f:Nat->Nat} {L:List Nat} (h:NumsAt w b off n f) (c:Chg L w w') (hb:b∉L):NumsAt w' b off n f:=fun i hi=>by
 obtain ⟨h1,h2⟩:=h i hi;exact ⟨(c.cell (p:=⟨b,off+i,none⟩) (World.block_lt_of_cell? w _ h1) hb).trans h1,h2⟩
def NumsIn (A:List Nat) (w:World) (v:Value) (n:Nat) (f:Nat->Nat):Prop :=
 ((∃ a c,v = .slice a 0 c/\c<=maxLen/\(a=none->c=0))/\n=0)∨∃ b off cap,v = .slice (some ⟨b,off,none⟩) n cap/\n<=cap/\cap<=maxLen/\b<w.heap.size/\b∉A/\NumsAt w b off n f
theorem NumsIn.chg {A L:List Nat} {w w':World} {v:Value} {n:Nat} {f:Nat->Nat} (h:NumsIn A w v n f) (c:Chg L w w') (hL:∀ k,k∈L->k∈A∨w.heap.size<=k):NumsIn A w' v n f:=by
 rcases h with h | ⟨b,off,cap,h1,h2,h3,h4,h5,h6⟩
 ·exact .inl h
 ·exact .inr ⟨b,off,cap,h1,h2,h3,zLl h4 c.size,h5,h6.chg c fun hm=>by rcases hL b hm with h | h;exact h5 h;omega⟩
theorem NumsIn.more {A B:List Nat} {w:World} {v:Value} {n:Nat} {f:Nat->Nat} (h:NumsIn A w v n f) (hB:∀ k,k∈B->k∈A∨w.heap.size<=k):NumsIn B w v n f:=by
 rcases h with h | ⟨b,off,cap,h1,h2,h3,h4,h5,h6⟩
 ·exact .inl h
 ·exact .inr ⟨b,off,cap,h1,h2,h3,h4,fun hm=>by rcases hB b hm with h | h;exact h5 h;omega,h6⟩
theorem NumsIn.len {A:List Nat} {w:World} {v:Value} {n:Nat} {f:Nat->Nat} (h:NumsIn A w v n f):∃ a cap,v = .slice a n cap:=by
 rcases h with ⟨⟨a,c,h,_⟩,rfl⟩ | ⟨b,off,cap,h,_⟩
 ·exact ⟨a,c,h⟩
 ·exact ⟨_,_,h⟩
def bodyF (n:Nat) (keys vals:Nat->Nat) (k i:Nat):Nat :=
 if i=0 then n else if i<1+16*k then (if (i - 1) % 16<8 then byteAt (keys ((i - 1) / 16)) (7 - (i - 1) % 16) else byteAt (vals ((i - 1) / 16)) (15 - (i - 1) % 16)) else 0
theorem bodyF_step (n:Nat) (keys vals:Nat->Nat) (k:Nat):putF (putF (bodyF n keys vals k) (1+16*k) 8 (keys k)) (1+16*k+8) 8 (vals k)=bodyF n keys vals (k+1):=by
 funext i
 unfold putF;by_cases h2:1+16*k+8<=i/\i<1+16*k+8+8
 ·rw [if_pos h2]
  unfold bodyF;have e1:(i - 1) / 16=k:=by omega
  have e2:(i - 1) % 16=i - 1 - 16*k:=by omega
  rw [if_neg (by omega),if_pos (by omega),e1,e2,if_neg (by omega)];congr 1;omega
 ·rw [if_neg h2]
  by_cases h1:1+16*k<=i/\i<1+16*k+8
  ·rw [if_pos h1]
   unfold bodyF;have e1:(i - 1) / 16=k:=by omega
   have e2:(i - 1) % 16=i - 1 - 16*k:=by omega
   rw [if_neg (by omega),if_pos (by omega),e1,e2,if_pos (by omega)];congr 1;omega
  ·rw [if_neg h1]
   unfold bodyF;by_cases h0:i=0
   ·rw [if_pos h0,if_pos h0]
   ·rw [if_neg h0,if_neg h0]
    by_cases h3:i<1+16*k
    ·rw [if_pos h3,if_pos (show i<1+16*(k+1) by omega)]
    ·rw [if_neg h3,if_neg (show ¬ i<1+16*(k+1) by omega)]
theorem byteAt_leL (v k:Nat):byteAt v k<=255:=by unfold byteAt;omega
theorem bodyF_le {n:Nat} (keys vals:Nat->Nat) (k i:Nat) (hn:n<=255):bodyF n keys vals k i<=255:=by
 unfold bodyF
 split
 ·exact hn
 ·split
  ·split <;> exact byteAt_leL _ _
  ·omega
theorem enc1_at {w:World} {bb g N nb no v:Nat} {f:Nat->Nat} (hbb:w.cell? ⟨bb,0,none⟩=some (.slice (some ⟨g,0,none⟩) N N)) (hb:w.heap[g]?=some (.cells (u8s N f) 5 (0,0))) (at':Nat) (hat:at'+8<=N) (hN:N<=100000)
  (hv:w.cell? ⟨nb,no,none⟩=some (.int .u64 (v:Int))) (hlt:v<18446744073709551616) :
  Calls Tryz.prog 119 #[.int .i64 (at':Int),.pointer (some ⟨nb,no,none⟩),.pointer (some ⟨bb,0,none⟩)] w fun e w' =>
   e = .returned (.tuple #[])/\w'.heap[g]?=some (.cells (u8s N (putF f at' 8 v)) 5 (0,0))/\Chg [g] w w':=by
 have HB:Hid (w.drew.heap[g]?=some (.cells (u8s N f) 5 (0,0))):=zh hb;have cP:=put_at HB.out 0 N N at' 8 v (by omega) hN (by omega) (by omega) (by omega) (by rw [show (256:Nat) ^ 8=18446744073709551616 by decide];exact hlt);rw [Nat.zero_add] at cP;clear hb;go_enter Tryz.func119,Tryz.ntmps119;go_wp2_with fail
 go_region_with (go_at_call 120;refine cP.mono ?_;rintro e w2 ⟨rfl,hB2,hC2⟩)
 all_goals
  go_wp2_with fail
  go_end0
  exact ⟨rfl,hB2,(Chg.drew (Chg.refl _ _)).trans hC2⟩
theorem nan_at (x:Int) (w:World):Calls Tryz.prog 209 #[.int .u64 x] w fun e w'=>e = .returned (.bool false)/\w=w':=by
 go_enter Tryz.func209,Tryz.ntmps209
 go_wp2
 go_ret;exact ⟨by simp,rfl⟩
theorem less64_at (x y:Int) (w:World):Calls Tryz.prog 188 #[.int .u64 x,.int .u64 y] w fun e w'=>e = .returned (.bool (decide (x<y)))/\w=w':=by
 go_enter Tryz.func188,Tryz.ntmps188;go_wp2_with (go_at_call 209;refine (nan_at _ _).mono ?_;rintro e w' ⟨rfl,rfl⟩);go_ret;exact ⟨rfl,rfl⟩
structure Row64 (w:World) (g n:Nat) (f:Nat->Nat):Prop where
 nums:NumsAt w g 0 n f
 blk:∃ cur,w.heap[g]?=some (.cells cur 44 (0,0))
theorem Row64.lt {w:World} {g n:Nat} {f:Nat->Nat} (h:Row64 w g n f):g<w.heap.size:=by obtain ⟨cur,h⟩:=h.blk;exact zhl h
theorem Row64.cell {w:World} {g n i:Nat} {f:Nat->Nat} (h:Row64 w g n f) (hi:i<n):w.cell? ⟨g,i,none⟩=some (.int .u64 (f i:Int)):=by
 have:=(h.nums i hi).1;rwa [Nat.zero_add] at this
theorem Row64.fz {w:World} {g n:Nat} {f:Nat->Nat} (h:Row64 w g n f) (i:Nat):w.frozen? ⟨g,i,none⟩=false:=by
 obtain ⟨cur,h⟩:=h.blk;exact zfb h i
theorem Row64.chg {w w':World} {g n:Nat} {f:Nat->Nat} {L:List Nat} (h:Row64 w g n f) (c:Chg L w w') (hg:g∉L):Row64 w' g n f :=
 ⟨h.nums.chg c hg,by obtain ⟨cur,hb⟩:=h.blk;exact ⟨cur,(c.block g (zhl hb) hg).trans hb⟩⟩
theorem Row64.set {w:World} {g n i v:Nat} {f:Nat->Nat} (h:Row64 w g n f) (hi:i<n) (hv:v<18446744073709551616):Row64 (w.setCell ⟨g,i,none⟩ (.int .u64 (v:Int))) g n (fun j=>if j=i then v else f j):=by
 obtain ⟨cur,hb⟩:=h.blk;have hb2:=zsb hb i (.int .u64 (v:Int));refine ⟨fun j hj=>?_,_,hb2⟩;rw [Nat.zero_add,zcb hb2,Array.getElem?_setIfInBounds];have hc:=h.cell hj;rw [zcb hb] at hc;by_cases e:i=j
 ·subst e
  have hsz:i<cur.size:=(Array.getElem?_eq_some_iff.1 hc).1;rw [if_pos rfl,if_pos hsz,if_pos rfl];exact ⟨rfl,hv⟩
 ·rw [if_neg e,if_neg (fun q=>e q.symm),hc]
  exact ⟨rfl,(h.nums j hj).2⟩
def swp (f:Nat->Nat) (j k:Nat):Nat:=if k=j then f (j - 1) else if k=j - 1 then f j else f k
theorem Row64.swap {w:World} {g n j:Nat} {f:Nat->Nat} (h:Row64 w g n f) (h0:0<j) (hj:j<n) :
  Row64 ((w.setCell ⟨g,j,none⟩ (.int .u64 (f (j - 1):Int))).setCell ⟨g,j - 1,none⟩ (.int .u64 (f j:Int))) g n (swp f j):=by
 have h1:=h.set (i:=j) hj (h.nums (j - 1) (by omega)).2;have h2:=h1.set (i:=j - 1) (by omega) (h.nums j hj).2
 have e:(fun k=>if k=j - 1 then f j else if k=j then f (j - 1) else f k)=swp f j:=by
  funext k
  unfold swp;by_cases e1:k=j
  ·subst e1;rw [if_neg (by omega),if_pos rfl,if_pos rfl]
  ·rw [if_neg e1,if_neg e1]
 rw [<- e];exact h2
def GoodK (f:Nat->Nat) (n:Nat):Prop:=(∀ i,i<n->f i≠0/\f i<4096)/\∀ i j,i<j->j<n->f i≠f j
theorem good_swp {f:Nat->Nat} {n j:Nat} (h0:0<j) (hj:j<n):GoodK (swp f j) n↔GoodK f n:=by
 have key:∀ g:Nat->Nat,GoodK g n->GoodK (swp g j) n:=by
  intro g hg;obtain ⟨a,b⟩:=hg;refine ⟨fun i hi=>?_,fun i k hik hk=>?_⟩
  ·unfold swp
   split
   ·exact a _ (by omega)
   ·split
    ·exact a _ hj
    ·exact a _ hi
  ·unfold swp
   have:=b;by_cases e1:i=j
   ·rw [if_pos e1,if_neg (by omega),if_neg (by omega)]
    exact b _ _ (by omega) hk
   ·rw [if_neg e1]
    by_cases e2:i=j - 1
    ·rw [if_pos e2]
     by_cases e3:k=j
     ·rw [if_pos e3];exact fun q=>b (j - 1) j (by omega) hj q.symm
     ·rw [if_neg e3,if_neg (by omega)];exact b _ _ (by omega) hk
    ·rw [if_neg e2]
     by_cases e3:k=j
     ·rw [if_pos e3];exact b _ _ (by omega) (by omega)
     ·rw [if_neg e3]
      by_cases e4:k=j - 1
      ·rw [if_pos e4];exact b _ _ (by omega) hj
      ·rw [if_neg e4];exact b _ _ hik hk
 refine ⟨fun h=>?_,key f⟩;have h2:=key _ h
 have e:swp (swp f j) j=f:=by
  funext k
  unfold swp;by_cases e1:k=j
  ·rw [if_pos e1,if_neg (by omega),if_pos rfl,e1]
  ·rw [if_neg e1]
   by_cases e2:k=j - 1
   ·rw [if_pos e2,if_pos rfl,e2]
   ·rw [if_neg e2,if_neg e1,if_neg e2]
 rwa [e] at h2
def sortedTo (f:Nat->Nat) (i:Nat):Prop:=∀ a b,a<b->b<i->f a<=f b
def sortedBut (f:Nat->Nat) (i j:Nat):Prop:=∀ a b,a<b->b<=i->b≠j->f a<=f b
theorem but_start {f:Nat->Nat} {i:Nat} (h:sortedTo f i):sortedBut f i i:=fun a b hab hb hne=>h a b hab (by omega)
theorem but_zero {f:Nat->Nat} {i:Nat} (h:sortedBut f i 0):sortedTo f (i+1):=fun a b hab hb=>h a b hab (by omega) (by omega)
theorem but_done {f:Nat->Nat} {i j:Nat} (h:sortedBut f i j) (h0:0<j) (hj:f (j - 1)<=f j):sortedTo f (i+1):=fun a b hab hb=>by
 by_cases e:b=j
 ·subst e
  by_cases e2:a=b - 1
  ·rw [e2];exact hj
  ·exact zLt (h a (b - 1) (by omega) (by omega) (by omega)) hj
 ·exact h a b hab (by omega) e
theorem but_swp {f:Nat->Nat} {i j:Nat} (h:sortedBut f i j) (h0:0<j) (hji:j<=i) (hj:f j<f (j - 1)):sortedBut (swp f j) i (j - 1):=fun a b hab hb hne=>by
 unfold swp;by_cases e1:b=j
 ·subst e1
  rw [if_neg (by omega),if_pos rfl];by_cases e2:a=b - 1
  ·rw [if_pos e2];omega
  ·rw [if_neg e2];exact h a (b - 1) (by omega) (by omega) (by omega)
 ·rw [if_neg e1,if_neg hne]
  by_cases e2:a=j
  ·rw [if_pos e2];exact h (j - 1) b (by omega) hb e1
  ·rw [if_neg e2]
   by_cases e3:a=j - 1
   ·rw [if_pos e3];exact h j b (by omega) hb e1
   ·rw [if_neg e3];exact h a b hab hb e1
theorem dec1_at {w:World} {bb g N c nb no n:Nat} {f h:Nat->Nat} (hbb:w.cell? ⟨bb,0,none⟩=some (.slice (some ⟨g,0,none⟩) N c)) (hb:BytesAt w g 0 N f) (hNc:N<=c) (hc:c<=9223372036854775807) (hN:N<=100000)
  (at':Nat) (hat:at'+8<=N) (hr:Row64 w nb n h) (hno:no<n) :
  Calls Tryz.prog 159 #[.int .i64 (at':Int),.pointer (some ⟨nb,no,none⟩),.pointer (some ⟨bb,0,none⟩)] w fun e w' =>
   e = .returned (.tuple #[])/\Row64 w' nb n (fun j=>if j=no then num f at' 8 else h j)/\Chg [nb] w w':=by
 have cG:=get_num hb hNc hc (by omega) at' 8 (by omega) (by omega) hat
 have hlt:num f at' 8<18446744073709551616:=by
  have:=num_lt (f:=f) (p:=at') (k:=8) fun i hi=>(hb (at'+i) (by omega)).2;rwa [show (256:Nat) ^ 8=18446744073709551616 by decide] at this
 have HS:=zh (hr.set hno hlt);have cn:=hr.cell hno;have fn:=hr.fz no;clear hb hr;go_enter Tryz.func159,Tryz.ntmps159;go_wp2_with fail;refine cG.mono ?_;clear cG;rintro e w' ⟨rfl,rfl⟩;go_wp2_with fail
 go_end0
 exact ⟨rfl,HS.out,(Chg.refl _ _).setCell (.inl (by simp)) _⟩
def keyF (f:Nat->Nat) (k j:Nat):Nat:=if j<k then num f (1+16*j) 8 else 0
def valF (f:Nat->Nat) (k j:Nat):Nat:=if j<k then num f (1+16*j+8) 8 else 0
theorem keyF_step (f:Nat->Nat) (k:Nat):(fun j=>if j=k then num f (1+16*k) 8 else keyF f k j)=keyF f (k+1):=by
 funext j
 unfold keyF;by_cases e:j=k
 ·subst e;rw [if_pos rfl,if_pos (by omega)]
 ·rw [if_neg e]
  by_cases h:j<k
  ·rw [if_pos h,if_pos (by omega)]
  ·rw [if_neg h,if_neg (by omega)]
theorem valF_step (f:Nat->Nat) (k:Nat):(fun j=>if j=k then num f (1+16*k+8) 8 else valF f k j)=valF f (k+1):=by
 funext j
 unfold valF;by_cases e:j=k
 ·subst e;rw [if_pos rfl,if_pos (by omega)]
 ·rw [if_neg e]
  by_cases h:j<k
  ·rw [if_pos h,if_pos (by omega)]
  ·rw [if_neg h,if_neg (by omega)]
theorem each_dec {w:World} {bb g c n kb vb:Nat} {leaf:Bool} {f:Nat->Nat} (hn:n<=7) (hk:Row64 w kb n (keyF f 0)) (hv:Row64 w vb n (valF f 0)) (hbb:w.heap[bb]?=some (.cells #[.slice (some ⟨g,0,none⟩) 123 c] 22 (0,0)))
  (hb:BytesAt w g 0 123 f) (hg:g<w.heap.size) (hNc:123<=c) (hc:c<=9223372036854775807) (d1:kb≠vb) (d2:kb≠bb) (d3:vb≠bb) (d4:kb≠g) (d5:vb≠g) :
  Calls Tryz.prog 118 #[.agg #[.bool leaf,.slice (some ⟨kb,0,none⟩) n n,.slice (some ⟨vb,0,none⟩) n n],.func (.func 159) #[] #[.pointer (some ⟨bb,0,none⟩)]] w fun e w' =>
   e = .returned (.tuple #[])/\Row64 w' kb n (keyF f n)/\Row64 w' vb n (valF f n)/\Chg [kb,vb] w w':=by
 have hW:=(Chg.refl [] w).alloc (.cells #[.bool leaf,.slice (some ⟨kb,0,none⟩) n n,.slice (some ⟨vb,0,none⟩) n n] 107);have HX:=zh (znb w (.cells #[.bool leaf,.slice (some ⟨kb,0,none⟩) n n,.slice (some ⟨vb,0,none⟩) n n] 107));have HK:=zh (hk.chg hW (by simp));have HV:=zh (hv.chg hW (by simp));have HBB:=zh ((hW.block bb (zhl hbb) (by simp)).trans hbb);have HB:=zh (hb.chg hW (by simp));have HW:=zh hW;have lk:=hk.lt;have lv:=hv.lt;clear hk hv hbb hb hW;go_enter Tryz.func118,Tryz.ntmps118;go_wp2_with fail;generalize w.alloc (.cells #[.bool leaf,.slice (some ⟨kb,0,none⟩) n n,.slice (some ⟨vb,0,none⟩) n n] 107)=W at *
 go_loopw [8] (fun s wr=>∃ k:Nat,k<=n/\s = .int .i64 (k:Int)/\Row64 wr kb n (keyF f k)/\Row64 wr vb n (valF f k)/\Chg [kb,vb] W wr) (fun s _=>n - (intOf s).toNat)
 case atStart=>exact ⟨0,Nat.zero_le _,rfl,HK.out,HV.out,Chg.refl _ _⟩
 case round =>
  obtain ⟨k,hk,rfl,hKk,hVk,hCk⟩:=hrel;obtain ⟨wo,rfl⟩:∃ wo:World,wo=wr:=⟨_,rfl⟩;have hX:=(hCk.block w.heap.size (zhl HX.out) (by simp;omega)).trans HX.out;have hBB:=(hCk.block bb (zhl HBB.out) (by simp;omega)).trans HBB.out;have hB:=HB.out.chg hCk (by simp;omega);have x1:=zcb hX 1;have x2:=zcb hX 2;have z0:=zcb hBB 0;simp only [tA1,tA3,tA2] at x1 x2 z0;have HXk:=zh hX;have HBBk:=zh hBB;have HBk:=zh hB;have HVk:=zh hVk;have HKk:=zh hKk;have HCk:=zh hCk;clear hX hBB hB hCk hKk hVk;by_cases hlk:k<n
  ·have c1:=dec1_at z0 HBk.out hNc hc (by omega) (1+16*k) (by omega) HKk.out hlk
   rw [show ((1+16*k:Nat):Int)=1+16*(k:Int) by omega,keyF_step] at c1;have i0:(0:Int)<=(k:Int):=by omega
   have i1:(k:Int)<(n:Int):=by omega
   go_wp2_with fail;refine c1.mono ?_;clear c1;rintro e w3 ⟨rfl,hK3,hC3⟩;have z3:=(hC3.cell (p:=⟨bb,0,none⟩) (zhl HBBk.out) (by simp;omega)).trans z0;have y2:=(hC3.cell (p:=⟨w.heap.size,2,none⟩) (zhl HXk.out) (by simp;omega)).trans x2;have B3:=HBk.out.chg hC3 (by simp;omega);have V3:=HVk.out.chg hC3 (by simp;omega);have c2:=dec1_at z3 B3 hNc hc (by omega) (1+16*k+8) (by omega) V3 hlk;rw [show ((1+16*k+8:Nat):Int)=1+16*(k:Int)+8 by omega,valF_step] at c2;have HC3:=zh (HCk.out.trans (hC3.mono (by simp)));have HK3:=zh hK3;clear hC3 hK3 B3 V3 x1 x2 z0;go_wp2_with fail;refine c2.mono ?_;clear c2;rintro e w4 ⟨rfl,hV4,hC4⟩;have HV4:=zh hV4;have HK4:=zh (HK3.out.chg hC4 (by simp;omega));have HC4:=zh (HC3.out.trans (hC4.mono (by simp)));clear hV4 hC4;go_wp2_with fail
   go_roundw
   case rel=>exact ⟨k+1,by omega,by go_num,HK4.out,HV4.out,HC4.out⟩
   case measure=>simp [intOf];omega
  ·obtain rfl:k=n:=by omega
   go_wp2_with fail
   go_end0
   exact ⟨rfl,HKk.out,HVk.out,(HW.out.mono (by simp)).trans HCk.out⟩
end Go.Proofs.YtkhcaclndepgbaaGreat
