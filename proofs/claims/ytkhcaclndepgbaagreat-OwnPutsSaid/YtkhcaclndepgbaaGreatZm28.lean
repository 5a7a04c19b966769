/- Package base: Format. (Printed by mkfmt.py.) -/
import Derived.Test.YtkhcaclndepgbaaGreatZm27
set_option linter.unusedVariables false
set_option linter.unusedSimpArgs false
set_option maxRecDepth 100000
set_option maxHeartbeats 20000000
namespace Go.Proofs.YtkhcaclndepgbaaGreat
open Go.RowKit
theorem zrow_sl' {w:World} {b n:Nat} (h:w.heap[b]?=some (.cells (zrow n (.int .i64 0)) 3 (0,0))) (hn:n≤4096) {A:Nat→Nat→Nat} {nn:Nat→Nat} {k:Nat} (hA:∀ i,A k i=0) (hk:nn k=n):SlI w (.slice (some ⟨b,0,none⟩) n n) (atL A nn k):=by
 refine .inr ⟨b,n,by rw [atL_len,hk],by rw [atL_len,hk];exact Nat.le_refl _,by unfold maxLen;omega,zhl h,fun i hi=>?_⟩
 rw [atL_len] at hi
 rw [atL_get _ _ hi,hA,zcb h]
 rw [hk] at hi
 simp [zrow,hi]
theorem SlI.lt_own {w:World} {v:Value} {l:List Nat} (h:SlI w v l):∀ q,v.ownBlock=some q→q<w.heap.size:=by
 intro q hq
 rcases h with ⟨rfl,_⟩ | ⟨g,cap,rfl,_,_,h3,_⟩
 ·cases hq
 ·have:g=q:=by simpa [Value.ownBlock] using hq
  omega
theorem sh_zero {W:World} {h0 h1 n:Nat} (hn:n≤4096) (hb0:W.heap[h0]?=some (.cells (zrow (pg n) (.int .i64 0)) 3 (0,0))) (hb1:W.heap[h1]?=some (.cells (zrow (pg (pg n)) (.int .i64 0)) 3 (0,0))) :
  ShV W (.slice (some ⟨h0,0,none⟩) (pg n) (pg n)) (.slice (some ⟨h1,0,none⟩) (pg (pg n)) (pg (pg n))) (fun _ _=>0) (nOf n) (fun k=>if k=0 then h0 else h1) (nOf n):=by
 have p2:=pg_le (n:=n)
 have p4:=pg_le (n:=pg n)
 refine ⟨rfl,rfl,fun k hk=>?_⟩
 rcases (show k=0∨k=1 by omega) with rfl | rfl
 ·exact zrow_sl' (k:=0) hb0 (by omega) (fun _=>rfl) rfl
 ·exact zrow_sl' (k:=1) hb1 (by omega) (fun _=>rfl) rfl
def AnyW (_:World):Prop:=True
theorem ShV.rowF {w:World} {v0 v1:Value} {S:Nat→Nat→Nat} {n g c:Nat→Nat} (h:ShV w v0 v1 S n g c) {k:Nat} (hk:k<2):n k≤c k∧c k≤maxLen∧g k<w.heap.size∧∀ i,i<n k→w.cell? ⟨g k,i,none⟩=some (.int .i64 (S k i:Int)):=by
 rcases h.l k hk with ⟨e,_⟩ | ⟨gg,cap,e,q1,q2,q3,q4⟩
 ·cases e
 ·injection e with e e2 e3
  injection e with e
  injection e with e
  rw [atL_len] at q1 q4
  subst e;subst e3
  refine ⟨q1,q2,q3,fun i hi=>?_⟩
  have:=q4 i hi
  rw [atL_get _ _ hi] at this
  exact this
def Fm7 (w:World) (p t bc bk n:Nat) (s9 z0 z1:Value) (wx:World):Prop :=
 ∃ (xb:Nat) (g c:Nat→Nat),s9 = .pointer (some ⟨xb,0,none⟩)∧wx.heap[xb]?=some (.cells #[.slice (some ⟨g 0,0,none⟩) (nOf n 0) (c 0),.slice (some ⟨g 1,0,none⟩) (nOf n 1) (c 1)] 42 (0,0)) ∧
  ShV wx (.slice (some ⟨g 0,0,none⟩) (nOf n 0) (c 0)) (.slice (some ⟨g 1,0,none⟩) (nOf n 1) (c 1)) (begF n).a (nOf n) g c∧SlI wx z0 (yesTo ((begF n).p 0) (nOf n 0))∧SlI wx z1 (yesTo ((begF n).p 1) (nOf n 1))∧PT wx p t bc bk (begF n).K (begF n).T∧Chg [p,t,bc,bk] w wx
def Fpl (W:World) (p t bc bk n:Nat) (e:Ending) (w':World):Prop :=
 ∃ z0 z1 g c,e = .returned (.tuple #[.agg #[.slice (some ⟨g 0,0,none⟩) (nOf n 0) (c 0),.slice (some ⟨g 1,0,none⟩) (nOf n 1) (c 1)],z0,z1,.int .i64 0]) ∧
  ShV w' (.slice (some ⟨g 0,0,none⟩) (nOf n 0) (c 0)) (.slice (some ⟨g 1,0,none⟩) (nOf n 1) (c 1)) (begF n).a (nOf n) g c∧SlI w' z0 (yesTo ((begF n).p 0) (nOf n 0))∧SlI w' z1 (yesTo ((begF n).p 1) (nOf n 1))∧PT w' p t bc bk (begF n).K (begF n).T ∧
  Chg [p,t,bc,bk] W w'∧(∀ k,k<2→W.heap.size≤g k)∧(∀ b,z0.ownBlock=some b→W.heap.size≤b)∧(∀ b,z1.ownBlock=some b→W.heap.size≤b)
theorem fpl_at {W:World} {p t bc bk n h0 h1:Nat} (hn:16≤n∧n≤4096) (hp:PT W p t bc bk ⟨2,2,0⟩ (Tal.new n)) (hb0:W.heap[h0]?=some (.cells (zrow (pg n) (.int .i64 0)) 3 (0,0))) (hb1:W.heap[h1]?=some (.cells (zrow (pg (pg n)) (.int .i64 0)) 3 (0,0))) :
  Calls Tryz.prog 80 #[.pointer (some ⟨t,0,none⟩),.pointer (some ⟨p,0,none⟩),.agg #[.slice (some ⟨h0,0,none⟩) (pg n) (pg n),.slice (some ⟨h1,0,none⟩) (pg (pg n)) (pg (pg n))]] W (Fpl W p t bc bk n):=by
 have c:=place_ok hp (sh_zero hn.2 hb0 hb1) (empty_ok (Tal.new n)) (need_new hn.1)
 refine c.mono ?_
 rintro e w' ⟨u0,u1,z0,z1,g,c,rfl,hsv,hz0,hz1,hpt,hC4,hgg,hgn,hzb0,hzb1⟩
 obtain ⟨rfl,rfl,hsl⟩:=hsv
 have en:(begF n).n=nOf n:=(beg_ok hn.1).2.2.1
 change SlI w' z0 (yesTo ((begF n).p 0) ((begF n).n 0)) at hz0
 change SlI w' z1 (yesTo ((begF n).p 1) ((begF n).n 1)) at hz1
 have hsh:ShV w' (.slice (some ⟨g 0,0,none⟩) ((begF n).n 0) (c 0)) (.slice (some ⟨g 1,0,none⟩) ((begF n).n 1) (c 1)) (begF n).a (begF n).n g c:=ShV.mk rfl rfl hsl
 rw [en] at hz0 hz1 hsh
 refine ⟨z0,z1,g,c,?_,hsh,hz0,hz1,hpt,hC4,hgg,hzb0,hzb1⟩
 show Ending.returned (.tuple #[.agg #[.slice (some ⟨g 0,0,none⟩) ((begF n).n 0) (c 0),.slice (some ⟨g 1,0,none⟩) ((begF n).n 1) (c 1)],z0,z1,.int .i64 0])=_
 rw [en]
theorem fm7_end {w wP W2:World} {p t bc bk n xb:Nat} {z0 z1:Value} {g c:Nat→Nat} {L:List Nat} (h2:W2.heap[xb]?=some (.cells #[.slice (some ⟨g 0,0,none⟩) (nOf n 0) (c 0),.slice (some ⟨g 1,0,none⟩) (nOf n 1) (c 1)] 42 (0,0))) (hC:Chg L wP W2)
  (hv:ShV wP (.slice (some ⟨g 0,0,none⟩) (nOf n 0) (c 0)) (.slice (some ⟨g 1,0,none⟩) (nOf n 1) (c 1)) (begF n).a (nOf n) g c) (s0:SlI wP z0 (yesTo ((begF n).p 0) (nOf n 0))) (s1:SlI wP z1 (yesTo ((begF n).p 1) (nOf n 1))) (hpt:PT wP p t bc bk (begF n).K (begF n).T) (hc:Chg [p,t,bc,bk] w W2)
  (hL:∀ q,q∈L→q≠g 0∧q≠g 1∧z0.ownBlock≠some q∧z1.ownBlock≠some q∧q∉[p,t,bc,bk]):Fm7 w p t bc bk n (.pointer (some ⟨xb,0,none⟩)) z0 z1 W2:=by
 refine ⟨xb,g,c,rfl,h2,hv.chg hC (fun h=>(hL _ h).1 rfl) (fun h=>(hL _ h).2.1 rfl),s0.chg hC (fun q hq h=>(hL _ h).2.2.1 hq),s1.chg hC (fun q hq h=>(hL _ h).2.2.2.1 hq),hpt.chg hC ?_ ?_ ?_ ?_,hc⟩
 ·exact fun h=>(hL _ h).2.2.2.2 (by simp)
 ·exact fun h=>(hL _ h).2.2.2.2 (by simp)
 ·exact fun h=>(hL _ h).2.2.2.2 (by simp)
 ·exact fun h=>(hL _ h).2.2.2.2 (by simp)
theorem baFormat_at {w:World} {d bb N:Nat} (hd:DiskAt w d bb (.slice none 0 0) ⟨N,fun _ _=>0,[]⟩) (hN:16≤N∧N≤4096) :
  Calls Tryz.prog 40 #[.pointer (some ⟨d,0,none⟩)] w fun e w'=>e = .returned (.int .i64 0)∧DiskAt w' d bb (.slice none 0 0) ⟨N,(Bs.fmt N).D,[]⟩∧Chg [d,bb] w w':=by
 have cl:=dLen_at hd
 have HD:=Lib.hid hd
 have i0:¬ ((N:Int)=0):=by omega
 clear hd
 go_enter Tryz.func40,Tryz.ntmps40
 go_wp2_with fail
 refine (cl).mono ?_
 rintro e w' ⟨rfl,rfl⟩
 go_wp2_with fail
 refine (tnew_ex N w (by omega) hN.2).mono ?_
 rintro e w1 ⟨t,bc,bk,rfl,ht,hC1,l1,l2,l3⟩
 have HT:=Lib.hid ht
 have HC1:=Lib.hid hC1
 have HL:=Lib.hid (And.intro l1 (And.intro l2 l3))
 clear ht hC1 l1 l2 l3 cl
 go_wp2_with fail
 refine (pnew_ex HT.out 2 (by omega)).mono ?_
 rintro e w2 ⟨p,rfl,hp,hC2,lp⟩
 have HP:=Lib.hid hp
 have HC2:=Lib.hid (HC1.out.trans hC2)
 have HLP:=Lib.hid (show ∀ q,q∈[p,t,bc,bk]→w.heap.size≤q∧q<w2.heap.size from by
  have h1:=HL.out
  have h2:=Nat.le_trans HC1.out.size lp
  have a0:=hp.hp.lt
  have a1:=hp.ht.lt0
  have a2:=hp.ht.lt1
  have a3:=hp.ht.lt2
  intro q hq
  simp only [List.mem_cons,List.not_mem_nil,or_false] at hq
  rcases hq with rfl | rfl | rfl | rfl
  ·exact ⟨h2,a0⟩
  ·exact ⟨h1.1,a1⟩
  ·exact ⟨h1.2.1,a2⟩
  ·exact ⟨h1.2.2,a3⟩)
 clear hp hC2 lp HT HC1 HL
 have cg1:=pages_at (n:=N) w2 (by omega) hN.2
 go_wp2_with fail
 refine cg1.mono ?_
 rintro e w' ⟨rfl,rfl⟩
 have hpg:1≤pg N∧pg N≤4096:=by unfold pg;omega
 have hpp:pg (pg N)≤4096:=by have:=pgpg_le hN.2;omega
 have CG:=Lib.hid (fun W=>pages_at (n:=pg N) W hpg.1 hpg.2)
 have MKA:=Lib.hid (run_make1 (P:=Tryz.prog) 27 3 Tryz.underlying27 infoInt8 rfl .i64 .i64 (pg N) (by omega) (by omega))
 have MKB:=Lib.hid (run_make1 (P:=Tryz.prog) 27 3 Tryz.underlying27 infoInt8 rfl .i64 .i64 (pg (pg N)) (by omega) (by omega))
 clear cg1
 go_upto_region 7 with fail
 go_cut [9,10,11,12] (fun s9 z0 z1 e12 wx=>e12 = .int .i64 0∧Hid (Fm7 w2 p t bc bk N s9 z0 z1 wx))
 case first =>
  refine wp_region_held_drew (S:=AnyW) (by kernel_rfl) (by exact trivial) (fun hHeld=>?_)
  refine wV 0 ?_
  refine wV 1 ?_
  refine wV 2 ?_
  refine wV 4 ?_
  try simp only [Act.put,sA1,sA2,sA3]
  have HC:=Lib.hid ((Chg.refl [] w2).drew)
  generalize w2.drew=W0 at *
  refine wR [3,5,14] ?_
  refine wC (fun K hK=>?_) ?_
  ·(have mk:=MKA.out;go_simp;clear mk;have Ma1:=Lib.hid (znb W0 (.cells (zrow (pg N) (.int .i64 0)) 3));have HC1:=Lib.hid (HC.out.alloc (.cells (zrow (pg N) (.int .i64 0)) 3));generalize W0.alloc _=W1 at *)
   refine hK.out _ _ trivial (fun hHeld=>?_)
   clear hK K
   try simp only [Act.put,sA1,sA2,sA3]
   refine wR [5,14] ?_
   refine wC (fun K hK=>?_) ?_
   ·(go_simp;refine (CG.out _).mono ?_;rintro e w' ⟨rfl,rfl⟩)
    refine hK.out _ _ trivial (fun hHeld=>?_)
    clear hK K
    try simp only [Act.put,sA1,sA2,sA3]
    refine wR [6,14] ?_
    refine wC (fun K hK=>?_) ?_
    ·(have mk:=MKB.out;go_simp;clear mk;have Mb2:=Lib.hid (znb W1 (.cells (zrow (pg (pg N)) (.int .i64 0)) 3));have Ma2:=Lib.hid ((((Chg.refl [] W1).alloc (.cells (zrow (pg (pg N)) (.int .i64 0)) 3)).block _ (zhl Ma1.out) (by simp)).trans Ma1.out);have HC2:=Lib.hid (HC1.out.alloc (.cells (zrow (pg (pg N)) (.int .i64 0)) 3));generalize W1.alloc _=W2 at *)
     refine hK.out _ _ trivial (fun hHeld=>?_)
     clear hK K
     try simp only [Act.put,sA1,sA2,sA3]
     refine wV 7 ?_
     try simp only [Act.put,sA1,sA2,sA3]
     refine wR [8,14] ?_
     refine wC (fun K hK=>?_) ?_
     ·(go_simp;refine (fpl_at hN (HP.out.chg HC2.out (by simp) (by simp) (by simp) (by simp)) Ma2.out Mb2.out).mono ?_;rintro e wP ⟨z0,z1,g,c,rfl,p1,p2,p3,p4,p5,p6,p7,p8⟩;have HQ:=Lib.hid (And.intro p1 (And.intro p2 (And.intro p3 (And.intro p4 (And.intro p5 (And.intro p6 (And.intro p7 p8)))))));clear p1 p2 p3 p4 p5 p6 p7 p8)
      refine hK.out _ _ trivial (fun hHeld=>?_)
      clear hK K
      try simp only [Act.put,sA1,sA2,sA3]
      refine wV 9 ?_
      refine wV 10 ?_
      refine wV 11 ?_
      refine wV 12 ?_
      refine wV 13 ?_
      try simp only [Act.put,sA1,sA2,sA3]
      refine wE 14 (fun K hK=>?_)
      (go_simp)
      refine hK.out _ _ trivial (fun hHeld=>?_)
      clear hK K
      try simp only [Act.put,sA1,sA2,sA3]
      have hx:=znb wP (.cells #[.slice none 0 0,.slice none 0 0] 42)
      have hxc:Chg [] wP (wP.alloc (.cells #[.slice none 0 0,.slice none 0 0] 42)):=(Chg.refl [] wP).alloc _
      generalize wP.alloc (.cells #[.slice none 0 0,.slice none 0 0] 42)=wX at *
      have k0:=zcb hx 0
      have k1:=zcb hx 1
      have f0:=zfb hx 0
      have f1:=zfb hx 1
      have lx:=zhl hx
      simp only [List.getElem?_toArray,List.getElem?_cons_zero,List.getElem?_cons_succ] at k0 k1
      refine wE 15 (fun K hK=>?_)
      (go_simp)
      refine hK.out _ _ trivial (fun hHeld=>?_)
      clear hK K
      try simp only [Act.put,sA1,sA2,sA3]
      refine wV 16 ?_
      refine wV 17 ?_
      refine wV 18 ?_
      try simp only [Act.put,sA1,sA2,sA3]
      refine wpAnyH_done (by kernel_rfl) ?_ _
      go_wp2_with fail
      go_meet
      have hxB:=zsb (zsb hx 0 (.slice (some ⟨g 0,0,none⟩) (nOf N 0) (c 0))) 1 (.slice (some ⟨g 1,0,none⟩) (nOf N 1) (c 1))
      have cB:=(((Chg.refl [wP.heap.size] wX).setCell (p:=⟨wP.heap.size,0,none⟩) (.inl (by simp)) (.slice (some ⟨g 0,0,none⟩) (nOf N 0) (c 0))).setCell (p:=⟨wP.heap.size,1,none⟩) (.inl (by simp)) (.slice (some ⟨g 1,0,none⟩) (nOf N 1) (c 1)))
      have q:=HQ.out
      have hz:w2.heap.size≤wP.heap.size:=by have h1:=HC2.out.size;have h2:=HQ.out.2.2.2.2.1.size;omega
      have hcw:Chg [p,t,bc,bk] w2 wX:=((HC2.out.mono (by simp)).trans q.2.2.2.2.1).trans (hxc.mono (by simp))
      exact ⟨rfl,Lib.hid (fm7_end (L:=[wP.heap.size]) hxB ((hxc.mono (by simp)).trans cB) q.1 q.2.1 q.2.2.1 q.2.2.2.1 ((hcw.setCell (.inr hz) _).setCell (.inr hz) _) (fun y hy=>by
       simp only [List.mem_singleton] at hy
       subst hy
       exact ⟨fun h=>by have:=(q.1.rowF (k:=0) (by omega)).2.2.1;omega,fun h=>by have:=(q.1.rowF (k:=1) (by omega)).2.2.1;omega,fun h=>by have:=q.2.1.lt_own _ h;omega,fun h=>by have:=q.2.2.1.lt_own _ h;omega,fun hm=>by have:=(HLP.out _ hm).2;omega⟩))⟩
     refine wD (fun K hK=>?_)
     ·(go_simp;have Mx3:=Lib.hid (znb W2 (.cells #[.slice none 0 0,.slice none 0 0] 42));have HCX:=Lib.hid (show w2.heap.size≤W2.heap.size from HC2.out.size);have Ma3:=Lib.hid ((((Chg.refl [] W2).alloc (.cells #[.slice none 0 0,.slice none 0 0] 42)).block _ (zhl Ma2.out) (by simp)).trans Ma2.out);have Mb3:=Lib.hid ((((Chg.refl [] W2).alloc (.cells #[.slice none 0 0,.slice none 0 0] 42)).block _ (zhl Mb2.out) (by simp)).trans Mb2.out);have HC3:=Lib.hid (HC2.out.alloc (.cells #[.slice none 0 0,.slice none 0 0] 42));generalize W2.alloc _=W3 at *)
      refine hK.out _ _ trivial (fun hHeld=>?_)
      clear hK K
      try simp only [Act.put,sA1,sA2,sA3]
      refine wE 8 (fun K hK=>?_)
      (go_simp;refine (fpl_at hN (HP.out.chg HC3.out (by simp) (by simp) (by simp) (by simp)) Ma3.out Mb3.out).mono ?_;rintro e wP ⟨z0,z1,g,c,rfl,p1,p2,p3,p4,p5,p6,p7,p8⟩;have HQ:=Lib.hid (And.intro p1 (And.intro p2 (And.intro p3 (And.intro p4 (And.intro p5 (And.intro p6 (And.intro p7 p8)))))));clear p1 p2 p3 p4 p5 p6 p7 p8)
      refine hK.out _ _ trivial (fun hHeld=>?_)
      clear hK K
      try simp only [Act.put,sA1,sA2,sA3]
      refine wV 9 ?_
      refine wV 10 ?_
      refine wV 11 ?_
      refine wV 12 ?_
      refine wV 13 ?_
      try simp only [Act.put,sA1,sA2,sA3]
      have hxl:=zhl Mx3.out
      have hxg:W2.heap.size∉[p,t,bc,bk]:=fun hm=>by have h1:=(HLP.out _ hm).2;have h2:=HCX.out;omega
      have hx:=(HQ.out.2.2.2.2.1.block _ hxl hxg).trans Mx3.out
      have hxc:Chg [] wP wP:=Chg.refl _ _
      obtain ⟨wX,hwX⟩:∃ wX,wX=wP:=⟨_,rfl⟩
      rw [← hwX] at hx ⊢
      have hxc:Chg [] wP wX:=by rw [hwX];exact Chg.refl _ _
      clear hwX
      have k0:=zcb hx 0
      have k1:=zcb hx 1
      have f0:=zfb hx 0
      have f1:=zfb hx 1
      have lx:=zhl hx
      simp only [List.getElem?_toArray,List.getElem?_cons_zero,List.getElem?_cons_succ] at k0 k1
      refine wE 15 (fun K hK=>?_)
      (go_simp)
      refine hK.out _ _ trivial (fun hHeld=>?_)
      clear hK K
      try simp only [Act.put,sA1,sA2,sA3]
      refine wV 16 ?_
      refine wV 17 ?_
      refine wV 18 ?_
      try simp only [Act.put,sA1,sA2,sA3]
      refine wpAnyH_done (by kernel_rfl) ?_ _
      go_wp2_with fail
      go_meet
      have hxB:=zsb (zsb hx 0 (.slice (some ⟨g 0,0,none⟩) (nOf N 0) (c 0))) 1 (.slice (some ⟨g 1,0,none⟩) (nOf N 1) (c 1))
      have cB:=(((Chg.refl [W2.heap.size] wX).setCell (p:=⟨W2.heap.size,0,none⟩) (.inl (by simp)) (.slice (some ⟨g 0,0,none⟩) (nOf N 0) (c 0))).setCell (p:=⟨W2.heap.size,1,none⟩) (.inl (by simp)) (.slice (some ⟨g 1,0,none⟩) (nOf N 1) (c 1)))
      have q:=HQ.out
      have hz:w2.heap.size≤W2.heap.size:=HCX.out
      have hcw:Chg [p,t,bc,bk] w2 wX:=((HC3.out.mono (by simp)).trans q.2.2.2.2.1).trans (hxc.mono (by simp))
      exact ⟨rfl,Lib.hid (fm7_end (L:=[W2.heap.size]) hxB ((hxc.mono (by simp)).trans cB) q.1 q.2.1 q.2.2.1 q.2.2.2.1 ((hcw.setCell (.inr hz) _).setCell (.inr hz) _) (fun y hy=>by
       simp only [List.mem_singleton] at hy
       subst hy
       exact ⟨fun h=>by have:=q.2.2.2.2.2.1 0 (by omega);omega,fun h=>by have:=q.2.2.2.2.2.1 1 (by omega);omega,fun h=>by have:=q.2.2.2.2.2.2.1 _ h;omega,fun h=>by have:=q.2.2.2.2.2.2.2 _ h;omega,hxg⟩))⟩
    refine wD (fun K hK=>?_)
    ·(go_simp;have Mx2:=Lib.hid (znb W1 (.cells #[.slice none 0 0,.slice none 0 0] 42));have HCX:=Lib.hid (show w2.heap.size≤W1.heap.size from HC1.out.size);have Ma2:=Lib.hid ((((Chg.refl [] W1).alloc (.cells #[.slice none 0 0,.slice none 0 0] 42)).block _ (zhl Ma1.out) (by simp)).trans Ma1.out);have HC2:=Lib.hid (HC1.out.alloc (.cells #[.slice none 0 0,.slice none 0 0] 42));generalize W1.alloc _=W2 at *)
     refine hK.out _ _ trivial (fun hHeld=>?_)
     clear hK K
     try simp only [Act.put,sA1,sA2,sA3]
     refine wE 6 (fun K hK=>?_)
     (have mk:=MKB.out;go_simp;clear mk;have Mb3:=Lib.hid (znb W2 (.cells (zrow (pg (pg N)) (.int .i64 0)) 3));have Ma3:=Lib.hid ((((Chg.refl [] W2).alloc (.cells (zrow (pg (pg N)) (.int .i64 0)) 3)).block _ (zhl Ma2.out) (by simp)).trans Ma2.out);have Mx3:=Lib.hid ((((Chg.refl [] W2).alloc (.cells (zrow (pg (pg N)) (.int .i64 0)) 3)).block _ (zhl Mx2.out) (by simp)).trans Mx2.out);have HC3:=Lib.hid (HC2.out.alloc (.cells (zrow (pg (pg N)) (.int .i64 0)) 3));generalize W2.alloc _=W3 at *)
     refine hK.out _ _ trivial (fun hHeld=>?_)
     clear hK K
     try simp only [Act.put,sA1,sA2,sA3]
     refine wV 7 ?_
     try simp only [Act.put,sA1,sA2,sA3]
     refine wE 8 (fun K hK=>?_)
     (go_simp;refine (fpl_at hN (HP.out.chg HC3.out (by simp) (by simp) (by simp) (by simp)) Ma3.out Mb3.out).mono ?_;rintro e wP ⟨z0,z1,g,c,rfl,p1,p2,p3,p4,p5,p6,p7,p8⟩;have HQ:=Lib.hid (And.intro p1 (And.intro p2 (And.intro p3 (And.intro p4 (And.intro p5 (And.intro p6 (And.intro p7 p8)))))));clear p1 p2 p3 p4 p5 p6 p7 p8)
     refine hK.out _ _ trivial (fun hHeld=>?_)
     clear hK K
     try simp only [Act.put,sA1,sA2,sA3]
     refine wV 9 ?_
     refine wV 10 ?_
     refine wV 11 ?_
     refine wV 12 ?_
     refine wV 13 ?_
     try simp only [Act.put,sA1,sA2,sA3]
     have hxl:=zhl Mx3.out
     have hxg:W1.heap.size∉[p,t,bc,bk]:=fun hm=>by have h1:=(HLP.out _ hm).2;have h2:=HCX.out;omega
     have hx:=(HQ.out.2.2.2.2.1.block _ hxl hxg).trans Mx3.out
     have hxc:Chg [] wP wP:=Chg.refl _ _
     obtain ⟨wX,hwX⟩:∃ wX,wX=wP:=⟨_,rfl⟩
     rw [← hwX] at hx ⊢
     have hxc:Chg [] wP wX:=by rw [hwX];exact Chg.refl _ _
     clear hwX
     have k0:=zcb hx 0
     have k1:=zcb hx 1
     have f0:=zfb hx 0
     have f1:=zfb hx 1
     have lx:=zhl hx
     simp only [List.getElem?_toArray,List.getElem?_cons_zero,List.getElem?_cons_succ] at k0 k1
     refine wE 15 (fun K hK=>?_)
     (go_simp)
     refine hK.out _ _ trivial (fun hHeld=>?_)
     clear hK K
     try simp only [Act.put,sA1,sA2,sA3]
     refine wV 16 ?_
     refine wV 17 ?_
     refine wV 18 ?_
     try simp only [Act.put,sA1,sA2,sA3]
     refine wpAnyH_done (by kernel_rfl) ?_ _
     go_wp2_with fail
     go_meet
     have hxB:=zsb (zsb hx 0 (.slice (some ⟨g 0,0,none⟩) (nOf N 0) (c 0))) 1 (.slice (some ⟨g 1,0,none⟩) (nOf N 1) (c 1))
     have cB:=(((Chg.refl [W1.heap.size] wX).setCell (p:=⟨W1.heap.size,0,none⟩) (.inl (by simp)) (.slice (some ⟨g 0,0,none⟩) (nOf N 0) (c 0))).setCell (p:=⟨W1.heap.size,1,none⟩) (.inl (by simp)) (.slice (some ⟨g 1,0,none⟩) (nOf N 1) (c 1)))
     have q:=HQ.out
     have hz:w2.heap.size≤W1.heap.size:=HCX.out
     have hcw:Chg [p,t,bc,bk] w2 wX:=((HC3.out.mono (by simp)).trans q.2.2.2.2.1).trans (hxc.mono (by simp))
     exact ⟨rfl,Lib.hid (fm7_end (L:=[W1.heap.size]) hxB ((hxc.mono (by simp)).trans cB) q.1 q.2.1 q.2.2.1 q.2.2.2.1 ((hcw.setCell (.inr hz) _).setCell (.inr hz) _) (fun y hy=>by
      simp only [List.mem_singleton] at hy
      subst hy
      exact ⟨fun h=>by have:=q.2.2.2.2.2.1 0 (by omega);omega,fun h=>by have:=q.2.2.2.2.2.1 1 (by omega);omega,fun h=>by have:=q.2.2.2.2.2.2.1 _ h;omega,fun h=>by have:=q.2.2.2.2.2.2.2 _ h;omega,hxg⟩))⟩
   refine wD (fun K hK=>?_)
   ·(go_simp;have Mx2:=Lib.hid (znb W1 (.cells #[.slice none 0 0,.slice none 0 0] 42));have HCX:=Lib.hid (show w2.heap.size≤W1.heap.size from HC1.out.size);have Ma2:=Lib.hid ((((Chg.refl [] W1).alloc (.cells #[.slice none 0 0,.slice none 0 0] 42)).block _ (zhl Ma1.out) (by simp)).trans Ma1.out);have HC2:=Lib.hid (HC1.out.alloc (.cells #[.slice none 0 0,.slice none 0 0] 42));generalize W1.alloc _=W2 at *)
    refine hK.out _ _ trivial (fun hHeld=>?_)
    clear hK K
    try simp only [Act.put,sA1,sA2,sA3]
    refine wE 5 (fun K hK=>?_)
    (go_simp;refine (CG.out _).mono ?_;rintro e w' ⟨rfl,rfl⟩)
    refine hK.out _ _ trivial (fun hHeld=>?_)
    clear hK K
    try simp only [Act.put,sA1,sA2,sA3]
    refine wE 6 (fun K hK=>?_)
    (have mk:=MKB.out;go_simp;clear mk;have Mb3:=Lib.hid (znb W2 (.cells (zrow (pg (pg N)) (.int .i64 0)) 3));have Ma3:=Lib.hid ((((Chg.refl [] W2).alloc (.cells (zrow (pg (pg N)) (.int .i64 0)) 3)).block _ (zhl Ma2.out) (by simp)).trans Ma2.out);have Mx3:=Lib.hid ((((Chg.refl [] W2).alloc (.cells (zrow (pg (pg N)) (.int .i64 0)) 3)).block _ (zhl Mx2.out) (by simp)).trans Mx2.out);have HC3:=Lib.hid (HC2.out.alloc (.cells (zrow (pg (pg N)) (.int .i64 0)) 3));generalize W2.alloc _=W3 at *)
    refine hK.out _ _ trivial (fun hHeld=>?_)
    clear hK K
    try simp only [Act.put,sA1,sA2,sA3]
    refine wV 7 ?_
    try simp only [Act.put,sA1,sA2,sA3]
    refine wE 8 (fun K hK=>?_)
    (go_simp;refine (fpl_at hN (HP.out.chg HC3.out (by simp) (by simp) (by simp) (by simp)) Ma3.out Mb3.out).mono ?_;rintro e wP ⟨z0,z1,g,c,rfl,p1,p2,p3,p4,p5,p6,p7,p8⟩;have HQ:=Lib.hid (And.intro p1 (And.intro p2 (And.intro p3 (And.intro p4 (And.intro p5 (And.intro p6 (And.intro p7 p8)))))));clear p1 p2 p3 p4 p5 p6 p7 p8)
    refine hK.out _ _ trivial (fun hHeld=>?_)
    clear hK K
    try simp only [Act.put,sA1,sA2,sA3]
    refine wV 9 ?_
    refine wV 10 ?_
    refine wV 11 ?_
    refine wV 12 ?_
    refine wV 13 ?_
    try simp only [Act.put,sA1,sA2,sA3]
    have hxl:=zhl Mx3.out
    have hxg:W1.heap.size∉[p,t,bc,bk]:=fun hm=>by have h1:=(HLP.out _ hm).2;have h2:=HCX.out;omega
    have hx:=(HQ.out.2.2.2.2.1.block _ hxl hxg).trans Mx3.out
    have hxc:Chg [] wP wP:=Chg.refl _ _
    obtain ⟨wX,hwX⟩:∃ wX,wX=wP:=⟨_,rfl⟩
    rw [← hwX] at hx ⊢
    have hxc:Chg [] wP wX:=by rw [hwX];exact Chg.refl _ _
    clear hwX
    have k0:=zcb hx 0
    have k1:=zcb hx 1
    have f0:=zfb hx 0
    have f1:=zfb hx 1
    have lx:=zhl hx
    simp only [List.getElem?_toArray,List.getElem?_cons_zero,List.getElem?_cons_succ] at k0 k1
    refine wE 15 (fun K hK=>?_)
    (go_simp)
    refine hK.out _ _ trivial (fun hHeld=>?_)
    clear hK K
    try simp only [Act.put,sA1,sA2,sA3]
    refine wV 16 ?_
    refine wV 17 ?_
    refine wV 18 ?_
    try simp only [Act.put,sA1,sA2,sA3]
    refine wpAnyH_done (by kernel_rfl) ?_ _
    go_wp2_with fail
    go_meet
    have hxB:=zsb (zsb hx 0 (.slice (some ⟨g 0,0,none⟩) (nOf N 0) (c 0))) 1 (.slice (some ⟨g 1,0,none⟩) (nOf N 1) (c 1))
    have cB:=(((Chg.refl [W1.heap.size] wX).setCell (p:=⟨W1.heap.size,0,none⟩) (.inl (by simp)) (.slice (some ⟨g 0,0,none⟩) (nOf N 0) (c 0))).setCell (p:=⟨W1.heap.size,1,none⟩) (.inl (by simp)) (.slice (some ⟨g 1,0,none⟩) (nOf N 1) (c 1)))
    have q:=HQ.out
    have hz:w2.heap.size≤W1.heap.size:=HCX.out
    have hcw:Chg [p,t,bc,bk] w2 wX:=((HC3.out.mono (by simp)).trans q.2.2.2.2.1).trans (hxc.mono (by simp))
    exact ⟨rfl,Lib.hid (fm7_end (L:=[W1.heap.size]) hxB ((hxc.mono (by simp)).trans cB) q.1 q.2.1 q.2.2.1 q.2.2.2.1 ((hcw.setCell (.inr hz) _).setCell (.inr hz) _) (fun y hy=>by
     simp only [List.mem_singleton] at hy
     subst hy
     exact ⟨fun h=>by have:=q.2.2.2.2.2.1 0 (by omega);omega,fun h=>by have:=q.2.2.2.2.2.1 1 (by omega);omega,fun h=>by have:=q.2.2.2.2.2.2.1 _ h;omega,fun h=>by have:=q.2.2.2.2.2.2.2 _ h;omega,hxg⟩))⟩
  refine wC (fun K hK=>?_) ?_
  ·(go_simp;refine (CG.out _).mono ?_;rintro e w' ⟨rfl,rfl⟩)
   refine hK.out _ _ trivial (fun hHeld=>?_)
   clear hK K
   try simp only [Act.put,sA1,sA2,sA3]
   refine wR [3,6,14] ?_
   refine wC (fun K hK=>?_) ?_
   ·(have mk:=MKA.out;go_simp;clear mk;have Ma1:=Lib.hid (znb W0 (.cells (zrow (pg N) (.int .i64 0)) 3));have HC1:=Lib.hid (HC.out.alloc (.cells (zrow (pg N) (.int .i64 0)) 3));generalize W0.alloc _=W1 at *)
    refine hK.out _ _ trivial (fun hHeld=>?_)
    clear hK K
    try simp only [Act.put,sA1,sA2,sA3]
    refine wR [6,14] ?_
    refine wC (fun K hK=>?_) ?_
    ·(have mk:=MKB.out;go_simp;clear mk;have Mb2:=Lib.hid (znb W1 (.cells (zrow (pg (pg N)) (.int .i64 0)) 3));have Ma2:=Lib.hid ((((Chg.refl [] W1).alloc (.cells (zrow (pg (pg N)) (.int .i64 0)) 3)).block _ (zhl Ma1.out) (by simp)).trans Ma1.out);have HC2:=Lib.hid (HC1.out.alloc (.cells (zrow (pg (pg N)) (.int .i64 0)) 3));generalize W1.alloc _=W2 at *)
     refine hK.out _ _ trivial (fun hHeld=>?_)
     clear hK K
     try simp only [Act.put,sA1,sA2,sA3]
     refine wV 7 ?_
     try simp only [Act.put,sA1,sA2,sA3]
     refine wR [8,14] ?_
     refine wC (fun K hK=>?_) ?_
     ·(go_simp;refine (fpl_at hN (HP.out.chg HC2.out (by simp) (by simp) (by simp) (by simp)) Ma2.out Mb2.out).mono ?_;rintro e wP ⟨z0,z1,g,c,rfl,p1,p2,p3,p4,p5,p6,p7,p8⟩;have HQ:=Lib.hid (And.intro p1 (And.intro p2 (And.intro p3 (And.intro p4 (And.intro p5 (And.intro p6 (And.intro p7 p8)))))));clear p1 p2 p3 p4 p5 p6 p7 p8)
      refine hK.out _ _ trivial (fun hHeld=>?_)
      clear hK K
      try simp only [Act.put,sA1,sA2,sA3]
      refine wV 9 ?_
      refine wV 10 ?_
      refine wV 11 ?_
      refine wV 12 ?_
      refine wV 13 ?_
      try simp only [Act.put,sA1,sA2,sA3]
      refine wE 14 (fun K hK=>?_)
      (go_simp)
      refine hK.out _ _ trivial (fun hHeld=>?_)
      clear hK K
      try simp only [Act.put,sA1,sA2,sA3]
      have hx:=znb wP (.cells #[.slice none 0 0,.slice none 0 0] 42)
      have hxc:Chg [] wP (wP.alloc (.cells #[.slice none 0 0,.slice none 0 0] 42)):=(Chg.refl [] wP).alloc _
      generalize wP.alloc (.cells #[.slice none 0 0,.slice none 0 0] 42)=wX at *
      have k0:=zcb hx 0
      have k1:=zcb hx 1
      have f0:=zfb hx 0
      have f1:=zfb hx 1
      have lx:=zhl hx
      simp only [List.getElem?_toArray,List.getElem?_cons_zero,List.getElem?_cons_succ] at k0 k1
      refine wE 15 (fun K hK=>?_)
      (go_simp)
      refine hK.out _ _ trivial (fun hHeld=>?_)
      clear hK K
      try simp only [Act.put,sA1,sA2,sA3]
      refine wV 16 ?_
      refine wV 17 ?_
      refine wV 18 ?_
      try simp only [Act.put,sA1,sA2,sA3]
      refine wpAnyH_done (by kernel_rfl) ?_ _
      go_wp2_with fail
      go_meet
      have hxB:=zsb (zsb hx 0 (.slice (some ⟨g 0,0,none⟩) (nOf N 0) (c 0))) 1 (.slice (some ⟨g 1,0,none⟩) (nOf N 1) (c 1))
      have cB:=(((Chg.refl [wP.heap.size] wX).setCell (p:=⟨wP.heap.size,0,none⟩) (.inl (by simp)) (.slice (some ⟨g 0,0,none⟩) (nOf N 0) (c 0))).setCell (p:=⟨wP.heap.size,1,none⟩) (.inl (by simp)) (.slice (some ⟨g 1,0,none⟩) (nOf N 1) (c 1)))
      have q:=HQ.out
      have hz:w2.heap.size≤wP.heap.size:=by have h1:=HC2.out.size;have h2:=HQ.out.2.2.2.2.1.size;omega
      have hcw:Chg [p,t,bc,bk] w2 wX:=((HC2.out.mono (by simp)).trans q.2.2.2.2.1).trans (hxc.mono (by simp))
      exact ⟨rfl,Lib.hid (fm7_end (L:=[wP.heap.size]) hxB ((hxc.mono (by simp)).trans cB) q.1 q.2.1 q.2.2.1 q.2.2.2.1 ((hcw.setCell (.inr hz) _).setCell (.inr hz) _) (fun y hy=>by
       simp only [List.mem_singleton] at hy
       subst hy
       exact ⟨fun h=>by have:=(q.1.rowF (k:=0) (by omega)).2.2.1;omega,fun h=>by have:=(q.1.rowF (k:=1) (by omega)).2.2.1;omega,fun h=>by have:=q.2.1.lt_own _ h;omega,fun h=>by have:=q.2.2.1.lt_own _ h;omega,fun hm=>by have:=(HLP.out _ hm).2;omega⟩))⟩
     refine wD (fun K hK=>?_)
     ·(go_simp;have Mx3:=Lib.hid (znb W2 (.cells #[.slice none 0 0,.slice none 0 0] 42));have HCX:=Lib.hid (show w2.heap.size≤W2.heap.size from HC2.out.size);have Ma3:=Lib.hid ((((Chg.refl [] W2).alloc (.cells #[.slice none 0 0,.slice none 0 0] 42)).block _ (zhl Ma2.out) (by simp)).trans Ma2.out);have Mb3:=Lib.hid ((((Chg.refl [] W2).alloc (.cells #[.slice none 0 0,.slice none 0 0] 42)).block _ (zhl Mb2.out) (by simp)).trans Mb2.out);have HC3:=Lib.hid (HC2.out.alloc (.cells #[.slice none 0 0,.slice none 0 0] 42));generalize W2.alloc _=W3 at *)
      refine hK.out _ _ trivial (fun hHeld=>?_)
      clear hK K
      try simp only [Act.put,sA1,sA2,sA3]
      refine wE 8 (fun K hK=>?_)
      (go_simp;refine (fpl_at hN (HP.out.chg HC3.out (by simp) (by simp) (by simp) (by simp)) Ma3.out Mb3.out).mono ?_;rintro e wP ⟨z0,z1,g,c,rfl,p1,p2,p3,p4,p5,p6,p7,p8⟩;have HQ:=Lib.hid (And.intro p1 (And.intro p2 (And.intro p3 (And.intro p4 (And.intro p5 (And.intro p6 (And.intro p7 p8)))))));clear p1 p2 p3 p4 p5 p6 p7 p8)
      refine hK.out _ _ trivial (fun hHeld=>?_)
      clear hK K
      try simp only [Act.put,sA1,sA2,sA3]
      refine wV 9 ?_
      refine wV 10 ?_
      refine wV 11 ?_
      refine wV 12 ?_
      refine wV 13 ?_
      try simp only [Act.put,sA1,sA2,sA3]
      have hxl:=zhl Mx3.out
      have hxg:W2.heap.size∉[p,t,bc,bk]:=fun hm=>by have h1:=(HLP.out _ hm).2;have h2:=HCX.out;omega
      have hx:=(HQ.out.2.2.2.2.1.block _ hxl hxg).trans Mx3.out
      have hxc:Chg [] wP wP:=Chg.refl _ _
      obtain ⟨wX,hwX⟩:∃ wX,wX=wP:=⟨_,rfl⟩
      rw [← hwX] at hx ⊢
      have hxc:Chg [] wP wX:=by rw [hwX];exact Chg.refl _ _
      clear hwX
      have k0:=zcb hx 0
      have k1:=zcb hx 1
      have f0:=zfb hx 0
      have f1:=zfb hx 1
      have lx:=zhl hx
      simp only [List.getElem?_toArray,List.getElem?_cons_zero,List.getElem?_cons_succ] at k0 k1
      refine wE 15 (fun K hK=>?_)
      (go_simp)
      refine hK.out _ _ trivial (fun hHeld=>?_)
      clear hK K
      try simp only [Act.put,sA1,sA2,sA3]
      refine wV 16 ?_
      refine wV 17 ?_
      refine wV 18 ?_
      try simp only [Act.put,sA1,sA2,sA3]
      refine wpAnyH_done (by kernel_rfl) ?_ _
      go_wp2_with fail
      go_meet
      have hxB:=zsb (zsb hx 0 (.slice (some ⟨g 0,0,none⟩) (nOf N 0) (c 0))) 1 (.slice (some ⟨g 1,0,none⟩) (nOf N 1) (c 1))
      have cB:=(((Chg.refl [W2.heap.size] wX).setCell (p:=⟨W2.heap.size,0,none⟩) (.inl (by simp)) (.slice (some ⟨g 0,0,none⟩) (nOf N 0) (c 0))).setCell (p:=⟨W2.heap.size,1,none⟩) (.inl (by simp)) (.slice (some ⟨g 1,0,none⟩) (nOf N 1) (c 1)))
      have q:=HQ.out
      have hz:w2.heap.size≤W2.heap.size:=HCX.out
      have hcw:Chg [p,t,bc,bk] w2 wX:=((HC3.out.mono (by simp)).trans q.2.2.2.2.1).trans (hxc.mono (by simp))
      exact ⟨rfl,Lib.hid (fm7_end (L:=[W2.heap.size]) hxB ((hxc.mono (by simp)).trans cB) q.1 q.2.1 q.2.2.1 q.2.2.2.1 ((hcw.setCell (.inr hz) _).setCell (.inr hz) _) (fun y hy=>by
       simp only [List.mem_singleton] at hy
       subst hy
       exact ⟨fun h=>by have:=q.2.2.2.2.2.1 0 (by omega);omega,fun h=>by have:=q.2.2.2.2.2.1 1 (by omega);omega,fun h=>by have:=q.2.2.2.2.2.2.1 _ h;omega,fun h=>by have:=q.2.2.2.2.2.2.2 _ h;omega,hxg⟩))⟩
    refine wD (fun K hK=>?_)
    ·(go_simp;have Mx2:=Lib.hid (znb W1 (.cells #[.slice none 0 0,.slice none 0 0] 42));have HCX:=Lib.hid (show w2.heap.size≤W1.heap.size from HC1.out.size);have Ma2:=Lib.hid ((((Chg.refl [] W1).alloc (.cells #[.slice none 0 0,.slice none 0 0] 42)).block _ (zhl Ma1.out) (by simp)).trans Ma1.out);have HC2:=Lib.hid (HC1.out.alloc (.cells #[.slice none 0 0,.slice none 0 0] 42));generalize W1.alloc _=W2 at *)
     refine hK.out _ _ trivial (fun hHeld=>?_)
     clear hK K
     try simp only [Act.put,sA1,sA2,sA3]
     refine wE 6 (fun K hK=>?_)
     (have mk:=MKB.out;go_simp;clear mk;have Mb3:=Lib.hid (znb W2 (.cells (zrow (pg (pg N)) (.int .i64 0)) 3));have Ma3:=Lib.hid ((((Chg.refl [] W2).alloc (.cells (zrow (pg (pg N)) (.int .i64 0)) 3)).block _ (zhl Ma2.out) (by simp)).trans Ma2.out);have Mx3:=Lib.hid ((((Chg.refl [] W2).alloc (.cells (zrow (pg (pg N)) (.int .i64 0)) 3)).block _ (zhl Mx2.out) (by simp)).trans Mx2.out);have HC3:=Lib.hid (HC2.out.alloc (.cells (zrow (pg (pg N)) (.int .i64 0)) 3));generalize W2.alloc _=W3 at *)
     refine hK.out _ _ trivial (fun hHeld=>?_)
     clear hK K
     try simp only [Act.put,sA1,sA2,sA3]
     refine wV 7 ?_
     try simp only [Act.put,sA1,sA2,sA3]
     refine wE 8 (fun K hK=>?_)
     (go_simp;refine (fpl_at hN (HP.out.chg HC3.out (by simp) (by simp) (by simp) (by simp)) Ma3.out Mb3.out).mono ?_;rintro e wP ⟨z0,z1,g,c,rfl,p1,p2,p3,p4,p5,p6,p7,p8⟩;have HQ:=Lib.hid (And.intro p1 (And.intro p2 (And.intro p3 (And.intro p4 (And.intro p5 (And.intro p6 (And.intro p7 p8)))))));clear p1 p2 p3 p4 p5 p6 p7 p8)
     refine hK.out _ _ trivial (fun hHeld=>?_)
     clear hK K
     try simp only [Act.put,sA1,sA2,sA3]
     refine wV 9 ?_
     refine wV 10 ?_
     refine wV 11 ?_
     refine wV 12 ?_
     refine wV 13 ?_
     try simp only [Act.put,sA1,sA2,sA3]
     have hxl:=zhl Mx3.out
     have hxg:W1.heap.size∉[p,t,bc,bk]:=fun hm=>by have h1:=(HLP.out _ hm).2;have h2:=HCX.out;omega
     have hx:=(HQ.out.2.2.2.2.1.block _ hxl hxg).trans Mx3.out
     have hxc:Chg [] wP wP:=Chg.refl _ _
     obtain ⟨wX,hwX⟩:∃ wX,wX=wP:=⟨_,rfl⟩
     rw [← hwX] at hx ⊢
     have hxc:Chg [] wP wX:=by rw [hwX];exact Chg.refl _ _
     clear hwX
     have k0:=zcb hx 0
     have k1:=zcb hx 1
     have f0:=zfb hx 0
     have f1:=zfb hx 1
     have lx:=zhl hx
     simp only [List.getElem?_toArray,List.getElem?_cons_zero,List.getElem?_cons_succ] at k0 k1
     refine wE 15 (fun K hK=>?_)
     (go_simp)
     refine hK.out _ _ trivial (fun hHeld=>?_)
     clear hK K
     try simp only [Act.put,sA1,sA2,sA3]
     refine wV 16 ?_
     refine wV 17 ?_
     refine wV 18 ?_
     try simp only [Act.put,sA1,sA2,sA3]
     refine wpAnyH_done (by kernel_rfl) ?_ _
     go_wp2_with fail
     go_meet
     have hxB:=zsb (zsb hx 0 (.slice (some ⟨g 0,0,none⟩) (nOf N 0) (c 0))) 1 (.slice (some ⟨g 1,0,none⟩) (nOf N 1) (c 1))
     have cB:=(((Chg.refl [W1.heap.size] wX).setCell (p:=⟨W1.heap.size,0,none⟩) (.inl (by simp)) (.slice (some ⟨g 0,0,none⟩) (nOf N 0) (c 0))).setCell (p:=⟨W1.heap.size,1,none⟩) (.inl (by simp)) (.slice (some ⟨g 1,0,none⟩) (nOf N 1) (c 1)))
     have q:=HQ.out
     have hz:w2.heap.size≤W1.heap.size:=HCX.out
     have hcw:Chg [p,t,bc,bk] w2 wX:=((HC3.out.mono (by simp)).trans q.2.2.2.2.1).trans (hxc.mono (by simp))
     exact ⟨rfl,Lib.hid (fm7_end (L:=[W1.heap.size]) hxB ((hxc.mono (by simp)).trans cB) q.1 q.2.1 q.2.2.1 q.2.2.2.1 ((hcw.setCell (.inr hz) _).setCell (.inr hz) _) (fun y hy=>by
      simp only [List.mem_singleton] at hy
      subst hy
      exact ⟨fun h=>by have:=q.2.2.2.2.2.1 0 (by omega);omega,fun h=>by have:=q.2.2.2.2.2.1 1 (by omega);omega,fun h=>by have:=q.2.2.2.2.2.2.1 _ h;omega,fun h=>by have:=q.2.2.2.2.2.2.2 _ h;omega,hxg⟩))⟩
   refine wC (fun K hK=>?_) ?_
   ·(have mk:=MKB.out;go_simp;clear mk;have Mb1:=Lib.hid (znb W0 (.cells (zrow (pg (pg N)) (.int .i64 0)) 3));have HC1:=Lib.hid (HC.out.alloc (.cells (zrow (pg (pg N)) (.int .i64 0)) 3));generalize W0.alloc _=W1 at *)
    refine hK.out _ _ trivial (fun hHeld=>?_)
    clear hK K
    try simp only [Act.put,sA1,sA2,sA3]
    refine wR [3,14] ?_
    refine wC (fun K hK=>?_) ?_
    ·(have mk:=MKA.out;go_simp;clear mk;have Ma2:=Lib.hid (znb W1 (.cells (zrow (pg N) (.int .i64 0)) 3));have Mb2:=Lib.hid ((((Chg.refl [] W1).alloc (.cells (zrow (pg N) (.int .i64 0)) 3)).block _ (zhl Mb1.out) (by simp)).trans Mb1.out);have HC2:=Lib.hid (HC1.out.alloc (.cells (zrow (pg N) (.int .i64 0)) 3));generalize W1.alloc _=W2 at *)
     refine hK.out _ _ trivial (fun hHeld=>?_)
     clear hK K
     try simp only [Act.put,sA1,sA2,sA3]
     refine wV 7 ?_
     try simp only [Act.put,sA1,sA2,sA3]
     refine wR [8,14] ?_
     refine wC (fun K hK=>?_) ?_
     ·(go_simp;refine (fpl_at hN (HP.out.chg HC2.out (by simp) (by simp) (by simp) (by simp)) Ma2.out Mb2.out).mono ?_;rintro e wP ⟨z0,z1,g,c,rfl,p1,p2,p3,p4,p5,p6,p7,p8⟩;have HQ:=Lib.hid (And.intro p1 (And.intro p2 (And.intro p3 (And.intro p4 (And.intro p5 (And.intro p6 (And.intro p7 p8)))))));clear p1 p2 p3 p4 p5 p6 p7 p8)
      refine hK.out _ _ trivial (fun hHeld=>?_)
      clear hK K
      try simp only [Act.put,sA1,sA2,sA3]
      refine wV 9 ?_
      refine wV 10 ?_
      refine wV 11 ?_
      refine wV 12 ?_
      refine wV 13 ?_
      try simp only [Act.put,sA1,sA2,sA3]
      refine wE 14 (fun K hK=>?_)
      (go_simp)
      refine hK.out _ _ trivial (fun hHeld=>?_)
      clear hK K
      try simp only [Act.put,sA1,sA2,sA3]
      have hx:=znb wP (.cells #[.slice none 0 0,.slice none 0 0] 42)
      have hxc:Chg [] wP (wP.alloc (.cells #[.slice none 0 0,.slice none 0 0] 42)):=(Chg.refl [] wP).alloc _
      generalize wP.alloc (.cells #[.slice none 0 0,.slice none 0 0] 42)=wX at *
      have k0:=zcb hx 0
      have k1:=zcb hx 1
      have f0:=zfb hx 0
      have f1:=zfb hx 1
      have lx:=zhl hx
      simp only [List.getElem?_toArray,List.getElem?_cons_zero,List.getElem?_cons_succ] at k0 k1
      refine wE 15 (fun K hK=>?_)
      (go_simp)
      refine hK.out _ _ trivial (fun hHeld=>?_)
      clear hK K
      try simp only [Act.put,sA1,sA2,sA3]
      refine wV 16 ?_
      refine wV 17 ?_
      refine wV 18 ?_
      try simp only [Act.put,sA1,sA2,sA3]
      refine wpAnyH_done (by kernel_rfl) ?_ _
      go_wp2_with fail
      go_meet
      have hxB:=zsb (zsb hx 0 (.slice (some ⟨g 0,0,none⟩) (nOf N 0) (c 0))) 1 (.slice (some ⟨g 1,0,none⟩) (nOf N 1) (c 1))
      have cB:=(((Chg.refl [wP.heap.size] wX).setCell (p:=⟨wP.heap.size,0,none⟩) (.inl (by simp)) (.slice (some ⟨g 0,0,none⟩) (nOf N 0) (c 0))).setCell (p:=⟨wP.heap.size,1,none⟩) (.inl (by simp)) (.slice (some ⟨g 1,0,none⟩) (nOf N 1) (c 1)))
      have q:=HQ.out
      have hz:w2.heap.size≤wP.heap.size:=by have h1:=HC2.out.size;have h2:=HQ.out.2.2.2.2.1.size;omega
      have hcw:Chg [p,t,bc,bk] w2 wX:=((HC2.out.mono (by simp)).trans q.2.2.2.2.1).trans (hxc.mono (by simp))
      exact ⟨rfl,Lib.hid (fm7_end (L:=[wP.heap.size]) hxB ((hxc.mono (by simp)).trans cB) q.1 q.2.1 q.2.2.1 q.2.2.2.1 ((hcw.setCell (.inr hz) _).setCell (.inr hz) _) (fun y hy=>by
       simp only [List.mem_singleton] at hy
       subst hy
       exact ⟨fun h=>by have:=(q.1.rowF (k:=0) (by omega)).2.2.1;omega,fun h=>by have:=(q.1.rowF (k:=1) (by omega)).2.2.1;omega,fun h=>by have:=q.2.1.lt_own _ h;omega,fun h=>by have:=q.2.2.1.lt_own _ h;omega,fun hm=>by have:=(HLP.out _ hm).2;omega⟩))⟩
     refine wD (fun K hK=>?_)
     ·(go_simp;have Mx3:=Lib.hid (znb W2 (.cells #[.slice none 0 0,.slice none 0 0] 42));have HCX:=Lib.hid (show w2.heap.size≤W2.heap.size from HC2.out.size);have Mb3:=Lib.hid ((((Chg.refl [] W2).alloc (.cells #[.slice none 0 0,.slice none 0 0] 42)).block _ (zhl Mb2.out) (by simp)).trans Mb2.out);have Ma3:=Lib.hid ((((Chg.refl [] W2).alloc (.cells #[.slice none 0 0,.slice none 0 0] 42)).block _ (zhl Ma2.out) (by simp)).trans Ma2.out);have HC3:=Lib.hid (HC2.out.alloc (.cells #[.slice none 0 0,.slice none 0 0] 42));generalize W2.alloc _=W3 at *)
      refine hK.out _ _ trivial (fun hHeld=>?_)
      clear hK K
      try simp only [Act.put,sA1,sA2,sA3]
      refine wE 8 (fun K hK=>?_)
      (go_simp;refine (fpl_at hN (HP.out.chg HC3.out (by simp) (by simp) (by simp) (by simp)) Ma3.out Mb3.out).mono ?_;rintro e wP ⟨z0,z1,g,c,rfl,p1,p2,p3,p4,p5,p6,p7,p8⟩;have HQ:=Lib.hid (And.intro p1 (And.intro p2 (And.intro p3 (And.intro p4 (And.intro p5 (And.intro p6 (And.intro p7 p8)))))));clear p1 p2 p3 p4 p5 p6 p7 p8)
      refine hK.out _ _ trivial (fun hHeld=>?_)
      clear hK K
      try simp only [Act.put,sA1,sA2,sA3]
      refine wV 9 ?_
      refine wV 10 ?_
      refine wV 11 ?_
      refine wV 12 ?_
      refine wV 13 ?_
      try simp only [Act.put,sA1,sA2,sA3]
      have hxl:=zhl Mx3.out
      have hxg:W2.heap.size∉[p,t,bc,bk]:=fun hm=>by have h1:=(HLP.out _ hm).2;have h2:=HCX.out;omega
      have hx:=(HQ.out.2.2.2.2.1.block _ hxl hxg).trans Mx3.out
      have hxc:Chg [] wP wP:=Chg.refl _ _
      obtain ⟨wX,hwX⟩:∃ wX,wX=wP:=⟨_,rfl⟩
      rw [← hwX] at hx ⊢
      have hxc:Chg [] wP wX:=by rw [hwX];exact Chg.refl _ _
      clear hwX
      have k0:=zcb hx 0
      have k1:=zcb hx 1
      have f0:=zfb hx 0
      have f1:=zfb hx 1
      have lx:=zhl hx
      simp only [List.getElem?_toArray,List.getElem?_cons_zero,List.getElem?_cons_succ] at k0 k1
      refine wE 15 (fun K hK=>?_)
      (go_simp)
      refine hK.out _ _ trivial (fun hHeld=>?_)
      clear hK K
      try simp only [Act.put,sA1,sA2,sA3]
      refine wV 16 ?_
      refine wV 17 ?_
      refine wV 18 ?_
      try simp only [Act.put,sA1,sA2,sA3]
      refine wpAnyH_done (by kernel_rfl) ?_ _
      go_wp2_with fail
      go_meet
      have hxB:=zsb (zsb hx 0 (.slice (some ⟨g 0,0,none⟩) (nOf N 0) (c 0))) 1 (.slice (some ⟨g 1,0,none⟩) (nOf N 1) (c 1))
      have cB:=(((Chg.refl [W2.heap.size] wX).setCell (p:=⟨W2.heap.size,0,none⟩) (.inl (by simp)) (.slice (some ⟨g 0,0,none⟩) (nOf N 0) (c 0))).setCell (p:=⟨W2.heap.size,1,none⟩) (.inl (by simp)) (.slice (some ⟨g 1,0,none⟩) (nOf N 1) (c 1)))
      have q:=HQ.out
      have hz:w2.heap.size≤W2.heap.size:=HCX.out
      have hcw:Chg [p,t,bc,bk] w2 wX:=((HC3.out.mono (by simp)).trans q.2.2.2.2.1).trans (hxc.mono (by simp))
      exact ⟨rfl,Lib.hid (fm7_end (L:=[W2.heap.size]) hxB ((hxc.mono (by simp)).trans cB) q.1 q.2.1 q.2.2.1 q.2.2.2.1 ((hcw.setCell (.inr hz) _).setCell (.inr hz) _) (fun y hy=>by
       simp only [List.mem_singleton] at hy
       subst hy
       exact ⟨fun h=>by have:=q.2.2.2.2.2.1 0 (by omega);omega,fun h=>by have:=q.2.2.2.2.2.1 1 (by omega);omega,fun h=>by have:=q.2.2.2.2.2.2.1 _ h;omega,fun h=>by have:=q.2.2.2.2.2.2.2 _ h;omega,hxg⟩))⟩
    refine wD (fun K hK=>?_)
    ·(go_simp;have Mx2:=Lib.hid (znb W1 (.cells #[.slice none 0 0,.slice none 0 0] 42));have HCX:=Lib.hid (show w2.heap.size≤W1.heap.size from HC1.out.size);have Mb2:=Lib.hid ((((Chg.refl [] W1).alloc (.cells #[.slice none 0 0,.slice none 0 0] 42)).block _ (zhl Mb1.out) (by simp)).trans Mb1.out);have HC2:=Lib.hid (HC1.out.alloc (.cells #[.slice none 0 0,.slice none 0 0] 42));generalize W1.alloc _=W2 at *)
     refine hK.out _ _ trivial (fun hHeld=>?_)
     clear hK K
     try simp only [Act.put,sA1,sA2,sA3]
     refine wE 3 (fun K hK=>?_)
     (have mk:=MKA.out;go_simp;clear mk;have Ma3:=Lib.hid (znb W2 (.cells (zrow (pg N) (.int .i64 0)) 3));have Mb3:=Lib.hid ((((Chg.refl [] W2).alloc (.cells (zrow (pg N) (.int .i64 0)) 3)).block _ (zhl Mb2.out) (by simp)).trans Mb2.out);have Mx3:=Lib.hid ((((Chg.refl [] W2).alloc (.cells (zrow (pg N) (.int .i64 0)) 3)).block _ (zhl Mx2.out) (by simp)).trans Mx2.out);have HC3:=Lib.hid (HC2.out.alloc (.cells (zrow (pg N) (.int .i64 0)) 3));generalize W2.alloc _=W3 at *)
     refine hK.out _ _ trivial (fun hHeld=>?_)
     clear hK K
     try simp only [Act.put,sA1,sA2,sA3]
     refine wV 7 ?_
     try simp only [Act.put,sA1,sA2,sA3]
     refine wE 8 (fun K hK=>?_)
     (go_simp;refine (fpl_at hN (HP.out.chg HC3.out (by simp) (by simp) (by simp) (by simp)) Ma3.out Mb3.out).mono ?_;rintro e wP ⟨z0,z1,g,c,rfl,p1,p2,p3,p4,p5,p6,p7,p8⟩;have HQ:=Lib.hid (And.intro p1 (And.intro p2 (And.intro p3 (And.intro p4 (And.intro p5 (And.intro p6 (And.intro p7 p8)))))));clear p1 p2 p3 p4 p5 p6 p7 p8)
     refine hK.out _ _ trivial (fun hHeld=>?_)
     clear hK K
     try simp only [Act.put,sA1,sA2,sA3]
     refine wV 9 ?_
     refine wV 10 ?_
     refine wV 11 ?_
     refine wV 12 ?_
     refine wV 13 ?_
     try simp only [Act.put,sA1,sA2,sA3]
     have hxl:=zhl Mx3.out
     have hxg:W1.heap.size∉[p,t,bc,bk]:=fun hm=>by have h1:=(HLP.out _ hm).2;have h2:=HCX.out;omega
     have hx:=(HQ.out.2.2.2.2.1.block _ hxl hxg).trans Mx3.out
     have hxc:Chg [] wP wP:=Chg.refl _ _
     obtain ⟨wX,hwX⟩:∃ wX,wX=wP:=⟨_,rfl⟩
     rw [← hwX] at hx ⊢
     have hxc:Chg [] wP wX:=by rw [hwX];exact Chg.refl _ _
     clear hwX
     have k0:=zcb hx 0
     have k1:=zcb hx 1
     have f0:=zfb hx 0
     have f1:=zfb hx 1
     have lx:=zhl hx
     simp only [List.getElem?_toArray,List.getElem?_cons_zero,List.getElem?_cons_succ] at k0 k1
     refine wE 15 (fun K hK=>?_)
     (go_simp)
     refine hK.out _ _ trivial (fun hHeld=>?_)
     clear hK K
     try simp only [Act.put,sA1,sA2,sA3]
     refine wV 16 ?_
     refine wV 17 ?_
     refine wV 18 ?_
     try simp only [Act.put,sA1,sA2,sA3]
     refine wpAnyH_done (by kernel_rfl) ?_ _
     go_wp2_with fail
     go_meet
     have hxB:=zsb (zsb hx 0 (.slice (some ⟨g 0,0,none⟩) (nOf N 0) (c 0))) 1 (.slice (some ⟨g 1,0,none⟩) (nOf N 1) (c 1))
     have cB:=(((Chg.refl [W1.heap.size] wX).setCell (p:=⟨W1.heap.size,0,none⟩) (.inl (by simp)) (.slice (some ⟨g 0,0,none⟩) (nOf N 0) (c 0))).setCell (p:=⟨W1.heap.size,1,none⟩) (.inl (by simp)) (.slice (some ⟨g 1,0,none⟩) (nOf N 1) (c 1)))
     have q:=HQ.out
     have hz:w2.heap.size≤W1.heap.size:=HCX.out
     have hcw:Chg [p,t,bc,bk] w2 wX:=((HC3.out.mono (by simp)).trans q.2.2.2.2.1).trans (hxc.mono (by simp))
     exact ⟨rfl,Lib.hid (fm7_end (L:=[W1.heap.size]) hxB ((hxc.mono (by simp)).trans cB) q.1 q.2.1 q.2.2.1 q.2.2.2.1 ((hcw.setCell (.inr hz) _).setCell (.inr hz) _) (fun y hy=>by
      simp only [List.mem_singleton] at hy
      subst hy
      exact ⟨fun h=>by have:=q.2.2.2.2.2.1 0 (by omega);omega,fun h=>by have:=q.2.2.2.2.2.1 1 (by omega);omega,fun h=>by have:=q.2.2.2.2.2.2.1 _ h;omega,fun h=>by have:=q.2.2.2.2.2.2.2 _ h;omega,hxg⟩))⟩
   refine wD (fun K hK=>?_)
   ·(go_simp;have Mx1:=Lib.hid (znb W0 (.cells #[.slice none 0 0,.slice none 0 0] 42));have HCX:=Lib.hid (show w2.heap.size≤W0.heap.size from HC.out.size);have HC1:=Lib.hid (HC.out.alloc (.cells #[.slice none 0 0,.slice none 0 0] 42));generalize W0.alloc _=W1 at *)
    refine hK.out _ _ trivial (fun hHeld=>?_)
    clear hK K
    try simp only [Act.put,sA1,sA2,sA3]
    refine wR [3,6] ?_
    refine wC (fun K hK=>?_) ?_
    ·(have mk:=MKA.out;go_simp;clear mk;have Ma2:=Lib.hid (znb W1 (.cells (zrow (pg N) (.int .i64 0)) 3));have Mx2:=Lib.hid ((((Chg.refl [] W1).alloc (.cells (zrow (pg N) (.int .i64 0)) 3)).block _ (zhl Mx1.out) (by simp)).trans Mx1.out);have HC2:=Lib.hid (HC1.out.alloc (.cells (zrow (pg N) (.int .i64 0)) 3));generalize W1.alloc _=W2 at *)
     refine hK.out _ _ trivial (fun hHeld=>?_)
     clear hK K
     try simp only [Act.put,sA1,sA2,sA3]
     refine wE 6 (fun K hK=>?_)
     (have mk:=MKB.out;go_simp;clear mk;have Mb3:=Lib.hid (znb W2 (.cells (zrow (pg (pg N)) (.int .i64 0)) 3));have Mx3:=Lib.hid ((((Chg.refl [] W2).alloc (.cells (zrow (pg (pg N)) (.int .i64 0)) 3)).block _ (zhl Mx2.out) (by simp)).trans Mx2.out);have Ma3:=Lib.hid ((((Chg.refl [] W2).alloc (.cells (zrow (pg (pg N)) (.int .i64 0)) 3)).block _ (zhl Ma2.out) (by simp)).trans Ma2.out);have HC3:=Lib.hid (HC2.out.alloc (.cells (zrow (pg (pg N)) (.int .i64 0)) 3));generalize W2.alloc _=W3 at *)
     refine hK.out _ _ trivial (fun hHeld=>?_)
     clear hK K
     try simp only [Act.put,sA1,sA2,sA3]
     refine wV 7 ?_
     try simp only [Act.put,sA1,sA2,sA3]
     refine wE 8 (fun K hK=>?_)
     (go_simp;refine (fpl_at hN (HP.out.chg HC3.out (by simp) (by simp) (by simp) (by simp)) Ma3.out Mb3.out).mono ?_;rintro e wP ⟨z0,z1,g,c,rfl,p1,p2,p3,p4,p5,p6,p7,p8⟩;have HQ:=Lib.hid (And.intro p1 (And.intro p2 (And.intro p3 (And.intro p4 (And.intro p5 (And.intro p6 (And.intro p7 p8)))))));clear p1 p2 p3 p4 p5 p6 p7 p8)
     refine hK.out _ _ trivial (fun hHeld=>?_)
     clear hK K
     try simp only [Act.put,sA1,sA2,sA3]
     refine wV 9 ?_
     refine wV 10 ?_
     refine wV 11 ?_
     refine wV 12 ?_
     refine wV 13 ?_
     try simp only [Act.put,sA1,sA2,sA3]
     have hxl:=zhl Mx3.out
     have hxg:W0.heap.size∉[p,t,bc,bk]:=fun hm=>by have h1:=(HLP.out _ hm).2;have h2:=HCX.out;omega
     have hx:=(HQ.out.2.2.2.2.1.block _ hxl hxg).trans Mx3.out
     have hxc:Chg [] wP wP:=Chg.refl _ _
     obtain ⟨wX,hwX⟩:∃ wX,wX=wP:=⟨_,rfl⟩
     rw [← hwX] at hx ⊢
     have hxc:Chg [] wP wX:=by rw [hwX];exact Chg.refl _ _
     clear hwX
     have k0:=zcb hx 0
     have k1:=zcb hx 1
     have f0:=zfb hx 0
     have f1:=zfb hx 1
     have lx:=zhl hx
     simp only [List.getElem?_toArray,List.getElem?_cons_zero,List.getElem?_cons_succ] at k0 k1
     refine wE 15 (fun K hK=>?_)
     (go_simp)
     refine hK.out _ _ trivial (fun hHeld=>?_)
     clear hK K
     try simp only [Act.put,sA1,sA2,sA3]
     refine wV 16 ?_
     refine wV 17 ?_
     refine wV 18 ?_
     try simp only [Act.put,sA1,sA2,sA3]
     refine wpAnyH_done (by kernel_rfl) ?_ _
     go_wp2_with fail
     go_meet
     have hxB:=zsb (zsb hx 0 (.slice (some ⟨g 0,0,none⟩) (nOf N 0) (c 0))) 1 (.slice (some ⟨g 1,0,none⟩) (nOf N 1) (c 1))
     have cB:=(((Chg.refl [W0.heap.size] wX).setCell (p:=⟨W0.heap.size,0,none⟩) (.inl (by simp)) (.slice (some ⟨g 0,0,none⟩) (nOf N 0) (c 0))).setCell (p:=⟨W0.heap.size,1,none⟩) (.inl (by simp)) (.slice (some ⟨g 1,0,none⟩) (nOf N 1) (c 1)))
     have q:=HQ.out
     have hz:w2.heap.size≤W0.heap.size:=HCX.out
     have hcw:Chg [p,t,bc,bk] w2 wX:=((HC3.out.mono (by simp)).trans q.2.2.2.2.1).trans (hxc.mono (by simp))
     exact ⟨rfl,Lib.hid (fm7_end (L:=[W0.heap.size]) hxB ((hxc.mono (by simp)).trans cB) q.1 q.2.1 q.2.2.1 q.2.2.2.1 ((hcw.setCell (.inr hz) _).setCell (.inr hz) _) (fun y hy=>by
      simp only [List.mem_singleton] at hy
      subst hy
      exact ⟨fun h=>by have:=q.2.2.2.2.2.1 0 (by omega);omega,fun h=>by have:=q.2.2.2.2.2.1 1 (by omega);omega,fun h=>by have:=q.2.2.2.2.2.2.1 _ h;omega,fun h=>by have:=q.2.2.2.2.2.2.2 _ h;omega,hxg⟩))⟩
    refine wD (fun K hK=>?_)
    ·(have mk:=MKB.out;go_simp;clear mk;have Mb2:=Lib.hid (znb W1 (.cells (zrow (pg (pg N)) (.int .i64 0)) 3));have Mx2:=Lib.hid ((((Chg.refl [] W1).alloc (.cells (zrow (pg (pg N)) (.int .i64 0)) 3)).block _ (zhl Mx1.out) (by simp)).trans Mx1.out);have HC2:=Lib.hid (HC1.out.alloc (.cells (zrow (pg (pg N)) (.int .i64 0)) 3));generalize W1.alloc _=W2 at *)
     refine hK.out _ _ trivial (fun hHeld=>?_)
     clear hK K
     try simp only [Act.put,sA1,sA2,sA3]
     refine wE 3 (fun K hK=>?_)
     (have mk:=MKA.out;go_simp;clear mk;have Ma3:=Lib.hid (znb W2 (.cells (zrow (pg N) (.int .i64 0)) 3));have Mx3:=Lib.hid ((((Chg.refl [] W2).alloc (.cells (zrow (pg N) (.int .i64 0)) 3)).block _ (zhl Mx2.out) (by simp)).trans Mx2.out);have Mb3:=Lib.hid ((((Chg.refl [] W2).alloc (.cells (zrow (pg N) (.int .i64 0)) 3)).block _ (zhl Mb2.out) (by simp)).trans Mb2.out);have HC3:=Lib.hid (HC2.out.alloc (.cells (zrow (pg N) (.int .i64 0)) 3));generalize W2.alloc _=W3 at *)
     refine hK.out _ _ trivial (fun hHeld=>?_)
     clear hK K
     try simp only [Act.put,sA1,sA2,sA3]
     refine wV 7 ?_
     try simp only [Act.put,sA1,sA2,sA3]
     refine wE 8 (fun K hK=>?_)
     (go_simp;refine (fpl_at hN (HP.out.chg HC3.out (by simp) (by simp) (by simp) (by simp)) Ma3.out Mb3.out).mono ?_;rintro e wP ⟨z0,z1,g,c,rfl,p1,p2,p3,p4,p5,p6,p7,p8⟩;have HQ:=Lib.hid (And.intro p1 (And.intro p2 (And.intro p3 (And.intro p4 (And.intro p5 (And.intro p6 (And.intro p7 p8)))))));clear p1 p2 p3 p4 p5 p6 p7 p8)
     refine hK.out _ _ trivial (fun hHeld=>?_)
     clear hK K
     try simp only [Act.put,sA1,sA2,sA3]
     refine wV 9 ?_
     refine wV 10 ?_
     refine wV 11 ?_
     refine wV 12 ?_
     refine wV 13 ?_
     try simp only [Act.put,sA1,sA2,sA3]
     have hxl:=zhl Mx3.out
     have hxg:W0.heap.size∉[p,t,bc,bk]:=fun hm=>by have h1:=(HLP.out _ hm).2;have h2:=HCX.out;omega
     have hx:=(HQ.out.2.2.2.2.1.block _ hxl hxg).trans Mx3.out
     have hxc:Chg [] wP wP:=Chg.refl _ _
     obtain ⟨wX,hwX⟩:∃ wX,wX=wP:=⟨_,rfl⟩
     rw [← hwX] at hx ⊢
     have hxc:Chg [] wP wX:=by rw [hwX];exact Chg.refl _ _
     clear hwX
     have k0:=zcb hx 0
     have k1:=zcb hx 1
     have f0:=zfb hx 0
     have f1:=zfb hx 1
     have lx:=zhl hx
     simp only [List.getElem?_toArray,List.getElem?_cons_zero,List.getElem?_cons_succ] at k0 k1
     refine wE 15 (fun K hK=>?_)
     (go_simp)
     refine hK.out _ _ trivial (fun hHeld=>?_)
     clear hK K
     try simp only [Act.put,sA1,sA2,sA3]
     refine wV 16 ?_
     refine wV 17 ?_
     refine wV 18 ?_
     try simp only [Act.put,sA1,sA2,sA3]
     refine wpAnyH_done (by kernel_rfl) ?_ _
     go_wp2_with fail
     go_meet
     have hxB:=zsb (zsb hx 0 (.slice (some ⟨g 0,0,none⟩) (nOf N 0) (c 0))) 1 (.slice (some ⟨g 1,0,none⟩) (nOf N 1) (c 1))
     have cB:=(((Chg.refl [W0.heap.size] wX).setCell (p:=⟨W0.heap.size,0,none⟩) (.inl (by simp)) (.slice (some ⟨g 0,0,none⟩) (nOf N 0) (c 0))).setCell (p:=⟨W0.heap.size,1,none⟩) (.inl (by simp)) (.slice (some ⟨g 1,0,none⟩) (nOf N 1) (c 1)))
     have q:=HQ.out
     have hz:w2.heap.size≤W0.heap.size:=HCX.out
     have hcw:Chg [p,t,bc,bk] w2 wX:=((HC3.out.mono (by simp)).trans q.2.2.2.2.1).trans (hxc.mono (by simp))
     exact ⟨rfl,Lib.hid (fm7_end (L:=[W0.heap.size]) hxB ((hxc.mono (by simp)).trans cB) q.1 q.2.1 q.2.2.1 q.2.2.2.1 ((hcw.setCell (.inr hz) _).setCell (.inr hz) _) (fun y hy=>by
      simp only [List.mem_singleton] at hy
      subst hy
      exact ⟨fun h=>by have:=q.2.2.2.2.2.1 0 (by omega);omega,fun h=>by have:=q.2.2.2.2.2.1 1 (by omega);omega,fun h=>by have:=q.2.2.2.2.2.2.1 _ h;omega,fun h=>by have:=q.2.2.2.2.2.2.2 _ h;omega,hxg⟩))⟩
  refine wD (fun K hK=>?_)
  ·(go_simp;have Mx1:=Lib.hid (znb W0 (.cells #[.slice none 0 0,.slice none 0 0] 42));have HCX:=Lib.hid (show w2.heap.size≤W0.heap.size from HC.out.size);have HC1:=Lib.hid (HC.out.alloc (.cells #[.slice none 0 0,.slice none 0 0] 42));generalize W0.alloc _=W1 at *)
   refine hK.out _ _ trivial (fun hHeld=>?_)
   clear hK K
   try simp only [Act.put,sA1,sA2,sA3]
   refine wR [3,5] ?_
   refine wC (fun K hK=>?_) ?_
   ·(have mk:=MKA.out;go_simp;clear mk;have Ma2:=Lib.hid (znb W1 (.cells (zrow (pg N) (.int .i64 0)) 3));have Mx2:=Lib.hid ((((Chg.refl [] W1).alloc (.cells (zrow (pg N) (.int .i64 0)) 3)).block _ (zhl Mx1.out) (by simp)).trans Mx1.out);have HC2:=Lib.hid (HC1.out.alloc (.cells (zrow (pg N) (.int .i64 0)) 3));generalize W1.alloc _=W2 at *)
    refine hK.out _ _ trivial (fun hHeld=>?_)
    clear hK K
    try simp only [Act.put,sA1,sA2,sA3]
    refine wE 5 (fun K hK=>?_)
    (go_simp;refine (CG.out _).mono ?_;rintro e w' ⟨rfl,rfl⟩)
    refine hK.out _ _ trivial (fun hHeld=>?_)
    clear hK K
    try simp only [Act.put,sA1,sA2,sA3]
    refine wE 6 (fun K hK=>?_)
    (have mk:=MKB.out;go_simp;clear mk;have Mb3:=Lib.hid (znb W2 (.cells (zrow (pg (pg N)) (.int .i64 0)) 3));have Mx3:=Lib.hid ((((Chg.refl [] W2).alloc (.cells (zrow (pg (pg N)) (.int .i64 0)) 3)).block _ (zhl Mx2.out) (by simp)).trans Mx2.out);have Ma3:=Lib.hid ((((Chg.refl [] W2).alloc (.cells (zrow (pg (pg N)) (.int .i64 0)) 3)).block _ (zhl Ma2.out) (by simp)).trans Ma2.out);have HC3:=Lib.hid (HC2.out.alloc (.cells (zrow (pg (pg N)) (.int .i64 0)) 3));generalize W2.alloc _=W3 at *)
    refine hK.out _ _ trivial (fun hHeld=>?_)
    clear hK K
    try simp only [Act.put,sA1,sA2,sA3]
    refine wV 7 ?_
    try simp only [Act.put,sA1,sA2,sA3]
    refine wE 8 (fun K hK=>?_)
    (go_simp;refine (fpl_at hN (HP.out.chg HC3.out (by simp) (by simp) (by simp) (by simp)) Ma3.out Mb3.out).mono ?_;rintro e wP ⟨z0,z1,g,c,rfl,p1,p2,p3,p4,p5,p6,p7,p8⟩;have HQ:=Lib.hid (And.intro p1 (And.intro p2 (And.intro p3 (And.intro p4 (And.intro p5 (And.intro p6 (And.intro p7 p8)))))));clear p1 p2 p3 p4 p5 p6 p7 p8)
    refine hK.out _ _ trivial (fun hHeld=>?_)
    clear hK K
    try simp only [Act.put,sA1,sA2,sA3]
    refine wV 9 ?_
    refine wV 10 ?_
    refine wV 11 ?_
    refine wV 12 ?_
    refine wV 13 ?_
    try simp only [Act.put,sA1,sA2,sA3]
    have hxl:=zhl Mx3.out
    have hxg:W0.heap.size∉[p,t,bc,bk]:=fun hm=>by have h1:=(HLP.out _ hm).2;have h2:=HCX.out;omega
    have hx:=(HQ.out.2.2.2.2.1.block _ hxl hxg).trans Mx3.out
    have hxc:Chg [] wP wP:=Chg.refl _ _
    obtain ⟨wX,hwX⟩:∃ wX,wX=wP:=⟨_,rfl⟩
    rw [← hwX] at hx ⊢
    have hxc:Chg [] wP wX:=by rw [hwX];exact Chg.refl _ _
    clear hwX
    have k0:=zcb hx 0
    have k1:=zcb hx 1
    have f0:=zfb hx 0
    have f1:=zfb hx 1
    have lx:=zhl hx
    simp only [List.getElem?_toArray,List.getElem?_cons_zero,List.getElem?_cons_succ] at k0 k1
    refine wE 15 (fun K hK=>?_)
    (go_simp)
    refine hK.out _ _ trivial (fun hHeld=>?_)
    clear hK K
    try simp only [Act.put,sA1,sA2,sA3]
    refine wV 16 ?_
    refine wV 17 ?_
    refine wV 18 ?_
    try simp only [Act.put,sA1,sA2,sA3]
    refine wpAnyH_done (by kernel_rfl) ?_ _
    go_wp2_with fail
    go_meet
    have hxB:=zsb (zsb hx 0 (.slice (some ⟨g 0,0,none⟩) (nOf N 0) (c 0))) 1 (.slice (some ⟨g 1,0,none⟩) (nOf N 1) (c 1))
    have cB:=(((Chg.refl [W0.heap.size] wX).setCell (p:=⟨W0.heap.size,0,none⟩) (.inl (by simp)) (.slice (some ⟨g 0,0,none⟩) (nOf N 0) (c 0))).setCell (p:=⟨W0.heap.size,1,none⟩) (.inl (by simp)) (.slice (some ⟨g 1,0,none⟩) (nOf N 1) (c 1)))
    have q:=HQ.out
    have hz:w2.heap.size≤W0.heap.size:=HCX.out
    have hcw:Chg [p,t,bc,bk] w2 wX:=((HC3.out.mono (by simp)).trans q.2.2.2.2.1).trans (hxc.mono (by simp))
    exact ⟨rfl,Lib.hid (fm7_end (L:=[W0.heap.size]) hxB ((hxc.mono (by simp)).trans cB) q.1 q.2.1 q.2.2.1 q.2.2.2.1 ((hcw.setCell (.inr hz) _).setCell (.inr hz) _) (fun y hy=>by
     simp only [List.mem_singleton] at hy
     subst hy
     exact ⟨fun h=>by have:=q.2.2.2.2.2.1 0 (by omega);omega,fun h=>by have:=q.2.2.2.2.2.1 1 (by omega);omega,fun h=>by have:=q.2.2.2.2.2.2.1 _ h;omega,fun h=>by have:=q.2.2.2.2.2.2.2 _ h;omega,hxg⟩))⟩
   refine wD (fun K hK=>?_)
   ·(go_simp;refine (CG.out _).mono ?_;rintro e w' ⟨rfl,rfl⟩)
    refine hK.out _ _ trivial (fun hHeld=>?_)
    clear hK K
    try simp only [Act.put,sA1,sA2,sA3]
    refine wR [3,6] ?_
    refine wC (fun K hK=>?_) ?_
    ·(have mk:=MKA.out;go_simp;clear mk;have Ma2:=Lib.hid (znb W1 (.cells (zrow (pg N) (.int .i64 0)) 3));have Mx2:=Lib.hid ((((Chg.refl [] W1).alloc (.cells (zrow (pg N) (.int .i64 0)) 3)).block _ (zhl Mx1.out) (by simp)).trans Mx1.out);have HC2:=Lib.hid (HC1.out.alloc (.cells (zrow (pg N) (.int .i64 0)) 3));generalize W1.alloc _=W2 at *)
     refine hK.out _ _ trivial (fun hHeld=>?_)
     clear hK K
     try simp only [Act.put,sA1,sA2,sA3]
     refine wE 6 (fun K hK=>?_)
     (have mk:=MKB.out;go_simp;clear mk;have Mb3:=Lib.hid (znb W2 (.cells (zrow (pg (pg N)) (.int .i64 0)) 3));have Mx3:=Lib.hid ((((Chg.refl [] W2).alloc (.cells (zrow (pg (pg N)) (.int .i64 0)) 3)).block _ (zhl Mx2.out) (by simp)).trans Mx2.out);have Ma3:=Lib.hid ((((Chg.refl [] W2).alloc (.cells (zrow (pg (pg N)) (.int .i64 0)) 3)).block _ (zhl Ma2.out) (by simp)).trans Ma2.out);have HC3:=Lib.hid (HC2.out.alloc (.cells (zrow (pg (pg N)) (.int .i64 0)) 3));generalize W2.alloc _=W3 at *)
     refine hK.out _ _ trivial (fun hHeld=>?_)
     clear hK K
     try simp only [Act.put,sA1,sA2,sA3]
     refine wV 7 ?_
     try simp only [Act.put,sA1,sA2,sA3]
     refine wE 8 (fun K hK=>?_)
     (go_simp;refine (fpl_at hN (HP.out.chg HC3.out (by simp) (by simp) (by simp) (by simp)) Ma3.out Mb3.out).mono ?_;rintro e wP ⟨z0,z1,g,c,rfl,p1,p2,p3,p4,p5,p6,p7,p8⟩;have HQ:=Lib.hid (And.intro p1 (And.intro p2 (And.intro p3 (And.intro p4 (And.intro p5 (And.intro p6 (And.intro p7 p8)))))));clear p1 p2 p3 p4 p5 p6 p7 p8)
     refine hK.out _ _ trivial (fun hHeld=>?_)
     clear hK K
     try simp only [Act.put,sA1,sA2,sA3]
     refine wV 9 ?_
     refine wV 10 ?_
     refine wV 11 ?_
     refine wV 12 ?_
     refine wV 13 ?_
     try simp only [Act.put,sA1,sA2,sA3]
     have hxl:=zhl Mx3.out
     have hxg:W0.heap.size∉[p,t,bc,bk]:=fun hm=>by have h1:=(HLP.out _ hm).2;have h2:=HCX.out;omega
     have hx:=(HQ.out.2.2.2.2.1.block _ hxl hxg).trans Mx3.out
     have hxc:Chg [] wP wP:=Chg.refl _ _
     obtain ⟨wX,hwX⟩:∃ wX,wX=wP:=⟨_,rfl⟩
     rw [← hwX] at hx ⊢
     have hxc:Chg [] wP wX:=by rw [hwX];exact Chg.refl _ _
     clear hwX
     have k0:=zcb hx 0
     have k1:=zcb hx 1
     have f0:=zfb hx 0
     have f1:=zfb hx 1
     have lx:=zhl hx
     simp only [List.getElem?_toArray,List.getElem?_cons_zero,List.getElem?_cons_succ] at k0 k1
     refine wE 15 (fun K hK=>?_)
     (go_simp)
     refine hK.out _ _ trivial (fun hHeld=>?_)
     clear hK K
     try simp only [Act.put,sA1,sA2,sA3]
     refine wV 16 ?_
     refine wV 17 ?_
     refine wV 18 ?_
     try simp only [Act.put,sA1,sA2,sA3]
     refine wpAnyH_done (by kernel_rfl) ?_ _
     go_wp2_with fail
     go_meet
     have hxB:=zsb (zsb hx 0 (.slice (some ⟨g 0,0,none⟩) (nOf N 0) (c 0))) 1 (.slice (some ⟨g 1,0,none⟩) (nOf N 1) (c 1))
     have cB:=(((Chg.refl [W0.heap.size] wX).setCell (p:=⟨W0.heap.size,0,none⟩) (.inl (by simp)) (.slice (some ⟨g 0,0,none⟩) (nOf N 0) (c 0))).setCell (p:=⟨W0.heap.size,1,none⟩) (.inl (by simp)) (.slice (some ⟨g 1,0,none⟩) (nOf N 1) (c 1)))
     have q:=HQ.out
     have hz:w2.heap.size≤W0.heap.size:=HCX.out
     have hcw:Chg [p,t,bc,bk] w2 wX:=((HC3.out.mono (by simp)).trans q.2.2.2.2.1).trans (hxc.mono (by simp))
     exact ⟨rfl,Lib.hid (fm7_end (L:=[W0.heap.size]) hxB ((hxc.mono (by simp)).trans cB) q.1 q.2.1 q.2.2.1 q.2.2.2.1 ((hcw.setCell (.inr hz) _).setCell (.inr hz) _) (fun y hy=>by
      simp only [List.mem_singleton] at hy
      subst hy
      exact ⟨fun h=>by have:=q.2.2.2.2.2.1 0 (by omega);omega,fun h=>by have:=q.2.2.2.2.2.1 1 (by omega);omega,fun h=>by have:=q.2.2.2.2.2.2.1 _ h;omega,fun h=>by have:=q.2.2.2.2.2.2.2 _ h;omega,hxg⟩))⟩
    refine wD (fun K hK=>?_)
    ·(have mk:=MKB.out;go_simp;clear mk;have Mb2:=Lib.hid (znb W1 (.cells (zrow (pg (pg N)) (.int .i64 0)) 3));have Mx2:=Lib.hid ((((Chg.refl [] W1).alloc (.cells (zrow (pg (pg N)) (.int .i64 0)) 3)).block _ (zhl Mx1.out) (by simp)).trans Mx1.out);have HC2:=Lib.hid (HC1.out.alloc (.cells (zrow (pg (pg N)) (.int .i64 0)) 3));generalize W1.alloc _=W2 at *)
     refine hK.out _ _ trivial (fun hHeld=>?_)
     clear hK K
     try simp only [Act.put,sA1,sA2,sA3]
     refine wE 3 (fun K hK=>?_)
     (have mk:=MKA.out;go_simp;clear mk;have Ma3:=Lib.hid (znb W2 (.cells (zrow (pg N) (.int .i64 0)) 3));have Mx3:=Lib.hid ((((Chg.refl [] W2).alloc (.cells (zrow (pg N) (.int .i64 0)) 3)).block _ (zhl Mx2.out) (by simp)).trans Mx2.out);have Mb3:=Lib.hid ((((Chg.refl [] W2).alloc (.cells (zrow (pg N) (.int .i64 0)) 3)).block _ (zhl Mb2.out) (by simp)).trans Mb2.out);have HC3:=Lib.hid (HC2.out.alloc (.cells (zrow (pg N) (.int .i64 0)) 3));generalize W2.alloc _=W3 at *)
     refine hK.out _ _ trivial (fun hHeld=>?_)
     clear hK K
     try simp only [Act.put,sA1,sA2,sA3]
     refine wV 7 ?_
     try simp only [Act.put,sA1,sA2,sA3]
     refine wE 8 (fun K hK=>?_)
     (go_simp;refine (fpl_at hN (HP.out.chg HC3.out (by simp) (by simp) (by simp) (by simp)) Ma3.out Mb3.out).mono ?_;rintro e wP ⟨z0,z1,g,c,rfl,p1,p2,p3,p4,p5,p6,p7,p8⟩;have HQ:=Lib.hid (And.intro p1 (And.intro p2 (And.intro p3 (And.intro p4 (And.intro p5 (And.intro p6 (And.intro p7 p8)))))));clear p1 p2 p3 p4 p5 p6 p7 p8)
     refine hK.out _ _ trivial (fun hHeld=>?_)
     clear hK K
     try simp only [Act.put,sA1,sA2,sA3]
     refine wV 9 ?_
     refine wV 10 ?_
     refine wV 11 ?_
     refine wV 12 ?_
     refine wV 13 ?_
     try simp only [Act.put,sA1,sA2,sA3]
     have hxl:=zhl Mx3.out
     have hxg:W0.heap.size∉[p,t,bc,bk]:=fun hm=>by have h1:=(HLP.out _ hm).2;have h2:=HCX.out;omega
     have hx:=(HQ.out.2.2.2.2.1.block _ hxl hxg).trans Mx3.out
     have hxc:Chg [] wP wP:=Chg.refl _ _
     obtain ⟨wX,hwX⟩:∃ wX,wX=wP:=⟨_,rfl⟩
     rw [← hwX] at hx ⊢
     have hxc:Chg [] wP wX:=by rw [hwX];exact Chg.refl _ _
     clear hwX
     have k0:=zcb hx 0
     have k1:=zcb hx 1
     have f0:=zfb hx 0
     have f1:=zfb hx 1
     have lx:=zhl hx
     simp only [List.getElem?_toArray,List.getElem?_cons_zero,List.getElem?_cons_succ] at k0 k1
     refine wE 15 (fun K hK=>?_)
     (go_simp)
     refine hK.out _ _ trivial (fun hHeld=>?_)
     clear hK K
     try simp only [Act.put,sA1,sA2,sA3]
     refine wV 16 ?_
     refine wV 17 ?_
     refine wV 18 ?_
     try simp only [Act.put,sA1,sA2,sA3]
     refine wpAnyH_done (by kernel_rfl) ?_ _
     go_wp2_with fail
     go_meet
     have hxB:=zsb (zsb hx 0 (.slice (some ⟨g 0,0,none⟩) (nOf N 0) (c 0))) 1 (.slice (some ⟨g 1,0,none⟩) (nOf N 1) (c 1))
     have cB:=(((Chg.refl [W0.heap.size] wX).setCell (p:=⟨W0.heap.size,0,none⟩) (.inl (by simp)) (.slice (some ⟨g 0,0,none⟩) (nOf N 0) (c 0))).setCell (p:=⟨W0.heap.size,1,none⟩) (.inl (by simp)) (.slice (some ⟨g 1,0,none⟩) (nOf N 1) (c 1)))
     have q:=HQ.out
     have hz:w2.heap.size≤W0.heap.size:=HCX.out
     have hcw:Chg [p,t,bc,bk] w2 wX:=((HC3.out.mono (by simp)).trans q.2.2.2.2.1).trans (hxc.mono (by simp))
     exact ⟨rfl,Lib.hid (fm7_end (L:=[W0.heap.size]) hxB ((hxc.mono (by simp)).trans cB) q.1 q.2.1 q.2.2.1 q.2.2.2.1 ((hcw.setCell (.inr hz) _).setCell (.inr hz) _) (fun y hy=>by
      simp only [List.mem_singleton] at hy
      subst hy
      exact ⟨fun h=>by have:=q.2.2.2.2.2.1 0 (by omega);omega,fun h=>by have:=q.2.2.2.2.2.1 1 (by omega);omega,fun h=>by have:=q.2.2.2.2.2.2.1 _ h;omega,fun h=>by have:=q.2.2.2.2.2.2.2 _ h;omega,hxg⟩))⟩
 case rest =>
  obtain ⟨w7,rfl⟩:∃ x,x=wc:=⟨_,rfl⟩
  obtain ⟨rfl,HF⟩:=hcut
  obtain ⟨xb,g,c,rfl,m1,m2,m3,m4,m5,m6⟩:=HF.out
  have HL1:=Lib.hid (m2.rowF (k:=1) (by omega))
  have hn2:nOf N 1≤2:=pgpg_le hN.2
  have HM:=Lib.hid (And.intro m1 (And.intro m2 (And.intro m3 (And.intro m4 (And.intro m5 m6)))))
  have BF:=beg_fmt hN.1
  have haN:∀ k i,k<2→i<nOf N k→(begF N).a k i<N:=fun k i hk hi=>by
   have h1:=(BF.own.ok.has k i hk hi (BF.own.nz k i hk hi)).1
   rw [keep_n,BF.tn] at h1
   exact h1
  have HBF:=Lib.hid (And.intro BF haN)
  have cR:=baRooted_at (w:=w7) (S:=⟨1,N,fun _=>0,fun _=>0⟩) (m:=nOf N 1) (cs:=c 1) (a:=some ⟨g 1,0,none⟩) (A:=(begF N).a 1) hn2 HL1.out.1 (fun i hi=>⟨g 1,rfl,HL1.out.2.2.1,HL1.out.2.2.2 i hi,by have:=haN 1 i (by omega) hi;omega⟩)
  have eR:rootK ⟨1,N,fun _=>0,fun _=>0⟩ (nOf N 1) ((begF N).a 1) 2=fmtS N:=rfl
  rw [eR] at cR
  have CR:=Lib.hid cR
  have E1:IntKind.u32.wrap (N:Int)=(N:Int):=by rw [IntKind.wrap_u32];omega
  have HBD:=Lib.hid (show Tryz.prog.built 49 [(0,.int .u64 1),(1,.int .u32 (N:Int))]=some (Sup.row ⟨1,N,fun _=>0,fun _=>0⟩) from by kernel_rfl)
  have x1:=zcb m1 1
  simp only [List.getElem?_toArray,List.getElem?_cons_zero,List.getElem?_cons_succ] at x1
  have lx7:=zhl m1
  have hok:=(fmtS_of hN).ok
  have HOK:=Lib.hid hok
  clear m1 m2 m3 m4 m5 m6 BF haN cR eR hok CG MKA MKB
  go_wp2_with (first
   | (refine wpList_built rfl 49 _ rfl (ps:=_) ?hp HBD.out ?hk;case hp=>(simp [Act.eval,Act.put])))
  refine CR.out.mono ?_
  clear CR x1 E1
  rintro e w8 ⟨rfl,hc8⟩
  have CE:=Lib.hid (suEncode_at (w:=w8) HOK.out)
  have HC8:=Lib.hid hc8
  clear hc8
  go_wp2_with fail
  refine CE.out.mono ?_
  clear CE
  rintro e w9 ⟨gp,rfl,hgp,hgs,hc9⟩
  have HG9:=Lib.hid (And.intro hgp (HC8.out.trans hc9))
  clear hgp hgs hc9
  have hmk:∀ w:World,(Instr.makeSlice 22 (.int .i64 128) (.int .i64 128)).run Tryz.prog w = .ok (.slice (some ⟨w.heap.size,0,none⟩) 128 128) (w.alloc (.cells (zrow 128 (.int .u8 0)) 5)):=run_make1 (P:=Tryz.prog) 22 5 Tryz.underlying22 infoU8 rfl .i64 .i64 128 (by omega) (by omega)
  go_upto_region 10 with fail
  clear hmk
  have hz:=znb w9 (.cells (zrow 128 (.int .u8 0)) 5)
  have hzc:Chg [] w9 (w9.alloc (.cells (zrow 128 (.int .u8 0)) 5)):=(Chg.refl [] w9).alloc _
  generalize w9.alloc (.cells (zrow 128 (.int .u8 0)) 5)=wz at *
  obtain ⟨zb,hzb⟩:∃ zb,zb=w9.heap.size:=⟨_,rfl⟩
  rw [← hzb] at hz ⊢
  have HZ:=Lib.hid (And.intro hz (And.intro (HG9.out.2.trans hzc) ((hzc.block gp (zhl HG9.out.1) (by simp)).trans HG9.out.1)))
  clear hz hzc hzb
  have CZ:Hid (∀ (W0:World) (k:Nat),k<2→W0.heap[zb]?=some (.cells (zrow 128 (.int .u8 0)) 5 (0,0))→Calls Tryz.prog 84 #[.pointer (some ⟨d,0,none⟩),.int .i64 (k:Int),.slice (some ⟨zb,0,none⟩) 128 128] W0 fun e w'=>∃ gf lb,e = .returned (.agg #[.func gf #[] lb])∧StepIs w' d N (.func gf #[] lb) (some (k,fun _=>0))∧Chg [] W0 w') :=
   Lib.hid fun W0 k hk hz=>baPut_at (w:=W0) (dp:=d) (n:=N) (at':=k) (k:=zb) (o:=0) (cap:=128) (f:=fun _=>0) (by omega) (Nat.le_refl _) (fun i hi=>⟨by rw [Nat.zero_add,zcb hz];simp [zrow,hi],Nat.zero_le _⟩) ⟨_,_,hz⟩
  have c0:=CZ.out wz 0 (by omega) HZ.out.1
  change Calls _ _ #[_,.int .i64 0,_] wz _ at c0
  have C0:=Lib.hid c0
  clear c0
  go_wp2_with fail
  refine C0.out.mono ?_
  clear C0
  rintro e wa ⟨gf0,lb0,rfl,st0,hca⟩
  have HA:=Lib.hid (And.intro st0 (And.intro hca ((hca.block zb (zhl HZ.out.1) (by simp)).trans HZ.out.1)))
  clear st0 hca
  have c1:=CZ.out wa 1 (by omega) HA.out.2.2
  change Calls _ _ #[_,.int .i64 1,_] wa _ at c1
  have C1:=Lib.hid c1
  clear c1 CZ
  go_wp2_with fail
  refine C1.out.mono ?_
  clear C1
  rintro e wb ⟨gf1,lb1,rfl,st1,hcb⟩
  have HB:=Lib.hid (And.intro (HA.out.1.on hcb) (And.intro st1 ((HZ.out.2.1.trans HA.out.2.1).trans hcb)))
  have HBg:=Lib.hid (((HA.out.2.1.trans hcb).block gp (zhl HZ.out.2.2) (by simp)).trans HZ.out.2.2)
  clear st1 hcb
  go_upto_region 11 with fail
  have hn3:=znb wb (.cells #[.func gf0 #[] lb0,.func gf1 #[] lb1,.func (.func 87) #[.pointer (some ⟨d,0,none⟩)] #[]] 142)
  have hc3:Chg [] wb (wb.alloc (.cells #[.func gf0 #[] lb0,.func gf1 #[] lb1,.func (.func 87) #[.pointer (some ⟨d,0,none⟩)] #[]] 142)):=(Chg.refl [] wb).alloc _
  generalize wb.alloc (.cells #[.func gf0 #[] lb0,.func gf1 #[] lb1,.func (.func 87) #[.pointer (some ⟨d,0,none⟩)] #[]] 142)=wq at hn3 hc3 ⊢
  have hall0:∀ (i:Nat) (x:Option (Nat × (Nat→Nat))),[some (0,fun _=>0),some (1,fun _=>0),none][i]?=some x→∃ u:Value,[Value.func gf0 #[] lb0,.func gf1 #[] lb1,.func (.func 87) #[.pointer (some ⟨d,0,none⟩)] #[]][i]?=some u∧StepIs wq d N u x:=fun i x hx=>by
   match i with
   | 0=>injection hx with hx;subst hx;exact ⟨_,rfl,HB.out.1.on hc3⟩
   | 1=>injection hx with hx;subst hx;exact ⟨_,rfl,HB.out.2.1.on hc3⟩
   | 2=>injection hx with hx;subst hx;exact ⟨_,rfl,rfl⟩
   | n+3=>cases hx
  have hown0:wq.ownsRow wb.heap.size 142 1 (.slice (some ⟨wb.heap.size,0,none⟩) 3 3) 3 [Value.func gf0 #[] lb0,.func gf1 #[] lb1,.func (.func 87) #[.pointer (some ⟨d,0,none⟩)] #[]] :=
   ⟨rfl,.inr ⟨wb.heap.size,3,_,rfl,Nat.le_refl _,hn3,Nat.le_refl _,by unfold maxLen;omega,rfl,rfl⟩⟩
  have hltb:wb.heap.size<wq.heap.size:=zhl hn3
  have hownb:∀ q,(Value.slice (some ⟨wb.heap.size,0,none⟩) 3 3).ownBlock=some q→q=wb.heap.size:=fun q hq=>by injection hq with hq;exact hq.symm
  obtain ⟨v0,hv0⟩:∃ v,v=Value.slice (some ⟨wb.heap.size,0,none⟩) 3 3:=⟨_,rfl⟩
  rw [← hv0] at hown0 hownb ⊢
  have HOWNB:=Lib.hid hownb
  clear hv0 hownb
  obtain ⟨l0,hl0⟩:∃ l0,l0=yesTo ((begF N).p 0) (nOf N 0):=⟨_,rfl⟩
  obtain ⟨l1,hl1⟩:∃ l1,l1=yesTo ((begF N).p 1) (nOf N 1):=⟨_,rfl⟩
  have hN0:nOf N 0≤4096∧nOf N 1≤4096:=⟨hpg.2,hpp⟩
  have hll0:l0.length≤4096:=by rw [hl0];exact Nat.le_trans (yesTo_le _ _) hN0.1
  have hll1:l1.length≤4096:=by rw [hl1];exact Nat.le_trans (yesTo_le _ _) hN0.2
  have hmem:∀ (q:Nat→Bool) (n:Nat) (l:List Nat),l=yesTo q n→∀ i,i<l.length→l.getD i 0<n:=fun q n l hl i hi=>by
   have:l.getD i 0∈l:=by rw [List.getD_eq_getElem?_getD,List.getElem?_eq_getElem hi];exact List.getElem_mem _
   have h2:l.getD i 0∈yesTo q n:=hl▸this
   exact (mem_yesTo.1 h2).1
  obtain ⟨m1,m2,m3,m4,m5,m6⟩:=HM.out
  rw [← hl0] at m3
  rw [← hl1] at m4
  have hle:∀ i,i<N→(begF N).T.now i<65536:=fun i hi=>Nat.lt_of_le_of_lt (HBF.out.1.le i) (by decide)
  have hcq:=HB.out.2.2.trans hc3
  have cPg:=baPaged_at (w:=wq) (dp:=d) (N:=N) (T:=(begF N).T) (A:=(begF N).a) (m5.chg hcq (by simp) (by simp) (by simp) (by simp)).ht HBF.out.1.tn ⟨by omega,hN.2⟩ hle hll0 hll1 (m2.chg hcq (by simp) (by simp)) (m3.chg hcq (by simp)) (m4.chg hcq (by simp)) (hmem _ _ _ hl0) (hmem _ _ _ hl1) HBF.out.2
  have CPG:=Lib.hid cPg
  have hxq:=(hcq.block xb lx7 (by simp)).trans m1
  have y0:=zcb hxq 0
  have y1:=zcb hxq 1
  simp only [List.getElem?_toArray,List.getElem?_cons_zero,List.getElem?_cons_succ] at y0 y1
  have ly:=zhl hxq
  have hgq:=(hc3.block gp (zhl HBg.out) (by simp)).trans HBg.out
  have HQ:=Lib.hid (And.intro hall0 (And.intro hown0 (And.intro hcq (And.intro hgq m6))))
  have HLL:=Lib.hid (And.intro hl0 hl1)
  clear hn3 hc3 hall0 hown0 hl0 hl1 hN0 hmem m1 m2 m3 m4 m5 m6 hle hcq cPg hxq hgq
  go_wp2_with fail
  refine CPG.out.mono ?_
  clear CPG y0 y1
  rintro e we ⟨v2,rfl,hst2,hc2⟩
  obtain ⟨ops2,hops2⟩:∃ o,o=(l0.map fun i=>some ((begF N).a 0 i,rowP 5 N (begF N).T.now i))++(l1.map fun i=>some ((begF N).a 1 i,rowP 4 (pg N) ((begF N).a 0) i)):=⟨_,rfl⟩
  rw [← hops2] at hst2
  obtain ⟨k2,hk2⟩:∃ m,m=ops2.length:=⟨_,rfl⟩
  have hol2:k2≤8192:=by rw [hk2,hops2,List.length_append,List.length_map,List.length_map];omega
  obtain ⟨vs2,hrow2,hall2⟩:=hst2
  have hrow3:=own_chgT HQ.out.2.1 hc2 (by simp)
  have hsrc:=AppSrc.own hrow2 (steps_one hrow2 hall2)
  rw [← hk2] at hsrc
  have hall3:∀ (i:Nat) (x:Option (Nat × (Nat→Nat))),[some (0,fun _=>0),some (1,fun _=>0),none][i]?=some x→∃ u:Value,[Value.func gf0 #[] lb0,.func gf1 #[] lb1,.func (.func 87) #[.pointer (some ⟨d,0,none⟩)] #[]][i]?=some u∧StepIs we d N u x:=fun i x hx=>by obtain ⟨u,q1,q2⟩:=HQ.out.1 i x hx;exact ⟨u,q1,q2.on hc2⟩
  have hszb:wb.heap.size≤we.heap.size:=Nat.le_trans (Nat.le_of_lt hltb) hc2.size
  have hge:=(hc2.block gp (zhl HQ.out.2.2.2.1) (by simp)).trans HQ.out.2.2.2.1
  have H3:=Lib.hid (And.intro hrow3 (And.intro hsrc (And.intro hall3 (And.intro hall2 (And.intro hk2 (And.intro hge (And.intro (HQ.out.2.2.1.trans hc2) hops2)))))))
  clear hrow2 hall2 hrow3 hsrc hall3 hge hk2 hops2 hc2
  go_wp2_with (at_builtin;refine wpList_app rfl _ _ 136 rfl rfl (base:=wb.heap.size) (size:=1) (n:=3) (m:=k2) (xs:=[Value.func gf0 #[] lb0,.func gf1 #[] lb1,.func (.func 87) #[.pointer (some ⟨d,0,none⟩)] #[]]) (news:=vs2) Tryz.underlying136 infoStp rfl (by omega) (by omega) rfl rfl H3.out.1 H3.out.2.1 (by omega) hszb ?_;intro v5 w5 hown5 hg5 hob5;have H5:=Lib.hid (And.intro (steps_app rfl H3.out.2.2.2.2.1.symm H3.out.1 H3.out.2.2.1 H3.out.2.2.2.1 hown5 hg5) (And.intro (hg5.block gp (zhl H3.out.2.2.2.2.2.1) (fun e=>by have h1:=zhl HBg.out;have h2:=HOWNB.out _ e.symm;omega)) (H3.out.2.2.2.2.2.2.1.grown hg5 (fun q hq => .inr (by rw [HOWNB.out q hq];exact HB.out.2.2.size)))));have H5s:=Lib.hid hg5.size;clear hown5 hg5 hob5)
  have hg5:=H5.out.2.1.trans H3.out.2.2.2.2.2.1
  have cpt:=baPut_at (w:=w5) (dp:=d) (n:=N) (at':=1) (k:=gp) (o:=0) (cap:=128) (f:=pageS (fmtS N)) (by omega) (Nat.le_refl _) (fun i hi=>⟨by rw [Nat.zero_add,zcb hg5,u8s_get hi],sealP_le (by omega) (fun i _=>supB_le _ i) i⟩) ⟨_,_,hg5⟩
  change Calls _ _ #[_,.int .i64 1,_] w5 _ at cpt
  refine cpt.mono ?_
  clear cpt
  rintro e w6 ⟨gf,lb,rfl,hst6,hc6⟩
  have H6:=Lib.hid (And.intro hst6 (And.intro hc6 (H5.out.2.2.trans hc6)))
  clear hst6 hc6 hg5
  have hn8:=znb w6 (.cells #[.func (.func 87) #[.pointer (some ⟨d,0,none⟩)] #[],.func gf #[] lb,.func (.func 87) #[.pointer (some ⟨d,0,none⟩)] #[]] 142)
  have hc8:Chg [] w6 (w6.alloc (.cells #[.func (.func 87) #[.pointer (some ⟨d,0,none⟩)] #[],.func gf #[] lb,.func (.func 87) #[.pointer (some ⟨d,0,none⟩)] #[]] 142)):=(Chg.refl [] w6).alloc _
  obtain ⟨w8',hw8'⟩:∃ w8',w8'=w6.alloc (.cells #[.func (.func 87) #[.pointer (some ⟨d,0,none⟩)] #[],.func gf #[] lb,.func (.func 87) #[.pointer (some ⟨d,0,none⟩)] #[]] 142):=⟨_,rfl⟩
  rw [← hw8'] at hn8 hc8
  have hst8:=H5.out.1.chg (H6.out.2.1.trans hc8)
  obtain ⟨vs5,hrow5,hall5⟩:=hst8
  have hol:([some (0,fun _=>0),some (1,fun _=>0),none]++ops2).length=3+k2:=by rw [List.length_append,← H3.out.2.2.2.2.1];rfl
  rw [hol] at hrow5
  have hall6:∀ (i:Nat) (x:Option (Nat × (Nat→Nat))),[none,some (1,pageS (fmtS N)),none][i]?=some x→∃ u:Value,[Value.func (.func 87) #[.pointer (some ⟨d,0,none⟩)] #[],.func gf #[] lb,.func (.func 87) #[.pointer (some ⟨d,0,none⟩)] #[]][i]?=some u∧StepIs w8' d N u x:=fun i x hx=>by
   match i with
   | 0=>injection hx with hx;subst hx;exact ⟨_,rfl,rfl⟩
   | 1=>injection hx with hx;subst hx;exact ⟨_,rfl,H6.out.1.on hc8⟩
   | 2=>injection hx with hx;subst hx;exact ⟨_,rfl,rfl⟩
   | n+3=>cases hx
  have HONE:=Lib.hid (show ∀ u,u∈(#[Value.func (.func 87) #[.pointer (some ⟨d,0,none⟩)] #[],.func gf #[] lb,.func (.func 87) #[.pointer (some ⟨d,0,none⟩)] #[]]:Array Value).toList→u.oneCell'=true from fun u hu=>by
   simp at hu
   rcases hu with rfl | rfl | rfl <;> rfl)
  have hsz8:wb.heap.size≤w8'.heap.size:=Nat.le_trans hszb (Nat.le_trans H5s.out (H6.out.2.1.trans hc8).size)
  have H8:=Lib.hid (And.intro hrow5 (And.intro hall5 (And.intro hall6 (And.intro hn8 (And.intro hsz8 (And.intro (H6.out.2.2.trans hc8) hol))))))
  have HW8:=Lib.hid hw8'
  clear hrow5 hall5 hall6 hn8 hsz8 hc8 hol hw8'
  go_wp2_with (at_builtin;rw [← HW8.out];refine wpList_app rfl _ _ 136 rfl rfl (base:=wb.heap.size) (size:=1) (n:=3+k2) (m:=3) (xs:=vs5) (news:=[Value.func (.func 87) #[.pointer (some ⟨d,0,none⟩)] #[],.func gf #[] lb,.func (.func 87) #[.pointer (some ⟨d,0,none⟩)] #[]]) Tryz.underlying136 infoStp rfl (by omega) (by omega) rfl rfl H8.out.1 (AppSrc.blk H8.out.2.2.2.1 rfl HONE.out) (by omega) H8.out.2.2.2.2.1 ?_;intro v9 w10 hown9 hg9 hob9;have H9:=Lib.hid (And.intro (steps_app H8.out.2.2.2.2.2.2 rfl H8.out.1 H8.out.2.1 H8.out.2.2.1 hown9 hg9) (H8.out.2.2.2.2.2.1.grown hg9 (fun q hq => .inr (Nat.le_trans HB.out.2.2.size (H8.out.1.lt q hq).1))));clear hown9 hg9 hob9)
  have hcw:Chg [] w w10:=(HC2.out.then HQ.out.2.2.2.2 (fun q hq => .inr (HLP.out q hq).1)).trans H9.out.2
  have hd10:=HD.out.chg hcw (by simp) (by simp) (by simp)
  obtain ⟨OPS,hOPS⟩:∃ O,O=[some (0,fun _=>0),some (1,fun _=>0),none]++ops2++[none,some (1,pageS (fmtS N)),none]:=⟨_,rfl⟩
  have hex:exec ⟨N,fun _ _=>0,[]⟩ OPS=⟨N,(Bs.fmt N).D,[]⟩:=by
   have e:ops2=(fmtW N).map some:=by
    rw [H3.out.2.2.2.2.2.2.2,HLL.out.1,HLL.out.2]
    unfold fmtW pagesW dirsW
    simp only [List.map_append,List.map_map]
    rfl
   rw [hOPS,e,List.append_assoc,exec_format]
   rfl
  have hlast:OPS.getLast?=some none:=by rw [hOPS,List.getLast?_append];rfl
  have hlen:OPS.length≤20000:=by
   rw [hOPS,List.length_append,H8.out.2.2.2.2.2.2]
   simp only [List.length_cons,List.length_nil]
   omega
  rw [← hOPS] at H9
  obtain ⟨vs9,hrow9,hall9⟩:=H9.out.1
  have cAll:=baAll_at hd10 hrow9 hall9 (by show 0+OPS.length≤800000;omega)
  rw [hex] at cAll
  refine cAll.mono ?_
  rintro e w11 ⟨rfl,wv',hdk,-,hc11,hwv⟩
  obtain rfl:=hwv hlast
  have HE:=Lib.hid (And.intro hdk (hcw.mono (L':=[d,bb]) (by simp)))
  have HE2:Hid (Chg [d,bb] w10 w11):=Lib.hid hc11
  clear cAll hdk hcw hc11 hwv hall9 hrow9 hex hlen hlast hd10
  go_wp2_with fail
  go_ret
  exact ⟨rfl,HE.out.1,HE.out.2.trans HE2.out⟩
end Go.Proofs.YtkhcaclndepgbaaGreat
