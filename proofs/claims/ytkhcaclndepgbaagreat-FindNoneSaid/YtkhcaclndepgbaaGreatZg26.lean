/- slices.Sort at []uint64, of at most 12 numbers. · leaf.each, as Decode calls it: the closure. · leaf.each, as Decode calls it. · slices.insertionSortOrdered at uint64. · slices.Sort at []uint64, of at most 12 numbers. · slices.Clone, Sort (of nothing), Compact at []uint64. -/
import Derived.Test.YtkhcaclndepgbaaGreatZg25
import Derived.BigRegion
import Derived.Deep.LoopGhost
import Derived.Lib.SliceRun
set_option linter.unusedVariables false
set_option linter.unusedSimpArgs false
set_option maxRecDepth 100000
set_option maxHeartbeats 20000000
namespace Go.Proofs.YtkhcaclndepgbaaGreat
open Go.RowKit
theorem nan_at (x:Int) (w:World):Calls Tryz.prog 209 #[.int .u64 x] w fun e w'=>e = .returned (.bool false)∧w=w':=by
 go_enter Tryz.func209,Tryz.ntmps209
 go_wp2
 go_ret
 exact ⟨by simp,rfl⟩
theorem less64_at (x y:Int) (w:World):Calls Tryz.prog 188 #[.int .u64 x,.int .u64 y] w fun e w'=>e = .returned (.bool (decide (x<y)))∧w=w':=by
 go_enter Tryz.func188,Tryz.ntmps188
 go_wp2_with (go_at_call 209;refine (nan_at _ _).mono ?_;rintro e w' ⟨rfl,rfl⟩)
 go_ret
 exact ⟨rfl,rfl⟩
structure Row64 (w:World) (g n:Nat) (f:Nat→Nat):Prop where
 nums:NumsAt w g 0 n f
 blk:∃ cur,w.heap[g]?=some (.cells cur 44 (0,0))
theorem Row64.lt {w:World} {g n:Nat} {f:Nat→Nat} (h:Row64 w g n f):g<w.heap.size:=by obtain ⟨cur,h⟩:=h.blk;exact zhl h
theorem Row64.cell {w:World} {g n i:Nat} {f:Nat→Nat} (h:Row64 w g n f) (hi:i<n):w.cell? ⟨g,i,none⟩=some (.int .u64 (f i:Int)):=by
 have:=(h.nums i hi).1
 rwa [Nat.zero_add] at this
theorem Row64.fz {w:World} {g n:Nat} {f:Nat→Nat} (h:Row64 w g n f) (i:Nat):w.frozen? ⟨g,i,none⟩=false:=by
 obtain ⟨cur,h⟩:=h.blk
 exact zfb h i
theorem Row64.chg {w w':World} {g n:Nat} {f:Nat→Nat} {L:List Nat} (h:Row64 w g n f) (c:Chg L w w') (hg:g∉L):Row64 w' g n f :=
 ⟨h.nums.chg c hg,by obtain ⟨cur,hb⟩:=h.blk;exact ⟨cur,(c.block g (zhl hb) hg).trans hb⟩⟩
theorem Row64.set {w:World} {g n i v:Nat} {f:Nat→Nat} (h:Row64 w g n f) (hi:i<n) (hv:v<18446744073709551616):Row64 (w.setCell ⟨g,i,none⟩ (.int .u64 (v:Int))) g n (fun j=>if j=i then v else f j):=by
 obtain ⟨cur,hb⟩:=h.blk
 have hb2:=zsb hb i (.int .u64 (v:Int))
 refine ⟨fun j hj=>?_,_,hb2⟩
 rw [Nat.zero_add,zcb hb2,Array.getElem?_setIfInBounds]
 have hc:=h.cell hj
 rw [zcb hb] at hc
 by_cases e:i=j
 ·subst e
  have hsz:i<cur.size:=(Array.getElem?_eq_some_iff.1 hc).1
  rw [if_pos rfl,if_pos hsz,if_pos rfl]
  exact ⟨rfl,hv⟩
 ·rw [if_neg e,if_neg (fun q=>e q.symm),hc]
  exact ⟨rfl,(h.nums j hj).2⟩
def swp (f:Nat→Nat) (j k:Nat):Nat:=if k=j then f (j - 1) else if k=j - 1 then f j else f k
theorem Row64.swap {w:World} {g n j:Nat} {f:Nat→Nat} (h:Row64 w g n f) (h0:0<j) (hj:j<n) :
  Row64 ((w.setCell ⟨g,j,none⟩ (.int .u64 (f (j - 1):Int))).setCell ⟨g,j - 1,none⟩ (.int .u64 (f j:Int))) g n (swp f j):=by
 have h1:=h.set (i:=j) hj (h.nums (j - 1) (by omega)).2
 have h2:=h1.set (i:=j - 1) (by omega) (h.nums j hj).2
 have e:(fun k=>if k=j - 1 then f j else if k=j then f (j - 1) else f k)=swp f j:=by
  funext k
  unfold swp
  by_cases e1:k=j
  ·subst e1;rw [if_neg (by omega),if_pos rfl,if_pos rfl]
  ·rw [if_neg e1,if_neg e1]
 rw [← e]
 exact h2
def GoodK (f:Nat→Nat) (n:Nat):Prop:=(∀ i,i<n→f i≠0∧f i<4096)∧∀ i j,i<j→j<n→f i≠f j
theorem good_swp {f:Nat→Nat} {n j:Nat} (h0:0<j) (hj:j<n):GoodK (swp f j) n↔GoodK f n:=by
 have key:∀ g:Nat→Nat,GoodK g n→GoodK (swp g j) n:=by
  intro g hg
  obtain ⟨a,b⟩:=hg
  refine ⟨fun i hi=>?_,fun i k hik hk=>?_⟩
  ·unfold swp
   split
   ·exact a _ (by omega)
   ·split
    ·exact a _ hj
    ·exact a _ hi
  ·unfold swp
   have:=b
   by_cases e1:i=j
   ·rw [if_pos e1,if_neg (by omega),if_neg (by omega)]
    exact b _ _ (by omega) hk
   ·rw [if_neg e1]
    by_cases e2:i=j - 1
    ·rw [if_pos e2]
     by_cases e3:k=j
     ·rw [if_pos e3];exact fun q=>b (j - 1) j (by omega) hj q.symm
     ·rw [if_neg e3,if_neg (by omega)];exact b _ _ (by omega) hk
    ·rw [if_neg e2]
     by_cases e3:k=j
     ·rw [if_pos e3];exact b _ _ (by omega) (by omega)
     ·rw [if_neg e3]
      by_cases e4:k=j - 1
      ·rw [if_pos e4];exact b _ _ (by omega) hj
      ·rw [if_neg e4];exact b _ _ hik hk
 refine ⟨fun h=>?_,key f⟩
 have h2:=key _ h
 have e:swp (swp f j) j=f:=by
  funext k
  unfold swp
  by_cases e1:k=j
  ·rw [if_pos e1,if_neg (by omega),if_pos rfl,e1]
  ·rw [if_neg e1]
   by_cases e2:k=j - 1
   ·rw [if_pos e2,if_pos rfl,e2]
   ·rw [if_neg e2,if_neg e1,if_neg e2]
 rwa [e] at h2
def sortedTo (f:Nat→Nat) (i:Nat):Prop:=∀ a b,a<b→b<i→f a≤f b
def sortedBut (f:Nat→Nat) (i j:Nat):Prop:=∀ a b,a<b→b≤i→b≠j→f a≤f b
theorem but_start {f:Nat→Nat} {i:Nat} (h:sortedTo f i):sortedBut f i i:=fun a b hab hb hne=>h a b hab (by omega)
theorem but_zero {f:Nat→Nat} {i:Nat} (h:sortedBut f i 0):sortedTo f (i+1):=fun a b hab hb=>h a b hab (by omega) (by omega)
theorem but_done {f:Nat→Nat} {i j:Nat} (h:sortedBut f i j) (h0:0<j) (hj:f (j - 1)≤f j):sortedTo f (i+1):=fun a b hab hb=>by
 by_cases e:b=j
 ·subst e
  by_cases e2:a=b - 1
  ·rw [e2];exact hj
  ·exact Nat.le_trans (h a (b - 1) (by omega) (by omega) (by omega)) hj
 ·exact h a b hab (by omega) e
theorem but_swp {f:Nat→Nat} {i j:Nat} (h:sortedBut f i j) (h0:0<j) (hji:j≤i) (hj:f j<f (j - 1)):sortedBut (swp f j) i (j - 1):=fun a b hab hb hne=>by
 unfold swp
 by_cases e1:b=j
 ·subst e1
  rw [if_neg (by omega),if_pos rfl]
  by_cases e2:a=b - 1
  ·rw [if_pos e2];omega
  ·rw [if_neg e2];exact h a (b - 1) (by omega) (by omega) (by omega)
 ·rw [if_neg e1,if_neg hne]
  by_cases e2:a=j
  ·rw [if_pos e2];exact h (j - 1) b (by omega) hb e1
  ·rw [if_neg e2]
   by_cases e3:a=j - 1
   ·rw [if_pos e3];exact h j b (by omega) hb e1
   ·rw [if_neg e3];exact h a b hab hb e1
theorem dec1_at {w:World} {bb g N c nb no n:Nat} {f h:Nat→Nat} (hbb:w.cell? ⟨bb,0,none⟩=some (.slice (some ⟨g,0,none⟩) N c)) (hb:BytesAt w g 0 N f) (hNc:N≤c) (hc:c≤9223372036854775807) (hN:N≤100000)
  (at':Nat) (hat:at'+8≤N) (hr:Row64 w nb n h) (hno:no<n) :
  Calls Tryz.prog 159 #[.int .i64 (at':Int),.pointer (some ⟨nb,no,none⟩),.pointer (some ⟨bb,0,none⟩)] w fun e w' =>
   e = .returned (.tuple #[])∧Row64 w' nb n (fun j=>if j=no then num f at' 8 else h j)∧Chg [nb] w w':=by
 have cG:=get_num hb hNc hc (by omega) at' 8 (by omega) (by omega) hat
 have hlt:num f at' 8<18446744073709551616:=by
  have:=num_lt (f:=f) (p:=at') (k:=8) fun i hi=>(hb (at'+i) (by omega)).2
  rwa [show (256:Nat) ^ 8=18446744073709551616 by decide] at this
 have HS:=Lib.hid (hr.set hno hlt)
 have cn:=hr.cell hno
 have fn:=hr.fz no
 clear hb hr
 go_enter Tryz.func159,Tryz.ntmps159
 go_wp2_with fail
 refine cG.mono ?_
 clear cG
 rintro e w' ⟨rfl,rfl⟩
 go_wp2_with fail
 go_end0
 exact ⟨rfl,HS.out,(Chg.refl _ _).setCell (.inl (by simp)) _⟩
def keyF (f:Nat→Nat) (k j:Nat):Nat:=if j<k then num f (1+16*j) 8 else 0
def valF (f:Nat→Nat) (k j:Nat):Nat:=if j<k then num f (1+16*j+8) 8 else 0
theorem keyF_step (f:Nat→Nat) (k:Nat):(fun j=>if j=k then num f (1+16*k) 8 else keyF f k j)=keyF f (k+1):=by
 funext j
 unfold keyF
 by_cases e:j=k
 ·subst e;rw [if_pos rfl,if_pos (by omega)]
 ·rw [if_neg e]
  by_cases h:j<k
  ·rw [if_pos h,if_pos (by omega)]
  ·rw [if_neg h,if_neg (by omega)]
theorem valF_step (f:Nat→Nat) (k:Nat):(fun j=>if j=k then num f (1+16*k+8) 8 else valF f k j)=valF f (k+1):=by
 funext j
 unfold valF
 by_cases e:j=k
 ·subst e;rw [if_pos rfl,if_pos (by omega)]
 ·rw [if_neg e]
  by_cases h:j<k
  ·rw [if_pos h,if_pos (by omega)]
  ·rw [if_neg h,if_neg (by omega)]
theorem each_dec {w:World} {bb g c n kb vb:Nat} {leaf:Bool} {f:Nat→Nat} (hn:n≤7) (hk:Row64 w kb n (keyF f 0)) (hv:Row64 w vb n (valF f 0)) (hbb:w.heap[bb]?=some (.cells #[.slice (some ⟨g,0,none⟩) 123 c] 22 (0,0)))
  (hb:BytesAt w g 0 123 f) (hg:g<w.heap.size) (hNc:123≤c) (hc:c≤9223372036854775807) (d1:kb≠vb) (d2:kb≠bb) (d3:vb≠bb) (d4:kb≠g) (d5:vb≠g) :
  Calls Tryz.prog 118 #[.agg #[.bool leaf,.slice (some ⟨kb,0,none⟩) n n,.slice (some ⟨vb,0,none⟩) n n],.func (.func 159) #[] #[.pointer (some ⟨bb,0,none⟩)]] w fun e w' =>
   e = .returned (.tuple #[])∧Row64 w' kb n (keyF f n)∧Row64 w' vb n (valF f n)∧Chg [kb,vb] w w':=by
 have hW:=(Chg.refl [] w).alloc (.cells #[.bool leaf,.slice (some ⟨kb,0,none⟩) n n,.slice (some ⟨vb,0,none⟩) n n] 107)
 have HX:=Lib.hid (znb w (.cells #[.bool leaf,.slice (some ⟨kb,0,none⟩) n n,.slice (some ⟨vb,0,none⟩) n n] 107))
 have HK:=Lib.hid (hk.chg hW (by simp))
 have HV:=Lib.hid (hv.chg hW (by simp))
 have HBB:=Lib.hid ((hW.block bb (zhl hbb) (by simp)).trans hbb)
 have HB:=Lib.hid (hb.chg hW (by simp))
 have HW:=Lib.hid hW
 have lk:=hk.lt
 have lv:=hv.lt
 clear hk hv hbb hb hW
 go_enter Tryz.func118,Tryz.ntmps118
 go_wp2_with fail
 generalize w.alloc (.cells #[.bool leaf,.slice (some ⟨kb,0,none⟩) n n,.slice (some ⟨vb,0,none⟩) n n] 107)=W at *
 go_loopw [8] (fun s wr=>∃ k:Nat,k≤n∧s = .int .i64 (k:Int)∧Row64 wr kb n (keyF f k)∧Row64 wr vb n (valF f k)∧Chg [kb,vb] W wr) (fun s _=>n - (intOf s).toNat)
 case atStart=>exact ⟨0,Nat.zero_le _,rfl,HK.out,HV.out,Chg.refl _ _⟩
 case round =>
  obtain ⟨k,hk,rfl,hKk,hVk,hCk⟩:=hrel
  obtain ⟨wo,rfl⟩:∃ wo:World,wo=wr:=⟨_,rfl⟩
  have hX:=(hCk.block w.heap.size (zhl HX.out) (by simp;omega)).trans HX.out
  have hBB:=(hCk.block bb (zhl HBB.out) (by simp;omega)).trans HBB.out
  have hB:=HB.out.chg hCk (by simp;omega)
  have x1:=zcb hX 1
  have x2:=zcb hX 2
  have z0:=zcb hBB 0
  simp only [List.getElem?_toArray,List.getElem?_cons_zero,List.getElem?_cons_succ] at x1 x2 z0
  have HXk:=Lib.hid hX
  have HBBk:=Lib.hid hBB
  have HBk:=Lib.hid hB
  have HVk:=Lib.hid hVk
  have HKk:=Lib.hid hKk
  have HCk:=Lib.hid hCk
  clear hX hBB hB hCk hKk hVk
  by_cases hlk:k<n
  ·have c1:=dec1_at z0 HBk.out hNc hc (by omega) (1+16*k) (by omega) HKk.out hlk
   rw [show ((1+16*k:Nat):Int)=1+16*(k:Int) by omega,keyF_step] at c1
   have i0:(0:Int)≤(k:Int):=by omega
   have i1:(k:Int)<(n:Int):=by omega
   go_wp2_with fail
   refine c1.mono ?_
   clear c1
   rintro e w3 ⟨rfl,hK3,hC3⟩
   have z3:=(hC3.cell (p:=⟨bb,0,none⟩) (zhl HBBk.out) (by simp;omega)).trans z0
   have y2:=(hC3.cell (p:=⟨w.heap.size,2,none⟩) (zhl HXk.out) (by simp;omega)).trans x2
   have B3:=HBk.out.chg hC3 (by simp;omega)
   have V3:=HVk.out.chg hC3 (by simp;omega)
   have c2:=dec1_at z3 B3 hNc hc (by omega) (1+16*k+8) (by omega) V3 hlk
   rw [show ((1+16*k+8:Nat):Int)=1+16*(k:Int)+8 by omega,valF_step] at c2
   have HC3:=Lib.hid (HCk.out.trans (hC3.mono (by simp)))
   have HK3:=Lib.hid hK3
   clear hC3 hK3 B3 V3 x1 x2 z0
   go_wp2_with fail
   refine c2.mono ?_
   clear c2
   rintro e w4 ⟨rfl,hV4,hC4⟩
   have HV4:=Lib.hid hV4
   have HK4:=Lib.hid (HK3.out.chg hC4 (by simp;omega))
   have HC4:=Lib.hid (HC3.out.trans (hC4.mono (by simp)))
   clear hV4 hC4
   go_wp2_with fail
   go_roundw
   case rel=>exact ⟨k+1,by omega,by go_num,HK4.out,HV4.out,HC4.out⟩
   case measure=>simp [intOf];omega
  ·obtain rfl:k=n:=by omega
   go_wp2_with fail
   go_end0
   exact ⟨rfl,HKk.out,HVk.out,(HW.out.mono (by simp)).trans HCk.out⟩
theorem less_q (x y:Int) (w:World) (n:Nat) {b:Bool} (h:decide (x<y)=b):Calls Tryz.prog 188 #[.int .u64 x,.int .u64 y] (w.drewN n) fun e w''=>e = .returned (.bool b)∧∃ m,w''=w.drewN m :=
 (less64_at x y _).mono fun _ _ ⟨he,hm⟩=>⟨by rw [he,h],n,hm.symm⟩
theorem ins_at {w:World} {g n c:Nat} {f:Nat→Nat} (h:Row64 w g n f) (hn:n≤12) (hc:n≤c) :
  Calls Tryz.prog 218 #[.slice (some ⟨g,0,none⟩) n c,.int .i64 0,.int .i64 (n:Int)] w fun e w' =>
   e = .returned (.tuple #[])∧∃ f',Row64 w' g n f'∧sortedTo f' n∧(GoodK f' n↔GoodK f n)∧Chg [g] w w':=by
 have H:=Lib.hid h
 clear h
 go_enter Tryz.func218,Tryz.ntmps218
 go_wp2_with fail
 go_loopw [6] (fun s wr=>∃ (i:Nat) (f':Nat→Nat),s = .int .i64 (i:Int)∧1≤i∧(i≤n∨i=1)∧sortedTo f' i∧Row64 wr g n f'∧(GoodK f' n↔GoodK f n)∧Chg [g] w wr) (fun s _=>13 - (intOf s).toNat)
 case atStart=>exact ⟨1,f,rfl,Nat.le_refl _,.inr rfl,fun a b h1 h2=>by omega,H.out,Iff.rfl,Chg.refl _ _⟩
 case round =>
  obtain ⟨i,f',rfl,hi1,hi2,hs,hR,hG,hC⟩:=hrel
  obtain ⟨wo,rfl⟩:∃ wo:World,wo=wr:=⟨_,rfl⟩
  have Hs:=Lib.hid hs
  have HR:=Lib.hid hR
  have HG:=Lib.hid hG
  have HC:=Lib.hid hC
  clear hs hR hG hC
  by_cases hin:i<n
  ·have hinI:(i:Int)<(n:Int):=by omega
   go_wp2_with fail
   go_loopw [7] (fun s wr=>∃ (j:Nat) (f2:Nat→Nat),s = .int .i64 (j:Int)∧j≤i∧sortedBut f2 i j∧Row64 wr g n f2∧(GoodK f2 n↔GoodK f n)∧Chg [g] w wr) (fun s _=>(intOf s).toNat)
   case atStart=>exact ⟨i,f',rfl,Nat.le_refl _,but_start Hs.out,HR.out,HG.out,HC.out⟩
   case round =>
    obtain ⟨j,f2,rfl,hji,hb,hR2,hG2,hC2⟩:=hrel
    obtain ⟨wi,rfl⟩:∃ wi:World,wi=wr:=⟨_,rfl⟩
    have Hb:=Lib.hid hb
    have HR2:=Lib.hid hR2
    have HG2:=Lib.hid hG2
    have HC2:=Lib.hid hC2
    clear hb hR2 hG2 hC2
    by_cases hj0:j=0
    ·subst hj0
     have hd:decide ((0:Int)<((0:Nat):Int))=false:=rfl
     go_wp2_with fail
     go_quiet (fail)
     go_wp2_with fail
     go_roundw
     case rel=>exact ⟨i+1,f2,by go_num,by omega,.inl (by omega),but_zero Hb.out,HR2.out.chg (Chg.drewN (Chg.refl [] _) _) (by simp),HG2.out,HC2.out.drewN _⟩
     case measure=>simp [intOf];omega
    ·have hj:0<j:=by omega
     have hjI:(0:Int)<(j:Int):=by omega
     obtain ⟨k,hk⟩:∃ k,j=k+1:=⟨j - 1,by omega⟩
     subst hk
     have c1:=HR2.out.cell (i:=k+1) (by omega)
     have c2:=HR2.out.cell (i:=k) (by omega)
     have i0:(0:Int)≤(k:Int)+1:=by omega
     have i1:(k:Int)+1<(n:Int):=by omega
     have i2:(0:Int)≤(k:Int):=by omega
     have i3:(k:Int)<(n:Int):=by omega
     have e1:IntKind.i64.wrap ((k:Int)+1 - 1)=(k:Int):=by
      rw [show (k:Int)+1 - 1=(k:Int) by omega]
      exact IntWalk.i64_in _ (by omega)
     by_cases hl:f2 (k+1)<f2 k
     ·have hd:=fun n=>less_q (f2 (k+1)) (f2 k) wi n (b:=true) (by simp;omega)
      have Hd:=Lib.hid hd
      have Hl:=Lib.hid hl
      clear hd hl
      go_wp2_with fail
      go_quiet ((go_at_call 188;exact Hd.out _))
      go_wp2_with fail
      have HRd:=Lib.hid (HR2.out.chg (Chg.drewN (Chg.refl [] _) nq) (by simp))
      have HCd:=Lib.hid (HC2.out.drewN nq)
      clear Hd c1 c2
      generalize wi.drewN nq=W at *
      have c1:=HRd.out.cell (i:=k+1) (by omega)
      have c2:=HRd.out.cell (i:=k) (by omega)
      have f1:=HRd.out.fz (k+1)
      have f2':=HRd.out.fz k
      go_region
      have hs:=HRd.out.swap (j:=k+1) (by omega) (by omega)
      have hb2:=but_swp Hb.out (by omega) hji (by rw [Nat.add_sub_cancel];exact Hl.out)
      simp only [Nat.add_sub_cancel] at hs hb2
      have HS:=Lib.hid (And.intro hs hb2)
      clear hs hb2 c1 c2 f1 f2'
      go_wp2_with fail
      go_roundw
      case rel=>exact ⟨k,swp f2 (k+1),by go_num,by omega,HS.out.2,HS.out.1.chg (Chg.drew (Chg.refl [] _)) (by simp),(good_swp (by omega) (by omega)).trans HG2.out,((HCd.out.setCell (.inl (by simp)) _).setCell (.inl (by simp)) _).drew⟩
      case measure=>simp [intOf]
     ·have hd:=fun n=>less_q (f2 (k+1)) (f2 k) wi n (b:=false) (by simp;omega)
      have Hd:=Lib.hid hd
      have Hl:=Lib.hid hl
      clear hd hl
      go_wp2_with fail
      go_quiet ((go_at_call 188;exact Hd.out _))
      go_wp2_with fail
      go_roundw
      case rel=>exact ⟨i+1,f2,by go_num,by omega,.inl (by omega),but_done Hb.out (by omega) (by have:=Hl.out;rw [Nat.add_sub_cancel];omega),HR2.out.chg (Chg.drewN (Chg.refl [] _) _) (by simp),HG2.out,HC2.out.drewN _⟩
      case measure=>simp [intOf];omega
  ·go_wp2_with fail
   go_end0
   refine ⟨rfl,f',HR.out,fun a b hab hb=>Hs.out a b hab (by omega),HG.out,HC.out⟩
def SomeI (w:World) (e:Ending) (w':World):Prop:=∃ l:Int,e = .returned (.int .i64 l)∧w=w'
theorem len64_at (n:Nat) (w:World) (hn:n≤12):Calls Tryz.prog 206 #[.int .u64 (n:Int)] w (SomeI w):=by
 have h:n=0∨n=1∨n=2∨n=3∨n=4∨n=5∨n=6∨n=7∨n=8∨n=9∨n=10∨n=11∨n=12:=by omega
 rcases h with rfl | rfl | rfl | rfl | rfl | rfl | rfl | rfl | rfl | rfl | rfl | rfl | rfl
 all_goals
  go_enter Tryz.func206,Tryz.ntmps206
  go_wp2
  go_ret
  exact ⟨_,rfl,rfl⟩
theorem len_at (n:Nat) (w:World) (hn:n≤12):Calls Tryz.prog 172 #[.int .u64 (n:Int)] w (SomeI w):=by
 go_enter Tryz.func172,Tryz.ntmps172
 go_wp2_with (go_at_call 206;refine (len64_at n _ hn).mono ?_;rintro e w' ⟨l,rfl,rfl⟩)
 go_ret
 exact ⟨_,rfl,rfl⟩
theorem pdq_at {w:World} {g n c:Nat} {f:Nat→Nat} (h:Row64 w g n f) (hn:n≤12) (hc:n≤c) (l:Int) :
  Calls Tryz.prog 210 #[.slice (some ⟨g,0,none⟩) n c,.int .i64 0,.int .i64 (n:Int),.int .i64 l] w fun e w' =>
   e = .returned (.tuple #[])∧∃ f',Row64 w' g n f'∧sortedTo f' n∧(GoodK f' n↔GoodK f n)∧Chg [g] w w':=by
 have H:=Lib.hid h
 have hnI:(n:Int)≤12:=by omega
 clear h
 go_enter Tryz.func210,Tryz.ntmps210
 go_wp2_with fail
 refine wp_loop_rounds 1 ?_
 rw [rounds_succ]
 go_wp2_with fail
 refine (ins_at H.out hn hc).mono ?_
 rintro e w1 ⟨rfl,f',h1,h2,h3,h4⟩
 have HH:=Lib.hid (And.intro h1 (And.intro h2 (And.intro h3 h4)))
 clear h1 h2 h3 h4
 go_wp2_with fail
 exact bodyPost_ret (v := .tuple #[]) (by simp [results,Tryz.results210,go_sem]) rfl ⟨rfl,f',HH.out.1,HH.out.2.1,HH.out.2.2.1,HH.out.2.2.2⟩
theorem sort_at {w:World} {g n c:Nat} {f:Nat→Nat} (h:Row64 w g n f) (hn:n≤12) (hc:n≤c) :
  Calls Tryz.prog 192 #[.slice (some ⟨g,0,none⟩) n c] w fun e w' =>
   e = .returned (.tuple #[])∧∃ f',Row64 w' g n f'∧sortedTo f' n∧(GoodK f' n↔GoodK f n)∧Chg [g] w w':=by
 have H:=Lib.hid h
 clear h
 go_enter Tryz.func192,Tryz.ntmps192
 go_wp2_with fail
 refine (len_at n _ hn).mono ?_
 rintro e w' ⟨l,rfl,rfl⟩
 go_wp2_with fail
 refine (pdq_at H.out hn hc l).mono ?_
 rintro e w1 ⟨rfl,f',h1,h2,h3,h4⟩
 have HH:=Lib.hid (And.intro h1 (And.intro h2 (And.intro h3 h4)))
 clear h1 h2 h3 h4
 go_wp2_with fail
 go_end0
 exact ⟨rfl,f',HH.out.1,HH.out.2.1,HH.out.2.2.1,HH.out.2.2.2⟩
theorem infoU64:(Tryz.prog.info? 44).map (fun i=>(i.zero,i.size,i.bytes))=some (some (.int .u64 0),1,8):=by kernel_rfl
theorem nums_append {w:World} {b off n:Nat} {f:Nat→Nat} (h:NumsAt w b off n f):∀ j u,((List.range n).map fun i=>Value.int .u64 (f i:Int))[j]?=some u→w.cell? ((⟨b,off,none⟩:Addr).add j)=some u:=by
 intro j u hj
 simp only [List.getElem?_map] at hj
 by_cases hlt:j<n
 ·simp [hlt] at hj
  subst hj
  have e:(⟨b,off,none⟩:Addr).add j=⟨b,off+j,none⟩:=by unfold Addr.add;split <;> simp_all
  rw [e]
  exact (h j hlt).1
 ·simp [hlt] at hj
theorem clone64_at {w:World} {b off n cap:Nat} {f:Nat→Nat} (h:NumsAt w b off n f) (hn:n≤100000) (h0:0<n) :
  Calls Tryz.prog 191 #[.slice (some ⟨b,off,none⟩) n cap] w fun e w'=>∃ g c,e = .returned (.slice (some ⟨g,0,none⟩) n c)∧n≤c∧c≤maxLen∧w.heap.size≤g∧Row64 w' g n f∧Chg [] w w':=by
 have hb2:=h.chg ((Chg.refl [] w).alloc (.cells #[] 44)) (by simp)
 have Hn:=Lib.hid (nums_append hb2)
 have H:=Lib.hid h
 obtain ⟨i0,hi,hz0,hz1,hz2⟩:=info_parts infoU64
 have Hi:=Lib.hid hi
 have he:=fun w:World=>Lib.run_eql_slice_nil (P:=Tryz.prog) w 84 44 (some ⟨b,off,none⟩) n cap 0 0 Tryz.underlying84
 clear h hb2 hi
 go_enter Tryz.func191,Tryz.ntmps191
 go_wp2_with (at_builtin;refine wpList_append_own _ rfl _ _ 84 rfl w.heap.size 44 i0 (.int .u64 0) 1 8 Tryz.underlying84 Hi.out hz0 hz1 hz2 rfl (by decide) _ 0 [] rfl (World.ownsRow_made w #[] 0 (Nat.le_refl _) (Nat.zero_le _) rfl) ⟨b,off,none⟩ n cap ((List.range n).map fun i=>Value.int .u64 (f i:Int)) rfl ?c0 Hn.out ?c1 ?c2 ?c3 ?c4 ?_)
 case c0=>simp
 case c1=>intro u hu;obtain ⟨a,_,rfl⟩:=List.mem_map.1 hu;rfl
 case c2=>unfold maxLen;omega
 case c3=>omega
 case c4=>simp
 intro v' w1 hown hgrow _
 obtain ⟨g,c,cur,rfl,q1,q2,q3,q4,q5,q6⟩:=app_some' (n:=n) (xs:=(List.range n).map fun i=>Value.int .u64 (f i:Int)) (by rw [Nat.zero_add,List.nil_append];exact hown) h0
 have HO:=Lib.hid (And.intro q2 q6)
 have HG:=Lib.hid hgrow
 clear q2 q6 hown hgrow
 go_wp2_with fail
 go_ret
 refine ⟨g,c,rfl,q3,q4,q1,⟨fun i hi=>⟨?_,(H.out i hi).2⟩,cur,HO.out.1⟩,?_⟩
 ·rw [zcb HO.out.1,Nat.zero_add]
  have:=congrArg (fun l=>l[i]?) HO.out.2
  simp only [List.getElem?_take,if_pos hi,List.getElem?_map,List.getElem?_range hi,Option.map_some,Array.getElem?_toList] at this
  exact this
 ·exact ((Chg.refl [] w).alloc _).grown HG.out (fun k hk => .inr (by simp [Value.ownBlock] at hk;omega))
def NoneLeft (w:World) (e:Ending) (w':World):Prop:=∃ a c,e = .returned (.slice a 0 c)∧Chg [] w w'
theorem clone64_none {w:World} : Calls Tryz.prog 191 #[.slice none 0 0] w (NoneLeft w):=by
 have he:=fun w:World=>Lib.run_eql_slice_nil (P:=Tryz.prog) w 84 44 none 0 0 0 0 Tryz.underlying84
 go_enter Tryz.func191,Tryz.ntmps191
 go_wp2_with fail
 go_ret
 exact ⟨_,_,rfl,Chg.refl _ _⟩
theorem clone64_empty {w:World} {x:Addr} {cap:Nat} : Calls Tryz.prog 191 #[.slice (some x) 0 cap] w (NoneLeft w):=by
 obtain ⟨i0,hi,hz0,hz1,hz2⟩:=info_parts infoU64
 have Hi:=Lib.hid hi
 have he:=fun w:World=>Lib.run_eql_slice_nil (P:=Tryz.prog) w 84 44 (some x) 0 cap 0 0 Tryz.underlying84
 clear hi
 go_enter Tryz.func191,Tryz.ntmps191
 go_wp2_with (at_builtin;refine wpList_append_own _ rfl _ _ 84 rfl w.heap.size 44 i0 (.int .u64 0) 1 8 Tryz.underlying84 Hi.out hz0 hz1 hz2 rfl (by decide) _ 0 [] rfl (World.ownsRow_made w #[] 0 (Nat.le_refl _) (Nat.zero_le _) rfl) x 0 cap [] rfl rfl (by simp) (by simp) (by decide) (by decide) ?c4 ?_)
 case c4=>simp
 intro v' w1 hown hgrow _
 have HC:Hid (Chg [] w w1):=Lib.hid (((Chg.refl [] w).alloc _).grown hgrow (fun k hk => .inr (by simp [Value.ownBlock] at hk;omega)))
 obtain ⟨a,c,rfl⟩:∃ a c,v' = .slice a 0 c:=by
  rcases hown.2 with ⟨h,_⟩ | ⟨g,cap,cur,h,_⟩
  ·exact ⟨none,0,h⟩
  ·exact ⟨_,_,h⟩
 clear hown hgrow
 go_wp2_with fail
 go_ret
 exact ⟨_,_,rfl,HC.out⟩
theorem sort_none {w:World} {a:Option Addr} {c:Nat} : Calls Tryz.prog 192 #[.slice a 0 c] w fun e w'=>e = .returned (.tuple #[])∧w=w':=by
 have h1:∀ w:World,Calls Tryz.prog 218 #[.slice a 0 c,.int .i64 0,.int .i64 0] w fun e w'=>e = .returned (.tuple #[])∧w=w':=fun w=>by
  go_enter Tryz.func218,Tryz.ntmps218
  go_wp2_with fail
  refine wp_loop_rounds 1 ?_
  rw [rounds_succ]
  go_wp2_with fail
  go_end0
  exact ⟨rfl,rfl⟩
 have h2:∀ (l:Int) (w:World),Calls Tryz.prog 210 #[.slice a 0 c,.int .i64 0,.int .i64 0,.int .i64 l] w fun e w'=>e = .returned (.tuple #[])∧w=w':=fun l w=>by
  go_enter Tryz.func210,Tryz.ntmps210
  go_wp2_with fail
  refine wp_loop_rounds 1 ?_
  rw [rounds_succ]
  go_wp2_with fail
  refine (h1 _).mono ?_
  rintro e w' ⟨rfl,rfl⟩
  go_wp2_with fail
  exact bodyPost_ret (v := .tuple #[]) (by simp [results,Tryz.results210,go_sem]) rfl ⟨rfl,rfl⟩
 go_enter Tryz.func192,Tryz.ntmps192
 go_wp2_with fail
 refine (len_at 0 _ (by omega)).mono ?_
 rintro e w' ⟨l,rfl,rfl⟩
 go_wp2_with fail
 refine (h2 l _).mono ?_
 rintro e w' ⟨rfl,rfl⟩
 go_wp2_with fail
 go_end0
 exact ⟨rfl,rfl⟩
end Go.Proofs.YtkhcaclndepgbaaGreat
