/- leaf.Decode: a page that is right so far. · What a page tells of the node whose page it is. No program in sight. -/
import Derived.Test.YtkhcaclndepgbaaGreatZm22
import Derived.Deep.DeepCutAuto
import Derived.Deep.CutBlock
set_option linter.unusedVariables false
set_option linter.unusedSimpArgs false
set_option maxRecDepth 100000
set_option maxHeartbeats 20000000
namespace Go.Proofs.YtkhcaclndepgbaaGreat
open Go.RowKit
structure DecMid (w W:World) (leaf:Bool) (n g c:Nat) (f:Nat→Nat) (b off:Nat) (h:Nat→Nat) (kb vb nb bb:Nat):Prop where
 hX:W.heap[w.heap.size]?=some (.cells #[.bool false,.slice none 0 0,.slice none 0 0] 107 (0,0))
 hB:W.heap[bb]?=some (.cells #[.slice (some ⟨g,0,none⟩) 123 c] 22 (0,0))
 hN:W.heap[nb]?=some (.cells #[.bool leaf,.slice (some ⟨kb,0,none⟩) n n,.slice (some ⟨vb,0,none⟩) n n] 107 (0,0))
 hK:Row64 W kb n (fun _=>0)
 hV:Row64 W vb n (fun _=>0)
 hG:BytesAt W g 0 123 f
 hP:BytesAt W b off 128 h
 C:Chg [] w W
 dX:w.heap.size<kb∧w.heap.size<vb∧w.heap.size<nb∧w.heap.size<bb∧w.heap.size<g
 d1:kb≠vb
 d2:kb≠bb
 d3:vb≠bb
 d4:kb≠g
 d5:vb≠g
 d6:kb≠nb
 d7:vb≠nb
 d8:b<w.heap.size
 lg:g<W.heap.size
theorem row_zeroL {w:World} {n g:Nat} (h:w.heap[g]?=some (.cells (zrow n (.int .u64 0)) 44 (0,0))):Row64 w g n (fun _=>0) :=
 ⟨fun i hi=>⟨by rw [zcb h];simp [zrow,hi],by omega⟩,_,h⟩
theorem alloc4 (w:World) (a b c d:Obj):((((w.alloc a).alloc b).alloc c).alloc d).heap[w.heap.size]?=some a∧((((w.alloc a).alloc b).alloc c).alloc d).heap[w.heap.size+1]?=some b ∧
  ((((w.alloc a).alloc b).alloc c).alloc d).heap[w.heap.size+1+1]?=some c∧((((w.alloc a).alloc b).alloc c).alloc d).heap[w.heap.size+1+1+1]?=some d:=by
 refine ⟨?_,?_,?_,?_⟩
 ·rw [Below.heap_alloc _ _ _ (by simp only [size_alloc'];omega),Below.heap_alloc _ _ _ (by simp only [size_alloc'];omega),znd]
 ·rw [Below.heap_alloc _ _ _ (by simp only [size_alloc'];omega),Below.heap_alloc _ _ _ (by simp only [size_alloc'];omega),znc]
 ·rw [Below.heap_alloc _ _ _ (by simp only [size_alloc'];omega)]
  have:=znc (w.alloc a) b c
  simpa only [size_alloc'] using this
 ·have:=znb (((w.alloc a).alloc b).alloc c) d
  simpa only [size_alloc'] using this
theorem ord123 (s:Nat):s<s+1∧s<s+1+1∧s<s+1+1+1∧s+1≠s+1+1∧s+1≠s+1+1+1∧s+1+1≠s+1+1+1:=by omega
theorem ord132 (s:Nat):s<s+1∧s<s+1+1+1∧s<s+1+1∧s+1≠s+1+1+1∧s+1≠s+1+1∧s+1+1+1≠s+1+1:=by omega
theorem ord213 (s:Nat):s<s+1+1∧s<s+1∧s<s+1+1+1∧s+1+1≠s+1∧s+1+1≠s+1+1+1∧s+1≠s+1+1+1:=by omega
theorem ord231 (s:Nat):s<s+1+1∧s<s+1+1+1∧s<s+1∧s+1+1≠s+1+1+1∧s+1+1≠s+1∧s+1+1+1≠s+1:=by omega
theorem ord312 (s:Nat):s<s+1+1+1∧s<s+1∧s<s+1+1∧s+1+1+1≠s+1∧s+1+1+1≠s+1+1∧s+1≠s+1+1:=by omega
theorem ord321 (s:Nat):s<s+1+1+1∧s<s+1+1∧s<s+1∧s+1+1+1≠s+1+1∧s+1+1+1≠s+1∧s+1+1≠s+1:=by omega
theorem dec_mid {w w1 W:World} {leaf:Bool} {n g c:Nat} {f h:Nat→Nat} {b off:Nat} (C:Chg [] w w1) (hX:w1.heap[w.heap.size]?=some (.cells #[.bool false,.slice none 0 0,.slice none 0 0] 107 (0,0)))
  (hG:BytesAt w1 g 0 123 f) (lg:g<w1.heap.size) (lg2:w.heap.size+1≤g) (hP:BytesAt w1 b off 128 h) (d8:b<w.heap.size) (hc:Chg [] w1 W) (kb vb nb:Nat)
  (hB:W.heap[w1.heap.size]?=some (.cells #[.slice (some ⟨g,0,none⟩) 123 c] 22 (0,0)))
  (hK:W.heap[kb]?=some (.cells (zrow n (.int .u64 0)) 44 (0,0))) (hV:W.heap[vb]?=some (.cells (zrow n (.int .u64 0)) 44 (0,0)))
  (hN:W.heap[nb]?=some (.cells #[.bool leaf,.slice (some ⟨kb,0,none⟩) n n,.slice (some ⟨vb,0,none⟩) n n] 107 (0,0)))
  (hs:w1.heap.size<kb∧w1.heap.size<vb∧w1.heap.size<nb∧kb≠vb∧kb≠nb∧vb≠nb) :
  DecMid w W leaf n g c f b off h kb vb nb w1.heap.size:=by
 have l1:=zhl hX
 exact ⟨(hc.block _ l1 (by simp)).trans hX,hB,hN,row_zeroL hK,row_zeroL hV,hG.chg hc (by simp),hP.chg hc (by simp),C.trans hc,by omega,by omega,by omega,by omega,by omega,by omega,by omega,by omega,d8,Nat.lt_of_lt_of_le lg hc.size⟩
theorem DecMid.drew {w W:World} {leaf:Bool} {n g c:Nat} {f:Nat→Nat} {b off:Nat} {h:Nat→Nat} {kb vb nb bb:Nat} (M:DecMid w W leaf n g c f b off h kb vb nb bb):DecMid w W.drew leaf n g c f b off h kb vb nb bb :=
 ⟨M.hX,M.hB,M.hN,M.hK.chg (Chg.drew (Chg.refl [] _)) (by simp),M.hV.chg (Chg.drew (Chg.refl [] _)) (by simp),M.hG.chg (Chg.drew (Chg.refl [] _)) (by simp),M.hP.chg (Chg.drew (Chg.refl [] _)) (by simp),M.C.drew,M.dX,M.d1,M.d2,M.d3,M.d4,M.d5,M.d6,M.d7,M.d8,M.lg⟩
def pkey (f:Nat→Nat):Nat→Nat:=keyF (fun i=>f (1+i)) (f 1)
def pval (f:Nat→Nat):Nat→Nat:=valF (fun i=>f (1+i)) (f 1)
def DecOk (w:World) (leaf:Bool) (f:Nat→Nat) (e:Ending) (w':World):Prop :=
 ∃ kb vb,e = .returned (.tuple #[.agg #[.bool leaf,.slice (some ⟨kb,0,none⟩) (f 1) (f 1),.slice (some ⟨vb,0,none⟩) (f 1) (f 1)],.int .i64 0]) ∧
  w.heap.size≤kb∧w.heap.size≤vb∧kb≠vb∧Row64 w' kb (f 1) (pkey f)∧Row64 w' vb (f 1) (pval f)∧Chg [] w w'
def DecEnd (w:World) (leaf:Bool) (f:Nat→Nat) (b:Bool) (e:Ending) (w':World):Prop:=if b then DecOk w leaf f e w' else DecBad w e w'
theorem dec_neg {w w':World} {leaf:Bool} {f:Nat→Nat} {b:Bool} {e:Ending} (h:b=false) (k:DecBad w e w'):DecEnd w leaf f b e w':=by subst h;exact k
theorem dec_pos {w w':World} {leaf:Bool} {f:Nat→Nat} {b:Bool} {e:Ending} (h:b=true) (k:DecOk w leaf f e w'):DecEnd w leaf f b e w':=by subst h;exact k
theorem keyF_zero (f:Nat→Nat):keyF f 0=fun _=>0:=by funext j;simp [keyF]
theorem valF_zero (f:Nat→Nat):valF f 0=fun _=>0:=by funext j;simp [valF]
theorem of_block_in {w:World} {g n:Nat} {f:Nat→Nat} (h:w.heap[g]?=some (.cells (u8s n f) 5 (0,0))) (hf:∀ i,i<n→f i≤255) (hn:n≤maxLen:=by unfold maxLen;omega):BytesIn w (some ⟨g,0,none⟩) n n f :=
 ⟨Nat.le_refl _,hn,(fun h=>by cases h),fun q hq _=>by
  injection hq with hq
  subst hq
  refine ⟨g,0,rfl,?_⟩
  have:=BytesAt.of_block h hf (off:=0) (n:=n) (by omega)
  simp only [Nat.zero_add] at this
  exact this⟩
theorem putF_leL {f:Nat→Nat} {p s v:Nat} {i:Nat} (h:f i≤255):putF f p s v i≤255:=by
 unfold putF
 split
 ·exact byteAt_leL _ _
 ·exact h
theorem sealP_leL {kind n:Nat} {f:Nat→Nat} (hk:kind≤255) (hf:∀ i,f i≤255) (i:Nat):sealP kind n f i≤255:=by
 refine putF_leL ?_
 unfold preP
 split
 ·exact hk
 ·split
  ·exact hf _
  ·omega
theorem pageF_le (leaf:Bool) {n:Nat} (hn:n≤255) (keys vals:Nat→Nat) (i:Nat):pageF leaf n keys vals i≤255 :=
 sealP_leL (by unfold kindL;split <;> omega) (fun i=>bodyF_le keys vals n i hn) i
theorem chg3b (w w1:World) (a b c:Value):Chg [w.heap.size] w1 (((w1.setCell ⟨w.heap.size,0,none⟩ a).setCell ⟨w.heap.size,1,none⟩ b).setCell ⟨w.heap.size,2,none⟩ c) :=
 (((Chg.refl _ _).setCell (.inl (by simp)) _).setCell (.inl (by simp)) _).setCell (.inl (by simp)) _
section
variable {w:World} {b off cap:Nat} {f:Nat→Nat} (h:BytesAt w b off 128 f) (hcap:128≤cap) (hN:cap≤9223372036854775807)
include h hcap hN
theorem dec_leaf (hp:pageOK f) (hk:f 0=kindL true) (hm:f 1≤7):Calls Tryz.prog 116 #[.slice (some ⟨b,off,none⟩) 128 cap] w (DecEnd w true f (rightB true (f 1) (f 1) (pkey f) (pval f)&&eqF 128 128 (pageF true (f 1) (pkey f) (pval f)) f)):=by
 have hW:=(Chg.refl [] w).alloc (.cells #[.bool false,.slice none 0 0,.slice none 0 0] 107)
 have hPb:=h.chg hW (by simp)
 have lb:b<w.heap.size:=World.block_lt_of_cell? _ _ (h 0 (by omega)).1
 have cO:=open_right hPb hcap hN hp
 have HPb:=Lib.hid hPb
 have HW:=Lib.hid hW
 have m1:¬ (7:Int)<(f 1:Int):=by omega
 have hmk:=run_make1 (P:=Tryz.prog) 84 44 Tryz.underlying84 infoU64 rfl .i64 .i64 (f 1) (by omega) (by omega)
 clear h hp hW hPb
 have k1:((f 0:Int) != 1)=false:=by simp;unfold kindL at hk;simp at hk;omega
 have k3:((f 0:Int)==1)=true:=by simp;unfold kindL at hk;simp at hk;omega
 clear hk
 go_enter Tryz.func116,Tryz.ntmps116
 go_wp2_with fail
 refine cO.mono ?_
 clear cO
 rintro e w1 ⟨g,c,rfl,r1,r2,r3,r4,r5,hC1⟩
 obtain ⟨l1,hX⟩:=dbl hC1
 have HX:=Lib.hid hX
 have HG:=Lib.hid r5
 have HP:=Lib.hid (HPb.out.chg hC1 (by simp))
 have HC1:=Lib.hid (HW.out.trans hC1)
 have z0:=(r5 0 (by omega)).1
 rw [size_alloc'] at r3
 simp only [Nat.add_zero] at z0
 clear hX hC1 r5
 go_upto_region 5 with fail
 go_cut [8] (fun s wx=>∃ kb vb nb bb,s = .pointer (some ⟨nb,0,none⟩)∧bb=w1.heap.size∧DecMid w wx true (f 1) g c (fun i=>f (1+i)) b off f kb vb nb bb)
 case first =>
  go_region
  all_goals
   go_wp2_with fail
   go_meet
   first
   | (with_reducible exact ⟨w1.heap.size+1,w1.heap.size+1+1,w1.heap.size+1+1+1,_,rfl,rfl,(dec_mid HC1.out HX.out HG.out r4 r3 HP.out lb (((((Chg.refl _ _).alloc _).alloc _).alloc _).alloc _) _ _ _ (alloc4 _ _ _ _ _).1 (alloc4 _ _ _ _ _).2.1 (alloc4 _ _ _ _ _).2.2.1 (alloc4 _ _ _ _ _).2.2.2 (ord123 _)).drew⟩)
   | (with_reducible exact ⟨w1.heap.size+1,w1.heap.size+1+1+1,w1.heap.size+1+1,_,rfl,rfl,(dec_mid HC1.out HX.out HG.out r4 r3 HP.out lb (((((Chg.refl _ _).alloc _).alloc _).alloc _).alloc _) _ _ _ (alloc4 _ _ _ _ _).1 (alloc4 _ _ _ _ _).2.1 (alloc4 _ _ _ _ _).2.2.2 (alloc4 _ _ _ _ _).2.2.1 (ord132 _)).drew⟩)
   | (with_reducible exact ⟨w1.heap.size+1+1,w1.heap.size+1,w1.heap.size+1+1+1,_,rfl,rfl,(dec_mid HC1.out HX.out HG.out r4 r3 HP.out lb (((((Chg.refl _ _).alloc _).alloc _).alloc _).alloc _) _ _ _ (alloc4 _ _ _ _ _).1 (alloc4 _ _ _ _ _).2.2.1 (alloc4 _ _ _ _ _).2.1 (alloc4 _ _ _ _ _).2.2.2 (ord213 _)).drew⟩)
   | (with_reducible exact ⟨w1.heap.size+1+1,w1.heap.size+1+1+1,w1.heap.size+1,_,rfl,rfl,(dec_mid HC1.out HX.out HG.out r4 r3 HP.out lb (((((Chg.refl _ _).alloc _).alloc _).alloc _).alloc _) _ _ _ (alloc4 _ _ _ _ _).1 (alloc4 _ _ _ _ _).2.2.1 (alloc4 _ _ _ _ _).2.2.2 (alloc4 _ _ _ _ _).2.1 (ord231 _)).drew⟩)
   | (with_reducible exact ⟨w1.heap.size+1+1+1,w1.heap.size+1,w1.heap.size+1+1,_,rfl,rfl,(dec_mid HC1.out HX.out HG.out r4 r3 HP.out lb (((((Chg.refl _ _).alloc _).alloc _).alloc _).alloc _) _ _ _ (alloc4 _ _ _ _ _).1 (alloc4 _ _ _ _ _).2.2.2 (alloc4 _ _ _ _ _).2.1 (alloc4 _ _ _ _ _).2.2.1 (ord312 _)).drew⟩)
   | (with_reducible exact ⟨w1.heap.size+1+1+1,w1.heap.size+1+1,w1.heap.size+1,_,rfl,rfl,(dec_mid HC1.out HX.out HG.out r4 r3 HP.out lb (((((Chg.refl _ _).alloc _).alloc _).alloc _).alloc _) _ _ _ (alloc4 _ _ _ _ _).1 (alloc4 _ _ _ _ _).2.2.2 (alloc4 _ _ _ _ _).2.2.1 (alloc4 _ _ _ _ _).2.1 (ord321 _)).drew⟩)
 case rest =>
  obtain ⟨kb,vb,nb,bb,rfl,rfl,M⟩:=hcut
  obtain ⟨X1,X2,X3,X4,X5⟩:=M.dX
  have D1:=M.d1
  have D6:=M.d6
  have D7:=M.d7
  have D8:=M.d8
  have n0:=zcb M.hN 0
  have n1:=zcb M.hN 1
  have n2:=zcb M.hN 2
  simp only [List.getElem?_toArray,List.getElem?_cons_zero,List.getElem?_cons_succ] at n0 n1 n2
  have hN7:=zhl M.hN
  have cE:=each_dec (leaf:=true) hm (f:=fun i=>f (1+i)) (kb:=kb) (vb:=vb) (by rw [keyF_zero];exact M.hK) (by rw [valF_zero];exact M.hV) M.hB M.hG M.lg r1 (by unfold maxLen at r2;omega) M.d1 M.d2 M.d3 M.d4 M.d5
  have HM:=Lib.hid M
  clear M z0 HX HG HP HC1 hmk
  go_wp2_with fail
  refine cE.mono ?_
  clear cE
  rintro e w3 ⟨rfl,hK3,hV3,hC3⟩
  have N3:=(hC3.block nb (zhl HM.out.hN) (by simp;omega)).trans HM.out.hN
  have X3':=Lib.hid ((hC3.block w.heap.size (zhl HM.out.hX) (by simp;omega)).trans HM.out.hX)
  have P3:=Lib.hid (HM.out.hP.chg hC3 (by simp;omega))
  have C3:=Lib.hid (HM.out.C.then hC3 (by simp;omega))
  have n0:=zcb N3 0
  have n1:=zcb N3 1
  have n2:=zcb N3 2
  simp only [List.getElem?_toArray,List.getElem?_cons_zero,List.getElem?_cons_succ] at n0 n1 n2
  have K3:=Lib.hid hK3
  have V3:=Lib.hid hV3
  have NK:=Lib.hid (show NumsIn [] w3 (.slice (some ⟨kb,0,none⟩) (f 1) (f 1)) (f 1) (pkey f) from .inr ⟨kb,0,f 1,rfl,Nat.le_refl _,by unfold maxLen;omega,hK3.lt,by simp,hK3.nums⟩)
  have NV:=Lib.hid (show NumsIn [] w3 (.slice (some ⟨vb,0,none⟩) (f 1) (f 1)) (f 1) (pval f) from .inr ⟨vb,0,f 1,rfl,Nat.le_refl _,by unfold maxLen;omega,hV3.lt,by simp,hV3.nums⟩)
  have N3':=Lib.hid N3
  clear hK3 hV3 hC3 N3
  cases hr:rightB true (f 1) (f 1) (pkey f) (pval f) with
  | false =>
   have cB:=enc_bad NK.out NV.out hr
   have Hr:=Lib.hid hr
   clear hr
   go_wp2_with fail
   refine cB.mono ?_
   clear cB
   rintro e w4 ⟨rfl,hC4⟩
   have X4':=(hC4.block w.heap.size (zhl X3'.out) (by simp)).trans X3'.out
   have x0:=zcb X4' 0
   have x1:=zcb X4' 1
   have x2:=zcb X4' 2
   have y0:=zfb X4' 0
   have y1:=zfb X4' 1
   have y2:=zfb X4' 2
   simp only [List.getElem?_toArray,List.getElem?_cons_zero,List.getElem?_cons_succ] at x0 x1 x2
   have l4:=zhl X4'
   have HC4:=Lib.hid (C3.out.trans hC4)
   clear X4' hC4 n0 n1 n2
   go_wp2_with fail
   exact bodyPost_ret (v := .tuple #[.agg #[.bool false,.slice none 0 0,.slice none 0 0],.int .i64 30]) (by simp [results,Tryz.results116,go_sem,l4,x0,x1,x2]) rfl (dec_neg (by rw [Hr.out];rfl) ⟨rfl,chg3 HC4.out _ _ _⟩)
  | true =>
   have cB:=enc_ok NK.out NV.out hr
   have Hr:=Lib.hid hr
   clear hr
   go_wp2_with fail
   refine cB.mono ?_
   clear cB
   rintro e w4 ⟨g4,rfl,hg4,hB4,hC4⟩
   have X4':=(hC4.block w.heap.size (zhl X3'.out) (by simp)).trans X3'.out
   have x0:=zcb X4' 0
   have x1:=zcb X4' 1
   have x2:=zcb X4' 2
   have y0:=zfb X4' 0
   have y1:=zfb X4' 1
   have y2:=zfb X4' 2
   simp only [List.getElem?_toArray,List.getElem?_cons_zero,List.getElem?_cons_succ] at x0 x1 x2
   have l4:=zhl X4'
   have N4:=(hC4.block nb (zhl N3'.out) (by simp)).trans N3'.out
   have m0:=zcb N4 0
   have m1:=zcb N4 1
   have m2:=zcb N4 2
   simp only [List.getElem?_toArray,List.getElem?_cons_zero,List.getElem?_cons_succ] at m0 m1 m2
   have l5:=zhl N4
   have hpl:∀ i,i<128→pageF true (f 1) (pkey f) (pval f) i≤255:=fun i _=>pageF_le true (by omega) _ _ _
   have i1:BytesIn w4 (some ⟨g4,0,none⟩) 128 128 (pageF true (f 1) (pkey f) (pval f)):=of_block_in hB4 hpl
   have i2:BytesIn w4 (some ⟨b,off,none⟩) 128 cap f:=⟨hcap,by unfold maxLen;omega,(fun h=>by cases h),fun q hq _=>by injection hq with hq;subst hq;exact ⟨b,off,rfl,P3.out.chg hC4 (by simp)⟩⟩
   have v1:=conv_at i1
   have v2:=conv_at i2
   have E:=bstr_beq i1.le i2.le
   have HC4:=Lib.hid (C3.out.trans hC4)
   have K4:=Lib.hid (K3.out.chg hC4 (by simp))
   have V4:=Lib.hid (V3.out.chg hC4 (by simp))
   clear X4' hC4 n0 n1 n2 N4 i1 i2 hpl hB4
   cases he:eqF 128 128 (pageF true (f 1) (pkey f) (pval f)) f with
   | false =>
    rw [he] at E
    have He:=Lib.hid he
    clear he
    go_wp2_with fail
    exact bodyPost_ret (v := .tuple #[.agg #[.bool false,.slice none 0 0,.slice none 0 0],.int .i64 30]) (by simp [results,Tryz.results116,go_sem,l4,x0,x1,x2]) rfl (dec_neg (by rw [Hr.out,He.out];rfl) ⟨rfl,chg3 HC4.out _ _ _⟩)
   | true =>
    rw [he] at E
    have He:=Lib.hid he
    clear he
    go_wp2_with fail
    refine bodyPost_ret (v := .tuple #[.agg #[.bool true,.slice (some ⟨kb,0,none⟩) (f 1) (f 1),.slice (some ⟨vb,0,none⟩) (f 1) (f 1)],.int .i64 0]) (by simp [results,Tryz.results116,go_sem,l4,x0,x1,x2]) rfl (dec_pos (by rw [Hr.out,He.out];rfl) ⟨kb,vb,rfl,by omega,by omega,D1,?_,?_,chg3 HC4.out _ _ _⟩)
    ·exact K4.out.chg (chg3b w w4 _ _ _) (by simp;omega)
    ·exact V4.out.chg (chg3b w w4 _ _ _) (by simp;omega)
theorem dec_inner (hp:pageOK f) (hk:f 0=kindL false) (hm:f 1≤7):Calls Tryz.prog 116 #[.slice (some ⟨b,off,none⟩) 128 cap] w (DecEnd w false f (rightB false (f 1) (f 1) (pkey f) (pval f)&&eqF 128 128 (pageF false (f 1) (pkey f) (pval f)) f)):=by
 have hW:=(Chg.refl [] w).alloc (.cells #[.bool false,.slice none 0 0,.slice none 0 0] 107)
 have hPb:=h.chg hW (by simp)
 have lb:b<w.heap.size:=World.block_lt_of_cell? _ _ (h 0 (by omega)).1
 have cO:=open_right hPb hcap hN hp
 have HPb:=Lib.hid hPb
 have HW:=Lib.hid hW
 have m1:¬ (7:Int)<(f 1:Int):=by omega
 have hmk:=run_make1 (P:=Tryz.prog) 84 44 Tryz.underlying84 infoU64 rfl .i64 .i64 (f 1) (by omega) (by omega)
 clear h hp hW hPb
 have k1:((f 0:Int) != 1)=true:=by simp;unfold kindL at hk;simp at hk;omega
 have k2:((f 0:Int) != 2)=false:=by simp;unfold kindL at hk;simp at hk;omega
 have k3:((f 0:Int)==1)=false:=by simp;unfold kindL at hk;simp at hk;omega
 clear hk
 go_enter Tryz.func116,Tryz.ntmps116
 go_wp2_with fail
 refine cO.mono ?_
 clear cO
 rintro e w1 ⟨g,c,rfl,r1,r2,r3,r4,r5,hC1⟩
 obtain ⟨l1,hX⟩:=dbl hC1
 have HX:=Lib.hid hX
 have HG:=Lib.hid r5
 have HP:=Lib.hid (HPb.out.chg hC1 (by simp))
 have HC1:=Lib.hid (HW.out.trans hC1)
 have z0:=(r5 0 (by omega)).1
 rw [size_alloc'] at r3
 simp only [Nat.add_zero] at z0
 clear hX hC1 r5
 go_upto_region 5 with fail
 go_cut [8] (fun s wx=>∃ kb vb nb bb,s = .pointer (some ⟨nb,0,none⟩)∧bb=w1.heap.size∧DecMid w wx false (f 1) g c (fun i=>f (1+i)) b off f kb vb nb bb)
 case first =>
  go_region
  all_goals
   go_wp2_with fail
   go_meet
   first
   | (with_reducible exact ⟨w1.heap.size+1,w1.heap.size+1+1,w1.heap.size+1+1+1,_,rfl,rfl,(dec_mid HC1.out HX.out HG.out r4 r3 HP.out lb (((((Chg.refl _ _).alloc _).alloc _).alloc _).alloc _) _ _ _ (alloc4 _ _ _ _ _).1 (alloc4 _ _ _ _ _).2.1 (alloc4 _ _ _ _ _).2.2.1 (alloc4 _ _ _ _ _).2.2.2 (ord123 _)).drew⟩)
   | (with_reducible exact ⟨w1.heap.size+1,w1.heap.size+1+1+1,w1.heap.size+1+1,_,rfl,rfl,(dec_mid HC1.out HX.out HG.out r4 r3 HP.out lb (((((Chg.refl _ _).alloc _).alloc _).alloc _).alloc _) _ _ _ (alloc4 _ _ _ _ _).1 (alloc4 _ _ _ _ _).2.1 (alloc4 _ _ _ _ _).2.2.2 (alloc4 _ _ _ _ _).2.2.1 (ord132 _)).drew⟩)
   | (with_reducible exact ⟨w1.heap.size+1+1,w1.heap.size+1,w1.heap.size+1+1+1,_,rfl,rfl,(dec_mid HC1.out HX.out HG.out r4 r3 HP.out lb (((((Chg.refl _ _).alloc _).alloc _).alloc _).alloc _) _ _ _ (alloc4 _ _ _ _ _).1 (alloc4 _ _ _ _ _).2.2.1 (alloc4 _ _ _ _ _).2.1 (alloc4 _ _ _ _ _).2.2.2 (ord213 _)).drew⟩)
   | (with_reducible exact ⟨w1.heap.size+1+1,w1.heap.size+1+1+1,w1.heap.size+1,_,rfl,rfl,(dec_mid HC1.out HX.out HG.out r4 r3 HP.out lb (((((Chg.refl _ _).alloc _).alloc _).alloc _).alloc _) _ _ _ (alloc4 _ _ _ _ _).1 (alloc4 _ _ _ _ _).2.2.1 (alloc4 _ _ _ _ _).2.2.2 (alloc4 _ _ _ _ _).2.1 (ord231 _)).drew⟩)
   | (with_reducible exact ⟨w1.heap.size+1+1+1,w1.heap.size+1,w1.heap.size+1+1,_,rfl,rfl,(dec_mid HC1.out HX.out HG.out r4 r3 HP.out lb (((((Chg.refl _ _).alloc _).alloc _).alloc _).alloc _) _ _ _ (alloc4 _ _ _ _ _).1 (alloc4 _ _ _ _ _).2.2.2 (alloc4 _ _ _ _ _).2.1 (alloc4 _ _ _ _ _).2.2.1 (ord312 _)).drew⟩)
   | (with_reducible exact ⟨w1.heap.size+1+1+1,w1.heap.size+1+1,w1.heap.size+1,_,rfl,rfl,(dec_mid HC1.out HX.out HG.out r4 r3 HP.out lb (((((Chg.refl _ _).alloc _).alloc _).alloc _).alloc _) _ _ _ (alloc4 _ _ _ _ _).1 (alloc4 _ _ _ _ _).2.2.2 (alloc4 _ _ _ _ _).2.2.1 (alloc4 _ _ _ _ _).2.1 (ord321 _)).drew⟩)
 case rest =>
  obtain ⟨kb,vb,nb,bb,rfl,rfl,M⟩:=hcut
  obtain ⟨X1,X2,X3,X4,X5⟩:=M.dX
  have D1:=M.d1
  have D6:=M.d6
  have D7:=M.d7
  have D8:=M.d8
  have n0:=zcb M.hN 0
  have n1:=zcb M.hN 1
  have n2:=zcb M.hN 2
  simp only [List.getElem?_toArray,List.getElem?_cons_zero,List.getElem?_cons_succ] at n0 n1 n2
  have hN7:=zhl M.hN
  have cE:=each_dec (leaf:=false) hm (f:=fun i=>f (1+i)) (kb:=kb) (vb:=vb) (by rw [keyF_zero];exact M.hK) (by rw [valF_zero];exact M.hV) M.hB M.hG M.lg r1 (by unfold maxLen at r2;omega) M.d1 M.d2 M.d3 M.d4 M.d5
  have HM:=Lib.hid M
  clear M z0 HX HG HP HC1 hmk
  go_wp2_with fail
  refine cE.mono ?_
  clear cE
  rintro e w3 ⟨rfl,hK3,hV3,hC3⟩
  have N3:=(hC3.block nb (zhl HM.out.hN) (by simp;omega)).trans HM.out.hN
  have X3':=Lib.hid ((hC3.block w.heap.size (zhl HM.out.hX) (by simp;omega)).trans HM.out.hX)
  have P3:=Lib.hid (HM.out.hP.chg hC3 (by simp;omega))
  have C3:=Lib.hid (HM.out.C.then hC3 (by simp;omega))
  have n0:=zcb N3 0
  have n1:=zcb N3 1
  have n2:=zcb N3 2
  simp only [List.getElem?_toArray,List.getElem?_cons_zero,List.getElem?_cons_succ] at n0 n1 n2
  have K3:=Lib.hid hK3
  have V3:=Lib.hid hV3
  have NK:=Lib.hid (show NumsIn [] w3 (.slice (some ⟨kb,0,none⟩) (f 1) (f 1)) (f 1) (pkey f) from .inr ⟨kb,0,f 1,rfl,Nat.le_refl _,by unfold maxLen;omega,hK3.lt,by simp,hK3.nums⟩)
  have NV:=Lib.hid (show NumsIn [] w3 (.slice (some ⟨vb,0,none⟩) (f 1) (f 1)) (f 1) (pval f) from .inr ⟨vb,0,f 1,rfl,Nat.le_refl _,by unfold maxLen;omega,hV3.lt,by simp,hV3.nums⟩)
  have N3':=Lib.hid N3
  clear hK3 hV3 hC3 N3
  cases hr:rightB false (f 1) (f 1) (pkey f) (pval f) with
  | false =>
   have cB:=enc_bad NK.out NV.out hr
   have Hr:=Lib.hid hr
   clear hr
   go_wp2_with fail
   refine cB.mono ?_
   clear cB
   rintro e w4 ⟨rfl,hC4⟩
   have X4':=(hC4.block w.heap.size (zhl X3'.out) (by simp)).trans X3'.out
   have x0:=zcb X4' 0
   have x1:=zcb X4' 1
   have x2:=zcb X4' 2
   have y0:=zfb X4' 0
   have y1:=zfb X4' 1
   have y2:=zfb X4' 2
   simp only [List.getElem?_toArray,List.getElem?_cons_zero,List.getElem?_cons_succ] at x0 x1 x2
   have l4:=zhl X4'
   have HC4:=Lib.hid (C3.out.trans hC4)
   clear X4' hC4 n0 n1 n2
   go_wp2_with fail
   exact bodyPost_ret (v := .tuple #[.agg #[.bool false,.slice none 0 0,.slice none 0 0],.int .i64 30]) (by simp [results,Tryz.results116,go_sem,l4,x0,x1,x2]) rfl (dec_neg (by rw [Hr.out];rfl) ⟨rfl,chg3 HC4.out _ _ _⟩)
  | true =>
   have cB:=enc_ok NK.out NV.out hr
   have Hr:=Lib.hid hr
   clear hr
   go_wp2_with fail
   refine cB.mono ?_
   clear cB
   rintro e w4 ⟨g4,rfl,hg4,hB4,hC4⟩
   have X4':=(hC4.block w.heap.size (zhl X3'.out) (by simp)).trans X3'.out
   have x0:=zcb X4' 0
   have x1:=zcb X4' 1
   have x2:=zcb X4' 2
   have y0:=zfb X4' 0
   have y1:=zfb X4' 1
   have y2:=zfb X4' 2
   simp only [List.getElem?_toArray,List.getElem?_cons_zero,List.getElem?_cons_succ] at x0 x1 x2
   have l4:=zhl X4'
   have N4:=(hC4.block nb (zhl N3'.out) (by simp)).trans N3'.out
   have m0:=zcb N4 0
   have m1:=zcb N4 1
   have m2:=zcb N4 2
   simp only [List.getElem?_toArray,List.getElem?_cons_zero,List.getElem?_cons_succ] at m0 m1 m2
   have l5:=zhl N4
   have hpl:∀ i,i<128→pageF false (f 1) (pkey f) (pval f) i≤255:=fun i _=>pageF_le false (by omega) _ _ _
   have i1:BytesIn w4 (some ⟨g4,0,none⟩) 128 128 (pageF false (f 1) (pkey f) (pval f)):=of_block_in hB4 hpl
   have i2:BytesIn w4 (some ⟨b,off,none⟩) 128 cap f:=⟨hcap,by unfold maxLen;omega,(fun h=>by cases h),fun q hq _=>by injection hq with hq;subst hq;exact ⟨b,off,rfl,P3.out.chg hC4 (by simp)⟩⟩
   have v1:=conv_at i1
   have v2:=conv_at i2
   have E:=bstr_beq i1.le i2.le
   have HC4:=Lib.hid (C3.out.trans hC4)
   have K4:=Lib.hid (K3.out.chg hC4 (by simp))
   have V4:=Lib.hid (V3.out.chg hC4 (by simp))
   clear X4' hC4 n0 n1 n2 N4 i1 i2 hpl hB4
   cases he:eqF 128 128 (pageF false (f 1) (pkey f) (pval f)) f with
   | false =>
    rw [he] at E
    have He:=Lib.hid he
    clear he
    go_wp2_with fail
    exact bodyPost_ret (v := .tuple #[.agg #[.bool false,.slice none 0 0,.slice none 0 0],.int .i64 30]) (by simp [results,Tryz.results116,go_sem,l4,x0,x1,x2]) rfl (dec_neg (by rw [Hr.out,He.out];rfl) ⟨rfl,chg3 HC4.out _ _ _⟩)
   | true =>
    rw [he] at E
    have He:=Lib.hid he
    clear he
    go_wp2_with fail
    refine bodyPost_ret (v := .tuple #[.agg #[.bool false,.slice (some ⟨kb,0,none⟩) (f 1) (f 1),.slice (some ⟨vb,0,none⟩) (f 1) (f 1)],.int .i64 0]) (by simp [results,Tryz.results116,go_sem,l4,x0,x1,x2]) rfl (dec_pos (by rw [Hr.out,He.out];rfl) ⟨kb,vb,rfl,by omega,by omega,D1,?_,?_,chg3 HC4.out _ _ _⟩)
    ·exact K4.out.chg (chg3b w w4 _ _ _) (by simp;omega)
    ·exact V4.out.chg (chg3b w w4 _ _ _) (by simp;omega)
end
theorem num_bytes {g:Nat→Nat} {p v:Nat} : ∀ {k:Nat} (s:Nat),k≤s→(∀ i,i<s→g (p+i)=byteAt v (s - 1 - i))→v<256 ^ s→num g p k=v / 256 ^ (s - k)
 | 0,s,_,_,hv=>by
  unfold num
  rw [Nat.sub_zero,Nat.div_eq_of_lt hv]
 | k+1,s,hk,hg,hv=>by
  unfold num
  rw [num_bytes s (by omega) hg hv,hg k (by omega)]
  unfold byteAt
  have e:s - k=(s - (k+1))+1:=by omega
  have e2:s - 1 - k=s - (k+1):=by omega
  rw [e,e2,Nat.pow_succ,← Nat.div_div_eq_div_mul]
  omega
theorem num_all {g:Nat→Nat} {p v s:Nat} (hg:∀ i,i<s→g (p+i)=byteAt v (s - 1 - i)) (hv:v<256 ^ s):num g p s=v:=by
 rw [num_bytes s (Nat.le_refl _) hg hv,Nat.sub_self,Nat.pow_zero,Nat.div_one]
theorem sumB_congrL {f g:Nat→Nat} : ∀ {k:Nat},(∀ i,i<k→f i=g i)→sumB f k=sumB g k
 | 0,_=>rfl
 | k+1,h=>by unfold sumB;rw [sumB_congrL (k:=k) fun i hi=>h i (by omega),h k (by omega)]
theorem sealP_low (kind n:Nat) (f:Nat→Nat) {i:Nat} (h:i<124):sealP kind n f i=preP kind n f i:=by
 unfold sealP putF
 rw [if_neg (by omega)]
theorem seal_okL (kind n:Nat) (f:Nat→Nat):pageOK (sealP kind n f):=by
 unfold pageOK
 rw [show sumB (sealP kind n f) 124=sumB (preP kind n f) 124 from sumB_congrL fun i hi=>sealP_low kind n f (by omega)]
 have hlt:=sumB_lt (preP kind n f) 124
 refine num_all (fun i hi=>?_) (by rw [show (256:Nat) ^ 4=4294967296 by decide];omega)
 unfold sealP putF
 rw [if_pos (by omega)]
 congr 1 <;> omega
theorem page_low (leaf:Bool) (n:Nat) (keys vals:Nat→Nat) {i:Nat} (h:i<123):pageF leaf n keys vals (1+i)=bodyF n keys vals n i:=by
 unfold pageF
 rw [sealP_low _ _ _ (by omega)]
 unfold preP
 rw [if_neg (by omega),if_pos (by omega)]
 congr 1 <;> omega
theorem page_kind (leaf:Bool) (n:Nat) (keys vals:Nat→Nat):pageF leaf n keys vals 0=kindL leaf:=by
 unfold pageF
 rw [sealP_low _ _ _ (by omega)]
 unfold preP
 rw [if_pos rfl]
theorem page_many (leaf:Bool) (n:Nat) (keys vals:Nat→Nat):pageF leaf n keys vals 1=n:=by
 have:=page_low leaf n keys vals (i:=0) (by omega)
 rw [this]
 unfold bodyF
 rw [if_pos rfl]
theorem kindL_eq (leaf:Bool):decide (kindL leaf=1)=leaf:=by cases leaf <;> rfl
section
variable {leaf:Bool} {n:Nat} {keys vals:Nat→Nat} (hn:n≤7)
include hn
theorem pkey_page (hk:∀ i,i<n→keys i<18446744073709551616) {j:Nat} (hj:j<n):pkey (pageF leaf n keys vals) j=keys j:=by
 unfold pkey keyF
 rw [page_many,if_pos hj]
 refine num_all (fun i hi=>?_) (by rw [show (256:Nat) ^ 8=18446744073709551616 by decide];exact hk j hj)
 rw [page_low _ _ _ _ (by omega)]
 unfold bodyF
 rw [if_neg (by omega),if_pos (by omega),show (1+16*j+i - 1) / 16=j by omega,show (1+16*j+i - 1) % 16=i by omega,if_pos (by omega)]
theorem pval_page (hv:∀ i,i<n→vals i<18446744073709551616) {j:Nat} (hj:j<n):pval (pageF leaf n keys vals) j=vals j:=by
 unfold pval valF
 rw [page_many,if_pos hj]
 refine num_all (fun i hi=>?_) (by rw [show (256:Nat) ^ 8=18446744073709551616 by decide];exact hv j hj)
 rw [page_low _ _ _ _ (by omega)]
 unfold bodyF
 rw [if_neg (by omega),if_pos (by omega),show (1+16*j+8+i - 1) / 16=j by omega,show (1+16*j+8+i - 1) % 16=8+i by omega,if_neg (by omega)]
 congr 1 <;> omega
end
theorem kidsB_congr {f g:Nat→Nat} {n:Nat} (h:∀ i,i<n→f i=g i):kidsB f n=kidsB g n:=by
 refine kidsB_eq ?_
 rw [kidsB_iff]
 unfold GoodK
 constructor
 ·rintro ⟨a,b,c⟩
  exact ⟨a,fun i hi=>by rw [← h i hi];exact b i hi,fun i j hij hj=>by rw [← h i (by omega),← h j hj];exact c i j hij hj⟩
 ·rintro ⟨a,b,c⟩
  exact ⟨a,fun i hi=>by rw [h i hi];exact b i hi,fun i j hij hj=>by rw [h i (by omega),h j hj];exact c i j hij hj⟩
theorem ascB_congr {f g:Nat→Nat} {n:Nat} (h:∀ i,i<n→f i=g i):ascB f n=ascB g n:=by
 rw [Bool.eq_iff_iff,ascB_iff,ascB_iff]
 unfold ascTo
 constructor
 ·intro a i h1 h2
  rw [← h i h2,← h (i - 1) (by omega)];exact a i h1 h2
 ·intro a i h1 h2
  rw [h i h2,h (i - 1) (by omega)];exact a i h1 h2
theorem rightB_congr {leaf:Bool} {n m:Nat} {keys vals keys' vals':Nat→Nat} (hk:∀ i,i<n→keys i=keys' i) (hv:∀ i,i<m→vals i=vals' i):rightB leaf n m keys vals=rightB leaf n m keys' vals':=by
 unfold rightB
 rw [kidsB_congr hv,ascB_congr hk]
theorem bodyF_congr {n:Nat} {keys vals keys' vals':Nat→Nat} (hk:∀ i,i<n→keys i=keys' i) (hv:∀ i,i<n→vals i=vals' i):bodyF n keys vals n=bodyF n keys' vals' n:=by
 funext i
 unfold bodyF
 by_cases h0:i=0
 ·rw [if_pos h0,if_pos h0]
 ·rw [if_neg h0,if_neg h0]
  by_cases h1:i<1+16*n
  ·rw [if_pos h1,if_pos h1,hk _ (by omega),hv _ (by omega)]
  ·rw [if_neg h1,if_neg h1]
theorem pageF_congr {leaf:Bool} {n:Nat} {keys vals keys' vals':Nat→Nat} (hk:∀ i,i<n→keys i=keys' i) (hv:∀ i,i<n→vals i=vals' i):pageF leaf n keys vals=pageF leaf n keys' vals':=by
 unfold pageF
 rw [bodyF_congr hk hv]
theorem rightB_bd {leaf:Bool} {n m:Nat} {keys vals:Nat→Nat} (h:rightB leaf n m keys vals=true):n≤7∧m=n:=by
 unfold rightB at h
 simp only [Bool.and_eq_true,decide_eq_true_eq] at h
 exact ⟨h.1,h.2.1⟩
def decB (n:Nat) (f:Nat→Nat):Bool :=
 decide (n=128∧num f 124 4=sumB f 124∧(f 0=1∨f 0=2)∧f 1≤7)&&(rightB (decide (f 0=1)) (f 1) (f 1) (pkey f) (pval f)&&eqF 128 128 (pageF (decide (f 0=1)) (f 1) (pkey f) (pval f)) f)
theorem decB_page {leaf:Bool} {n:Nat} {keys vals:Nat→Nat} (h:rightB leaf n n keys vals=true) (hk:∀ i,i<n→keys i<18446744073709551616) (hv:∀ i,i<n→vals i<18446744073709551616) :
  decB 128 (pageF leaf n keys vals)=true:=by
 have hn:=(rightB_bd h).1
 unfold decB
 rw [page_many,page_kind,kindL_eq]
 have e1:∀ i,i<n→pkey (pageF leaf n keys vals) i=keys i:=fun i hi=>pkey_page hn hk hi
 have e2:∀ i,i<n→pval (pageF leaf n keys vals) i=vals i:=fun i hi=>pval_page hn hv hi
 rw [rightB_congr e1 e2,h,pageF_congr e1 e2]
 have hs:=seal_okL (kindL leaf) 123 (bodyF n keys vals n)
 have e:eqF 128 128 (pageF leaf n keys vals) (pageF leaf n keys vals)=true:=eqF_iff.2 ⟨rfl,fun _ _=>rfl⟩
 rw [e]
 simp only [Bool.and_true,decide_eq_true_eq]
 exact ⟨trivial,hs,by cases leaf <;> simp [kindL],hn⟩
theorem dec_at {w:World} {a:Option Addr} {n cap:Nat} {f:Nat→Nat} (h:BytesIn w a n cap f):Calls Tryz.prog 116 #[.slice a n cap] w (DecEnd w (decide (f 0=1)) f (decB n f)):=by
 by_cases hn:n=128
 ·subst hn
  obtain ⟨h1,h2,h3,h4⟩:=h
  cases a with
  | none=>have:=(h3 rfl).1;omega
  | some q =>
   obtain ⟨b,off,rfl,hb⟩:=h4 q rfl (by omega)
   have hN:cap≤9223372036854775807:=by unfold maxLen at h2;omega
   by_cases hp:pageOK f
   ·by_cases hk:f 0=1∨f 0=2
    ·by_cases hm:f 1≤7
     ·have e:decide (128=128∧num f 124 4=sumB f 124∧(f 0=1∨f 0=2)∧f 1≤7)=true:=by simp only [decide_eq_true_eq];exact ⟨trivial,hp,hk,hm⟩
      unfold decB
      rw [e,Bool.true_and]
      rcases hk with hk | hk
      ·have e2:decide (f 0=1)=true:=by simp [hk]
       rw [e2]
       exact dec_leaf hb h1 hN hp (by rw [hk];rfl) hm
      ·have e2:decide (f 0=1)=false:=by simp [hk]
       rw [e2]
       exact dec_inner hb h1 hN hp (by rw [hk];rfl) hm
     ·exact (dec_many hb h1 hN hp hk (by omega)).mono fun _ _ r=>dec_neg (by unfold decB;simp [hm]) r
    ·exact (dec_kind hb h1 hN hp (by omega)).mono fun _ _ r=>dec_neg (by unfold decB;simp [hk]) r
   ·exact (dec_sum hb h1 hN hp).mono fun _ _ r=>dec_neg (by unfold decB;unfold pageOK at hp;simp [hp]) r
 ·exact (dec_len hn).mono fun _ _ r=>dec_neg (by unfold decB;simp [hn]) r
end Go.Proofs.YtkhcaclndepgbaaGreat
