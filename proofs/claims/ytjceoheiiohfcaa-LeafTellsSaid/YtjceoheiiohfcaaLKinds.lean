/- catchmentlaw03.LeafKinds: the walk. -/
import Derived.Test.YtjceoheiiohfcaaNode
import Derived.Deep.DeepCutAuto
import Derived.Deep.CutBlock
namespace Go.Proofs.Ytjceoheiiohfcaa
open Go.RowKit
set_option linter.unusedVariables false
set_option linter.unusedSimpArgs false

/-- What a law's walk shows. -/
def LawOk (w : World) (e : Ending) (w' : World) : Prop := e = .returned (.bool true) ∧ Below w.heap.size w w'

theorem law_ok {w w' : World} (h : Chg [] w w') : LawOk w (.returned (.bool true)) w' := ⟨rfl, h.below (by simp)⟩

theorem kinds_right {nk nv : Nat} {keys vals : Nat → Nat} (h : rightB false nk nv keys vals = true) : rightB true nk nv keys vals = true := by
  unfold rightB at *
  simp only [Bool.and_eq_true, Bool.true_or, Bool.false_or] at *
  exact ⟨h.1, h.2.1, trivial, h.2.2.2⟩

theorem bytes_at_in {w : World} {g n c : Nat} {f : Nat → Nat} (h : BytesAt w g 0 n f) (hc : n ≤ c) (hm : c ≤ maxLen) : BytesIn w (some ⟨g, 0, none⟩) n c f :=
  ⟨hc, hm, (fun h => by cases h), fun q hq _ => by injection hq with hq; subst hq; exact ⟨g, 0, rfl, h⟩⟩
theorem kinds_eq {n : Nat} {keys vals : Nat → Nat} : eqF 123 123 (fun i => pageF true n keys vals (1 + i)) (fun i => pageF false n keys vals (1 + i)) = true :=
  eqF_iff.2 ⟨rfl, fun i hi => by rw [page_low _ _ _ _ hi, page_low _ _ _ _ hi]⟩

/-- Two copies of a node. -/
structure TwoN (w W : World) (b1 b2 : Nat) (l1 l2 : Bool) (vk vv : Value) : Prop where
  h1 : W.heap[b1]? = some (.cells #[.bool l1, vk, vv] 24 (0, 0))
  h2 : W.heap[b2]? = some (.cells #[.bool l2, vk, vv] 24 (0, 0))
  ne : b1 ≠ b2
  g1 : w.heap.size ≤ b1
  g2 : w.heap.size ≤ b2
  C : Chg [] w W
theorem TwoN.set {w W : World} {b1 b2 : Nat} {l1 l2 : Bool} {vk vv : Value} (h : TwoN w W b1 b2 l1 l2 vk vv) (x y : Bool) : TwoN w ((W.setCell ⟨b1, 0, none⟩ (.bool x)).setCell ⟨b2, 0, none⟩ (.bool y)) b1 b2 x y vk vv := by
  refine ⟨?_, ?_, h.ne, h.g1, h.g2, (h.C.setCell (.inr h.g1) _).setCell (.inr h.g2) _⟩
  · rw [setCell_other _ _ h.ne, setCell_block h.h1]; rfl
  · have := (setCell_other (w := W) (b := b1) 0 (.bool x) h.ne.symm).trans h.h2
    rw [setCell_block this]; rfl
theorem TwoN.chg {w W W' : World} {b1 b2 : Nat} {l1 l2 : Bool} {vk vv : Value} (h : TwoN w W b1 b2 l1 l2 vk vv) (c : Chg [] W W') : TwoN w W' b1 b2 l1 l2 vk vv :=
  ⟨(c.block _ (heap_lt h.h1) (by simp)).trans h.h1, (c.block _ (heap_lt h.h2) (by simp)).trans h.h2, h.ne, h.g1, h.g2, h.C.trans c⟩

set_option maxRecDepth 20000 in
set_option maxHeartbeats 4000000 in
theorem leafKinds_walk (v : Value) (leaf : Bool) (nk nv : Nat) (keys vals : Nat → Nat) (w : World) (hn : IsNode w v leaf nk nv keys vals) :
    Calls Try.prog 6 #[v] w (LawOk w) := by
  obtain ⟨vk, vv, rfl, hk, hv⟩ := hn
  obtain ⟨ak, ck, rfl, _⟩ := hk.cap
  obtain ⟨av, cv, rfl, _⟩ := hv.cap
  have HK := Lib.hid hk
  have HV := Lib.hid hv
  clear hk hv
  by_cases g1 : 20 < nk
  · have d1 : (20 : Int) < (nk : Int) := by omega
    clear g1
    go_enter Try.func6, Try.ntmps6
    go_wp2_with fail
    refine (awake03 _).mono ?_
    rintro e w1 ⟨rfl, hC⟩
    have HC := Lib.hid (((Chg.refl [] w).alloc _).trans hC)
    clear hC
    go_wp2_with fail
    go_ret
    exact law_ok HC.out
  · by_cases g2 : 20 < nv
    · have d1 : ¬ (20 : Int) < (nk : Int) := by omega
      have d2 : (20 : Int) < (nv : Int) := by omega
      clear g1 g2
      go_enter Try.func6, Try.ntmps6
      go_wp2_with fail
      refine (awake03 _).mono ?_
      rintro e w1 ⟨rfl, hC⟩
      have HC := Lib.hid (((Chg.refl [] w).alloc _).trans hC)
      clear hC
      go_wp2_with fail
      go_ret
      exact law_ok HC.out
    · have d1 : ¬ (20 : Int) < (nk : Int) := by omega
      have d2 : ¬ (20 : Int) < (nv : Int) := by omega
      clear g1 g2
      go_enter Try.func6, Try.ntmps6
      go_wp2_with fail
      go_upto_region 3 with fail
      go_cut [3, 4] (fun s t wx => ∃ b1 b2, s = .pointer (some ⟨b1, 0, none⟩) ∧ t = .pointer (some ⟨b2, 0, none⟩) ∧ TwoN w wx b1 b2 leaf leaf (.slice ak nk ck) (.slice av nv cv))
      case first =>
        have q1 := new_block21 (w.alloc (.cells #[.bool leaf, .slice ak nk ck, .slice av nv cv] 24)) (.cells #[.bool leaf, .slice ak nk ck, .slice av nv cv] 24) (.cells #[.bool leaf, .slice ak nk ck, .slice av nv cv] 24)
        have q2 := new_block2 (w.alloc (.cells #[.bool leaf, .slice ak nk ck, .slice av nv cv] 24)) (.cells #[.bool leaf, .slice ak nk ck, .slice av nv cv] 24) (.cells #[.bool leaf, .slice ak nk ck, .slice av nv cv] 24)
        simp only [size_alloc'] at q1 q2
        have Q1 := Lib.hid q1
        have Q2 := Lib.hid q2
        clear q1 q2
        go_region
        · go_wp2_with fail
          go_meet
          exact ⟨_, _, rfl, rfl, Q1.out, Q2.out, by omega, by omega, by omega, ((((Chg.refl _ _).alloc _).alloc _).alloc _).drew⟩
        · go_wp2_with fail
          go_meet
          exact ⟨_, _, rfl, rfl, Q2.out, Q1.out, by omega, by omega, by omega, ((((Chg.refl _ _).alloc _).alloc _).alloc _).drew⟩
      case rest =>
        obtain ⟨b1, b2, rfl, rfl, M0⟩ := hcut
        have M := M0
        have x0 := cell_of_block M.h1 0
        have x1 := cell_of_block M.h1 1
        have x2 := cell_of_block M.h1 2
        have y0 := cell_of_block M.h2 0
        have y1 := cell_of_block M.h2 1
        have y2 := cell_of_block M.h2 2
        have lx := heap_lt M.h1
        have ly := heap_lt M.h2
        simp only [List.getElem?_toArray, List.getElem?_cons_zero, List.getElem?_cons_succ] at x0 x1 x2 y0 y1 y2
        have f1 := frozen_of_block M.h1 0
        have f2 := frozen_of_block M.h2 0
        have HM0 := Lib.hid M0
        have hne := M.ne
        clear M M0
        go_upto_region 5 with fail
        have M := HM0.out.set true false
        generalize (((_ : World).setCell ⟨b1, 0, none⟩ (.bool true)).setCell ⟨b2, 0, none⟩ (.bool false)) = w1 at M ⊢
        clear x0 x1 x2 y0 y1 y2 f1 f2 lx ly HM0
        have x0 := cell_of_block M.h1 0
        have x1 := cell_of_block M.h1 1
        have x2 := cell_of_block M.h1 2
        have y0 := cell_of_block M.h2 0
        have y1 := cell_of_block M.h2 1
        have y2 := cell_of_block M.h2 2
        have lx := heap_lt M.h1
        have ly := heap_lt M.h2
        simp only [List.getElem?_toArray, List.getElem?_cons_zero, List.getElem?_cons_succ] at x0 x1 x2 y0 y1 y2
        have M1 := Lib.hid M
        have hK1 := HK.out.chg M.C (by simp)
        have hV1 := HV.out.chg M.C (by simp)
        have c2 := right_at (leaf := false) hK1 hV1
        have K1 := Lib.hid hK1
        have V1 := Lib.hid hV1
        clear M hK1 hV1
        cases hr : rightB false nk nv keys vals with
        | false =>
          rw [hr] at c2
          have Hr := Lib.hid hr
          clear hr
          go_wp2_with fail
          refine c2.mono ?_
          clear c2
          rintro e w2 ⟨rfl, hC2⟩
          have M2 := M1.out.chg hC2
          clear x0 x1 x2 y0 y1 y2 lx ly
          have y0 := cell_of_block M2.h2 0
          have y1 := cell_of_block M2.h2 1
          have y2 := cell_of_block M2.h2 2
          simp only [List.getElem?_toArray, List.getElem?_cons_zero, List.getElem?_cons_succ] at y0 y1 y2
          have c3 := right_at (leaf := false) (K1.out.chg hC2 (by simp)) (V1.out.chg hC2 (by simp))
          rw [Hr.out] at c3
          have HM2 := Lib.hid M2
          clear M2 hC2
          go_wp2_with fail
          refine c3.mono ?_
          clear c3
          rintro e w3 ⟨rfl, hC3⟩
          have HC3 := Lib.hid (HM2.out.C.trans hC3)
          clear hC3
          go_wp2_with fail
          refine (awake03 _).mono ?_
          rintro e wz ⟨rfl, hZ⟩
          have HZ := Lib.hid ((HC3.out).trans hZ)
          clear hZ
          go_wp2_with fail
          go_ret
          exact law_ok HZ.out
        | true =>
          rw [hr] at c2
          obtain ⟨n7, rfl⟩ := rightB_bd hr
          have hr1 := kinds_right hr
          have Hr := Lib.hid hr
          have Hr1 := Lib.hid hr1
          clear hr hr1
          go_wp2_with fail
          refine c2.mono ?_
          clear c2
          rintro e w2 ⟨rfl, hC2⟩
          have M2 := M1.out.chg hC2
          clear x0 x1 x2 y0 y1 y2 lx ly
          have x0 := cell_of_block M2.h1 0
          have x1 := cell_of_block M2.h1 1
          have x2 := cell_of_block M2.h1 2
          simp only [List.getElem?_toArray, List.getElem?_cons_zero, List.getElem?_cons_succ] at x0 x1 x2
          have lx := heap_lt M2.h1
          have K2 := Lib.hid (K1.out.chg hC2 (by simp))
          have V2 := Lib.hid (V1.out.chg hC2 (by simp))
          have c3 := right_at (leaf := true) K2.out V2.out
          rw [Hr1.out] at c3
          have HM2 := Lib.hid M2
          clear M2 hC2 K1 V1 M1
          go_wp2_with fail
          refine c3.mono ?_
          clear c3
          rintro e w3 ⟨rfl, hC3⟩
          have M3 := HM2.out.chg hC3
          clear x0 x1 x2 lx
          have y0 := cell_of_block M3.h2 0
          have y1 := cell_of_block M3.h2 1
          have y2 := cell_of_block M3.h2 2
          simp only [List.getElem?_toArray, List.getElem?_cons_zero, List.getElem?_cons_succ] at y0 y1 y2
          have ly := heap_lt M3.h2
          have K3 := Lib.hid (K2.out.chg hC3 (by simp))
          have V3 := Lib.hid (V2.out.chg hC3 (by simp))
          have c4 := right_at (leaf := false) K3.out V3.out
          rw [Hr.out] at c4
          have HM3 := Lib.hid M3
          clear M3 hC3 K2 V2 HM2
          go_wp2_with fail
          refine c4.mono ?_
          clear c4
          rintro e w4 ⟨rfl, hC4⟩
          have M4 := HM3.out.chg hC4
          clear y0 y1 y2 ly
          have x0 := cell_of_block M4.h1 0
          have x1 := cell_of_block M4.h1 1
          have x2 := cell_of_block M4.h1 2
          simp only [List.getElem?_toArray, List.getElem?_cons_zero, List.getElem?_cons_succ] at x0 x1 x2
          have lx := heap_lt M4.h1
          have K4 := Lib.hid (K3.out.chg hC4 (by simp))
          have V4 := Lib.hid (V3.out.chg hC4 (by simp))
          have HM4 := Lib.hid M4
          clear M4 hC4 K3 V3 HM3
          go_wp2_with fail
          refine (enc_ok (leaf := true) K4.out V4.out Hr1.out).mono ?_
          rintro e w5 ⟨p1, rfl, hp1, hB5, hC5⟩
          have M5 := HM4.out.chg hC5
          clear x0 x1 x2 lx
          have y0 := cell_of_block M5.h2 0
          have y1 := cell_of_block M5.h2 1
          have y2 := cell_of_block M5.h2 2
          simp only [List.getElem?_toArray, List.getElem?_cons_zero, List.getElem?_cons_succ] at y0 y1 y2
          have ly := heap_lt M5.h2
          have K5 := Lib.hid (K4.out.chg hC5 (by simp))
          have V5 := Lib.hid (V4.out.chg hC5 (by simp))
          have HM5 := Lib.hid M5
          have B5 := Lib.hid hB5
          clear M5 hC5 K4 V4 HM4 hB5
          go_wp2_with fail
          refine (enc_ok (leaf := false) K5.out V5.out Hr.out).mono ?_
          rintro e w6 ⟨p2, rfl, hp2, hB6, hC6⟩
          have C6 := Lib.hid (HM5.out.C.trans hC6)
          have B5' := (hC6.block p1 (heap_lt B5.out) (by simp)).trans B5.out
          have a0 := page_cell B5' (i := 0) (by omega) (page_kind _ _ _ _)
          have b0 := page_cell hB6 (i := 0) (by omega) (page_kind _ _ _ _)
          have i1 := BytesAt.of_block B5' (fun i _ => pageF_le true (by omega) keys vals i) (off := 0) (n := 128) (by omega)
          have i2 := BytesAt.of_block hB6 (fun i _ => pageF_le false (by omega) keys vals i) (off := 0) (n := 128) (by omega)
          simp only [Nat.zero_add] at i1 i2
          have o1 := open_right (cap := 128) i1 (Nat.le_refl _) (by omega) (seal_ok _ _ _)
          have I2 := Lib.hid i2
          clear hC6 B5' hB6 i1 i2 B5 HM5 K5 V5 y0 y1 y2 ly
          rw [page_kind] at o1
          go_wp2_with fail
          refine o1.mono ?_
          clear o1 a0 b0
          rintro e w7 ⟨g1, c1, rfl, r1, r2, r3, r4, r5, hC7⟩
          have C7 := Lib.hid (C6.out.trans hC7)
          have o2 := open_right (cap := 128) (I2.out.chg hC7 (by simp)) (Nat.le_refl _) (by omega) (seal_ok _ _ _)
          rw [page_kind] at o2
          have R5 := Lib.hid r5
          clear r5 hC7
          go_wp2_with fail
          refine o2.mono ?_
          clear o2
          rintro e w8 ⟨g2, c2, rfl, s1, s2, s3, s4, s5, hC8⟩
          have C8 := Lib.hid (C7.out.trans hC8)
          have cE := equal_at (bytes_at_in (R5.out.chg hC8 (by simp)) r1 r2) (bytes_at_in s5 s1 s2)
          rw [kinds_eq] at cE
          clear s5 hC8
          go_wp2_with fail
          refine cE.mono ?_
          clear cE
          rintro e w' ⟨rfl, rfl⟩
          go_wp2_with fail
          refine (awake03 _).mono ?_
          rintro e wz ⟨rfl, hZ⟩
          have HZ := Lib.hid ((C8.out).trans hZ)
          clear hZ
          go_wp2_with fail
          go_ret
          exact law_ok HZ.out

end Go.Proofs.Ytjceoheiiohfcaa
