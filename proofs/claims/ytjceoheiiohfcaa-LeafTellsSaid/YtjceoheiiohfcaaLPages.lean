/- catchmentlaw03.LeafPages: the walk. -/
import Derived.Test.YtjceoheiiohfcaaLBack
namespace Go.Proofs.Ytjceoheiiohfcaa
open Go.RowKit
set_option linter.unusedVariables false
set_option linter.unusedSimpArgs false

def SealLong (w : World) (e : Ending) (w' : World) : Prop := ∃ x : Int, x ≠ 0 ∧ e = .returned (.tuple #[.slice none 0 0, .int .i64 x]) ∧ w = w'
set_option maxRecDepth 20000 in
set_option maxHeartbeats 1000000 in
theorem seal_long {w : World} {a : Option Addr} {n cap : Nat} (hn : 123 < n) (k : Int) : Calls Try.prog 20 #[.int .u8 k, .slice a n cap] w (SealLong w) := by
  have h : (123 : Int) < (n : Int) := by omega
  clear hn
  go_enter Try.func20, Try.ntmps20
  go_wp2_with fail
  go_ret2
  exact ⟨_, by decide, rfl, rfl⟩

theorem sealP_le' {kind n : Nat} {f : Nat → Nat} (hk : kind ≤ 255) (hf : ∀ i, i < n → f i ≤ 255) (i : Nat) : sealP kind n f i ≤ 255 := by
  refine putF_le ?_
  unfold preP
  split
  · exact hk
  · split
    · exact hf _ (by omega)
    · omega
theorem bytes_nil (w : World) (f : Nat → Nat) : BytesIn w none 0 0 f := ⟨Nat.le_refl _, Nat.zero_le _, fun _ => ⟨rfl, rfl⟩, fun b h => by cases h⟩
theorem BytesIn.keep {w w' : World} {a : Option Addr} {n cap : Nat} {f : Nat → Nat} (h : BytesIn w a n cap f) (c : Chg [] w w') : BytesIn w' a n cap f := h.chg c (by simp)
theorem decB_true {n : Nat} {f : Nat → Nat} (h : decB n f = true) : n = 128 ∧ f 1 ≤ 7 ∧ rightB (decide (f 0 = 1)) (f 1) (f 1) (pkey f) (pval f) = true ∧ eqF 128 n (pageF (decide (f 0 = 1)) (f 1) (pkey f) (pval f)) f = true := by
  unfold decB at h
  simp only [Bool.and_eq_true, decide_eq_true_eq] at h
  obtain ⟨⟨rfl, _, _, h1⟩, h2, h3⟩ := h
  exact ⟨rfl, h1, h2, h3⟩
theorem eqN_zero (k v : Nat → Nat) : eqN false false 0 0 0 0 k k v v = true := by
  unfold eqN
  rw [Bool.and_eq_true, Bool.and_eq_true, eqF_iff, eqF_iff]
  exact ⟨rfl, ⟨rfl, fun i hi => by omega⟩, rfl, fun i hi => by omega⟩

theorem row_in {w : World} {g n : Nat} {f : Nat → Nat} (h : Row64 w g n f) (hn : n ≤ 7) : NumsIn [] w (.slice (some ⟨g, 0, none⟩) n n) n f :=
  .inr ⟨g, 0, n, rfl, Nat.le_refl _, by unfold maxLen; omega, h.lt, by simp, h.nums⟩

/-- Three slices of bytes. -/
def Three (w : World) (lb : Nat) : Prop := ∀ k, k < 3 → ∃ a n c f, w.cell? ⟨lb, k, none⟩ = some (.slice a n c) ∧ BytesIn w a n c f
theorem Three.keep {w w' : World} {lb : Nat} (h : Three w lb) (c : Chg [] w w') : Three w' lb := fun k hk => by
  obtain ⟨a, n, d, f, h1, h2⟩ := h k hk
  exact ⟨a, n, d, f, (c.cell (p := ⟨lb, k, none⟩) (World.block_lt_of_cell? w _ h1) (by simp)).trans h1, h2.keep c⟩

set_option maxRecDepth 20000 in
set_option maxHeartbeats 4000000 in
theorem leafPages_walk (kind : Int) (a : Option Addr) (n cap : Nat) (f : Nat → Nat) (w : World) (hk : (Lit.int .u8 kind).wf = true) (h : BytesIn w a n cap f) :
    Calls Try.prog 5 #[.int .u8 kind, .slice a n cap] w (LawOk w) := by
  by_cases hn : 123 < n
  · have cS := fun w : World => seal_long (w := w) (a := a) (cap := cap) hn kind
    clear h hn hk
    go_enter Try.func5, Try.ntmps5
    go_wp2_with fail
    refine (cS _).mono ?_
    rintro e w' ⟨x, hx, rfl, rfl⟩
    have hd : (x != 0) = true := by simp; exact hx
    clear hx cS
    go_wp2_with fail
    refine (awake03 _).mono ?_
    rintro e wz ⟨rfl, hZ⟩
    have HZ := Lib.hid ((Chg.refl [] w).trans hZ)
    clear hZ
    go_wp2_with fail
    go_ret
    exact law_ok HZ.out
  · obtain ⟨k, rfl⟩ := Int.eq_ofNat_of_zero_le (bd_u8 hk).1
    have hk255 : k ≤ 255 := by have := (bd_u8 hk).2; omega
    have cS := seal_at h (by omega) k hk255
    have H := Lib.hid h
    clear hk h
    go_enter Try.func5, Try.ntmps5
    go_wp2_with fail
    refine cS.mono ?_
    clear cS
    rintro e w1 ⟨rfl, hB1, hC1⟩
    have B1 := Lib.hid (And.intro hB1 hC1)
    clear hB1 hC1
    go_wp2_with fail
    have hc2 := (Chg.refl [] w1).alloc (.cells #[.slice (some ⟨w.heap.size, 0, none⟩) 128 128, .slice a n cap, .slice none 0 0] 25)
    have hT : Three (w1.alloc (.cells #[.slice (some ⟨w.heap.size, 0, none⟩) 128 128, .slice a n cap, .slice none 0 0] 25)) w1.heap.size := by
      have hb := new_block w1 (.cells #[.slice (some ⟨w.heap.size, 0, none⟩) 128 128, .slice a n cap, .slice none 0 0] 25)
      intro j hj
      have hj' : j = 0 ∨ j = 1 ∨ j = 2 := by omega
      rcases hj' with rfl | rfl | rfl
      · exact ⟨_, _, _, _, cell_of_block hb 0, (of_block_in B1.out.1 (fun i _ => sealP_le' hk255 H.out.le i)).keep hc2⟩
      · exact ⟨_, _, _, _, cell_of_block hb 1, (H.out.keep B1.out.2).keep hc2⟩
      · exact ⟨_, _, _, fun _ => 0, cell_of_block hb 2, bytes_nil _ _⟩
    have HT := Lib.hid hT
    have HC := Lib.hid (B1.out.2.trans hc2)
    clear hT hc2 B1 H
    generalize w1.alloc (.cells #[.slice (some ⟨w.heap.size, 0, none⟩) 128 128, .slice a n cap, .slice none 0 0] 25) = W at *
    go_loopw [26] (fun s wr => ∃ j : Nat, j ≤ 3 ∧ s = .int .i64 (j : Int) ∧ Chg [] W wr) (fun s _ => 3 - (intOf s).toNat)
    case atStart => exact ⟨0, by omega, rfl, Chg.refl _ _⟩
    case round =>
      obtain ⟨j, hj, rfl, hC⟩ := hrel
      by_cases hlj : j < 3
      · obtain ⟨a', n', c', f', hcell, hB⟩ := (HT.out.keep hC) j hlj
        have HCr := Lib.hid hC
        have cD := dec_at hB
        have HB := Lib.hid hB
        have j0 : (0 : Int) ≤ (j : Int) := by omega
        have j1 : (j : Int) < 3 := by omega
        clear hB hC
        cases hd : decB n' f' with
        | false =>
          have cD' : Calls Try.prog 14 #[.slice a' n' c'] wr (DecBad wr) := by rw [hd] at cD; exact cD
          clear cD hd
          go_wp2_with fail
          refine cD'.mono ?_
          clear cD'
          rintro e w3 ⟨rfl, hC3⟩
          have HC3 := Lib.hid ((HCr.out.trans hC3).alloc (.cells #[.bool false, .slice none 0 0, .slice none 0 0] 24))
          clear hC3
          go_wp2_with fail
          refine (equalNodes_at (l := false) (l' := false) (keys := fun _ => 0) (vals := fun _ => 0) (keys' := fun _ => 0) (vals' := fun _ => 0) (nums_nil _ _) (nums_nil _ _) (nums_nil _ _) (nums_nil _ _)).mono ?_
          rintro e w4 ⟨he, hC4⟩
          rw [eqN_zero] at he
          subst he
          have HC4 := Lib.hid (HC3.out.trans hC4)
          clear hC4
          go_wp2_with fail
          go_roundw
          case rel => exact ⟨j + 1, by omega, by go_num, HC4.out⟩
          case measure => simp [intOf]; omega
        | true =>
          have cD' : Calls Try.prog 14 #[.slice a' n' c'] wr (DecOk wr (decide (f' 0 = 1)) f') := by rw [hd] at cD; exact cD
          obtain ⟨e1, e2, hr, he⟩ := decB_true hd
          have Hr := Lib.hid hr
          have He := Lib.hid he
          generalize decide (f' 0 = 1) = l at *
          clear cD hd hr he e1
          go_wp2_with fail
          refine cD'.mono ?_
          clear cD'
          rintro e w3 ⟨kb, vb, rfl, q1, q2, q3, hK, hV, hC3⟩
          have hc := (Chg.refl [] w3).alloc (.cells #[.bool l, .slice (some ⟨kb, 0, none⟩) (f' 1) (f' 1), .slice (some ⟨vb, 0, none⟩) (f' 1) (f' 1)] 24)
          have HX := Lib.hid (new_block w3 (.cells #[.bool l, .slice (some ⟨kb, 0, none⟩) (f' 1) (f' 1), .slice (some ⟨vb, 0, none⟩) (f' 1) (f' 1)] 24))
          have NK := Lib.hid ((row_in hK e2).chg hc (by simp))
          have NV := Lib.hid ((row_in hV e2).chg hc (by simp))
          have HC3 := Lib.hid (hC3.trans hc)
          have HC3' := Lib.hid (HCr.out.trans (hC3.trans hc))
          clear hK hV hC3 hc
          go_wp2_with fail
          refine (enc_ok NK.out NV.out Hr.out).mono ?_
          rintro e w4 ⟨g, rfl, hg, hB4, hC4⟩
          have X4 := (hC4.block _ (heap_lt HX.out) (by simp)).trans HX.out
          have x0 := cell_of_block X4 0
          have x1 := cell_of_block X4 1
          have x2 := cell_of_block X4 2
          simp only [List.getElem?_toArray, List.getElem?_cons_zero, List.getElem?_cons_succ] at x0 x1 x2
          have lx := heap_lt X4
          have cE := equal_at (of_block_in hB4 (fun i _ => pageF_le l (by omega) _ _ _)) (HB.out.keep (HC3.out.trans hC4))
          rw [He.out] at cE
          have cR := right_at (leaf := l) (NK.out.chg hC4 (by simp)) (NV.out.chg hC4 (by simp))
          rw [Hr.out] at cR
          have HC4 := Lib.hid (HC3'.out.trans hC4)
          clear X4 hB4 hC4
          go_wp2_with fail
          refine cE.mono ?_
          clear cE
          rintro e w' ⟨rfl, rfl⟩
          go_wp2_with fail
          refine cR.mono ?_
          clear cR
          rintro e w5 ⟨rfl, hC5⟩
          have HC5 := Lib.hid (HC4.out.trans hC5)
          clear hC5
          go_wp2_with fail
          go_roundw
          case rel => exact ⟨j + 1, by omega, by go_num, HC5.out⟩
          case measure => simp [intOf]; omega
      · obtain rfl : j = 3 := by omega
        have HCr := Lib.hid (HC.out.trans hC)
        clear hC
        go_wp2_with fail
        refine (awake03 _).mono ?_
        rintro e wz ⟨rfl, hZ⟩
        have HZ := Lib.hid ((HCr.out).trans hZ)
        clear hZ
        go_wp2_with fail
        go_ret
        exact law_ok HZ.out

end Go.Proofs.Ytjceoheiiohfcaa
