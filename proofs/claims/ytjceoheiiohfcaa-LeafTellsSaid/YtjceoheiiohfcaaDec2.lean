/- leaf.each, as Decode calls it. -/
import Derived.Test.YtjceoheiiohfcaaDec1
namespace Go.Proofs.Ytjceoheiiohfcaa
open Go.RowKit
set_option linter.unusedVariables false
set_option linter.unusedSimpArgs false

/-- The numbers that were read of a body, of the first k. -/
def keyF (f : Nat → Nat) (k j : Nat) : Nat := if j < k then num f (1 + 16 * j) 8 else 0
def valF (f : Nat → Nat) (k j : Nat) : Nat := if j < k then num f (1 + 16 * j + 8) 8 else 0
theorem keyF_step (f : Nat → Nat) (k : Nat) : (fun j => if j = k then num f (1 + 16 * k) 8 else keyF f k j) = keyF f (k + 1) := by
  funext j
  unfold keyF
  by_cases e : j = k
  · subst e; rw [if_pos rfl, if_pos (by omega)]
  · rw [if_neg e]
    by_cases h : j < k
    · rw [if_pos h, if_pos (by omega)]
    · rw [if_neg h, if_neg (by omega)]
theorem valF_step (f : Nat → Nat) (k : Nat) : (fun j => if j = k then num f (1 + 16 * k + 8) 8 else valF f k j) = valF f (k + 1) := by
  funext j
  unfold valF
  by_cases e : j = k
  · subst e; rw [if_pos rfl, if_pos (by omega)]
  · rw [if_neg e]
    by_cases h : j < k
    · rw [if_pos h, if_pos (by omega)]
    · rw [if_neg h, if_neg (by omega)]

set_option maxRecDepth 20000 in
set_option maxHeartbeats 2000000 in
theorem each_dec {w : World} {bb g c n kb vb : Nat} {leaf : Bool} {f : Nat → Nat} (hn : n ≤ 7) (hk : Row64 w kb n (keyF f 0)) (hv : Row64 w vb n (valF f 0)) (hbb : w.heap[bb]? = some (.cells #[.slice (some ⟨g, 0, none⟩) 123 c] 25 (0, 0)))
    (hb : BytesAt w g 0 123 f) (hg : g < w.heap.size) (hNc : 123 ≤ c) (hc : c ≤ 9223372036854775807) (d1 : kb ≠ vb) (d2 : kb ≠ bb) (d3 : vb ≠ bb) (d4 : kb ≠ g) (d5 : vb ≠ g) :
    Calls Try.prog 23 #[.agg #[.bool leaf, .slice (some ⟨kb, 0, none⟩) n n, .slice (some ⟨vb, 0, none⟩) n n], .func (.func 28) #[] #[.pointer (some ⟨bb, 0, none⟩)]] w fun e w' =>
      e = .returned (.tuple #[]) ∧ Row64 w' kb n (keyF f n) ∧ Row64 w' vb n (valF f n) ∧ Chg [kb, vb] w w' := by
  have hW := (Chg.refl [] w).alloc (.cells #[.bool leaf, .slice (some ⟨kb, 0, none⟩) n n, .slice (some ⟨vb, 0, none⟩) n n] 24)
  have HX := Lib.hid (new_block w (.cells #[.bool leaf, .slice (some ⟨kb, 0, none⟩) n n, .slice (some ⟨vb, 0, none⟩) n n] 24))
  have HK := Lib.hid (hk.chg hW (by simp))
  have HV := Lib.hid (hv.chg hW (by simp))
  have HBB := Lib.hid ((hW.block bb (heap_lt hbb) (by simp)).trans hbb)
  have HB := Lib.hid (hb.chg hW (by simp))
  have HW := Lib.hid hW
  have lk := hk.lt
  have lv := hv.lt
  clear hk hv hbb hb hW
  go_enter Try.func23, Try.ntmps23
  go_wp2_with fail
  generalize w.alloc (.cells #[.bool leaf, .slice (some ⟨kb, 0, none⟩) n n, .slice (some ⟨vb, 0, none⟩) n n] 24) = W at *
  go_loopw [8] (fun s wr => ∃ k : Nat, k ≤ n ∧ s = .int .i64 (k : Int) ∧ Row64 wr kb n (keyF f k) ∧ Row64 wr vb n (valF f k) ∧ Chg [kb, vb] W wr) (fun s _ => n - (intOf s).toNat)
  case atStart => exact ⟨0, Nat.zero_le _, rfl, HK.out, HV.out, Chg.refl _ _⟩
  case round =>
    obtain ⟨k, hk, rfl, hKk, hVk, hCk⟩ := hrel
    obtain ⟨wo, rfl⟩ : ∃ wo : World, wo = wr := ⟨_, rfl⟩
    have hX := (hCk.block w.heap.size (heap_lt HX.out) (by simp; omega)).trans HX.out
    have hBB := (hCk.block bb (heap_lt HBB.out) (by simp; omega)).trans HBB.out
    have hB := HB.out.chg hCk (by simp; omega)
    have x1 := cell_of_block hX 1
    have x2 := cell_of_block hX 2
    have z0 := cell_of_block hBB 0
    simp only [List.getElem?_toArray, List.getElem?_cons_zero, List.getElem?_cons_succ] at x1 x2 z0
    have HXk := Lib.hid hX
    have HBBk := Lib.hid hBB
    have HBk := Lib.hid hB
    have HVk := Lib.hid hVk
    have HKk := Lib.hid hKk
    have HCk := Lib.hid hCk
    clear hX hBB hB hCk hKk hVk
    by_cases hlk : k < n
    · have c1 := dec1_at z0 HBk.out hNc hc (by omega) (1 + 16 * k) (by omega) HKk.out hlk
      rw [show ((1 + 16 * k : Nat) : Int) = 1 + 16 * (k : Int) by omega, keyF_step] at c1
      have i0 : (0 : Int) ≤ (k : Int) := by omega
      have i1 : (k : Int) < (n : Int) := by omega
      go_wp2_with fail
      refine c1.mono ?_
      clear c1
      rintro e w3 ⟨rfl, hK3, hC3⟩
      have z3 := (hC3.cell (p := ⟨bb, 0, none⟩) (heap_lt HBBk.out) (by simp; omega)).trans z0
      have y2 := (hC3.cell (p := ⟨w.heap.size, 2, none⟩) (heap_lt HXk.out) (by simp; omega)).trans x2
      have B3 := HBk.out.chg hC3 (by simp; omega)
      have V3 := HVk.out.chg hC3 (by simp; omega)
      have c2 := dec1_at z3 B3 hNc hc (by omega) (1 + 16 * k + 8) (by omega) V3 hlk
      rw [show ((1 + 16 * k + 8 : Nat) : Int) = 1 + 16 * (k : Int) + 8 by omega, valF_step] at c2
      have HC3 := Lib.hid (HCk.out.trans (hC3.mono (by simp)))
      have HK3 := Lib.hid hK3
      clear hC3 hK3 B3 V3 x1 x2 z0
      go_wp2_with fail
      refine c2.mono ?_
      clear c2
      rintro e w4 ⟨rfl, hV4, hC4⟩
      have HV4 := Lib.hid hV4
      have HK4 := Lib.hid (HK3.out.chg hC4 (by simp; omega))
      have HC4 := Lib.hid (HC3.out.trans (hC4.mono (by simp)))
      clear hV4 hC4
      go_wp2_with fail
      go_roundw
      case rel => exact ⟨k + 1, by omega, by go_num, HK4.out, HV4.out, HC4.out⟩
      case measure => simp [intOf]; omega
    · obtain rfl : k = n := by omega
      go_wp2_with fail
      go_end0
      exact ⟨rfl, HKk.out, HVk.out, (HW.out.mono (by simp)).trans HCk.out⟩

end Go.Proofs.Ytjceoheiiohfcaa
