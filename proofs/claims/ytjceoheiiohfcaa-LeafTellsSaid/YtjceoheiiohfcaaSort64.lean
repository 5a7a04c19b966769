/- slices.Sort at []uint64, of at most 12 numbers. -/
import Derived.Test.YtjceoheiiohfcaaLeaf1
import Derived.BigRegion
import Derived.Deep.LoopGhost
namespace Go.Proofs.Ytjceoheiiohfcaa
open Go.RowKit
set_option linter.unusedVariables false
set_option linter.unusedSimpArgs false

set_option maxHeartbeats 400000 in
theorem nan_at (x : Int) (w : World) : Calls Try.prog 61 #[.int .u64 x] w fun e w' => e = .returned (.bool false) ∧ w = w' := by
  go_enter Try.func61, Try.ntmps61
  go_wp2
  go_ret
  exact ⟨by simp, rfl⟩
set_option maxHeartbeats 400000 in
theorem less_at (x y : Int) (w : World) : Calls Try.prog 51 #[.int .u64 x, .int .u64 y] w fun e w' => e = .returned (.bool (decide (x < y))) ∧ w = w' := by
  go_enter Try.func51, Try.ntmps51
  go_wp2_with (go_at_call 61; refine (nan_at _ _).mono ?_; rintro e w' ⟨rfl, rfl⟩)
  go_ret
  exact ⟨rfl, rfl⟩

/-- Numbers in a block of the call's own. -/
structure Row64 (w : World) (g n : Nat) (f : Nat → Nat) : Prop where
  nums : NumsAt w g 0 n f
  blk : ∃ cur, w.heap[g]? = some (.cells cur 43 (0, 0))
theorem Row64.lt {w : World} {g n : Nat} {f : Nat → Nat} (h : Row64 w g n f) : g < w.heap.size := by obtain ⟨cur, h⟩ := h.blk; exact heap_lt h
theorem Row64.cell {w : World} {g n i : Nat} {f : Nat → Nat} (h : Row64 w g n f) (hi : i < n) : w.cell? ⟨g, i, none⟩ = some (.int .u64 (f i : Int)) := by
  have := (h.nums i hi).1
  rwa [Nat.zero_add] at this
theorem Row64.fz {w : World} {g n : Nat} {f : Nat → Nat} (h : Row64 w g n f) (i : Nat) : w.frozen? ⟨g, i, none⟩ = false := by
  obtain ⟨cur, h⟩ := h.blk
  exact frozen_of_block h i
theorem Row64.chg {w w' : World} {g n : Nat} {f : Nat → Nat} {L : List Nat} (h : Row64 w g n f) (c : Chg L w w') (hg : g ∉ L) : Row64 w' g n f :=
  ⟨h.nums.chg c hg, by obtain ⟨cur, hb⟩ := h.blk; exact ⟨cur, (c.block g (heap_lt hb) hg).trans hb⟩⟩
theorem Row64.set {w : World} {g n i v : Nat} {f : Nat → Nat} (h : Row64 w g n f) (hi : i < n) (hv : v < 18446744073709551616) : Row64 (w.setCell ⟨g, i, none⟩ (.int .u64 (v : Int))) g n (fun j => if j = i then v else f j) := by
  obtain ⟨cur, hb⟩ := h.blk
  have hb2 := setCell_block hb i (.int .u64 (v : Int))
  refine ⟨fun j hj => ?_, _, hb2⟩
  rw [Nat.zero_add, cell_of_block hb2, Array.getElem?_setIfInBounds]
  have hc := h.cell hj
  rw [cell_of_block hb] at hc
  by_cases e : i = j
  · subst e
    have hsz : i < cur.size := (Array.getElem?_eq_some_iff.1 hc).1
    rw [if_pos rfl, if_pos hsz, if_pos rfl]
    exact ⟨rfl, hv⟩
  · rw [if_neg e, if_neg (fun q => e q.symm), hc]
    exact ⟨rfl, (h.nums j hj).2⟩

def swp (f : Nat → Nat) (j k : Nat) : Nat := if k = j then f (j - 1) else if k = j - 1 then f j else f k
theorem Row64.swap {w : World} {g n j : Nat} {f : Nat → Nat} (h : Row64 w g n f) (h0 : 0 < j) (hj : j < n) :
    Row64 ((w.setCell ⟨g, j, none⟩ (.int .u64 (f (j - 1) : Int))).setCell ⟨g, j - 1, none⟩ (.int .u64 (f j : Int))) g n (swp f j) := by
  have h1 := h.set (i := j) hj (h.nums (j - 1) (by omega)).2
  have h2 := h1.set (i := j - 1) (by omega) (h.nums j hj).2
  have e : (fun k => if k = j - 1 then f j else if k = j then f (j - 1) else f k) = swp f j := by
    funext k
    unfold swp
    by_cases e1 : k = j
    · subst e1; rw [if_neg (by omega), if_pos rfl, if_pos rfl]
    · rw [if_neg e1, if_neg e1]
  rw [← e]
  exact h2

/-- Right kids: none is 0, none beyond the disk, none twice. -/
def Good (f : Nat → Nat) (n : Nat) : Prop := (∀ i, i < n → f i ≠ 0 ∧ f i < 4096) ∧ ∀ i j, i < j → j < n → f i ≠ f j
theorem good_swp {f : Nat → Nat} {n j : Nat} (h0 : 0 < j) (hj : j < n) : Good (swp f j) n ↔ Good f n := by
  have key : ∀ g : Nat → Nat, Good g n → Good (swp g j) n := by
    intro g hg
    obtain ⟨a, b⟩ := hg
    refine ⟨fun i hi => ?_, fun i k hik hk => ?_⟩
    · unfold swp
      split
      · exact a _ (by omega)
      · split
        · exact a _ hj
        · exact a _ hi
    · unfold swp
      have := b
      by_cases e1 : i = j
      · rw [if_pos e1, if_neg (by omega), if_neg (by omega)]
        exact b _ _ (by omega) hk
      · rw [if_neg e1]
        by_cases e2 : i = j - 1
        · rw [if_pos e2]
          by_cases e3 : k = j
          · rw [if_pos e3]; exact fun q => b (j - 1) j (by omega) hj q.symm
          · rw [if_neg e3, if_neg (by omega)]; exact b _ _ (by omega) hk
        · rw [if_neg e2]
          by_cases e3 : k = j
          · rw [if_pos e3]; exact b _ _ (by omega) (by omega)
          · rw [if_neg e3]
            by_cases e4 : k = j - 1
            · rw [if_pos e4]; exact b _ _ (by omega) hj
            · rw [if_neg e4]; exact b _ _ hik hk
  refine ⟨fun h => ?_, key f⟩
  have h2 := key _ h
  have e : swp (swp f j) j = f := by
    funext k
    unfold swp
    by_cases e1 : k = j
    · rw [if_pos e1, if_neg (by omega), if_pos rfl, e1]
    · rw [if_neg e1]
      by_cases e2 : k = j - 1
      · rw [if_pos e2, if_pos rfl, e2]
      · rw [if_neg e2, if_neg e1, if_neg e2]
  rwa [e] at h2

/-- The first i are sorted. -/
def sortedTo (f : Nat → Nat) (i : Nat) : Prop := ∀ a b, a < b → b < i → f a ≤ f b
/-- The first i + 1 are, but for place j. -/
def sortedBut (f : Nat → Nat) (i j : Nat) : Prop := ∀ a b, a < b → b ≤ i → b ≠ j → f a ≤ f b
theorem but_start {f : Nat → Nat} {i : Nat} (h : sortedTo f i) : sortedBut f i i := fun a b hab hb hne => h a b hab (by omega)
theorem but_zero {f : Nat → Nat} {i : Nat} (h : sortedBut f i 0) : sortedTo f (i + 1) := fun a b hab hb => h a b hab (by omega) (by omega)
theorem but_done {f : Nat → Nat} {i j : Nat} (h : sortedBut f i j) (h0 : 0 < j) (hj : f (j - 1) ≤ f j) : sortedTo f (i + 1) := fun a b hab hb => by
  by_cases e : b = j
  · subst e
    by_cases e2 : a = b - 1
    · rw [e2]; exact hj
    · exact Nat.le_trans (h a (b - 1) (by omega) (by omega) (by omega)) hj
  · exact h a b hab (by omega) e
theorem but_swp {f : Nat → Nat} {i j : Nat} (h : sortedBut f i j) (h0 : 0 < j) (hji : j ≤ i) (hj : f j < f (j - 1)) : sortedBut (swp f j) i (j - 1) := fun a b hab hb hne => by
  unfold swp
  by_cases e1 : b = j
  · subst e1
    rw [if_neg (by omega), if_pos rfl]
    by_cases e2 : a = b - 1
    · rw [if_pos e2]; omega
    · rw [if_neg e2]; exact h a (b - 1) (by omega) (by omega) (by omega)
  · rw [if_neg e1, if_neg hne]
    by_cases e2 : a = j
    · rw [if_pos e2]; exact h (j - 1) b (by omega) hb e1
    · rw [if_neg e2]
      by_cases e3 : a = j - 1
      · rw [if_pos e3]; exact h j b (by omega) hb e1
      · rw [if_neg e3]; exact h a b hab hb e1

end Go.Proofs.Ytjceoheiiohfcaa
