/- Small facts on the reference's tally. (XTTells has the same; no text imports both.) -/
import Derived.Test.YtnhabpbdpjgiiaaRef8B
namespace Go.Proofs.Ytnhabpbdpjgiiaa
open Go.RowKit
set_option linter.unusedVariables false
set_option linter.unusedSimpArgs false

theorem RN.get {A : List Nat} {w : World} {g m c n : Nat} {f : Nat → Nat} (h : RN A w (.slice (some ⟨g, 0, none⟩) m c) n f) : m = n ∧ n ≤ c ∧ c ≤ maxLen ∧ ∀ i, i < n → w.cell? ⟨g, i, none⟩ = some (.int .i64 (f i : Int)) := by
  obtain ⟨g', c', hv, h1, h2, _, _, h5⟩ := h
  injection hv with e1 e2 e3
  injection e1 with e1
  injection e1 with e1
  subst e1 e2 e3
  exact ⟨rfl, h1, h2, h5⟩
theorem chgs_le (T : Tal) : (chgs T).length ≤ T.n := by
  have := List.length_filter_le T.changed (List.range T.n)
  simpa [chgs] using this

theorem st2 {w : World} {b : Nat} {c0 c1 : Value} (h : w.heap[b]? = some (.cells #[c0, c1] 33 (0, 0))) (x y : Value) :
    ((w.setCell ⟨b, 0, none⟩ x).setCell ⟨b, 1, none⟩ y).heap[b]? = some (.cells #[x, y] 33 (0, 0)) ∧ Chg [b] w ((w.setCell ⟨b, 0, none⟩ x).setCell ⟨b, 1, none⟩ y) := by
  refine ⟨?_, ((Chg.refl _ _).setCell (.inl (by simp)) _).setCell (.inl (by simp)) _⟩
  rw [setCell_block (setCell_block h 0 x) 1 y]
  rfl

end Go.Proofs.Ytnhabpbdpjgiiaa
