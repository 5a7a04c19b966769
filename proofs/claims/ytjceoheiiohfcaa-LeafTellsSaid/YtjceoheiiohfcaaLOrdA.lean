/- What LeafOrder's appends leave. -/
import Derived.Test.YtjceoheiiohfcaaLOrdL
import Derived.Deep.RegionLawGrows
import Derived.Deep.RegionLaw
namespace Go.Proofs.Ytjceoheiiohfcaa
open Go.RowKit
set_option linter.unusedVariables false
set_option linter.unusedSimpArgs false

theorem num_cells {A : List Nat} {w : World} {p : Addr} {n c : Nat} {f : Nat → Nat} (h : NumsIn A w (.slice (some p) n c) n f) :
    ∀ j u, ((List.range n).map fun k => Value.int .u64 (f k : Int))[j]? = some u → w.cell? (p.add j) = some u := by
  intro j u hj
  simp only [List.getElem?_map] at hj
  by_cases hlt : j < n
  · simp [hlt] at hj
    subst hj
    obtain ⟨b, o, e, _, _, hc⟩ := h.get hlt
    injection e with e
    subst e
    rw [addr_add0]
    exact (hc j hlt).1
  · simp [hlt] at hj
theorem rest_in {A : List Nat} {w : World} {b o n c i : Nat} {f : Nat → Nat} (h : NumsIn A w (.slice (some ⟨b, o, none⟩) n c) n f) (hi : i ≤ n) :
    ∀ j u, ((List.range (n - i)).map fun k => Value.int .u64 (f (i + k) : Int))[j]? = some u → w.cell? ((⟨b, o + i, none⟩ : Addr).add j) = some u := by
  intro j u hj
  by_cases hlt : j < n - i
  · obtain ⟨b', o', e, _, _, hc⟩ := h.get (i := i + j) (by omega)
    injection e with e
    injection e with e1 e2
    subst e1 e2
    exact rest_cells hc hi j u hj
  · simp [hlt] at hj
theorem del_list (f : Nat → Nat) (i m : Nat) :
    ((List.range i).map fun k => Value.int .u64 (f k : Int)) ++ ((List.range m).map fun k => Value.int .u64 (f (i + 1 + k) : Int)) = (List.range (i + m)).map fun k => Value.int .u64 (delF f i k : Int) := by
  apply List.ext_getElem?
  intro j
  by_cases h1 : j < i
  · rw [List.getElem?_append_left (by simpa using h1)]
    simp [h1, delF, show j < i + m by omega]
  · rw [List.getElem?_append_right (by simpa using h1)]
    by_cases h2 : j < i + m
    · have e : i + 1 + (j - i) = j + 1 := by omega
      simp [h2, delF, h1, show j - i < m by omega, e]
    · simp [h2, show ¬ j - i < m by omega]
theorem grown_nums {w' : World} {v' : Value} {n base : Nat} {xs : List Value} {f : Nat → Nat} (h : w'.ownsRow base 43 1 v' n xs) (hx : xs = (List.range n).map fun k => Value.int .u64 (f k : Int)) (h0 : 0 < n) (hf : ∀ k, k < n → f k < 18446744073709551616) :
    ∃ g c, v' = .slice (some ⟨g, 0, none⟩) n c ∧ base ≤ g ∧ NumsIn [] w' (.slice (some ⟨g, 0, none⟩) n c) n f := by
  rcases h.2 with ⟨_, h0'⟩ | ⟨g, cap, cur, h1, h2, h3, h4, h5, h6, h7⟩
  · omega
  · refine ⟨g, cap, h1, h2, .inr ⟨g, 0, cap, rfl, h4, h5, heap_lt h3, by simp, fun k hk => ⟨?_, hf k hk⟩⟩⟩
    rw [Nat.zero_add, cell_of_block h3]
    have := congrArg (fun l => l[k]?) h7
    rw [hx, Nat.mul_one] at this
    simp only [List.getElem?_take, if_pos hk, List.getElem?_map, List.getElem?_range hk, Option.map_some, Array.getElem?_toList] at this
    exact this
theorem NumsIn.congr {A : List Nat} {w : World} {v : Value} {n : Nat} {f g : Nat → Nat} (h : NumsIn A w v n f) (e : ∀ k, k < n → f k = g k) : NumsIn A w v n g := by
  rcases h with h | ⟨b, off, cap, h1, h2, h3, h4, h5, h6⟩
  · exact .inl h
  · exact .inr ⟨b, off, cap, h1, h2, h3, h4, h5, fun j hj => by rw [← e j hj]; exact h6 j hj⟩
theorem keep1 {w : World} {b o B p : Nat} {x v : Value} (h : w.cell? ⟨b, o, none⟩ = some v) (hb : b ≠ B) : (w.setCell ⟨B, p, none⟩ x).cell? ⟨b, o, none⟩ = some v := by
  rw [World.cell?_setCell_other _ _ _ _ (by simp [hb])]
  exact h
theorem del_lt {f : Nat → Nat} {n i m : Nat} (h : ∀ k, k < n → f k < 18446744073709551616) (hi : i + m < n) : ∀ k, k < i + m → delF f i k < 18446744073709551616 := fun k hk => by
  unfold delF
  split
  · exact h _ (by omega)
  · exact h _ (by omega)

end Go.Proofs.Ytjceoheiiohfcaa
