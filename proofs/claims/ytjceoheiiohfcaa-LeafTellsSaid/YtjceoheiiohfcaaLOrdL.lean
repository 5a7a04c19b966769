/- A node without one of its pairs; with two keys exchanged. The plain law. -/
import Derived.Test.YtjceoheiiohfcaaLOwn
namespace Go.Proofs.Ytjceoheiiohfcaa
open Go.RowKit
set_option linter.unusedVariables false

theorem rightB_iff {l : Bool} {nk nv : Nat} {keys vals : Nat → Nat} : rightB l nk nv keys vals = true ↔ (nk ≤ 7 ∧ nv = nk ∧ (l || kidsB vals nv) = true ∧ ascTo keys nk) := by
  cases h : rightB l nk nv keys vals with
  | true =>
    refine ⟨fun _ => ?_, fun _ => rfl⟩
    unfold rightB at h
    simp only [Bool.and_eq_true, decide_eq_true_eq] at h
    exact ⟨h.1, h.2.1, h.2.2.1, (ascB_iff _ _).1 h.2.2.2⟩
  | false =>
    refine ⟨(fun h => by cases h), fun q => ?_⟩
    have := rightB_eq (b := true) ⟨fun _ => rfl, fun _ => q⟩
    rw [h] at this
    exact this
theorem asc_lt {f : Nat → Nat} {n : Nat} (h : ascTo f n) : ∀ {a b : Nat}, a < b → b < n → f a < f b := by
  intro a b hab hb
  induction b with
  | zero => omega
  | succ b ih =>
    have h1 := h (b + 1) (by omega) hb
    rw [Nat.add_sub_cancel] at h1
    by_cases e : a = b
    · subst e; exact h1
    · have := ih (by omega) (by omega)
      omega
def delF (f : Nat → Nat) (i j : Nat) : Nat := if j < i then f j else f (j + 1)
def swF (f : Nat → Nat) (i k j : Nat) : Nat := if j = i then f k else if j = k then f i else f j
theorem asc_del {f : Nat → Nat} {n i : Nat} (h : ascTo f n) : ascTo (delF f i) (n - 1) := by
  intro j h0 hj
  unfold delF
  split
  · split
    · exact asc_lt h (by omega) (by omega)
    · exact asc_lt h (by omega) (by omega)
  · split
    · exact asc_lt h (by omega) (by omega)
    · exact asc_lt h (by omega) (by omega)
theorem good_del {f : Nat → Nat} {n i : Nat} (h : Good f n) : Good (delF f i) (n - 1) := by
  obtain ⟨h1, h2⟩ := h
  refine ⟨fun j hj => ?_, fun a b hab hb => ?_⟩
  · unfold delF
    split
    · exact h1 _ (by omega)
    · exact h1 _ (by omega)
  · unfold delF
    split
    · split
      · exact h2 _ _ hab (by omega)
      · exact h2 _ _ (by omega) (by omega)
    · split
      · exact h2 _ _ (by omega) (by omega)
      · exact h2 _ _ (by omega) (by omega)
theorem right_del {l : Bool} {n i : Nat} {keys vals : Nat → Nat} (h : rightB l n n keys vals = true) (hi : i < n) : rightB l (n - 1) (n - 1) (delF keys i) (delF vals i) = (l || decide (1 < n)) := by
  obtain ⟨h1, _, h2, h3⟩ := rightB_iff.1 h
  refine rightB_eq ?_
  cases l with
  | true => exact ⟨fun _ => rfl, fun _ => ⟨by omega, rfl, rfl, asc_del h3⟩⟩
  | false =>
    simp only [Bool.false_or] at h2 ⊢
    rw [kidsB_iff, decide_eq_true_eq]
    have hg := (kidsB_iff _ _).1 h2
    exact ⟨fun q => by have := q.2.2.1.1; omega, fun q => ⟨by omega, trivial, ⟨by omega, good_del hg.2⟩, asc_del h3⟩⟩
theorem right_sw {l : Bool} {n i k : Nat} {keys vals : Nat → Nat} (h : rightB l n n keys vals = true) (hi : i < n) (hk : k < n) (hne : i ≠ k) : rightB l n n (swF keys i k) vals = false := by
  obtain ⟨h1, _, h2, h3⟩ := rightB_iff.1 h
  cases hr : rightB l n n (swF keys i k) vals with
  | false => rfl
  | true =>
    obtain ⟨_, _, _, h4⟩ := rightB_iff.1 hr
    exfalso
    by_cases e : i < k
    · have a := asc_lt h4 e hk
      have b := asc_lt h3 e hk
      unfold swF at a
      rw [if_pos rfl, if_neg (by omega), if_pos rfl] at a
      omega
    · have e : k < i := by omega
      have a := asc_lt h4 e hi
      have b := asc_lt h3 e hi
      unfold swF at a
      rw [if_neg (by omega), if_pos rfl, if_pos rfl] at a
      omega

/-! parts of a slice of numbers -/
theorem NumsIn.first {A : List Nat} {w : World} {a : Option Addr} {n m c i : Nat} {f : Nat → Nat} (h : NumsIn A w (.slice a m c) n f) (hi : i ≤ n) : NumsIn A w (.slice a i c) i f := by
  rcases h with ⟨⟨a', c', e, h1, h2⟩, rfl⟩ | ⟨b, off, cap, e, h2, h3, h4, h5, h6⟩
  · obtain rfl : i = 0 := by omega
    injection e with e1 e2 e3
    subst e1 e3
    exact .inl ⟨⟨_, _, rfl, h1, h2⟩, rfl⟩
  · injection e with e1 e2 e3
    subst e1 e3
    exact .inr ⟨b, off, _, rfl, by omega, h3, h4, h5, fun j hj => h6 j (by omega)⟩
theorem rest_cells {w : World} {b off n i : Nat} {f : Nat → Nat} (h : NumsAt w b off n f) (hi : i ≤ n) :
    ∀ j u, ((List.range (n - i)).map fun k => Value.int .u64 (f (i + k) : Int))[j]? = some u → w.cell? ((⟨b, off + i, none⟩ : Addr).add j) = some u := by
  intro j u hj
  simp only [List.getElem?_map] at hj
  by_cases hlt : j < n - i
  · simp [hlt] at hj
    subst hj
    rw [addr_add0, Nat.add_assoc]
    exact (h (i + j) (by omega)).1
  · simp [hlt] at hj

end Go.Proofs.Ytjceoheiiohfcaa
