/- The builtin copy between rows of one-cell elements, told by functions. -/
import Derived.Test.YtbejcmbdaoakbaaFr
import Derived.Laws.CopyOwn
namespace Go.Proofs.Ytbejcmbdaoakbaa
open Go.RowKit
set_option linter.unusedVariables false

def fnRow (N : Nat) (V : Nat → Value) : Array Value := Array.ofFn (n := N) fun i => V i
def laid (V S : Nat → Value) (off m i : Nat) : Value := if off ≤ i ∧ i < off + m then S (i - off) else V i
theorem laid_row {N off m : Nat} (V S : Nat → Value) (h : off + m ≤ N) :
    ((fnRow N V).toList.take off ++ ((List.range m).map S ++ (fnRow N V).toList.drop (off + ((List.range m).map S).length))).toArray = fnRow N (laid V S off m) := by
  apply Array.ext_getElem?
  intro j
  simp only [List.getElem?_toArray, fnRow, laid, List.length_map, List.length_range]
  have ht : ((Array.ofFn (n := N) fun i => V i).toList.take off).length = off := by simp; omega
  by_cases h1 : j < off
  · rw [List.getElem?_append_left (by rw [ht]; exact h1), List.getElem?_take, if_pos h1]
    have hj : j < N := by omega
    simp [hj]
    omega
  · rw [List.getElem?_append_right (by rw [ht]; omega), ht]
    by_cases h2 : j - off < m
    · rw [List.getElem?_append_left (by simpa using h2)]
      have hj : j < N := by omega
      simp [hj, h2]
      intro h3
      have := h3 (by omega)
      omega
    · rw [List.getElem?_append_right (by simp; omega)]
      simp only [List.length_map, List.length_range, List.getElem?_drop]
      by_cases hj : j < N
      · have e : off + m + (j - off - m) = j := by omega
        simp [hj, e]
        omega
      · have e : ¬ off + m + (j - off - m) < N := by omega
        simp [hj]
        omega

theorem wpList_copy_fn {P : Program} {w : World} {ops : Array Oper} {rest : List Oper} {o : Oper} {a : Act} {Q : Exit → Act → World → Prop} (hgd : o.guard = none) (d s : Operand) (dT sT : TypeId)
    (ho : o.op = .call { callee := .builtin .copy, args := #[d, s], argTypes := #[dT, sT] }) (elem : TypeId) (hu : P.underlying dT = some (.slice elem)) (hsz : (P.info? elem).map (·.size) = some 1)
    (g off dLen dCap : Nat) (sp : Option Addr) (sLen sCap : Nat) (hd : a.eval d = .slice (some ⟨g, off, none⟩) dLen dCap) (hs : a.eval s = .slice sp sLen sCap)
    (N : Nat) (V : Nat → Value) (t : TypeId) (hg : w.heap[g]? = some (.cells (fnRow N V) t (0, 0))) (m : Nat) (hm : m = Nat.min sLen dLen) (S : Nat → Value)
    (hsrc : 0 < m → ∃ b o, sp = some ⟨b, o, none⟩ ∧ ∀ j, j < m → w.cell? ⟨b, o + j, none⟩ = some (S j)) (h1 : ∀ j, j < m → (S j).oneCell' = true) (hfit : off + m ≤ N)
    (h : ∀ w', Hid (w'.heap[g]? = some (.cells (fnRow N (laid V S off m)) t (0, 0))) → Chg [g] w w' → wpList P ops Q rest (a.put o.dst (goInt m)) w') :
    wpList P ops Q (o :: rest) a w := by
  by_cases h0 : m = 0
  · subst h0
    refine wpList_copy_nothing hgd d s dT sT ho elem hu hsz _ sp dLen dCap sLen sCap hd hs hm.symm ?_
    refine h w (show _ = _ from ?_) (Chg.refl _ _)
    rw [hg]
    have : laid V S off 0 = V := by funext i; unfold laid; rw [if_neg (by omega)]
    rw [this]
  · obtain ⟨b, q, rfl, hc⟩ := hsrc (by omega)
    have hl : ((List.range m).map S).length = m := by simp
    have hw := wpList_copy_own (w := w) (Q := Q) (rest := rest) (ops := ops) hgd d s dT sT ho elem hu hsz g off dLen dCap ⟨b, q, none⟩ sLen sCap hd hs (fnRow N V) t hg ((List.range m).map S) (by rw [hl, hm])
      (fun j v hj => by
        simp only [List.getElem?_map] at hj
        by_cases hlt : j < m
        · simp [hlt] at hj
          subst hj
          have e : (⟨b, q, none⟩ : Addr).add j = ⟨b, q + j, none⟩ := by unfold Addr.add; split <;> simp_all
          rw [e]
          exact hc j hlt
        · simp [hlt] at hj)
      (by rw [hl]; simp [fnRow]; exact hfit)
      (fun v hv => by obtain ⟨j, hj, rfl⟩ := List.mem_map.1 hv; exact h1 j (by simpa using hj))
    refine hw ?_
    rw [hl]
    refine h _ (show _ = _ from ?_) ⟨rfl, rfl, rfl, by simp [World.setRow], fun k hk hn => setRow_other w g k _ (by simpa using hn)⟩
    have hr := laid_row V S hfit
    rw [hl] at hr
    rw [hr]
    exact setRow_heap w g _ _ t _ hg

end Go.Proofs.Ytbejcmbdaoakbaa
