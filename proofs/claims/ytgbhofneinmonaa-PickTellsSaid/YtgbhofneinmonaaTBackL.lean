/- Facts for TallyBack. -/
import Derived.Test.YtgbhofneinmonaaTFreeL
import Derived.Test.YtgbhofneinmonaaApp
namespace Go.Proofs.Ytgbhofneinmonaa
open Go.RowKit
set_option linter.unusedVariables false
set_option linter.unusedSimpArgs false

/-- No count beyond j. -/
def bnd (T : Tal) (j : Nat) : Prop := ∀ b, b < T.n → T.now b ≤ j ∧ T.kept b ≤ j
theorem bnd_new (n : Nat) : bnd (Tal.new n) 0 := fun b _ => ⟨Nat.le_refl _, Nat.le_refl _⟩
theorem bnd_keep {T : Tal} {j : Nat} (h : bnd T j) : bnd T.keep j := fun b hb => ⟨(h b hb).1, (h b hb).1⟩
theorem bnd_mono {T : Tal} {i j : Nat} (h : bnd T i) (hij : i ≤ j) : bnd T j := fun b hb => by have := h b hb; omega
theorem bnd_done {T : Tal} {j : Nat} (d B : Int) (h : bnd T j) : bnd (doneT d B T) (j + 1) := by
  intro b hb
  rw [doneT_n] at hb
  have h0 := h b hb
  unfold doneT
  split
  · unfold up
    split
    · rename_i he
      simp only [Tal.set]
      refine ⟨?_, by omega⟩
      split
      · rename_i e; subst e; omega
      · omega
    · omega
  · split
    · unfold down
      split
      · simp only [Tal.set]
        refine ⟨?_, by omega⟩
        split
        · rename_i e; subst e; omega
        · omega
      · omega
    · split
      · exact ⟨by show T.now b ≤ _; omega, by show T.now b ≤ _; omega⟩
      · exact ⟨by show T.kept b ≤ _; omega, by show T.kept b ≤ _; omega⟩
theorem doneT_kept {d B : Int} {T : Tal} (h : ¬ d % 4 = 2) : (doneT d B T).kept = T.kept := by
  unfold doneT
  split
  · unfold up; split <;> rfl
  · split
    · unfold down; split <;> rfl
    · rfl
theorem set_undo {T : Tal} (b v : Nat) : (T.set b v).set b (T.now b) = T := by
  obtain ⟨n, now, kept⟩ := T
  unfold Tal.set
  congr 1
  funext i
  simp only
  split
  · rename_i e; subst e; rfl
  · rfl

section
variable {w : World} {t bc bk b : Nat} {T : Tal} (hb : b < T.n) (hk : T.now b ≤ 60000)
include hb hk
theorem upB (h : TallyAt w t bc bk T) : Calls Try.prog 25 #[.pointer (some ⟨t, 0, none⟩), .int .i64 (b : Int)] w fun e w' => e = .returned (.int .i64 0) ∧ TallyAt w' t bc bk (T.set b (T.now b + 1)) ∧ Chg [t, bc, bk] w w' := by
  have hh : hasB T (b : Int) = true := (hasB_iff _ _).2 (by omega)
  have e1 : upE T (b : Int) = 0 := by
    unfold upE
    rw [if_pos hh, Int.toNat_natCast, if_neg (by omega)]
  have e2 : up T (b : Int) = T.set b (T.now b + 1) := by
    unfold up
    rw [if_pos e1, Int.toNat_natCast]
  refine (up_at h (b : Int)).mono fun e w' ⟨he, ht, hc⟩ => ⟨by rw [he, e1], by rw [e2] at ht; exact ht, hc⟩
theorem downB (h : TallyAt w t bc bk (T.set b (T.now b + 1))) : Calls Try.prog 18 #[.pointer (some ⟨t, 0, none⟩), .int .i64 (b : Int)] w fun e w' => e = .returned (.int .i64 0) ∧ TallyAt w' t bc bk T ∧ Chg [t, bc, bk] w w' := by
  have hh : hasB (T.set b (T.now b + 1)) (b : Int) = true := (hasB_iff _ _).2 (by have : (T.set b (T.now b + 1)).n = T.n := rfl; omega)
  have e0 : (T.set b (T.now b + 1)).now b = T.now b + 1 := by simp [Tal.set]
  have e1 : downE (T.set b (T.now b + 1)) (b : Int) = 0 := by
    unfold downE
    rw [if_pos hh, Int.toNat_natCast, e0, if_neg (by omega)]
  have e2 : down (T.set b (T.now b + 1)) (b : Int) = T := by
    unfold down
    rw [if_pos e1, Int.toNat_natCast, e0, Nat.add_sub_cancel, set_undo]
  refine (down_at h (b : Int)).mono fun e w' ⟨he, ht, hc⟩ => ⟨by rw [he, e1], by rw [e2] at ht; exact ht, hc⟩
omit hk in
theorem getUpB (h : TallyAt w t bc bk (T.set b (T.now b + 1))) : Calls Try.prog 27 #[.pointer (some ⟨t, 0, none⟩), .int .i64 (b : Int)] w fun e w' => e = .returned (.int .i64 ((T.now b : Int) + 1)) ∧ w = w' := by
  have := get_nat h (k := b) hb
  have e0 : (T.set b (T.now b + 1)).now b = T.now b + 1 := by simp [Tal.set]
  rw [e0] at this
  exact this
end

/-- The counts of the first k blocks. -/
def nows (T : Tal) (k : Nat) : List Nat := (List.range k).map T.now
theorem nows_len (T : Tal) (k : Nat) : (nows T k).length = k := by simp [nows]
theorem nows_get {T : Tal} {k i : Nat} (h : i < k) : (nows T k).getD i 0 = T.now i := by
  simp [nows, List.getD_eq_getElem?_getD, h]
theorem nows_succ (T : Tal) (k : Nat) : intVs (nows T (k + 1)) = intVs (nows T k) ++ [.int .i64 (T.now k : Int)] := by
  simp [nows, intVs, List.range_succ]
theorem nows_own {w : World} {base e : Nat} {v : Value} {T : Tal} {k : Nat} (h : w.ownsRow base e 1 v k (intVs (nows T k))) : SlI w v (nows T k) := by
  refine SlI.of_own (base := base) (T := e) ?_
  rw [nows_len]; exact h

end Go.Proofs.Ytgbhofneinmonaa
