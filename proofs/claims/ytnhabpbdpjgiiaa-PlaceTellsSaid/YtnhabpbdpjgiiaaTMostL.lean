/- One block's count up and down: contracts for TallyMost. -/
import Derived.Test.YtnhabpbdpjgiiaaTalN
import Derived.Test.YtnhabpbdpjgiiaaPickP
namespace Go.Proofs.Ytnhabpbdpjgiiaa
open Go.RowKit
set_option linter.unusedVariables false

def oneT (n b i : Nat) : Tal := (Tal.new n).set b i
theorem oneT_zero (n b : Nat) : oneT n b 0 = Tal.new n := by
  unfold oneT Tal.set Tal.new
  congr 1
  funext j
  simp
theorem oneT_set (n b i j : Nat) : (oneT n b i).set b j = oneT n b j := by
  unfold oneT Tal.set
  congr 1
  funext k
  simp only
  split <;> rfl
theorem oneT_now (n b i : Nat) : (oneT n b i).now b = i := by simp [oneT, Tal.set]
theorem oneT_has {n b i : Nat} (hb : b < n) : hasB (oneT n b i) (b : Int) = true := (hasB_iff _ _).2 ⟨by omega, by show (b : Int) < (n : Int); omega⟩

section
variable {w : World} {t bc bk n b i : Nat} (hb : b < n) (h : TallyAt w t bc bk (oneT n b i))
include hb h
theorem one_up (hi : i < 65535) : Calls Try.prog 15 #[.pointer (some ⟨t, 0, none⟩), .int .i64 (b : Int)] w fun e w' => e = .returned (.int .i64 0) ∧ TallyAt w' t bc bk (oneT n b (i + 1)) ∧ Chg [t, bc, bk] w w' := by
  have e1 : upE (oneT n b i) (b : Int) = 0 := by
    unfold upE
    rw [if_pos (oneT_has hb), Int.toNat_natCast, oneT_now, if_neg (by omega)]
  have e2 : up (oneT n b i) (b : Int) = oneT n b (i + 1) := by
    unfold up
    rw [if_pos e1, Int.toNat_natCast, oneT_now, oneT_set]
  refine (up_at h (b : Int)).mono fun e w' ⟨he, ht, hc⟩ => ⟨by rw [he, e1], by rw [e2] at ht; exact ht, hc⟩
theorem one_full (hi : i = 65535) : Calls Try.prog 15 #[.pointer (some ⟨t, 0, none⟩), .int .i64 (b : Int)] w fun e w' => e = .returned (.int .i64 81) ∧ TallyAt w' t bc bk (oneT n b i) ∧ Chg [t, bc, bk] w w' := by
  have e1 : upE (oneT n b i) (b : Int) = 81 := by
    unfold upE
    rw [if_pos (oneT_has hb), Int.toNat_natCast, oneT_now, if_pos hi]
  have e2 : up (oneT n b i) (b : Int) = oneT n b i := by
    unfold up
    rw [if_neg (by rw [e1]; decide)]
  refine (up_at h (b : Int)).mono fun e w' ⟨he, ht, hc⟩ => ⟨by rw [he, e1], by rw [e2] at ht; exact ht, hc⟩
theorem one_down (hi : 0 < i) : Calls Try.prog 17 #[.pointer (some ⟨t, 0, none⟩), .int .i64 (b : Int)] w fun e w' => e = .returned (.int .i64 0) ∧ TallyAt w' t bc bk (oneT n b (i - 1)) ∧ Chg [t, bc, bk] w w' := by
  have e1 : downE (oneT n b i) (b : Int) = 0 := by
    unfold downE
    rw [if_pos (oneT_has hb), Int.toNat_natCast, oneT_now, if_neg (by omega)]
  have e2 : down (oneT n b i) (b : Int) = oneT n b (i - 1) := by
    unfold down
    rw [if_pos e1, Int.toNat_natCast, oneT_now, oneT_set]
  refine (down_at h (b : Int)).mono fun e w' ⟨he, ht, hc⟩ => ⟨by rw [he, e1], by rw [e2] at ht; exact ht, hc⟩
theorem one_none (hi : i = 0) : Calls Try.prog 17 #[.pointer (some ⟨t, 0, none⟩), .int .i64 (b : Int)] w fun e w' => e = .returned (.int .i64 82) ∧ TallyAt w' t bc bk (oneT n b i) ∧ Chg [t, bc, bk] w w' := by
  have e1 : downE (oneT n b i) (b : Int) = 82 := by
    unfold downE
    rw [if_pos (oneT_has hb), Int.toNat_natCast, oneT_now, if_pos hi]
  have e2 : down (oneT n b i) (b : Int) = oneT n b i := by
    unfold down
    rw [if_neg (by rw [e1]; decide)]
  refine (down_at h (b : Int)).mono fun e w' ⟨he, ht, hc⟩ => ⟨by rw [he, e1], by rw [e2] at ht; exact ht, hc⟩
theorem one_get : Calls Try.prog 24 #[.pointer (some ⟨t, 0, none⟩), .int .i64 (b : Int)] w fun e w' => e = .returned (.int .i64 (i : Int)) ∧ w = w' := by
  have := get_at h (b : Int)
  have e : getV (oneT n b i) (b : Int) = i := by
    unfold getV
    rw [if_pos (oneT_has hb), Int.toNat_natCast, oneT_now]
  rw [e] at this
  exact this
theorem one_frees (hi : 0 < i) : Calls Try.prog 51 #[.pointer (some ⟨t, 0, none⟩)] w fun e w' => e = .returned (.int .i64 ((n : Int) - 1)) ∧ w = w' := by
  have := frees_at h
  have h1 := frees_set (Tal.new n) i hb
  have h2 : (Tal.new n).free b = true := by simp [Tal.free, Tal.new]
  have h3 : ((Tal.new n).set b i).free b = false := by simp [Tal.free, Tal.set]; omega
  rw [h2, h3, new_frees] at h1
  have e : ((oneT n b i).frees : Int) = (n : Int) - 1 := by
    unfold oneT
    simp at h1
    omega
  rw [e] at this
  exact this
end
theorem zero_frees {w : World} {t bc bk n b : Nat} (h : TallyAt w t bc bk (oneT n b 0)) : Calls Try.prog 51 #[.pointer (some ⟨t, 0, none⟩)] w fun e w' => e = .returned (.int .i64 (n : Int)) ∧ w = w' := by
  have := frees_at h
  rw [oneT_zero, new_frees] at this
  exact this
theorem out_up {w : World} {t bc bk : Nat} {T : Tal} (h : TallyAt w t bc bk T) : Calls Try.prog 15 #[.pointer (some ⟨t, 0, none⟩), .int .i64 (T.n : Int)] w fun e w' => e = .returned (.int .i64 80) ∧ TallyAt w' t bc bk T ∧ Chg [t, bc, bk] w w' := by
  have hh : hasB T (T.n : Int) = false := by simp [hasB]
  have e1 : upE T (T.n : Int) = 80 := by simp [upE, hh]
  have e2 : up T (T.n : Int) = T := by
    unfold up
    rw [if_neg (by rw [e1]; decide)]
  refine (up_at h _).mono fun e w' ⟨he, ht, hc⟩ => ⟨by rw [he, e1], by rw [e2] at ht; exact ht, hc⟩
theorem out_down {w : World} {t bc bk : Nat} {T : Tal} (h : TallyAt w t bc bk T) : Calls Try.prog 17 #[.pointer (some ⟨t, 0, none⟩), .int .i64 (-1)] w fun e w' => e = .returned (.int .i64 80) ∧ TallyAt w' t bc bk T ∧ Chg [t, bc, bk] w w' := by
  have hh : hasB T (-1) = false := by simp [hasB]
  have e1 : downE T (-1) = 80 := by simp [downE, hh]
  have e2 : down T (-1) = T := by
    unfold down
    rw [if_neg (by rw [e1]; decide)]
  refine (down_at h _).mono fun e w' ⟨he, ht, hc⟩ => ⟨by rw [he, e1], by rw [e2] at ht; exact ht, hc⟩

theorem chg_own3 {w a b : World} {t bc bk : Nat} (h : Chg [] w a) (k : Chg [t, bc, bk] a b) (l : w.heap.size ≤ t ∧ w.heap.size ≤ bc ∧ w.heap.size ≤ bk) : Chg [] w b := by
  obtain ⟨l2, l3, l4⟩ := l
  refine h.then k fun i hi => .inr ?_
  simp only [List.mem_cons, List.not_mem_nil, or_false] at hi
  rcases hi with rfl | rfl | rfl <;> assumption

end Go.Proofs.Ytnhabpbdpjgiiaa
