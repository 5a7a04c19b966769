/- Facts for TallyFree. -/
import Derived.Test.YtgbhofneinmonaaDone
import Derived.Test.YtgbhofneinmonaaPAllL
namespace Go.Proofs.Ytgbhofneinmonaa
open Go.RowKit
set_option linter.unusedVariables false
set_option linter.unusedSimpArgs false

theorem free_nat {w : World} {t bc bk : Nat} {T : Tal} (h : TallyAt w t bc bk T) {k : Nat} (hk : k < T.n) :
    Calls Try.prog 26 #[.pointer (some ⟨t, 0, none⟩), .int .i64 (k : Int)] w fun e w' => e = .returned (.bool (T.free k)) ∧ w = w' := by
  have := free_at h (k : Int)
  rw [freeB_nat hk] at this
  exact this
theorem getV_nat {T : Tal} {k : Nat} (hk : k < T.n) : getV T (k : Int) = T.now k := by
  unfold getV
  rw [if_pos ((hasB_iff _ _).2 (by omega)), Int.toNat_natCast]
theorem get_nat {w : World} {t bc bk : Nat} {T : Tal} (h : TallyAt w t bc bk T) {k : Nat} (hk : k < T.n) :
    Calls Try.prog 27 #[.pointer (some ⟨t, 0, none⟩), .int .i64 (k : Int)] w fun e w' => e = .returned (.int .i64 (T.now k : Int)) ∧ w = w' := by
  have := get_at h (k : Int)
  rw [getV_nat hk] at this
  exact this

theorem doneT_n (d B : Int) (T : Tal) : (doneT d B T).n = T.n := by
  unfold doneT
  split
  · exact up_n _ _
  · split
    · exact down_n _ _
    · split <;> rfl
theorem up_free_not {T : Tal} {b : Int} {k : Nat} (h : T.free k = false) : (up T b).free k = false := by
  unfold up
  split
  · rename_i he
    by_cases e : k = b.toNat
    · subst e; simp [Tal.free, Tal.set]
    · simpa [Tal.free, Tal.set, e] using h
  · exact h
theorem done_free {d B : Int} {T : Tal} {k : Nat} (h0 : T.free k = false) (h1 : (doneT d B T).free k = true) : ¬ d % 4 = 0 := by
  intro hd
  unfold doneT at h1
  rw [if_pos hd, up_free_not h0] at h1
  cases h1
def noneB (T : Tal) (k : Nat) : Bool := T.now k == 0
theorem none_split (T : Tal) : cnt T.n (noneB T) = T.frees + T.waits := by
  refine cnt_split fun i _ => ?_
  unfold noneB
  simp only [Tal.free, Tal.waitB]
  by_cases q1 : T.now i = 0 <;> by_cases q2 : T.kept i = 0 <;> simp [q1, q2]
theorem done_waits {d B : Int} {T : Tal} (hd : d % 4 = 2) : (doneT d B T).waits = 0 := by
  unfold doneT
  rw [if_neg (by omega), if_neg (by omega), if_pos hd]
  exact keep_waits T
theorem chgs_eq {T : Tal} (h : ∀ k, T.now k = T.kept k) : chgs T = [] := by
  unfold chgs
  rw [List.filter_eq_nil_iff]
  intro k _
  simp [Tal.changed, h k]
theorem done_chgs {d B : Int} {T : Tal} (hd : 2 ≤ d % 4) : chgs (doneT d B T) = [] := by
  have : d % 4 = 2 ∨ d % 4 = 3 := by omega
  unfold doneT
  rcases this with h | h
  · rw [if_neg (by omega), if_neg (by omega), if_pos h]
    exact chgs_eq fun k => rfl
  · rw [if_neg (by omega), if_neg (by omega), if_neg (by omega)]
    exact chgs_eq fun k => rfl
theorem changed_nil {w : World} {t bc bk : Nat} {T : Tal} (h : TallyAt w t bc bk T) (hc : chgs T = []) :
    Calls Try.prog 40 #[.pointer (some ⟨t, 0, none⟩)] w fun e w' => (∃ a c, e = .returned (.slice a 0 c)) ∧ Chg [] w w' :=
  (changed_sl h).mono fun _ _ ⟨v, he, hs, _, hb⟩ => by
    rw [hc] at hs
    obtain ⟨a, c, hv⟩ := hs.len
    exact ⟨⟨a, c, by rw [he, hv]; rfl⟩, hb⟩

end Go.Proofs.Ytgbhofneinmonaa
