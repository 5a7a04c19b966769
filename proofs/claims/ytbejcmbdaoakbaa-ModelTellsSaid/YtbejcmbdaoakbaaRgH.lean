/- What the laws of layer 24 need of states and replies (the head of LRef). -/
import Derived.Test.YtbejcmbdaoakbaaMdB
namespace Go.Proofs.Ytbejcmbdaoakbaa
open Go.RowKit Go.Maps
set_option linter.unusedVariables false
set_option linter.unusedSimpArgs false

/-- What a law's walk shows. -/
def LawOk (w : World) (e : Ending) (w' : World) : Prop := e = .returned (.bool true) ∧ Below w.heap.size w w'
theorem law_ok {w w' : World} (h : Chg [] w w') : LawOk w (.returned (.bool true)) w' := ⟨rfl, h.below (by simp)⟩

theorem IsOps.chg {w w' : World} {a : Option Addr} {len cap : Nat} {z : Nat → Opn} (h : IsOps w a len cap z) (c : Chg [] w w') : IsOps w' a len cap z :=
  ⟨h.1, h.2.1, h.2.2.1, fun i hi => by
    obtain ⟨b, off, e, hb, ho⟩ := h.2.2.2 i hi
    exact ⟨b, off, e, Nat.lt_of_lt_of_le hb c.size, ho.chg c hb (by simp) (by simp)⟩⟩

theorem stEq_self (S : St) : stEq S S = true := by
  unfold stEq
  rw [decide_eq_true rfl, decide_eq_true rfl, volsEq_iff.2 rfl]
  rfl
theorem st_err {S : St} {o : Opn} (h : errOf S o ≠ 0) : stOf S o = S := by unfold stOf; rw [if_pos h]
theorem rep_err {S : St} {o : Opn} (h : errOf S o ≠ 0) : repOf S o = ⟨errOf S o, 0, 0, fun _ => 0, 0⟩ := by unfold repOf; rw [if_pos h]
theorem rep_errf (S : St) (o : Opn) : (repOf S o).err = errOf S o := by
  by_cases h : errOf S o = 0
  · rw [repOf_ok h, h]
    split <;> try rfl
    split <;> try rfl
    split <;> try rfl
    split <;> rfl
  · rw [rep_err h]
theorem st_ask {S : St} {o : Opn} (h : o.code = 4 ∨ o.code = 7 ∨ o.code = 8 ∨ o.code = 9) : stOf S o = S := by
  by_cases he : errOf S o = 0
  · rw [stOf_ok he]
    rcases h with h | h | h | h <;> simp [h]
  · exact st_err he
theorem st_new {S : St} {o : Opn} (he : errOf S o = 0) (h : o.code = 1 ∨ o.code = 3 ∨ o.code = 2) : stEq (stOf S o) S = false := by
  rw [stOf_ok he]
  rcases h with h | h | h
  · have : stEq (S.made (.map [])) S = false := by
      unfold stEq St.made
      rw [decide_eq_false (show ¬ S.last + 1 = S.last by omega)]
      simp
    simp [h, this]
  · have : stEq (S.made (S.volOf o.vol)) S = false := by
      unfold stEq St.made
      rw [decide_eq_false (show ¬ S.last + 1 = S.last by omega)]
      simp
    simp [h, this]
  · have ht : S.vols (kU o.vol) = some (S.volOf o.vol) := by
      have : errOf S o = wrongS S true false false false false o.vol o.pl o.n o.len := by
        unfold errOf flagsOf
        simp [h]
      rw [this] at he
      exact wrong_there he
    have : volsEq (upd S.vols (kU o.vol) none) S.vols = false := by
      cases hq : volsEq (upd S.vols (kU o.vol) none) S.vols with
      | false => rfl
      | true =>
        have := congrFun (volsEq_iff.1 hq) (kU o.vol)
        rw [upd_same, ht] at this
        cases this
    have : stEq (S.drop o.vol) S = false := by
      unfold stEq St.drop
      rw [this]
      simp
    simp [h, this]
theorem err_code {S : St} {o : Opn} (he : errOf S o = 0) : 1 ≤ o.code ∧ o.code ≤ 9 := by
  unfold errOf at he
  split at he
  · omega
  · omega
theorem rep_same {S : St} {o : Opn} (h : errOf S o ≠ 0) : repEq (repOf S o) ⟨(repOf S o).err, 0, 0, fun _ => 0, 0⟩ = true := by
  rw [rep_err h]
  exact repEq_self _

end Go.Proofs.Ytbejcmbdaoakbaa
