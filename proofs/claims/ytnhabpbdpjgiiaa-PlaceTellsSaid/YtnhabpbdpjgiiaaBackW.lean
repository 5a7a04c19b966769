/- tally.Back, and Changed in a handier form; what is done to a tally. -/
import Derived.Test.YtnhabpbdpjgiiaaChgW
import Derived.Test.YtnhabpbdpjgiiaaPickP
import Derived.Test.YtnhabpbdpjgiiaaTMostL
namespace Go.Proofs.Ytnhabpbdpjgiiaa
open Go.RowKit
set_option linter.unusedVariables false
set_option linter.unusedSimpArgs false

/-- A slice of numbers in memory: nil, or in a block. -/
def SlI (w : World) (v : Value) (l : List Nat) : Prop :=
  (v = .slice none 0 0 ∧ l = []) ∨ ∃ g cap, v = .slice (some ⟨g, 0, none⟩) l.length cap ∧ l.length ≤ cap ∧ cap ≤ maxLen ∧ g < w.heap.size ∧ ∀ i, i < l.length → w.cell? ⟨g, i, none⟩ = some (.int .i64 ((l.getD i 0 : Nat) : Int))

theorem SlI.of_own {w : World} {base T : Nat} {v : Value} {l : List Nat} (h : w.ownsRow base T 1 v l.length (intVs l)) : SlI w v l := by
  rcases h.2 with ⟨rfl, hl⟩ | ⟨g, cap, cur, rfl, hb, hg, h1, h2, h3, h4⟩
  · exact .inl ⟨rfl, List.eq_nil_of_length_eq_zero hl⟩
  · refine .inr ⟨g, cap, rfl, h1, h2, heap_lt hg, fun i hi => ?_⟩
    rw [cell_of_block hg]
    have : (cur.toList.take (l.length * 1))[i]? = (intVs l)[i]? := by rw [h4]
    rw [List.getElem?_take, if_pos (by omega)] at this
    rw [← Array.getElem?_toList, this]
    simp [intVs, List.getElem?_map, List.getD_eq_getElem?_getD, List.getElem?_eq_getElem hi]

theorem SlI.len {w : World} {v : Value} {l : List Nat} (h : SlI w v l) : ∃ a cap, v = .slice a l.length cap := by
  rcases h with ⟨rfl, rfl⟩ | ⟨g, cap, rfl, _⟩
  · exact ⟨none, 0, rfl⟩
  · exact ⟨_, _, rfl⟩

theorem SlI.chg {w w' : World} {v : Value} {l : List Nat} {L : List Nat} (h : SlI w v l) (c : Chg L w w') (hv : ∀ g, v.ownBlock = some g → g ∉ L) : SlI w' v l := by
  rcases h with h | ⟨g, cap, rfl, h1, h2, h3, h4⟩
  · exact .inl h
  · exact .inr ⟨g, cap, rfl, h1, h2, Nat.lt_of_lt_of_le h3 c.size, fun i hi => (c.cell (p := ⟨g, i, none⟩) h3 (hv g rfl)).trans (h4 i hi)⟩

theorem ownBlock_new {w : World} {base T n : Nat} {v : Value} {xs : List Value} (h : w.ownsRow base T 1 v n xs) : ∀ g, v.ownBlock = some g → base ≤ g ∧ g < w.heap.size := h.lt

/-- After the first i of the changed blocks have gone back. -/
def backTo (T : Tal) (l : List Nat) : Tal := { T with now := fun b => if b ∈ l then T.kept b else T.now b }

theorem backTo_nil (T : Tal) : backTo T [] = T := by
  unfold backTo; simp
theorem backTo_snoc (T : Tal) (l : List Nat) (b : Nat) : (backTo T l).set b (T.kept b) = backTo T (l ++ [b]) := by
  unfold backTo Tal.set
  congr 1
  funext j
  simp only [List.mem_append, List.mem_singleton]
  by_cases e : j = b
  · subst e; simp
  · simp [e]
theorem backTo_all {T : Tal} : ∀ b, b < T.n → (backTo T (chgs T)).now b = T.kept b := by
  intro b hb
  unfold backTo
  simp only
  split
  · rfl
  · rename_i h
    have : ¬ T.changed b = true := fun hc => h (mem_chgs.2 ⟨hb, hc⟩)
    simpa [Tal.changed] using this

/-- Two tallies that have the same counts below n lie alike. -/
theorem TallyAt.congr {w : World} {t bc bk : Nat} {T T' : Tal} (h : TallyAt w t bc bk T) (hn : T'.n = T.n) (h1 : ∀ b, b < T.n → T'.now b = T.now b) (h2 : ∀ b, b < T.n → T'.kept b = T.kept b) : TallyAt w t bc bk T' := by
  have ef : T'.frees = T.frees := by
    unfold Tal.frees; rw [hn]
    exact cnt_congr fun i hi => by simp [Tal.free, h1 i hi, h2 i hi]
  have ew : T'.waits = T.waits := by
    unfold Tal.waits; rw [hn]
    exact cnt_congr fun i hi => by simp [Tal.waitB, h1 i hi, h2 i hi]
  have ec : u16s T'.n T'.now = u16s T.n T.now := by
    rw [hn]
    unfold u16s
    congr 1
    funext i
    rw [h1 i i.2]
  refine ⟨by rw [hn]; exact h.n1, by rw [hn]; exact h.n2, fun i hi => by rw [hn] at hi; rw [h1 i hi]; exact h.now i hi, fun i hi => by rw [hn] at hi; rw [h2 i hi]; exact h.kept i hi, by rw [hn, ef, ew]; exact h.top, by rw [ec]; exact h.cs, ?_, h.ne⟩
  rw [hn]
  exact h.map.congr fun i hi => by simp [Tal.keptAt, h1 i hi, h2 i hi]

theorem getD_take_succ {l : List Nat} {i : Nat} (h : i < l.length) : l.take (i + 1) = l.take i ++ [l.getD i 0] := by
  rw [List.take_succ_eq_append_getElem h, List.getD_eq_getElem?_getD, List.getElem?_eq_getElem h]; rfl

end Go.Proofs.Ytnhabpbdpjgiiaa
