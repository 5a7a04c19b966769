/- tally.Back, and Changed in a handier form; what is done to a tally. -/
import Derived.Test.YtgbhofneinmonaaChgW
import Derived.Test.YtgbhofneinmonaaPickP
import Derived.Test.YtgbhofneinmonaaTMostL
namespace Go.Proofs.Ytgbhofneinmonaa
open Go.RowKit
set_option linter.unusedVariables false
set_option linter.unusedSimpArgs false

/-- A slice of numbers in memory: nil, or in a block. -/
def SlI (w : World) (v : Value) (l : List Nat) : Prop :=
  (v = .slice none 0 0 ∧ l = []) ∨ ∃ g cap, v = .slice (some ⟨g, 0, none⟩) l.length cap ∧ l.length ≤ cap ∧ cap ≤ maxLen ∧ g < w.heap.size ∧ ∀ i, i < l.length → w.cell? ⟨g, i, none⟩ = some (.int .i64 ((l.getD i 0 : Nat) : Int))

theorem SlI.of_own {w : World} {base T : Nat} {v : Value} {l : List Nat} (h : w.ownsRow base T 1 v l.length (intVs l)) : SlI w v l := by
  rcases h.2 with ⟨rfl, hl⟩ | ⟨g, cap, cur, rfl, hb, hg, h1, h2, h3, h4⟩
  · exact .inl ⟨rfl, List.eq_nil_of_length_eq_zero hl⟩
  · refine .inr ⟨g, cap, rfl, h1, h2, heap_lt hg, fun i hi => ?_⟩
    rw [cell_of_block hg]
    have : (cur.toList.take (l.length * 1))[i]? = (intVs l)[i]? := by rw [h4]
    rw [List.getElem?_take, if_pos (by omega)] at this
    rw [← Array.getElem?_toList, this]
    simp [intVs, List.getElem?_map, List.getD_eq_getElem?_getD, List.getElem?_eq_getElem hi]

theorem SlI.len {w : World} {v : Value} {l : List Nat} (h : SlI w v l) : ∃ a cap, v = .slice a l.length cap := by
  rcases h with ⟨rfl, rfl⟩ | ⟨g, cap, rfl, _⟩
  · exact ⟨none, 0, rfl⟩
  · exact ⟨_, _, rfl⟩

theorem SlI.chg {w w' : World} {v : Value} {l : List Nat} {L : List Nat} (h : SlI w v l) (c : Chg L w w') (hv : ∀ g, v.ownBlock = some g → g ∉ L) : SlI w' v l := by
  rcases h with h | ⟨g, cap, rfl, h1, h2, h3, h4⟩
  · exact .inl h
  · exact .inr ⟨g, cap, rfl, h1, h2, Nat.lt_of_lt_of_le h3 c.size, fun i hi => (c.cell (p := ⟨g, i, none⟩) h3 (hv g rfl)).trans (h4 i hi)⟩

theorem ownBlock_new {w : World} {base T n : Nat} {v : Value} {xs : List Value} (h : w.ownsRow base T 1 v n xs) : ∀ g, v.ownBlock = some g → base ≤ g ∧ g < w.heap.size := h.lt

/-- After the first i of the changed blocks have gone back. -/
def backTo (T : Tal) (l : List Nat) : Tal := { T with now := fun b => if b ∈ l then T.kept b else T.now b }

theorem backTo_nil (T : Tal) : backTo T [] = T := by
  unfold backTo; simp
theorem backTo_snoc (T : Tal) (l : List Nat) (b : Nat) : (backTo T l).set b (T.kept b) = backTo T (l ++ [b]) := by
  unfold backTo Tal.set
  congr 1
  funext j
  simp only [List.mem_append, List.mem_singleton]
  by_cases e : j = b
  · subst e; simp
  · simp [e]
theorem backTo_all {T : Tal} : ∀ b, b < T.n → (backTo T (chgs T)).now b = T.kept b := by
  intro b hb
  unfold backTo
  simp only
  split
  · rfl
  · rename_i h
    have : ¬ T.changed b = true := fun hc => h (mem_chgs.2 ⟨hb, hc⟩)
    simpa [Tal.changed] using this

/-- Two tallies that have the same counts below n lie alike. -/
theorem TallyAt.congr {w : World} {t bc bk : Nat} {T T' : Tal} (h : TallyAt w t bc bk T) (hn : T'.n = T.n) (h1 : ∀ b, b < T.n → T'.now b = T.now b) (h2 : ∀ b, b < T.n → T'.kept b = T.kept b) : TallyAt w t bc bk T' := by
  have ef : T'.frees = T.frees := by
    unfold Tal.frees; rw [hn]
    exact cnt_congr fun i hi => by simp [Tal.free, h1 i hi, h2 i hi]
  have ew : T'.waits = T.waits := by
    unfold Tal.waits; rw [hn]
    exact cnt_congr fun i hi => by simp [Tal.waitB, h1 i hi, h2 i hi]
  have ec : u16s T'.n T'.now = u16s T.n T.now := by
    rw [hn]
    unfold u16s
    congr 1
    funext i
    rw [h1 i i.2]
  refine ⟨by rw [hn]; exact h.n1, by rw [hn]; exact h.n2, fun i hi => by rw [hn] at hi; rw [h1 i hi]; exact h.now i hi, fun i hi => by rw [hn] at hi; rw [h2 i hi]; exact h.kept i hi, by rw [hn, ef, ew]; exact h.top, by rw [ec]; exact h.cs, ?_, h.ne⟩
  rw [hn]
  exact h.map.congr fun i hi => by simp [Tal.keptAt, h1 i hi, h2 i hi]

theorem getD_take_succ {l : List Nat} {i : Nat} (h : i < l.length) : l.take (i + 1) = l.take i ++ [l.getD i 0] := by
  rw [List.take_succ_eq_append_getElem h, List.getD_eq_getElem?_getD, List.getElem?_eq_getElem h]; rfl

set_option maxRecDepth 20000 in
set_option maxHeartbeats 2000000 in
theorem back_at {w : World} {t bc bk : Nat} {T : Tal} (h : TallyAt w t bc bk T) :
    Calls Try.prog 36 #[.pointer (some ⟨t, 0, none⟩)] w fun e w' => e = .returned (.tuple #[]) ∧ TallyAt w' t bc bk T.back ∧ Chg [t, bc, bk] w w' := by
  go_enter Try.func36, Try.ntmps36
  go_wp2_with fail
  refine (changed_at h).mono ?_
  rintro e w1 ⟨v, rfl, hrow, hb1⟩
  have hS := SlI.of_own hrow
  have hC : Chg [] w w1 := Chg.of_below hb1
  have hT1 := h.chg hC (by simp) (by simp) (by simp)
  have hvb := ownBlock_new hrow
  have hlen : (chgs T).length ≤ 4096 := Nat.le_trans (by
    have := List.length_filter_le T.changed (List.range T.n)
    simpa [chgs] using this) h.n2
  obtain ⟨a, cap, rfl⟩ := hS.len
  have HC := Lib.hid hC
  have HS := Lib.hid hS
  have Hvb := Lib.hid hvb
  clear hC hS hvb hrow hb1
  go_wp2_with fail
  go_loopw [7] (fun s wr => ∃ i : Nat, i ≤ (chgs T).length ∧ s = .int .i64 (i : Int) ∧ TallyAt wr t bc bk (backTo T ((chgs T).take i)) ∧ SlI wr (.slice a (chgs T).length cap) (chgs T) ∧ Chg [t, bc, bk] w wr) (fun s _ => (chgs T).length - (intOf s).toNat)
  case atStart => exact ⟨0, Nat.zero_le _, rfl, by rw [List.take_zero, backTo_nil]; exact hT1, HS.out, HC.out.mono (by simp)⟩
  case round =>
    obtain ⟨i, hi, rfl, hTr, hSr, hCr⟩ := hrel
    have HCr := Lib.hid hCr
    have HSr := Lib.hid hSr
    clear hCr hSr hT1
    by_cases hlt : i < (chgs T).length
    · obtain ⟨b, hb⟩ : ∃ b, (chgs T).getD i 0 = b := ⟨_, rfl⟩
      have hmem : b ∈ chgs T := by
        rw [← hb, List.getD_eq_getElem?_getD, List.getElem?_eq_getElem hlt]
        exact List.getElem_mem hlt
      obtain ⟨hbn, hbc⟩ := mem_chgs.1 hmem
      have hcell : ∃ g, a = some ⟨g, 0, none⟩ ∧ wr.cell? ⟨g, i, none⟩ = some (.int .i64 (b : Int)) := by
        rcases HSr.out with ⟨hv, hl⟩ | ⟨g, cap', hv, _, _, _, hc⟩
        · rw [hl] at hlt; simp at hlt
        · injection hv with hv
          exact ⟨g, hv, by rw [hc i hlt, hb]⟩
      obtain ⟨g, rfl, hcell⟩ := hcell
      have hnot : b ∉ (chgs T).take i := by
        intro hm
        obtain ⟨j, hj, e⟩ := List.mem_iff_getElem.1 hm
        have hj' : j < i := by simp at hj; omega
        have hp := List.pairwise_iff_getElem.1 (chgs_pairwise T) j i (by omega) hlt hj'
        rw [List.getElem_take] at e
        rw [List.getD_eq_getElem?_getD, List.getElem?_eq_getElem hlt] at hb
        simp at hb
        omega
      have c1 := hTr.c1
      have hkb : T.kept b ≤ 65535 := h.kept b hbn
      have hl := (hTr.map.look (t := 40) Try.underlying3 Try.underlying84 Try.underlying40 (zeroU16 wr) hbn h.n2).2
      have hka : (backTo T ((chgs T).take i)).keptAt b = some (T.kept b) := by
        have hne : T.now b ≠ T.kept b := by simpa [Tal.changed] using hbc
        simp [Tal.keptAt, backTo, hnot, hne]
      rw [hka] at hl
      simp only [Option.getD_some] at hl
      have hst := getD_take_succ hlt
      rw [hb] at hst
      have Hst := Lib.hid hst
      clear hka hst hb hnot hmem hbc
      go_wp2_with fail
      refine (set_at hTr b (T.kept b) hbn hkb).mono ?_
      rintro e w2 ⟨rfl, hT2, hC2⟩
      rw [backTo_snoc, ← Hst.out] at hT2
      have HC2 := Lib.hid (HCr.out.trans hC2)
      have HS2 := Lib.hid (HSr.out.chg hC2 (fun g' hg' => by
        have := Hvb.out g' hg'
        have m1 := h.lt0
        have m2 := h.lt1
        have m3 := h.lt2
        simp
        omega))
      clear hC2 hl
      go_wp2_with fail
      go_roundw
      case rel => exact ⟨i + 1, by omega, by go_num, hT2, HS2.out, HC2.out⟩
      case measure => simp [intOf]; omega
    · obtain rfl : i = (chgs T).length := by omega
      go_wp2_with fail
      go_end0
      refine ⟨rfl, ?_, HCr.out⟩
      rw [List.take_length] at hTr
      exact hTr.congr rfl (fun b hb => (backTo_all (T := T) b hb).symm) (fun b hb => rfl)

end Go.Proofs.Ytgbhofneinmonaa
