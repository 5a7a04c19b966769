/- Package leaf: numbers in memory; the body of a node; each, as Encode calls it. -/
import Derived.Test.YtjceoheiiohfcaaOpenW
import Derived.Deep.RegionHeld3
namespace Go.Proofs.Ytjceoheiiohfcaa
open Go.RowKit
set_option linter.unusedVariables false
set_option linter.unusedSimpArgs false

/-- Numbers that stand in memory. -/
def NumsAt (w : World) (b off n : Nat) (f : Nat → Nat) : Prop := ∀ i, i < n → w.cell? ⟨b, off + i, none⟩ = some (.int .u64 (f i : Int)) ∧ f i < 18446744073709551616
theorem NumsAt.chg {w w' : World} {b off n : Nat} {f : Nat → Nat} {L : List Nat} (h : NumsAt w b off n f) (c : Chg L w w') (hb : b ∉ L) : NumsAt w' b off n f := fun i hi => by
  obtain ⟨h1, h2⟩ := h i hi
  exact ⟨(c.cell (p := ⟨b, off + i, none⟩) (World.block_lt_of_cell? w _ h1) hb).trans h1, h2⟩

/-- A slice of numbers: nil, or numbers in memory, in none of the blocks of A. -/
def NumsIn (A : List Nat) (w : World) (v : Value) (n : Nat) (f : Nat → Nat) : Prop :=
  ((∃ a c, v = .slice a 0 c ∧ c ≤ maxLen ∧ (a = none → c = 0)) ∧ n = 0) ∨ ∃ b off cap, v = .slice (some ⟨b, off, none⟩) n cap ∧ n ≤ cap ∧ cap ≤ maxLen ∧ b < w.heap.size ∧ b ∉ A ∧ NumsAt w b off n f
theorem NumsIn.chg {A L : List Nat} {w w' : World} {v : Value} {n : Nat} {f : Nat → Nat} (h : NumsIn A w v n f) (c : Chg L w w') (hL : ∀ k, k ∈ L → k ∈ A ∨ w.heap.size ≤ k) : NumsIn A w' v n f := by
  rcases h with h | ⟨b, off, cap, h1, h2, h3, h4, h5, h6⟩
  · exact .inl h
  · exact .inr ⟨b, off, cap, h1, h2, h3, Nat.lt_of_lt_of_le h4 c.size, h5, h6.chg c fun hm => by rcases hL b hm with h | h; exact h5 h; omega⟩
theorem NumsIn.more {A B : List Nat} {w : World} {v : Value} {n : Nat} {f : Nat → Nat} (h : NumsIn A w v n f) (hB : ∀ k, k ∈ B → k ∈ A ∨ w.heap.size ≤ k) : NumsIn B w v n f := by
  rcases h with h | ⟨b, off, cap, h1, h2, h3, h4, h5, h6⟩
  · exact .inl h
  · exact .inr ⟨b, off, cap, h1, h2, h3, h4, fun hm => by rcases hB b hm with h | h; exact h5 h; omega, h6⟩
theorem NumsIn.len {A : List Nat} {w : World} {v : Value} {n : Nat} {f : Nat → Nat} (h : NumsIn A w v n f) : ∃ a cap, v = .slice a n cap := by
  rcases h with ⟨⟨a, c, h, _⟩, rfl⟩ | ⟨b, off, cap, h, _⟩
  · exact ⟨a, c, h⟩
  · exact ⟨_, _, h⟩

/-- The body of a node's page, with the first k pairs. -/
def bodyF (n : Nat) (keys vals : Nat → Nat) (k i : Nat) : Nat :=
  if i = 0 then n else if i < 1 + 16 * k then (if (i - 1) % 16 < 8 then byteAt (keys ((i - 1) / 16)) (7 - (i - 1) % 16) else byteAt (vals ((i - 1) / 16)) (15 - (i - 1) % 16)) else 0
theorem bodyF_step (n : Nat) (keys vals : Nat → Nat) (k : Nat) : putF (putF (bodyF n keys vals k) (1 + 16 * k) 8 (keys k)) (1 + 16 * k + 8) 8 (vals k) = bodyF n keys vals (k + 1) := by
  funext i
  unfold putF
  by_cases h2 : 1 + 16 * k + 8 ≤ i ∧ i < 1 + 16 * k + 8 + 8
  · rw [if_pos h2]
    unfold bodyF
    have e1 : (i - 1) / 16 = k := by omega
    have e2 : (i - 1) % 16 = i - 1 - 16 * k := by omega
    rw [if_neg (by omega), if_pos (by omega), e1, e2, if_neg (by omega)]
    congr 1
    omega
  · rw [if_neg h2]
    by_cases h1 : 1 + 16 * k ≤ i ∧ i < 1 + 16 * k + 8
    · rw [if_pos h1]
      unfold bodyF
      have e1 : (i - 1) / 16 = k := by omega
      have e2 : (i - 1) % 16 = i - 1 - 16 * k := by omega
      rw [if_neg (by omega), if_pos (by omega), e1, e2, if_pos (by omega)]
      congr 1
      omega
    · rw [if_neg h1]
      unfold bodyF
      by_cases h0 : i = 0
      · rw [if_pos h0, if_pos h0]
      · rw [if_neg h0, if_neg h0]
        by_cases h3 : i < 1 + 16 * k
        · rw [if_pos h3, if_pos (show i < 1 + 16 * (k + 1) by omega)]
        · rw [if_neg h3, if_neg (show ¬ i < 1 + 16 * (k + 1) by omega)]
theorem byteAt_le (v k : Nat) : byteAt v k ≤ 255 := by unfold byteAt; omega
theorem bodyF_le {n : Nat} (keys vals : Nat → Nat) (k i : Nat) (hn : n ≤ 255) : bodyF n keys vals k i ≤ 255 := by
  unfold bodyF
  split
  · exact hn
  · split
    · split <;> exact byteAt_le _ _
    · omega

set_option maxRecDepth 20000 in
set_option maxHeartbeats 1000000 in
theorem enc1_at {w : World} {bb g N nb no v : Nat} {f : Nat → Nat} (hbb : w.cell? ⟨bb, 0, none⟩ = some (.slice (some ⟨g, 0, none⟩) N N)) (hb : w.heap[g]? = some (.cells (u8s N f) 5 (0, 0))) (at' : Nat) (hat : at' + 8 ≤ N) (hN : N ≤ 100000)
    (hv : w.cell? ⟨nb, no, none⟩ = some (.int .u64 (v : Int))) (hlt : v < 18446744073709551616) :
    Calls Try.prog 24 #[.int .i64 (at' : Int), .pointer (some ⟨nb, no, none⟩), .pointer (some ⟨bb, 0, none⟩)] w fun e w' =>
      e = .returned (.tuple #[]) ∧ w'.heap[g]? = some (.cells (u8s N (putF f at' 8 v)) 5 (0, 0)) ∧ Chg [g] w w' := by
  have HB : Hid (w.drew.heap[g]? = some (.cells (u8s N f) 5 (0, 0))) := Lib.hid hb
  have cP := put_at HB.out 0 N N at' 8 v (by omega) hN (by omega) (by omega) (by omega) (by rw [show (256 : Nat) ^ 8 = 18446744073709551616 by decide]; exact hlt)
  rw [Nat.zero_add] at cP
  clear hb
  go_enter Try.func24, Try.ntmps24
  go_wp2_with fail
  go_region_with (go_at_call 25; refine cP.mono ?_; rintro e w2 ⟨rfl, hB2, hC2⟩)
  all_goals
    go_wp2_with fail
    go_end0
    exact ⟨rfl, hB2, (Chg.drew (Chg.refl _ _)).trans hC2⟩

end Go.Proofs.Ytjceoheiiohfcaa
