/- slices.Sort at []uint64, of at most 12 numbers. -/
import Derived.Test.YtjceoheiiohfcaaIns64
namespace Go.Proofs.Ytjceoheiiohfcaa
open Go.RowKit
set_option linter.unusedVariables false
set_option linter.unusedSimpArgs false

def SomeI (w : World) (e : Ending) (w' : World) : Prop := ∃ l : Int, e = .returned (.int .i64 l) ∧ w = w'

set_option maxRecDepth 20000 in
set_option maxHeartbeats 1000000 in
theorem len64_at (n : Nat) (w : World) (hn : n ≤ 12) : Calls Try.prog 55 #[.int .u64 (n : Int)] w (SomeI w) := by
  have h : n = 0 ∨ n = 1 ∨ n = 2 ∨ n = 3 ∨ n = 4 ∨ n = 5 ∨ n = 6 ∨ n = 7 ∨ n = 8 ∨ n = 9 ∨ n = 10 ∨ n = 11 ∨ n = 12 := by omega
  rcases h with rfl | rfl | rfl | rfl | rfl | rfl | rfl | rfl | rfl | rfl | rfl | rfl | rfl
  all_goals
    go_enter Try.func55, Try.ntmps55
    go_wp2
    go_ret
    exact ⟨_, rfl, rfl⟩

set_option maxRecDepth 20000 in
set_option maxHeartbeats 1000000 in
theorem len_at (n : Nat) (w : World) (hn : n ≤ 12) : Calls Try.prog 44 #[.int .u64 (n : Int)] w (SomeI w) := by
  go_enter Try.func44, Try.ntmps44
  go_wp2_with (go_at_call 55; refine (len64_at n _ hn).mono ?_; rintro e w' ⟨l, rfl, rfl⟩)
  go_ret
  exact ⟨_, rfl, rfl⟩

set_option maxRecDepth 20000 in
set_option maxHeartbeats 2000000 in
theorem pdq_at {w : World} {g n c : Nat} {f : Nat → Nat} (h : Row64 w g n f) (hn : n ≤ 12) (hc : n ≤ c) (l : Int) :
    Calls Try.prog 43 #[.slice (some ⟨g, 0, none⟩) n c, .int .i64 0, .int .i64 (n : Int), .int .i64 l] w fun e w' =>
      e = .returned (.tuple #[]) ∧ ∃ f', Row64 w' g n f' ∧ sortedTo f' n ∧ (Good f' n ↔ Good f n) ∧ Chg [g] w w' := by
  have H := Lib.hid h
  have hnI : (n : Int) ≤ 12 := by omega
  clear h
  go_enter Try.func43, Try.ntmps43
  go_wp2_with fail
  refine wp_loop_rounds 1 ?_
  rw [rounds_succ]
  go_wp2_with fail
  refine (ins_at H.out hn hc).mono ?_
  rintro e w1 ⟨rfl, f', h1, h2, h3, h4⟩
  have HH := Lib.hid (And.intro h1 (And.intro h2 (And.intro h3 h4)))
  clear h1 h2 h3 h4
  go_wp2_with fail
  exact bodyPost_ret (v := .tuple #[]) (by simp [results, Try.results43, go_sem]) rfl ⟨rfl, f', HH.out.1, HH.out.2.1, HH.out.2.2.1, HH.out.2.2.2⟩

set_option maxRecDepth 20000 in
set_option maxHeartbeats 2000000 in
theorem sort_at {w : World} {g n c : Nat} {f : Nat → Nat} (h : Row64 w g n f) (hn : n ≤ 12) (hc : n ≤ c) :
    Calls Try.prog 40 #[.slice (some ⟨g, 0, none⟩) n c] w fun e w' =>
      e = .returned (.tuple #[]) ∧ ∃ f', Row64 w' g n f' ∧ sortedTo f' n ∧ (Good f' n ↔ Good f n) ∧ Chg [g] w w' := by
  have H := Lib.hid h
  clear h
  go_enter Try.func40, Try.ntmps40
  go_wp2_with fail
  refine (len_at n _ hn).mono ?_
  rintro e w' ⟨l, rfl, rfl⟩
  go_wp2_with fail
  refine (pdq_at H.out hn hc l).mono ?_
  rintro e w1 ⟨rfl, f', h1, h2, h3, h4⟩
  have HH := Lib.hid (And.intro h1 (And.intro h2 (And.intro h3 h4)))
  clear h1 h2 h3 h4
  go_wp2_with fail
  go_end0
  exact ⟨rfl, f', HH.out.1, HH.out.2.1, HH.out.2.2.1, HH.out.2.2.2⟩

end Go.Proofs.Ytjceoheiiohfcaa
