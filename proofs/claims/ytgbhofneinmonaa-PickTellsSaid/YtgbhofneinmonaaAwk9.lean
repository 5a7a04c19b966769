/- catchmentlaw09.awake: the chapter's examples are as they should be. -/
import Derived.Test.YtgbhofneinmonaaPickP
namespace Go.Proofs.Ytgbhofneinmonaa
open Go.RowKit

theorem chg_own {w a b : World} {p t bc bk : Nat} (h : Chg [] w a) (k : Chg [p, t, bc, bk] a b) (l : w.heap.size ≤ p ∧ w.heap.size ≤ t ∧ w.heap.size ≤ bc ∧ w.heap.size ≤ bk) : Chg [] w b := by
  obtain ⟨l1, l2, l3, l4⟩ := l
  refine h.then k fun i hi => .inr ?_
  simp only [List.mem_cons, List.not_mem_nil, or_false] at hi
  rcases hi with rfl | rfl | rfl | rfl <;> assumption

namespace Awk9
variable {w : World} {p t bc bk : Nat}
theorem s1 (h : PT w p t bc bk ⟨2, 2, 0⟩ (Tal.new 5)) : Calls Try.prog 19 #[.pointer (some ⟨p, 0, none⟩)] w fun e w' => e = .returned (.int .i64 3) ∧ w = w' := h.room
theorem s2 (h : PT w p t bc bk ⟨2, 2, 0⟩ (Tal.new 5)) : Calls Try.prog 21 #[.pointer (some ⟨p, 0, none⟩), .int .i64 1] w fun e w' => e = .returned (.int .i64 0) ∧ PT w' p t bc bk ⟨2, 2, 1⟩ (Tal.new 5) ∧ Chg [p, t, bc, bk] w w' := h.ask 1
theorem s3 (h : PT w p t bc bk ⟨2, 2, 1⟩ (Tal.new 5)) : Calls Try.prog 22 #[.pointer (some ⟨p, 0, none⟩)] w fun e w' => e = .returned (.int .i64 1) ∧ w = w' := h.asked
theorem s4 (h : PT w p t bc bk ⟨2, 2, 1⟩ (Tal.new 5)) : Calls Try.prog 21 #[.pointer (some ⟨p, 0, none⟩), .int .i64 3] w fun e w' => e = .returned (.int .i64 90) ∧ PT w' p t bc bk ⟨2, 2, 1⟩ (Tal.new 5) ∧ Chg [p, t, bc, bk] w w' := h.ask 3
theorem s5 (h : PT w p t bc bk ⟨2, 2, 1⟩ (Tal.new 5)) : Calls Try.prog 23 #[.pointer (some ⟨p, 0, none⟩), .int .i64 2] w fun e w' => e = .returned (.int .i64 91) ∧ PT w' p t bc bk ⟨2, 2, 1⟩ (Tal.new 5) ∧ Chg [p, t, bc, bk] w w' := h.done 2
theorem s6 (h : PT w p t bc bk ⟨2, 2, 1⟩ (Tal.new 5)) : Calls Try.prog 17 #[.pointer (some ⟨p, 0, none⟩)] w fun e w' => e = .returned (.tuple #[.int .i64 2, .int .i64 0]) ∧ PT w' p t bc bk ⟨2, 3, 1⟩ ((Tal.new 5).set 2 1) ∧ Chg [p, t, bc, bk] w w' := h.take
theorem s7 (h : PT w p t bc bk ⟨2, 3, 1⟩ ((Tal.new 5).set 2 1)) : Calls Try.prog 17 #[.pointer (some ⟨p, 0, none⟩)] w fun e w' => e = .returned (.tuple #[.int .i64 3, .int .i64 0]) ∧ PT w' p t bc bk ⟨2, 4, 1⟩ (((Tal.new 5).set 2 1).set 3 1) ∧ Chg [p, t, bc, bk] w w' := h.take
theorem s8 (h : PT w p t bc bk ⟨2, 4, 1⟩ (((Tal.new 5).set 2 1).set 3 1)) : Calls Try.prog 24 #[.pointer (some ⟨p, 0, none⟩)] w fun e w' => e = .returned (.int .i64 4) ∧ w = w' := h.next
theorem s9 (h : PT w p t bc bk ⟨2, 4, 1⟩ (((Tal.new 5).set 2 1).set 3 1)) : Calls Try.prog 18 #[.pointer (some ⟨t, 0, none⟩), .int .i64 2] w fun e w' => e = .returned (.int .i64 0) ∧ PT w' p t bc bk ⟨2, 4, 1⟩ ((((Tal.new 5).set 2 1).set 3 1).set 2 0) ∧ Chg [p, t, bc, bk] w w' := h.down 2
theorem s10 (h : PT w p t bc bk ⟨2, 4, 1⟩ ((((Tal.new 5).set 2 1).set 3 1).set 2 0)) : Calls Try.prog 19 #[.pointer (some ⟨p, 0, none⟩)] w fun e w' => e = .returned (.int .i64 2) ∧ w = w' := h.room
theorem s11 (h : PT w p t bc bk ⟨2, 4, 1⟩ ((((Tal.new 5).set 2 1).set 3 1).set 2 0)) : Calls Try.prog 17 #[.pointer (some ⟨p, 0, none⟩)] w fun e w' => e = .returned (.tuple #[.int .i64 4, .int .i64 0]) ∧ PT w' p t bc bk ⟨2, 2, 1⟩ (((((Tal.new 5).set 2 1).set 3 1).set 2 0).set 4 1) ∧ Chg [p, t, bc, bk] w w' := h.take
theorem s12 (h : PT w p t bc bk ⟨2, 2, 1⟩ (((((Tal.new 5).set 2 1).set 3 1).set 2 0).set 4 1)) : Calls Try.prog 17 #[.pointer (some ⟨p, 0, none⟩)] w fun e w' => e = .returned (.tuple #[.int .i64 2, .int .i64 0]) ∧ PT w' p t bc bk ⟨2, 3, 1⟩ ((((((Tal.new 5).set 2 1).set 3 1).set 2 0).set 4 1).set 2 1) ∧ Chg [p, t, bc, bk] w w' := h.take
theorem s13 (h : PT w p t bc bk ⟨2, 3, 1⟩ ((((((Tal.new 5).set 2 1).set 3 1).set 2 0).set 4 1).set 2 1)) : Calls Try.prog 17 #[.pointer (some ⟨p, 0, none⟩)] w fun e w' => e = .returned (.tuple #[.int .i64 0, .int .i64 90]) ∧ PT w' p t bc bk ⟨2, 3, 1⟩ ((((((Tal.new 5).set 2 1).set 3 1).set 2 0).set 4 1).set 2 1) ∧ Chg [p, t, bc, bk] w w' := h.take
end Awk9

set_option maxRecDepth 20000 in
set_option maxHeartbeats 4000000 in
theorem awake09 (w : World) : Calls Try.prog 20 #[] w fun e w' => e = .returned (.bool true) ∧ Chg [] w w' := by
  go_enter Try.func20, Try.ntmps20
  go_wp2_with fail
  refine (tnew_ex 5 _ (by decide) (by decide)).mono ?_
  rintro e w1 ⟨t, bc, bk, rfl, hT, hC1, l1, l2, l3⟩
  go_wp2_with fail
  refine (pnew_ex hT 2 (by decide)).mono ?_
  rintro e w2 ⟨p, rfl, hP, hC2, l4⟩
  have L : w.heap.size ≤ p ∧ w.heap.size ≤ t ∧ w.heap.size ≤ bc ∧ w.heap.size ≤ bk := ⟨Nat.le_trans hC1.size l4, l1, l2, l3⟩
  have HC := Lib.hid (hC1.trans hC2)
  clear hT hC1 hC2 l1 l2 l3 l4
  go_wp2_with fail
  refine (Awk9.s1 hP).mono ?_
  rintro e w' ⟨rfl, rfl⟩
  go_wp2_with fail
  refine (Awk9.s2 hP).mono ?_
  clear hP
  rintro e w3 ⟨rfl, hP, hc⟩
  have HC := Lib.hid (chg_own HC.out hc L)
  clear hc
  go_wp2_with fail
  refine (Awk9.s3 hP).mono ?_
  rintro e w' ⟨rfl, rfl⟩
  go_wp2_with fail
  refine (Awk9.s4 hP).mono ?_
  clear hP
  rintro e w4 ⟨rfl, hP, hc⟩
  have HC := Lib.hid (chg_own HC.out hc L)
  clear hc
  go_wp2_with fail
  refine (Awk9.s5 hP).mono ?_
  clear hP
  rintro e w5 ⟨rfl, hP, hc⟩
  have HC := Lib.hid (chg_own HC.out hc L)
  clear hc
  go_wp2_with fail
  refine (Awk9.s6 hP).mono ?_
  clear hP
  rintro e w6 ⟨rfl, hP, hc⟩
  have HC := Lib.hid (chg_own HC.out hc L)
  clear hc
  go_wp2_with fail
  refine (Awk9.s7 hP).mono ?_
  clear hP
  rintro e w7 ⟨rfl, hP, hc⟩
  have HC := Lib.hid (chg_own HC.out hc L)
  clear hc
  go_wp2_with fail
  refine (Awk9.s8 hP).mono ?_
  rintro e w' ⟨rfl, rfl⟩
  go_wp2_with fail
  refine (Awk9.s9 hP).mono ?_
  clear hP
  rintro e w8 ⟨rfl, hP, hc⟩
  have HC := Lib.hid (chg_own HC.out hc L)
  clear hc
  go_wp2_with fail
  refine (Awk9.s10 hP).mono ?_
  rintro e w' ⟨rfl, rfl⟩
  go_wp2_with fail
  refine (Awk9.s11 hP).mono ?_
  clear hP
  rintro e w9 ⟨rfl, hP, hc⟩
  have HC := Lib.hid (chg_own HC.out hc L)
  clear hc
  go_wp2_with fail
  refine (Awk9.s12 hP).mono ?_
  clear hP
  rintro e w10 ⟨rfl, hP, hc⟩
  have HC := Lib.hid (chg_own HC.out hc L)
  clear hc
  go_wp2_with fail
  refine (Awk9.s13 hP).mono ?_
  clear hP
  rintro e w11 ⟨rfl, hP, hc⟩
  have HC := Lib.hid (chg_own HC.out hc L)
  clear hc
  go_wp2_with fail
  go_ret
  exact ⟨rfl, HC.out⟩

end Go.Proofs.Ytgbhofneinmonaa
