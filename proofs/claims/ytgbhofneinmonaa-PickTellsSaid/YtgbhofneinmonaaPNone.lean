/- A pick that is none; catchmentlaw09.PickNone: the walk. -/
import Derived.Test.YtgbhofneinmonaaAwk9
import Derived.Test.YtgbhofneinmonaaRow
namespace Go.Proofs.Ytgbhofneinmonaa
open Go.RowKit
set_option linter.unusedVariables false

/-- nil, or a pick that New did not answer. -/
def NoPick (w : World) (v : Value) : Prop := v = .pointer none ∨ ∃ b, v = .pointer (some ⟨b, 0, none⟩) ∧ w.cell? ⟨b, 0, none⟩ = some (.pointer none)

section
variable {w : World} {v : Value} (h : NoPick w v)
include h

set_option maxHeartbeats 400000 in
theorem nop_none : Calls Try.prog 49 #[v] w fun e w' => e = .returned (.bool true) ∧ w = w' := by
  rcases h with rfl | ⟨b, rfl, hc⟩
  all_goals
    go_enter Try.func49, Try.ntmps49
    go_wp2
    go_ret
    exact ⟨rfl, rfl⟩
set_option maxHeartbeats 400000 in
theorem nop_room : Calls Try.prog 19 #[v] w fun e w' => e = .returned (.int .i64 0) ∧ w = w' := by
  go_enter Try.func19, Try.ntmps19
  go_wp2_with (go_at_call 49; refine (nop_none h).mono ?_; rintro e w' ⟨rfl, rfl⟩)
  go_ret
  exact ⟨rfl, rfl⟩
set_option maxHeartbeats 400000 in
theorem nop_next : Calls Try.prog 24 #[v] w fun e w' => e = .returned (.int .i64 0) ∧ w = w' := by
  go_enter Try.func24, Try.ntmps24
  go_wp2_with (go_at_call 49; refine (nop_none h).mono ?_; rintro e w' ⟨rfl, rfl⟩)
  go_ret
  exact ⟨rfl, rfl⟩
set_option maxHeartbeats 400000 in
theorem nop_asked : Calls Try.prog 22 #[v] w fun e w' => e = .returned (.int .i64 0) ∧ w = w' := by
  go_enter Try.func22, Try.ntmps22
  go_wp2_with (go_at_call 49; refine (nop_none h).mono ?_; rintro e w' ⟨rfl, rfl⟩)
  go_ret
  exact ⟨rfl, rfl⟩
set_option maxHeartbeats 400000 in
theorem nop_ask (n : Int) : Calls Try.prog 21 #[v, .int .i64 n] w fun e w' => e = .returned (.int .i64 1) ∧ w = w' := by
  go_enter Try.func21, Try.ntmps21
  go_wp2_with (go_at_call 49; refine (nop_none h).mono ?_; rintro e w' ⟨rfl, rfl⟩)
  go_ret
  exact ⟨rfl, rfl⟩
set_option maxHeartbeats 400000 in
theorem nop_done (n : Int) : Calls Try.prog 23 #[v, .int .i64 n] w fun e w' => e = .returned (.int .i64 1) ∧ w = w' := by
  go_enter Try.func23, Try.ntmps23
  go_wp2_with (go_at_call 49; refine (nop_none h).mono ?_; rintro e w' ⟨rfl, rfl⟩)
  go_ret
  exact ⟨rfl, rfl⟩
set_option maxHeartbeats 400000 in
theorem nop_take : Calls Try.prog 17 #[v] w fun e w' => e = .returned (.tuple #[.int .i64 0, .int .i64 1]) ∧ w = w' := by
  go_enter Try.func17, Try.ntmps17
  go_wp2_with (first | go_step3 | (go_at_call 49; refine (nop_none h).mono ?_; rintro e w' ⟨rfl, rfl⟩))
  rw [Exit.noGoto_ret]
  go_ret2
  exact ⟨rfl, rfl⟩
end

set_option maxHeartbeats 400000 in
theorem blocks_zero {w : World} {t : Nat} (c0 : w.cell? ⟨t, 0, none⟩ = some (.slice none 0 0)) :
    Calls Try.prog 31 #[.pointer (some ⟨t, 0, none⟩)] w fun e w' => e = .returned (.int .i64 0) ∧ w = w' := by
  go_enter Try.func31, Try.ntmps31
  go_wp2
  go_ret
  exact ⟨rfl, rfl⟩

set_option maxHeartbeats 400000 in
theorem pnew_zero {w : World} {t : Nat} (c0 : w.cell? ⟨t, 0, none⟩ = some (.slice none 0 0)) (n : Int) :
    Calls Try.prog 16 #[.pointer (some ⟨t, 0, none⟩), .int .i64 n] w fun e w' => e = .returned (.tuple #[.pointer none, .int .i64 1]) ∧ w = w' := by
  go_enter Try.func16, Try.ntmps16
  go_wp2_with (go_at_call 31; refine (blocks_zero c0).mono ?_; rintro e w' ⟨rfl, rfl⟩)
  go_ret2
  exact ⟨rfl, rfl⟩

set_option maxRecDepth 20000 in
set_option maxHeartbeats 4000000 in
theorem pickNone_walk (n : Int) (w : World) (hn : (Lit.int .i64 n).wf = true) :
    Calls Try.prog 5 #[.int .i64 n] w fun e w' => e = .returned (.bool true) ∧ Below w.heap.size w w' := by
  go_enter Try.func5, Try.ntmps5
  go_wp2_with fail
  have X0 := cell_of_block (new_block21 w (.cells #[.pointer none, .int .i64 0, .int .i64 0, .int .i64 0] 37) (.cells #[.pointer none, .pointer (some ⟨w.heap.size, 0, none⟩)] 26)) 0
  have HC : Hid (Chg [] w ((w.alloc (.cells #[.pointer none, .int .i64 0, .int .i64 0, .int .i64 0] 37)).alloc (.cells #[.pointer none, .pointer (some ⟨w.heap.size, 0, none⟩)] 26))) := Lib.hid (((Chg.refl _ _).alloc _).alloc _)
  go_loop [15] (fun s => ∃ j : Nat, j ≤ 2 ∧ s = .int .i64 (j : Int)) (fun s => 2 - (intOf s).toNat)
  case atStart => exact ⟨0, by omega, rfl⟩
  case round =>
    obtain ⟨j, hj, hi⟩ := hrel
    have Hi := Lib.hid hi
    clear hi
    have hj3 : j = 0 ∨ j = 1 ∨ j = 2 := by omega
    rcases hj3 with rfl | rfl | rfl
    · have hi := Hi.out.trans (show Value.int .i64 ((0 : Nat) : Int) = .int .i64 0 from rfl)
      clear Hi
      subst hi
      have hv : NoPick ((w.alloc (.cells #[.pointer none, .int .i64 0, .int .i64 0, .int .i64 0] 37)).alloc (.cells #[.pointer none, .pointer (some ⟨w.heap.size, 0, none⟩)] 26)) (.pointer none) := .inl rfl
      go_wp2_with
          (first
            | (go_at_call 17; refine (nop_take hv).mono ?_; rintro e w' ⟨rfl, rfl⟩)
            | (go_at_call 21; refine (nop_ask hv _).mono ?_; rintro e w' ⟨rfl, rfl⟩)
            | (go_at_call 23; refine (nop_done hv _).mono ?_; rintro e w' ⟨rfl, rfl⟩)
            | (go_at_call 19; refine (nop_room hv).mono ?_; rintro e w' ⟨rfl, rfl⟩)
            | (go_at_call 24; refine (nop_next hv).mono ?_; rintro e w' ⟨rfl, rfl⟩)
            | (go_at_call 22; refine (nop_asked hv).mono ?_; rintro e w' ⟨rfl, rfl⟩))
      go_round
      case rel => exact ⟨1, by omega, rfl⟩
      case measure => simp [intOf]
    · have hi := Hi.out.trans (show Value.int .i64 ((1 : Nat) : Int) = .int .i64 1 from rfl)
      clear Hi
      subst hi
      have hv : NoPick ((w.alloc (.cells #[.pointer none, .int .i64 0, .int .i64 0, .int .i64 0] 37)).alloc (.cells #[.pointer none, .pointer (some ⟨w.heap.size, 0, none⟩)] 26)) (.pointer (some ⟨w.heap.size, 0, none⟩)) := .inr ⟨_, rfl, X0⟩
      go_wp2_with
          (first
            | (go_at_call 17; refine (nop_take hv).mono ?_; rintro e w' ⟨rfl, rfl⟩)
            | (go_at_call 21; refine (nop_ask hv _).mono ?_; rintro e w' ⟨rfl, rfl⟩)
            | (go_at_call 23; refine (nop_done hv _).mono ?_; rintro e w' ⟨rfl, rfl⟩)
            | (go_at_call 19; refine (nop_room hv).mono ?_; rintro e w' ⟨rfl, rfl⟩)
            | (go_at_call 24; refine (nop_next hv).mono ?_; rintro e w' ⟨rfl, rfl⟩)
            | (go_at_call 22; refine (nop_asked hv).mono ?_; rintro e w' ⟨rfl, rfl⟩))
      go_round
      case rel => exact ⟨2, by omega, rfl⟩
      case measure => simp [intOf]
    · have hi := Hi.out.trans (show Value.int .i64 ((2 : Nat) : Int) = .int .i64 2 from rfl)
      clear Hi
      subst hi
      go_wp2_with fail
      refine (pnew_nil n _).mono ?_
      rintro e w' ⟨rfl, rfl⟩
      go_wp2_with fail
      refine (pnew_zero ?_ n).mono ?_
      · have hz := new_block ((w.alloc (.cells #[.pointer none, .int .i64 0, .int .i64 0, .int .i64 0] 37)).alloc (.cells #[.pointer none, .pointer (some ⟨w.heap.size, 0, none⟩)] 26)) (.cells #[.slice none 0 0, .map none, .int .i64 0, .int .i64 0] 42)
        simp only [size_alloc'] at hz
        exact cell_of_block hz 0
      rintro e w' ⟨rfl, rfl⟩
      go_wp2_with fail
      refine (awake09 _).mono ?_
      rintro e w9 ⟨rfl, hC9⟩
      go_wp2_with fail
      go_ret
      exact ⟨rfl, ((HC.out.alloc _).trans hC9).below (by simp)⟩

end Go.Proofs.Ytgbhofneinmonaa
