/- A tally that is none; catchmentlaw08.TallyNone: the walk. -/
import Derived.Test.YtgbhofneinmonaaAwk8
import Derived.Test.YtgbhofneinmonaaRow
import Derived.Shelf.SlIterI.Nil
namespace Go.Proofs.Ytgbhofneinmonaa
open Go.RowKit Go.Maps Go.Sort Go.Shelf
set_option linter.unusedVariables false
set_option linter.unusedSimpArgs false

/-- nil, or a tally that New did not answer. -/
def NoTally (w : World) (v : Value) : Prop := v = .pointer none ∨ ∃ b, v = .pointer (some ⟨b, 0, none⟩) ∧ b < w.heap.size ∧ w.cell? ⟨b, 0, none⟩ = some (.slice none 0 0) ∧ w.cell? ⟨b, 1, none⟩ = some (.map none) ∧
  w.cell? ⟨b, 2, none⟩ = some (.int .i64 0) ∧ w.cell? ⟨b, 3, none⟩ = some (.int .i64 0)

theorem NoTally.chg {w w' : World} {v : Value} (h : NoTally w v) (c : Chg [] w w') : NoTally w' v := by
  rcases h with h | ⟨b, rfl, hl, h0, h1, h2, h3⟩
  · exact .inl h
  · refine .inr ⟨b, rfl, Nat.lt_of_lt_of_le hl c.size, ?_, ?_, ?_, ?_⟩
    · exact (c.cell (p := ⟨b, 0, none⟩) hl (by simp)).trans h0
    · exact (c.cell (p := ⟨b, 1, none⟩) hl (by simp)).trans h1
    · exact (c.cell (p := ⟨b, 2, none⟩) hl (by simp)).trans h2
    · exact (c.cell (p := ⟨b, 3, none⟩) hl (by simp)).trans h3

section
variable {w : World} {v : Value} (h : NoTally w v)
include h

set_option maxHeartbeats 400000 in
theorem not_blocks : Calls Try.prog 31 #[v] w fun e w' => e = .returned (.int .i64 0) ∧ w = w' := by
  rcases h with rfl | ⟨b, rfl, hl, h0, h1, h2, h3⟩
  all_goals
    go_enter Try.func31, Try.ntmps31
    go_wp2
    go_ret
    exact ⟨rfl, rfl⟩
set_option maxHeartbeats 400000 in
theorem not_frees : Calls Try.prog 32 #[v] w fun e w' => e = .returned (.int .i64 0) ∧ w = w' := by
  rcases h with rfl | ⟨b, rfl, hl, h0, h1, h2, h3⟩
  all_goals
    go_enter Try.func32, Try.ntmps32
    go_wp2
    go_ret
    exact ⟨rfl, rfl⟩
set_option maxHeartbeats 400000 in
theorem not_waits : Calls Try.prog 29 #[v] w fun e w' => e = .returned (.int .i64 0) ∧ w = w' := by
  rcases h with rfl | ⟨b, rfl, hl, h0, h1, h2, h3⟩
  all_goals
    go_enter Try.func29, Try.ntmps29
    go_wp2
    go_ret
    exact ⟨rfl, rfl⟩
set_option maxHeartbeats 400000 in
theorem not_has (b : Int) : Calls Try.prog 50 #[v, .int .i64 b] w fun e w' => e = .returned (.bool false) ∧ w = w' := by
  by_cases h0 : 0 ≤ b
  · have h0' : ¬ b < 0 := by omega
    go_enter Try.func50, Try.ntmps50
    go_wp2_with (go_at_call 31; refine (not_blocks h).mono ?_; rintro e w' ⟨rfl, rfl⟩)
    go_ret
    exact ⟨by show Ending.returned (.bool (decide (b < 0))) = _; rw [decide_eq_false (by omega)], rfl⟩
  · go_enter Try.func50, Try.ntmps50
    go_wp2_with fail
    go_ret
    exact ⟨rfl, rfl⟩
set_option maxHeartbeats 400000 in
theorem not_up (b : Int) : Calls Try.prog 25 #[v, .int .i64 b] w fun e w' => e = .returned (.int .i64 1) ∧ w = w' := by
  go_enter Try.func25, Try.ntmps25
  go_wp2_with (go_at_call 31; refine (not_blocks h).mono ?_; rintro e w' ⟨rfl, rfl⟩)
  go_ret
  exact ⟨rfl, rfl⟩
set_option maxHeartbeats 400000 in
theorem not_down (b : Int) : Calls Try.prog 18 #[v, .int .i64 b] w fun e w' => e = .returned (.int .i64 1) ∧ w = w' := by
  go_enter Try.func18, Try.ntmps18
  go_wp2_with (go_at_call 31; refine (not_blocks h).mono ?_; rintro e w' ⟨rfl, rfl⟩)
  go_ret
  exact ⟨rfl, rfl⟩
set_option maxHeartbeats 400000 in
theorem not_get (b : Int) : Calls Try.prog 27 #[v, .int .i64 b] w fun e w' => e = .returned (.int .i64 0) ∧ w = w' := by
  go_enter Try.func27, Try.ntmps27
  go_wp2_with (go_at_call 50; refine (not_has h b).mono ?_; rintro e w' ⟨rfl, rfl⟩)
  go_ret
  exact ⟨rfl, rfl⟩
set_option maxHeartbeats 400000 in
theorem not_free (b : Int) : Calls Try.prog 26 #[v, .int .i64 b] w fun e w' => e = .returned (.bool false) ∧ w = w' := by
  go_enter Try.func26, Try.ntmps26
  go_wp2_with (go_at_call 50; refine (not_has h b).mono ?_; rintro e w' ⟨rfl, rfl⟩)
  go_ret
  exact ⟨rfl, rfl⟩
set_option maxHeartbeats 400000 in
theorem not_keep : Calls Try.prog 28 #[v] w fun e w' => e = .returned (.tuple #[]) ∧ w = w' := by
  go_enter Try.func28, Try.ntmps28
  go_wp2_with (go_at_call 31; refine (not_blocks h).mono ?_; rintro e w' ⟨rfl, rfl⟩)
  go_end0
  exact ⟨rfl, rfl⟩

set_option maxHeartbeats 1000000 in
theorem not_changed : Calls Try.prog 40 #[v] w fun e w' => e = .returned (.slice none 0 0) ∧ Chg [] w w' := by
  rcases h with rfl | ⟨b, rfl, hl, h0, h1, h2, h3⟩
  · go_enter Try.func40, Try.ntmps40
    go_wp2
    go_ret
    exact ⟨rfl, Chg.refl _ _⟩
  · suffices hs : Calls Try.prog 40 #[.pointer (some ⟨b, 0, none⟩)] w fun e w' => e = .returned (.slice none 0 0) ∧ Below w.heap.size w w' from hs.mono fun _ _ ⟨x, y⟩ => ⟨x, Chg.of_below y⟩
    refine (callsIn_wide (n := 6)).1 ?_
    have hseq : SeqGives Fence.wide 2 Try.prog 59 #[.pointer (some ⟨w.heap.size, 0, none⟩)] encZ (fun ss : List Int => ss = []) 0 (w.alloc (.cells #[.map none] 40)) :=
      AnyZI.keys_gives_nil (ρ := Try.keysA_ren) { Try.keysA with } Fence.wide _ trivial rfl w.heap.size _ (by simp) (by simp)
    have cK : ∀ mb W, CallsIn Fence.wide 5 Try.prog 54 #[.map mb] W fun e w' => e = .returned (.func (.func 59) #[] #[.pointer (some ⟨W.heap.size, 0, none⟩)]) ∧ w' = W.alloc (.cells #[.map mb] 40) := fun mb W => AnyZI.keys_in Try.keysA Fence.wide 5 trivial rfl mb W
    have cS := AnyZI.sorted_in Try.sortedA Fence.wide 5 trivial trivial trivial trivial rfl (by omega) (sortsA _) (enters_of Try.func58 (by kernel_rfl) rfl) 59 #[.pointer (some ⟨w.heap.size, 0, none⟩)] trivial (enters_of Try.func59 (by kernel_rfl) rfl) _ 0 (Nat.zero_le _) (by omega) _ hseq
    change CallsIn _ _ Try.prog 53 _ _ _ at cS
    have hfK : Fence.wide.fn 54 := trivial
    have hfS : Fence.wide.fn 53 := trivial
    refine callsIn_of_wp Try.func40 rfl trivial ?_ rfl
    simp only [Try.ntmps40, List.size_toArray, List.length_cons, List.length_nil, Nat.reduceAdd, Nat.reduceSub, Array.replicate_succ, Array.replicate_zero, List.push_toArray, List.append_toArray, List.nil_append, List.cons_append]
    gi_wp2_with (first
      | (gi_at_call 54; refine (cK _ _).mono ?_; rintro e w' ⟨rfl, rfl⟩)
      | (gi_at_call 53; refine cS.mono ?_; rintro e w' ⟨v, ss, rfl, rfl, hrow, hnil, hb⟩; obtain rfl : v = .slice none 0 0 := hnil.2 rfl))
    go_ret
    exact ⟨rfl, ((Below.refl _ w).alloc (Nat.le_refl _) _).trans (hb.mono (by simp))⟩

set_option maxHeartbeats 400000 in
theorem not_back : Calls Try.prog 36 #[v] w fun e w' => e = .returned (.tuple #[]) ∧ Chg [] w w' := by
  go_enter Try.func36, Try.ntmps36
  go_wp2_with fail
  refine (not_changed h).mono ?_
  rintro e w1 ⟨rfl, hc⟩
  have HC := Lib.hid hc
  clear hc
  go_wp2_with fail
  go_loop [7] (fun s => s = .int .i64 0) (fun _ => 0)
  case atStart => rfl
  case round =>
    subst hrel
    go_wp2_with fail
    go_end0
    exact ⟨rfl, HC.out⟩
end

set_option maxRecDepth 20000 in
set_option maxHeartbeats 4000000 in
theorem tallyNone_walk (b : Int) (w : World) (hn : (Lit.int .i64 b).wf = true) :
    Calls Try.prog 12 #[.int .i64 b] w fun e w' => e = .returned (.bool true) ∧ Below w.heap.size w w' := by
  go_enter Try.func12, Try.ntmps12
  go_wp2_with fail
  have X0 := Lib.hid (new_block21 w (.cells #[.slice none 0 0, .map none, .int .i64 0, .int .i64 0] 42) (.cells #[.pointer none, .pointer (some ⟨w.heap.size, 0, none⟩)] 22))
  have X1 := Lib.hid (new_block2 w (.cells #[.slice none 0 0, .map none, .int .i64 0, .int .i64 0] 42) (.cells #[.pointer none, .pointer (some ⟨w.heap.size, 0, none⟩)] 22))
  have HW : Hid (Chg [] w ((w.alloc (.cells #[.slice none 0 0, .map none, .int .i64 0, .int .i64 0] 42)).alloc (.cells #[.pointer none, .pointer (some ⟨w.heap.size, 0, none⟩)] 22))) := Lib.hid (((Chg.refl _ _).alloc _).alloc _)
  go_loopw [9] (fun s wr => ∃ j : Nat, j ≤ 2 ∧ s = .int .i64 (j : Int) ∧ Chg [] ((w.alloc (.cells #[.slice none 0 0, .map none, .int .i64 0, .int .i64 0] 42)).alloc (.cells #[.pointer none, .pointer (some ⟨w.heap.size, 0, none⟩)] 22)) wr) (fun s _ => 2 - (intOf s).toNat)
  case atStart => exact ⟨0, by omega, rfl, Chg.refl _ _⟩
  case round =>
    obtain ⟨j, hj, hi, hC⟩ := hrel
    have x0 := (hC.block w.heap.size (by simp; omega) (by simp)).trans X0.out
    have x1 := (hC.block (w.heap.size + 1) (by simp) (by simp)).trans X1.out
    have c0 := cell_of_block x1 0
    have c1 := cell_of_block x1 1
    simp only [List.getElem?_toArray, List.getElem?_cons_zero, List.getElem?_cons_succ] at c0 c1
    have hz : NoTally wr (.pointer (some ⟨w.heap.size, 0, none⟩)) := .inr ⟨_, rfl, heap_lt x0, cell_of_block x0 0, cell_of_block x0 1, cell_of_block x0 2, cell_of_block x0 3⟩
    have HZ := Lib.hid hz
    have HC := Lib.hid hC
    have Hi := Lib.hid hi
    clear hi hC hz x0 x1
    have hj3 : j = 0 ∨ j = 1 ∨ j = 2 := by omega
    rcases hj3 with rfl | rfl | rfl
    · have hi := Hi.out.trans (show Value.int .i64 ((0 : Nat) : Int) = .int .i64 0 from rfl)
      clear Hi
      subst hi
      have hv : NoTally wr (.pointer none) := .inl rfl
      go_wp2_with fail
      refine (not_keep hv).mono ?_
      rintro e w' ⟨rfl, rfl⟩
      go_wp2_with fail
      refine (not_back hv).mono ?_
      rintro e w2 ⟨rfl, hc2⟩
      have hv2 := hv.chg hc2
      have HC2 := Lib.hid (HC.out.trans hc2)
      clear hc2 hv
      go_wp2_with (first
        | (go_at_call 25; refine (not_up hv2 _).mono ?_; rintro e w' ⟨rfl, rfl⟩)
        | (go_at_call 18; refine (not_down hv2 _).mono ?_; rintro e w' ⟨rfl, rfl⟩)
        | (go_at_call 26; refine (not_free hv2 _).mono ?_; rintro e w' ⟨rfl, rfl⟩)
        | (go_at_call 27; refine (not_get hv2 _).mono ?_; rintro e w' ⟨rfl, rfl⟩)
        | (go_at_call 31; refine (not_blocks hv2).mono ?_; rintro e w' ⟨rfl, rfl⟩)
        | (go_at_call 32; refine (not_frees hv2).mono ?_; rintro e w' ⟨rfl, rfl⟩)
        | (go_at_call 29; refine (not_waits hv2).mono ?_; rintro e w' ⟨rfl, rfl⟩))
      refine (not_changed hv2).mono ?_
      rintro e w3 ⟨rfl, hc3⟩
      have HC3 := Lib.hid (HC2.out.trans hc3)
      clear hc3 hv2
      go_wp2_with fail
      go_roundw
      case rel => exact ⟨1, by omega, rfl, HC3.out⟩
      case measure => simp [intOf]
    · have hi := Hi.out.trans (show Value.int .i64 ((1 : Nat) : Int) = .int .i64 1 from rfl)
      clear Hi
      subst hi
      have hv : NoTally wr (.pointer (some ⟨w.heap.size, 0, none⟩)) := HZ.out
      go_wp2_with fail
      refine (not_keep hv).mono ?_
      rintro e w' ⟨rfl, rfl⟩
      go_wp2_with fail
      refine (not_back hv).mono ?_
      rintro e w2 ⟨rfl, hc2⟩
      have hv2 := hv.chg hc2
      have HC2 := Lib.hid (HC.out.trans hc2)
      clear hc2 hv
      go_wp2_with (first
        | (go_at_call 25; refine (not_up hv2 _).mono ?_; rintro e w' ⟨rfl, rfl⟩)
        | (go_at_call 18; refine (not_down hv2 _).mono ?_; rintro e w' ⟨rfl, rfl⟩)
        | (go_at_call 26; refine (not_free hv2 _).mono ?_; rintro e w' ⟨rfl, rfl⟩)
        | (go_at_call 27; refine (not_get hv2 _).mono ?_; rintro e w' ⟨rfl, rfl⟩)
        | (go_at_call 31; refine (not_blocks hv2).mono ?_; rintro e w' ⟨rfl, rfl⟩)
        | (go_at_call 32; refine (not_frees hv2).mono ?_; rintro e w' ⟨rfl, rfl⟩)
        | (go_at_call 29; refine (not_waits hv2).mono ?_; rintro e w' ⟨rfl, rfl⟩))
      refine (not_changed hv2).mono ?_
      rintro e w3 ⟨rfl, hc3⟩
      have HC3 := Lib.hid (HC2.out.trans hc3)
      clear hc3 hv2
      go_wp2_with fail
      go_roundw
      case rel => exact ⟨2, by omega, rfl, HC3.out⟩
      case measure => simp [intOf]
    · have hi := Hi.out.trans (show Value.int .i64 ((2 : Nat) : Int) = .int .i64 2 from rfl)
      clear Hi
      subst hi
      go_wp2_with fail
      refine (awake08 _).mono ?_
      rintro e w9 ⟨rfl, hC9⟩
      go_wp2_with fail
      go_ret
      exact ⟨rfl, ((HW.out.trans HC.out).trans hC9).below (by simp)⟩

end Go.Proofs.Ytgbhofneinmonaa
