/- catchmentlaw09.PickAsked: the walk. -/
import Derived.Test.YtgbhofneinmonaaPWait
namespace Go.Proofs.Ytgbhofneinmonaa
open Go.RowKit
set_option linter.unusedVariables false

theorem ask_yes {w : World} {p t bc bk n x y : Nat} (h : PT w p t bc bk ⟨0, 0, x⟩ (Tal.new n)) (hy : x + y ≤ n) :
    Calls Try.prog 21 #[.pointer (some ⟨p, 0, none⟩), .int .i64 (y : Int)] w fun e w' => e = .returned (.int .i64 0) ∧ PT w' p t bc bk ⟨0, 0, x + y⟩ (Tal.new n) ∧ Chg [p, t, bc, bk] w w' := by
  have e1 : askE (Tal.new n) ⟨0, 0, x⟩ (y : Int) = 0 := by
    unfold askE
    rw [if_neg (by omega), roomI_new, if_neg (by simp; omega)]
  have e2 : askK (Tal.new n) ⟨0, 0, x⟩ (y : Int) = ⟨0, 0, x + y⟩ := by simp [askK, e1]
  refine (h.ask (y : Int)).mono fun e w' ⟨he, hp, hc⟩ => ⟨by rw [he, e1], by rw [e2] at hp; exact hp, hc⟩
theorem ask_full {w : World} {p t bc bk n x : Nat} {T : Tal} {y : Int} (h : PT w p t bc bk ⟨0, 0, x⟩ T) (hr : roomI T 0 = n) (hy : (n : Int) - x < y) (h0 : 0 ≤ y) :
    Calls Try.prog 21 #[.pointer (some ⟨p, 0, none⟩), .int .i64 y] w fun e w' => e = .returned (.int .i64 90) ∧ PT w' p t bc bk ⟨0, 0, x⟩ T ∧ Chg [p, t, bc, bk] w w' := by
  have e1 : askE T ⟨0, 0, x⟩ y = 90 := by
    unfold askE
    rw [if_neg (by omega), hr, if_pos (by simp; omega)]
  have e2 : askK T ⟨0, 0, x⟩ y = ⟨0, 0, x⟩ := by simp [askK, e1]
  refine (h.ask y).mono fun e w' ⟨he, hp, hc⟩ => ⟨by rw [he, e1], by rw [e2] at hp; exact hp, hc⟩
theorem ask_neg {w : World} {p t bc bk : Nat} {K : Pk} {T : Tal} (h : PT w p t bc bk K T) :
    Calls Try.prog 21 #[.pointer (some ⟨p, 0, none⟩), .int .i64 (-1)] w fun e w' => e = .returned (.int .i64 2) ∧ PT w' p t bc bk K T ∧ Chg [p, t, bc, bk] w w' := h.ask (-1)
theorem done_neg {w : World} {p t bc bk : Nat} {K : Pk} {T : Tal} (h : PT w p t bc bk K T) :
    Calls Try.prog 23 #[.pointer (some ⟨p, 0, none⟩), .int .i64 (-1)] w fun e w' => e = .returned (.int .i64 2) ∧ PT w' p t bc bk K T ∧ Chg [p, t, bc, bk] w w' := h.done (-1)
theorem done_more {w : World} {p t bc bk a : Nat} {T : Tal} (h : PT w p t bc bk ⟨0, 0, a⟩ T) :
    Calls Try.prog 23 #[.pointer (some ⟨p, 0, none⟩), .int .i64 ((a : Int) + 1)] w fun e w' => e = .returned (.int .i64 91) ∧ PT w' p t bc bk ⟨0, 0, a⟩ T ∧ Chg [p, t, bc, bk] w w' := by
  have e1 : doneE ⟨0, 0, a⟩ ((a : Int) + 1) = 91 := by
    unfold doneE
    rw [if_neg (by omega), if_pos (by simp; omega)]
  have e2 : doneK ⟨0, 0, a⟩ ((a : Int) + 1) = ⟨0, 0, a⟩ := by simp [doneK, e1]
  refine (h.done _).mono fun e w' ⟨he, hp, hc⟩ => ⟨by rw [he, e1], by rw [e2] at hp; exact hp, hc⟩
theorem done_all {w : World} {p t bc bk a : Nat} {T : Tal} (h : PT w p t bc bk ⟨0, 0, a⟩ T) :
    Calls Try.prog 23 #[.pointer (some ⟨p, 0, none⟩), .int .i64 (a : Int)] w fun e w' => e = .returned (.int .i64 0) ∧ PT w' p t bc bk ⟨0, 0, 0⟩ T ∧ Chg [p, t, bc, bk] w w' := by
  have e1 : doneE ⟨0, 0, a⟩ (a : Int) = 0 := by
    unfold doneE
    rw [if_neg (by omega), if_neg (by simp)]
  have e2 : doneK ⟨0, 0, a⟩ (a : Int) = ⟨0, 0, 0⟩ := by simp [doneK, e1]
  refine (h.done _).mono fun e w' ⟨he, hp, hc⟩ => ⟨by rw [he, e1], by rw [e2] at hp; exact hp, hc⟩
theorem ask_none {w : World} {p t bc bk : Nat} {T : Tal} (h : PT w p t bc bk ⟨0, 0, 0⟩ T) (hr : 0 ≤ roomI T 0) :
    Calls Try.prog 21 #[.pointer (some ⟨p, 0, none⟩), .int .i64 0] w fun e w' => e = .returned (.int .i64 0) ∧ PT w' p t bc bk ⟨0, 0, 0⟩ T ∧ Chg [p, t, bc, bk] w w' := by
  have e1 : askE T ⟨0, 0, 0⟩ 0 = 0 := by
    unfold askE
    rw [if_neg (by omega), if_neg (by simp; omega)]
  have e2 : askK T ⟨0, 0, 0⟩ 0 = ⟨0, 0, 0⟩ := by simp [askK, e1]
  refine (h.ask 0).mono fun e w' ⟨he, hp, hc⟩ => ⟨by rw [he, e1], by rw [e2] at hp; exact hp, hc⟩
theorem fill_room (n : Nat) : roomI (fillT n n) 0 = 0 := by
  have : (fillT n n).frees = 0 := cnt_zero fun b hb => by
    rw [fillT_free]; have hb' : b < n := hb; simp; omega
  unfold roomI; rw [this]; rfl

set_option maxRecDepth 20000 in
set_option maxHeartbeats 8000000 in
theorem pickAsked_walk (x y z : Int) (w : World) (hx : (Lit.int .u8 x).wf = true) (hy : (Lit.int .u8 y).wf = true) (hz : (Lit.int .u8 z).wf = true) :
    Calls Try.prog 4 #[.int .u8 x, .int .u8 y, .int .u8 z] w fun e w' => e = .returned (.bool true) ∧ Below w.heap.size w w' := by
  obtain ⟨hx0, hx1⟩ := bd_u8 hx
  obtain ⟨hy0, hy1⟩ := bd_u8 hy
  obtain ⟨hz0, hz1⟩ := bd_u8 hz
  clear hx hy hz
  go_enter Try.func4, Try.ntmps4
  go_wp2_with fail
  have hn1 : 2 ≤ 2 + x % 59 := by omega
  have hn2 : 2 + x % 59 ≤ 60 := by omega
  generalize 2 + x % 59 = N at *
  obtain ⟨n, rfl⟩ := Int.eq_ofNat_of_zero_le (show 0 ≤ N by omega)
  refine (tnew_ex n _ (by omega) (by omega)).mono ?_
  rintro e w1 ⟨t, bc, bk, rfl, hT, hC1, l1, l2, l3⟩
  go_wp2_with fail
  refine (pnew_ex hT 0 (by omega)).mono ?_
  rintro e w2 ⟨p, rfl, hP, hC2, l4⟩
  have L : w.heap.size ≤ p ∧ w.heap.size ≤ t ∧ w.heap.size ≤ bc ∧ w.heap.size ≤ bk := ⟨Nat.le_trans hC1.size l4, l1, l2, l3⟩
  have HC := Lib.hid (hC1.trans hC2)
  clear hT hC1 hC2 l1 l2 l3 l4
  go_wp2_with fail
  have ha0 : 0 ≤ y % ((n : Int) + 1) := Int.emod_nonneg _ (by omega)
  have ha1 : y % ((n : Int) + 1) < (n : Int) + 1 := Int.emod_lt_of_pos _ (by omega)
  generalize y % ((n : Int) + 1) = Y at *
  obtain ⟨a, rfl⟩ := Int.eq_ofNat_of_zero_le ha0
  obtain ⟨b, rfl⟩ := Int.eq_ofNat_of_zero_le hz0
  refine (ask_yes hP (show 0 + a ≤ n by omega)).mono ?_
  rw [Nat.zero_add]
  clear hP
  rintro e w3 ⟨rfl, hP3, hC3⟩
  have HC3 := Lib.hid (chg_own HC.out hC3 L)
  clear hC3 HC
  go_wp2_with fail
  refine (hP3.asked).mono ?_
  rintro e w' ⟨rfl, rfl⟩
  go_wp2_with fail
  obtain ⟨c, ev, hc, hev⟩ : ∃ (c : Nat) (ev : Int), Calls Try.prog 21 #[.pointer (some ⟨p, 0, none⟩), .int .i64 (b : Int)] w3 (fun e w' => e = .returned (.int .i64 ev) ∧ PT w' p t bc bk ⟨0, 0, c⟩ (Tal.new n) ∧ Chg [p, t, bc, bk] w3 w') ∧
      ((ev = 0 ∧ (b : Int) ≤ (n : Int) - a) ∨ (ev = 90 ∧ ¬ (b : Int) ≤ (n : Int) - a)) := by
    by_cases hb : a + b ≤ n
    · exact ⟨a + b, 0, ask_yes hP3 hb, .inl ⟨rfl, by omega⟩⟩
    · exact ⟨a, 90, ask_full hP3 (n := n) (by rw [roomI_new]; omega) (by omega) (by omega), .inr ⟨rfl, by omega⟩⟩
  clear hP3
  rcases hev with ⟨rfl, hle⟩ | ⟨rfl, hle⟩
  all_goals
    refine hc.mono ?_
    clear hc
    rintro e w4 ⟨rfl, hP4, hC4⟩
    have HC4 := Lib.hid (chg_own HC3.out hC4 L)
    clear hC4 HC3
    go_wp2_with fail
    refine (hP4.asked).mono ?_
    rintro e w' ⟨rfl, rfl⟩
    go_wp2_with fail
    go_loopw [69] (fun s wr => ∃ i : Nat, i ≤ n ∧ s = .int .i64 (i : Int) ∧ PT wr p t bc bk (fillK n i c) (fillT n i) ∧ Chg [] w wr) (fun s _ => n - (intOf s).toNat)
    case atStart => exact ⟨0, Nat.zero_le _, rfl, by rw [fillT_zero, fillK, if_neg (by omega)]; exact hP4, HC4.out⟩
    case round =>
      obtain ⟨i, hi, rfl, hPr, hCr⟩ := hrel
      have HCr := Lib.hid hCr
      clear hCr hP4 HC4
      by_cases hlt : i < n
      · go_wp2_with fail
        refine (fill_take hlt hPr).mono ?_
        rintro e w3 ⟨rfl, hP3, hC3⟩
        have HC3 := Lib.hid (chg_own HCr.out hC3 L)
        clear hC3
        go_wp2_with fail
        go_roundw
        case rel => exact ⟨i + 1, by omega, by go_num, hP3, HC3.out⟩
        case measure => simp [intOf]; omega
      · obtain rfl : i = n := by omega
        clear hlt hi
        have hk : fillK i i c = ⟨0, 0, c⟩ := by simp [fillK]
        rw [hk] at hPr
        clear hk
        have hcb : c ≤ 4096 := hPr.a
        go_wp2_with fail
        refine (hPr.asked).mono ?_
        rintro e w' ⟨rfl, rfl⟩
        go_wp2_with fail
        refine (ask_full hPr (n := 0) (by rw [fill_room]; rfl) (by omega) (by omega)).mono ?_
        clear hPr
        rintro e w3 ⟨rfl, hP3, hC3⟩
        have HC3 := Lib.hid (chg_own HCr.out hC3 L)
        clear hC3
        go_wp2_with fail
        refine (done_more hP3).mono ?_
        clear hP3
        rintro e w4 ⟨rfl, hP4, hC4⟩
        have HC4 := Lib.hid (chg_own HC3.out hC4 L)
        clear hC4
        go_wp2_with fail
        refine (done_neg hP4).mono ?_
        clear hP4
        rintro e w5 ⟨rfl, hP5, hC5⟩
        have HC5 := Lib.hid (chg_own HC4.out hC5 L)
        clear hC5
        go_wp2_with fail
        refine (ask_neg hP5).mono ?_
        clear hP5
        rintro e w6 ⟨rfl, hP6, hC6⟩
        have HC6 := Lib.hid (chg_own HC5.out hC6 L)
        clear hC6
        go_wp2_with fail
        refine (done_all hP6).mono ?_
        clear hP6
        rintro e w7 ⟨rfl, hP7, hC7⟩
        have HC7 := Lib.hid (chg_own HC6.out hC7 L)
        clear hC7
        go_wp2_with fail
        refine (hP7.asked).mono ?_
        rintro e w' ⟨rfl, rfl⟩
        go_wp2_with fail
        refine (ask_none hP7 (by rw [fill_room]; omega)).mono ?_
        clear hP7
        rintro e w8 ⟨rfl, hP8, hC8⟩
        have HC8 := Lib.hid (chg_own HC7.out hC8 L)
        clear hC8
        go_wp2_with fail
        refine (awake09 _).mono ?_
        rintro e w9 ⟨rfl, hC9⟩
        go_wp2_with fail
        go_ret
        exact ⟨rfl, (HC8.out.trans hC9).below (by simp)⟩

end Go.Proofs.Ytgbhofneinmonaa
