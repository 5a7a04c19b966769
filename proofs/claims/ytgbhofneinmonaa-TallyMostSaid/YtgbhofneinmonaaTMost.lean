/- catchmentlaw08.TallyMost: the walk. -/
import Derived.Test.YtgbhofneinmonaaAwk8
import Derived.Test.YtgbhofneinmonaaRow
namespace Go.Proofs.Ytgbhofneinmonaa
open Go.RowKit
set_option linter.unusedVariables false
set_option linter.unusedSimpArgs false

set_option maxRecDepth 20000 in
set_option maxHeartbeats 4000000 in
theorem tallyMost_walk (x y : Int) (w : World) (hx : (Lit.int .u8 x).wf = true) (hy : (Lit.int .u8 y).wf = true) :
    Calls Try.prog 11 #[.int .u8 x, .int .u8 y] w fun e w' => e = .returned (.bool true) ∧ Below w.heap.size w w' := by
  obtain ⟨hx0, hx1⟩ := bd_u8 hx
  obtain ⟨hy0, hy1⟩ := bd_u8 hy
  clear hx hy
  go_enter Try.func11, Try.ntmps11
  go_wp2_with fail
  have hn1 : 1 ≤ 1 + x := by omega
  have hn2 : 1 + x ≤ 256 := by omega
  have hf0 : 0 ≤ y % (1 + x) := Int.emod_nonneg _ (by omega)
  have hf1 : y % (1 + x) < 1 + x := Int.emod_lt_of_pos _ (by omega)
  generalize y % (1 + x) = F at *
  generalize 1 + x = N at *
  obtain ⟨n, rfl⟩ := Int.eq_ofNat_of_zero_le (show 0 ≤ N by omega)
  obtain ⟨b, rfl⟩ := Int.eq_ofNat_of_zero_le hf0
  have hb : b < n := by omega
  refine (tnew_ex n _ (by omega) (by omega)).mono ?_
  rintro e w1 ⟨t, bc, bk, rfl, hT0, hC1, l1, l2, l3⟩
  have hT : TallyAt w1 t bc bk (oneT n b 0) := by rw [oneT_zero]; exact hT0
  have L : w.heap.size ≤ t ∧ w.heap.size ≤ bc ∧ w.heap.size ≤ bk := ⟨l1, l2, l3⟩
  have HC := Lib.hid hC1
  clear hC1 l1 l2 l3 hT0
  go_wp2_with fail
  refine (one_none hb hT rfl).mono ?_
  clear hT
  rintro e w2 ⟨rfl, hT, hc⟩
  have HC2 := Lib.hid (chg_own3 HC.out hc L)
  clear hc HC
  go_wp2_with fail
  go_loopw [29] (fun s wr => ∃ i : Nat, i ≤ 65535 ∧ s = .int .i64 (i : Int) ∧ TallyAt wr t bc bk (oneT n b i) ∧ Chg [] w wr) (fun s _ => 65535 - (intOf s).toNat)
  case atStart => exact ⟨0, Nat.zero_le _, rfl, hT, HC2.out⟩
  case round =>
    obtain ⟨i, hi, rfl, hTr, hCr⟩ := hrel
    have HCr := Lib.hid hCr
    clear hCr hT HC2
    by_cases hlt : i < 65535
    · have c1 := one_up hb hTr hlt
      have hltI : (i : Int) < 65535 := by omega
      have Hlt := Lib.hid hlt
      have Hi := Lib.hid hi
      clear hlt hi hTr
      go_wp2_with fail
      refine c1.mono ?_
      clear c1
      rintro e w3 ⟨rfl, hT3, hC3⟩
      have HC3 := Lib.hid (chg_own3 HCr.out hC3 L)
      clear hC3
      go_wp2_with fail
      go_roundw
      case rel => exact ⟨i + 1, Hlt.out, by go_num, hT3, HC3.out⟩
      case measure =>
        have := Hlt.out
        simp only [intOf]
        omega
    · have hi6 : i = 65535 := by omega
      have c1 := one_full hb hTr hi6
      have Hi6 := Lib.hid hi6
      have hltI : ¬ (i : Int) < 65535 := by omega
      clear hi6 hi hlt
      go_wp2_with fail
      refine c1.mono ?_
      clear c1 hTr
      rintro e w3 ⟨rfl, hT3, hC3⟩
      have HC3 := Lib.hid (chg_own3 HCr.out hC3 L)
      have hg := one_get hb hT3
      rw [Hi6.out] at hg
      clear hC3
      go_wp2_with fail
      refine hg.mono ?_
      rintro e w' ⟨rfl, rfl⟩
      clear hg
      go_wp2_with fail
      refine (one_frees hb hT3 (by rw [Hi6.out]; decide)).mono ?_
      rintro e w' ⟨rfl, rfl⟩
      go_wp2_with fail
      refine (out_up hT3).mono ?_
      clear hT3
      rintro e w4 ⟨rfl, hT4, hC4⟩
      have HC4 := Lib.hid (chg_own3 HC3.out hC4 L)
      clear hC4
      go_wp2_with fail
      refine (out_down hT4).mono ?_
      clear hT4
      rintro e w5 ⟨rfl, hT5, hC5⟩
      have HC5 := Lib.hid (chg_own3 HC4.out hC5 L)
      clear hC5
      rw [Hi6.out] at hT5
      go_wp2_with fail
      go_loopw [64] (fun s wr => ∃ j : Nat, j ≤ 65535 ∧ s = .int .i64 (j : Int) ∧ TallyAt wr t bc bk (oneT n b (65535 - j)) ∧ Chg [] w wr) (fun s _ => 65535 - (intOf s).toNat)
      case atStart => exact ⟨0, Nat.zero_le _, rfl, hT5, HC5.out⟩
      case round =>
        obtain ⟨j, hj, rfl, hTr, hCr⟩ := hrel
        have HCr := Lib.hid hCr
        clear hCr hT5 HC5
        by_cases hlt2 : j < 65535
        · have c1 := one_down hb hTr (by omega)
          have e1 : 65535 - j - 1 = 65535 - (j + 1) := by omega
          rw [e1] at c1
          have hltI : (j : Int) < 65535 := by omega
          have Hlt := Lib.hid hlt2
          clear hlt2 hj hTr e1
          go_wp2_with fail
          refine c1.mono ?_
          clear c1
          rintro e w6 ⟨rfl, hT6, hC6⟩
          have HC6 := Lib.hid (chg_own3 HCr.out hC6 L)
          clear hC6
          go_wp2_with fail
          go_roundw
          case rel => exact ⟨j + 1, Hlt.out, by go_num, hT6, HC6.out⟩
          case measure =>
            have := Hlt.out
            simp only [intOf]
            omega
        · have hT7 : TallyAt wr t bc bk (oneT n b 0) := by
            have : 65535 - j = 0 := by omega
            rw [this] at hTr
            exact hTr
          have hltI : ¬ (j : Int) < 65535 := by omega
          clear hTr hlt2 hj
          go_wp2_with fail
          refine (one_none hb hT7 rfl).mono ?_
          clear hT7
          rintro e w6 ⟨rfl, hT6, hC6⟩
          have HC6 := Lib.hid (chg_own3 HCr.out hC6 L)
          clear hC6
          go_wp2_with fail
          refine (one_get hb hT6).mono ?_
          rintro e w' ⟨rfl, rfl⟩
          go_wp2_with fail
          refine (zero_frees hT6).mono ?_
          rintro e w' ⟨rfl, rfl⟩
          go_wp2_with fail
          refine (awake08 _).mono ?_
          rintro e w9 ⟨rfl, hC9⟩
          go_wp2_with fail
          go_ret
          exact ⟨rfl, (HC6.out.trans hC9).below (by simp)⟩

end Go.Proofs.Ytgbhofneinmonaa
