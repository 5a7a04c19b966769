/- catchmentlaw08.TallyFree: the walk. -/
import Derived.Test.YtgbhofneinmonaaTFreeL
import Derived.Test.YtgbhofneinmonaaOps
import Derived.Deep.DeepCutAuto
import Derived.Deep.CutBlock
import Derived.Deep.LoopGhost
namespace Go.Proofs.Ytgbhofneinmonaa
open Go.RowKit
set_option linter.unusedVariables false
set_option linter.unusedSimpArgs false

theorem infoBool8 : (Try.prog.info? 4).map (fun i => (i.zero, i.size, i.bytes)) = some (some (.bool false), 1, 1) := by kernel_rfl

set_option maxRecDepth 20000 in
set_option maxHeartbeats 8000000 in
theorem tallyFree_walk (x : Int) (a : Option Addr) (len cap : Nat) (z : Nat → Int × Int) (w : World) (hx : (Lit.int .u8 x).wf = true) (hr : IsOps w a len cap z) :
    Calls Try.prog 9 #[.int .u8 x, .slice a len cap] w fun e w' => e = .returned (.bool true) ∧ Below w.heap.size w w' := by
  obtain ⟨hx0, hx1⟩ := bd_u8 hx
  obtain ⟨hlc, hcm, hnil, hop⟩ := hr
  have Hop := Lib.hid hop
  have Hnil := Lib.hid hnil
  have hcm' : cap ≤ 9223372036854775807 := by unfold maxLen at hcm; omega
  clear hx hop hnil hcm
  go_enter Try.func9, Try.ntmps9
  go_wp2_with fail
  have hn1 : 1 ≤ 1 + x % 60 := by omega
  have hn2 : 1 + x % 60 ≤ 60 := by omega
  generalize 1 + x % 60 = N at *
  obtain ⟨n, rfl⟩ := Int.eq_ofNat_of_zero_le (show 0 ≤ N by omega)
  refine (tnew_ex n _ (by omega) (by omega)).mono ?_
  rintro e w1 ⟨t, bc, bk, rfl, hT, hC1, l1, l2, l3⟩
  have L : w.heap.size ≤ t ∧ w.heap.size ≤ bc ∧ w.heap.size ≤ bk := ⟨l1, l2, l3⟩
  have HC1 := Lib.hid hC1
  clear hC1
  go_upto_region 5 with fail
  go_cut [30, 31, 32] (fun s l i wx => ∃ m : Nat, m ≤ 150 ∧ m ≤ len ∧ s = .slice a m cap ∧ l = .int .i64 (m : Int) ∧ i = .int .i64 0 ∧ wx = w1)
  case first =>
    have h60 : 150 < len ∨ len ≤ 150 := by omega
    rcases h60 with h60 | h60
    · go_wp2_with fail
      go_meet
      exact ⟨150, by omega, by omega, by congr 1; omega, by congr 1; omega, rfl, rfl⟩
    · cases a with
      | none =>
        obtain ⟨rfl, rfl⟩ := Hnil.out rfl
        go_wp2_with fail
        go_meet
        exact ⟨0, by omega, by omega, rfl, rfl, rfl, rfl⟩
      | some a =>
        go_wp2_with fail
        go_meet
        exact ⟨len, by omega, by omega, by congr 1; omega, by congr 1; omega, rfl, rfl⟩
  case rest =>
    obtain ⟨m, hm1, hm2, rfl, rfl, rfl, rfl⟩ := hcut
    go_wp2_with fail
    go_loopw [32] (fun i wr => ∃ j : Nat, j ≤ m ∧ i = .int .i64 (j : Int) ∧ ∃ T, TallyAt wr t bc bk T ∧ T.n = n ∧ Chg [] w wr) (fun i _ => m - (intOf i).toNat)
    case atStart => exact ⟨0, Nat.zero_le _, rfl, _, hT, rfl, HC1.out⟩
    case round =>
      obtain ⟨j, hj, rfl, T, hTr, hTn, hCr⟩ := hrel
      subst hTn
      obtain ⟨wo, rfl⟩ : ∃ wo : World, wo = wr := ⟨_, rfl⟩
      have HCr := Lib.hid hCr
      clear hT HC1
      by_cases hlt : j < m
      · obtain ⟨b, off, rfl, hbl, hc0, hc1, hw0, hw1⟩ := Hop.out j (by omega)
        have k0 := (hCr.cell (p := ⟨b, off + j * 2, none⟩) hbl (by simp)).trans hc0
        have k1 := (hCr.cell (p := ⟨b, off + j * 2 + 1, none⟩) hbl (by simp)).trans hc1
        obtain ⟨hd0, hd1⟩ := bd_u8 hw0
        generalize (z j).1 = d at *
        generalize (z j).2 = B at *
        have hmk := run_make1 (P := Try.prog) 45 4 Try.underlying45 infoBool8 rfl .i64 .i64 T.n (by omega) (by omega)
        clear hc0 hc1 hCr hw0 hw1
        have HA : Hid (((wo.alloc (.cells #[.int .u8 d, .int .i64 B] 56)).alloc (.cells (zrow T.n (.bool false)) 4)).heap[wo.heap.size]? = some (.cells #[.int .u8 d, .int .i64 B] 56 (0, 0))) := Lib.hid (new_block21 _ _ _)
        have HB : Hid (((wo.alloc (.cells #[.int .u8 d, .int .i64 B] 56)).alloc (.cells (zrow T.n (.bool false)) 4)).heap[wo.heap.size + 1]? = some (.cells (bools T.n (fun _ => false)) 4 (0, 0))) := Lib.hid (by rw [new_block2, zrow_bools])
        have HW : Hid (Chg [] wo ((wo.alloc (.cells #[.int .u8 d, .int .i64 B] 56)).alloc (.cells (zrow T.n (.bool false)) 4))) := Lib.hid (((Chg.refl _ _).alloc _).alloc _)
        have hwl := HCr.out.size
        have m0 := hTr.lt0
        have m1 := hTr.lt1
        have m2 := hTr.lt2
        go_wp2_with fail
        generalize ((wo.alloc (.cells #[.int .u8 d, .int .i64 B] 56)).alloc (.cells (zrow T.n (.bool false)) 4)) = W at *
        have hTW := hTr.chg HW.out (by simp) (by simp) (by simp)
        clear hmk k0 k1
        go_loopw [39] (fun s wi => ∃ k : Nat, k ≤ T.n ∧ s = .int .i64 (k : Int) ∧ wi.heap[wo.heap.size + 1]? = some (.cells (bools T.n (fun i => if i < k then T.free i else false)) 4 (0, 0)) ∧ Chg [wo.heap.size + 1] W wi) (fun s _ => T.n - (intOf s).toNat)
        case atStart => exact ⟨0, Nat.zero_le _, rfl, by simpa using HB.out, Chg.refl _ _⟩
        case round =>
          obtain ⟨k, hk, rfl, hBk, hCk⟩ := hrel
          have hTk := hTW.chg hCk (by simp; omega) (by simp; omega) (by simp; omega)
          have HBk := Lib.hid hBk
          have HCk := Lib.hid hCk
          clear hBk hCk
          by_cases hlk : k < T.n
          · have ck := cell_of_block HBk.out k
            rw [bools_get hlk] at ck
            have fk := frozen_of_block HBk.out k
            go_wp2_with fail
            refine (free_nat hTk hlk).mono ?_
            rintro e w' ⟨rfl, rfl⟩
            go_wp2_with fail
            go_roundw
            case rel =>
              refine ⟨k + 1, by omega, by go_num, ?_, HCk.out.setCell (.inl (by simp)) _⟩
              rw [setCell_block HBk.out, bools_set hlk]
              congr 2
              unfold bools
              congr 1
              funext i
              show Value.bool (if (i : Nat) = k then T.free k else if (i : Nat) < k then T.free i else false) = Value.bool (if (i : Nat) < k + 1 then T.free i else false)
              by_cases e : (i : Nat) = k
              · simp [e]
              · by_cases e2 : (i : Nat) < k
                · rw [if_neg e, if_pos e2, if_pos (by omega)]
                · rw [if_neg e, if_neg e2, if_neg (by omega)]
            case measure => simp [intOf]; omega
          · obtain rfl : k = T.n := by omega
            have x0 := (HCk.out.block wo.heap.size (heap_lt HA.out) (by simp)).trans HA.out
            have y0 := cell_of_block x0 0
            have y1 := cell_of_block x0 1
            simp only [List.getElem?_toArray, List.getElem?_cons_zero, List.getElem?_cons_succ] at y0 y1
            have X0 := Lib.hid x0
            clear x0 hTW hk hlk
            go_wp2_with fail
            refine (done_at08 hTk d B ⟨hd0, hd1⟩).mono ?_
            rintro e w2 ⟨rfl, hT2, hC2⟩
            have X2 := Lib.hid ((hC2.block wo.heap.size (heap_lt X0.out) (by simp; omega)).trans X0.out)
            have B2 := Lib.hid ((hC2.block (wo.heap.size + 1) (heap_lt HBk.out) (by simp; omega)).trans HBk.out)
            have HC2 := Lib.hid (Chg.then (((HCr.out.trans HW.out).then HCk.out (by simp; omega))) hC2 (by simp; omega))
            have hn2' := doneT_n d B T
            have Hdf := Lib.hid (fun k => @done_free d B T k)
            have Hdw := Lib.hid (@done_waits d B T)
            have Hdc := Lib.hid (@done_chgs d B T)
            generalize doneT d B T = T2 at *
            have Hn2 := Lib.hid hn2'
            clear hC2 y0 y1 hTk hn2'
            go_wp2_with fail
            go_loop [12, 13, 53] (fun a b s => ∃ k : Nat, k ≤ T.n ∧ s = .int .i64 (k : Int) ∧ a = .int .i64 (cnt k (noneB T2) : Int) ∧ b = .int .i64 (cnt k T2.free : Int)) (fun _ _ s => T.n - (intOf s).toNat)
            case atStart => exact ⟨0, Nat.zero_le _, rfl, rfl, rfl⟩
            case round =>
              obtain ⟨k, hk, rfl, rfl, rfl⟩ := hrel
              have b1 := cnt_le (noneB T2) k
              have b2 := cnt_le T2.free k
              by_cases hlk : k < T.n
              · have hlk2 : k < T2.n := by rw [Hn2.out]; exact hlk
                have cg := get_nat hT2 hlk2
                have cf := free_nat hT2 hlk2
                have hcb := cell_of_block B2.out k
                rw [bools_get hlk, if_pos hlk] at hcb
                have hc0 := cell_of_block X2.out 0
                simp only [List.getElem?_toArray, List.getElem?_cons_zero, List.getElem?_cons_succ] at hc0
                have S1 := Lib.hid (cnt_step k (noneB T2))
                have S2 := Lib.hid (cnt_step k T2.free)
                cases hf : T2.free k with
                | true =>
                  have hz : T2.now k = 0 := by simp [Tal.free] at hf; exact hf.1
                  have e1 := Lib.hid (show cnt (k + 1) (noneB T2) = cnt k (noneB T2) + 1 by rw [S1.out]; simp [noneB, hz])
                  have e2 := Lib.hid (show cnt (k + 1) T2.free = cnt k T2.free + 1 by rw [S2.out]; simp [hf])
                  rw [hz] at cg
                  rw [hf] at cf
                  cases hg : T.free k with
                  | true =>
                    rw [hg] at hcb
                    clear hf hz S1 S2 hg
                    go_wp2_with (first
                      | (go_at_call 27; refine cg.mono ?_; rintro e w' ⟨rfl, rfl⟩)
                      | (go_at_call 26; refine cf.mono ?_; rintro e w' ⟨rfl, rfl⟩))
                    go_round
                    case rel => exact ⟨k + 1, by omega, by go_num, by rw [e1.out]; go_num, by rw [e2.out]; go_num⟩
                    case measure => simp [intOf]; omega
                  | false =>
                    have hd4 : (d % 4 == 0) = false := by
                      have := Hdf.out k hg hf
                      simpa using this
                    rw [hg] at hcb
                    clear hf hz S1 S2 hg
                    go_wp2_with (first
                      | (go_at_call 27; refine cg.mono ?_; rintro e w' ⟨rfl, rfl⟩)
                      | (go_at_call 26; refine cf.mono ?_; rintro e w' ⟨rfl, rfl⟩))
                    go_round
                    case rel => exact ⟨k + 1, by omega, by go_num, by rw [e1.out]; go_num, by rw [e2.out]; go_num⟩
                    case measure => simp [intOf]; omega
                | false =>
                  have e2 := Lib.hid (show cnt (k + 1) T2.free = cnt k T2.free by rw [S2.out]; simp [hf])
                  rw [hf] at cf
                  by_cases hz : T2.now k = 0
                  · have e1 := Lib.hid (show cnt (k + 1) (noneB T2) = cnt k (noneB T2) + 1 by rw [S1.out]; simp [noneB, hz])
                    rw [hz] at cg
                    clear hf hz S1 S2
                    go_wp2_with (first
                      | (go_at_call 27; refine cg.mono ?_; rintro e w' ⟨rfl, rfl⟩)
                      | (go_at_call 26; refine cf.mono ?_; rintro e w' ⟨rfl, rfl⟩))
                    go_round
                    case rel => exact ⟨k + 1, by omega, by go_num, by rw [e1.out]; go_num, by rw [e2.out]⟩
                    case measure => simp [intOf]; omega
                  · have e1 := Lib.hid (show cnt (k + 1) (noneB T2) = cnt k (noneB T2) by rw [S1.out]; simp [noneB, hz])
                    have hz1 : ((T2.now k : Int) == 0) = false := by simp; omega
                    clear hf hz S1 S2
                    go_wp2_with (first
                      | (go_at_call 27; refine cg.mono ?_; rintro e w' ⟨rfl, rfl⟩)
                      | (go_at_call 26; refine cf.mono ?_; rintro e w' ⟨rfl, rfl⟩))
                    go_round
                    case rel => exact ⟨k + 1, by omega, by go_num, by rw [e1.out], by rw [e2.out]⟩
                    case measure => simp [intOf]; omega
              · obtain rfl : k = T.n := by omega
                have e1 : cnt T.n (noneB T2) = T2.frees + T2.waits := by rw [← Hn2.out]; exact none_split T2
                have e2 : cnt T.n T2.free = T2.frees := by rw [← Hn2.out]; rfl
                have e3 : Value.int .i64 ((cnt T.n (noneB T2) : Nat) : Int) = .int .i64 ((T2.frees : Int) + (T2.waits : Int)) := by rw [e1]; congr 1
                have e4 : Value.int .i64 ((cnt T.n T2.free : Nat) : Int) = .int .i64 (T2.frees : Int) := by rw [e2]
                rw [e3, e4]
                have hc0 := cell_of_block X2.out 0
                simp only [List.getElem?_toArray, List.getElem?_cons_zero, List.getElem?_cons_succ] at hc0
                have fl := hT2.frees_le
                have wl := hT2.waits_le
                have cfr := frees_at hT2
                have cwa := waits_at hT2
                clear e1 e2 e3 e4 b1 b2 hk hlk
                have hmod : d % 4 = 0 ∨ d % 4 = 1 ∨ d % 4 = 2 ∨ d % 4 = 3 := by omega
                have HB1 := B2
                clear HBk B2
                rcases hmod with hm | hm | hm | hm
                · have d2 : (d % 4 == 2) = false := by simp; omega
                  have d3 : ¬ 2 ≤ d % 4 := by omega
                  clear hm
                  go_wp2_with (first
                    | (go_at_call 32; refine cfr.mono ?_; rintro e w' ⟨rfl, rfl⟩)
                    | (go_at_call 29; refine cwa.mono ?_; rintro e w' ⟨rfl, rfl⟩))
                  go_roundw
                  case rel => exact ⟨j + 1, by omega, by go_num, _, hT2, Hn2.out, HC2.out⟩
                  case measure => simp [intOf]; omega
                · have d2 : (d % 4 == 2) = false := by simp; omega
                  have d3 : ¬ 2 ≤ d % 4 := by omega
                  clear hm
                  go_wp2_with (first
                    | (go_at_call 32; refine cfr.mono ?_; rintro e w' ⟨rfl, rfl⟩)
                    | (go_at_call 29; refine cwa.mono ?_; rintro e w' ⟨rfl, rfl⟩))
                  go_roundw
                  case rel => exact ⟨j + 1, by omega, by go_num, _, hT2, Hn2.out, HC2.out⟩
                  case measure => simp [intOf]; omega
                · have d2 : (d % 4 == 2) = true := by simp; omega
                  have d3 : 2 ≤ d % 4 := by omega
                  have w0 := Hdw.out hm
                  rw [w0] at cwa wl
                  rw [w0]
                  have cch := changed_nil hT2 (Hdc.out (by omega))
                  clear hm
                  go_wp2_with (first
                    | (go_at_call 32; refine cfr.mono ?_; rintro e w' ⟨rfl, rfl⟩)
                    | (go_at_call 29; refine cwa.mono ?_; rintro e w' ⟨rfl, rfl⟩))
                  refine cch.mono ?_
                  rintro e w3 ⟨⟨sa, sc, rfl⟩, hC3⟩
                  have hT3 := hT2.chg hC3 (by simp) (by simp) (by simp)
                  have HC3 := Lib.hid (HC2.out.trans hC3)
                  clear hC3 cch
                  go_wp2_with fail
                  go_roundw
                  case rel => exact ⟨j + 1, by omega, by go_num, _, hT3, Hn2.out, HC3.out⟩
                  case measure => simp [intOf]; omega
                · have d2 : (d % 4 == 2) = false := by simp; omega
                  have d3 : 2 ≤ d % 4 := by omega
                  have cch := changed_nil hT2 (Hdc.out (by omega))
                  clear hm
                  go_wp2_with (first
                    | (go_at_call 32; refine cfr.mono ?_; rintro e w' ⟨rfl, rfl⟩)
                    | (go_at_call 29; refine cwa.mono ?_; rintro e w' ⟨rfl, rfl⟩))
                  refine cch.mono ?_
                  rintro e w3 ⟨⟨sa, sc, rfl⟩, hC3⟩
                  have hT3 := hT2.chg hC3 (by simp) (by simp) (by simp)
                  have HC3 := Lib.hid (HC2.out.trans hC3)
                  clear hC3 cch
                  go_wp2_with fail
                  go_roundw
                  case rel => exact ⟨j + 1, by omega, by go_num, _, hT3, Hn2.out, HC3.out⟩
                  case measure => simp [intOf]; omega
      · go_wp2_with fail
        refine (awake08 _).mono ?_
        rintro e w9 ⟨rfl, hC9⟩
        go_wp2_with fail
        go_ret
        exact ⟨rfl, (HCr.out.trans hC9).below (by simp)⟩

end Go.Proofs.Ytgbhofneinmonaa
