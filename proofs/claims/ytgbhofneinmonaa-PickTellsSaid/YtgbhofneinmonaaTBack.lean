/- catchmentlaw08.TallyBack: the walk. -/
import Derived.Test.YtgbhofneinmonaaTBackL
import Derived.Test.YtgbhofneinmonaaOps
import Derived.Deep.DeepCutAuto
import Derived.Deep.CutBlock
import Derived.Deep.LoopGhost
namespace Go.Proofs.Ytgbhofneinmonaa
open Go.RowKit
set_option linter.unusedVariables false
set_option linter.unusedSimpArgs false

theorem infoInt8 : (Try.prog.info? 3).map (fun i => (i.zero, i.size, i.bytes)) = some (some (.int .i64 0), 1, 8) := by kernel_rfl

set_option maxRecDepth 20000 in
set_option maxHeartbeats 16000000 in
theorem tallyBack_walk (x : Int) (a : Option Addr) (len cap : Nat) (z : Nat → Int × Int) (a2 : Option Addr) (len2 cap2 : Nat) (z2 : Nat → Int × Int) (w : World) (hx : (Lit.int .u8 x).wf = true) (hr : IsOps w a len cap z) (hr2 : IsOps w a2 len2 cap2 z2) :
    Calls Try.prog 10 #[.int .u8 x, .slice a len cap, .slice a2 len2 cap2] w fun e w' => e = .returned (.bool true) ∧ Below w.heap.size w w' := by
  obtain ⟨hx0, hx1⟩ := bd_u8 hx
  obtain ⟨hlc, hcm, hnil, hop⟩ := hr
  obtain ⟨hlc2, hcm2, hnil2, hop2⟩ := hr2
  have Hop := Lib.hid hop
  have Hnil := Lib.hid hnil
  have Hop2 := Lib.hid hop2
  have Hnil2 := Lib.hid hnil2
  have hcm' : cap ≤ 9223372036854775807 := by unfold maxLen at hcm; omega
  have hcm2' : cap2 ≤ 9223372036854775807 := by unfold maxLen at hcm2; omega
  clear hx hop hnil hcm hop2 hnil2 hcm2
  go_enter Try.func10, Try.ntmps10
  go_wp2_with fail
  have hn1 : 1 ≤ 1 + x % 60 := by omega
  have hn2 : 1 + x % 60 ≤ 60 := by omega
  generalize 1 + x % 60 = N at *
  obtain ⟨n, rfl⟩ := Int.eq_ofNat_of_zero_le (show 0 ≤ N by omega)
  refine (tnew_ex n _ (by omega) (by omega)).mono ?_
  rintro e w1 ⟨t, bc, bk, rfl, hT, hC1, l1, l2, l3⟩
  have L : w.heap.size ≤ t ∧ w.heap.size ≤ bc ∧ w.heap.size ≤ bk := ⟨l1, l2, l3⟩
  have HC1 := Lib.hid hC1
  clear hC1
  go_upto_region 5 with fail
  go_cut [36, 37, 38] (fun s l i wx => ∃ m : Nat, m ≤ 80 ∧ m ≤ len ∧ s = .slice a m cap ∧ l = .int .i64 (m : Int) ∧ i = .int .i64 0 ∧ wx = w1)
  case first =>
    have h60 : 80 < len ∨ len ≤ 80 := by omega
    rcases h60 with h60 | h60
    · go_wp2_with fail
      go_meet
      exact ⟨80, by omega, by omega, by congr 1; omega, by congr 1; omega, rfl, rfl⟩
    · cases a with
      | none =>
        obtain ⟨rfl, rfl⟩ := Hnil.out rfl
        go_wp2_with fail
        go_meet
        exact ⟨0, by omega, by omega, rfl, rfl, rfl, rfl⟩
      | some a =>
        go_wp2_with fail
        go_meet
        exact ⟨len, by omega, by omega, by congr 1; omega, by congr 1; omega, rfl, rfl⟩
  case rest =>
    obtain ⟨m, hm1, hm2, rfl, rfl, rfl, rfl⟩ := hcut
    go_wp2_with fail
    go_loopw [38] (fun i wr => ∃ j : Nat, j ≤ m ∧ i = .int .i64 (j : Int) ∧ ∃ T, TallyAt wr t bc bk T ∧ T.n = n ∧ bnd T j ∧ Chg [] w wr) (fun i _ => m - (intOf i).toNat)
    case atStart => exact ⟨0, Nat.zero_le _, rfl, _, hT, rfl, bnd_new n, HC1.out⟩
    case round =>
      obtain ⟨j, hj, rfl, T, hTr, hTn, hbd, hCr⟩ := hrel
      subst hTn
      obtain ⟨wo, rfl⟩ : ∃ wo : World, wo = wr := ⟨_, rfl⟩
      have HCr := Lib.hid hCr
      have Hbd := Lib.hid hbd
      clear hT HC1 hbd
      by_cases hlt : j < m
      · obtain ⟨b, off, rfl, hbl, hc0, hc1, hw0, hw1⟩ := Hop.out j (by omega)
        have k0 := (hCr.cell (p := ⟨b, off + j * 2, none⟩) hbl (by simp)).trans hc0
        have k1 := (hCr.cell (p := ⟨b, off + j * 2 + 1, none⟩) hbl (by simp)).trans hc1
        obtain ⟨hd0, hd1⟩ := bd_u8 hw0
        generalize (z j).1 = d at *
        generalize (z j).2 = B at *
        clear hc0 hc1 hCr hw0 hw1
        have hTW := hTr.chg ((Chg.refl [] wo).alloc (.cells #[.int .u8 d, .int .i64 B] 56)) (by simp) (by simp) (by simp)
        have HW := Lib.hid (HCr.out.alloc (.cells #[.int .u8 d, .int .i64 B] 56))
        go_wp2_with fail
        refine (done_at08 hTW d B ⟨hd0, hd1⟩).mono ?_
        rintro e w2 ⟨rfl, hT2, hC2⟩
        have HC2 := Lib.hid (chg_own3 HW.out hC2 L)
        have HB2 := Lib.hid (bnd_done d B Hbd.out)
        have Hn2 := Lib.hid (doneT_n d B T)
        generalize doneT d B T = T2 at *
        clear hC2 k0 k1 hTW hTr HW
        go_wp2_with fail
        go_roundw
        case rel => exact ⟨j + 1, by omega, by go_num, _, hT2, Hn2.out, HB2.out, HC2.out⟩
        case measure => simp [intOf]; omega
      · clear hCr
        go_wp2_with fail
        refine (keep_at hTr).mono ?_
        rintro e w2 ⟨rfl, hTK, hCK⟩
        have q0 := hTK.lt0
        have q1 := hTK.lt1
        have q2 := hTK.lt2
        have HC2 := Lib.hid (chg_own3 HCr.out (hCK.mono (L' := [t, bc, bk]) (by simp)) L)
        have hk0 := bnd_mono (bnd_keep Hbd.out) (show j ≤ 80 by omega)
        have HKn : Hid (T.keep.n = T.n) := Lib.hid rfl
        have HKk : Hid (T.keep.kept = T.keep.now) := Lib.hid rfl
        have HKw := Lib.hid (keep_waits T)
        generalize T.keep = K at *
        have HBK := Lib.hid hk0
        clear hCK hk0 hTr Hbd HCr hlt hj
        go_wp2_with fail
        go_loopw [12, 49] (fun v s wr => ∃ k : Nat, k ≤ T.n ∧ s = .int .i64 (k : Int) ∧ wr.ownsRow w2.heap.size 3 1 v k (intVs (nows K k)) ∧ Chg [] w2 wr) (fun _ s _ => T.n - (intOf s).toNat)
        case atStart => exact ⟨0, Nat.zero_le _, rfl, World.ownsRow_nil _ _ _ _, Chg.refl _ _⟩
        case round =>
          obtain ⟨k, hk, rfl, hown, hCk⟩ := hrel
          obtain ⟨wp, rfl⟩ : ∃ wp : World, wp = wr := ⟨_, rfl⟩
          have hTk := hTK.chg hCk (by simp) (by simp) (by simp)
          have hsz := hCk.size
          have HCk := Lib.hid hCk
          clear hCk
          by_cases hlk : k < T.n
          · have cg := get_nat hTk (k := k) (by rw [HKn.out]; exact hlk)
            have Hown := Lib.hid hown
            clear hown
            go_wp2_with (first
              | (go_at_call 27; refine cg.mono ?_; rintro e w' ⟨rfl, rfl⟩)
              | (at_builtin; refine wpList_app1 _ rfl _ _ 50 rfl w2.heap.size 3 (.int .i64 0) 8 Try.underlying50 infoInt8 rfl _ _ _ rfl (Hown.out.alloc _) wp.heap.size 1 (.int .i64 (K.now k : Int)) rfl ?c1 rfl ?c2 (by decide) ?c3 ?_))
            case c1 => exact cell_of_block (new_block _ _) 0
            case c2 => omega
            case c3 => simp; omega
            intro v' w3 hown' hgrow
            rw [← nows_succ] at hown'
            have HC3 := Lib.hid (Chg.app HCk.out Hown.out hgrow (Nat.le_refl _))
            clear hgrow cg
            go_wp2_with fail
            go_roundw
            case rel => exact ⟨k + 1, by omega, by go_num, hown', HC3.out⟩
            case measure => simp [intOf]; omega
          · obtain rfl : k = T.n := by omega
            have hS := nows_own hown
            have HV := Lib.hid hown.lt
            have HS := Lib.hid hS
            have HCw := Lib.hid (HC2.out.trans HCk.out)
            obtain ⟨va, vc, rfl⟩ : ∃ va vc, u12 = .slice va T.n vc := by
              obtain ⟨va, vc, hv⟩ := hS.len
              rw [nows_len] at hv
              exact ⟨va, vc, hv⟩
            clear hown hS hTK hk hlk HC2 HCk
            go_wp2_with fail
            refine (frees_at hTk).mono ?_
            rintro e w' ⟨rfl, rfl⟩
            go_upto_region 18 with fail
            go_cut [65, 66, 67] (fun s l i wx => ∃ m : Nat, m ≤ 80 ∧ m ≤ len2 ∧ s = .slice a2 m cap2 ∧ l = .int .i64 (m : Int) ∧ i = .int .i64 0 ∧ wx = wp)
            case first =>
              have h60 : 80 < len2 ∨ len2 ≤ 80 := by omega
              rcases h60 with h60 | h60
              · go_wp2_with fail
                go_meet
                exact ⟨80, by omega, by omega, by congr 1; omega, by congr 1; omega, rfl, rfl⟩
              · cases a2 with
                | none =>
                  obtain ⟨rfl, rfl⟩ := Hnil2.out rfl
                  go_wp2_with fail
                  go_meet
                  exact ⟨0, by omega, by omega, rfl, rfl, rfl, rfl⟩
                | some a2 =>
                  go_wp2_with fail
                  go_meet
                  exact ⟨len2, by omega, by omega, by congr 1; omega, by congr 1; omega, rfl, rfl⟩
            case rest =>
              obtain ⟨m2, hm3, hm4, rfl, rfl, rfl, rfl⟩ := hcut
              go_wp2_with fail
              go_loopw [67] (fun i wr => ∃ j : Nat, j ≤ m2 ∧ i = .int .i64 (j : Int) ∧ ∃ T', TallyAt wr t bc bk T' ∧ T'.n = T.n ∧ bnd T' (80 + j) ∧ T'.kept = K.kept ∧ Chg [t, bc, bk] wc wr) (fun i _ => m2 - (intOf i).toNat)
              case atStart => exact ⟨0, Nat.zero_le _, rfl, _, hTk, HKn.out, HBK.out, rfl, Chg.refl _ _⟩
              case round =>
                obtain ⟨j2, hj2, rfl, T3, hT3, hn3, hb3, hk3, hC3⟩ := hrel
                obtain ⟨wo, rfl⟩ : ∃ wo : World, wo = wr := ⟨_, rfl⟩
                have HC3 := Lib.hid hC3
                have Hn3 := Lib.hid hn3
                have Hb3 := Lib.hid hb3
                have Hk3 := Lib.hid hk3
                clear hC3 hn3 hb3 hk3 hTk
                by_cases hlt : j2 < m2
                · obtain ⟨b, off, rfl, hbl, hc0, hc1, hw0, hw1⟩ := Hop2.out j2 (by omega)
                  have hCw : Chg [t, bc, bk] w wo := (HCw.out.mono (by simp)).trans HC3.out
                  have hbo : b ∉ [t, bc, bk] := by simp; omega
                  have k0 := (hCw.cell (p := ⟨b, off + j2 * 2, none⟩) hbl hbo).trans hc0
                  have k1 := (hCw.cell (p := ⟨b, off + j2 * 2 + 1, none⟩) hbl hbo).trans hc1
                  obtain ⟨hd0, hd1⟩ := bd_u8 hw0
                  generalize (z2 j2).1 = d at *
                  generalize (z2 j2).2 = B at *
                  have hT4 := hT3.chg ((Chg.refl [] wo).alloc (.cells #[.int .u8 d, .int .i64 B] 56)) (by simp) (by simp) (by simp)
                  have X4 := Lib.hid (new_block wo (.cells #[.int .u8 d, .int .i64 B] 56))
                  have HC4 := Lib.hid (HC3.out.alloc (.cells #[.int .u8 d, .int .i64 B] 56))
                  have hwz := hCw.size
                  have m0 := hT3.lt0
                  have m1 := hT3.lt1
                  have m2' := hT3.lt2
                  clear hc0 hc1 hw0 hw1 hCw hbo
                  have hq := bIdx_lt (B := B) (show 1 ≤ T.n by omega)
                  have e2 := bIdx_eq (B := B) (show 1 ≤ T.n by omega)
                  have r1 := Int.lt_tmod_of_pos B (show (0 : Int) < (T.n : Int) by omega)
                  have r2 := Int.tmod_lt_of_pos B (show (0 : Int) < (T.n : Int) by omega)
                  obtain ⟨r, er⟩ : ∃ r, B.tmod (T.n : Int) = r := ⟨_, rfl⟩
                  rw [er] at e2 r1 r2
                  generalize bIdx B T.n = q at *
                  have hz : (0 : Int) < (T.n : Int) := by omega
                  have hz2 : ((T.n : Int) == 0) = false := by simp; omega
                  have hmod : d % 4 = 2 ∨ ¬ d % 4 = 2 := by omega
                  rcases hmod with hm | hm
                  case' inl =>
                    have d2 : (d % 4 != 2) = false := by simp; omega
                    have Hn5 := Hn3
                    have Hb5 := Lib.hid (bnd_mono Hb3.out (show 80 + j2 ≤ 80 + (j2 + 1) by omega))
                    have Hk5 := Hk3
                    have hT5 := hT4
                    have X5 := X4
                    have HC5 := HC4
                    clear hm hT4 hT3 Hb3 X4 HC4 HC3
                    go_wp2_with fail
                    generalize wo.alloc (.cells #[.int .u8 d, .int .i64 B] 56) = w5 at *
                  case' inr =>
                    have d2 : (d % 4 != 2) = true := by simp; omega
                    have Hm := Lib.hid hm
                    clear hm
                    have X4c := cell_of_block X4.out 1
                    clear X4c
                    go_wp2_with fail
                    refine (done_at08 hT4 d B ⟨hd0, hd1⟩).mono ?_
                    rintro e w5 ⟨rfl, hT5, hC5⟩
                    have Hb5 := Lib.hid (bnd_done d B Hb3.out)
                    have Hn5 := Lib.hid ((doneT_n d B T3).trans Hn3.out)
                    have Hk5 := Lib.hid ((doneT_kept (B := B) (T := T3) Hm.out).trans Hk3.out)
                    have X5 := Lib.hid ((hC5.block wo.heap.size (heap_lt X4.out) (by simp; omega)).trans X4.out)
                    have HC5 := Lib.hid (HC4.out.trans hC5)
                    generalize doneT d B T3 = T5 at *
                    have x1 := cell_of_block X5.out 1
                    simp only [List.getElem?_toArray, List.getElem?_cons_zero, List.getElem?_cons_succ] at x1
                    clear hC5 hT4 hT3 X4 HC4 HC3 k0 k1
                    go_wp2_with fail
                  all_goals
                    have hq5 := hq
                    rw [← Hn5.out] at hq5
                    have hbq : _ ≤ 60000 := Nat.le_trans (Hb5.out q hq5).1 (by omega)
                    refine (get_nat hT5 hq5).mono ?_
                    rintro e w' ⟨rfl, rfl⟩
                    go_wp2_with fail
                    refine (waits_at hT5).mono ?_
                    rintro e w' ⟨rfl, rfl⟩
                    have wl := hT5.waits_le
                    go_wp2_with fail
                    refine (upB hq5 hbq hT5).mono ?_
                    rintro e w6 ⟨rfl, hT6, hC6⟩
                    have HC6 := Lib.hid (HC5.out.trans hC6)
                    clear hC6 hT5 HC5
                    go_wp2_with fail
                    refine (getUpB hq5 hT6).mono ?_
                    rintro e w' ⟨rfl, rfl⟩
                    go_wp2_with fail
                    refine (downB hq5 hbq hT6).mono ?_
                    rintro e w7 ⟨rfl, hT7, hC7⟩
                    have HC7 := Lib.hid (HC6.out.trans hC7)
                    clear hC7 hT6 HC6
                    go_wp2_with fail
                    refine (get_nat hT7 hq5).mono ?_
                    rintro e w' ⟨rfl, rfl⟩
                    go_wp2_with fail
                    refine (waits_at hT7).mono ?_
                    rintro e w' ⟨rfl, rfl⟩
                    go_wp2_with fail
                    go_roundw
                    case rel => exact ⟨j2 + 1, by omega, by go_num, _, hT7, Hn5.out, Hb5.out, Hk5.out, HC7.out⟩
                    case measure => simp [intOf]; omega
                · have m0 := hT3.lt0
                  have hck : chgs K = [] := chgs_eq fun i => by rw [HKk.out]
                  have Hck := Lib.hid hck
                  clear hck
                  go_wp2_with fail
                  refine (back_at hT3).mono ?_
                  rintro e w8 ⟨rfl, hT8', hC8⟩
                  have hT8 : TallyAt w8 t bc bk K := hT8'.congr (HKn.out.trans Hn3.out.symm) (fun b _ => by show K.now b = T3.kept b; rw [Hk3.out, HKk.out]) (fun b _ => by show K.kept b = T3.kept b; rw [Hk3.out])
                  have hC38 := HC3.out.trans hC8
                  have HS8 := Lib.hid (HS.out.chg hC38 (fun g hg => by have := HV.out g hg; simp; omega))
                  have HC8 := Lib.hid (chg_own3 HCw.out hC38 L)
                  clear hC8 hC38 hT8' hT3 HC3 HS HV HCw
                  go_wp2_with fail
                  go_loopw [126] (fun s wr => ∃ k : Nat, k ≤ T.n ∧ s = .int .i64 (k : Int) ∧ Chg [] w8 wr) (fun s _ => T.n - (intOf s).toNat)
                  case atStart => exact ⟨0, Nat.zero_le _, rfl, Chg.refl _ _⟩
                  case round =>
                    obtain ⟨k, hk, rfl, hCk⟩ := hrel
                    have hTk := hT8.chg hCk (by simp) (by simp) (by simp)
                    have hSk := HS8.out.chg hCk (by simp)
                    have HCk := Lib.hid (HC8.out.trans hCk)
                    have HCl := Lib.hid hCk
                    by_cases hlk : k < T.n
                    · have hlen := hSk.len
                      obtain ⟨g, rfl, cg⟩ := hSk.get.2 k hlk
                      rw [nows_get hlk] at cg
                      have hq : ∀ n : Nat, TallyAt (wr.drewN n) t bc bk K := fun n => hTk.chg (Chg.drewN (Chg.refl [] _) n) (by simp) (by simp) (by simp)
                      have HQ := Lib.hid hq
                      have hkn : k < K.n := by rw [HKn.out]; exact hlk
                      have i1 : (k : Int) < (T.n : Int) := by omega
                      have i0 : (0 : Int) ≤ (k : Int) := by omega
                      clear hq hSk hCk hTk hlen
                      go_wp2_with fail
                      go_quiet ((go_at_call 27; exact quiet_left (get_nat (HQ.out _) hkn)))
                      go_wp2_with fail
                      go_roundw
                      case rel => exact ⟨k + 1, by omega, by go_num, HCl.out.drewN _⟩
                      case measure => simp [intOf]; omega
                    · have cw := waits_at hTk
                      rw [HKw.out] at cw
                      clear hCk hSk
                      go_wp2_with fail
                      refine (frees_at hTk).mono ?_
                      rintro e w' ⟨rfl, rfl⟩
                      go_wp2_with fail
                      refine cw.mono ?_
                      rintro e w' ⟨rfl, rfl⟩
                      go_wp2_with fail
                      refine (changed_nil hTk Hck.out).mono ?_
                      rintro e w9 ⟨⟨sa, sc, rfl⟩, hC9⟩
                      have HC9 := Lib.hid (HCk.out.trans hC9)
                      clear hC9
                      go_wp2_with fail
                      refine (awake08 _).mono ?_
                      rintro e w10 ⟨rfl, hC10⟩
                      go_wp2_with fail
                      go_ret
                      exact ⟨rfl, (HC9.out.trans hC10).below (by simp)⟩

end Go.Proofs.Ytgbhofneinmonaa
