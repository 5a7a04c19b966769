/- catchmentlaw09.PickAll: the walk. -/
import Derived.Test.YtgbhofneinmonaaPAllL
import Derived.Test.YtgbhofneinmonaaRowB
import Derived.Deep.DeepCutAuto
import Derived.Deep.CutBlock
import Derived.Deep.LoopGhost
namespace Go.Proofs.Ytgbhofneinmonaa
open Go.RowKit
set_option linter.unusedVariables false
set_option linter.unusedSimpArgs false

theorem infoBool : (Try.prog.info? 4).map (fun i => (i.zero, i.size, i.bytes)) = some (some (.bool false), 1, 1) := by kernel_rfl

set_option maxRecDepth 20000 in
set_option maxHeartbeats 8000000 in
theorem pickAll_walk (x : Int) (a : Option Addr) (len cap : Nat) (zs : List Int) (y : Int) (w : World) (hx : (Lit.int .u8 x).wf = true) (hr : IsRow .u8 w a len cap zs) (hy : (Lit.int .u8 y).wf = true) :
    Calls Try.prog 6 #[.int .u8 x, .slice a len cap, .int .u8 y] w fun e w' => e = .returned (.bool true) ∧ Below w.heap.size w w' := by
  obtain ⟨hx0, hx1⟩ := bd_u8 hx
  obtain ⟨hy0, hy1⟩ := bd_u8 hy
  clear hx hy
  go_enter Try.func6, Try.ntmps6
  go_wp2_with fail
  have hn1 : 1 ≤ 1 + x % 60 := by omega
  have hn2 : 1 + x % 60 ≤ 60 := by omega
  generalize 1 + x % 60 = N at *
  obtain ⟨n, rfl⟩ := Int.eq_ofNat_of_zero_le (show 0 ≤ N by omega)
  have hf0 : 0 ≤ y % ((n : Int) + 1) := Int.emod_nonneg _ (by omega)
  have hf1 : y % ((n : Int) + 1) < (n : Int) + 1 := Int.emod_lt_of_pos _ (by omega)
  generalize y % ((n : Int) + 1) = F at *
  obtain ⟨f, rfl⟩ := Int.eq_ofNat_of_zero_le hf0
  have hf : f ≤ n := by omega
  refine (tnew_ex n _ (by omega) (by omega)).mono ?_
  rintro e w1 ⟨t, bc, bk, rfl, hT, hC1, l1, l2, l3⟩
  have HC1 := Lib.hid hC1
  clear hC1
  go_upto_region 6 with fail
  go_cut [43, 44, 45] (fun s l i wx => ∃ m : Nat, m ≤ 60 ∧ m ≤ len ∧ s = .slice a m cap ∧ l = .int .i64 (m : Int) ∧ i = .int .i64 0 ∧ wx = w1)
  case first =>
    obtain ⟨hlc, hcm⟩ := hr.cap_le
    unfold maxLen at hcm
    have h60 : 60 < len ∨ len ≤ 60 := by omega
    rcases h60 with h60 | h60
    · go_wp2_with fail
      go_meet
      exact ⟨60, by omega, by omega, rfl, rfl, rfl, rfl⟩
    · cases a with
      | none =>
        obtain ⟨rfl, rfl⟩ := hr.none_len
        go_wp2_with fail
        go_meet
        exact ⟨0, by omega, by omega, rfl, rfl, rfl, rfl⟩
      | some a =>
        go_wp2_with fail
        go_meet
        exact ⟨len, by omega, by omega, rfl, rfl, rfl, rfl⟩
  case rest =>
    obtain ⟨m, hm1, hm2, rfl, rfl, rfl, rfl⟩ := hcut
    go_upto_block 0 with fail
    go_cut [9] (fun s wx => s = .pointer (some ⟨t, 0, none⟩) ∧ ∃ T, TallyAt wx t bc bk T ∧ T.n = n ∧ Chg [] w wx)
    case first =>
      go_wp2_with fail
      go_loopw [45] (fun i wr => ∃ j : Nat, j ≤ m ∧ i = .int .i64 (j : Int) ∧ ∃ T, TallyAt wr t bc bk T ∧ T.n = n ∧ Chg [] w wr) (fun i _ => m - (intOf i).toNat)
      case atStart => exact ⟨0, Nat.zero_le _, rfl, _, hT, rfl, HC1.out⟩
      case round =>
        obtain ⟨j, hj, rfl, T, hTr, hTn, hCr⟩ := hrel
        have HCr := Lib.hid hCr
        have HTn := Lib.hid hTn
        clear hT HC1 hTn
        by_cases hlt : j < m
        · obtain ⟨b, off, rfl, hbl, hc, hwf⟩ := hr.get (i := j) (by omega)
          have hc2 := (hCr.cell (p := ⟨b, off + j, none⟩) hbl (by simp)).trans hc
          obtain ⟨hz0, hz1⟩ := bd_u8 hwf
          generalize zs.getD j 0 = z at *
          clear hc hCr
          have hr0 : 0 ≤ z % (n : Int) := Int.emod_nonneg _ (by omega)
          have hr1 : z % (n : Int) < (n : Int) := Int.emod_lt_of_pos _ (by omega)
          go_wp2_with fail
          refine (up_at hTr _).mono ?_
          rintro e w2 ⟨rfl, hT2, hC2⟩
          have HC2 := Lib.hid (Chg.then HCr.out hC2 (by simp; omega))
          clear hC2
          go_wp2_with fail
          go_roundw
          case rel => exact ⟨j + 1, by omega, by go_num, _, hT2, by rw [up_n]; exact HTn.out, HC2.out⟩
          case measure => simp [intOf]; omega
        · go_wp2_with fail
          go_meet
          exact ⟨rfl, T, hTr, HTn.out, HCr.out⟩
    case rest =>
      obtain ⟨rfl, T, hTx, hTn, hC⟩ := hcut
      subst hTn
      have HC := Lib.hid hC
      clear hC hT HC1
      go_wp2_with fail
      refine (pnew_at hTx f hf).mono ?_
      rintro e w3 ⟨rfl, hp3, hC3⟩
      have hP : PT w3 wc.heap.size t bc bk ⟨f, f, 0⟩ T := ⟨hp3, hTx.chg hC3 (by simp) (by simp) (by simp), Nat.le_refl _, hf, Nat.zero_le _⟩
      have hpl : w.heap.size ≤ wc.heap.size := HC.out.size
      have HC3 := Lib.hid (HC.out.trans hC3)
      clear hp3 hC3 HC hTx
      generalize wc.heap.size = p at *
      go_wp2_with fail
      refine (hP.next).mono ?_
      rintro e w' ⟨rfl, rfl⟩
      go_wp2_with fail
      have n2 := hP.ht.n2
      have hroom := hP.room
      have hrb := roomI_bd hf
      obtain ⟨q, hq⟩ := Int.eq_ofNat_of_zero_le hrb.1
      have hqb : q ≤ T.n := by omega
      have hmk := run_make1 (P := Try.prog) 45 4 Try.underlying45 infoBool rfl .i64 .i64 T.n (by omega) (by omega)
      simp only [hq] at hroom
      have Hq := Lib.hid hq
      clear hq hrb
      go_loop [15, 16] (fun s b => ∃ k : Nat, f ≤ k ∧ k ≤ T.n ∧ b = .int .i64 (k : Int) ∧ s = .int .i64 ((cnt k T.free : Int) - (cnt f T.free : Int))) (fun _ b => T.n - (intOf b).toNat)
      case atStart => exact ⟨f, Nat.le_refl _, hf, rfl, by rw [Int.sub_self]⟩
      case round =>
        obtain ⟨k, hk1, hk2, rfl, hs⟩ := hrel
        have hcl := cnt_le T.free k
        have hcl2 := cnt_le T.free f
        have Hs := Lib.hid hs
        clear hs
        by_cases hlt : k < T.n
        · have Hfr := Lib.hid (freeB_nat (T := T) (k := k) hlt)
          have Hst := Lib.hid (cnt_step k T.free)
          have hs := Hs.out
          subst hs
          clear Hs hmk hroom
          go_wp2_with (go_at_call 26; refine (free_at hP.ht k).mono ?_; rintro e w' ⟨rfl, rfl⟩)
          · have hh : freeB T (k : Int) = true := by assumption
            have e : cnt (k + 1) T.free = cnt k T.free + 1 := by rw [Hst.out, ← Hfr.out, hh]; rfl
            go_round
            case rel => exact ⟨k + 1, by omega, by omega, by go_num, by rw [e]; congr 1; omega⟩
            case measure => simp [intOf]; omega
          · have hh : freeB T (k : Int) = false := by assumption
            have e : cnt (k + 1) T.free = cnt k T.free := by rw [Hst.out, ← Hfr.out, hh]; rfl
            go_round
            case rel => exact ⟨k + 1, by omega, by omega, by go_num, by rw [e]⟩
            case measure => simp [intOf]; omega
        · obtain rfl : k = T.n := by omega
          have hs := Hs.out.trans (show Value.int .i64 ((cnt T.n T.free : Int) - (cnt f T.free : Int)) = .int .i64 (q : Int) from congrArg _ Hq.out)
          subst hs
          clear Hs hcl hcl2
          go_wp2_with fail
          refine hroom.mono ?_
          rintro e w' ⟨rfl, rfl⟩
          clear hroom
          go_wp2_with fail
          have hB : (w3.alloc (.cells (zrow T.n (.bool false)) 4)).heap[w3.heap.size]? = some (.cells (bools T.n (fun _ => false)) 4 (0, 0)) := by rw [new_block, zrow_bools]
          have HB := Lib.hid hB
          have hPB := hP.chg ((Chg.refl [] _).alloc (.cells (zrow T.n (.bool false)) 4)) (by simp) (by simp) (by simp) (by simp)
          have HCB := Lib.hid (HC3.out.alloc (.cells (zrow T.n (.bool false)) 4))
          have HBl := HC3.out.size
          have L : w.heap.size ≤ p ∧ w.heap.size ≤ t ∧ w.heap.size ≤ bc ∧ w.heap.size ≤ bk := ⟨hpl, l1, l2, l3⟩
          have hBo : w3.heap.size ∉ [p, t, bc, bk] := by
            have m1 := hP.hp.lt
            have m2 := hP.ht.lt0
            have m3 := hP.ht.lt1
            have m4 := hP.ht.lt2
            simp only [List.mem_cons, List.not_mem_nil, or_false]
            omega
          have HBo := Lib.hid hBo
          clear hB hmk hP HC3 hk1 hk2 hlt hBo
          generalize hBg : w3.heap.size = B at *
          clear hBg
          go_loopw [88] (fun s wr => ∃ (i : Nat) (K' : Pk) (T' : Tal) (g : Nat → Bool), i ≤ q ∧ s = .int .i64 (i : Int) ∧ PT wr p t bc bk K' T' ∧ K'.first = f ∧ T'.n = T.n ∧ roomI T' f = (q : Int) - i ∧
            wr.heap[B]? = some (.cells (bools T.n g) 4 (0, 0)) ∧ (∀ b, g b = true → T'.free b = false) ∧ Chg [] w wr) (fun s _ => q - (intOf s).toNat)
          case atStart => exact ⟨0, _, _, _, Nat.zero_le _, rfl, hPB, rfl, rfl, by rw [Hq.out]; simp, HB.out, (fun b hb => absurd hb (by decide)), HCB.out⟩
          case round =>
            obtain ⟨i, K', T', g, hi, rfl, hPr, hK, hTn, hro, hBr, hg, hCr⟩ := hrel
            have HK := Lib.hid hK
            have HTn := Lib.hid hTn
            have Hro := Lib.hid hro
            have HBr := Lib.hid hBr
            have Hg := Lib.hid hg
            have HCr := Lib.hid hCr
            clear hK hTn hro hBr hg hCr hPB HB HCB
            by_cases hlt : i < q
            · obtain ⟨b, hb1, hb2, hb3, hb4, hb5, hct⟩ := all_take hPr (by rw [HK.out, Hro.out]; omega)
              rw [HK.out] at hb1 hb4
              rw [HTn.out] at hb2
              have hgb : g b = false := by
                cases hgb : g b with
                | false => rfl
                | true => have := Hg.out b hgb; rw [hb3] at this; cases this
              have Hb3 := Lib.hid hb3
              have Hb4 := Lib.hid hb4
              have Hb5 := Lib.hid hb5
              have Hgb := Lib.hid hgb
              clear hb3 hb4 hb5 hgb
              go_wp2_with fail
              refine hct.mono ?_
              clear hct
              rintro e w4 ⟨rfl, hP4, hC4⟩
              have hB4 := (hC4.block B (heap_lt HBr.out) HBo.out).trans HBr.out
              have hc4 := (cell_of_block hB4 b).trans (bools_get hb2)
              rw [Hgb.out] at hc4
              have hf4 := frozen_of_block hB4 b
              have HC4 := Lib.hid (chg_own HCr.out hC4 L)
              have HB4 := Lib.hid hB4
              clear hC4 hB4
              go_wp2_with fail
              refine (took_get (by rw [HTn.out]; exact hb2) hP4.ht).mono ?_
              rintro e w' ⟨rfl, rfl⟩
              go_wp2_with fail
              refine (took_free hP4.ht).mono ?_
              rintro e w' ⟨rfl, rfl⟩
              have hroom4 := hP4.room
              rw [Hb5.out, HK.out, Hb4.out, Hro.out, show (q : Int) - i - 1 = q - 1 - i by omega] at hroom4
              go_wp2_with fail
              refine hroom4.mono ?_
              rintro e w' ⟨rfl, rfl⟩
              clear hroom4
              go_wp2_with fail
              go_roundw
              case rel =>
                refine ⟨i + 1, takeK T' K', T'.set b 1, fun j => if j = b then true else g j, by omega, by go_num, ?_, by rw [Hb5.out, HK.out], HTn.out, by rw [Hb4.out, Hro.out]; omega, ?_, ?_, ?_⟩
                · have hne := HBo.out
                  simp only [List.mem_cons, List.not_mem_nil, or_false, not_or] at hne
                  exact hP4.chg (L := [B]) ((Chg.refl _ _).setCell (.inl (by simp)) _) (by simp; exact fun e => hne.1 e.symm) (by simp; exact fun e => hne.2.1 e.symm) (by simp; exact fun e => hne.2.2.1 e.symm) (by simp; exact fun e => hne.2.2.2 e.symm)
                · rw [setCell_block HB4.out, bools_set hb2]
                · intro j hj
                  rw [set_free]
                  by_cases e : j = b
                  · simp [e]
                  · simp only [e, if_false] at hj
                    rw [Hg.out j hj]; rfl
                · exact HC4.out.setCell (.inr HBl) _
              case measure => simp [intOf]; omega
            · go_wp2_with fail
              refine (all_full hPr (by rw [HK.out, Hro.out]; omega)).mono ?_
              rintro e w4 ⟨rfl, hP4, hC4⟩
              have HC4 := Lib.hid (chg_own HCr.out hC4 L)
              clear hC4
              go_wp2_with fail
              refine (awake09 _).mono ?_
              rintro e w9 ⟨rfl, hC9⟩
              go_wp2_with fail
              go_ret
              exact ⟨rfl, (HC4.out.trans hC9).below (by simp)⟩

end Go.Proofs.Ytgbhofneinmonaa
