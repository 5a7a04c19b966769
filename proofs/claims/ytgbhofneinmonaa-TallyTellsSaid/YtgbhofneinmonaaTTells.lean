/- catchmentlaw08.TallyTells: the walk. -/
import Derived.Test.YtgbhofneinmonaaRef8B
import Derived.Test.YtgbhofneinmonaaTNone
import Derived.Deep.DeepCutAuto
import Derived.Deep.CutBlock
import Derived.Deep.LoopGhost
namespace Go.Proofs.Ytgbhofneinmonaa
open Go.RowKit
set_option linter.unusedVariables false
set_option linter.unusedSimpArgs false

theorem RN.get {A : List Nat} {w : World} {g m c n : Nat} {f : Nat → Nat} (h : RN A w (.slice (some ⟨g, 0, none⟩) m c) n f) : m = n ∧ n ≤ c ∧ c ≤ maxLen ∧ ∀ i, i < n → w.cell? ⟨g, i, none⟩ = some (.int .i64 (f i : Int)) := by
  obtain ⟨g', c', hv, h1, h2, _, _, h5⟩ := h
  injection hv with e1 e2 e3
  injection e1 with e1
  injection e1 with e1
  subst e1 e2 e3
  exact ⟨rfl, h1, h2, h5⟩
theorem chgs_le (T : Tal) : (chgs T).length ≤ T.n := by
  have := List.length_filter_le T.changed (List.range T.n)
  simpa [chgs] using this

theorem st2 {w : World} {b : Nat} {c0 c1 : Value} (h : w.heap[b]? = some (.cells #[c0, c1] 52 (0, 0))) (x y : Value) :
    ((w.setCell ⟨b, 0, none⟩ x).setCell ⟨b, 1, none⟩ y).heap[b]? = some (.cells #[x, y] 52 (0, 0)) ∧ Chg [b] w ((w.setCell ⟨b, 0, none⟩ x).setCell ⟨b, 1, none⟩ y) := by
  refine ⟨?_, ((Chg.refl _ _).setCell (.inl (by simp)) _).setCell (.inl (by simp)) _⟩
  rw [setCell_block (setCell_block h 0 x) 1 y]
  rfl

set_option maxRecDepth 20000 in
set_option maxHeartbeats 16000000 in
theorem tallyTells_walk (x : Int) (a : Option Addr) (len cap : Nat) (z : Nat → Int × Int) (w : World) (hx : (Lit.int .i64 x).wf = true) (hr : IsOps w a len cap z) :
    Calls Try.prog 8 #[.int .i64 x, .slice a len cap] w fun e w' => e = .returned (.bool true) ∧ Below w.heap.size w w' := by
  obtain ⟨hlc, hcm, hnil, hop⟩ := hr
  have Hop := Lib.hid hop
  have Hnil := Lib.hid hnil
  have hcm' : cap ≤ 9223372036854775807 := by unfold maxLen at hcm; omega
  clear hop hnil hcm
  by_cases hbad : x < 1 ∨ 4096 < x
  · have Hbad := Lib.hid hbad
    clear hbad
    go_enter Try.func8, Try.ntmps8
    go_wp2_with fail
    refine (tnew_bad x _ Hbad.out).mono ?_
    rintro e w' ⟨rfl, rfl⟩
    go_wp2_with fail
    refine (r8new_bad x _ Hbad.out).mono ?_
    rintro e w2 ⟨rfl, hC⟩
    have HC := Lib.hid hC
    clear hC
    have hv : ∀ W, NoTally W (.pointer none) := fun W => .inl rfl
    go_wp2_with (first
        | (go_at_call 31; refine (not_blocks (hv _)).mono ?_; rintro e w' ⟨rfl, rfl⟩)
        | (go_at_call 32; refine (not_frees (hv _)).mono ?_; rintro e w' ⟨rfl, rfl⟩)
        | (go_at_call 29; refine (not_waits (hv _)).mono ?_; rintro e w' ⟨rfl, rfl⟩))
    refine (awake08 _).mono ?_
    rintro e w9 ⟨rfl, hC9⟩
    go_wp2_with fail
    go_ret
    exact ⟨rfl, ((HC.out.alloc _).trans hC9).below (by simp)⟩
  · obtain ⟨n, rfl⟩ := Int.eq_ofNat_of_zero_le (show 0 ≤ x by omega)
    have hn1 : 1 ≤ n := by omega
    have hn2 : n ≤ 4096 := by omega
    clear hbad hx
    go_enter Try.func8, Try.ntmps8
    go_wp2_with fail
    refine (tnew_ex n _ hn1 hn2).mono ?_
    rintro e w1 ⟨t, bc, bk, rfl, hT, hC1, l1, l2, l3⟩
    have q0 := hT.lt0
    have q1 := hT.lt1
    have q2 := hT.lt2
    go_wp2_with fail
    refine (r8new_at n w1 [t, bc, bk] (by simp; omega) hn1 hn2).mono ?_
    rintro e w2 ⟨v1, v2, rfl, hR, hC2⟩
    obtain ⟨g1, c1, hv1, _⟩ := hR.now
    replace hv1 : v1 = .slice (some ⟨g1, 0, none⟩) n c1 := hv1
    obtain ⟨g2, c2, hv2, _⟩ := hR.kept
    replace hv2 : v2 = .slice (some ⟨g2, 0, none⟩) n c2 := hv2
    subst hv1 hv2
    have hT2 := (hT.chg hC2 (by simp) (by simp) (by simp)).chg ((Chg.refl [] w2).alloc (.cells #[.slice (some ⟨g1, 0, none⟩) n c1, .slice (some ⟨g2, 0, none⟩) n c2] 52)) (by simp) (by simp) (by simp)
    have hs2 := hC2.size
    have HR2 := Lib.hid ((hR.more (B := [t, bc, bk, w2.heap.size]) (by simp)).chg ((Chg.refl [] w2).alloc (.cells #[.slice (some ⟨g1, 0, none⟩) n c1, .slice (some ⟨g2, 0, none⟩) n c2] 52)) (by simp))
    have HM := Lib.hid (new_block w2 (.cells #[.slice (some ⟨g1, 0, none⟩) n c1, .slice (some ⟨g2, 0, none⟩) n c2] 52))
    have HC2 := Lib.hid ((hC1.trans hC2).alloc (.cells #[.slice (some ⟨g1, 0, none⟩) n c1, .slice (some ⟨g2, 0, none⟩) n c2] 52))
    have L : w.heap.size ≤ t ∧ w.heap.size ≤ bc ∧ w.heap.size ≤ bk := ⟨l1, l2, l3⟩
    have hbl : w2.heap.size < (w2.alloc (.cells #[.slice (some ⟨g1, 0, none⟩) n c1, .slice (some ⟨g2, 0, none⟩) n c2] 52)).heap.size := by simp
    have m3 : w.heap.size ≤ w2.heap.size := Nat.le_trans hC1.size hs2
    clear hC1 hC2 hT hR
    go_upto_region 7 with fail
    generalize w2.alloc (.cells #[.slice (some ⟨g1, 0, none⟩) n c1, .slice (some ⟨g2, 0, none⟩) n c2] 52) = W at *
    have nm0 : t ≠ w2.heap.size := by omega
    have nm1 : bc ≠ w2.heap.size := by omega
    have nm2 : bk ≠ w2.heap.size := by omega
    generalize w2.heap.size = bm at *
    go_cut [50, 51, 52] (fun s l i wx => ∃ m : Nat, m ≤ 120 ∧ m ≤ len ∧ s = .slice a m cap ∧ l = .int .i64 (m : Int) ∧ i = .int .i64 0 ∧ wx = W)
    case first =>
      have h60 : 120 < len ∨ len ≤ 120 := by omega
      rcases h60 with h60 | h60
      · go_wp2_with fail
        go_meet
        exact ⟨120, by omega, by omega, by congr 1; omega, by congr 1; omega, rfl, rfl⟩
      · cases a with
        | none =>
          obtain ⟨rfl, rfl⟩ := Hnil.out rfl
          go_wp2_with fail
          go_meet
          exact ⟨0, by omega, by omega, rfl, rfl, rfl, rfl⟩
        | some a =>
          go_wp2_with fail
          go_meet
          exact ⟨len, by omega, by omega, by congr 1; omega, by congr 1; omega, rfl, rfl⟩
    case rest =>
      obtain ⟨m, hm1, hm2, rfl, rfl, rfl, rfl⟩ := hcut
      go_wp2_with fail
      go_loopg [52] m (fun g i wr => ∃ j : Nat, j ≤ m ∧ g = m - j ∧ i = .int .i64 (j : Int) ∧ ∃ T v1 v2, TallyAt wr t bc bk T ∧ T.n = n ∧ wr.heap[bm]? = some (.cells #[v1, v2] 52 (0, 0)) ∧ RefT [t, bc, bk, bm] wr v1 v2 T ∧ Chg [] w wr)
      case atStart => exact ⟨0, Nat.zero_le _, rfl, rfl, _, _, _, hT2, rfl, HM.out, HR2.out, HC2.out⟩
      case round =>
        obtain ⟨j, hj, hgh, rfl, T, v1, v2, hTr, hTn, hM, hR, hCr⟩ := hrel
        have Hgh := Lib.hid hgh
        clear hgh
        subst hTn
        obtain ⟨wo, rfl⟩ : ∃ wo : World, wo = wr := ⟨_, rfl⟩
        have HCr := Lib.hid hCr
        clear hT2 HM HR2 HC2
        by_cases hlt : j < m
        · obtain ⟨b, off, rfl, hbl', hc0, hc1, hw0, hw1⟩ := Hop.out j (by omega)
          have k0 := (hCr.cell (p := ⟨b, off + j * 2, none⟩) hbl' (by simp)).trans hc0
          have k1 := (hCr.cell (p := ⟨b, off + j * 2 + 1, none⟩) hbl' (by simp)).trans hc1
          obtain ⟨hd0, hd1⟩ := bd_u8 hw0
          obtain ⟨hB0, hB1⟩ := bd_i64 hw1
          generalize (z j).1 = d at *
          generalize (z j).2 = B at *
          obtain ⟨g1, c1, rfl, r1, r2, r3, r4, r5⟩ := hR.now
          obtain ⟨g2, c2, rfl, s1, s2, s3, s4, s5⟩ := hR.kept
          have hW := (Chg.refl [] wo).alloc (.cells #[.int .u8 d, .int .i64 B] 56)
          have hTW := hTr.chg hW (by simp) (by simp) (by simp)
          have HRW := Lib.hid (hR.chg hW (by simp))
          have hMW := (hW.block bm (heap_lt hM) (by simp)).trans hM
          have HOW := Lib.hid (new_block wo (.cells #[.int .u8 d, .int .i64 B] 56))
          have HCW := Lib.hid (HCr.out.trans hW)
          have e0 := cell_of_block hMW 0
          have e1 := cell_of_block hMW 1
          have f0 := frozen_of_block hMW 0
          have f1 := frozen_of_block hMW 1
          simp only [List.getElem?_toArray, List.getElem?_cons_zero, List.getElem?_cons_succ] at e0 e1
          have hbo := heap_lt hM
          have HMW := Lib.hid hMW
          have Hr5 := Lib.hid r5
          have Hs5 := Lib.hid s5
          have q0 := hTr.lt0
          have q1 := hTr.lt1
          have q2 := hTr.lt2
          clear hM hR hTr hMW hW hc0 hc1 hw0 hw1 hCr r5 s5
          have hmod : d % 4 = 0 ∨ d % 4 = 1 ∨ d % 4 = 2 ∨ d % 4 = 3 := by omega
          go_upto_block 2 with fail
          go_cut [] (fun wx => ∃ T5 x1 x2, TallyAt wx t bc bk T5 ∧ T5.n = T.n ∧ wx.heap[bm]? = some (.cells #[x1, x2] 52 (0, 0)) ∧ RefT [t, bc, bk, bm] wx x1 x2 T5 ∧ wx.heap[wo.heap.size]? = some (.cells #[.int .u8 d, .int .i64 B] 56 (0, 0)) ∧ Chg [] w wx)
          case first =>
            as_aux_lemma =>
            rcases hmod with hm | hm | hm | hm
            case inl =>
              have d0 : (d % 4 == 0) = true := by simp; omega
              have d1 : (d % 4 == 1) = false := by simp; omega
              have d2 : (d % 4 == 2) = false := by simp; omega
              have Hm := Lib.hid hm
              clear hm
              go_wp2_with fail
              refine (r8up HRW.out (by simp; omega) B).mono ?_
              rintro e w3 ⟨u1, rfl, hR3, hC3⟩
              obtain ⟨g3, c3, hu, _⟩ := hR3.now
              rw [up_n] at hu
              subst hu
              have hA3 := hC3.alloc (.cells #[.slice (some ⟨g3, 0, none⟩) T.n c3, .slice (some ⟨g2, 0, none⟩) T.n c2] 52)
              have hT3 := hTW.chg hA3 (by simp) (by simp) (by simp)
              have HR3 := Lib.hid (hR3.chg ((Chg.refl [] w3).alloc (.cells #[.slice (some ⟨g3, 0, none⟩) T.n c3, .slice (some ⟨g2, 0, none⟩) T.n c2] 52)) (by simp))
              have HM3 := Lib.hid ((hA3.block bm (heap_lt HMW.out) (by simp)).trans HMW.out)
              have HN3 := Lib.hid (new_block w3 (.cells #[.slice (some ⟨g3, 0, none⟩) T.n c3, .slice (some ⟨g2, 0, none⟩) T.n c2] 52))
              have HO3 := Lib.hid ((hA3.block wo.heap.size (heap_lt HOW.out) (by simp)).trans HOW.out)
              have o1 := cell_of_block HO3.out 1
              simp only [List.getElem?_toArray, List.getElem?_cons_zero, List.getElem?_cons_succ] at o1
              have HC3 := Lib.hid (HCW.out.trans hA3)
              have s3 := hC3.size
              simp only [size_alloc'] at s3
              clear hC3 hR3 hTW hA3 e0 e1 f0 f1 k0 k1
              go_wp2_with fail
              refine (up_at hT3 B).mono ?_
              rintro e w4 ⟨rfl, hT4, hC4⟩
              have HM4 := Lib.hid ((hC4.block bm (heap_lt HM3.out) (by simp; omega)).trans HM3.out)
              have HN4 := Lib.hid ((hC4.block w3.heap.size (heap_lt HN3.out) (by simp; omega)).trans HN3.out)
              have HO4 := Lib.hid ((hC4.block wo.heap.size (heap_lt HO3.out) (by simp; omega)).trans HO3.out)
              have HR4 := Lib.hid (HR3.out.chg hC4 (by simp))
              have HC4 := Lib.hid (chg_own3 HC3.out hC4 L)
              have y0 := cell_of_block HN4.out 0
              have y1 := cell_of_block HN4.out 1
              have z0 := cell_of_block HM4.out 0
              have z1 := cell_of_block HM4.out 1
              have f0 := frozen_of_block HM4.out 0
              have f1 := frozen_of_block HM4.out 1
              simp only [List.getElem?_toArray, List.getElem?_cons_zero, List.getElem?_cons_succ] at y0 y1 z0 z1
              have Hn5 := Lib.hid (up_n T B)
              clear hC4 o1 hT3
              go_wp2_with fail
              have hS := st2 HM4.out (.slice (some ⟨g3, 0, none⟩) T.n c3) (.slice (some ⟨g2, 0, none⟩) T.n c2)
              have M5 := Lib.hid hS.1
              have hT5 := hT4.chg hS.2 (by simp; omega) (by simp; omega) (by simp; omega)
              have R5 := Lib.hid (HR4.out.chg hS.2 (by simp))
              have O5 := Lib.hid ((hS.2.block wo.heap.size (heap_lt HO4.out) (by simp; omega)).trans HO4.out)
              have C5 := Lib.hid (HC4.out.then hS.2 (by simp; omega))
              clear hS hT4 y0 y1 z0 z1 f0 f1
              generalize (w4.setCell ⟨bm, 0, none⟩ (.slice (some ⟨g3, 0, none⟩) T.n c3)).setCell ⟨bm, 1, none⟩ (.slice (some ⟨g2, 0, none⟩) T.n c2) = W5 at *
              generalize up T B = T5 at *
              go_meet
              exact ⟨T5, _, _, hT5, Hn5.out, M5.out, R5.out, O5.out, C5.out⟩
            case inr.inl =>
              have d0 : (d % 4 == 0) = false := by simp; omega
              have d1 : (d % 4 == 1) = true := by simp; omega
              have d2 : (d % 4 == 2) = false := by simp; omega
              have Hm := Lib.hid hm
              clear hm
              go_wp2_with fail
              refine (r8down HRW.out (by simp; omega) B).mono ?_
              rintro e w3 ⟨u1, rfl, hR3, hC3⟩
              obtain ⟨g3, c3, hu, _⟩ := hR3.now
              rw [down_n] at hu
              subst hu
              have hA3 := hC3.alloc (.cells #[.slice (some ⟨g3, 0, none⟩) T.n c3, .slice (some ⟨g2, 0, none⟩) T.n c2] 52)
              have hT3 := hTW.chg hA3 (by simp) (by simp) (by simp)
              have HR3 := Lib.hid (hR3.chg ((Chg.refl [] w3).alloc (.cells #[.slice (some ⟨g3, 0, none⟩) T.n c3, .slice (some ⟨g2, 0, none⟩) T.n c2] 52)) (by simp))
              have HM3 := Lib.hid ((hA3.block bm (heap_lt HMW.out) (by simp)).trans HMW.out)
              have HN3 := Lib.hid (new_block w3 (.cells #[.slice (some ⟨g3, 0, none⟩) T.n c3, .slice (some ⟨g2, 0, none⟩) T.n c2] 52))
              have HO3 := Lib.hid ((hA3.block wo.heap.size (heap_lt HOW.out) (by simp)).trans HOW.out)
              have o1 := cell_of_block HO3.out 1
              simp only [List.getElem?_toArray, List.getElem?_cons_zero, List.getElem?_cons_succ] at o1
              have HC3 := Lib.hid (HCW.out.trans hA3)
              have s3 := hC3.size
              simp only [size_alloc'] at s3
              clear hC3 hR3 hTW hA3 e0 e1 f0 f1 k0 k1
              go_wp2_with fail
              refine (down_at hT3 B).mono ?_
              rintro e w4 ⟨rfl, hT4, hC4⟩
              have HM4 := Lib.hid ((hC4.block bm (heap_lt HM3.out) (by simp; omega)).trans HM3.out)
              have HN4 := Lib.hid ((hC4.block w3.heap.size (heap_lt HN3.out) (by simp; omega)).trans HN3.out)
              have HO4 := Lib.hid ((hC4.block wo.heap.size (heap_lt HO3.out) (by simp; omega)).trans HO3.out)
              have HR4 := Lib.hid (HR3.out.chg hC4 (by simp))
              have HC4 := Lib.hid (chg_own3 HC3.out hC4 L)
              have y0 := cell_of_block HN4.out 0
              have y1 := cell_of_block HN4.out 1
              have z0 := cell_of_block HM4.out 0
              have z1 := cell_of_block HM4.out 1
              have f0 := frozen_of_block HM4.out 0
              have f1 := frozen_of_block HM4.out 1
              simp only [List.getElem?_toArray, List.getElem?_cons_zero, List.getElem?_cons_succ] at y0 y1 z0 z1
              have Hn5 := Lib.hid (down_n T B)
              clear hC4 o1 hT3
              go_wp2_with fail
              have hS := st2 HM4.out (.slice (some ⟨g3, 0, none⟩) T.n c3) (.slice (some ⟨g2, 0, none⟩) T.n c2)
              have M5 := Lib.hid hS.1
              have hT5 := hT4.chg hS.2 (by simp; omega) (by simp; omega) (by simp; omega)
              have R5 := Lib.hid (HR4.out.chg hS.2 (by simp))
              have O5 := Lib.hid ((hS.2.block wo.heap.size (heap_lt HO4.out) (by simp; omega)).trans HO4.out)
              have C5 := Lib.hid (HC4.out.then hS.2 (by simp; omega))
              clear hS hT4 y0 y1 z0 z1 f0 f1
              generalize (w4.setCell ⟨bm, 0, none⟩ (.slice (some ⟨g3, 0, none⟩) T.n c3)).setCell ⟨bm, 1, none⟩ (.slice (some ⟨g2, 0, none⟩) T.n c2) = W5 at *
              generalize down T B = T5 at *
              go_meet
              exact ⟨T5, _, _, hT5, Hn5.out, M5.out, R5.out, O5.out, C5.out⟩
            case inr.inr.inl =>
              have d0 : (d % 4 == 0) = false := by simp; omega
              have d1 : (d % 4 == 1) = false := by simp; omega
              have d2 : (d % 4 == 2) = true := by simp; omega
              have Hm := Lib.hid hm
              clear hm
              go_wp2_with fail
              refine (keep_at hTW).mono ?_
              rintro e w4 ⟨rfl, hT4, hC4'⟩
              have hC4 := hC4'.mono (L' := [t, bc, bk]) (by simp)
              have HM4 := Lib.hid ((hC4.block bm (heap_lt HMW.out) (by simp; omega)).trans HMW.out)
              have HO4 := Lib.hid ((hC4.block wo.heap.size (heap_lt HOW.out) (by simp; omega)).trans HOW.out)
              have hR4 := HRW.out.chg hC4 (by simp)
              have HC4 := Lib.hid (chg_own3 HCW.out hC4 L)
              have z0 := cell_of_block HM4.out 0
              have z1 := cell_of_block HM4.out 1
              simp only [List.getElem?_toArray, List.getElem?_cons_zero, List.getElem?_cons_succ] at z0 z1
              have Hn5 : Hid (T.keep.n = T.n) := Lib.hid rfl
              clear hC4 hC4' hTW e0 e1 f0 f1 k0 k1
              go_wp2_with fail
              refine (r8keep_at hR4).mono ?_
              rintro e w6 ⟨rfl, hR6, hC6⟩
              have hT6 := hT4.chg hC6 (by simp) (by simp) (by simp)
              have HM6 := Lib.hid ((hC6.block bm (heap_lt HM4.out) (by simp)).trans HM4.out)
              have HO6 := Lib.hid ((hC6.block wo.heap.size (heap_lt HO4.out) (by simp)).trans HO4.out)
              have HC6 := Lib.hid (HC4.out.trans hC6)
              have z2 := cell_of_block HM6.out 0
              have z3 := cell_of_block HM6.out 1
              have f0 := frozen_of_block HM6.out 0
              have f1 := frozen_of_block HM6.out 1
              simp only [List.getElem?_toArray, List.getElem?_cons_zero, List.getElem?_cons_succ] at z2 z3
              clear hC6 z0 z1 hT4 hR4
              go_wp2_with fail
              have hS := st2 HM6.out (.slice (some ⟨g1, 0, none⟩) T.n c1) (.slice (some ⟨g1, 0, none⟩) T.n c1)
              have M5 := Lib.hid hS.1
              have hT5 := hT6.chg hS.2 (by simp; omega) (by simp; omega) (by simp; omega)
              have R5 := Lib.hid (hR6.chg hS.2 (by simp))
              have O5 := Lib.hid ((hS.2.block wo.heap.size (heap_lt HO6.out) (by simp; omega)).trans HO6.out)
              have C5 := Lib.hid (HC6.out.then hS.2 (by simp; omega))
              clear hS hT6 hR6 z2 z3 f0 f1
              generalize (w6.setCell ⟨bm, 0, none⟩ (.slice (some ⟨g1, 0, none⟩) T.n c1)).setCell ⟨bm, 1, none⟩ (.slice (some ⟨g1, 0, none⟩) T.n c1) = W5 at *
              generalize T.keep = T5 at *
              go_meet
              exact ⟨T5, _, _, hT5, Hn5.out, M5.out, R5.out, O5.out, C5.out⟩
            case inr.inr.inr =>
              have d0 : (d % 4 == 0) = false := by simp; omega
              have d1 : (d % 4 == 1) = false := by simp; omega
              have d2 : (d % 4 == 2) = false := by simp; omega
              have Hm := Lib.hid hm
              clear hm
              go_wp2_with fail
              refine (back_at hTW).mono ?_
              rintro e w4 ⟨rfl, hT4, hC4'⟩
              have hC4 := hC4'.mono (L' := [t, bc, bk]) (by simp)
              have HM4 := Lib.hid ((hC4.block bm (heap_lt HMW.out) (by simp; omega)).trans HMW.out)
              have HO4 := Lib.hid ((hC4.block wo.heap.size (heap_lt HOW.out) (by simp; omega)).trans HOW.out)
              have hR4 := HRW.out.chg hC4 (by simp)
              have HC4 := Lib.hid (chg_own3 HCW.out hC4 L)
              have z0 := cell_of_block HM4.out 0
              have z1 := cell_of_block HM4.out 1
              simp only [List.getElem?_toArray, List.getElem?_cons_zero, List.getElem?_cons_succ] at z0 z1
              have Hn5 : Hid (T.back.n = T.n) := Lib.hid rfl
              clear hC4 hC4' hTW e0 e1 f0 f1 k0 k1
              go_wp2_with fail
              refine (r8back_at hR4).mono ?_
              rintro e w6 ⟨rfl, hR6, hC6⟩
              have hT6 := hT4.chg hC6 (by simp) (by simp) (by simp)
              have HM6 := Lib.hid ((hC6.block bm (heap_lt HM4.out) (by simp)).trans HM4.out)
              have HO6 := Lib.hid ((hC6.block wo.heap.size (heap_lt HO4.out) (by simp)).trans HO4.out)
              have HC6 := Lib.hid (HC4.out.trans hC6)
              have z2 := cell_of_block HM6.out 0
              have z3 := cell_of_block HM6.out 1
              have f0 := frozen_of_block HM6.out 0
              have f1 := frozen_of_block HM6.out 1
              simp only [List.getElem?_toArray, List.getElem?_cons_zero, List.getElem?_cons_succ] at z2 z3
              clear hC6 z0 z1 hT4 hR4
              go_wp2_with fail
              have hS := st2 HM6.out (.slice (some ⟨g2, 0, none⟩) T.n c2) (.slice (some ⟨g2, 0, none⟩) T.n c2)
              have M5 := Lib.hid hS.1
              have hT5 := hT6.chg hS.2 (by simp; omega) (by simp; omega) (by simp; omega)
              have R5 := Lib.hid (hR6.chg hS.2 (by simp))
              have O5 := Lib.hid ((hS.2.block wo.heap.size (heap_lt HO6.out) (by simp; omega)).trans HO6.out)
              have C5 := Lib.hid (HC6.out.then hS.2 (by simp; omega))
              clear hS hT6 hR6 z2 z3 f0 f1
              generalize (w6.setCell ⟨bm, 0, none⟩ (.slice (some ⟨g2, 0, none⟩) T.n c2)).setCell ⟨bm, 1, none⟩ (.slice (some ⟨g2, 0, none⟩) T.n c2) = W5 at *
              generalize T.back = T5 at *
              go_meet
              exact ⟨T5, _, _, hT5, Hn5.out, M5.out, R5.out, O5.out, C5.out⟩
          case rest =>
            obtain ⟨T5, p1, p2, hT5, hn5, hM5, hR5, hO5, hC5⟩ := hcut
            have M5 := Lib.hid hM5
            have O5 := Lib.hid hO5
            have R5 := Lib.hid hR5
            have C5 := Lib.hid hC5
            have Hn5 := Lib.hid hn5
            obtain ⟨u1, d1, hu1, _⟩ := hR5.now
            obtain ⟨u2, d2, hu2, _⟩ := hR5.kept
            subst hu1 hu2
            have x0 := cell_of_block M5.out 0
            have x1 := cell_of_block M5.out 1
            simp only [List.getElem?_toArray, List.getElem?_cons_zero, List.getElem?_cons_succ] at x0 x1
            clear hM5 hO5 hR5 hC5 hn5 hTW e0 e1 f0 f1 k0 k1
            go_wp2_with fail
            refine (r8count R5.out).mono ?_
            rintro e w7 ⟨sv, rfl, hS7, hSb, hC7⟩
            have hT7 := hT5.chg hC7 (by simp) (by simp) (by simp)
            have M7 := Lib.hid ((hC7.block bm (heap_lt M5.out) (by simp)).trans M5.out)
            have O7 := Lib.hid ((hC7.block wo.heap.size (heap_lt O5.out) (by simp)).trans O5.out)
            have R7 := Lib.hid (R5.out.chg hC7 (by simp))
            have C7 := Lib.hid (C5.out.trans hC7)
            obtain ⟨sa, sc, rfl⟩ := hS7.len
            have HS7 := Lib.hid hS7
            have hcl := chgs_le T5
            have hn2 := hT7.n2
            have hlb : (chgs T5).length ≤ 4096 := by omega
            have hT7d : TallyAt w7.drew t bc bk T5 := hT7.chg (Chg.drew (Chg.refl [] _)) (by simp) (by simp) (by simp)
            clear x0 x1
            have x0 := cell_of_block M7.out 0
            have x1 := cell_of_block M7.out 1
            simp only [List.getElem?_toArray, List.getElem?_cons_zero, List.getElem?_cons_succ] at x0 x1
            clear hC7 hSb hS7 hT5 R5 C5 O5 M5
            go_upto_region 27 with fail
            go_cut [131] (fun c wx => c = .bool false ∧ TallyAt wx t bc bk T5 ∧ Chg [] w7 wx)
            case first =>
              as_aux_lemma =>
              go_region_with (first
                | (go_at_call 32; refine (frees_at hT7d).mono ?_; rintro e w' ⟨rfl, rfl⟩)
                | (go_at_call 29; refine (waits_at hT7d).mono ?_; rintro e w' ⟨rfl, rfl⟩)
                | (go_at_call 40; refine (changed_sl hT7d).mono ?_; rintro e w8 ⟨cv, rfl, hS8, hb8, hC8⟩; obtain ⟨ca, cc, rfl⟩ := hS8.len; have hs7 : SlI w8 (.slice sa (chgs T5).length sc) (chgs T5) := HS7.out.chg ((Chg.drew (Chg.refl [] _)).trans hC8) (by simp); have hT8 := hT7d.chg hC8 (by simp) (by simp) (by simp); have x8 := (hC8.cell (p := ⟨bm, 0, none⟩) (heap_lt (w := w7) M7.out) (by simp)).trans x0; have HS8 := Lib.hid hS8; have Hs7 := Lib.hid hs7; have HC8 := Lib.hid hC8; clear hS8 hs7 hb8 hC8)
                | (go_at_call 39; refine (same_at HS8.out Hs7.out hlb hlb).mono ?_; rintro e w9 ⟨rfl, hC9⟩; have hT9 := hT8.chg hC9 (by simp) (by simp) (by simp); have x9 := (hC9.cell (p := ⟨bm, 0, none⟩) (World.block_lt_of_cell? _ _ x8) (by simp)).trans x8; have HC9 := Lib.hid hC9; clear hC9)
                | (go_at_call 31; refine (blocks_at hT9).mono ?_; rintro e w' ⟨rfl, rfl⟩))
              all_goals (go_wp2_with fail; go_meet; exact ⟨rfl, hT9, ((Chg.drew (Chg.refl [] _)).trans HC8.out).trans HC9.out⟩)
            case rest =>
              obtain ⟨rfl, hT9, hC9⟩ := hcut
              have M9 := (hC9.block bm (heap_lt M7.out) (by simp)).trans M7.out
              have O9 := (hC9.block wo.heap.size (heap_lt O7.out) (by simp)).trans O7.out
              have R9 := R7.out.chg hC9 (by simp)
              have C9 := Lib.hid (C7.out.trans hC9)
              have y0 := cell_of_block M9 0
              have y1 := cell_of_block M9 1
              have o1 := cell_of_block O9 1
              simp only [List.getElem?_toArray, List.getElem?_cons_zero, List.getElem?_cons_succ] at y0 y1 o1
              obtain ⟨en1, cn1, cm1, G1⟩ := R9.now.get
              obtain ⟨en2, cn2, cm2, G2⟩ := R9.kept.get
              have b1 := R9.b1
              have b2 := R9.b2
              have HM9 := Lib.hid M9
              have HR9 := Lib.hid R9
              have Hb1 := Lib.hid b1
              have Hb2 := Lib.hid b2
              have HG1 := Lib.hid G1
              have HG2 := Lib.hid G2
              have HQ := Lib.hid (show ∀ n : Nat, TallyAt (wc.drewN n) t bc bk T5 from fun n => hT9.chg (Chg.drewN (Chg.refl [] _) n) (by simp) (by simp) (by simp))
              clear M9 O9 R9 b1 b2 G1 G2 x0 x1 hC9 hT7d HS7
              by_cases hin : 0 ≤ B ∧ B < (T5.n : Int)
              · obtain ⟨h0, h1⟩ := hin
                obtain ⟨q, rfl⟩ := Int.eq_ofNat_of_zero_le h0
                have hq : q < T5.n := by omega
                have z1 := HG1.out q hq
                have z2 := HG2.out q hq
                have w1' := Hb1.out q hq
                have w2' := Hb2.out q hq
                have cg : ∀ n : Nat, Calls Try.prog 27 #[.pointer (some ⟨t, 0, none⟩), .int .i64 (q : Int)] (wc.drewN n) fun e w' => e = .returned (.int .i64 (T5.now q : Int)) ∧ wc.drewN n = w' := fun n => get_nat (HQ.out n) hq
                have cf : ∀ n : Nat, Calls Try.prog 26 #[.pointer (some ⟨t, 0, none⟩), .int .i64 (q : Int)] (wc.drewN n) fun e w' => e = .returned (.bool (T5.free q)) ∧ wc.drewN n = w' := fun n => free_nat (HQ.out n) hq
                cases hf : T5.free q with
                | true =>
                  as_aux_lemma =>
                  have hz : T5.now q = 0 ∧ T5.kept q = 0 := by simpa [Tal.free] using hf
                  rw [hz.1] at z1 cg
                  rw [hz.2] at z2
                  rw [hf] at cf
                  have Hcg := Lib.hid cg
                  have Hcf := Lib.hid cf
                  clear hz hf cg cf w1' w2'
                  go_wp2_with fail
                  go_quiet ((first | (go_at_call 27; exact quiet_left (Hcg.out _)) | (go_at_call 26; exact quiet_left (Hcf.out _))))
                  go_wp2_with fail
                  go_roundg (m - (j + 1))
                  case measure => have := Hgh.out; omega
                  case rel => exact ⟨j + 1, by omega, rfl, by go_num, T5, _, _, HQ.out _, Hn5.out, HM9.out, HR9.out.chg (Chg.drewN (Chg.refl [] _) _) (by simp), C9.out.drewN _⟩
                | false =>
                  as_aux_lemma =>
                  have hz : ¬ (T5.now q = 0 ∧ T5.kept q = 0) := by
                    intro h
                    have : T5.free q = true := by simp [Tal.free, h.1, h.2]
                    rw [hf] at this
                    cases this
                  rw [hf] at cf
                  have Hcg := Lib.hid cg
                  have Hcf := Lib.hid cf
                  have t1 : (((T5.now q : Int) + (T5.kept q : Int)) == 0) = false := by simp; omega
                  have t2 : IntKind.i64.wrap ((T5.now q : Int) + (T5.kept q : Int)) = (T5.now q : Int) + (T5.kept q : Int) := IntWalk.i64_in _ (by omega)
                  clear hz hf cg cf
                  go_wp2_with fail
                  go_quiet ((first | (go_at_call 27; exact quiet_left (Hcg.out _)) | (go_at_call 26; exact quiet_left (Hcf.out _))))
                  go_wp2_with fail
                  go_roundg (m - (j + 1))
                  case measure => have := Hgh.out; omega
                  case rel => exact ⟨j + 1, by omega, rfl, by go_num, T5, _, _, HQ.out _, Hn5.out, HM9.out, HR9.out.chg (Chg.drewN (Chg.refl [] _) _) (by simp), C9.out.drewN _⟩
              · as_aux_lemma =>
                have hno : hasB T5 B = false := by simp [hasB]; omega
                have e1 : getV T5 B = 0 := by simp [getV, hno]
                have e2 : freeB T5 B = false := by simp [freeB, hno]
                have cg : ∀ n : Nat, Calls Try.prog 27 #[.pointer (some ⟨t, 0, none⟩), .int .i64 B] (wc.drewN n) fun e w' => e = .returned (.int .i64 0) ∧ wc.drewN n = w' := fun n => by
                  have := get_at (HQ.out n) B
                  rw [e1] at this
                  exact this
                have cf : ∀ n : Nat, Calls Try.prog 26 #[.pointer (some ⟨t, 0, none⟩), .int .i64 B] (wc.drewN n) fun e w' => e = .returned (.bool false) ∧ wc.drewN n = w' := fun n => by
                  have := free_at (HQ.out n) B
                  rw [e2] at this
                  exact this
                have Hcg := Lib.hid cg
                have Hcf := Lib.hid cf
                have hin2 : B < 0 ∨ (0 ≤ B ∧ ¬ B < (T5.n : Int)) := by omega
                clear cg cf e1 e2 hno hin
                rcases hin2 with hin2 | ⟨hin2, hin3⟩
                all_goals
                  go_wp2_with fail
                  go_quiet ((first | (go_at_call 27; exact quiet_left (Hcg.out _)) | (go_at_call 26; exact quiet_left (Hcf.out _))))
                  go_wp2_with fail
                  go_roundg (m - (j + 1))
                  case measure => have := Hgh.out; omega
                  case rel => exact ⟨j + 1, by omega, rfl, by go_num, T5, _, _, HQ.out _, Hn5.out, HM9.out, HR9.out.chg (Chg.drewN (Chg.refl [] _) _) (by simp), C9.out.drewN _⟩
        · go_wp2_with fail
          refine (awake08 _).mono ?_
          rintro e w9 ⟨rfl, hC9⟩
          go_wp2_with fail
          go_ret
          exact ⟨rfl, (HCr.out.trans hC9).below (by simp)⟩

end Go.Proofs.Ytgbhofneinmonaa
