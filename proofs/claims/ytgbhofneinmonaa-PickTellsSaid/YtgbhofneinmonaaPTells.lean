/- catchmentlaw09.PickTells: the walk. -/
import Derived.Test.YtgbhofneinmonaaRef9T
import Derived.Test.YtgbhofneinmonaaAwk9
import Derived.Test.YtgbhofneinmonaaPNone
import Derived.Test.YtgbhofneinmonaaOps
import Derived.Deep.RegionHeld3
namespace Go.Proofs.Ytgbhofneinmonaa
open Go.RowKit
set_option linter.unusedVariables false
set_option linter.unusedSimpArgs false

theorem PT.back {w : World} {p t bc bk : Nat} {K : Pk} {T : Tal} (h : PT w p t bc bk K T) : Calls Try.prog 36 #[.pointer (some ⟨t, 0, none⟩)] w fun e w' => e = .returned (.tuple #[]) ∧ PT w' p t bc bk K T.back ∧ Chg [p, t, bc, bk] w w' :=
  (back_at h.ht).mono fun _ _ ⟨he, ht', hc⟩ => ⟨he, ⟨h.hp.chg hc (pick_ne h.hp h.ht), ht', h.f, h.n, h.a⟩, hc.mono (by simp)⟩
theorem doneK_first (K : Pk) (n : Int) : (doneK K n).first = K.first := by unfold doneK; split <;> rfl
theorem sto5 {w : World} {b : Nat} {a0 a1 a2 a3 a4 : Value} (h : w.heap[b]? = some (.cells #[a0, a1, a2, a3, a4] 73 (0, 0))) (x0 x1 x2 x3 x4 : Value) :
    (((((w.setCell ⟨b, 0, none⟩ x0).setCell ⟨b, 1, none⟩ x1).setCell ⟨b, 2, none⟩ x2).setCell ⟨b, 3, none⟩ x3).setCell ⟨b, 4, none⟩ x4).heap[b]? = some (.cells #[x0, x1, x2, x3, x4] 73 (0, 0)) ∧
    Chg [b] w (((((w.setCell ⟨b, 0, none⟩ x0).setCell ⟨b, 1, none⟩ x1).setCell ⟨b, 2, none⟩ x2).setCell ⟨b, 3, none⟩ x3).setCell ⟨b, 4, none⟩ x4) := by
  refine ⟨?_, (((((Chg.refl _ _).setCell (.inl (by simp)) _).setCell (.inl (by simp)) _).setCell (.inl (by simp)) _).setCell (.inl (by simp)) _).setCell (.inl (by simp)) _⟩
  rw [setCell_block (setCell_block (setCell_block (setCell_block (setCell_block h 0 x0) 1 x1) 2 x2) 3 x3) 4 x4]
  rfl
theorem sto52 {w : World} {b : Nat} {a0 a1 a2 a3 a4 : Value} (h : w.heap[b]? = some (.cells #[a0, a1, a2, a3, a4] 73 (0, 0))) (x0 x1 : Value) :
    ((w.setCell ⟨b, 0, none⟩ x0).setCell ⟨b, 1, none⟩ x1).heap[b]? = some (.cells #[x0, x1, a2, a3, a4] 73 (0, 0)) ∧ Chg [b] w ((w.setCell ⟨b, 0, none⟩ x0).setCell ⟨b, 1, none⟩ x1) := by
  refine ⟨?_, ((Chg.refl _ _).setCell (.inl (by simp)) _).setCell (.inl (by simp)) _⟩
  rw [setCell_block (setCell_block h 0 x0) 1 x1]
  rfl

set_option maxRecDepth 20000 in
set_option maxHeartbeats 16000000 in
theorem pickTells_walk (x y : Int) (a : Option Addr) (len cap : Nat) (z : Nat → Int × Int) (w : World) (hx : (Lit.int .u8 x).wf = true) (hy : (Lit.int .i64 y).wf = true) (hr : IsOps w a len cap z) :
    Calls Try.prog 14 #[.int .u8 x, .int .i64 y, .slice a len cap] w fun e w' => e = .returned (.bool true) ∧ Below w.heap.size w w' := by
  obtain ⟨hx0, hx1⟩ := bd_u8 hx
  obtain ⟨hlc, hcm, hnil, hop⟩ := hr
  have Hop := Lib.hid hop
  have Hnil := Lib.hid hnil
  have hcm' : cap ≤ 9223372036854775807 := by unfold maxLen at hcm; omega
  clear hop hnil hcm hx hy
  have hn1 : 1 ≤ 1 + x % 40 := by omega
  have hn2 : 1 + x % 40 ≤ 40 := by omega
  obtain ⟨n, hN⟩ := Int.eq_ofNat_of_zero_le (show 0 ≤ 1 + x % 40 by omega)
  have h1 : 1 ≤ n := by omega
  have h2 : n ≤ 40 := by omega
  by_cases hbad : y < 0 ∨ (n : Int) < y
  · have Hbad := Lib.hid hbad
    clear hbad
    go_enter Try.func14, Try.ntmps14
    go_wp2_with fail
    refine (tnew_ex n _ (by omega) (by omega)).mono ?_
    rintro e w1 ⟨t, bc, bk, rfl, hT, hC1, l1, l2, l3⟩
    clear hN
    go_wp2_with fail
    refine (pnew_bad hT y Hbad.out).mono ?_
    rintro e w' ⟨rfl, rfl⟩
    have q0 := hT.lt0
    go_wp2_with fail
    refine (r8new_at n w1 [] (by simp) (by omega) (by omega)).mono ?_
    rintro e w2 ⟨v1, v2, rfl, hR, hC2⟩
    obtain ⟨g1, c1, hv1, _⟩ := hR.now
    replace hv1 : v1 = .slice (some ⟨g1, 0, none⟩) n c1 := hv1
    obtain ⟨g2, c2, hv2, _⟩ := hR.kept
    replace hv2 : v2 = .slice (some ⟨g2, 0, none⟩) n c2 := hv2
    subst hv1 hv2
    have hR2 := hR.chg ((Chg.refl [] w2).alloc (.cells #[.slice (some ⟨g1, 0, none⟩) n c1, .slice (some ⟨g2, 0, none⟩) n c2] 52)) (by simp)
    have HC2 := Lib.hid ((hC1.trans hC2).alloc (.cells #[.slice (some ⟨g1, 0, none⟩) n c1, .slice (some ⟨g2, 0, none⟩) n c2] 52))
    clear hC1 hC2 hR hT
    go_wp2_with fail
    refine (r9new_bad hR2 y (by have := Hbad.out; show y < 0 ∨ (0 ≤ y ∧ (n : Int) < y); omega)).mono ?_
    rintro e w3 ⟨rfl, hC3⟩
    have HC3 := Lib.hid ((HC2.out.trans hC3).alloc (.cells #[.slice none 0 0, .slice none 0 0, .int .i64 0, .int .i64 0, .int .i64 0] 73))
    clear hC3 hR2
    have hv : ∀ W, NoPick W (.pointer none) := fun W => .inl rfl
    go_wp2_with (first
        | (go_at_call 19; refine (nop_room (hv _)).mono ?_; rintro e w' ⟨rfl, rfl⟩)
        | (go_at_call 22; refine (nop_asked (hv _)).mono ?_; rintro e w' ⟨rfl, rfl⟩)
        | (go_at_call 24; refine (nop_next (hv _)).mono ?_; rintro e w' ⟨rfl, rfl⟩))
    refine (awake09 _).mono ?_
    rintro e w9 ⟨rfl, hC9⟩
    go_wp2_with fail
    go_ret
    exact ⟨rfl, (HC3.out.trans hC9).below (by simp)⟩
  · obtain ⟨f, rfl⟩ := Int.eq_ofNat_of_zero_le (show 0 ≤ y by omega)
    have hf : f ≤ n := by omega
    clear hbad
    go_enter Try.func14, Try.ntmps14
    go_wp2_with fail
    refine (tnew_ex n _ (by omega) (by omega)).mono ?_
    rintro e w1 ⟨t, bc, bk, rfl, hT, hC1, l1, l2, l3⟩
    clear hN
    go_wp2_with fail
    refine (pnew_at hT f hf).mono ?_
    rintro e w2 ⟨rfl, hp2, hC2⟩
    have hP : PT w2 w1.heap.size t bc bk ⟨f, f, 0⟩ (Tal.new n) := ⟨hp2, hT.chg hC2 (by simp) (by simp) (by simp), Nat.le_refl _, hf, Nat.zero_le _⟩
    have hpl : w.heap.size ≤ w1.heap.size := hC1.size
    have HC2 := Lib.hid (hC1.trans hC2)
    clear hp2 hC2 hC1 hT
    generalize w1.heap.size = p at *
    have L : w.heap.size ≤ p ∧ w.heap.size ≤ t ∧ w.heap.size ≤ bc ∧ w.heap.size ≤ bk := ⟨hpl, l1, l2, l3⟩
    have q0 := hP.hp.lt
    have q1 := hP.ht.lt0
    have q2 := hP.ht.lt1
    have q3 := hP.ht.lt2
    go_wp2_with fail
    refine (r8new_at n w2 [p, t, bc, bk] (by simp; omega) (by omega) (by omega)).mono ?_
    rintro e w3 ⟨v1, v2, rfl, hR, hC3⟩
    obtain ⟨g1, c1, hv1, _⟩ := hR.now
    replace hv1 : v1 = .slice (some ⟨g1, 0, none⟩) n c1 := hv1
    obtain ⟨g2, c2, hv2, _⟩ := hR.kept
    replace hv2 : v2 = .slice (some ⟨g2, 0, none⟩) n c2 := hv2
    subst hv1 hv2
    have hA3 := hC3.alloc (.cells #[.slice (some ⟨g1, 0, none⟩) n c1, .slice (some ⟨g2, 0, none⟩) n c2] 52)
    have hR3 := hR.chg ((Chg.refl [] w3).alloc (.cells #[.slice (some ⟨g1, 0, none⟩) n c1, .slice (some ⟨g2, 0, none⟩) n c2] 52)) (by simp)
    have hP3 := hP.chg hA3 (by simp) (by simp) (by simp) (by simp)
    have s3 := hA3.size
    have HC3 := Lib.hid (HC2.out.trans hA3)
    clear hC3 hA3 hR hP HC2
    go_wp2_with fail
    refine (r9new_at hR3 f hf).mono ?_
    rintro e w4 ⟨rfl, hC4⟩
    have hR4 := (hR3.chg hC4 (by simp)).more (B := [p, t, bc, bk, w4.heap.size]) (by simp)
    have hR5 := hR4.chg ((Chg.refl [] w4).alloc (.cells #[.slice (some ⟨g1, 0, none⟩) n c1, .slice (some ⟨g2, 0, none⟩) n c2, .int .i64 (f : Int), .int .i64 (f : Int), .int .i64 0] 73)) (by simp)
    have hA4 := hC4.alloc (.cells #[.slice (some ⟨g1, 0, none⟩) n c1, .slice (some ⟨g2, 0, none⟩) n c2, .int .i64 (f : Int), .int .i64 (f : Int), .int .i64 0] 73)
    have hP5 := hP3.chg hA4 (by simp) (by simp) (by simp) (by simp)
    have HC5 := Lib.hid (HC3.out.trans hA4)
    have HM := Lib.hid (new_block w4 (.cells #[.slice (some ⟨g1, 0, none⟩) n c1, .slice (some ⟨g2, 0, none⟩) n c2, .int .i64 (f : Int), .int .i64 (f : Int), .int .i64 0] 73))
    have HR5 := Lib.hid hR5
    have s4 := hC4.size
    have nq : p ≠ w4.heap.size ∧ t ≠ w4.heap.size ∧ bc ≠ w4.heap.size ∧ bk ≠ w4.heap.size := by omega
    have m3 : w.heap.size ≤ w4.heap.size := by omega
    clear hC4 hR4 hR3 hA4 hP3 hR5 HC3
    go_upto_region 10 with fail
    generalize w4.alloc (.cells #[.slice (some ⟨g1, 0, none⟩) n c1, .slice (some ⟨g2, 0, none⟩) n c2, .int .i64 (f : Int), .int .i64 (f : Int), .int .i64 0] 73) = W at *
    generalize w4.heap.size = bq at *
    clear s4 s3 q0 q1 q2 q3
    go_cut [76, 77, 78] (fun s l i wx => ∃ m : Nat, m ≤ 100 ∧ m ≤ len ∧ s = .slice a m cap ∧ l = .int .i64 (m : Int) ∧ i = .int .i64 0 ∧ wx = W)
    case first =>
      have h60 : 100 < len ∨ len ≤ 100 := by omega
      rcases h60 with h60 | h60
      · go_wp2_with fail
        go_meet
        exact ⟨100, by omega, by omega, by congr 1; omega, by congr 1; omega, rfl, rfl⟩
      · cases a with
        | none =>
          obtain ⟨rfl, rfl⟩ := Hnil.out rfl
          go_wp2_with fail
          go_meet
          exact ⟨0, by omega, by omega, rfl, rfl, rfl, rfl⟩
        | some a =>
          go_wp2_with fail
          go_meet
          exact ⟨len, by omega, by omega, by congr 1; omega, by congr 1; omega, rfl, rfl⟩
    case rest =>
      obtain ⟨m, hm1, hm2, rfl, rfl, rfl, rfl⟩ := hcut
      go_wp2_with fail
      go_loopg [78] m (fun g i wr => ∃ j : Nat, j ≤ m ∧ g = m - j ∧ i = .int .i64 (j : Int) ∧ ∃ K T v1 v2, PT wr p t bc bk K T ∧ wr.heap[bq]? = some (.cells #[v1, v2, .int .i64 (K.first : Int), .int .i64 (K.next : Int), .int .i64 (K.asked : Int)] 73 (0, 0)) ∧ RefT [p, t, bc, bk, bq] wr v1 v2 T ∧ Chg [] w wr)
      case atStart => exact ⟨0, Nat.zero_le _, rfl, rfl, _, _, _, _, hP5, HM.out, HR5.out, HC5.out⟩
      case round =>
        obtain ⟨j, hj, hgh, rfl, K, T, v1, v2, hPr, hM, hR, hCr⟩ := hrel
        have Hgh := Lib.hid hgh
        obtain ⟨wo, rfl⟩ : ∃ wo : World, wo = wr := ⟨_, rfl⟩
        have HCr := Lib.hid hCr
        clear hgh hP5 HM HR5 HC5
        by_cases hlt : j < m
        · obtain ⟨b, off, rfl, hbl', hc0, hc1, hw0, hw1⟩ := Hop.out j (by omega)
          have k0 := (hCr.cell (p := ⟨b, off + j * 2, none⟩) hbl' (by simp)).trans hc0
          have k1 := (hCr.cell (p := ⟨b, off + j * 2 + 1, none⟩) hbl' (by simp)).trans hc1
          obtain ⟨hd0, hd1⟩ := bd_u8 hw0
          obtain ⟨hB0, hB1⟩ := bd_i64 hw1
          generalize (z j).1 = d at *
          generalize (z j).2 = B at *
          obtain ⟨g1, c1, hv1, _⟩ := hR.now
          obtain ⟨g2, c2, hv2, _⟩ := hR.kept
          subst hv1 hv2
          have hW := (Chg.refl [] wo).alloc (.cells #[.int .u8 d, .int .i64 B] 77)
          have hPW := hPr.chg hW (by simp) (by simp) (by simp) (by simp)
          have HRW := Lib.hid (hR.chg hW (by simp))
          have HMW := Lib.hid ((hW.block bq (heap_lt hM) (by simp)).trans hM)
          have HOW := Lib.hid (new_block wo (.cells #[.int .u8 d, .int .i64 B] 77))
          have HCW := Lib.hid (HCr.out.trans hW)
          have hbo := heap_lt hM
          have Hf := Lib.hid (And.intro hPr.f hPr.n)
          have Ha := Lib.hid hPr.a
          have sW := hW.size
          have q0 := hPr.hp.lt
          have q1 := hPr.ht.lt0
          have q2 := hPr.ht.lt1
          have q3 := hPr.ht.lt2
          clear hM hR hPr hW hc0 hc1 hw0 hw1 hCr
          go_upto_block 2 with fail
          generalize wo.alloc (.cells #[.int .u8 d, .int .i64 B] 77) = W1 at *
          go_cut [18, 19] (fun u v wx => ∃ (e : Int) (K5 : Pk) (T5 : Tal) (x1 x2 : Value), u = .int .i64 e ∧ v = .int .i64 e ∧ PT wx p t bc bk K5 T5 ∧ wx.heap[bq]? = some (.cells #[x1, x2, .int .i64 (K5.first : Int), .int .i64 (K5.next : Int), .int .i64 (K5.asked : Int)] 73 (0, 0)) ∧ RefT [p, t, bc, bk, bq] wx x1 x2 T5 ∧ Chg [] w wx)
          case first =>
            have hmod : d % 7 = 0 ∨ d % 7 = 1 ∨ d % 7 = 2 ∨ d % 7 = 3 ∨ d % 7 = 4 ∨ d % 7 = 5 ∨ d % 7 = 6 := by omega
            rcases hmod with hm | hm | hm | hm | hm | hm | hm
            · skip
              have d0 : (d % 7 == 0) = true := by simp; omega
              have d1 : (d % 7 == 1) = false := by simp; omega
              have d2 : (d % 7 == 2) = false := by simp; omega
              have d3 : (d % 7 == 3) = false := by simp; omega
              have d4 : (d % 7 == 4) = false := by simp; omega
              have d5 : (d % 7 == 5) = false := by simp; omega
              clear hm
              have o1 := cell_of_block HOW.out 1
              simp only [List.getElem?_toArray, List.getElem?_cons_zero, List.getElem?_cons_succ] at o1
              go_wp2_with fail
              refine (hPW.take).mono ?_
              rintro e w3 ⟨rfl, hP3, hC3⟩
              have M3 := Lib.hid ((hC3.block bq (heap_lt HMW.out) (by simp; omega)).trans HMW.out)
              have O3 := Lib.hid ((hC3.block wo.heap.size (heap_lt HOW.out) (by simp; omega)).trans HOW.out)
              have hR3 := HRW.out.chg hC3 (by simp)
              have C3 := Lib.hid (chg_own HCW.out hC3 L)
              have s3 := hC3.size
              have lM := heap_lt M3.out
              have y0 := cell_of_block M3.out 0
              have y1 := cell_of_block M3.out 1
              have y2 := cell_of_block M3.out 2
              have y3 := cell_of_block M3.out 3
              have y4 := cell_of_block M3.out 4
              have v1 := cell_of_block O3.out 1
              simp only [List.getElem?_toArray, List.getElem?_cons_zero, List.getElem?_cons_succ] at y0 y1 y2 y3 y4 v1
              clear hC3 hPW o1
              go_wp2_with fail
              refine (r9take_at hR3 (by simp; omega) Hf.out.1 Hf.out.2).mono ?_
              rintro e w4 ⟨u1, rfl, hR4, hC4⟩
              obtain ⟨g3, c3, hu, _⟩ := hR4.now
              rw [takeT_n] at hu
              subst hu
              have hA4 := hC4.alloc (.cells #[.slice (some ⟨g3, 0, none⟩) T.n c3, .slice (some ⟨g2, 0, none⟩) T.n c2, .int .i64 ((takeK T K).first : Int), .int .i64 ((takeK T K).next : Int), .int .i64 ((takeK T K).asked : Int)] 73)
              have N4 := Lib.hid (new_block w4 (.cells #[.slice (some ⟨g3, 0, none⟩) T.n c3, .slice (some ⟨g2, 0, none⟩) T.n c2, .int .i64 ((takeK T K).first : Int), .int .i64 ((takeK T K).next : Int), .int .i64 ((takeK T K).asked : Int)] 73))
              have hR5 := hR4.chg ((Chg.refl [] w4).alloc (.cells #[.slice (some ⟨g3, 0, none⟩) T.n c3, .slice (some ⟨g2, 0, none⟩) T.n c2, .int .i64 ((takeK T K).first : Int), .int .i64 ((takeK T K).next : Int), .int .i64 ((takeK T K).asked : Int)] 73)) (by simp)
              have s4 := hC4.size
              replace hC4 := hA4
              replace hR4 := hR5
              clear hA4 hR5
              have M4 := Lib.hid ((hC4.block bq (heap_lt M3.out) (by simp)).trans M3.out)
              have hP4 := hP3.chg hC4 (by simp) (by simp) (by simp) (by simp)
              have C4 := Lib.hid (C3.out.trans hC4)
              clear y0 y1 y2 y3 y4 v1 hC4 hP3 hR3
              have y0 := cell_of_block M4.out 0
              have y1 := cell_of_block M4.out 1
              have y2 := cell_of_block M4.out 2
              have y3 := cell_of_block M4.out 3
              have y4 := cell_of_block M4.out 4
              have f0 := frozen_of_block M4.out 0
              have f1 := frozen_of_block M4.out 1
              have f2 := frozen_of_block M4.out 2
              have f3 := frozen_of_block M4.out 3
              have f4 := frozen_of_block M4.out 4
              simp only [List.getElem?_toArray, List.getElem?_cons_zero, List.getElem?_cons_succ] at y0 y1 y2 y3 y4
              have HR4 := Lib.hid hR4
              have HP4 := Lib.hid hP4
              clear hR4 hP4
              have z0 := cell_of_block N4.out 0
              have z1 := cell_of_block N4.out 1
              have z2 := cell_of_block N4.out 2
              have z3 := cell_of_block N4.out 3
              have z4 := cell_of_block N4.out 4
              simp only [List.getElem?_toArray, List.getElem?_cons_zero, List.getElem?_cons_succ] at z0 z1 z2 z3 z4
              unfold pv
              go_wp2_with fail
              have hS := sto5 M4.out (.slice (some ⟨g3, 0, none⟩) T.n c3) (.slice (some ⟨g2, 0, none⟩) T.n c2) (.int .i64 ((takeK T K).first : Int)) (.int .i64 ((takeK T K).next : Int)) (.int .i64 ((takeK T K).asked : Int))
              go_meet
              exact ⟨takeE T K, takeK T K, _, _, _, rfl, rfl, HP4.out.chg hS.2 (by simp; omega) (by simp; omega) (by simp; omega) (by simp; omega), hS.1, HR4.out.chg hS.2 (by simp), C4.out.then hS.2 (by simp; omega)⟩
            · skip
              have d0 : (d % 7 == 0) = false := by simp; omega
              have d1 : (d % 7 == 1) = true := by simp; omega
              have d2 : (d % 7 == 2) = false := by simp; omega
              have d3 : (d % 7 == 3) = false := by simp; omega
              have d4 : (d % 7 == 4) = false := by simp; omega
              have d5 : (d % 7 == 5) = false := by simp; omega
              clear hm
              have o1 := cell_of_block HOW.out 1
              simp only [List.getElem?_toArray, List.getElem?_cons_zero, List.getElem?_cons_succ] at o1
              go_wp2_with fail
              refine (hPW.up B).mono ?_
              rintro e w3 ⟨rfl, hP3, hC3⟩
              have M3 := Lib.hid ((hC3.block bq (heap_lt HMW.out) (by simp; omega)).trans HMW.out)
              have O3 := Lib.hid ((hC3.block wo.heap.size (heap_lt HOW.out) (by simp; omega)).trans HOW.out)
              have hR3 := HRW.out.chg hC3 (by simp)
              have C3 := Lib.hid (chg_own HCW.out hC3 L)
              have s3 := hC3.size
              have lM := heap_lt M3.out
              have y0 := cell_of_block M3.out 0
              have y1 := cell_of_block M3.out 1
              have y2 := cell_of_block M3.out 2
              have y3 := cell_of_block M3.out 3
              have y4 := cell_of_block M3.out 4
              have v1 := cell_of_block O3.out 1
              simp only [List.getElem?_toArray, List.getElem?_cons_zero, List.getElem?_cons_succ] at y0 y1 y2 y3 y4 v1
              clear hC3 hPW o1
              go_wp2_with fail
              refine (r8up hR3 (by simp; omega) B).mono ?_
              rintro e w4 ⟨u1, rfl, hR4, hC4⟩
              obtain ⟨g3, c3, hu, _⟩ := hR4.now
              rw [up_n] at hu
              subst hu
              have M4 := Lib.hid ((hC4.block bq (heap_lt M3.out) (by simp)).trans M3.out)
              have hP4 := hP3.chg hC4 (by simp) (by simp) (by simp) (by simp)
              have C4 := Lib.hid (C3.out.trans hC4)
              clear y0 y1 y2 y3 y4 v1 hC4 hP3 hR3
              have y0 := cell_of_block M4.out 0
              have y1 := cell_of_block M4.out 1
              have y2 := cell_of_block M4.out 2
              have y3 := cell_of_block M4.out 3
              have y4 := cell_of_block M4.out 4
              have f0 := frozen_of_block M4.out 0
              have f1 := frozen_of_block M4.out 1
              have f2 := frozen_of_block M4.out 2
              have f3 := frozen_of_block M4.out 3
              have f4 := frozen_of_block M4.out 4
              simp only [List.getElem?_toArray, List.getElem?_cons_zero, List.getElem?_cons_succ] at y0 y1 y2 y3 y4
              have HR4 := Lib.hid hR4
              have HP4 := Lib.hid hP4
              clear hR4 hP4
              go_wp2_with fail
              have hS := sto52 M4.out (.slice (some ⟨g3, 0, none⟩) T.n c3) (.slice (some ⟨g2, 0, none⟩) T.n c2)
              go_meet
              exact ⟨upE T B, K, _, _, _, rfl, rfl, HP4.out.chg hS.2 (by simp; omega) (by simp; omega) (by simp; omega) (by simp; omega), hS.1, HR4.out.chg hS.2 (by simp), C4.out.then hS.2 (by simp; omega)⟩
            · skip
              have d0 : (d % 7 == 0) = false := by simp; omega
              have d1 : (d % 7 == 1) = false := by simp; omega
              have d2 : (d % 7 == 2) = true := by simp; omega
              have d3 : (d % 7 == 3) = false := by simp; omega
              have d4 : (d % 7 == 4) = false := by simp; omega
              have d5 : (d % 7 == 5) = false := by simp; omega
              clear hm
              have o1 := cell_of_block HOW.out 1
              simp only [List.getElem?_toArray, List.getElem?_cons_zero, List.getElem?_cons_succ] at o1
              go_wp2_with fail
              refine (hPW.down B).mono ?_
              rintro e w3 ⟨rfl, hP3, hC3⟩
              have M3 := Lib.hid ((hC3.block bq (heap_lt HMW.out) (by simp; omega)).trans HMW.out)
              have O3 := Lib.hid ((hC3.block wo.heap.size (heap_lt HOW.out) (by simp; omega)).trans HOW.out)
              have hR3 := HRW.out.chg hC3 (by simp)
              have C3 := Lib.hid (chg_own HCW.out hC3 L)
              have s3 := hC3.size
              have lM := heap_lt M3.out
              have y0 := cell_of_block M3.out 0
              have y1 := cell_of_block M3.out 1
              have y2 := cell_of_block M3.out 2
              have y3 := cell_of_block M3.out 3
              have y4 := cell_of_block M3.out 4
              have v1 := cell_of_block O3.out 1
              simp only [List.getElem?_toArray, List.getElem?_cons_zero, List.getElem?_cons_succ] at y0 y1 y2 y3 y4 v1
              clear hC3 hPW o1
              go_wp2_with fail
              refine (r8down hR3 (by simp; omega) B).mono ?_
              rintro e w4 ⟨u1, rfl, hR4, hC4⟩
              obtain ⟨g3, c3, hu, _⟩ := hR4.now
              rw [down_n] at hu
              subst hu
              have M4 := Lib.hid ((hC4.block bq (heap_lt M3.out) (by simp)).trans M3.out)
              have hP4 := hP3.chg hC4 (by simp) (by simp) (by simp) (by simp)
              have C4 := Lib.hid (C3.out.trans hC4)
              clear y0 y1 y2 y3 y4 v1 hC4 hP3 hR3
              have y0 := cell_of_block M4.out 0
              have y1 := cell_of_block M4.out 1
              have y2 := cell_of_block M4.out 2
              have y3 := cell_of_block M4.out 3
              have y4 := cell_of_block M4.out 4
              have f0 := frozen_of_block M4.out 0
              have f1 := frozen_of_block M4.out 1
              have f2 := frozen_of_block M4.out 2
              have f3 := frozen_of_block M4.out 3
              have f4 := frozen_of_block M4.out 4
              simp only [List.getElem?_toArray, List.getElem?_cons_zero, List.getElem?_cons_succ] at y0 y1 y2 y3 y4
              have HR4 := Lib.hid hR4
              have HP4 := Lib.hid hP4
              clear hR4 hP4
              go_wp2_with fail
              have hS := sto52 M4.out (.slice (some ⟨g3, 0, none⟩) T.n c3) (.slice (some ⟨g2, 0, none⟩) T.n c2)
              go_meet
              exact ⟨downE T B, K, _, _, _, rfl, rfl, HP4.out.chg hS.2 (by simp; omega) (by simp; omega) (by simp; omega) (by simp; omega), hS.1, HR4.out.chg hS.2 (by simp), C4.out.then hS.2 (by simp; omega)⟩
            · skip
              have d0 : (d % 7 == 0) = false := by simp; omega
              have d1 : (d % 7 == 1) = false := by simp; omega
              have d2 : (d % 7 == 2) = false := by simp; omega
              have d3 : (d % 7 == 3) = true := by simp; omega
              have d4 : (d % 7 == 4) = false := by simp; omega
              have d5 : (d % 7 == 5) = false := by simp; omega
              clear hm
              have o1 := cell_of_block HOW.out 1
              simp only [List.getElem?_toArray, List.getElem?_cons_zero, List.getElem?_cons_succ] at o1
              go_wp2_with fail
              refine (hPW.keep).mono ?_
              rintro e w3 ⟨rfl, hP3, hC3⟩
              have M3 := Lib.hid ((hC3.block bq (heap_lt HMW.out) (by simp; omega)).trans HMW.out)
              have O3 := Lib.hid ((hC3.block wo.heap.size (heap_lt HOW.out) (by simp; omega)).trans HOW.out)
              have hR3 := HRW.out.chg hC3 (by simp)
              have C3 := Lib.hid (chg_own HCW.out hC3 L)
              have s3 := hC3.size
              have lM := heap_lt M3.out
              have y0 := cell_of_block M3.out 0
              have y1 := cell_of_block M3.out 1
              have y2 := cell_of_block M3.out 2
              have y3 := cell_of_block M3.out 3
              have y4 := cell_of_block M3.out 4
              have v1 := cell_of_block O3.out 1
              simp only [List.getElem?_toArray, List.getElem?_cons_zero, List.getElem?_cons_succ] at y0 y1 y2 y3 y4 v1
              clear hC3 hPW o1
              go_wp2_with fail
              refine (r8keep_at hR3).mono ?_
              rintro e w4 ⟨rfl, hR4, hC4⟩
              have M4 := Lib.hid ((hC4.block bq (heap_lt M3.out) (by simp)).trans M3.out)
              have hP4 := hP3.chg hC4 (by simp) (by simp) (by simp) (by simp)
              have C4 := Lib.hid (C3.out.trans hC4)
              clear y0 y1 y2 y3 y4 v1 hC4 hP3 hR3
              have y0 := cell_of_block M4.out 0
              have y1 := cell_of_block M4.out 1
              have y2 := cell_of_block M4.out 2
              have y3 := cell_of_block M4.out 3
              have y4 := cell_of_block M4.out 4
              have f0 := frozen_of_block M4.out 0
              have f1 := frozen_of_block M4.out 1
              have f2 := frozen_of_block M4.out 2
              have f3 := frozen_of_block M4.out 3
              have f4 := frozen_of_block M4.out 4
              simp only [List.getElem?_toArray, List.getElem?_cons_zero, List.getElem?_cons_succ] at y0 y1 y2 y3 y4
              have HR4 := Lib.hid hR4
              have HP4 := Lib.hid hP4
              clear hR4 hP4
              go_wp2_with fail
              have hS := sto52 M4.out (.slice (some ⟨g1, 0, none⟩) T.n c1) (.slice (some ⟨g1, 0, none⟩) T.n c1)
              go_meet
              exact ⟨0, K, _, _, _, rfl, rfl, HP4.out.chg hS.2 (by simp; omega) (by simp; omega) (by simp; omega) (by simp; omega), hS.1, HR4.out.chg hS.2 (by simp), C4.out.then hS.2 (by simp; omega)⟩
            · skip
              have d0 : (d % 7 == 0) = false := by simp; omega
              have d1 : (d % 7 == 1) = false := by simp; omega
              have d2 : (d % 7 == 2) = false := by simp; omega
              have d3 : (d % 7 == 3) = false := by simp; omega
              have d4 : (d % 7 == 4) = true := by simp; omega
              have d5 : (d % 7 == 5) = false := by simp; omega
              clear hm
              have o1 := cell_of_block HOW.out 1
              simp only [List.getElem?_toArray, List.getElem?_cons_zero, List.getElem?_cons_succ] at o1
              go_wp2_with fail
              refine (hPW.back).mono ?_
              rintro e w3 ⟨rfl, hP3, hC3⟩
              have M3 := Lib.hid ((hC3.block bq (heap_lt HMW.out) (by simp; omega)).trans HMW.out)
              have O3 := Lib.hid ((hC3.block wo.heap.size (heap_lt HOW.out) (by simp; omega)).trans HOW.out)
              have hR3 := HRW.out.chg hC3 (by simp)
              have C3 := Lib.hid (chg_own HCW.out hC3 L)
              have s3 := hC3.size
              have lM := heap_lt M3.out
              have y0 := cell_of_block M3.out 0
              have y1 := cell_of_block M3.out 1
              have y2 := cell_of_block M3.out 2
              have y3 := cell_of_block M3.out 3
              have y4 := cell_of_block M3.out 4
              have v1 := cell_of_block O3.out 1
              simp only [List.getElem?_toArray, List.getElem?_cons_zero, List.getElem?_cons_succ] at y0 y1 y2 y3 y4 v1
              clear hC3 hPW o1
              go_wp2_with fail
              refine (r8back_at hR3).mono ?_
              rintro e w4 ⟨rfl, hR4, hC4⟩
              have M4 := Lib.hid ((hC4.block bq (heap_lt M3.out) (by simp)).trans M3.out)
              have hP4 := hP3.chg hC4 (by simp) (by simp) (by simp) (by simp)
              have C4 := Lib.hid (C3.out.trans hC4)
              clear y0 y1 y2 y3 y4 v1 hC4 hP3 hR3
              have y0 := cell_of_block M4.out 0
              have y1 := cell_of_block M4.out 1
              have y2 := cell_of_block M4.out 2
              have y3 := cell_of_block M4.out 3
              have y4 := cell_of_block M4.out 4
              have f0 := frozen_of_block M4.out 0
              have f1 := frozen_of_block M4.out 1
              have f2 := frozen_of_block M4.out 2
              have f3 := frozen_of_block M4.out 3
              have f4 := frozen_of_block M4.out 4
              simp only [List.getElem?_toArray, List.getElem?_cons_zero, List.getElem?_cons_succ] at y0 y1 y2 y3 y4
              have HR4 := Lib.hid hR4
              have HP4 := Lib.hid hP4
              clear hR4 hP4
              go_wp2_with fail
              have hS := sto52 M4.out (.slice (some ⟨g2, 0, none⟩) T.n c2) (.slice (some ⟨g2, 0, none⟩) T.n c2)
              go_meet
              exact ⟨0, K, _, _, _, rfl, rfl, HP4.out.chg hS.2 (by simp; omega) (by simp; omega) (by simp; omega) (by simp; omega), hS.1, HR4.out.chg hS.2 (by simp), C4.out.then hS.2 (by simp; omega)⟩
            · skip
              have d0 : (d % 7 == 0) = false := by simp; omega
              have d1 : (d % 7 == 1) = false := by simp; omega
              have d2 : (d % 7 == 2) = false := by simp; omega
              have d3 : (d % 7 == 3) = false := by simp; omega
              have d4 : (d % 7 == 4) = false := by simp; omega
              have d5 : (d % 7 == 5) = true := by simp; omega
              clear hm
              have o1 := cell_of_block HOW.out 1
              simp only [List.getElem?_toArray, List.getElem?_cons_zero, List.getElem?_cons_succ] at o1
              go_wp2_with fail
              refine (hPW.ask B).mono ?_
              rintro e w3 ⟨rfl, hP3, hC3⟩
              have M3 := Lib.hid ((hC3.block bq (heap_lt HMW.out) (by simp; omega)).trans HMW.out)
              have O3 := Lib.hid ((hC3.block wo.heap.size (heap_lt HOW.out) (by simp; omega)).trans HOW.out)
              have hR3 := HRW.out.chg hC3 (by simp)
              have C3 := Lib.hid (chg_own HCW.out hC3 L)
              have s3 := hC3.size
              have lM := heap_lt M3.out
              have y0 := cell_of_block M3.out 0
              have y1 := cell_of_block M3.out 1
              have y2 := cell_of_block M3.out 2
              have y3 := cell_of_block M3.out 3
              have y4 := cell_of_block M3.out 4
              have v1 := cell_of_block O3.out 1
              simp only [List.getElem?_toArray, List.getElem?_cons_zero, List.getElem?_cons_succ] at y0 y1 y2 y3 y4 v1
              clear hC3 hPW o1
              go_wp2_with fail
              refine (r9ask_at hR3 (Nat.le_trans Hf.out.1 Hf.out.2) Ha.out B).mono ?_
              rintro e w4 ⟨rfl, hC4⟩
              have hR4 := hR3.chg hC4 (by simp)
              have M4 := Lib.hid ((hC4.block bq (heap_lt M3.out) (by simp)).trans M3.out)
              have hP4 := hP3.chg hC4 (by simp) (by simp) (by simp) (by simp)
              have C4 := Lib.hid (C3.out.trans hC4)
              clear y0 y1 y2 y3 y4 v1 hC4 hP3 hR3
              have y0 := cell_of_block M4.out 0
              have y1 := cell_of_block M4.out 1
              have y2 := cell_of_block M4.out 2
              have y3 := cell_of_block M4.out 3
              have y4 := cell_of_block M4.out 4
              have f0 := frozen_of_block M4.out 0
              have f1 := frozen_of_block M4.out 1
              have f2 := frozen_of_block M4.out 2
              have f3 := frozen_of_block M4.out 3
              have f4 := frozen_of_block M4.out 4
              simp only [List.getElem?_toArray, List.getElem?_cons_zero, List.getElem?_cons_succ] at y0 y1 y2 y3 y4
              have HR4 := Lib.hid hR4
              have HP4 := Lib.hid hP4
              clear hR4 hP4
              unfold pv
              go_wp2_with fail
              have hS := sto5 M4.out (.slice (some ⟨g1, 0, none⟩) T.n c1) (.slice (some ⟨g2, 0, none⟩) T.n c2) (.int .i64 ((askK T K B).first : Int)) (.int .i64 ((askK T K B).next : Int)) (.int .i64 ((askK T K B).asked : Int))
              go_meet
              exact ⟨askE T K B, askK T K B, _, _, _, rfl, rfl, HP4.out.chg hS.2 (by simp; omega) (by simp; omega) (by simp; omega) (by simp; omega), hS.1, HR4.out.chg hS.2 (by simp), C4.out.then hS.2 (by simp; omega)⟩
            · skip
              have d0 : (d % 7 == 0) = false := by simp; omega
              have d1 : (d % 7 == 1) = false := by simp; omega
              have d2 : (d % 7 == 2) = false := by simp; omega
              have d3 : (d % 7 == 3) = false := by simp; omega
              have d4 : (d % 7 == 4) = false := by simp; omega
              have d5 : (d % 7 == 5) = false := by simp; omega
              clear hm
              have o1 := cell_of_block HOW.out 1
              simp only [List.getElem?_toArray, List.getElem?_cons_zero, List.getElem?_cons_succ] at o1
              go_wp2_with fail
              refine (hPW.done B).mono ?_
              rintro e w3 ⟨rfl, hP3, hC3⟩
              have M3 := Lib.hid ((hC3.block bq (heap_lt HMW.out) (by simp; omega)).trans HMW.out)
              have O3 := Lib.hid ((hC3.block wo.heap.size (heap_lt HOW.out) (by simp; omega)).trans HOW.out)
              have hR3 := HRW.out.chg hC3 (by simp)
              have C3 := Lib.hid (chg_own HCW.out hC3 L)
              have s3 := hC3.size
              have lM := heap_lt M3.out
              have y0 := cell_of_block M3.out 0
              have y1 := cell_of_block M3.out 1
              have y2 := cell_of_block M3.out 2
              have y3 := cell_of_block M3.out 3
              have y4 := cell_of_block M3.out 4
              have v1 := cell_of_block O3.out 1
              simp only [List.getElem?_toArray, List.getElem?_cons_zero, List.getElem?_cons_succ] at y0 y1 y2 y3 y4 v1
              clear hC3 hPW o1
              go_wp2_with fail
              refine (r9done_at hR3 Ha.out B).mono ?_
              rintro e w4 ⟨rfl, hC4⟩
              have hR4 := hR3.chg hC4 (by simp)
              have M4 := Lib.hid ((hC4.block bq (heap_lt M3.out) (by simp)).trans M3.out)
              have hP4 := hP3.chg hC4 (by simp) (by simp) (by simp) (by simp)
              have C4 := Lib.hid (C3.out.trans hC4)
              clear y0 y1 y2 y3 y4 v1 hC4 hP3 hR3
              have y0 := cell_of_block M4.out 0
              have y1 := cell_of_block M4.out 1
              have y2 := cell_of_block M4.out 2
              have y3 := cell_of_block M4.out 3
              have y4 := cell_of_block M4.out 4
              have f0 := frozen_of_block M4.out 0
              have f1 := frozen_of_block M4.out 1
              have f2 := frozen_of_block M4.out 2
              have f3 := frozen_of_block M4.out 3
              have f4 := frozen_of_block M4.out 4
              simp only [List.getElem?_toArray, List.getElem?_cons_zero, List.getElem?_cons_succ] at y0 y1 y2 y3 y4
              have HR4 := Lib.hid hR4
              have HP4 := Lib.hid hP4
              clear hR4 hP4
              unfold pv
              go_wp2_with fail
              have hS := sto5 M4.out (.slice (some ⟨g1, 0, none⟩) T.n c1) (.slice (some ⟨g2, 0, none⟩) T.n c2) (.int .i64 ((doneK K B).first : Int)) (.int .i64 ((doneK K B).next : Int)) (.int .i64 ((doneK K B).asked : Int))
              go_meet
              exact ⟨doneE K B, doneK K B, _, _, _, rfl, rfl, HP4.out.chg hS.2 (by simp; omega) (by simp; omega) (by simp; omega) (by simp; omega), hS.1, HR4.out.chg hS.2 (by simp), C4.out.then hS.2 (by simp; omega)⟩
          case rest =>
            obtain ⟨e5, K5, T5, x1, x2, rfl, rfl, hP5, hM5, hR5, hC5⟩ := hcut
            obtain ⟨u1, d1, hu1, _⟩ := hR5.now
            obtain ⟨u2, d2, hu2, _⟩ := hR5.kept
            subst hu1 hu2
            have M5 := Lib.hid hM5
            have R5 := Lib.hid hR5
            have C5 := Lib.hid hC5
            have y0 := cell_of_block hM5 0
            have y1 := cell_of_block hM5 1
            have y2 := cell_of_block hM5 2
            have y3 := cell_of_block hM5 3
            have y4 := cell_of_block hM5 4
            simp only [List.getElem?_toArray, List.getElem?_cons_zero, List.getElem?_cons_succ] at y0 y1 y2 y3 y4
            have hP5d := hP5.drew
            have hR5d := Lib.hid (hR5.chg (Chg.drew (Chg.refl [] _)) (by simp))
            have Hf5 := Lib.hid (Nat.le_trans hP5.f hP5.n)
            have hlM := heap_lt hM5
            clear hPW hM5 hR5 hC5 k0 k1
            go_upto_region 38 with fail
            go_cut [197] (fun c wx => c = .bool false ∧ Chg [] wc wx)
            case first =>
              go_region_held3 (fun w' => w'.cell? ⟨bq, 0, none⟩ = some (.slice (some ⟨u1, 0, none⟩) T5.n d1) ∧ w'.cell? ⟨bq, 1, none⟩ = some (.slice (some ⟨u2, 0, none⟩) T5.n d2) ∧ w'.cell? ⟨bq, 2, none⟩ = some (.int .i64 (K5.first : Int)) ∧ w'.cell? ⟨bq, 3, none⟩ = some (.int .i64 (K5.next : Int)) ∧ w'.cell? ⟨bq, 4, none⟩ = some (.int .i64 (K5.asked : Int)))
                (first | exact ⟨z0, z1, z2, z3, z4⟩ | exact ⟨y0, y1, y2, y3, y4⟩ | go_keep)
                (first | (go_at_call 19; refine (hP5d.room).mono ?_; rintro e w' ⟨rfl, rfl⟩) | (go_at_call 48; refine (r9room_at hR5d.out K5.first K5.next K5.asked Hf5.out).mono ?_; rintro e w8 ⟨rfl, hC8⟩; have hP8 := hP5d.chg hC8 (by simp) (by simp) (by simp) (by simp); have z0 := (hC8.cell (p := ⟨bq, 0, none⟩) hlM (by simp)).trans y0; have z1 := (hC8.cell (p := ⟨bq, 1, none⟩) hlM (by simp)).trans y1; have z2 := (hC8.cell (p := ⟨bq, 2, none⟩) hlM (by simp)).trans y2; have z3 := (hC8.cell (p := ⟨bq, 3, none⟩) hlM (by simp)).trans y3; have z4 := (hC8.cell (p := ⟨bq, 4, none⟩) hlM (by simp)).trans y4; have HC8 := Lib.hid hC8; clear hC8) | (go_at_call 24; refine (hP8.next).mono ?_; rintro e w' ⟨rfl, rfl⟩) | (go_at_call 22; refine (hP8.asked).mono ?_; rintro e w' ⟨rfl, rfl⟩))
              all_goals (go_wp2_with fail; go_meet; exact ⟨rfl, (Chg.drew (Chg.refl [] _)).trans HC8.out⟩)
            case rest =>
              obtain ⟨rfl, hC9⟩ := hcut
              have hP9 := hP5.chg hC9 (by simp) (by simp) (by simp) (by simp)
              have M9 := (hC9.block bq (heap_lt M5.out) (by simp)).trans M5.out
              have R9 := R5.out.chg hC9 (by simp)
              have C9 := C5.out.trans hC9
              have HX := Lib.hid (And.intro hP9 (And.intro M9 (And.intro R9 C9)))
              clear hP9 M9 R9 C9 hC9 y0 y1 y2 y3 y4 hP5d hP5
              go_wp2_with fail
              go_roundg (m - (j + 1))
              case measure => have := Hgh.out; omega
              case rel => exact ⟨j + 1, by omega, rfl, by go_num, K5, T5, _, _, HX.out.1, HX.out.2.1, HX.out.2.2.1, HX.out.2.2.2⟩
        · go_wp2_with fail
          refine (awake09 _).mono ?_
          rintro e w9 ⟨rfl, hC9⟩
          go_wp2_with fail
          go_ret
          exact ⟨rfl, (HCr.out.trans hC9).below (by simp)⟩

end Go.Proofs.Ytgbhofneinmonaa
