/- catchmentlaw03.LeafOwn: the walk. -/
import Derived.Test.YtjceoheiiohfcaaLPages
namespace Go.Proofs.Ytjceoheiiohfcaa
open Go.RowKit
set_option linter.unusedVariables false
set_option linter.unusedSimpArgs false

theorem NumsIn.keep {A L : List Nat} {w w' : World} {v : Value} {n : Nat} {f : Nat → Nat} (h : NumsIn A w v n f) {s : Nat} (c : Chg L w w') (hs : ∀ k, k ∈ L → w.heap.size ≤ k) : NumsIn A w' v n f := h.chg c fun k hk => .inr (hs k hk)
/-- Numbers that were there at w are there, whatever is done to what came later. -/
theorem NumsIn.from {A L : List Nat} {w W W' : World} {v : Value} {n : Nat} {f : Nat → Nat} (h : NumsIn A W v n f) (c : Chg [] w W) (k : Chg L W W') (h0 : NumsIn A w v n f) (hL : ∀ i, i ∈ L → w.heap.size ≤ i) : NumsIn A W' v n f :=
  h0.chg (c.then k fun i hi => .inr (hL i hi)) (by simp)
theorem chg_new {L : List Nat} {w w1 w2 : World} (h : Chg [] w w1) (k : Chg L w1 w2) (hL : ∀ i, i ∈ L → w.heap.size ≤ i) : Chg [] w w2 := h.then k fun i hi => .inr (hL i hi)

set_option maxRecDepth 20000 in
set_option maxHeartbeats 4000000 in
theorem own_skip {w : World} {l : Bool} {vk vv : Value} {nk nv : Nat} {keys vals : Nat → Nat} (hk : NumsIn [] w vk nk keys) (hv : NumsIn [] w vv nv vals) (h : 20 < nk ∨ 20 < nv ∨ rightB l nk nv keys vals = false) :
    Calls Try.prog 8 #[.agg #[.bool l, vk, vv]] w (LawOk w) := by
  obtain ⟨ak, ck, rfl, _⟩ := hk.cap
  obtain ⟨av, cv, rfl, _⟩ := hv.cap
  have h' : (20 : Int) < nk ∨ (¬ (20 : Int) < nk ∧ (20 : Int) < nv) ∨ (¬ (20 : Int) < nk ∧ ¬ (20 : Int) < nv ∧ rightB l nk nv keys vals = false) := by
    rcases h with h | h | h
    · omega
    · omega
    · by_cases g1 : (20 : Int) < nk
      · exact .inl g1
      · by_cases g2 : (20 : Int) < nv
        · exact .inr (.inl ⟨g1, g2⟩)
        · exact .inr (.inr ⟨g1, g2, h⟩)
  have hW := (Chg.refl [] w).alloc (.cells #[.bool l, .slice ak nk ck, .slice av nv cv] 24)
  have cR := right_at (leaf := l) (hk.chg hW (by simp)) (hv.chg hW (by simp))
  have HW := Lib.hid hW
  clear h hk hv hW
  rcases h' with d1 | ⟨d1, d2⟩ | ⟨d1, d2, hr⟩
  · clear cR
    go_enter Try.func8, Try.ntmps8
    go_wp2_with fail
    refine (awake03 _).mono ?_
    rintro e wz ⟨rfl, hZ⟩
    have HZ := Lib.hid ((HW.out).trans hZ)
    clear hZ
    go_wp2_with fail
    go_ret
    exact law_ok HZ.out
  · clear cR
    go_enter Try.func8, Try.ntmps8
    go_wp2_with fail
    refine (awake03 _).mono ?_
    rintro e wz ⟨rfl, hZ⟩
    have HZ := Lib.hid ((HW.out).trans hZ)
    clear hZ
    go_wp2_with fail
    go_ret
    exact law_ok HZ.out
  · rw [hr] at cR
    clear hr
    go_enter Try.func8, Try.ntmps8
    go_wp2_with fail
    refine cR.mono ?_
    clear cR
    rintro e w1 ⟨rfl, hC1⟩
    have HC1 := Lib.hid (HW.out.trans hC1)
    clear hC1
    go_wp2_with fail
    refine (awake03 _).mono ?_
    rintro e wz ⟨rfl, hZ⟩
    have HZ := Lib.hid ((HC1.out).trans hZ)
    clear hZ
    go_wp2_with fail
    go_ret
    exact law_ok HZ.out

set_option maxRecDepth 20000 in
set_option maxHeartbeats 8000000 in
theorem own_right {w : World} {l : Bool} {vk vv : Value} {nk nv : Nat} {keys vals : Nat → Nat} (hk : NumsIn [] w vk nk keys) (hv : NumsIn [] w vv nv vals) (hr : rightB l nk nv keys vals = true) :
    Calls Try.prog 8 #[.agg #[.bool l, vk, vv]] w (LawOk w) := by
  obtain ⟨n7, rfl⟩ := rightB_bd hr
  obtain ⟨ak, ck, rfl, _⟩ := hk.cap
  obtain ⟨av, cv, rfl, _⟩ := hv.cap
  have d1 : ¬ (20 : Int) < nv := by omega
  have bK := Lib.hid hk.bd
  have bV := Lib.hid hv.bd
  have HK0 := Lib.hid hk
  have HV0 := Lib.hid hv
  have hW := (Chg.refl [] w).alloc (.cells #[.bool l, .slice ak nv ck, .slice av nv cv] 24)
  have X0 := Lib.hid (new_block w (.cells #[.bool l, .slice ak nv ck, .slice av nv cv] 24))
  have K0 := Lib.hid (hk.chg hW (by simp))
  have V0 := Lib.hid (hv.chg hW (by simp))
  have cR := right_at (leaf := l) K0.out V0.out
  rw [hr] at cR
  have Hr := Lib.hid hr
  have HW := Lib.hid hW
  clear hk hv hW hr
  go_enter Try.func8, Try.ntmps8
  go_wp2_with fail
  refine cR.mono ?_
  clear cR
  rintro e w1 ⟨rfl, hC⟩
  have C1 := Lib.hid (HW.out.trans hC)
  have X1 := Lib.hid ((hC.block _ (heap_lt X0.out) (by simp)).trans X0.out)
  have K1 := Lib.hid (K0.out.chg hC (by simp))
  have V1 := Lib.hid (V0.out.chg hC (by simp))
  clear hC X0 K0 V0 HW
  have szx := heap_lt X1.out
  have x0 := cell_of_block X1.out 0
  have x1 := cell_of_block X1.out 1
  have x2 := cell_of_block X1.out 2
  simp only [List.getElem?_toArray, List.getElem?_cons_zero, List.getElem?_cons_succ] at x0 x1 x2
  have lx := heap_lt X1.out
  go_wp2_with fail
  refine (enc_ok K1.out V1.out Hr.out).mono ?_
  clear x0 x1 x2 lx
  rintro e w2 ⟨g, rfl, hg, hB, hC⟩
  have C2 := Lib.hid (C1.out.trans hC)
  have X2 := Lib.hid ((hC.block _ (heap_lt X1.out) (by simp)).trans X1.out)
  have K2 := Lib.hid (K1.out.chg hC (by simp))
  have V2 := Lib.hid (V1.out.chg hC (by simp))
  have P2 := Lib.hid hB
  have sz2 := hC.size
  have lg2 := heap_lt hB
  clear hC hB X1 K1 V1
  go_wp2_with fail
  refine (again_at (of_block_in P2.out (fun i _ => pageF_le l (by omega) _ _ _))).mono ?_
  rintro e w3 ⟨d, rfl, hlt3, hA, hC⟩
  have C3 := Lib.hid (C2.out.trans hC)
  have X3 := Lib.hid ((hC.block _ (heap_lt X2.out) (by simp)).trans X2.out)
  have K3 := Lib.hid (K2.out.chg hC (by simp))
  have V3 := Lib.hid (V2.out.chg hC (by simp))
  have P3 := Lib.hid ((hC.block _ (heap_lt P2.out) (by simp)).trans P2.out)
  have A3 := Lib.hid hA
  have cD := dec_at (of_block_in P3.out (fun i _ => pageF_le l (by omega) _ _ _))
  rw [page_kind, kindOf_eq, decB_page Hr.out bK.out bV.out] at cD
  have cD' : Calls Try.prog 14 #[.slice (some ⟨g, 0, none⟩) 128 128] w3 (DecOk w3 l (pageF l nv keys vals)) := cD
  clear cD hC hA X2 K2 V2 P2 C2
  go_wp2_with fail
  refine cD'.mono ?_
  clear cD'
  rintro e w4 ⟨kb, vb, rfl, q1, q2, q3, hK, hV, hC0⟩
  rw [page_many] at hK hV ⊢
  have hC := hC0.alloc (.cells #[.bool l, .slice (some ⟨kb, 0, none⟩) nv nv, .slice (some ⟨vb, 0, none⟩) nv nv] 24)
  have hn := (Chg.refl [] w4).alloc (.cells #[.bool l, .slice (some ⟨kb, 0, none⟩) nv nv, .slice (some ⟨vb, 0, none⟩) nv nv] 24)
  have C4 := Lib.hid (C3.out.trans hC)
  have X4 := Lib.hid ((hC.block _ (heap_lt X3.out) (by simp)).trans X3.out)
  have K4 := Lib.hid (K3.out.chg hC (by simp))
  have V4 := Lib.hid (V3.out.chg hC (by simp))
  have P4 := Lib.hid ((hC.block _ (heap_lt P3.out) (by simp)).trans P3.out)
  have A4 := Lib.hid (A3.out.keep hC)
  have RK4 := Lib.hid (hK.chg hn (by simp))
  have RV4 := Lib.hid (hV.chg hn (by simp))
  have BX4 := Lib.hid (new_block w4 (.cells #[.bool l, .slice (some ⟨kb, 0, none⟩) nv nv, .slice (some ⟨vb, 0, none⟩) nv nv] 24))
  have lk4 := hK.lt
  have lv4 := hV.lt
  have sz4 := hC0.size
  have cD := dec_at (of_block_in P4.out (fun i _ => pageF_le l (by omega) _ _ _))
  rw [page_kind, kindOf_eq, decB_page Hr.out bK.out bV.out] at cD
  have cD' : Calls Try.prog 14 #[.slice (some ⟨g, 0, none⟩) 128 128] _ (DecOk _ l (pageF l nv keys vals)) := cD
  clear cD hC hC0 hn hK hV X3 K3 V3 P3 A3 C3
  go_wp2_with fail
  refine cD'.mono ?_
  clear cD'
  rintro e w5 ⟨kb', vb', rfl, p1, p2, p3, hK, hV, hC0⟩
  rw [page_many] at hK hV ⊢
  rw [size_alloc'] at p1 p2
  have hC := hC0.alloc (.cells #[.bool l, .slice (some ⟨kb', 0, none⟩) nv nv, .slice (some ⟨vb', 0, none⟩) nv nv] 24)
  have hn := (Chg.refl [] w5).alloc (.cells #[.bool l, .slice (some ⟨kb', 0, none⟩) nv nv, .slice (some ⟨vb', 0, none⟩) nv nv] 24)
  have C5 := Lib.hid (C4.out.trans hC)
  have X5 := Lib.hid ((hC.block _ (heap_lt X4.out) (by simp)).trans X4.out)
  have K5 := Lib.hid (K4.out.chg hC (by simp))
  have V5 := Lib.hid (V4.out.chg hC (by simp))
  have P5 := Lib.hid ((hC.block _ (heap_lt P4.out) (by simp)).trans P4.out)
  have A5 := Lib.hid (A4.out.keep hC)
  have RK5 := Lib.hid (RK4.out.chg hC (by simp))
  have RV5 := Lib.hid (RV4.out.chg hC (by simp))
  have BX5 := Lib.hid ((hC.block _ (heap_lt BX4.out) (by simp)).trans BX4.out)
  have QK5 := Lib.hid (hK.chg hn (by simp))
  have QV5 := Lib.hid (hV.chg hn (by simp))
  have BY5 := Lib.hid (new_block w5 (.cells #[.bool l, .slice (some ⟨kb', 0, none⟩) nv nv, .slice (some ⟨vb', 0, none⟩) nv nv] 24))
  have lk5 := hK.lt
  have lv5 := hV.lt
  have sz5 := hC0.size
  rw [size_alloc'] at sz5
  have szw := C1.out.size
  clear hC hC0 hn hK hV X4 K4 V4 P4 A4 C4 RK4 RV4 BX4 C1
  have x0 := cell_of_block BX5.out 0
  have x1 := cell_of_block BX5.out 1
  have x2 := cell_of_block BX5.out 2
  simp only [List.getElem?_toArray, List.getElem?_cons_zero, List.getElem?_cons_succ] at x0 x1 x2
  have lx := heap_lt BX5.out
  go_wp2_with fail
  clear x0 x1 x2 lx
  generalize w5.alloc (.cells #[.bool l, .slice (some ⟨kb', 0, none⟩) nv nv, .slice (some ⟨vb', 0, none⟩) nv nv] 24) = W at *
  go_loopw [48] (fun s wr => ∃ j : Nat, j ≤ nv ∧ s = .int .i64 (j : Int) ∧ Chg [kb, vb] W wr ∧ (∃ f, Row64 wr kb nv f) ∧ ∃ f, Row64 wr vb nv f) (fun s _ => nv - (intOf s).toNat)
  case atStart => exact ⟨0, by omega, rfl, Chg.refl _ _, ⟨_, RK5.out⟩, _, RV5.out⟩
  case round =>
    obtain ⟨j, hj, rfl, hC, ⟨f1, hf1⟩, f2, hf2⟩ := hrel
    have HC := Lib.hid hC
    have F1 := Lib.hid hf1
    have F2 := Lib.hid hf2
    clear hC hf1 hf2
    by_cases hlj : j < nv
    · have j0 : (0 : Int) ≤ (j : Int) := by omega
      have j1 : (j : Int) < (nv : Int) := by omega
      have X6 := (HC.out.block _ (heap_lt BX5.out) (by simp; omega)).trans BX5.out
      have x0 := cell_of_block X6 0
      have x1 := cell_of_block X6 1
      have x2 := cell_of_block X6 2
      simp only [List.getElem?_toArray, List.getElem?_cons_zero, List.getElem?_cons_succ] at x0 x1 x2
      have u1 := F1.out.cell hlj
      have u2 := F2.out.cell hlj
      have z1 := F1.out.fz j
      have z2 := F2.out.fz j
      have l1 := F1.out.lt
      have l2 := F2.out.lt
      have G1 := Lib.hid ((F1.out.set (v := 7) hlj (by omega)).chg (L := [vb]) ((Chg.refl _ _).setCell (p := ⟨vb, j, none⟩) (.inl (by simp)) (.int .u64 8)) (by simp; exact q3))
      have G2 := Lib.hid ((F2.out.chg (L := [kb]) ((Chg.refl _ _).setCell (p := ⟨kb, j, none⟩) (.inl (by simp)) (.int .u64 7)) (by simp; exact fun h => q3 h.symm)).set (v := 8) hlj (by omega))
      have G3 := Lib.hid ((HC.out.setCell (p := ⟨kb, j, none⟩) (.inl (by simp)) (.int .u64 7)).setCell (p := ⟨vb, j, none⟩) (.inl (by simp)) (.int .u64 8))
      clear X6
      go_wp2_with fail
      go_region
      all_goals
        go_wp2_with fail
        refine ⟨⟨j + 1, by omega, by go_num, G3.out.drew, ⟨_, G1.out.chg (Chg.drew (Chg.refl [] _)) (by simp)⟩, _, G2.out.chg (Chg.drew (Chg.refl [] _)) (by simp)⟩, ?_⟩
        simp [intOf]
        omega
    · obtain rfl : j = nv := by omega
      have HC0 := HC
      have nl : ∀ k, k ∈ [kb, vb] → w.heap.size ≤ k := by
        intro k hk
        simp only [List.mem_cons, List.not_mem_nil, or_false] at hk
        omega
      have C6 := Lib.hid (chg_new C5.out HC.out nl)
      have X6 := Lib.hid ((HC.out.block _ (heap_lt X5.out) (by simp; omega)).trans X5.out)
      have K6 := Lib.hid (K5.out.from C5.out HC.out HK0.out nl)
      have V6 := Lib.hid (V5.out.from C5.out HC.out HV0.out nl)
      have P6 := Lib.hid ((HC.out.block _ (heap_lt P5.out) (by simp; omega)).trans P5.out)
      have A6 := Lib.hid (A5.out.chg HC.out (fun _ q hq => by injection hq with hq; subst hq; simp; omega))
      have QK6 := Lib.hid (QK5.out.chg HC.out (by simp; omega))
      have QV6 := Lib.hid (QV5.out.chg HC.out (by simp; omega))
      have BY6 := Lib.hid ((HC.out.block _ (heap_lt BY5.out) (by simp; omega)).trans BY5.out)
      have x0 := cell_of_block X6.out 0
      have x1 := cell_of_block X6.out 1
      have x2 := cell_of_block X6.out 2
      simp only [List.getElem?_toArray, List.getElem?_cons_zero, List.getElem?_cons_succ] at x0 x1 x2
      have y0 := cell_of_block BY6.out 0
      have y1 := cell_of_block BY6.out 1
      have y2 := cell_of_block BY6.out 2
      simp only [List.getElem?_toArray, List.getElem?_cons_zero, List.getElem?_cons_succ] at y0 y1 y2
      have lx := heap_lt X6.out
      have ly := heap_lt BY6.out
      have cE := equal_at (of_block_in P6.out (fun i _ => pageF_le l (by omega) _ _ _)) A6.out
      rw [eqF_iff.2 ⟨rfl, fun _ _ => rfl⟩] at cE
      have cN := equalNodes_at (l := l) (l' := l) (row_in QK6.out n7) (row_in QV6.out n7) K6.out V6.out
      rw [eqN_page n7 bK.out bV.out] at cN
      clear nl HC F1 F2 RK5 RV5 BX5 A6 HC0
      go_wp2_with fail
      refine cE.mono ?_
      clear cE
      rintro e w' ⟨rfl, rfl⟩
      go_wp2_with fail
      refine cN.mono ?_
      clear cN x0 x1 x2 y0 y1 y2 lx ly
      rintro e W2 ⟨rfl, hC⟩
      have C7 := Lib.hid (C6.out.trans hC)
      have X7 := Lib.hid ((hC.block _ (heap_lt X6.out) (by simp)).trans X6.out)
      have K7 := Lib.hid (K6.out.chg hC (by simp))
      have V7 := Lib.hid (V6.out.chg hC (by simp))
      have P7 := Lib.hid ((hC.block _ (heap_lt P6.out) (by simp)).trans P6.out)
      have QK7 := Lib.hid (QK6.out.chg hC (by simp))
      have QV7 := Lib.hid (QV6.out.chg hC (by simp))
      have BY7 := Lib.hid ((hC.block _ (heap_lt BY6.out) (by simp)).trans BY6.out)
      clear hC
      go_wp2_with fail
      go_loopw [84] (fun s wr => ∃ j : Nat, j ≤ 128 ∧ s = .int .i64 (j : Int) ∧ Chg [g] W2 wr ∧ ∃ f, wr.heap[g]? = some (.cells (u8s 128 f) 5 (0, 0))) (fun s _ => 128 - (intOf s).toNat)
      case atStart => exact ⟨0, by omega, rfl, Chg.refl _ _, _, P7.out⟩
      case round =>
        obtain ⟨i, hi, rfl, hC, f, hf⟩ := hrel
        have HC := Lib.hid hC
        have HF := Lib.hid hf
        clear hC hf
        by_cases hli : i < 128
        · have j0 : (0 : Int) ≤ (i : Int) := by omega
          have j1 : (i : Int) < 128 := by omega
          have u1 := (cell_of_block HF.out i).trans (u8s_get hli)
          have z1 := frozen_of_block HF.out i
          have l1 := heap_lt HF.out
          go_wp2_with fail
          go_roundw
          case rel => exact ⟨i + 1, by omega, by go_num, HC.out.setCell (.inl (by simp)) _, _, (setCell_block HF.out i _).trans (by rw [show (Value.int .u8 0) = .int .u8 ((0 : Nat) : Int) from rfl, u8s_set hli])⟩
          case measure => simp [intOf]; omega
        · obtain rfl : i = 128 := by omega
          have nl : ∀ k, k ∈ [g] → w.heap.size ≤ k := by simp; omega
          have C8 := Lib.hid (chg_new C7.out HC.out nl)
          have X8 := (HC.out.block _ (heap_lt X7.out) (by simp; omega)).trans X7.out
          have K8 := Lib.hid (K7.out.from C7.out HC.out HK0.out nl)
          have V8 := Lib.hid (V7.out.from C7.out HC.out HV0.out nl)
          have QK8 := Lib.hid (QK7.out.chg HC.out (by simp; omega))
          have QV8 := Lib.hid (QV7.out.chg HC.out (by simp; omega))
          have BY8 := (HC.out.block _ (heap_lt BY7.out) (by simp; omega)).trans BY7.out
          have x0 := cell_of_block X8 0
          have x1 := cell_of_block X8 1
          have x2 := cell_of_block X8 2
          simp only [List.getElem?_toArray, List.getElem?_cons_zero, List.getElem?_cons_succ] at x0 x1 x2
          have y0 := cell_of_block BY8 0
          have y1 := cell_of_block BY8 1
          have y2 := cell_of_block BY8 2
          simp only [List.getElem?_toArray, List.getElem?_cons_zero, List.getElem?_cons_succ] at y0 y1 y2
          have lx := heap_lt X8
          have ly := heap_lt BY8
          have cN := equalNodes_at (l := l) (l' := l) (row_in QK8.out n7) (row_in QV8.out n7) K8.out V8.out
          rw [eqN_page n7 bK.out bV.out] at cN
          clear nl X8 BY8
          go_wp2_with fail
          refine cN.mono ?_
          clear cN x0 x1 x2 y0 y1 y2 lx ly
          rintro e W3 ⟨rfl, hC⟩
          have C9 := Lib.hid (C8.out.trans hC)
          clear hC
          go_wp2_with fail
          refine (awake03 _).mono ?_
          rintro e wz ⟨rfl, hZ⟩
          have HZ := Lib.hid ((C9.out).trans hZ)
          clear hZ
          go_wp2_with fail
          go_ret
          exact law_ok HZ.out

theorem leafOwn_walk (v : Value) (l : Bool) (nk nv : Nat) (keys vals : Nat → Nat) (w : World) (hn : IsNode w v l nk nv keys vals) :
    Calls Try.prog 8 #[v] w (LawOk w) := by
  obtain ⟨vk, vv, rfl, hk, hv⟩ := hn
  by_cases g1 : 20 < nk
  · exact own_skip hk hv (.inl g1)
  by_cases g2 : 20 < nv
  · exact own_skip hk hv (.inr (.inl g2))
  cases hr : rightB l nk nv keys vals with
  | false => exact own_skip hk hv (.inr (.inr hr))
  | true => exact own_right hk hv hr

end Go.Proofs.Ytjceoheiiohfcaa
