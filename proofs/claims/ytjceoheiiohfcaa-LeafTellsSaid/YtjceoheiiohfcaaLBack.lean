/- catchmentlaw03.LeafBack: the walk. -/
import Derived.Test.YtjceoheiiohfcaaLKinds
import Derived.Deep.RegionHeld3
namespace Go.Proofs.Ytjceoheiiohfcaa
open Go.RowKit
set_option linter.unusedVariables false
set_option linter.unusedSimpArgs false

theorem NumsIn.bd {A : List Nat} {w : World} {v : Value} {n : Nat} {f : Nat → Nat} (h : NumsIn A w v n f) : ∀ i, i < n → f i < 18446744073709551616 := by
  intro i hi
  rcases h with ⟨_, h0⟩ | ⟨b, off, cap, h1, h2, h3, h4, h5, h6⟩
  · omega
  · exact (h6 i hi).2
theorem eqN_page {l : Bool} {n : Nat} {keys vals : Nat → Nat} (hn : n ≤ 7) (hk : ∀ i, i < n → keys i < 18446744073709551616) (hv : ∀ i, i < n → vals i < 18446744073709551616) :
    eqN l l n n n n (pkey (pageF l n keys vals)) keys (pval (pageF l n keys vals)) vals = true := by
  unfold eqN
  rw [Bool.and_eq_true, Bool.and_eq_true, eqF_iff, eqF_iff]
  exact ⟨by cases l <;> rfl, ⟨rfl, fun i hi => pkey_page hn hk hi⟩, rfl, fun i hi => pval_page hn hv hi⟩

set_option maxRecDepth 20000 in
set_option maxHeartbeats 4000000 in
theorem back_tt {w : World} {l l' : Bool} {vk vv uk uv : Value} {nk nv mk mv : Nat} {keys vals keys' vals' : Nat → Nat} (hk : NumsIn [] w vk nk keys) (hv : NumsIn [] w vv nv vals) (hk' : NumsIn [] w uk mk keys') (hv' : NumsIn [] w uv mv vals')
    (g1 : nk ≤ 20) (g2 : mk ≤ 20) (g3 : nv ≤ 20) (g4 : mv ≤ 20) (hr : rightB l nk nv keys vals = true) (hr' : rightB l' mk mv keys' vals' = true) :
    Calls Try.prog 4 #[.agg #[.bool l, vk, vv], .agg #[.bool l', uk, uv]] w (LawOk w) := by
  obtain ⟨ak, ck, rfl, _⟩ := hk.cap
  obtain ⟨av, cv, rfl, _⟩ := hv.cap
  obtain ⟨bk, dk, rfl, _⟩ := hk'.cap
  obtain ⟨bv, dv, rfl, _⟩ := hv'.cap
  have d1 : ¬ (20 : Int) < (nk : Int) := by omega
  have d2 : ¬ (20 : Int) < (mk : Int) := by omega
  have d3 : ¬ (20 : Int) < (nv : Int) := by omega
  have d4 : ¬ (20 : Int) < (mv : Int) := by omega
  have hW := ((Chg.refl [] w).alloc (.cells #[.bool l, .slice ak nk ck, .slice av nv cv] 24)).alloc (.cells #[.bool l', .slice bk mk dk, .slice bv mv dv] 24)
  have X0 := Lib.hid (new_block21 w (.cells #[.bool l, .slice ak nk ck, .slice av nv cv] 24) (.cells #[.bool l', .slice bk mk dk, .slice bv mv dv] 24))
  have Y0 := Lib.hid (new_block2 w (.cells #[.bool l, .slice ak nk ck, .slice av nv cv] 24) (.cells #[.bool l', .slice bk mk dk, .slice bv mv dv] 24))
  have K0 := Lib.hid (hk.chg hW (by simp))
  have V0 := Lib.hid (hv.chg hW (by simp))
  have K0' := Lib.hid (hk'.chg hW (by simp))
  have V0' := Lib.hid (hv'.chg hW (by simp))
  have C0 := Lib.hid hW
  have Hr := Lib.hid hr
  have Hr' := Lib.hid hr'
  clear hk hv hk' hv' hr hr' hW g1 g2 g3 g4
  go_enter Try.func4, Try.ntmps4
  go_wp2_with fail
  refine (enc_ok K0.out V0.out Hr.out).mono ?_
  rintro e w1 ⟨p1, rfl, hp1, hB, hC⟩
  have P1 := Lib.hid hB
  have C1 := Lib.hid (C0.out.trans hC)
  have X1 := Lib.hid ((hC.block w.heap.size (heap_lt X0.out) (by simp)).trans X0.out)
  have Y1 := Lib.hid ((hC.block (w.heap.size + 1) (heap_lt Y0.out) (by simp)).trans Y0.out)
  have K1 := Lib.hid (K0.out.chg hC (by simp))
  have V1 := Lib.hid (V0.out.chg hC (by simp))
  have K1' := Lib.hid (K0'.out.chg hC (by simp))
  have V1' := Lib.hid (V0'.out.chg hC (by simp))
  clear hB
  clear hC C0 X0 Y0 K0 V0 K0' V0'
  have x0 := cell_of_block X1.out 0
  have x1 := cell_of_block X1.out 1
  have x2 := cell_of_block X1.out 2
  simp only [List.getElem?_toArray, List.getElem?_cons_zero, List.getElem?_cons_succ] at x0 x1 x2
  have y0 := cell_of_block Y1.out 0
  have y1 := cell_of_block Y1.out 1
  have y2 := cell_of_block Y1.out 2
  simp only [List.getElem?_toArray, List.getElem?_cons_zero, List.getElem?_cons_succ] at y0 y1 y2
  have lx := heap_lt X1.out
  have ly := heap_lt Y1.out
  go_wp2_with fail
  refine (enc_ok K1'.out V1'.out Hr'.out).mono ?_
  clear x0 x1 x2 y0 y1 y2 lx ly
  rintro e w2 ⟨p2, rfl, hp2, hB, hC⟩
  have P2' := Lib.hid hB
  have C2 := Lib.hid (C1.out.trans hC)
  have X2 := Lib.hid ((hC.block w.heap.size (heap_lt X1.out) (by simp)).trans X1.out)
  have Y2 := Lib.hid ((hC.block (w.heap.size + 1) (heap_lt Y1.out) (by simp)).trans Y1.out)
  have K2 := Lib.hid (K1.out.chg hC (by simp))
  have V2 := Lib.hid (V1.out.chg hC (by simp))
  have K2' := Lib.hid (K1'.out.chg hC (by simp))
  have V2' := Lib.hid (V1'.out.chg hC (by simp))
  have P2 := Lib.hid ((hC.block p1 (heap_lt P1.out) (by simp)).trans P1.out)
  clear P1
  clear hB
  clear hC C1 X1 Y1 K1 V1 K1' V1'
  have x0 := cell_of_block X2.out 0
  have x1 := cell_of_block X2.out 1
  have x2 := cell_of_block X2.out 2
  simp only [List.getElem?_toArray, List.getElem?_cons_zero, List.getElem?_cons_succ] at x0 x1 x2
  have y0 := cell_of_block Y2.out 0
  have y1 := cell_of_block Y2.out 1
  have y2 := cell_of_block Y2.out 2
  simp only [List.getElem?_toArray, List.getElem?_cons_zero, List.getElem?_cons_succ] at y0 y1 y2
  have lx := heap_lt X2.out
  have ly := heap_lt Y2.out
  have cR := right_at (leaf := l) K2.out V2.out
  rw [Hr.out] at cR
  go_wp2_with fail
  refine cR.mono ?_
  clear cR
  clear x0 x1 x2 y0 y1 y2 lx ly
  rintro e w3 ⟨rfl, hC⟩
  have C3 := Lib.hid (C2.out.trans hC)
  have X3 := Lib.hid ((hC.block w.heap.size (heap_lt X2.out) (by simp)).trans X2.out)
  have Y3 := Lib.hid ((hC.block (w.heap.size + 1) (heap_lt Y2.out) (by simp)).trans Y2.out)
  have K3 := Lib.hid (K2.out.chg hC (by simp))
  have V3 := Lib.hid (V2.out.chg hC (by simp))
  have K3' := Lib.hid (K2'.out.chg hC (by simp))
  have V3' := Lib.hid (V2'.out.chg hC (by simp))
  have P3 := Lib.hid ((hC.block p1 (heap_lt P2.out) (by simp)).trans P2.out)
  clear P2
  have P3' := Lib.hid ((hC.block p2 (heap_lt P2'.out) (by simp)).trans P2'.out)
  clear P2'
  clear hC C2 X2 Y2 K2 V2 K2' V2'
  have x0 := cell_of_block X3.out 0
  have x1 := cell_of_block X3.out 1
  have x2 := cell_of_block X3.out 2
  simp only [List.getElem?_toArray, List.getElem?_cons_zero, List.getElem?_cons_succ] at x0 x1 x2
  have y0 := cell_of_block Y3.out 0
  have y1 := cell_of_block Y3.out 1
  have y2 := cell_of_block Y3.out 2
  simp only [List.getElem?_toArray, List.getElem?_cons_zero, List.getElem?_cons_succ] at y0 y1 y2
  have lx := heap_lt X3.out
  have ly := heap_lt Y3.out
  have cR := right_at (leaf := l') K3'.out V3'.out
  rw [Hr'.out] at cR
  go_wp2_with fail
  refine cR.mono ?_
  clear cR
  clear x0 x1 x2 y0 y1 y2 lx ly
  rintro e w4 ⟨rfl, hC⟩
  have C4 := Lib.hid (C3.out.trans hC)
  have X4 := Lib.hid ((hC.block w.heap.size (heap_lt X3.out) (by simp)).trans X3.out)
  have Y4 := Lib.hid ((hC.block (w.heap.size + 1) (heap_lt Y3.out) (by simp)).trans Y3.out)
  have K4 := Lib.hid (K3.out.chg hC (by simp))
  have V4 := Lib.hid (V3.out.chg hC (by simp))
  have K4' := Lib.hid (K3'.out.chg hC (by simp))
  have V4' := Lib.hid (V3'.out.chg hC (by simp))
  have P4 := Lib.hid ((hC.block p1 (heap_lt P3.out) (by simp)).trans P3.out)
  clear P3
  have P4' := Lib.hid ((hC.block p2 (heap_lt P3'.out) (by simp)).trans P3'.out)
  clear P3'
  clear hC C3 X3 Y3 K3 V3 K3' V3'
  have x0 := cell_of_block X4.out 0
  have x1 := cell_of_block X4.out 1
  have x2 := cell_of_block X4.out 2
  simp only [List.getElem?_toArray, List.getElem?_cons_zero, List.getElem?_cons_succ] at x0 x1 x2
  have y0 := cell_of_block Y4.out 0
  have y1 := cell_of_block Y4.out 1
  have y2 := cell_of_block Y4.out 2
  simp only [List.getElem?_toArray, List.getElem?_cons_zero, List.getElem?_cons_succ] at y0 y1 y2
  have lx := heap_lt X4.out
  have ly := heap_lt Y4.out
  obtain ⟨n7, rfl⟩ := rightB_bd Hr.out
  have bK := K4.out.bd
  have bV := V4.out.bd
  have cD := dec_at (of_block_in P4.out (fun i _ => pageF_le l (by omega) _ _ _))
  rw [page_kind, kindOf_eq, decB_page Hr.out bK bV] at cD
  have HB := Lib.hid (And.intro bK bV)
  have cD' : Calls Try.prog 14 #[.slice (some ⟨p1, 0, none⟩) 128 128] w4 (DecOk w4 l (pageF l nv keys vals)) := cD
  clear cD bK bV
  go_wp2_with fail
  refine cD'.mono ?_
  clear cD'
  clear x0 x1 x2 y0 y1 y2 lx ly
  rintro e w5 ⟨kb, vb, rfl, q1, q2, q3, hK3, hV3, hC⟩
  rw [page_many] at hK3 hV3 ⊢
  have kb3 := hK3.lt
  have vb3 := hV3.lt
  have RK := Lib.hid hK3
  have RV := Lib.hid hV3
  have C5 := Lib.hid (C4.out.trans hC)
  have X5 := Lib.hid ((hC.block w.heap.size (heap_lt X4.out) (by simp)).trans X4.out)
  have Y5 := Lib.hid ((hC.block (w.heap.size + 1) (heap_lt Y4.out) (by simp)).trans Y4.out)
  have K5 := Lib.hid (K4.out.chg hC (by simp))
  have V5 := Lib.hid (V4.out.chg hC (by simp))
  have K5' := Lib.hid (K4'.out.chg hC (by simp))
  have V5' := Lib.hid (V4'.out.chg hC (by simp))
  have P5 := Lib.hid ((hC.block p1 (heap_lt P4.out) (by simp)).trans P4.out)
  clear P4
  have P5' := Lib.hid ((hC.block p2 (heap_lt P4'.out) (by simp)).trans P4'.out)
  clear P4'
  clear hK3 hV3
  clear hC C4 X4 Y4 K4 V4 K4' V4'
  have x0 := cell_of_block X5.out 0
  have x1 := cell_of_block X5.out 1
  have x2 := cell_of_block X5.out 2
  simp only [List.getElem?_toArray, List.getElem?_cons_zero, List.getElem?_cons_succ] at x0 x1 x2
  have y0 := cell_of_block Y5.out 0
  have y1 := cell_of_block Y5.out 1
  have y2 := cell_of_block Y5.out 2
  simp only [List.getElem?_toArray, List.getElem?_cons_zero, List.getElem?_cons_succ] at y0 y1 y2
  have lx := heap_lt X5.out
  have ly := heap_lt Y5.out
  have hC := (Chg.refl [] w5).alloc (.cells #[.bool l, .slice (some ⟨kb, 0, none⟩) nv nv, .slice (some ⟨vb, 0, none⟩) nv nv] 24)
  have c1 := equalNodes_at (l := l) (l' := l) (k := .slice (some ⟨kb, 0, none⟩) nv nv) (v := .slice (some ⟨vb, 0, none⟩) nv nv) (A := []) (B := []) (.inr ⟨kb, 0, nv, rfl, Nat.le_refl _, by unfold maxLen; omega, Nat.lt_of_lt_of_le kb3 hC.size, by simp, RK.out.nums.chg hC (by simp)⟩)
    (.inr ⟨vb, 0, nv, rfl, Nat.le_refl _, by unfold maxLen; omega, Nat.lt_of_lt_of_le vb3 hC.size, by simp, RV.out.nums.chg hC (by simp)⟩) (K5.out.chg hC (by simp)) (V5.out.chg hC (by simp))
  rw [eqN_page n7 HB.out.1 HB.out.2] at c1
  have hC0 := Lib.hid hC
  clear hC
  go_wp2_with fail
  refine c1.mono ?_
  clear c1
  clear x0 x1 x2 y0 y1 y2 lx ly
  rintro e w6 ⟨rfl, hC'⟩
  have hC := hC0.out.trans hC'
  clear hC' hC0
  have C6 := Lib.hid (C5.out.trans hC)
  have X6 := Lib.hid ((hC.block w.heap.size (heap_lt X5.out) (by simp)).trans X5.out)
  have Y6 := Lib.hid ((hC.block (w.heap.size + 1) (heap_lt Y5.out) (by simp)).trans Y5.out)
  have K6 := Lib.hid (K5.out.chg hC (by simp))
  have V6 := Lib.hid (V5.out.chg hC (by simp))
  have K6' := Lib.hid (K5'.out.chg hC (by simp))
  have V6' := Lib.hid (V5'.out.chg hC (by simp))
  have P6 := Lib.hid ((hC.block p1 (heap_lt P5.out) (by simp)).trans P5.out)
  clear P5
  have P6' := Lib.hid ((hC.block p2 (heap_lt P5'.out) (by simp)).trans P5'.out)
  clear P5'
  clear hC C5 X5 Y5 K5 V5 K5' V5'
  clear RK RV
  have x0 := cell_of_block X6.out 0
  have x1 := cell_of_block X6.out 1
  have x2 := cell_of_block X6.out 2
  simp only [List.getElem?_toArray, List.getElem?_cons_zero, List.getElem?_cons_succ] at x0 x1 x2
  have y0 := cell_of_block Y6.out 0
  have y1 := cell_of_block Y6.out 1
  have y2 := cell_of_block Y6.out 2
  simp only [List.getElem?_toArray, List.getElem?_cons_zero, List.getElem?_cons_succ] at y0 y1 y2
  have lx := heap_lt X6.out
  have ly := heap_lt Y6.out
  obtain ⟨m7, rfl⟩ := rightB_bd Hr'.out
  have bK := K6.out.bd
  have bV := V6.out.bd
  have bK' := K6'.out.bd
  have bV' := V6'.out.bd
  have cE := equal_at (w := w6.drew) (of_block_in P6.out (fun i _ => pageF_le l (by omega) _ _ _)) (of_block_in P6'.out (fun i _ => pageF_le l' (by omega) _ _ _))
  have cN := equalNodes_at (w := w6.drew) (l := l) (l' := l') (K6.out.chg (Chg.drew (Chg.refl [] _)) (by simp)) (V6.out.chg (Chg.drew (Chg.refl [] _)) (by simp)) (K6'.out.chg (Chg.drew (Chg.refl [] _)) (by simp)) (V6'.out.chg (Chg.drew (Chg.refl [] _)) (by simp))
  rw [page_inj n7 m7 bK bK' bV bV'] at cE
  clear bK bV bK' bV'
  generalize eqN l l' nv mv nv mv keys keys' vals vals' = B at cE cN
  have hBB : (B == B) = true := by cases B <;> rfl
  go_wp2_with fail
  go_region_held3 (fun w' => w'.cell? ⟨w.heap.size, 0, none⟩ = some (.bool l) ∧ w'.cell? ⟨w.heap.size, 1, none⟩ = some (.slice ak nv ck) ∧ w'.cell? ⟨w.heap.size, 2, none⟩ = some (.slice av nv cv) ∧ w'.cell? ⟨w.heap.size + 1, 0, none⟩ = some (.bool l') ∧ w'.cell? ⟨w.heap.size + 1, 1, none⟩ = some (.slice bk mv dk) ∧ w'.cell? ⟨w.heap.size + 1, 2, none⟩ = some (.slice bv mv dv))
    (first | exact ⟨x0, x1, x2, y0, y1, y2⟩ | exact ⟨z0, z1, z2, z3, z4, z5⟩ | exact ⟨u0, u1, u2, u3, u4, u5⟩ | go_keep)
    (first | (go_at_call 16; refine cE.mono ?_; rintro e w' ⟨rfl, rfl⟩) | (go_at_call 17; refine cN.mono ?_; rintro e wn ⟨rfl, hC⟩; have z0 := (hC.cell (p := ⟨w.heap.size, 0, none⟩) lx (by simp)).trans x0; have z1 := (hC.cell (p := ⟨w.heap.size, 1, none⟩) lx (by simp)).trans x1; have z2 := (hC.cell (p := ⟨w.heap.size, 2, none⟩) lx (by simp)).trans x2; have z3 := (hC.cell (p := ⟨w.heap.size + 1, 0, none⟩) ly (by simp)).trans y0; have z4 := (hC.cell (p := ⟨w.heap.size + 1, 1, none⟩) ly (by simp)).trans y1; have z5 := (hC.cell (p := ⟨w.heap.size + 1, 2, none⟩) ly (by simp)).trans y2; have lx1 := Nat.lt_of_lt_of_le lx hC.size; have ly1 := Nat.lt_of_lt_of_le ly hC.size; have HC := Lib.hid (C6.out.drew.trans hC); clear hC) | (go_at_call 9; refine (awake03 _).mono ?_; rintro e wz ⟨rfl, hZ⟩; have u0 := (hZ.cell (p := ⟨w.heap.size, 0, none⟩) lx1 (by simp)).trans z0; have u1 := (hZ.cell (p := ⟨w.heap.size, 1, none⟩) lx1 (by simp)).trans z1; have u2 := (hZ.cell (p := ⟨w.heap.size, 2, none⟩) lx1 (by simp)).trans z2; have u3 := (hZ.cell (p := ⟨w.heap.size + 1, 0, none⟩) ly1 (by simp)).trans z3; have u4 := (hZ.cell (p := ⟨w.heap.size + 1, 1, none⟩) ly1 (by simp)).trans z4; have u5 := (hZ.cell (p := ⟨w.heap.size + 1, 2, none⟩) ly1 (by simp)).trans z5; have HZ := Lib.hid (HC.out.trans hZ); clear hZ))
  all_goals
    go_wp2_with fail
    go_ret
    exact law_ok HZ.out

set_option maxRecDepth 20000 in
set_option maxHeartbeats 4000000 in
theorem back_tf {w : World} {l l' : Bool} {vk vv uk uv : Value} {nk nv mk mv : Nat} {keys vals keys' vals' : Nat → Nat} (hk : NumsIn [] w vk nk keys) (hv : NumsIn [] w vv nv vals) (hk' : NumsIn [] w uk mk keys') (hv' : NumsIn [] w uv mv vals')
    (g1 : nk ≤ 20) (g2 : mk ≤ 20) (g3 : nv ≤ 20) (g4 : mv ≤ 20) (hr : rightB l nk nv keys vals = true) (hr' : rightB l' mk mv keys' vals' = false) :
    Calls Try.prog 4 #[.agg #[.bool l, vk, vv], .agg #[.bool l', uk, uv]] w (LawOk w) := by
  obtain ⟨ak, ck, rfl, _⟩ := hk.cap
  obtain ⟨av, cv, rfl, _⟩ := hv.cap
  obtain ⟨bk, dk, rfl, _⟩ := hk'.cap
  obtain ⟨bv, dv, rfl, _⟩ := hv'.cap
  have d1 : ¬ (20 : Int) < (nk : Int) := by omega
  have d2 : ¬ (20 : Int) < (mk : Int) := by omega
  have d3 : ¬ (20 : Int) < (nv : Int) := by omega
  have d4 : ¬ (20 : Int) < (mv : Int) := by omega
  have hW := ((Chg.refl [] w).alloc (.cells #[.bool l, .slice ak nk ck, .slice av nv cv] 24)).alloc (.cells #[.bool l', .slice bk mk dk, .slice bv mv dv] 24)
  have X0 := Lib.hid (new_block21 w (.cells #[.bool l, .slice ak nk ck, .slice av nv cv] 24) (.cells #[.bool l', .slice bk mk dk, .slice bv mv dv] 24))
  have Y0 := Lib.hid (new_block2 w (.cells #[.bool l, .slice ak nk ck, .slice av nv cv] 24) (.cells #[.bool l', .slice bk mk dk, .slice bv mv dv] 24))
  have K0 := Lib.hid (hk.chg hW (by simp))
  have V0 := Lib.hid (hv.chg hW (by simp))
  have K0' := Lib.hid (hk'.chg hW (by simp))
  have V0' := Lib.hid (hv'.chg hW (by simp))
  have C0 := Lib.hid hW
  have Hr := Lib.hid hr
  have Hr' := Lib.hid hr'
  clear hk hv hk' hv' hr hr' hW g1 g2 g3 g4
  go_enter Try.func4, Try.ntmps4
  go_wp2_with fail
  refine (enc_ok K0.out V0.out Hr.out).mono ?_
  rintro e w1 ⟨p1, rfl, hp1, hB, hC⟩
  have P1 := Lib.hid hB
  have C1 := Lib.hid (C0.out.trans hC)
  have X1 := Lib.hid ((hC.block w.heap.size (heap_lt X0.out) (by simp)).trans X0.out)
  have Y1 := Lib.hid ((hC.block (w.heap.size + 1) (heap_lt Y0.out) (by simp)).trans Y0.out)
  have K1 := Lib.hid (K0.out.chg hC (by simp))
  have V1 := Lib.hid (V0.out.chg hC (by simp))
  have K1' := Lib.hid (K0'.out.chg hC (by simp))
  have V1' := Lib.hid (V0'.out.chg hC (by simp))
  clear hB
  clear hC C0 X0 Y0 K0 V0 K0' V0'
  have x0 := cell_of_block X1.out 0
  have x1 := cell_of_block X1.out 1
  have x2 := cell_of_block X1.out 2
  simp only [List.getElem?_toArray, List.getElem?_cons_zero, List.getElem?_cons_succ] at x0 x1 x2
  have y0 := cell_of_block Y1.out 0
  have y1 := cell_of_block Y1.out 1
  have y2 := cell_of_block Y1.out 2
  simp only [List.getElem?_toArray, List.getElem?_cons_zero, List.getElem?_cons_succ] at y0 y1 y2
  have lx := heap_lt X1.out
  have ly := heap_lt Y1.out
  go_wp2_with fail
  refine (enc_bad K1'.out V1'.out Hr'.out).mono ?_
  clear x0 x1 x2 y0 y1 y2 lx ly
  rintro e w2 ⟨rfl, hC⟩
  have C2 := Lib.hid (C1.out.trans hC)
  have X2 := Lib.hid ((hC.block w.heap.size (heap_lt X1.out) (by simp)).trans X1.out)
  have Y2 := Lib.hid ((hC.block (w.heap.size + 1) (heap_lt Y1.out) (by simp)).trans Y1.out)
  have K2 := Lib.hid (K1.out.chg hC (by simp))
  have V2 := Lib.hid (V1.out.chg hC (by simp))
  have K2' := Lib.hid (K1'.out.chg hC (by simp))
  have V2' := Lib.hid (V1'.out.chg hC (by simp))
  have P2 := Lib.hid ((hC.block p1 (heap_lt P1.out) (by simp)).trans P1.out)
  clear P1
  clear hC C1 X1 Y1 K1 V1 K1' V1'
  have x0 := cell_of_block X2.out 0
  have x1 := cell_of_block X2.out 1
  have x2 := cell_of_block X2.out 2
  simp only [List.getElem?_toArray, List.getElem?_cons_zero, List.getElem?_cons_succ] at x0 x1 x2
  have y0 := cell_of_block Y2.out 0
  have y1 := cell_of_block Y2.out 1
  have y2 := cell_of_block Y2.out 2
  simp only [List.getElem?_toArray, List.getElem?_cons_zero, List.getElem?_cons_succ] at y0 y1 y2
  have lx := heap_lt X2.out
  have ly := heap_lt Y2.out
  have cR := right_at (leaf := l) K2.out V2.out
  rw [Hr.out] at cR
  go_wp2_with fail
  refine cR.mono ?_
  clear cR
  clear x0 x1 x2 y0 y1 y2 lx ly
  rintro e w3 ⟨rfl, hC⟩
  have C3 := Lib.hid (C2.out.trans hC)
  have X3 := Lib.hid ((hC.block w.heap.size (heap_lt X2.out) (by simp)).trans X2.out)
  have Y3 := Lib.hid ((hC.block (w.heap.size + 1) (heap_lt Y2.out) (by simp)).trans Y2.out)
  have K3 := Lib.hid (K2.out.chg hC (by simp))
  have V3 := Lib.hid (V2.out.chg hC (by simp))
  have K3' := Lib.hid (K2'.out.chg hC (by simp))
  have V3' := Lib.hid (V2'.out.chg hC (by simp))
  have P3 := Lib.hid ((hC.block p1 (heap_lt P2.out) (by simp)).trans P2.out)
  clear P2
  clear hC C2 X2 Y2 K2 V2 K2' V2'
  have x0 := cell_of_block X3.out 0
  have x1 := cell_of_block X3.out 1
  have x2 := cell_of_block X3.out 2
  simp only [List.getElem?_toArray, List.getElem?_cons_zero, List.getElem?_cons_succ] at x0 x1 x2
  have y0 := cell_of_block Y3.out 0
  have y1 := cell_of_block Y3.out 1
  have y2 := cell_of_block Y3.out 2
  simp only [List.getElem?_toArray, List.getElem?_cons_zero, List.getElem?_cons_succ] at y0 y1 y2
  have lx := heap_lt X3.out
  have ly := heap_lt Y3.out
  have cR := right_at (leaf := l') K3'.out V3'.out
  rw [Hr'.out] at cR
  go_wp2_with fail
  refine cR.mono ?_
  clear cR
  clear x0 x1 x2 y0 y1 y2 lx ly
  rintro e w4 ⟨rfl, hC⟩
  have C4 := Lib.hid (C3.out.trans hC)
  have X4 := Lib.hid ((hC.block w.heap.size (heap_lt X3.out) (by simp)).trans X3.out)
  have Y4 := Lib.hid ((hC.block (w.heap.size + 1) (heap_lt Y3.out) (by simp)).trans Y3.out)
  have K4 := Lib.hid (K3.out.chg hC (by simp))
  have V4 := Lib.hid (V3.out.chg hC (by simp))
  have K4' := Lib.hid (K3'.out.chg hC (by simp))
  have V4' := Lib.hid (V3'.out.chg hC (by simp))
  have P4 := Lib.hid ((hC.block p1 (heap_lt P3.out) (by simp)).trans P3.out)
  clear P3
  clear hC C3 X3 Y3 K3 V3 K3' V3'
  have x0 := cell_of_block X4.out 0
  have x1 := cell_of_block X4.out 1
  have x2 := cell_of_block X4.out 2
  simp only [List.getElem?_toArray, List.getElem?_cons_zero, List.getElem?_cons_succ] at x0 x1 x2
  have y0 := cell_of_block Y4.out 0
  have y1 := cell_of_block Y4.out 1
  have y2 := cell_of_block Y4.out 2
  simp only [List.getElem?_toArray, List.getElem?_cons_zero, List.getElem?_cons_succ] at y0 y1 y2
  have lx := heap_lt X4.out
  have ly := heap_lt Y4.out
  obtain ⟨n7, rfl⟩ := rightB_bd Hr.out
  have bK := K4.out.bd
  have bV := V4.out.bd
  have cD := dec_at (of_block_in P4.out (fun i _ => pageF_le l (by omega) _ _ _))
  rw [page_kind, kindOf_eq, decB_page Hr.out bK bV] at cD
  have HB := Lib.hid (And.intro bK bV)
  have cD' : Calls Try.prog 14 #[.slice (some ⟨p1, 0, none⟩) 128 128] w4 (DecOk w4 l (pageF l nv keys vals)) := cD
  clear cD bK bV
  go_wp2_with fail
  refine cD'.mono ?_
  clear cD'
  clear x0 x1 x2 y0 y1 y2 lx ly
  rintro e w5 ⟨kb, vb, rfl, q1, q2, q3, hK3, hV3, hC⟩
  rw [page_many] at hK3 hV3 ⊢
  have kb3 := hK3.lt
  have vb3 := hV3.lt
  have RK := Lib.hid hK3
  have RV := Lib.hid hV3
  have C5 := Lib.hid (C4.out.trans hC)
  have X5 := Lib.hid ((hC.block w.heap.size (heap_lt X4.out) (by simp)).trans X4.out)
  have Y5 := Lib.hid ((hC.block (w.heap.size + 1) (heap_lt Y4.out) (by simp)).trans Y4.out)
  have K5 := Lib.hid (K4.out.chg hC (by simp))
  have V5 := Lib.hid (V4.out.chg hC (by simp))
  have K5' := Lib.hid (K4'.out.chg hC (by simp))
  have V5' := Lib.hid (V4'.out.chg hC (by simp))
  have P5 := Lib.hid ((hC.block p1 (heap_lt P4.out) (by simp)).trans P4.out)
  clear P4
  clear hK3 hV3
  clear hC C4 X4 Y4 K4 V4 K4' V4'
  have x0 := cell_of_block X5.out 0
  have x1 := cell_of_block X5.out 1
  have x2 := cell_of_block X5.out 2
  simp only [List.getElem?_toArray, List.getElem?_cons_zero, List.getElem?_cons_succ] at x0 x1 x2
  have y0 := cell_of_block Y5.out 0
  have y1 := cell_of_block Y5.out 1
  have y2 := cell_of_block Y5.out 2
  simp only [List.getElem?_toArray, List.getElem?_cons_zero, List.getElem?_cons_succ] at y0 y1 y2
  have lx := heap_lt X5.out
  have ly := heap_lt Y5.out
  have hC := (Chg.refl [] w5).alloc (.cells #[.bool l, .slice (some ⟨kb, 0, none⟩) nv nv, .slice (some ⟨vb, 0, none⟩) nv nv] 24)
  have c1 := equalNodes_at (l := l) (l' := l) (k := .slice (some ⟨kb, 0, none⟩) nv nv) (v := .slice (some ⟨vb, 0, none⟩) nv nv) (A := []) (B := []) (.inr ⟨kb, 0, nv, rfl, Nat.le_refl _, by unfold maxLen; omega, Nat.lt_of_lt_of_le kb3 hC.size, by simp, RK.out.nums.chg hC (by simp)⟩)
    (.inr ⟨vb, 0, nv, rfl, Nat.le_refl _, by unfold maxLen; omega, Nat.lt_of_lt_of_le vb3 hC.size, by simp, RV.out.nums.chg hC (by simp)⟩) (K5.out.chg hC (by simp)) (V5.out.chg hC (by simp))
  rw [eqN_page n7 HB.out.1 HB.out.2] at c1
  have hC0 := Lib.hid hC
  clear hC
  go_wp2_with fail
  refine c1.mono ?_
  clear c1
  clear x0 x1 x2 y0 y1 y2 lx ly
  rintro e w6 ⟨rfl, hC'⟩
  have hC := hC0.out.trans hC'
  clear hC' hC0
  have C6 := Lib.hid (C5.out.trans hC)
  have X6 := Lib.hid ((hC.block w.heap.size (heap_lt X5.out) (by simp)).trans X5.out)
  have Y6 := Lib.hid ((hC.block (w.heap.size + 1) (heap_lt Y5.out) (by simp)).trans Y5.out)
  have K6 := Lib.hid (K5.out.chg hC (by simp))
  have V6 := Lib.hid (V5.out.chg hC (by simp))
  have K6' := Lib.hid (K5'.out.chg hC (by simp))
  have V6' := Lib.hid (V5'.out.chg hC (by simp))
  have P6 := Lib.hid ((hC.block p1 (heap_lt P5.out) (by simp)).trans P5.out)
  clear P5
  clear hC C5 X5 Y5 K5 V5 K5' V5'
  clear RK RV
  have x0 := cell_of_block X6.out 0
  have x1 := cell_of_block X6.out 1
  have x2 := cell_of_block X6.out 2
  simp only [List.getElem?_toArray, List.getElem?_cons_zero, List.getElem?_cons_succ] at x0 x1 x2
  have y0 := cell_of_block Y6.out 0
  have y1 := cell_of_block Y6.out 1
  have y2 := cell_of_block Y6.out 2
  simp only [List.getElem?_toArray, List.getElem?_cons_zero, List.getElem?_cons_succ] at y0 y1 y2
  have lx := heap_lt X6.out
  have ly := heap_lt Y6.out
  go_wp2_with fail
  refine wp_region_held_drew (S := fun _ => True) (by kernel_rfl) (by exact trivial) (fun hHeld => ?_)
  refine wpAnyH_take (i := 0) (oi := ?_) (v := ?_) ?_ (by kernel_rfl) (by kernel_rfl) (by kernel_rfl) ?_ (Or.inl ⟨?_, ?_⟩) hHeld ?_
  rotate_left 2
  · (simp only [List.getElem?_toArray, List.getElem?_cons_succ, List.getElem?_cons_zero]; rfl)
  · exact fun _ _ _ h => h
  · rfl
  · (intro w hSw; go_simp; first | done | with_reducible rfl)
  try simp only [Act.put, List.setIfInBounds_toArray, List.set_cons_zero, List.set_cons_succ]
  refine wpAnyH_take (i := 1) (oi := ?_) (v := ?_) ?_ (by kernel_rfl) (by kernel_rfl) (by kernel_rfl) ?_ (Or.inl ⟨?_, ?_⟩) hHeld ?_
  rotate_left 2
  · (simp only [List.getElem?_toArray, List.getElem?_cons_succ, List.getElem?_cons_zero]; rfl)
  · exact fun _ _ _ h => h
  · rfl
  · (intro w hSw; go_simp; first | done | with_reducible rfl)
  try simp only [Act.put, List.setIfInBounds_toArray, List.set_cons_zero, List.set_cons_succ]
  refine wpAnyH_take (i := 2) (oi := ?_) (v := ?_) ?_ (by kernel_rfl) (by kernel_rfl) (by kernel_rfl) ?_ (Or.inl ⟨?_, ?_⟩) hHeld ?_
  rotate_left 2
  · (simp only [List.getElem?_toArray, List.getElem?_cons_succ, List.getElem?_cons_zero]; rfl)
  · exact fun _ _ _ h => h
  · rfl
  · (intro w hSw; go_simp; first | done | with_reducible rfl)
  try simp only [Act.put, List.setIfInBounds_toArray, List.set_cons_zero, List.set_cons_succ]
  refine wpAnyH_take (i := 3) (oi := ?_) (v := ?_) ?_ (by kernel_rfl) (by kernel_rfl) (by kernel_rfl) ?_ (Or.inl ⟨?_, ?_⟩) hHeld ?_
  rotate_left 2
  · (simp only [List.getElem?_toArray, List.getElem?_cons_succ, List.getElem?_cons_zero]; rfl)
  · exact fun _ _ _ h => h
  · rfl
  · (intro w hSw; go_simp; first | done | with_reducible rfl)
  try simp only [Act.put, List.setIfInBounds_toArray, List.set_cons_zero, List.set_cons_succ]
  refine wpAnyH_take (i := 4) (oi := ?_) (v := ?_) ?_ (by kernel_rfl) (by kernel_rfl) (by kernel_rfl) ?_ (Or.inl ⟨?_, ?_⟩) hHeld ?_
  rotate_left 2
  · (simp only [List.getElem?_toArray, List.getElem?_cons_succ, List.getElem?_cons_zero]; rfl)
  · exact fun _ _ _ h => h
  · rfl
  · (intro w hSw; go_simp; first | done | with_reducible rfl)
  try simp only [Act.put, List.setIfInBounds_toArray, List.set_cons_zero, List.set_cons_succ]
  refine wpAnyH_take (i := 5) (oi := ?_) (v := ?_) ?_ (by kernel_rfl) (by kernel_rfl) (by kernel_rfl) ?_ (Or.inl ⟨?_, ?_⟩) hHeld ?_
  rotate_left 2
  · (simp only [List.getElem?_toArray, List.getElem?_cons_succ, List.getElem?_cons_zero]; rfl)
  · exact fun _ _ _ h => h
  · rfl
  · (intro w hSw; go_simp; first | done | with_reducible rfl)
  try simp only [Act.put, List.setIfInBounds_toArray, List.set_cons_zero, List.set_cons_succ]
  refine wpAnyH_take (i := 6) (oi := ?_) (v := ?_) ?_ (by kernel_rfl) (by kernel_rfl) (by kernel_rfl) ?_ (Or.inl ⟨?_, ?_⟩) hHeld ?_
  rotate_left 2
  · (simp only [List.getElem?_toArray, List.getElem?_cons_succ, List.getElem?_cons_zero]; rfl)
  · exact fun _ _ _ h => h
  · rfl
  · (intro w hSw; go_simp; first | done | with_reducible rfl)
  try simp only [Act.put, List.setIfInBounds_toArray, List.set_cons_zero, List.set_cons_succ]
  refine wpAnyH_take (i := 7) (oi := ?_) (v := undef) ?_ (by kernel_rfl) (by kernel_rfl) (by kernel_rfl) ?_ (Or.inr ⟨?_, rfl⟩) hHeld ?_
  rotate_left 1
  · (simp only [List.getElem?_toArray, List.getElem?_cons_succ, List.getElem?_cons_zero]; rfl)
  · exact fun _ _ _ h => h
  · rfl
  try simp only [Act.put, List.setIfInBounds_toArray, List.set_cons_zero, List.set_cons_succ]
  refine wpAnyH_take (i := 8) (oi := ?_) (v := undef) ?_ (by kernel_rfl) (by kernel_rfl) (by kernel_rfl) ?_ (Or.inr ⟨?_, rfl⟩) hHeld ?_
  rotate_left 1
  · (simp only [List.getElem?_toArray, List.getElem?_cons_succ, List.getElem?_cons_zero]; rfl)
  · exact fun _ _ _ h => h
  · rfl
  try simp only [Act.put, List.setIfInBounds_toArray, List.set_cons_zero, List.set_cons_succ]
  refine wpAnyH_take (i := 9) (oi := ?_) (v := undef) ?_ (by kernel_rfl) (by kernel_rfl) (by kernel_rfl) ?_ (Or.inr ⟨?_, rfl⟩) hHeld ?_
  rotate_left 1
  · (simp only [List.getElem?_toArray, List.getElem?_cons_succ, List.getElem?_cons_zero]; rfl)
  · exact fun _ _ _ h => h
  · rfl
  try simp only [Act.put, List.setIfInBounds_toArray, List.set_cons_zero, List.set_cons_succ]
  refine wpAnyH_take (i := 10) (oi := ?_) (v := undef) ?_ (by kernel_rfl) (by kernel_rfl) (by kernel_rfl) ?_ (Or.inr ⟨?_, rfl⟩) hHeld ?_
  rotate_left 1
  · (simp only [List.getElem?_toArray, List.getElem?_cons_succ, List.getElem?_cons_zero]; rfl)
  · exact fun _ _ _ h => h
  · rfl
  try simp only [Act.put, List.setIfInBounds_toArray, List.set_cons_zero, List.set_cons_succ]
  refine wpAnyH_take (i := 11) (oi := ?_) (v := undef) ?_ (by kernel_rfl) (by kernel_rfl) (by kernel_rfl) ?_ (Or.inr ⟨?_, rfl⟩) hHeld ?_
  rotate_left 1
  · (simp only [List.getElem?_toArray, List.getElem?_cons_succ, List.getElem?_cons_zero]; rfl)
  · exact fun _ _ _ h => h
  · rfl
  try simp only [Act.put, List.setIfInBounds_toArray, List.set_cons_zero, List.set_cons_succ]
  refine wpAnyH_take (i := 12) (oi := ?_) (v := undef) ?_ (by kernel_rfl) (by kernel_rfl) (by kernel_rfl) ?_ (Or.inr ⟨?_, rfl⟩) hHeld ?_
  rotate_left 1
  · (simp only [List.getElem?_toArray, List.getElem?_cons_succ, List.getElem?_cons_zero]; rfl)
  · exact fun _ _ _ h => h
  · rfl
  try simp only [Act.put, List.setIfInBounds_toArray, List.set_cons_zero, List.set_cons_succ]
  refine wpAnyH_take (i := 13) (oi := ?_) (v := undef) ?_ (by kernel_rfl) (by kernel_rfl) (by kernel_rfl) ?_ (Or.inr ⟨?_, rfl⟩) hHeld ?_
  rotate_left 1
  · (simp only [List.getElem?_toArray, List.getElem?_cons_succ, List.getElem?_cons_zero]; rfl)
  · exact fun _ _ _ h => h
  · rfl
  try simp only [Act.put, List.setIfInBounds_toArray, List.set_cons_zero, List.set_cons_succ]
  refine wpAnyH_take (i := 14) (oi := ?_) (v := ?_) ?_ (by kernel_rfl) (by kernel_rfl) (by kernel_rfl) ?_ (Or.inl ⟨?_, ?_⟩) hHeld ?_
  rotate_left 2
  · (simp only [List.getElem?_toArray, List.getElem?_cons_succ, List.getElem?_cons_zero]; rfl)
  · exact fun _ _ _ h => h
  · rfl
  · (intro w hSw; go_simp; first | done | with_reducible rfl)
  try simp only [Act.put, List.setIfInBounds_toArray, List.set_cons_zero, List.set_cons_succ]
  refine wpAnyH_take (i := 15) (oi := ?_) (v := ?_) ?_ (by kernel_rfl) (by kernel_rfl) (by kernel_rfl) ?_ (Or.inl ⟨?_, ?_⟩) hHeld ?_
  rotate_left 2
  · (simp only [List.getElem?_toArray, List.getElem?_cons_succ, List.getElem?_cons_zero]; rfl)
  · exact fun _ _ _ h => h
  · rfl
  · (intro w hSw; go_simp; first | done | with_reducible rfl)
  try simp only [Act.put, List.setIfInBounds_toArray, List.set_cons_zero, List.set_cons_succ]
  refine wpAnyH_ready (rs := [16]) (by kernel_rfl) (by simp) ?_
  refine AllReadyH.cons (o := ?_) ?_ (fun K hK => ?_) AllReadyH.nil
  rotate_left 1
  · (simp only [List.getElem?_toArray, List.getElem?_cons_succ, List.getElem?_cons_zero]; rfl)
  go_simp
  (go_at_call 9; refine (awake03 _).mono ?_; rintro e wz ⟨rfl, hZ⟩; have HZ := Lib.hid (C6.out.drew.trans hZ); clear hZ; go_wp2_with fail)
  refine hK.out _ _ ?_ (fun hHeld => ?_)
  · exact trivial
  clear hK K
  try simp only [Act.put, List.setIfInBounds_toArray, List.set_cons_zero, List.set_cons_succ]
  refine wpAnyH_take (i := 17) (oi := ?_) (v := ?_) ?_ (by kernel_rfl) (by kernel_rfl) (by kernel_rfl) ?_ (Or.inl ⟨?_, ?_⟩) hHeld ?_
  rotate_left 2
  · (simp only [List.getElem?_toArray, List.getElem?_cons_succ, List.getElem?_cons_zero]; rfl)
  · exact fun _ _ _ h => h
  · rfl
  · (intro w hSw; go_simp; first | done | with_reducible rfl)
  try simp only [Act.put, List.setIfInBounds_toArray, List.set_cons_zero, List.set_cons_succ]
  refine wpAnyH_take (i := 18) (oi := ?_) (v := ?_) ?_ (by kernel_rfl) (by kernel_rfl) (by kernel_rfl) ?_ (Or.inl ⟨?_, ?_⟩) hHeld ?_
  rotate_left 2
  · (simp only [List.getElem?_toArray, List.getElem?_cons_succ, List.getElem?_cons_zero]; rfl)
  · exact fun _ _ _ h => h
  · rfl
  · (intro w hSw; go_simp; first | done | with_reducible rfl)
  try simp only [Act.put, List.setIfInBounds_toArray, List.set_cons_zero, List.set_cons_succ]
  refine wpAnyH_done (by kernel_rfl) ?_ _
  go_wp2_with fail
  go_ret
  exact law_ok HZ.out

set_option maxRecDepth 20000 in
set_option maxHeartbeats 4000000 in
theorem back_ft {w : World} {l l' : Bool} {vk vv uk uv : Value} {nk nv mk mv : Nat} {keys vals keys' vals' : Nat → Nat} (hk : NumsIn [] w vk nk keys) (hv : NumsIn [] w vv nv vals) (hk' : NumsIn [] w uk mk keys') (hv' : NumsIn [] w uv mv vals')
    (g1 : nk ≤ 20) (g2 : mk ≤ 20) (g3 : nv ≤ 20) (g4 : mv ≤ 20) (hr : rightB l nk nv keys vals = false) (hr' : rightB l' mk mv keys' vals' = true) :
    Calls Try.prog 4 #[.agg #[.bool l, vk, vv], .agg #[.bool l', uk, uv]] w (LawOk w) := by
  obtain ⟨ak, ck, rfl, _⟩ := hk.cap
  obtain ⟨av, cv, rfl, _⟩ := hv.cap
  obtain ⟨bk, dk, rfl, _⟩ := hk'.cap
  obtain ⟨bv, dv, rfl, _⟩ := hv'.cap
  have d1 : ¬ (20 : Int) < (nk : Int) := by omega
  have d2 : ¬ (20 : Int) < (mk : Int) := by omega
  have d3 : ¬ (20 : Int) < (nv : Int) := by omega
  have d4 : ¬ (20 : Int) < (mv : Int) := by omega
  have hW := ((Chg.refl [] w).alloc (.cells #[.bool l, .slice ak nk ck, .slice av nv cv] 24)).alloc (.cells #[.bool l', .slice bk mk dk, .slice bv mv dv] 24)
  have X0 := Lib.hid (new_block21 w (.cells #[.bool l, .slice ak nk ck, .slice av nv cv] 24) (.cells #[.bool l', .slice bk mk dk, .slice bv mv dv] 24))
  have Y0 := Lib.hid (new_block2 w (.cells #[.bool l, .slice ak nk ck, .slice av nv cv] 24) (.cells #[.bool l', .slice bk mk dk, .slice bv mv dv] 24))
  have K0 := Lib.hid (hk.chg hW (by simp))
  have V0 := Lib.hid (hv.chg hW (by simp))
  have K0' := Lib.hid (hk'.chg hW (by simp))
  have V0' := Lib.hid (hv'.chg hW (by simp))
  have C0 := Lib.hid hW
  have Hr := Lib.hid hr
  have Hr' := Lib.hid hr'
  clear hk hv hk' hv' hr hr' hW g1 g2 g3 g4
  go_enter Try.func4, Try.ntmps4
  go_wp2_with fail
  refine (enc_bad K0.out V0.out Hr.out).mono ?_
  rintro e w1 ⟨rfl, hC⟩
  have C1 := Lib.hid (C0.out.trans hC)
  have X1 := Lib.hid ((hC.block w.heap.size (heap_lt X0.out) (by simp)).trans X0.out)
  have Y1 := Lib.hid ((hC.block (w.heap.size + 1) (heap_lt Y0.out) (by simp)).trans Y0.out)
  have K1 := Lib.hid (K0.out.chg hC (by simp))
  have V1 := Lib.hid (V0.out.chg hC (by simp))
  have K1' := Lib.hid (K0'.out.chg hC (by simp))
  have V1' := Lib.hid (V0'.out.chg hC (by simp))
  clear hC C0 X0 Y0 K0 V0 K0' V0'
  have x0 := cell_of_block X1.out 0
  have x1 := cell_of_block X1.out 1
  have x2 := cell_of_block X1.out 2
  simp only [List.getElem?_toArray, List.getElem?_cons_zero, List.getElem?_cons_succ] at x0 x1 x2
  have y0 := cell_of_block Y1.out 0
  have y1 := cell_of_block Y1.out 1
  have y2 := cell_of_block Y1.out 2
  simp only [List.getElem?_toArray, List.getElem?_cons_zero, List.getElem?_cons_succ] at y0 y1 y2
  have lx := heap_lt X1.out
  have ly := heap_lt Y1.out
  go_wp2_with fail
  refine (enc_ok K1'.out V1'.out Hr'.out).mono ?_
  clear x0 x1 x2 y0 y1 y2 lx ly
  rintro e w2 ⟨p2, rfl, hp2, hB, hC⟩
  have P2' := Lib.hid hB
  have C2 := Lib.hid (C1.out.trans hC)
  have X2 := Lib.hid ((hC.block w.heap.size (heap_lt X1.out) (by simp)).trans X1.out)
  have Y2 := Lib.hid ((hC.block (w.heap.size + 1) (heap_lt Y1.out) (by simp)).trans Y1.out)
  have K2 := Lib.hid (K1.out.chg hC (by simp))
  have V2 := Lib.hid (V1.out.chg hC (by simp))
  have K2' := Lib.hid (K1'.out.chg hC (by simp))
  have V2' := Lib.hid (V1'.out.chg hC (by simp))
  clear hB
  clear hC C1 X1 Y1 K1 V1 K1' V1'
  have x0 := cell_of_block X2.out 0
  have x1 := cell_of_block X2.out 1
  have x2 := cell_of_block X2.out 2
  simp only [List.getElem?_toArray, List.getElem?_cons_zero, List.getElem?_cons_succ] at x0 x1 x2
  have y0 := cell_of_block Y2.out 0
  have y1 := cell_of_block Y2.out 1
  have y2 := cell_of_block Y2.out 2
  simp only [List.getElem?_toArray, List.getElem?_cons_zero, List.getElem?_cons_succ] at y0 y1 y2
  have lx := heap_lt X2.out
  have ly := heap_lt Y2.out
  have cR := right_at (leaf := l) K2.out V2.out
  rw [Hr.out] at cR
  go_wp2_with fail
  refine cR.mono ?_
  clear cR
  clear x0 x1 x2 y0 y1 y2 lx ly
  rintro e w3 ⟨rfl, hC⟩
  have C3 := Lib.hid (C2.out.trans hC)
  have X3 := Lib.hid ((hC.block w.heap.size (heap_lt X2.out) (by simp)).trans X2.out)
  have Y3 := Lib.hid ((hC.block (w.heap.size + 1) (heap_lt Y2.out) (by simp)).trans Y2.out)
  have K3 := Lib.hid (K2.out.chg hC (by simp))
  have V3 := Lib.hid (V2.out.chg hC (by simp))
  have K3' := Lib.hid (K2'.out.chg hC (by simp))
  have V3' := Lib.hid (V2'.out.chg hC (by simp))
  have P3' := Lib.hid ((hC.block p2 (heap_lt P2'.out) (by simp)).trans P2'.out)
  clear P2'
  clear hC C2 X2 Y2 K2 V2 K2' V2'
  have x0 := cell_of_block X3.out 0
  have x1 := cell_of_block X3.out 1
  have x2 := cell_of_block X3.out 2
  simp only [List.getElem?_toArray, List.getElem?_cons_zero, List.getElem?_cons_succ] at x0 x1 x2
  have y0 := cell_of_block Y3.out 0
  have y1 := cell_of_block Y3.out 1
  have y2 := cell_of_block Y3.out 2
  simp only [List.getElem?_toArray, List.getElem?_cons_zero, List.getElem?_cons_succ] at y0 y1 y2
  have lx := heap_lt X3.out
  have ly := heap_lt Y3.out
  have cR := right_at (leaf := l') K3'.out V3'.out
  rw [Hr'.out] at cR
  go_wp2_with fail
  refine cR.mono ?_
  clear cR
  clear x0 x1 x2 y0 y1 y2 lx ly
  rintro e w4 ⟨rfl, hC⟩
  have C4 := Lib.hid (C3.out.trans hC)
  have X4 := Lib.hid ((hC.block w.heap.size (heap_lt X3.out) (by simp)).trans X3.out)
  have Y4 := Lib.hid ((hC.block (w.heap.size + 1) (heap_lt Y3.out) (by simp)).trans Y3.out)
  have K4 := Lib.hid (K3.out.chg hC (by simp))
  have V4 := Lib.hid (V3.out.chg hC (by simp))
  have K4' := Lib.hid (K3'.out.chg hC (by simp))
  have V4' := Lib.hid (V3'.out.chg hC (by simp))
  have P4' := Lib.hid ((hC.block p2 (heap_lt P3'.out) (by simp)).trans P3'.out)
  clear P3'
  clear hC C3 X3 Y3 K3 V3 K3' V3'
  have x0 := cell_of_block X4.out 0
  have x1 := cell_of_block X4.out 1
  have x2 := cell_of_block X4.out 2
  simp only [List.getElem?_toArray, List.getElem?_cons_zero, List.getElem?_cons_succ] at x0 x1 x2
  have y0 := cell_of_block Y4.out 0
  have y1 := cell_of_block Y4.out 1
  have y2 := cell_of_block Y4.out 2
  simp only [List.getElem?_toArray, List.getElem?_cons_zero, List.getElem?_cons_succ] at y0 y1 y2
  have lx := heap_lt X4.out
  have ly := heap_lt Y4.out
  go_wp2_with fail
  refine wp_region_held_drew (S := fun _ => True) (by kernel_rfl) (by exact trivial) (fun hHeld => ?_)
  refine wpAnyH_take (i := 0) (oi := ?_) (v := ?_) ?_ (by kernel_rfl) (by kernel_rfl) (by kernel_rfl) ?_ (Or.inl ⟨?_, ?_⟩) hHeld ?_
  rotate_left 2
  · (simp only [List.getElem?_toArray, List.getElem?_cons_succ, List.getElem?_cons_zero]; rfl)
  · exact fun _ _ _ h => h
  · rfl
  · (intro w hSw; go_simp; first | done | with_reducible rfl)
  try simp only [Act.put, List.setIfInBounds_toArray, List.set_cons_zero, List.set_cons_succ]
  refine wpAnyH_take (i := 1) (oi := ?_) (v := ?_) ?_ (by kernel_rfl) (by kernel_rfl) (by kernel_rfl) ?_ (Or.inl ⟨?_, ?_⟩) hHeld ?_
  rotate_left 2
  · (simp only [List.getElem?_toArray, List.getElem?_cons_succ, List.getElem?_cons_zero]; rfl)
  · exact fun _ _ _ h => h
  · rfl
  · (intro w hSw; go_simp; first | done | with_reducible rfl)
  try simp only [Act.put, List.setIfInBounds_toArray, List.set_cons_zero, List.set_cons_succ]
  refine wpAnyH_take (i := 2) (oi := ?_) (v := ?_) ?_ (by kernel_rfl) (by kernel_rfl) (by kernel_rfl) ?_ (Or.inl ⟨?_, ?_⟩) hHeld ?_
  rotate_left 2
  · (simp only [List.getElem?_toArray, List.getElem?_cons_succ, List.getElem?_cons_zero]; rfl)
  · exact fun _ _ _ h => h
  · rfl
  · (intro w hSw; go_simp; first | done | with_reducible rfl)
  try simp only [Act.put, List.setIfInBounds_toArray, List.set_cons_zero, List.set_cons_succ]
  refine wpAnyH_take (i := 3) (oi := ?_) (v := undef) ?_ (by kernel_rfl) (by kernel_rfl) (by kernel_rfl) ?_ (Or.inr ⟨?_, rfl⟩) hHeld ?_
  rotate_left 1
  · (simp only [List.getElem?_toArray, List.getElem?_cons_succ, List.getElem?_cons_zero]; rfl)
  · exact fun _ _ _ h => h
  · rfl
  try simp only [Act.put, List.setIfInBounds_toArray, List.set_cons_zero, List.set_cons_succ]
  refine wpAnyH_take (i := 4) (oi := ?_) (v := undef) ?_ (by kernel_rfl) (by kernel_rfl) (by kernel_rfl) ?_ (Or.inr ⟨?_, rfl⟩) hHeld ?_
  rotate_left 1
  · (simp only [List.getElem?_toArray, List.getElem?_cons_succ, List.getElem?_cons_zero]; rfl)
  · exact fun _ _ _ h => h
  · rfl
  try simp only [Act.put, List.setIfInBounds_toArray, List.set_cons_zero, List.set_cons_succ]
  refine wpAnyH_take (i := 5) (oi := ?_) (v := ?_) ?_ (by kernel_rfl) (by kernel_rfl) (by kernel_rfl) ?_ (Or.inl ⟨?_, ?_⟩) hHeld ?_
  rotate_left 2
  · (simp only [List.getElem?_toArray, List.getElem?_cons_succ, List.getElem?_cons_zero]; rfl)
  · exact fun _ _ _ h => h
  · rfl
  · (intro w hSw; go_simp; first | done | with_reducible rfl)
  try simp only [Act.put, List.setIfInBounds_toArray, List.set_cons_zero, List.set_cons_succ]
  refine wpAnyH_take (i := 6) (oi := ?_) (v := ?_) ?_ (by kernel_rfl) (by kernel_rfl) (by kernel_rfl) ?_ (Or.inl ⟨?_, ?_⟩) hHeld ?_
  rotate_left 2
  · (simp only [List.getElem?_toArray, List.getElem?_cons_succ, List.getElem?_cons_zero]; rfl)
  · exact fun _ _ _ h => h
  · rfl
  · (intro w hSw; go_simp; first | done | with_reducible rfl)
  try simp only [Act.put, List.setIfInBounds_toArray, List.set_cons_zero, List.set_cons_succ]
  refine wpAnyH_take (i := 7) (oi := ?_) (v := undef) ?_ (by kernel_rfl) (by kernel_rfl) (by kernel_rfl) ?_ (Or.inr ⟨?_, rfl⟩) hHeld ?_
  rotate_left 1
  · (simp only [List.getElem?_toArray, List.getElem?_cons_succ, List.getElem?_cons_zero]; rfl)
  · exact fun _ _ _ h => h
  · rfl
  try simp only [Act.put, List.setIfInBounds_toArray, List.set_cons_zero, List.set_cons_succ]
  refine wpAnyH_take (i := 8) (oi := ?_) (v := undef) ?_ (by kernel_rfl) (by kernel_rfl) (by kernel_rfl) ?_ (Or.inr ⟨?_, rfl⟩) hHeld ?_
  rotate_left 1
  · (simp only [List.getElem?_toArray, List.getElem?_cons_succ, List.getElem?_cons_zero]; rfl)
  · exact fun _ _ _ h => h
  · rfl
  try simp only [Act.put, List.setIfInBounds_toArray, List.set_cons_zero, List.set_cons_succ]
  refine wpAnyH_take (i := 9) (oi := ?_) (v := undef) ?_ (by kernel_rfl) (by kernel_rfl) (by kernel_rfl) ?_ (Or.inr ⟨?_, rfl⟩) hHeld ?_
  rotate_left 1
  · (simp only [List.getElem?_toArray, List.getElem?_cons_succ, List.getElem?_cons_zero]; rfl)
  · exact fun _ _ _ h => h
  · rfl
  try simp only [Act.put, List.setIfInBounds_toArray, List.set_cons_zero, List.set_cons_succ]
  refine wpAnyH_take (i := 10) (oi := ?_) (v := undef) ?_ (by kernel_rfl) (by kernel_rfl) (by kernel_rfl) ?_ (Or.inr ⟨?_, rfl⟩) hHeld ?_
  rotate_left 1
  · (simp only [List.getElem?_toArray, List.getElem?_cons_succ, List.getElem?_cons_zero]; rfl)
  · exact fun _ _ _ h => h
  · rfl
  try simp only [Act.put, List.setIfInBounds_toArray, List.set_cons_zero, List.set_cons_succ]
  refine wpAnyH_take (i := 11) (oi := ?_) (v := undef) ?_ (by kernel_rfl) (by kernel_rfl) (by kernel_rfl) ?_ (Or.inr ⟨?_, rfl⟩) hHeld ?_
  rotate_left 1
  · (simp only [List.getElem?_toArray, List.getElem?_cons_succ, List.getElem?_cons_zero]; rfl)
  · exact fun _ _ _ h => h
  · rfl
  try simp only [Act.put, List.setIfInBounds_toArray, List.set_cons_zero, List.set_cons_succ]
  refine wpAnyH_take (i := 12) (oi := ?_) (v := undef) ?_ (by kernel_rfl) (by kernel_rfl) (by kernel_rfl) ?_ (Or.inr ⟨?_, rfl⟩) hHeld ?_
  rotate_left 1
  · (simp only [List.getElem?_toArray, List.getElem?_cons_succ, List.getElem?_cons_zero]; rfl)
  · exact fun _ _ _ h => h
  · rfl
  try simp only [Act.put, List.setIfInBounds_toArray, List.set_cons_zero, List.set_cons_succ]
  refine wpAnyH_take (i := 13) (oi := ?_) (v := undef) ?_ (by kernel_rfl) (by kernel_rfl) (by kernel_rfl) ?_ (Or.inr ⟨?_, rfl⟩) hHeld ?_
  rotate_left 1
  · (simp only [List.getElem?_toArray, List.getElem?_cons_succ, List.getElem?_cons_zero]; rfl)
  · exact fun _ _ _ h => h
  · rfl
  try simp only [Act.put, List.setIfInBounds_toArray, List.set_cons_zero, List.set_cons_succ]
  refine wpAnyH_take (i := 14) (oi := ?_) (v := ?_) ?_ (by kernel_rfl) (by kernel_rfl) (by kernel_rfl) ?_ (Or.inl ⟨?_, ?_⟩) hHeld ?_
  rotate_left 2
  · (simp only [List.getElem?_toArray, List.getElem?_cons_succ, List.getElem?_cons_zero]; rfl)
  · exact fun _ _ _ h => h
  · rfl
  · (intro w hSw; go_simp; first | done | with_reducible rfl)
  try simp only [Act.put, List.setIfInBounds_toArray, List.set_cons_zero, List.set_cons_succ]
  refine wpAnyH_take (i := 15) (oi := ?_) (v := ?_) ?_ (by kernel_rfl) (by kernel_rfl) (by kernel_rfl) ?_ (Or.inl ⟨?_, ?_⟩) hHeld ?_
  rotate_left 2
  · (simp only [List.getElem?_toArray, List.getElem?_cons_succ, List.getElem?_cons_zero]; rfl)
  · exact fun _ _ _ h => h
  · rfl
  · (intro w hSw; go_simp; first | done | with_reducible rfl)
  try simp only [Act.put, List.setIfInBounds_toArray, List.set_cons_zero, List.set_cons_succ]
  refine wpAnyH_ready (rs := [16]) (by kernel_rfl) (by simp) ?_
  refine AllReadyH.cons (o := ?_) ?_ (fun K hK => ?_) AllReadyH.nil
  rotate_left 1
  · (simp only [List.getElem?_toArray, List.getElem?_cons_succ, List.getElem?_cons_zero]; rfl)
  go_simp
  (go_at_call 9; refine (awake03 _).mono ?_; rintro e wz ⟨rfl, hZ⟩; have HZ := Lib.hid (C4.out.drew.trans hZ); clear hZ; go_wp2_with fail)
  refine hK.out _ _ ?_ (fun hHeld => ?_)
  · exact trivial
  clear hK K
  try simp only [Act.put, List.setIfInBounds_toArray, List.set_cons_zero, List.set_cons_succ]
  refine wpAnyH_take (i := 17) (oi := ?_) (v := ?_) ?_ (by kernel_rfl) (by kernel_rfl) (by kernel_rfl) ?_ (Or.inl ⟨?_, ?_⟩) hHeld ?_
  rotate_left 2
  · (simp only [List.getElem?_toArray, List.getElem?_cons_succ, List.getElem?_cons_zero]; rfl)
  · exact fun _ _ _ h => h
  · rfl
  · (intro w hSw; go_simp; first | done | with_reducible rfl)
  try simp only [Act.put, List.setIfInBounds_toArray, List.set_cons_zero, List.set_cons_succ]
  refine wpAnyH_take (i := 18) (oi := ?_) (v := ?_) ?_ (by kernel_rfl) (by kernel_rfl) (by kernel_rfl) ?_ (Or.inl ⟨?_, ?_⟩) hHeld ?_
  rotate_left 2
  · (simp only [List.getElem?_toArray, List.getElem?_cons_succ, List.getElem?_cons_zero]; rfl)
  · exact fun _ _ _ h => h
  · rfl
  · (intro w hSw; go_simp; first | done | with_reducible rfl)
  try simp only [Act.put, List.setIfInBounds_toArray, List.set_cons_zero, List.set_cons_succ]
  refine wpAnyH_done (by kernel_rfl) ?_ _
  go_wp2_with fail
  go_ret
  exact law_ok HZ.out

set_option maxRecDepth 20000 in
set_option maxHeartbeats 4000000 in
theorem back_ff {w : World} {l l' : Bool} {vk vv uk uv : Value} {nk nv mk mv : Nat} {keys vals keys' vals' : Nat → Nat} (hk : NumsIn [] w vk nk keys) (hv : NumsIn [] w vv nv vals) (hk' : NumsIn [] w uk mk keys') (hv' : NumsIn [] w uv mv vals')
    (g1 : nk ≤ 20) (g2 : mk ≤ 20) (g3 : nv ≤ 20) (g4 : mv ≤ 20) (hr : rightB l nk nv keys vals = false) (hr' : rightB l' mk mv keys' vals' = false) :
    Calls Try.prog 4 #[.agg #[.bool l, vk, vv], .agg #[.bool l', uk, uv]] w (LawOk w) := by
  obtain ⟨ak, ck, rfl, _⟩ := hk.cap
  obtain ⟨av, cv, rfl, _⟩ := hv.cap
  obtain ⟨bk, dk, rfl, _⟩ := hk'.cap
  obtain ⟨bv, dv, rfl, _⟩ := hv'.cap
  have d1 : ¬ (20 : Int) < (nk : Int) := by omega
  have d2 : ¬ (20 : Int) < (mk : Int) := by omega
  have d3 : ¬ (20 : Int) < (nv : Int) := by omega
  have d4 : ¬ (20 : Int) < (mv : Int) := by omega
  have hW := ((Chg.refl [] w).alloc (.cells #[.bool l, .slice ak nk ck, .slice av nv cv] 24)).alloc (.cells #[.bool l', .slice bk mk dk, .slice bv mv dv] 24)
  have X0 := Lib.hid (new_block21 w (.cells #[.bool l, .slice ak nk ck, .slice av nv cv] 24) (.cells #[.bool l', .slice bk mk dk, .slice bv mv dv] 24))
  have Y0 := Lib.hid (new_block2 w (.cells #[.bool l, .slice ak nk ck, .slice av nv cv] 24) (.cells #[.bool l', .slice bk mk dk, .slice bv mv dv] 24))
  have K0 := Lib.hid (hk.chg hW (by simp))
  have V0 := Lib.hid (hv.chg hW (by simp))
  have K0' := Lib.hid (hk'.chg hW (by simp))
  have V0' := Lib.hid (hv'.chg hW (by simp))
  have C0 := Lib.hid hW
  have Hr := Lib.hid hr
  have Hr' := Lib.hid hr'
  clear hk hv hk' hv' hr hr' hW g1 g2 g3 g4
  go_enter Try.func4, Try.ntmps4
  go_wp2_with fail
  refine (enc_bad K0.out V0.out Hr.out).mono ?_
  rintro e w1 ⟨rfl, hC⟩
  have C1 := Lib.hid (C0.out.trans hC)
  have X1 := Lib.hid ((hC.block w.heap.size (heap_lt X0.out) (by simp)).trans X0.out)
  have Y1 := Lib.hid ((hC.block (w.heap.size + 1) (heap_lt Y0.out) (by simp)).trans Y0.out)
  have K1 := Lib.hid (K0.out.chg hC (by simp))
  have V1 := Lib.hid (V0.out.chg hC (by simp))
  have K1' := Lib.hid (K0'.out.chg hC (by simp))
  have V1' := Lib.hid (V0'.out.chg hC (by simp))
  clear hC C0 X0 Y0 K0 V0 K0' V0'
  have x0 := cell_of_block X1.out 0
  have x1 := cell_of_block X1.out 1
  have x2 := cell_of_block X1.out 2
  simp only [List.getElem?_toArray, List.getElem?_cons_zero, List.getElem?_cons_succ] at x0 x1 x2
  have y0 := cell_of_block Y1.out 0
  have y1 := cell_of_block Y1.out 1
  have y2 := cell_of_block Y1.out 2
  simp only [List.getElem?_toArray, List.getElem?_cons_zero, List.getElem?_cons_succ] at y0 y1 y2
  have lx := heap_lt X1.out
  have ly := heap_lt Y1.out
  go_wp2_with fail
  refine (enc_bad K1'.out V1'.out Hr'.out).mono ?_
  clear x0 x1 x2 y0 y1 y2 lx ly
  rintro e w2 ⟨rfl, hC⟩
  have C2 := Lib.hid (C1.out.trans hC)
  have X2 := Lib.hid ((hC.block w.heap.size (heap_lt X1.out) (by simp)).trans X1.out)
  have Y2 := Lib.hid ((hC.block (w.heap.size + 1) (heap_lt Y1.out) (by simp)).trans Y1.out)
  have K2 := Lib.hid (K1.out.chg hC (by simp))
  have V2 := Lib.hid (V1.out.chg hC (by simp))
  have K2' := Lib.hid (K1'.out.chg hC (by simp))
  have V2' := Lib.hid (V1'.out.chg hC (by simp))
  clear hC C1 X1 Y1 K1 V1 K1' V1'
  have x0 := cell_of_block X2.out 0
  have x1 := cell_of_block X2.out 1
  have x2 := cell_of_block X2.out 2
  simp only [List.getElem?_toArray, List.getElem?_cons_zero, List.getElem?_cons_succ] at x0 x1 x2
  have y0 := cell_of_block Y2.out 0
  have y1 := cell_of_block Y2.out 1
  have y2 := cell_of_block Y2.out 2
  simp only [List.getElem?_toArray, List.getElem?_cons_zero, List.getElem?_cons_succ] at y0 y1 y2
  have lx := heap_lt X2.out
  have ly := heap_lt Y2.out
  have cR := right_at (leaf := l) K2.out V2.out
  rw [Hr.out] at cR
  go_wp2_with fail
  refine cR.mono ?_
  clear cR
  clear x0 x1 x2 y0 y1 y2 lx ly
  rintro e w3 ⟨rfl, hC⟩
  have C3 := Lib.hid (C2.out.trans hC)
  have X3 := Lib.hid ((hC.block w.heap.size (heap_lt X2.out) (by simp)).trans X2.out)
  have Y3 := Lib.hid ((hC.block (w.heap.size + 1) (heap_lt Y2.out) (by simp)).trans Y2.out)
  have K3 := Lib.hid (K2.out.chg hC (by simp))
  have V3 := Lib.hid (V2.out.chg hC (by simp))
  have K3' := Lib.hid (K2'.out.chg hC (by simp))
  have V3' := Lib.hid (V2'.out.chg hC (by simp))
  clear hC C2 X2 Y2 K2 V2 K2' V2'
  have x0 := cell_of_block X3.out 0
  have x1 := cell_of_block X3.out 1
  have x2 := cell_of_block X3.out 2
  simp only [List.getElem?_toArray, List.getElem?_cons_zero, List.getElem?_cons_succ] at x0 x1 x2
  have y0 := cell_of_block Y3.out 0
  have y1 := cell_of_block Y3.out 1
  have y2 := cell_of_block Y3.out 2
  simp only [List.getElem?_toArray, List.getElem?_cons_zero, List.getElem?_cons_succ] at y0 y1 y2
  have lx := heap_lt X3.out
  have ly := heap_lt Y3.out
  have cR := right_at (leaf := l') K3'.out V3'.out
  rw [Hr'.out] at cR
  go_wp2_with fail
  refine cR.mono ?_
  clear cR
  clear x0 x1 x2 y0 y1 y2 lx ly
  rintro e w4 ⟨rfl, hC⟩
  have C4 := Lib.hid (C3.out.trans hC)
  have X4 := Lib.hid ((hC.block w.heap.size (heap_lt X3.out) (by simp)).trans X3.out)
  have Y4 := Lib.hid ((hC.block (w.heap.size + 1) (heap_lt Y3.out) (by simp)).trans Y3.out)
  have K4 := Lib.hid (K3.out.chg hC (by simp))
  have V4 := Lib.hid (V3.out.chg hC (by simp))
  have K4' := Lib.hid (K3'.out.chg hC (by simp))
  have V4' := Lib.hid (V3'.out.chg hC (by simp))
  clear hC C3 X3 Y3 K3 V3 K3' V3'
  have x0 := cell_of_block X4.out 0
  have x1 := cell_of_block X4.out 1
  have x2 := cell_of_block X4.out 2
  simp only [List.getElem?_toArray, List.getElem?_cons_zero, List.getElem?_cons_succ] at x0 x1 x2
  have y0 := cell_of_block Y4.out 0
  have y1 := cell_of_block Y4.out 1
  have y2 := cell_of_block Y4.out 2
  simp only [List.getElem?_toArray, List.getElem?_cons_zero, List.getElem?_cons_succ] at y0 y1 y2
  have lx := heap_lt X4.out
  have ly := heap_lt Y4.out
  go_wp2_with fail
  refine wp_region_held_drew (S := fun _ => True) (by kernel_rfl) (by exact trivial) (fun hHeld => ?_)
  refine wpAnyH_take (i := 0) (oi := ?_) (v := ?_) ?_ (by kernel_rfl) (by kernel_rfl) (by kernel_rfl) ?_ (Or.inl ⟨?_, ?_⟩) hHeld ?_
  rotate_left 2
  · (simp only [List.getElem?_toArray, List.getElem?_cons_succ, List.getElem?_cons_zero]; rfl)
  · exact fun _ _ _ h => h
  · rfl
  · (intro w hSw; go_simp; first | done | with_reducible rfl)
  try simp only [Act.put, List.setIfInBounds_toArray, List.set_cons_zero, List.set_cons_succ]
  refine wpAnyH_take (i := 1) (oi := ?_) (v := ?_) ?_ (by kernel_rfl) (by kernel_rfl) (by kernel_rfl) ?_ (Or.inl ⟨?_, ?_⟩) hHeld ?_
  rotate_left 2
  · (simp only [List.getElem?_toArray, List.getElem?_cons_succ, List.getElem?_cons_zero]; rfl)
  · exact fun _ _ _ h => h
  · rfl
  · (intro w hSw; go_simp; first | done | with_reducible rfl)
  try simp only [Act.put, List.setIfInBounds_toArray, List.set_cons_zero, List.set_cons_succ]
  refine wpAnyH_take (i := 2) (oi := ?_) (v := ?_) ?_ (by kernel_rfl) (by kernel_rfl) (by kernel_rfl) ?_ (Or.inl ⟨?_, ?_⟩) hHeld ?_
  rotate_left 2
  · (simp only [List.getElem?_toArray, List.getElem?_cons_succ, List.getElem?_cons_zero]; rfl)
  · exact fun _ _ _ h => h
  · rfl
  · (intro w hSw; go_simp; first | done | with_reducible rfl)
  try simp only [Act.put, List.setIfInBounds_toArray, List.set_cons_zero, List.set_cons_succ]
  refine wpAnyH_take (i := 3) (oi := ?_) (v := undef) ?_ (by kernel_rfl) (by kernel_rfl) (by kernel_rfl) ?_ (Or.inr ⟨?_, rfl⟩) hHeld ?_
  rotate_left 1
  · (simp only [List.getElem?_toArray, List.getElem?_cons_succ, List.getElem?_cons_zero]; rfl)
  · exact fun _ _ _ h => h
  · rfl
  try simp only [Act.put, List.setIfInBounds_toArray, List.set_cons_zero, List.set_cons_succ]
  refine wpAnyH_take (i := 4) (oi := ?_) (v := undef) ?_ (by kernel_rfl) (by kernel_rfl) (by kernel_rfl) ?_ (Or.inr ⟨?_, rfl⟩) hHeld ?_
  rotate_left 1
  · (simp only [List.getElem?_toArray, List.getElem?_cons_succ, List.getElem?_cons_zero]; rfl)
  · exact fun _ _ _ h => h
  · rfl
  try simp only [Act.put, List.setIfInBounds_toArray, List.set_cons_zero, List.set_cons_succ]
  refine wpAnyH_take (i := 5) (oi := ?_) (v := ?_) ?_ (by kernel_rfl) (by kernel_rfl) (by kernel_rfl) ?_ (Or.inl ⟨?_, ?_⟩) hHeld ?_
  rotate_left 2
  · (simp only [List.getElem?_toArray, List.getElem?_cons_succ, List.getElem?_cons_zero]; rfl)
  · exact fun _ _ _ h => h
  · rfl
  · (intro w hSw; go_simp; first | done | with_reducible rfl)
  try simp only [Act.put, List.setIfInBounds_toArray, List.set_cons_zero, List.set_cons_succ]
  refine wpAnyH_take (i := 6) (oi := ?_) (v := ?_) ?_ (by kernel_rfl) (by kernel_rfl) (by kernel_rfl) ?_ (Or.inl ⟨?_, ?_⟩) hHeld ?_
  rotate_left 2
  · (simp only [List.getElem?_toArray, List.getElem?_cons_succ, List.getElem?_cons_zero]; rfl)
  · exact fun _ _ _ h => h
  · rfl
  · (intro w hSw; go_simp; first | done | with_reducible rfl)
  try simp only [Act.put, List.setIfInBounds_toArray, List.set_cons_zero, List.set_cons_succ]
  refine wpAnyH_take (i := 7) (oi := ?_) (v := undef) ?_ (by kernel_rfl) (by kernel_rfl) (by kernel_rfl) ?_ (Or.inr ⟨?_, rfl⟩) hHeld ?_
  rotate_left 1
  · (simp only [List.getElem?_toArray, List.getElem?_cons_succ, List.getElem?_cons_zero]; rfl)
  · exact fun _ _ _ h => h
  · rfl
  try simp only [Act.put, List.setIfInBounds_toArray, List.set_cons_zero, List.set_cons_succ]
  refine wpAnyH_take (i := 8) (oi := ?_) (v := undef) ?_ (by kernel_rfl) (by kernel_rfl) (by kernel_rfl) ?_ (Or.inr ⟨?_, rfl⟩) hHeld ?_
  rotate_left 1
  · (simp only [List.getElem?_toArray, List.getElem?_cons_succ, List.getElem?_cons_zero]; rfl)
  · exact fun _ _ _ h => h
  · rfl
  try simp only [Act.put, List.setIfInBounds_toArray, List.set_cons_zero, List.set_cons_succ]
  refine wpAnyH_take (i := 9) (oi := ?_) (v := undef) ?_ (by kernel_rfl) (by kernel_rfl) (by kernel_rfl) ?_ (Or.inr ⟨?_, rfl⟩) hHeld ?_
  rotate_left 1
  · (simp only [List.getElem?_toArray, List.getElem?_cons_succ, List.getElem?_cons_zero]; rfl)
  · exact fun _ _ _ h => h
  · rfl
  try simp only [Act.put, List.setIfInBounds_toArray, List.set_cons_zero, List.set_cons_succ]
  refine wpAnyH_take (i := 10) (oi := ?_) (v := undef) ?_ (by kernel_rfl) (by kernel_rfl) (by kernel_rfl) ?_ (Or.inr ⟨?_, rfl⟩) hHeld ?_
  rotate_left 1
  · (simp only [List.getElem?_toArray, List.getElem?_cons_succ, List.getElem?_cons_zero]; rfl)
  · exact fun _ _ _ h => h
  · rfl
  try simp only [Act.put, List.setIfInBounds_toArray, List.set_cons_zero, List.set_cons_succ]
  refine wpAnyH_take (i := 11) (oi := ?_) (v := undef) ?_ (by kernel_rfl) (by kernel_rfl) (by kernel_rfl) ?_ (Or.inr ⟨?_, rfl⟩) hHeld ?_
  rotate_left 1
  · (simp only [List.getElem?_toArray, List.getElem?_cons_succ, List.getElem?_cons_zero]; rfl)
  · exact fun _ _ _ h => h
  · rfl
  try simp only [Act.put, List.setIfInBounds_toArray, List.set_cons_zero, List.set_cons_succ]
  refine wpAnyH_take (i := 12) (oi := ?_) (v := undef) ?_ (by kernel_rfl) (by kernel_rfl) (by kernel_rfl) ?_ (Or.inr ⟨?_, rfl⟩) hHeld ?_
  rotate_left 1
  · (simp only [List.getElem?_toArray, List.getElem?_cons_succ, List.getElem?_cons_zero]; rfl)
  · exact fun _ _ _ h => h
  · rfl
  try simp only [Act.put, List.setIfInBounds_toArray, List.set_cons_zero, List.set_cons_succ]
  refine wpAnyH_take (i := 13) (oi := ?_) (v := undef) ?_ (by kernel_rfl) (by kernel_rfl) (by kernel_rfl) ?_ (Or.inr ⟨?_, rfl⟩) hHeld ?_
  rotate_left 1
  · (simp only [List.getElem?_toArray, List.getElem?_cons_succ, List.getElem?_cons_zero]; rfl)
  · exact fun _ _ _ h => h
  · rfl
  try simp only [Act.put, List.setIfInBounds_toArray, List.set_cons_zero, List.set_cons_succ]
  refine wpAnyH_take (i := 14) (oi := ?_) (v := ?_) ?_ (by kernel_rfl) (by kernel_rfl) (by kernel_rfl) ?_ (Or.inl ⟨?_, ?_⟩) hHeld ?_
  rotate_left 2
  · (simp only [List.getElem?_toArray, List.getElem?_cons_succ, List.getElem?_cons_zero]; rfl)
  · exact fun _ _ _ h => h
  · rfl
  · (intro w hSw; go_simp; first | done | with_reducible rfl)
  try simp only [Act.put, List.setIfInBounds_toArray, List.set_cons_zero, List.set_cons_succ]
  refine wpAnyH_take (i := 15) (oi := ?_) (v := ?_) ?_ (by kernel_rfl) (by kernel_rfl) (by kernel_rfl) ?_ (Or.inl ⟨?_, ?_⟩) hHeld ?_
  rotate_left 2
  · (simp only [List.getElem?_toArray, List.getElem?_cons_succ, List.getElem?_cons_zero]; rfl)
  · exact fun _ _ _ h => h
  · rfl
  · (intro w hSw; go_simp; first | done | with_reducible rfl)
  try simp only [Act.put, List.setIfInBounds_toArray, List.set_cons_zero, List.set_cons_succ]
  refine wpAnyH_ready (rs := [16]) (by kernel_rfl) (by simp) ?_
  refine AllReadyH.cons (o := ?_) ?_ (fun K hK => ?_) AllReadyH.nil
  rotate_left 1
  · (simp only [List.getElem?_toArray, List.getElem?_cons_succ, List.getElem?_cons_zero]; rfl)
  go_simp
  (go_at_call 9; refine (awake03 _).mono ?_; rintro e wz ⟨rfl, hZ⟩; have HZ := Lib.hid (C4.out.drew.trans hZ); clear hZ; go_wp2_with fail)
  refine hK.out _ _ ?_ (fun hHeld => ?_)
  · exact trivial
  clear hK K
  try simp only [Act.put, List.setIfInBounds_toArray, List.set_cons_zero, List.set_cons_succ]
  refine wpAnyH_take (i := 17) (oi := ?_) (v := ?_) ?_ (by kernel_rfl) (by kernel_rfl) (by kernel_rfl) ?_ (Or.inl ⟨?_, ?_⟩) hHeld ?_
  rotate_left 2
  · (simp only [List.getElem?_toArray, List.getElem?_cons_succ, List.getElem?_cons_zero]; rfl)
  · exact fun _ _ _ h => h
  · rfl
  · (intro w hSw; go_simp; first | done | with_reducible rfl)
  try simp only [Act.put, List.setIfInBounds_toArray, List.set_cons_zero, List.set_cons_succ]
  refine wpAnyH_take (i := 18) (oi := ?_) (v := ?_) ?_ (by kernel_rfl) (by kernel_rfl) (by kernel_rfl) ?_ (Or.inl ⟨?_, ?_⟩) hHeld ?_
  rotate_left 2
  · (simp only [List.getElem?_toArray, List.getElem?_cons_succ, List.getElem?_cons_zero]; rfl)
  · exact fun _ _ _ h => h
  · rfl
  · (intro w hSw; go_simp; first | done | with_reducible rfl)
  try simp only [Act.put, List.setIfInBounds_toArray, List.set_cons_zero, List.set_cons_succ]
  refine wpAnyH_done (by kernel_rfl) ?_ _
  go_wp2_with fail
  go_ret
  exact law_ok HZ.out

set_option maxRecDepth 20000 in
set_option maxHeartbeats 4000000 in
theorem back_long {w : World} {l l' : Bool} {vk vv uk uv : Value} {nk nv mk mv : Nat} {keys vals keys' vals' : Nat → Nat} (hk : NumsIn [] w vk nk keys) (hv : NumsIn [] w vv nv vals) (hk' : NumsIn [] w uk mk keys') (hv' : NumsIn [] w uv mv vals')
    (h : 20 < nk ∨ 20 < mk ∨ 20 < nv ∨ 20 < mv) :
    Calls Try.prog 4 #[.agg #[.bool l, vk, vv], .agg #[.bool l', uk, uv]] w (LawOk w) := by
  obtain ⟨ak, ck, rfl, _⟩ := hk.cap
  obtain ⟨av, cv, rfl, _⟩ := hv.cap
  obtain ⟨bk, dk, rfl, _⟩ := hk'.cap
  obtain ⟨bv, dv, rfl, _⟩ := hv'.cap
  clear hk hv hk' hv'
  have h' : (20 : Int) < nk ∨ (¬ (20 : Int) < nk ∧ (20 : Int) < mk) ∨ (¬ (20 : Int) < nk ∧ ¬ (20 : Int) < mk ∧ (20 : Int) < nv) ∨ (¬ (20 : Int) < nk ∧ ¬ (20 : Int) < mk ∧ ¬ (20 : Int) < nv ∧ (20 : Int) < mv) := by omega
  clear h
  rcases h' with d1 | ⟨d1, d2⟩ | ⟨d1, d2, d3⟩ | ⟨d1, d2, d3, d4⟩
  all_goals
    go_enter Try.func4, Try.ntmps4
    go_wp2_with fail
    refine (awake03 _).mono ?_
    rintro e wz ⟨rfl, hZ⟩
    have HZ := Lib.hid ((((Chg.refl [] w).alloc _).alloc _).trans hZ)
    clear hZ
    go_wp2_with fail
    go_ret
    exact law_ok HZ.out

theorem leafBack_walk (v : Value) (l : Bool) (nk nv : Nat) (keys vals : Nat → Nat) (u : Value) (l' : Bool) (mk mv : Nat) (keys' vals' : Nat → Nat) (w : World) (hn : IsNode w v l nk nv keys vals) (hm : IsNode w u l' mk mv keys' vals') :
    Calls Try.prog 4 #[v, u] w (LawOk w) := by
  obtain ⟨vk, vv, rfl, hk, hv⟩ := hn
  obtain ⟨uk, uv, rfl, hk', hv'⟩ := hm
  by_cases g1 : nk ≤ 20
  · by_cases g2 : mk ≤ 20
    · by_cases g3 : nv ≤ 20
      · by_cases g4 : mv ≤ 20
        · cases hr : rightB l nk nv keys vals <;> cases hr' : rightB l' mk mv keys' vals'
          · exact back_ff hk hv hk' hv' g1 g2 g3 g4 hr hr'
          · exact back_ft hk hv hk' hv' g1 g2 g3 g4 hr hr'
          · exact back_tf hk hv hk' hv' g1 g2 g3 g4 hr hr'
          · exact back_tt hk hv hk' hv' g1 g2 g3 g4 hr hr'
        · exact back_long hk hv hk' hv' (by omega)
      · exact back_long hk hv hk' hv' (by omega)
    · exact back_long hk hv hk' hv' (by omega)
  · exact back_long hk hv hk' hv' (by omega)

end Go.Proofs.Ytjceoheiiohfcaa
