/- The reference of layer 10: Place. (Printed by mkr10e.py.) -/
import Derived.Test.YtnhabpbdpjgiiaaR10F
import Derived.Test.YtnhabpbdpjgiiaaR10D
import Derived.Deep.LoopGhost
namespace Go.Proofs.Ytnhabpbdpjgiiaa
open Go.RowKit
set_option linter.unusedVariables false
set_option linter.unusedSimpArgs false

theorem four_new (w : World) (o0 o1 o2 o3 : Obj) : ((((w.alloc o0).alloc o1).alloc o2).alloc o3).heap[w.heap.size]? = some o0 ∧ ((((w.alloc o0).alloc o1).alloc o2).alloc o3).heap[w.heap.size + 1]? = some o1 ∧
    ((((w.alloc o0).alloc o1).alloc o2).alloc o3).heap[w.heap.size + 1 + 1]? = some o2 ∧ ((((w.alloc o0).alloc o1).alloc o2).alloc o3).heap[w.heap.size + 1 + 1 + 1]? = some o3 ∧ Chg [] w ((((w.alloc o0).alloc o1).alloc o2).alloc o3) := by
  have c0 := (Chg.refl [] w).alloc o0
  have c1 := (Chg.refl [] (w.alloc o0)).alloc o1
  have c2 := (Chg.refl [] ((w.alloc o0).alloc o1)).alloc o2
  have c3 := (Chg.refl [] (((w.alloc o0).alloc o1).alloc o2)).alloc o3
  have b0 := new_block w o0
  have b1 := new_block (w.alloc o0) o1
  have b2 := new_block ((w.alloc o0).alloc o1) o2
  have b3 := new_block (((w.alloc o0).alloc o1).alloc o2) o3
  have s0 := size_alloc' w o0
  have s1 := size_alloc' (w.alloc o0) o1
  have s2 := size_alloc' ((w.alloc o0).alloc o1) o2
  rw [s0] at b1 s1
  rw [s1] at b2 s2
  rw [s2] at b3
  exact ⟨((c1.trans (c2.trans c3)).block _ (heap_lt b0) (by simp)).trans b0, ((c2.trans c3).block _ (heap_lt b1) (by simp)).trans b1, (c3.block _ (heap_lt b2) (by simp)).trans b2, b3, c0.trans (c1.trans (c2.trans c3))⟩

set_option maxRecDepth 20000 in
set_option maxHeartbeats 8000000 in
theorem r10place_bad {A : List Nat} {w : World} {v1 v2 s0 s1 : Value} {a : Nat → Nat → Nat} {n g c : Nat → Nat} {T : Tal} {K : Pk} (H : RefT A w v1 v2 T) (hv : ShV w s0 s1 a n g c) (ho : ShLo T n a) (hbad : ∃ i, i < n 0 + n 1 ∧ (atL a n 0 ++ atL a n 1).getD i 0 ≠ 0 ∧ T.now ((atL a n 0 ++ atL a n 1).getD i 0) = 0) :
    Calls Try.prog 21 #[.agg #[v1, v2, .int .i64 (K.first : Int), .int .i64 (K.next : Int), .int .i64 (K.asked : Int)], .agg #[s0, s1]] w fun e w' => e = .returned (.tuple #[.agg #[v1, v2, .int .i64 (K.first : Int), .int .i64 (K.next : Int), .int .i64 (K.asked : Int), s0, s1, .slice none 0 0, .slice none 0 0], .int .i64 100]) ∧ Chg [] w w' := by
  obtain ⟨g1, c1, e1, _⟩ := H.now
  obtain ⟨g2, c2, e2, _⟩ := H.kept
  have e3 := hv.e0
  have e4 := hv.e1
  subst e1 e2 e3 e4
  have hn1 := H.n1
  have hn2 := H.n2
  have HH := Lib.hid H
  have HV := Lib.hid hv
  have h4 := four_new w (.cells #[.slice (some ⟨g1, 0, none⟩) T.n c1, .slice (some ⟨g2, 0, none⟩) T.n c2, .int .i64 (K.first : Int), .int .i64 (K.next : Int), .int .i64 (K.asked : Int)] 37) (.cells #[.slice (some ⟨g 0, 0, none⟩) (n 0) (c 0), .slice (some ⟨g 1, 0, none⟩) (n 1) (c 1)] 42) (.cells #[.slice none 0 0, .slice none 0 0, .int .i64 0, .int .i64 0, .int .i64 0, .slice none 0 0, .slice none 0 0, .slice none 0 0, .slice none 0 0] 57) (.cells #[.slice (some ⟨g1, 0, none⟩) T.n c1, .slice (some ⟨g2, 0, none⟩) T.n c2, .int .i64 (K.first : Int), .int .i64 (K.next : Int), .int .i64 (K.asked : Int), .slice (some ⟨g 0, 0, none⟩) (n 0) (c 0), .slice (some ⟨g 1, 0, none⟩) (n 1) (c 1), .slice none 0 0, .slice none 0 0] 57)
  have HF := Lib.hid h4
  clear H hv h4
  have HO := Lib.hid ho
  have HBAD := Lib.hid hbad
  clear ho hbad
  go_enter Try.func21, Try.ntmps21
  go_upto_region 2 with fail
  generalize (((w.alloc _).alloc _).alloc _).alloc _ = w4 at *
  have hp := HF.out.1
  have hs := HF.out.2.1
  have p0 := cell_of_block hp 0
  have p1 := cell_of_block hp 1
  have p2 := cell_of_block hp 2
  have p3 := cell_of_block hp 3
  have p4 := cell_of_block hp 4
  simp only [List.getElem?_toArray, List.getElem?_cons_zero, List.getElem?_cons_succ] at p0 p1 p2 p3 p4
  have s0 := cell_of_block hs 0
  have s1 := cell_of_block hs 1
  simp only [List.getElem?_toArray, List.getElem?_cons_zero, List.getElem?_cons_succ] at s0 s1
  clear hp hs
  go_wp2_with fail
  refine (r10right_bad hn1 hn2 ((HH.out.chg HF.out.2.2.2.2 (by simp)).now) (HV.out.chg HF.out.2.2.2.2 (by simp) (by simp)) HO.out HBAD.out).mono ?_
  rintro e w5 ⟨rfl, hC5⟩
  have HC5 := Lib.hid (HF.out.2.2.2.2.trans hC5)
  have HR5 := Lib.hid ((hC5.block _ (heap_lt HF.out.2.2.1) (by simp)).trans HF.out.2.2.1)
  have HX5 := Lib.hid ((hC5.block _ (heap_lt HF.out.2.2.2.1) (by simp)).trans HF.out.2.2.2.1)
  have HP5 := Lib.hid ((hC5.block _ (heap_lt HF.out.1) (by simp)).trans HF.out.1)
  have HS5 := Lib.hid ((hC5.block _ (heap_lt HF.out.2.1) (by simp)).trans HF.out.2.1)
  clear hC5 p0 p1 p2 p3 p4 s0 s1 HF
  have hx2 := HX5.out
  have hr2 := HR5.out
  have x0 := cell_of_block hx2 0
  have x1 := cell_of_block hx2 1
  have x2 := cell_of_block hx2 2
  have x3 := cell_of_block hx2 3
  have x4 := cell_of_block hx2 4
  have x5 := cell_of_block hx2 5
  have x6 := cell_of_block hx2 6
  have x7 := cell_of_block hx2 7
  have x8 := cell_of_block hx2 8
  simp only [List.getElem?_toArray, List.getElem?_cons_zero, List.getElem?_cons_succ] at x0 x1 x2 x3 x4 x5 x6 x7 x8
  have f0 := frozen_of_block hr2 0
  have z0 := cell_of_block hr2 0
  have f1 := frozen_of_block hr2 1
  have z1 := cell_of_block hr2 1
  have f2 := frozen_of_block hr2 2
  have z2 := cell_of_block hr2 2
  have f3 := frozen_of_block hr2 3
  have z3 := cell_of_block hr2 3
  have f4 := frozen_of_block hr2 4
  have z4 := cell_of_block hr2 4
  have f5 := frozen_of_block hr2 5
  have z5 := cell_of_block hr2 5
  have f6 := frozen_of_block hr2 6
  have z6 := cell_of_block hr2 6
  have f7 := frozen_of_block hr2 7
  have z7 := cell_of_block hr2 7
  have f8 := frozen_of_block hr2 8
  have z8 := cell_of_block hr2 8
  simp only [List.getElem?_toArray, List.getElem?_cons_zero, List.getElem?_cons_succ] at z0 z1 z2 z3 z4 z5 z6 z7 z8
  have h9 := Lib.hid (sto9of9 hr2 (.slice (some ⟨g1, 0, none⟩) T.n c1) (.slice (some ⟨g2, 0, none⟩) T.n c2) (.int .i64 (K.first : Int)) (.int .i64 (K.next : Int)) (.int .i64 (K.asked : Int)) (.slice (some ⟨g 0, 0, none⟩) (n 0) (c 0)) (.slice (some ⟨g 1, 0, none⟩) (n 1) (c 1)) (.slice none 0 0) (.slice none 0 0))
  clear hx2 hr2
  go_wp2_with fail
  generalize ((((((((w5.setCell _ _).setCell _ _).setCell _ _).setCell _ _).setCell _ _).setCell _ _).setCell _ _).setCell _ _).setCell _ _ = W9 at *
  have hr9 := h9.out.1
  have k0 := cell_of_block hr9 0
  have k1 := cell_of_block hr9 1
  have k2 := cell_of_block hr9 2
  have k3 := cell_of_block hr9 3
  have k4 := cell_of_block hr9 4
  have k5 := cell_of_block hr9 5
  have k6 := cell_of_block hr9 6
  have k7 := cell_of_block hr9 7
  have k8 := cell_of_block hr9 8
  simp only [List.getElem?_toArray, List.getElem?_cons_zero, List.getElem?_cons_succ] at k0 k1 k2 k3 k4 k5 k6 k7 k8
  (try simp only [Exit.inBlock, Exit.then])
  refine bodyPost_ret (v := .tuple #[.agg #[.slice (some ⟨g1, 0, none⟩) T.n c1, .slice (some ⟨g2, 0, none⟩) T.n c2, .int .i64 (K.first : Int), .int .i64 (K.next : Int), .int .i64 (K.asked : Int), .slice (some ⟨g 0, 0, none⟩) (n 0) (c 0), .slice (some ⟨g 1, 0, none⟩) (n 1) (c 1), .slice none 0 0, .slice none 0 0], .int .i64 100]) (by simp [results, Try.results21, go_sem, k0, k1, k2, k3, k4, k5, k6, k7, k8]) rfl ?_
  exact ⟨rfl, HC5.out.then h9.out.2 (fun q hq => by simp at hq; right; omega)⟩

set_option maxRecDepth 20000 in
set_option maxHeartbeats 8000000 in
theorem r10place_full {A : List Nat} {w : World} {v1 v2 s0 s1 : Value} {a : Nat → Nat → Nat} {n g c : Nat → Nat} {T : Tal} {K : Pk} (H : RefT A w v1 v2 T) (hv : ShV w s0 s1 a n g c) (ho : ShOk T n a) (hfn : K.first ≤ T.n) (hr : roomI T K.first < (needN T.n : Int)) :
    Calls Try.prog 21 #[.agg #[v1, v2, .int .i64 (K.first : Int), .int .i64 (K.next : Int), .int .i64 (K.asked : Int)], .agg #[s0, s1]] w fun e w' => e = .returned (.tuple #[.agg #[v1, v2, .int .i64 (K.first : Int), .int .i64 (K.next : Int), .int .i64 (K.asked : Int), s0, s1, .slice none 0 0, .slice none 0 0], .int .i64 90]) ∧ Chg [] w w' := by
  obtain ⟨g1, c1, e1, _⟩ := H.now
  obtain ⟨g2, c2, e2, _⟩ := H.kept
  have e3 := hv.e0
  have e4 := hv.e1
  subst e1 e2 e3 e4
  have hn1 := H.n1
  have hn2 := H.n2
  have HH := Lib.hid H
  have HV := Lib.hid hv
  have h4 := four_new w (.cells #[.slice (some ⟨g1, 0, none⟩) T.n c1, .slice (some ⟨g2, 0, none⟩) T.n c2, .int .i64 (K.first : Int), .int .i64 (K.next : Int), .int .i64 (K.asked : Int)] 37) (.cells #[.slice (some ⟨g 0, 0, none⟩) (n 0) (c 0), .slice (some ⟨g 1, 0, none⟩) (n 1) (c 1)] 42) (.cells #[.slice none 0 0, .slice none 0 0, .int .i64 0, .int .i64 0, .int .i64 0, .slice none 0 0, .slice none 0 0, .slice none 0 0, .slice none 0 0] 57) (.cells #[.slice (some ⟨g1, 0, none⟩) T.n c1, .slice (some ⟨g2, 0, none⟩) T.n c2, .int .i64 (K.first : Int), .int .i64 (K.next : Int), .int .i64 (K.asked : Int), .slice (some ⟨g 0, 0, none⟩) (n 0) (c 0), .slice (some ⟨g 1, 0, none⟩) (n 1) (c 1), .slice none 0 0, .slice none 0 0] 57)
  have HF := Lib.hid h4
  clear H hv h4
  have HO := Lib.hid ho
  clear ho
  go_enter Try.func21, Try.ntmps21
  go_upto_region 2 with fail
  generalize (((w.alloc _).alloc _).alloc _).alloc _ = w4 at *
  have hp := HF.out.1
  have hs := HF.out.2.1
  have p0 := cell_of_block hp 0
  have p1 := cell_of_block hp 1
  have p2 := cell_of_block hp 2
  have p3 := cell_of_block hp 3
  have p4 := cell_of_block hp 4
  simp only [List.getElem?_toArray, List.getElem?_cons_zero, List.getElem?_cons_succ] at p0 p1 p2 p3 p4
  have s0 := cell_of_block hs 0
  have s1 := cell_of_block hs 1
  simp only [List.getElem?_toArray, List.getElem?_cons_zero, List.getElem?_cons_succ] at s0 s1
  clear hp hs
  go_wp2_with fail
  refine (r10right_at hn1 hn2 ((HH.out.chg HF.out.2.2.2.2 (by simp)).now) (HV.out.chg HF.out.2.2.2.2 (by simp) (by simp)) HO.out).mono ?_
  rintro e w5 ⟨rfl, hC5⟩
  have HC5 := Lib.hid (HF.out.2.2.2.2.trans hC5)
  have HR5 := Lib.hid ((hC5.block _ (heap_lt HF.out.2.2.1) (by simp)).trans HF.out.2.2.1)
  have HX5 := Lib.hid ((hC5.block _ (heap_lt HF.out.2.2.2.1) (by simp)).trans HF.out.2.2.2.1)
  have HP5 := Lib.hid ((hC5.block _ (heap_lt HF.out.1) (by simp)).trans HF.out.1)
  have HS5 := Lib.hid ((hC5.block _ (heap_lt HF.out.2.1) (by simp)).trans HF.out.2.1)
  clear hC5 p0 p1 p2 p3 p4 s0 s1 HF
  have hp5 := HP5.out
  have p0 := cell_of_block hp5 0
  have p1 := cell_of_block hp5 1
  have p2 := cell_of_block hp5 2
  have p3 := cell_of_block hp5 3
  have p4 := cell_of_block hp5 4
  simp only [List.getElem?_toArray, List.getElem?_cons_zero, List.getElem?_cons_succ] at p0 p1 p2 p3 p4
  have lp := heap_lt hp5
  clear hp5
  have y0 : w5.drew.cell? ⟨w.heap.size, 0, none⟩ = _ := p0
  have y1 : w5.drew.cell? ⟨w.heap.size, 1, none⟩ = _ := p1
  have y2 : w5.drew.cell? ⟨w.heap.size, 2, none⟩ = _ := p2
  have y3 : w5.drew.cell? ⟨w.heap.size, 3, none⟩ = _ := p3
  have y4 : w5.drew.cell? ⟨w.heap.size, 4, none⟩ = _ := p4
  go_upto_region 4 with fail
  have cR := r9room_at ((HH.out.chg HC5.out (by simp)).chg ((Chg.refl [] w5).drew) (by simp)) K.first (K.next : Int) (K.asked : Int) hfn
  have HcR := Lib.hid cR
  have HD5 := Lib.hid ((Chg.refl [] w5).drew)
  clear cR
  refine wp_region_held_drew (S := fun W' => W'.cell? ⟨w.heap.size, 0, none⟩ = some (.slice (some ⟨g1, 0, none⟩) T.n c1) ∧ W'.cell? ⟨w.heap.size, 1, none⟩ = some (.slice (some ⟨g2, 0, none⟩) T.n c2) ∧ W'.cell? ⟨w.heap.size, 2, none⟩ = some (.int .i64 (K.first : Int)) ∧ W'.cell? ⟨w.heap.size, 3, none⟩ = some (.int .i64 (K.next : Int)) ∧ W'.cell? ⟨w.heap.size, 4, none⟩ = some (.int .i64 (K.asked : Int))) (by kernel_rfl) (by exact ⟨p0, p1, p2, p3, p4⟩) (fun hHeld => ?_)
  refine wpAnyH_take (i := 0) (oi := ?_) (v := ?_) ?_ (by kernel_rfl) (by kernel_rfl) (by kernel_rfl) ?_ (Or.inl ⟨?_, ?_⟩) hHeld ?_
  rotate_left 2
  · (simp only [List.getElem?_toArray, List.getElem?_cons_succ, List.getElem?_cons_zero]; rfl)
  · exact fun _ _ _ h => h
  · rfl
  · (rintro W' ⟨s0, s1, s2, s3, s4⟩; go_simp; first | done | with_reducible rfl)
  try simp only [Act.put, List.setIfInBounds_toArray, List.set_cons_zero, List.set_cons_succ]
  refine wpAnyH_take (i := 2) (oi := ?_) (v := ?_) ?_ (by kernel_rfl) (by kernel_rfl) (by kernel_rfl) ?_ (Or.inl ⟨?_, ?_⟩) hHeld ?_
  rotate_left 2
  · (simp only [List.getElem?_toArray, List.getElem?_cons_succ, List.getElem?_cons_zero]; rfl)
  · exact fun _ _ _ h => h
  · rfl
  · (rintro W' ⟨s0, s1, s2, s3, s4⟩; go_simp; first | done | with_reducible rfl)
  try simp only [Act.put, List.setIfInBounds_toArray, List.set_cons_zero, List.set_cons_succ]
  refine wpAnyH_take (i := 3) (oi := ?_) (v := ?_) ?_ (by kernel_rfl) (by kernel_rfl) (by kernel_rfl) ?_ (Or.inl ⟨?_, ?_⟩) hHeld ?_
  rotate_left 2
  · (simp only [List.getElem?_toArray, List.getElem?_cons_succ, List.getElem?_cons_zero]; rfl)
  · exact fun _ _ _ h => h
  · rfl
  · (rintro W' ⟨s0, s1, s2, s3, s4⟩; go_simp; first | done | with_reducible rfl)
  try simp only [Act.put, List.setIfInBounds_toArray, List.set_cons_zero, List.set_cons_succ]
  refine wpAnyH_take (i := 4) (oi := ?_) (v := ?_) ?_ (by kernel_rfl) (by kernel_rfl) (by kernel_rfl) ?_ (Or.inl ⟨?_, ?_⟩) hHeld ?_
  rotate_left 2
  · (simp only [List.getElem?_toArray, List.getElem?_cons_succ, List.getElem?_cons_zero]; rfl)
  · exact fun _ _ _ h => h
  · rfl
  · (rintro W' ⟨s0, s1, s2, s3, s4⟩; go_simp; first | done | with_reducible rfl)
  try simp only [Act.put, List.setIfInBounds_toArray, List.set_cons_zero, List.set_cons_succ]
  refine wpAnyH_take (i := 5) (oi := ?_) (v := ?_) ?_ (by kernel_rfl) (by kernel_rfl) (by kernel_rfl) ?_ (Or.inl ⟨?_, ?_⟩) hHeld ?_
  rotate_left 2
  · (simp only [List.getElem?_toArray, List.getElem?_cons_succ, List.getElem?_cons_zero]; rfl)
  · exact fun _ _ _ h => h
  · rfl
  · (rintro W' ⟨s0, s1, s2, s3, s4⟩; go_simp; first | done | with_reducible rfl)
  try simp only [Act.put, List.setIfInBounds_toArray, List.set_cons_zero, List.set_cons_succ]
  generalize w5.drew = w6 at *
  refine wpAnyH_ready (rs := [1]) (by kernel_rfl) (by simp) ?_
  refine AllReadyH.cons (o := ?_) ?_ (fun K hK => ?_) AllReadyH.nil
  rotate_left 1
  · (simp only [List.getElem?_toArray, List.getElem?_cons_succ, List.getElem?_cons_zero]; rfl)
  · (go_simp; refine HcR.out.mono ?_; rintro e w7 ⟨rfl, hC7⟩; have HC7 := Lib.hid (HD5.out.trans hC7); have u0 := (hC7.cell (p := ⟨w.heap.size, 0, none⟩) (World.block_lt_of_cell? _ _ y0) (by simp)).trans y0; have u1 := (hC7.cell (p := ⟨w.heap.size, 1, none⟩) (World.block_lt_of_cell? _ _ y1) (by simp)).trans y1; have u2 := (hC7.cell (p := ⟨w.heap.size, 2, none⟩) (World.block_lt_of_cell? _ _ y2) (by simp)).trans y2; have u3 := (hC7.cell (p := ⟨w.heap.size, 3, none⟩) (World.block_lt_of_cell? _ _ y3) (by simp)).trans y3; have u4 := (hC7.cell (p := ⟨w.heap.size, 4, none⟩) (World.block_lt_of_cell? _ _ y4) (by simp)).trans y4; clear hC7)
    refine hK.out _ _ ?_ (fun hHeld => ?_)
    · exact ⟨u0, u1, u2, u3, u4⟩
    clear hK K
    try simp only [Act.put, List.setIfInBounds_toArray, List.set_cons_zero, List.set_cons_succ]
    refine wpAnyH_ready (rs := [6]) (by kernel_rfl) (by simp) ?_
    refine AllReadyH.cons (o := ?_) ?_ (fun K hK => ?_) AllReadyH.nil
    rotate_left 1
    · (simp only [List.getElem?_toArray, List.getElem?_cons_succ, List.getElem?_cons_zero]; rfl)
    · (go_simp; refine (r10need_at w7 hn1 hn2).mono ?_; rintro e w' ⟨rfl, rfl⟩)
      refine hK.out _ _ ?_ (fun hHeld => ?_)
      · exact ⟨u0, u1, u2, u3, u4⟩
      clear hK K
      try simp only [Act.put, List.setIfInBounds_toArray, List.set_cons_zero, List.set_cons_succ]
      refine wpAnyH_take (i := 7) (oi := ?_) (v := ?_) ?_ (by kernel_rfl) (by kernel_rfl) (by kernel_rfl) ?_ (Or.inl ⟨?_, ?_⟩) hHeld ?_
      rotate_left 2
      · (simp only [List.getElem?_toArray, List.getElem?_cons_succ, List.getElem?_cons_zero]; rfl)
      · exact fun _ _ _ h => h
      · rfl
      · (rintro W' ⟨s0, s1, s2, s3, s4⟩; go_simp; first | done | with_reducible rfl)
      try simp only [Act.put, List.setIfInBounds_toArray, List.set_cons_zero, List.set_cons_succ]
      refine wpAnyH_done (by kernel_rfl) ?_ _
      clear u0 u1 u2 u3 u4 y0 y1 y2 y3 y4 p0 p1 p2 p3 p4
      have hx2 := (HC7.out.block _ (heap_lt HX5.out) (by simp)).trans HX5.out
      have hr2 := (HC7.out.block _ (heap_lt HR5.out) (by simp)).trans HR5.out
      have x0 := cell_of_block hx2 0
      have x1 := cell_of_block hx2 1
      have x2 := cell_of_block hx2 2
      have x3 := cell_of_block hx2 3
      have x4 := cell_of_block hx2 4
      have x5 := cell_of_block hx2 5
      have x6 := cell_of_block hx2 6
      have x7 := cell_of_block hx2 7
      have x8 := cell_of_block hx2 8
      simp only [List.getElem?_toArray, List.getElem?_cons_zero, List.getElem?_cons_succ] at x0 x1 x2 x3 x4 x5 x6 x7 x8
      have f0 := frozen_of_block hr2 0
      have z0 := cell_of_block hr2 0
      have f1 := frozen_of_block hr2 1
      have z1 := cell_of_block hr2 1
      have f2 := frozen_of_block hr2 2
      have z2 := cell_of_block hr2 2
      have f3 := frozen_of_block hr2 3
      have z3 := cell_of_block hr2 3
      have f4 := frozen_of_block hr2 4
      have z4 := cell_of_block hr2 4
      have f5 := frozen_of_block hr2 5
      have z5 := cell_of_block hr2 5
      have f6 := frozen_of_block hr2 6
      have z6 := cell_of_block hr2 6
      have f7 := frozen_of_block hr2 7
      have z7 := cell_of_block hr2 7
      have f8 := frozen_of_block hr2 8
      have z8 := cell_of_block hr2 8
      simp only [List.getElem?_toArray, List.getElem?_cons_zero, List.getElem?_cons_succ] at z0 z1 z2 z3 z4 z5 z6 z7 z8
      have h9 := Lib.hid (sto9of9 hr2 (.slice (some ⟨g1, 0, none⟩) T.n c1) (.slice (some ⟨g2, 0, none⟩) T.n c2) (.int .i64 (K.first : Int)) (.int .i64 (K.next : Int)) (.int .i64 (K.asked : Int)) (.slice (some ⟨g 0, 0, none⟩) (n 0) (c 0)) (.slice (some ⟨g 1, 0, none⟩) (n 1) (c 1)) (.slice none 0 0) (.slice none 0 0))
      clear hx2 hr2
      go_wp2_with fail
      generalize ((((((((w7.setCell _ _).setCell _ _).setCell _ _).setCell _ _).setCell _ _).setCell _ _).setCell _ _).setCell _ _).setCell _ _ = W9 at *
      have hr9 := h9.out.1
      have k0 := cell_of_block hr9 0
      have k1 := cell_of_block hr9 1
      have k2 := cell_of_block hr9 2
      have k3 := cell_of_block hr9 3
      have k4 := cell_of_block hr9 4
      have k5 := cell_of_block hr9 5
      have k6 := cell_of_block hr9 6
      have k7 := cell_of_block hr9 7
      have k8 := cell_of_block hr9 8
      simp only [List.getElem?_toArray, List.getElem?_cons_zero, List.getElem?_cons_succ] at k0 k1 k2 k3 k4 k5 k6 k7 k8
      (try simp only [Exit.inBlock, Exit.then])
      refine bodyPost_ret (v := .tuple #[.agg #[.slice (some ⟨g1, 0, none⟩) T.n c1, .slice (some ⟨g2, 0, none⟩) T.n c2, .int .i64 (K.first : Int), .int .i64 (K.next : Int), .int .i64 (K.asked : Int), .slice (some ⟨g 0, 0, none⟩) (n 0) (c 0), .slice (some ⟨g 1, 0, none⟩) (n 1) (c 1), .slice none 0 0, .slice none 0 0], .int .i64 90]) (by simp [results, Try.results21, go_sem, k0, k1, k2, k3, k4, k5, k6, k7, k8]) rfl ?_
      exact ⟨rfl, (HC5.out.trans HC7.out).then h9.out.2 (fun q hq => by simp at hq; right; omega)⟩


/-- As step_appI; where the new list lies. -/
theorem step_appI2 {ops : Array Oper} {o : Oper} {a : Act} {w : World} {K : Act → World → Prop} {Q : Exit → Act → World → Prop} {E : Prop} (hg : o.guard = none) (s x : Operand)
    (hop : o.op = .call { callee := .builtin .append, args := #[s, x], argTypes := #[31, 31] }) (hty : o.type = 31) {base : Nat} {v : Value} {l : List Nat} (hs : a.eval s = v) (hown : w.ownsRow base 3 1 v l.length (intVs l)) {g c n : Nat} {m : List Nat} (e : n = m.length)
    (hx : a.eval x = .slice (some ⟨g, 0, none⟩) n c) (hin : SlI w (.slice (some ⟨g, 0, none⟩) n c) m) (hnm : l.length + m.length ≤ 100000) (hbase : base ≤ w.heap.size)
    (hK : ∀ v' w', w'.ownsRow base 3 1 v' (l ++ m).length (intVs (l ++ m)) → w.grownBy w' v.ownBlock → (v'.ownBlock = v.ownBlock ∨ v'.ownBlock = some w.heap.size) → K (a.put o.dst v') w') :
    if Region.wanted o (yielded ops a.tmps) = true then Oper.wp Try.prog o a w K Q else E := by
  have hw : Region.wanted o (yielded ops a.tmps) = true := by simp [Region.wanted, hg]
  rw [if_pos hw]
  subst e
  obtain ⟨i, h1, h2, h3, h4⟩ := info_parts infoInt8
  obtain ⟨v', w', hrun, ho, hgr, _, hal⟩ := run_append_own_at (P := Try.prog) w base 31 31 3 i (.int .i64 0) 1 8 Try.underlying31 h1 h2 h3 h4 rfl (by decide) v l.length _ hown ⟨g, 0, none⟩ m.length c (intVs m) (by simp [intVs]) hin.cells (by intro u hu; obtain ⟨q, _, rfl⟩ := List.mem_map.1 hu; rfl) (by unfold maxLen; omega) (by omega) hbase
  unfold Oper.wp
  simp [execOp, hop, resolve, invoke, builtin, hs, hx, hty, hrun, Result.andThen]
  exact hK _ _ (by rw [intVs_app, List.length_append]; exact ho) hgr hal
theorem own_emptyB {w : World} {base : Nat} (h : base ≤ w.heap.size) : (w.alloc (.cells #[] 3)).ownsRow base 3 1 (.slice (some ⟨w.heap.size, 0, none⟩) 0 0) 0 [] :=
  ⟨rfl, .inr ⟨w.heap.size, 0, #[], rfl, h, new_block w _, Nat.zero_le _, by unfold maxLen; omega, rfl, rfl⟩⟩

def stObj' (v1 v2 : Value) (K : Pk) (n g c h : Nat → Nat) : Obj :=
  .cells #[v1, v2, .int .i64 (K.first : Int), .int .i64 (K.next : Int), .int .i64 (K.asked : Int), .slice (some ⟨g 0, 0, none⟩) (n 0) (c 0), .slice (some ⟨g 1, 0, none⟩) (n 1) (c 1), .slice (some ⟨h 0, 0, none⟩) (n 0) (n 0), .slice (some ⟨h 1, 0, none⟩) (n 1) (n 1)] 57 (0, 0)
/-- Where the reference's Place begins. -/
theorem ref_start {A : List Nat} {w wz : World} {v1 v2 : Value} {a : Nat → Nat → Nat} {n : Nat → Nat} {T : Tal} {K : Pk} {X R ga gb ca cb ha hb : Nat} {cura curb : Array Value} (H : RefT A w v1 v2 T) (hA : ∀ k, k ∈ A → k < w.heap.size) (ho : ShOk T n a) (hf : K.first ≤ K.next) (hx : K.next ≤ T.n)
    (h1 : wz.heap[ga]? = some (.cells cura 3 (0, 0))) (p1 : cura.size = ca ∧ n 0 ≤ ca ∧ ca ≤ maxLen ∧ ∀ i, i < n 0 → cura[i]? = some (.int .i64 (a 0 i : Int))) (h2 : wz.heap[gb]? = some (.cells curb 3 (0, 0))) (p2 : curb.size = cb ∧ n 1 ≤ cb ∧ cb ≤ maxLen ∧ ∀ i, i < n 1 → curb[i]? = some (.int .i64 (a 1 i : Int)))
    (h3 : wz.heap[ha]? = some (.cells (zrow (n 0) (.bool false)) 4 (0, 0))) (h4 : wz.heap[hb]? = some (.cells (zrow (n 1) (.bool false)) 4 (0, 0))) (nd : [R, X, ga, gb, ha, hb].Nodup) (ge : ∀ b, b ∈ [R, X, ga, gb, ha, hb] → w.heap.size ≤ b ∧ b < wz.heap.size) (C : Chg [] w wz) :
    ∃ (B : List Nat) (g' c' h' : Nat → Nat), (g' 0 = ga ∧ g' 1 = gb ∧ c' 0 = ca ∧ c' 1 = cb ∧ h' 0 = ha ∧ h' 1 = hb) ∧ RefS B wz v1 v2 g' c' h' (PS.start T K n a) ∧ (∀ k, k ∈ B → k < wz.heap.size) ∧ (∀ k, k ∈ A → k ∈ B) ∧ X ∈ B ∧ R ∈ B := by
  refine ⟨A ++ [R, X, ga, gb, ha, hb], fun k => if k = 0 then ga else gb, fun k => if k = 0 then ca else cb, fun k => if k = 0 then ha else hb, ⟨rfl, rfl, rfl, rfl, rfl, rfl⟩, ?_, ?_, fun k hk => List.mem_append.2 (.inl hk), by simp, by simp⟩
  · refine ⟨((H.more (B := A ++ [R, X, ga, gb, ha, hb]) (fun k hk => by rcases List.mem_append.1 hk with q | q; exact .inl q; exact .inr (ge k q).1)).chg C (by simp)), ?_, ?_, ?_, ?_, ho.n0, ho.n1, hf, hx⟩
    · intro k hk
      have hk2 : k = 0 ∨ k = 1 := by omega
      rcases hk2 with rfl | rfl
      · exact ⟨cura, h1, p1⟩
      · exact ⟨curb, h2, p2⟩
    · intro k hk
      have hk2 : k = 0 ∨ k = 1 := by omega
      rcases hk2 with rfl | rfl
      · show wz.heap[ha]? = some (.cells (bools (n 0) (fun _ => false)) 4 (0, 0)); rw [h3, zrow_bools]
      · show wz.heap[hb]? = some (.cells (bools (n 1) (fun _ => false)) 4 (0, 0)); rw [h4, zrow_bools]
    · show [ga, gb, ha, hb].Nodup
      exact (List.nodup_cons.1 (List.nodup_cons.1 nd).2).2
    · intro b hb
      exact List.mem_append.2 (.inr (List.mem_cons_of_mem _ (List.mem_cons_of_mem _ hb)))
  · intro k hk
    rcases List.mem_append.1 hk with q | q
    · exact Nat.lt_of_lt_of_le (hA k q) C.size
    · exact (ge k q).2

set_option maxRecDepth 20000 in
set_option maxHeartbeats 8000000 in
theorem r10place_ok {A : List Nat} {w : World} {v1 v2 s0 s1 : Value} {a : Nat → Nat → Nat} {n g c : Nat → Nat} {T : Tal} {K : Pk} (H : RefT A w v1 v2 T) (hv : ShV w s0 s1 a n g c) (hA : ∀ k, k ∈ A → k < w.heap.size) (ho : ShOk T n a) (hf : K.first ≤ K.next) (hx : K.next ≤ T.n) (hr : (needN T.n : Int) ≤ roomI T K.first) :
    Calls Try.prog 21 #[.agg #[v1, v2, .int .i64 (K.first : Int), .int .i64 (K.next : Int), .int .i64 (K.asked : Int)], .agg #[s0, s1]] w fun e w' => ∃ (u1 : Value) (B : List Nat) (g' c' h' : Nat → Nat), e = .returned (.tuple #[st10 u1 v2 (PS.start T K n a).fin.K n g' c' h', .int .i64 0]) ∧ RefS B w' u1 v2 g' c' h' (PS.start T K n a).fin ∧ (∀ k, k ∈ A → k ∈ B) ∧ (∀ k, k ∈ B → k < w'.heap.size) ∧ Chg [] w w' := by
  obtain ⟨g1, c1, e1, _⟩ := H.now
  obtain ⟨g2, c2, e2, _⟩ := H.kept
  have e3 := hv.e0
  have e4 := hv.e1
  subst e1 e2 e3 e4
  have hn1 := H.n1
  have hn2 := H.n2
  have HH := Lib.hid H
  have HV := Lib.hid hv
  have h4 := four_new w (.cells #[.slice (some ⟨g1, 0, none⟩) T.n c1, .slice (some ⟨g2, 0, none⟩) T.n c2, .int .i64 (K.first : Int), .int .i64 (K.next : Int), .int .i64 (K.asked : Int)] 37) (.cells #[.slice (some ⟨g 0, 0, none⟩) (n 0) (c 0), .slice (some ⟨g 1, 0, none⟩) (n 1) (c 1)] 42) (.cells #[.slice none 0 0, .slice none 0 0, .int .i64 0, .int .i64 0, .int .i64 0, .slice none 0 0, .slice none 0 0, .slice none 0 0, .slice none 0 0] 57) (.cells #[.slice (some ⟨g1, 0, none⟩) T.n c1, .slice (some ⟨g2, 0, none⟩) T.n c2, .int .i64 (K.first : Int), .int .i64 (K.next : Int), .int .i64 (K.asked : Int), .slice (some ⟨g 0, 0, none⟩) (n 0) (c 0), .slice (some ⟨g 1, 0, none⟩) (n 1) (c 1), .slice none 0 0, .slice none 0 0] 57)
  have HF := Lib.hid h4
  clear H hv h4
  have HA := Lib.hid hA
  have HO := Lib.hid ho
  have HFX := Lib.hid (And.intro hf hx)
  have hfn : K.first ≤ T.n := by omega
  have HNN := Lib.hid (show 1 ≤ n 0 ∧ n 0 ≤ 4096 ∧ 1 ≤ n 1 ∧ n 1 ≤ 4096 by
    have q0 := ho.n0
    have q1 := ho.n1
    unfold pg at q0 q1
    omega)
  clear ho hA hf hx
  go_enter Try.func21, Try.ntmps21
  go_upto_region 2 with fail
  generalize (((w.alloc _).alloc _).alloc _).alloc _ = w4 at *
  have hp := HF.out.1
  have hs := HF.out.2.1
  have p0 := cell_of_block hp 0
  have p1 := cell_of_block hp 1
  have p2 := cell_of_block hp 2
  have p3 := cell_of_block hp 3
  have p4 := cell_of_block hp 4
  simp only [List.getElem?_toArray, List.getElem?_cons_zero, List.getElem?_cons_succ] at p0 p1 p2 p3 p4
  have s0 := cell_of_block hs 0
  have s1 := cell_of_block hs 1
  simp only [List.getElem?_toArray, List.getElem?_cons_zero, List.getElem?_cons_succ] at s0 s1
  clear hp hs
  go_wp2_with fail
  refine (r10right_at hn1 hn2 ((HH.out.chg HF.out.2.2.2.2 (by simp)).now) (HV.out.chg HF.out.2.2.2.2 (by simp) (by simp)) HO.out).mono ?_
  rintro e w5 ⟨rfl, hC5⟩
  have HC5 := Lib.hid (HF.out.2.2.2.2.trans hC5)
  have HR5 := Lib.hid ((hC5.block _ (heap_lt HF.out.2.2.1) (by simp)).trans HF.out.2.2.1)
  have HX5 := Lib.hid ((hC5.block _ (heap_lt HF.out.2.2.2.1) (by simp)).trans HF.out.2.2.2.1)
  have HP5 := Lib.hid ((hC5.block _ (heap_lt HF.out.1) (by simp)).trans HF.out.1)
  have HS5 := Lib.hid ((hC5.block _ (heap_lt HF.out.2.1) (by simp)).trans HF.out.2.1)
  clear hC5 p0 p1 p2 p3 p4 s0 s1 HF
  have hp5 := HP5.out
  have p0 := cell_of_block hp5 0
  have p1 := cell_of_block hp5 1
  have p2 := cell_of_block hp5 2
  have p3 := cell_of_block hp5 3
  have p4 := cell_of_block hp5 4
  simp only [List.getElem?_toArray, List.getElem?_cons_zero, List.getElem?_cons_succ] at p0 p1 p2 p3 p4
  have lp := heap_lt hp5
  clear hp5
  have y0 : w5.drew.cell? ⟨w.heap.size, 0, none⟩ = _ := p0
  have y1 : w5.drew.cell? ⟨w.heap.size, 1, none⟩ = _ := p1
  have y2 : w5.drew.cell? ⟨w.heap.size, 2, none⟩ = _ := p2
  have y3 : w5.drew.cell? ⟨w.heap.size, 3, none⟩ = _ := p3
  have y4 : w5.drew.cell? ⟨w.heap.size, 4, none⟩ = _ := p4
  go_upto_region 4 with fail
  have cR := r9room_at ((HH.out.chg HC5.out (by simp)).chg ((Chg.refl [] w5).drew) (by simp)) K.first (K.next : Int) (K.asked : Int) hfn
  have HcR := Lib.hid cR
  have HD5 := Lib.hid ((Chg.refl [] w5).drew)
  clear cR
  refine wp_region_held_drew (S := fun W' => W'.cell? ⟨w.heap.size, 0, none⟩ = some (.slice (some ⟨g1, 0, none⟩) T.n c1) ∧ W'.cell? ⟨w.heap.size, 1, none⟩ = some (.slice (some ⟨g2, 0, none⟩) T.n c2) ∧ W'.cell? ⟨w.heap.size, 2, none⟩ = some (.int .i64 (K.first : Int)) ∧ W'.cell? ⟨w.heap.size, 3, none⟩ = some (.int .i64 (K.next : Int)) ∧ W'.cell? ⟨w.heap.size, 4, none⟩ = some (.int .i64 (K.asked : Int))) (by kernel_rfl) (by exact ⟨p0, p1, p2, p3, p4⟩) (fun hHeld => ?_)
  refine wpAnyH_take (i := 0) (oi := ?_) (v := ?_) ?_ (by kernel_rfl) (by kernel_rfl) (by kernel_rfl) ?_ (Or.inl ⟨?_, ?_⟩) hHeld ?_
  rotate_left 2
  · (simp only [List.getElem?_toArray, List.getElem?_cons_succ, List.getElem?_cons_zero]; rfl)
  · exact fun _ _ _ h => h
  · rfl
  · (rintro W' ⟨s0, s1, s2, s3, s4⟩; go_simp; first | done | with_reducible rfl)
  try simp only [Act.put, List.setIfInBounds_toArray, List.set_cons_zero, List.set_cons_succ]
  refine wpAnyH_take (i := 2) (oi := ?_) (v := ?_) ?_ (by kernel_rfl) (by kernel_rfl) (by kernel_rfl) ?_ (Or.inl ⟨?_, ?_⟩) hHeld ?_
  rotate_left 2
  · (simp only [List.getElem?_toArray, List.getElem?_cons_succ, List.getElem?_cons_zero]; rfl)
  · exact fun _ _ _ h => h
  · rfl
  · (rintro W' ⟨s0, s1, s2, s3, s4⟩; go_simp; first | done | with_reducible rfl)
  try simp only [Act.put, List.setIfInBounds_toArray, List.set_cons_zero, List.set_cons_succ]
  refine wpAnyH_take (i := 3) (oi := ?_) (v := ?_) ?_ (by kernel_rfl) (by kernel_rfl) (by kernel_rfl) ?_ (Or.inl ⟨?_, ?_⟩) hHeld ?_
  rotate_left 2
  · (simp only [List.getElem?_toArray, List.getElem?_cons_succ, List.getElem?_cons_zero]; rfl)
  · exact fun _ _ _ h => h
  · rfl
  · (rintro W' ⟨s0, s1, s2, s3, s4⟩; go_simp; first | done | with_reducible rfl)
  try simp only [Act.put, List.setIfInBounds_toArray, List.set_cons_zero, List.set_cons_succ]
  refine wpAnyH_take (i := 4) (oi := ?_) (v := ?_) ?_ (by kernel_rfl) (by kernel_rfl) (by kernel_rfl) ?_ (Or.inl ⟨?_, ?_⟩) hHeld ?_
  rotate_left 2
  · (simp only [List.getElem?_toArray, List.getElem?_cons_succ, List.getElem?_cons_zero]; rfl)
  · exact fun _ _ _ h => h
  · rfl
  · (rintro W' ⟨s0, s1, s2, s3, s4⟩; go_simp; first | done | with_reducible rfl)
  try simp only [Act.put, List.setIfInBounds_toArray, List.set_cons_zero, List.set_cons_succ]
  refine wpAnyH_take (i := 5) (oi := ?_) (v := ?_) ?_ (by kernel_rfl) (by kernel_rfl) (by kernel_rfl) ?_ (Or.inl ⟨?_, ?_⟩) hHeld ?_
  rotate_left 2
  · (simp only [List.getElem?_toArray, List.getElem?_cons_succ, List.getElem?_cons_zero]; rfl)
  · exact fun _ _ _ h => h
  · rfl
  · (rintro W' ⟨s0, s1, s2, s3, s4⟩; go_simp; first | done | with_reducible rfl)
  try simp only [Act.put, List.setIfInBounds_toArray, List.set_cons_zero, List.set_cons_succ]
  generalize w5.drew = w6 at *
  refine wpAnyH_ready (rs := [1]) (by kernel_rfl) (by simp) ?_
  refine AllReadyH.cons (o := ?_) ?_ (fun K hK => ?_) AllReadyH.nil
  rotate_left 1
  · (simp only [List.getElem?_toArray, List.getElem?_cons_succ, List.getElem?_cons_zero]; rfl)
  · (go_simp; refine HcR.out.mono ?_; rintro e w7 ⟨rfl, hC7⟩; have HC7 := Lib.hid (HD5.out.trans hC7); have u0 := (hC7.cell (p := ⟨w.heap.size, 0, none⟩) (World.block_lt_of_cell? _ _ y0) (by simp)).trans y0; have u1 := (hC7.cell (p := ⟨w.heap.size, 1, none⟩) (World.block_lt_of_cell? _ _ y1) (by simp)).trans y1; have u2 := (hC7.cell (p := ⟨w.heap.size, 2, none⟩) (World.block_lt_of_cell? _ _ y2) (by simp)).trans y2; have u3 := (hC7.cell (p := ⟨w.heap.size, 3, none⟩) (World.block_lt_of_cell? _ _ y3) (by simp)).trans y3; have u4 := (hC7.cell (p := ⟨w.heap.size, 4, none⟩) (World.block_lt_of_cell? _ _ y4) (by simp)).trans y4; clear hC7)
    refine hK.out _ _ ?_ (fun hHeld => ?_)
    · exact ⟨u0, u1, u2, u3, u4⟩
    clear hK K
    try simp only [Act.put, List.setIfInBounds_toArray, List.set_cons_zero, List.set_cons_succ]
    refine wpAnyH_ready (rs := [6]) (by kernel_rfl) (by simp) ?_
    refine AllReadyH.cons (o := ?_) ?_ (fun K hK => ?_) AllReadyH.nil
    rotate_left 1
    · (simp only [List.getElem?_toArray, List.getElem?_cons_succ, List.getElem?_cons_zero]; rfl)
    · (go_simp; refine (r10need_at w7 hn1 hn2).mono ?_; rintro e w' ⟨rfl, rfl⟩)
      refine hK.out _ _ ?_ (fun hHeld => ?_)
      · exact ⟨u0, u1, u2, u3, u4⟩
      clear hK K
      try simp only [Act.put, List.setIfInBounds_toArray, List.set_cons_zero, List.set_cons_succ]
      refine wpAnyH_take (i := 7) (oi := ?_) (v := ?_) ?_ (by kernel_rfl) (by kernel_rfl) (by kernel_rfl) ?_ (Or.inl ⟨?_, ?_⟩) hHeld ?_
      rotate_left 2
      · (simp only [List.getElem?_toArray, List.getElem?_cons_succ, List.getElem?_cons_zero]; rfl)
      · exact fun _ _ _ h => h
      · rfl
      · (rintro W' ⟨s0, s1, s2, s3, s4⟩; go_simp; first | done | with_reducible rfl)
      try simp only [Act.put, List.setIfInBounds_toArray, List.set_cons_zero, List.set_cons_succ]
      refine wpAnyH_done (by kernel_rfl) ?_ _
      clear u0 u1 u2 u3 u4 y0 y1 y2 y3 y4 p0 p1 p2 p3 p4 lp
      have HC70 := Lib.hid (HC5.out.trans HC7.out)
      have HX7 := Lib.hid ((HC7.out.block _ (heap_lt HX5.out) (by simp)).trans HX5.out)
      have HR7 := Lib.hid ((HC7.out.block _ (heap_lt HR5.out) (by simp)).trans HR5.out)
      have HS7 := Lib.hid ((HC7.out.block _ (heap_lt HS5.out) (by simp)).trans HS5.out)
      have hs7 := HS7.out
      have s0 := cell_of_block hs7 0
      have s1 := cell_of_block hs7 1
      simp only [List.getElem?_toArray, List.getElem?_cons_zero, List.getElem?_cons_succ] at s0 s1
      have ls := heap_lt hs7
      have lX := heap_lt HX7.out
      clear hs7
      go_wp2_with fail
      go_cut [] (fun wz => Hid (∃ (ga ca gb cb : Nat) (cura curb : Array Value), wz.heap[w.heap.size + 1 + 1 + 1]? = some (.cells #[.slice (some ⟨g1, 0, none⟩) T.n c1, .slice (some ⟨g2, 0, none⟩) T.n c2, .int .i64 (K.first : Int), .int .i64 (K.next : Int), .int .i64 (K.asked : Int), .slice (some ⟨ga, 0, none⟩) (n 0) ca, .slice (some ⟨gb, 0, none⟩) (n 1) cb, .slice none 0 0, .slice none 0 0] 57 (0, 0)) ∧ wz.heap[ga]? = some (.cells cura 3 (0, 0)) ∧ (cura.size = ca ∧ n 0 ≤ ca ∧ ca ≤ maxLen ∧ ∀ i, i < n 0 → cura[i]? = some (.int .i64 (a 0 i : Int))) ∧
        wz.heap[gb]? = some (.cells curb 3 (0, 0)) ∧ (curb.size = cb ∧ n 1 ≤ cb ∧ cb ≤ maxLen ∧ ∀ i, i < n 1 → curb[i]? = some (.int .i64 (a 1 i : Int))) ∧ ga ≠ gb ∧ w7.heap.size ≤ ga ∧ w7.heap.size ≤ gb ∧ Chg [w.heap.size + 1 + 1 + 1] w7 wz))
      case first =>
        have HC60 := Lib.hid ((Chg.refl [] w7).drew)
        refine wp_region_held_drew (S := fun W' => W'.cell? ⟨w.heap.size + 1, 0, none⟩ = some (.slice (some ⟨g 0, 0, none⟩) (n 0) (c 0)) ∧ W'.cell? ⟨w.heap.size + 1, 1, none⟩ = some (.slice (some ⟨g 1, 0, none⟩) (n 1) (c 1))) (by kernel_rfl) (by exact ⟨s0, s1⟩) (fun hHeld => ?_)
        refine wpAnyH_take (i := 1) (oi := ?_) (v := ?_) ?_ (by kernel_rfl) (by kernel_rfl) (by kernel_rfl) ?_ (Or.inl ⟨?_, ?_⟩) hHeld ?_
        rotate_left 2
        · (simp only [List.getElem?_toArray, List.getElem?_cons_succ, List.getElem?_cons_zero]; rfl)
        · exact fun _ _ _ h => h
        · rfl
        · (rintro W' ⟨s0, s1⟩; go_simp; first | done | with_reducible rfl)
        try simp only [Act.put, List.setIfInBounds_toArray, List.set_cons_zero, List.set_cons_succ]
        refine wpAnyH_take (i := 2) (oi := ?_) (v := ?_) ?_ (by kernel_rfl) (by kernel_rfl) (by kernel_rfl) ?_ (Or.inl ⟨?_, ?_⟩) hHeld ?_
        rotate_left 2
        · (simp only [List.getElem?_toArray, List.getElem?_cons_succ, List.getElem?_cons_zero]; rfl)
        · exact fun _ _ _ h => h
        · rfl
        · (rintro W' ⟨s0, s1⟩; go_simp; first | done | with_reducible rfl)
        try simp only [Act.put, List.setIfInBounds_toArray, List.set_cons_zero, List.set_cons_succ]
        refine wpAnyH_take (i := 5) (oi := ?_) (v := ?_) ?_ (by kernel_rfl) (by kernel_rfl) (by kernel_rfl) ?_ (Or.inl ⟨?_, ?_⟩) hHeld ?_
        rotate_left 2
        · (simp only [List.getElem?_toArray, List.getElem?_cons_succ, List.getElem?_cons_zero]; rfl)
        · exact fun _ _ _ h => h
        · rfl
        · (rintro W' ⟨s0, s1⟩; go_simp; first | done | with_reducible rfl)
        try simp only [Act.put, List.setIfInBounds_toArray, List.set_cons_zero, List.set_cons_succ]
        refine wpAnyH_take (i := 6) (oi := ?_) (v := ?_) ?_ (by kernel_rfl) (by kernel_rfl) (by kernel_rfl) ?_ (Or.inl ⟨?_, ?_⟩) hHeld ?_
        rotate_left 2
        · (simp only [List.getElem?_toArray, List.getElem?_cons_succ, List.getElem?_cons_zero]; rfl)
        · exact fun _ _ _ h => h
        · rfl
        · (rintro W' ⟨s0, s1⟩; go_simp; first | done | with_reducible rfl)
        try simp only [Act.put, List.setIfInBounds_toArray, List.set_cons_zero, List.set_cons_succ]
        generalize w7.drew = w60 at *
        refine wpAnyH_ready (rs := [0, 4]) (by kernel_rfl) (by simp) ?_
        refine AllReadyH.cons (o := ?_) ?_ (fun K hK => ?_) ?_
        rotate_left 1
        · (simp only [List.getElem?_toArray, List.getElem?_cons_succ, List.getElem?_cons_zero]; rfl)
        · (go_simp; have HE0 := Lib.hid (own_emptyB (w := w60) (base := w7.heap.size) HC60.out.size); have HC61 := Lib.hid (HC60.out.alloc (.cells #[] 3)); have SZ1 := Lib.hid (size_alloc' w60 (.cells #[] 3)); generalize w60.alloc _ = W610 at *)
          refine hK.out _ _ ?_ (fun hHeld => ?_)
          · exact ⟨(HC61.out.cell (p := ⟨w.heap.size + 1, 0, none⟩) ls (by simp)).trans s0, (HC61.out.cell (p := ⟨w.heap.size + 1, 1, none⟩) ls (by simp)).trans s1⟩
          clear hK K
          try simp only [Act.put, List.setIfInBounds_toArray, List.set_cons_zero, List.set_cons_succ]
          refine wpAnyH_ready (rs := [3, 4]) (by kernel_rfl) (by simp) ?_
          refine AllReadyH.cons (o := ?_) ?_ (fun K hK => ?_) ?_
          rotate_left 1
          · (simp only [List.getElem?_toArray, List.getElem?_cons_succ, List.getElem?_cons_zero]; rfl)
          · (refine step_appI2 (l := []) (m := atL a n 0) rfl (.tmp 27) (.tmp 29) rfl rfl (by simp [Act.eval, Act.put]) HE0.out (by rw [atL_len]) (by simp [Act.eval, Act.put]) ((HV.out.l 0 (by omega)).chg (HC70.out.trans HC61.out) (by simp)) (by simp [atL_len]; have := HNN.out; omega) HC61.out.size ?_; intro v3 W6203 hown hg hal; rw [List.nil_append] at hown; have HA3 := Lib.hid hown; have HAL3 := Lib.hid hal; have CG3 : Hid (Chg [w60.heap.size] W610 W6203) := Lib.hid ((Chg.refl [w60.heap.size] W610).grown hg (fun k hk => .inl (by simp [Value.ownBlock] at hk; simp; omega))); have SZ2 := Lib.hid CG3.out.size; have HC62 := Lib.hid (HC61.out.grown hg (fun k hk => .inr (by simp [Value.ownBlock] at hk; have := (HE0.out.lt (w60.heap.size) rfl).1; omega))); have LA3 := Lib.hid (fun k hk => (HA3.out.lt k hk).2 : ∀ k, v3.ownBlock = some k → k < W6203.heap.size); clear hown hg hal)
            refine hK.out _ _ ?_ (fun hHeld => ?_)
            · exact ⟨(HC62.out.cell (p := ⟨w.heap.size + 1, 0, none⟩) ls (by simp)).trans s0, (HC62.out.cell (p := ⟨w.heap.size + 1, 1, none⟩) ls (by simp)).trans s1⟩
            clear hK K
            try simp only [Act.put, List.setIfInBounds_toArray, List.set_cons_zero, List.set_cons_succ]
            refine wpAnyH_ready (rs := [4]) (by kernel_rfl) (by simp) ?_
            refine AllReadyH.cons (o := ?_) ?_ (fun K hK => ?_) AllReadyH.nil
            rotate_left 1
            · (simp only [List.getElem?_toArray, List.getElem?_cons_succ, List.getElem?_cons_zero]; rfl)
            · (go_simp; have HA3n := HA3.out; have HA3 := Lib.hid (own_chg HA3n ((Chg.refl [] W6203).alloc (.cells #[] 3)) (by simp)); clear HA3n; have HE4 := Lib.hid (own_emptyB (w := W6203) (base := w7.heap.size) HC62.out.size); have HC63 := Lib.hid (HC62.out.alloc (.cells #[] 3)); have SZ3 := Lib.hid (size_alloc' W6203 (.cells #[] 3)); generalize W6203.alloc _ = W63034 at *)
              refine hK.out _ _ ?_ (fun hHeld => ?_)
              · exact ⟨(HC63.out.cell (p := ⟨w.heap.size + 1, 0, none⟩) ls (by simp)).trans s0, (HC63.out.cell (p := ⟨w.heap.size + 1, 1, none⟩) ls (by simp)).trans s1⟩
              clear hK K
              try simp only [Act.put, List.setIfInBounds_toArray, List.set_cons_zero, List.set_cons_succ]
              refine wpAnyH_ready (rs := [7]) (by kernel_rfl) (by simp) ?_
              refine AllReadyH.cons (o := ?_) ?_ (fun K hK => ?_) AllReadyH.nil
              rotate_left 1
              · (simp only [List.getElem?_toArray, List.getElem?_cons_succ, List.getElem?_cons_zero]; rfl)
              · (refine step_appI2 (l := []) (m := atL a n 1) rfl (.tmp 31) (.tmp 33) rfl rfl (by simp [Act.eval, Act.put]) HE4.out (by rw [atL_len]) (by simp [Act.eval, Act.put]) ((HV.out.l 1 (by omega)).chg (HC70.out.trans HC63.out) (by simp)) (by simp [atL_len]; have := HNN.out; omega) HC63.out.size ?_; intro v7 W640347 hown hg hal; rw [List.nil_append] at hown; have HA7 := Lib.hid hown; have HAL7 := Lib.hid hal; have CG7 : Hid (Chg [W6203.heap.size] W63034 W640347) := Lib.hid ((Chg.refl [W6203.heap.size] W63034).grown hg (fun k hk => .inl (by simp [Value.ownBlock] at hk; simp; omega))); have SZ4 := Lib.hid CG7.out.size; have HC64 := Lib.hid (HC63.out.grown hg (fun k hk => .inr (by simp [Value.ownBlock] at hk; have := (HE4.out.lt (W6203.heap.size) rfl).1; omega))); have LA7 := Lib.hid (fun k hk => (HA7.out.lt k hk).2 : ∀ k, v7.ownBlock = some k → k < W640347.heap.size); have HA3n := HA3.out; have HA3 := Lib.hid (own_chg HA3n CG7.out (fun k hk => by have ja := HAL3.out; rw [hk] at ja; simp [Value.ownBlock] at ja; have q1 := SZ1.out; have q2 := SZ2.out; have q3 := SZ3.out; have := LA3.out k hk; simp; omega)); clear HA3n; clear hown hg hal)
                refine hK.out _ _ ?_ (fun hHeld => ?_)
                · exact ⟨(HC64.out.cell (p := ⟨w.heap.size + 1, 0, none⟩) ls (by simp)).trans s0, (HC64.out.cell (p := ⟨w.heap.size + 1, 1, none⟩) ls (by simp)).trans s1⟩
                clear hK K
                try simp only [Act.put, List.setIfInBounds_toArray, List.set_cons_zero, List.set_cons_succ]
                obtain ⟨ga, ca, cura, rfl, gea, FA, PA⟩ := own_out HA3.out (by rw [atL_len]; exact HNN.out.1)
                obtain ⟨gb, cb, curb, rfl, geb, FB, PB⟩ := own_out HA7.out (by rw [atL_len]; exact HNN.out.2.2.1)
                have hxa : (Value.slice (some ⟨ga, 0, none⟩) (atL a n 0).length ca).ownBlock = some ga := rfl
                have hxb : (Value.slice (some ⟨gb, 0, none⟩) (atL a n 1).length cb).ownBlock = some gb := rfl
                have hne : ga ≠ gb := by
                  have ja := HAL3.out; have jb := HAL7.out; rw [hxa] at ja; rw [hxb] at jb
                  simp [Value.ownBlock] at ja jb
                  have q1 := SZ1.out; have q2 := SZ2.out; have q3 := SZ3.out; have q4 := SZ4.out; have := heap_lt FA; have := LA3.out ga rfl
                  omega
                have PA' := own_at PA
                have PB' := own_at PB
                rw [atL_len, atL_len]
                have HFA := Lib.hid FA
                have HFB := Lib.hid FB
                have HPA := Lib.hid (And.intro PA' PB')
                have HGE := Lib.hid (And.intro hne (And.intro gea geb))
                clear FA FB PA PB PA' PB' gea geb hne hxa hxb
                refine wpAnyH_take (i := 8) (oi := ?_) (v := ?_) ?_ (by kernel_rfl) (by kernel_rfl) (by kernel_rfl) ?_ (Or.inl ⟨?_, ?_⟩) hHeld ?_
                rotate_left 2
                · (simp only [List.getElem?_toArray, List.getElem?_cons_succ, List.getElem?_cons_zero]; rfl)
                · exact fun _ _ _ h => h
                · rfl
                · (rintro W' ⟨s0, s1⟩; go_simp; first | done | with_reducible rfl)
                try simp only [Act.put, List.setIfInBounds_toArray, List.set_cons_zero, List.set_cons_succ]
                refine wpAnyH_take (i := 9) (oi := ?_) (v := ?_) ?_ (by kernel_rfl) (by kernel_rfl) (by kernel_rfl) ?_ (Or.inl ⟨?_, ?_⟩) hHeld ?_
                rotate_left 2
                · (simp only [List.getElem?_toArray, List.getElem?_cons_succ, List.getElem?_cons_zero]; rfl)
                · exact fun _ _ _ h => h
                · rfl
                · (rintro W' ⟨s0, s1⟩; go_simp; first | done | with_reducible rfl)
                try simp only [Act.put, List.setIfInBounds_toArray, List.set_cons_zero, List.set_cons_succ]
                refine wpAnyH_ready (rs := [10]) (by kernel_rfl) (by simp) ?_
                refine AllReadyH.cons (o := ?_) ?_ (fun K hK => ?_) AllReadyH.nil
                rotate_left 1
                · (simp only [List.getElem?_toArray, List.getElem?_cons_succ, List.getElem?_cons_zero]; rfl)
                · (have hxc := (HC64.out.block _ lX (by simp)).trans HX7.out; have za := cell_of_block hxc 5; have zb := cell_of_block hxc 6; have f4 := frozen_of_block hxc 5; have f5 := frozen_of_block hxc 6; simp only [List.getElem?_toArray, List.getElem?_cons_zero, List.getElem?_cons_succ] at za zb; have GB := Lib.hid (setCell_block (setCell_block hxc 5 (.slice (some ⟨ga, 0, none⟩) (n 0) ca)) 6 (.slice (some ⟨gb, 0, none⟩) (n 1) cb)); have CR : Hid (Chg [w.heap.size + 1 + 1 + 1] W640347 ((W640347.setCell ⟨w.heap.size + 1 + 1 + 1, 5, none⟩ (.slice (some ⟨ga, 0, none⟩) (n 0) ca)).setCell ⟨w.heap.size + 1 + 1 + 1, 6, none⟩ (.slice (some ⟨gb, 0, none⟩) (n 1) cb))) := Lib.hid (((Chg.refl _ _).setCell (.inl (by simp)) _).setCell (.inl (by simp)) _); clear hxc; go_simp)
                  refine hK.out _ _ ?_ (fun hHeld => ?_)
                  · exact ⟨(CR.out.cell (p := ⟨w.heap.size + 1, 0, none⟩) (Nat.lt_of_lt_of_le ls HC64.out.size) (by simp)).trans ((HC64.out.cell (p := ⟨w.heap.size + 1, 0, none⟩) ls (by simp)).trans s0), (CR.out.cell (p := ⟨w.heap.size + 1, 1, none⟩) (Nat.lt_of_lt_of_le ls HC64.out.size) (by simp)).trans ((HC64.out.cell (p := ⟨w.heap.size + 1, 1, none⟩) ls (by simp)).trans s1)⟩
                  clear hK K
                  try simp only [Act.put, List.setIfInBounds_toArray, List.set_cons_zero, List.set_cons_succ]
                  refine wpAnyH_done (by kernel_rfl) ?_ _
                  go_wp2_with fail
                  go_meet
                  exact ⟨ga, ca, gb, cb, cura, curb, GB.out, (CR.out.block _ (heap_lt HFA.out) (by have := HGE.out.2.1; simp; omega)).trans HFA.out, HPA.out.1, (CR.out.block _ (heap_lt HFB.out) (by have := HGE.out.2.2; simp; omega)).trans HFB.out, HPA.out.2, HGE.out.1, HGE.out.2.1, HGE.out.2.2, (HC64.out.mono (by simp)).trans CR.out⟩
          refine AllReadyH.cons (o := ?_) ?_ (fun K hK => ?_) AllReadyH.nil
          rotate_left 1
          · (simp only [List.getElem?_toArray, List.getElem?_cons_succ, List.getElem?_cons_zero]; rfl)
          · (go_simp; have HE0n := HE0.out; have HE0 := Lib.hid (own_chg HE0n ((Chg.refl [] W610).alloc (.cells #[] 3)) (by simp)); clear HE0n; have HE4 := Lib.hid (own_emptyB (w := W610) (base := w7.heap.size) HC61.out.size); have HC62 := Lib.hid (HC61.out.alloc (.cells #[] 3)); have SZ2 := Lib.hid (size_alloc' W610 (.cells #[] 3)); generalize W610.alloc _ = W6204 at *)
            refine hK.out _ _ ?_ (fun hHeld => ?_)
            · exact ⟨(HC62.out.cell (p := ⟨w.heap.size + 1, 0, none⟩) ls (by simp)).trans s0, (HC62.out.cell (p := ⟨w.heap.size + 1, 1, none⟩) ls (by simp)).trans s1⟩
            clear hK K
            try simp only [Act.put, List.setIfInBounds_toArray, List.set_cons_zero, List.set_cons_succ]
            refine wpAnyH_ready (rs := [3]) (by kernel_rfl) (by simp) ?_
            refine AllReadyH.cons (o := ?_) ?_ (fun K hK => ?_) AllReadyH.nil
            rotate_left 1
            · (simp only [List.getElem?_toArray, List.getElem?_cons_succ, List.getElem?_cons_zero]; rfl)
            · (refine step_appI2 (l := []) (m := atL a n 0) rfl (.tmp 27) (.tmp 29) rfl rfl (by simp [Act.eval, Act.put]) HE0.out (by rw [atL_len]) (by simp [Act.eval, Act.put]) ((HV.out.l 0 (by omega)).chg (HC70.out.trans HC62.out) (by simp)) (by simp [atL_len]; have := HNN.out; omega) HC62.out.size ?_; intro v3 W63043 hown hg hal; rw [List.nil_append] at hown; have HA3 := Lib.hid hown; have HAL3 := Lib.hid hal; have CG3 : Hid (Chg [w60.heap.size] W6204 W63043) := Lib.hid ((Chg.refl [w60.heap.size] W6204).grown hg (fun k hk => .inl (by simp [Value.ownBlock] at hk; simp; omega))); have SZ3 := Lib.hid CG3.out.size; have HC63 := Lib.hid (HC62.out.grown hg (fun k hk => .inr (by simp [Value.ownBlock] at hk; have := (HE0.out.lt (w60.heap.size) rfl).1; omega))); have LA3 := Lib.hid (fun k hk => (HA3.out.lt k hk).2 : ∀ k, v3.ownBlock = some k → k < W63043.heap.size); have HE4n := HE4.out; have HE4 := Lib.hid (own_chg HE4n CG3.out (fun k hk => by simp [Value.ownBlock] at hk; have q1 := SZ1.out; have q2 := SZ2.out; simp; omega)); clear HE4n; clear hown hg hal)
              refine hK.out _ _ ?_ (fun hHeld => ?_)
              · exact ⟨(HC63.out.cell (p := ⟨w.heap.size + 1, 0, none⟩) ls (by simp)).trans s0, (HC63.out.cell (p := ⟨w.heap.size + 1, 1, none⟩) ls (by simp)).trans s1⟩
              clear hK K
              try simp only [Act.put, List.setIfInBounds_toArray, List.set_cons_zero, List.set_cons_succ]
              refine wpAnyH_ready (rs := [7]) (by kernel_rfl) (by simp) ?_
              refine AllReadyH.cons (o := ?_) ?_ (fun K hK => ?_) AllReadyH.nil
              rotate_left 1
              · (simp only [List.getElem?_toArray, List.getElem?_cons_succ, List.getElem?_cons_zero]; rfl)
              · (refine step_appI2 (l := []) (m := atL a n 1) rfl (.tmp 31) (.tmp 33) rfl rfl (by simp [Act.eval, Act.put]) HE4.out (by rw [atL_len]) (by simp [Act.eval, Act.put]) ((HV.out.l 1 (by omega)).chg (HC70.out.trans HC63.out) (by simp)) (by simp [atL_len]; have := HNN.out; omega) HC63.out.size ?_; intro v7 W640347 hown hg hal; rw [List.nil_append] at hown; have HA7 := Lib.hid hown; have HAL7 := Lib.hid hal; have CG7 : Hid (Chg [W610.heap.size] W63043 W640347) := Lib.hid ((Chg.refl [W610.heap.size] W63043).grown hg (fun k hk => .inl (by simp [Value.ownBlock] at hk; simp; omega))); have SZ4 := Lib.hid CG7.out.size; have HC64 := Lib.hid (HC63.out.grown hg (fun k hk => .inr (by simp [Value.ownBlock] at hk; have := (HE4.out.lt (W610.heap.size) rfl).1; omega))); have LA7 := Lib.hid (fun k hk => (HA7.out.lt k hk).2 : ∀ k, v7.ownBlock = some k → k < W640347.heap.size); have HA3n := HA3.out; have HA3 := Lib.hid (own_chg HA3n CG7.out (fun k hk => by have ja := HAL3.out; rw [hk] at ja; simp [Value.ownBlock] at ja; have q1 := SZ1.out; have q2 := SZ2.out; have q3 := SZ3.out; have := LA3.out k hk; simp; omega)); clear HA3n; clear hown hg hal)
                refine hK.out _ _ ?_ (fun hHeld => ?_)
                · exact ⟨(HC64.out.cell (p := ⟨w.heap.size + 1, 0, none⟩) ls (by simp)).trans s0, (HC64.out.cell (p := ⟨w.heap.size + 1, 1, none⟩) ls (by simp)).trans s1⟩
                clear hK K
                try simp only [Act.put, List.setIfInBounds_toArray, List.set_cons_zero, List.set_cons_succ]
                obtain ⟨ga, ca, cura, rfl, gea, FA, PA⟩ := own_out HA3.out (by rw [atL_len]; exact HNN.out.1)
                obtain ⟨gb, cb, curb, rfl, geb, FB, PB⟩ := own_out HA7.out (by rw [atL_len]; exact HNN.out.2.2.1)
                have hxa : (Value.slice (some ⟨ga, 0, none⟩) (atL a n 0).length ca).ownBlock = some ga := rfl
                have hxb : (Value.slice (some ⟨gb, 0, none⟩) (atL a n 1).length cb).ownBlock = some gb := rfl
                have hne : ga ≠ gb := by
                  have ja := HAL3.out; have jb := HAL7.out; rw [hxa] at ja; rw [hxb] at jb
                  simp [Value.ownBlock] at ja jb
                  have q1 := SZ1.out; have q2 := SZ2.out; have q3 := SZ3.out; have q4 := SZ4.out; have := heap_lt FA; have := LA3.out ga rfl
                  omega
                have PA' := own_at PA
                have PB' := own_at PB
                rw [atL_len, atL_len]
                have HFA := Lib.hid FA
                have HFB := Lib.hid FB
                have HPA := Lib.hid (And.intro PA' PB')
                have HGE := Lib.hid (And.intro hne (And.intro gea geb))
                clear FA FB PA PB PA' PB' gea geb hne hxa hxb
                refine wpAnyH_take (i := 8) (oi := ?_) (v := ?_) ?_ (by kernel_rfl) (by kernel_rfl) (by kernel_rfl) ?_ (Or.inl ⟨?_, ?_⟩) hHeld ?_
                rotate_left 2
                · (simp only [List.getElem?_toArray, List.getElem?_cons_succ, List.getElem?_cons_zero]; rfl)
                · exact fun _ _ _ h => h
                · rfl
                · (rintro W' ⟨s0, s1⟩; go_simp; first | done | with_reducible rfl)
                try simp only [Act.put, List.setIfInBounds_toArray, List.set_cons_zero, List.set_cons_succ]
                refine wpAnyH_take (i := 9) (oi := ?_) (v := ?_) ?_ (by kernel_rfl) (by kernel_rfl) (by kernel_rfl) ?_ (Or.inl ⟨?_, ?_⟩) hHeld ?_
                rotate_left 2
                · (simp only [List.getElem?_toArray, List.getElem?_cons_succ, List.getElem?_cons_zero]; rfl)
                · exact fun _ _ _ h => h
                · rfl
                · (rintro W' ⟨s0, s1⟩; go_simp; first | done | with_reducible rfl)
                try simp only [Act.put, List.setIfInBounds_toArray, List.set_cons_zero, List.set_cons_succ]
                refine wpAnyH_ready (rs := [10]) (by kernel_rfl) (by simp) ?_
                refine AllReadyH.cons (o := ?_) ?_ (fun K hK => ?_) AllReadyH.nil
                rotate_left 1
                · (simp only [List.getElem?_toArray, List.getElem?_cons_succ, List.getElem?_cons_zero]; rfl)
                · (have hxc := (HC64.out.block _ lX (by simp)).trans HX7.out; have za := cell_of_block hxc 5; have zb := cell_of_block hxc 6; have f4 := frozen_of_block hxc 5; have f5 := frozen_of_block hxc 6; simp only [List.getElem?_toArray, List.getElem?_cons_zero, List.getElem?_cons_succ] at za zb; have GB := Lib.hid (setCell_block (setCell_block hxc 5 (.slice (some ⟨ga, 0, none⟩) (n 0) ca)) 6 (.slice (some ⟨gb, 0, none⟩) (n 1) cb)); have CR : Hid (Chg [w.heap.size + 1 + 1 + 1] W640347 ((W640347.setCell ⟨w.heap.size + 1 + 1 + 1, 5, none⟩ (.slice (some ⟨ga, 0, none⟩) (n 0) ca)).setCell ⟨w.heap.size + 1 + 1 + 1, 6, none⟩ (.slice (some ⟨gb, 0, none⟩) (n 1) cb))) := Lib.hid (((Chg.refl _ _).setCell (.inl (by simp)) _).setCell (.inl (by simp)) _); clear hxc; go_simp)
                  refine hK.out _ _ ?_ (fun hHeld => ?_)
                  · exact ⟨(CR.out.cell (p := ⟨w.heap.size + 1, 0, none⟩) (Nat.lt_of_lt_of_le ls HC64.out.size) (by simp)).trans ((HC64.out.cell (p := ⟨w.heap.size + 1, 0, none⟩) ls (by simp)).trans s0), (CR.out.cell (p := ⟨w.heap.size + 1, 1, none⟩) (Nat.lt_of_lt_of_le ls HC64.out.size) (by simp)).trans ((HC64.out.cell (p := ⟨w.heap.size + 1, 1, none⟩) ls (by simp)).trans s1)⟩
                  clear hK K
                  try simp only [Act.put, List.setIfInBounds_toArray, List.set_cons_zero, List.set_cons_succ]
                  refine wpAnyH_done (by kernel_rfl) ?_ _
                  go_wp2_with fail
                  go_meet
                  exact ⟨ga, ca, gb, cb, cura, curb, GB.out, (CR.out.block _ (heap_lt HFA.out) (by have := HGE.out.2.1; simp; omega)).trans HFA.out, HPA.out.1, (CR.out.block _ (heap_lt HFB.out) (by have := HGE.out.2.2; simp; omega)).trans HFB.out, HPA.out.2, HGE.out.1, HGE.out.2.1, HGE.out.2.2, (HC64.out.mono (by simp)).trans CR.out⟩
        refine AllReadyH.cons (o := ?_) ?_ (fun K hK => ?_) AllReadyH.nil
        rotate_left 1
        · (simp only [List.getElem?_toArray, List.getElem?_cons_succ, List.getElem?_cons_zero]; rfl)
        · (go_simp; have HE4 := Lib.hid (own_emptyB (w := w60) (base := w7.heap.size) HC60.out.size); have HC61 := Lib.hid (HC60.out.alloc (.cells #[] 3)); have SZ1 := Lib.hid (size_alloc' w60 (.cells #[] 3)); generalize w60.alloc _ = W614 at *)
          refine hK.out _ _ ?_ (fun hHeld => ?_)
          · exact ⟨(HC61.out.cell (p := ⟨w.heap.size + 1, 0, none⟩) ls (by simp)).trans s0, (HC61.out.cell (p := ⟨w.heap.size + 1, 1, none⟩) ls (by simp)).trans s1⟩
          clear hK K
          try simp only [Act.put, List.setIfInBounds_toArray, List.set_cons_zero, List.set_cons_succ]
          refine wpAnyH_ready (rs := [0]) (by kernel_rfl) (by simp) ?_
          refine AllReadyH.cons (o := ?_) ?_ (fun K hK => ?_) AllReadyH.nil
          rotate_left 1
          · (simp only [List.getElem?_toArray, List.getElem?_cons_succ, List.getElem?_cons_zero]; rfl)
          · (go_simp; have HE4n := HE4.out; have HE4 := Lib.hid (own_chg HE4n ((Chg.refl [] W614).alloc (.cells #[] 3)) (by simp)); clear HE4n; have HE0 := Lib.hid (own_emptyB (w := W614) (base := w7.heap.size) HC61.out.size); have HC62 := Lib.hid (HC61.out.alloc (.cells #[] 3)); have SZ2 := Lib.hid (size_alloc' W614 (.cells #[] 3)); generalize W614.alloc _ = W6240 at *)
            refine hK.out _ _ ?_ (fun hHeld => ?_)
            · exact ⟨(HC62.out.cell (p := ⟨w.heap.size + 1, 0, none⟩) ls (by simp)).trans s0, (HC62.out.cell (p := ⟨w.heap.size + 1, 1, none⟩) ls (by simp)).trans s1⟩
            clear hK K
            try simp only [Act.put, List.setIfInBounds_toArray, List.set_cons_zero, List.set_cons_succ]
            refine wpAnyH_ready (rs := [3]) (by kernel_rfl) (by simp) ?_
            refine AllReadyH.cons (o := ?_) ?_ (fun K hK => ?_) AllReadyH.nil
            rotate_left 1
            · (simp only [List.getElem?_toArray, List.getElem?_cons_succ, List.getElem?_cons_zero]; rfl)
            · (refine step_appI2 (l := []) (m := atL a n 0) rfl (.tmp 27) (.tmp 29) rfl rfl (by simp [Act.eval, Act.put]) HE0.out (by rw [atL_len]) (by simp [Act.eval, Act.put]) ((HV.out.l 0 (by omega)).chg (HC70.out.trans HC62.out) (by simp)) (by simp [atL_len]; have := HNN.out; omega) HC62.out.size ?_; intro v3 W63043 hown hg hal; rw [List.nil_append] at hown; have HA3 := Lib.hid hown; have HAL3 := Lib.hid hal; have CG3 : Hid (Chg [W614.heap.size] W6240 W63043) := Lib.hid ((Chg.refl [W614.heap.size] W6240).grown hg (fun k hk => .inl (by simp [Value.ownBlock] at hk; simp; omega))); have SZ3 := Lib.hid CG3.out.size; have HC63 := Lib.hid (HC62.out.grown hg (fun k hk => .inr (by simp [Value.ownBlock] at hk; have := (HE0.out.lt (W614.heap.size) rfl).1; omega))); have LA3 := Lib.hid (fun k hk => (HA3.out.lt k hk).2 : ∀ k, v3.ownBlock = some k → k < W63043.heap.size); have HE4n := HE4.out; have HE4 := Lib.hid (own_chg HE4n CG3.out (fun k hk => by simp [Value.ownBlock] at hk; have q1 := SZ1.out; have q2 := SZ2.out; simp; omega)); clear HE4n; clear hown hg hal)
              refine hK.out _ _ ?_ (fun hHeld => ?_)
              · exact ⟨(HC63.out.cell (p := ⟨w.heap.size + 1, 0, none⟩) ls (by simp)).trans s0, (HC63.out.cell (p := ⟨w.heap.size + 1, 1, none⟩) ls (by simp)).trans s1⟩
              clear hK K
              try simp only [Act.put, List.setIfInBounds_toArray, List.set_cons_zero, List.set_cons_succ]
              refine wpAnyH_ready (rs := [7]) (by kernel_rfl) (by simp) ?_
              refine AllReadyH.cons (o := ?_) ?_ (fun K hK => ?_) AllReadyH.nil
              rotate_left 1
              · (simp only [List.getElem?_toArray, List.getElem?_cons_succ, List.getElem?_cons_zero]; rfl)
              · (refine step_appI2 (l := []) (m := atL a n 1) rfl (.tmp 31) (.tmp 33) rfl rfl (by simp [Act.eval, Act.put]) HE4.out (by rw [atL_len]) (by simp [Act.eval, Act.put]) ((HV.out.l 1 (by omega)).chg (HC70.out.trans HC63.out) (by simp)) (by simp [atL_len]; have := HNN.out; omega) HC63.out.size ?_; intro v7 W640347 hown hg hal; rw [List.nil_append] at hown; have HA7 := Lib.hid hown; have HAL7 := Lib.hid hal; have CG7 : Hid (Chg [w60.heap.size] W63043 W640347) := Lib.hid ((Chg.refl [w60.heap.size] W63043).grown hg (fun k hk => .inl (by simp [Value.ownBlock] at hk; simp; omega))); have SZ4 := Lib.hid CG7.out.size; have HC64 := Lib.hid (HC63.out.grown hg (fun k hk => .inr (by simp [Value.ownBlock] at hk; have := (HE4.out.lt (w60.heap.size) rfl).1; omega))); have LA7 := Lib.hid (fun k hk => (HA7.out.lt k hk).2 : ∀ k, v7.ownBlock = some k → k < W640347.heap.size); have HA3n := HA3.out; have HA3 := Lib.hid (own_chg HA3n CG7.out (fun k hk => by have ja := HAL3.out; rw [hk] at ja; simp [Value.ownBlock] at ja; have q1 := SZ1.out; have q2 := SZ2.out; have q3 := SZ3.out; have := LA3.out k hk; simp; omega)); clear HA3n; clear hown hg hal)
                refine hK.out _ _ ?_ (fun hHeld => ?_)
                · exact ⟨(HC64.out.cell (p := ⟨w.heap.size + 1, 0, none⟩) ls (by simp)).trans s0, (HC64.out.cell (p := ⟨w.heap.size + 1, 1, none⟩) ls (by simp)).trans s1⟩
                clear hK K
                try simp only [Act.put, List.setIfInBounds_toArray, List.set_cons_zero, List.set_cons_succ]
                obtain ⟨ga, ca, cura, rfl, gea, FA, PA⟩ := own_out HA3.out (by rw [atL_len]; exact HNN.out.1)
                obtain ⟨gb, cb, curb, rfl, geb, FB, PB⟩ := own_out HA7.out (by rw [atL_len]; exact HNN.out.2.2.1)
                have hxa : (Value.slice (some ⟨ga, 0, none⟩) (atL a n 0).length ca).ownBlock = some ga := rfl
                have hxb : (Value.slice (some ⟨gb, 0, none⟩) (atL a n 1).length cb).ownBlock = some gb := rfl
                have hne : ga ≠ gb := by
                  have ja := HAL3.out; have jb := HAL7.out; rw [hxa] at ja; rw [hxb] at jb
                  simp [Value.ownBlock] at ja jb
                  have q1 := SZ1.out; have q2 := SZ2.out; have q3 := SZ3.out; have q4 := SZ4.out; have := heap_lt FA; have := LA3.out ga rfl
                  omega
                have PA' := own_at PA
                have PB' := own_at PB
                rw [atL_len, atL_len]
                have HFA := Lib.hid FA
                have HFB := Lib.hid FB
                have HPA := Lib.hid (And.intro PA' PB')
                have HGE := Lib.hid (And.intro hne (And.intro gea geb))
                clear FA FB PA PB PA' PB' gea geb hne hxa hxb
                refine wpAnyH_take (i := 8) (oi := ?_) (v := ?_) ?_ (by kernel_rfl) (by kernel_rfl) (by kernel_rfl) ?_ (Or.inl ⟨?_, ?_⟩) hHeld ?_
                rotate_left 2
                · (simp only [List.getElem?_toArray, List.getElem?_cons_succ, List.getElem?_cons_zero]; rfl)
                · exact fun _ _ _ h => h
                · rfl
                · (rintro W' ⟨s0, s1⟩; go_simp; first | done | with_reducible rfl)
                try simp only [Act.put, List.setIfInBounds_toArray, List.set_cons_zero, List.set_cons_succ]
                refine wpAnyH_take (i := 9) (oi := ?_) (v := ?_) ?_ (by kernel_rfl) (by kernel_rfl) (by kernel_rfl) ?_ (Or.inl ⟨?_, ?_⟩) hHeld ?_
                rotate_left 2
                · (simp only [List.getElem?_toArray, List.getElem?_cons_succ, List.getElem?_cons_zero]; rfl)
                · exact fun _ _ _ h => h
                · rfl
                · (rintro W' ⟨s0, s1⟩; go_simp; first | done | with_reducible rfl)
                try simp only [Act.put, List.setIfInBounds_toArray, List.set_cons_zero, List.set_cons_succ]
                refine wpAnyH_ready (rs := [10]) (by kernel_rfl) (by simp) ?_
                refine AllReadyH.cons (o := ?_) ?_ (fun K hK => ?_) AllReadyH.nil
                rotate_left 1
                · (simp only [List.getElem?_toArray, List.getElem?_cons_succ, List.getElem?_cons_zero]; rfl)
                · (have hxc := (HC64.out.block _ lX (by simp)).trans HX7.out; have za := cell_of_block hxc 5; have zb := cell_of_block hxc 6; have f4 := frozen_of_block hxc 5; have f5 := frozen_of_block hxc 6; simp only [List.getElem?_toArray, List.getElem?_cons_zero, List.getElem?_cons_succ] at za zb; have GB := Lib.hid (setCell_block (setCell_block hxc 5 (.slice (some ⟨ga, 0, none⟩) (n 0) ca)) 6 (.slice (some ⟨gb, 0, none⟩) (n 1) cb)); have CR : Hid (Chg [w.heap.size + 1 + 1 + 1] W640347 ((W640347.setCell ⟨w.heap.size + 1 + 1 + 1, 5, none⟩ (.slice (some ⟨ga, 0, none⟩) (n 0) ca)).setCell ⟨w.heap.size + 1 + 1 + 1, 6, none⟩ (.slice (some ⟨gb, 0, none⟩) (n 1) cb))) := Lib.hid (((Chg.refl _ _).setCell (.inl (by simp)) _).setCell (.inl (by simp)) _); clear hxc; go_simp)
                  refine hK.out _ _ ?_ (fun hHeld => ?_)
                  · exact ⟨(CR.out.cell (p := ⟨w.heap.size + 1, 0, none⟩) (Nat.lt_of_lt_of_le ls HC64.out.size) (by simp)).trans ((HC64.out.cell (p := ⟨w.heap.size + 1, 0, none⟩) ls (by simp)).trans s0), (CR.out.cell (p := ⟨w.heap.size + 1, 1, none⟩) (Nat.lt_of_lt_of_le ls HC64.out.size) (by simp)).trans ((HC64.out.cell (p := ⟨w.heap.size + 1, 1, none⟩) ls (by simp)).trans s1)⟩
                  clear hK K
                  try simp only [Act.put, List.setIfInBounds_toArray, List.set_cons_zero, List.set_cons_succ]
                  refine wpAnyH_done (by kernel_rfl) ?_ _
                  go_wp2_with fail
                  go_meet
                  exact ⟨ga, ca, gb, cb, cura, curb, GB.out, (CR.out.block _ (heap_lt HFA.out) (by have := HGE.out.2.1; simp; omega)).trans HFA.out, HPA.out.1, (CR.out.block _ (heap_lt HFB.out) (by have := HGE.out.2.2; simp; omega)).trans HFB.out, HPA.out.2, HGE.out.1, HGE.out.2.1, HGE.out.2.2, (HC64.out.mono (by simp)).trans CR.out⟩
      case rest =>
        obtain ⟨ga, ca, gb, cb, cura, curb, hX, hga, hpa, hgb, hpb, hnab, gea, geb, hC⟩ := hcut.out
        clear hcut s0 s1
        have HX8 := Lib.hid hX
        have HGA := Lib.hid (And.intro hga (And.intro hpa (And.intro hgb hpb)))
        have HNE := Lib.hid (And.intro hnab (And.intro gea geb))
        have HC8 := Lib.hid hC
        have lsw : w.heap.size + 1 < wc.heap.size := Nat.lt_of_lt_of_le ls hC.size
        have HS8 := Lib.hid ((hC.block _ ls (by simp)).trans HS7.out)
        have hs8 := HS8.out
        have s0 := cell_of_block hs8 0
        have s1 := cell_of_block hs8 1
        simp only [List.getElem?_toArray, List.getElem?_cons_zero, List.getElem?_cons_succ] at s0 s1
        have lX8 := heap_lt hX
        clear hX hga hpa hgb hpb hnab gea geb hC hs8
        have mk0 := run_make1 (P := Try.prog) 55 4 Try.underlying55 infoBool rfl .i64 .i64 (n 0) (by have := HNN.out; omega) (by have := HNN.out; omega)
        have mk1 := run_make1 (P := Try.prog) 55 4 Try.underlying55 infoBool rfl .i64 .i64 (n 1) (by have := HNN.out; omega) (by have := HNN.out; omega)
        go_upto_region 7 with fail
        go_cut [] (fun wz => Hid (∃ (ha hb : Nat), wz.heap[w.heap.size + 1 + 1 + 1]? = some (.cells #[.slice (some ⟨g1, 0, none⟩) T.n c1, .slice (some ⟨g2, 0, none⟩) T.n c2, .int .i64 (K.first : Int), .int .i64 (K.next : Int), .int .i64 (K.asked : Int), .slice (some ⟨ga, 0, none⟩) (n 0) ca, .slice (some ⟨gb, 0, none⟩) (n 1) cb, .slice (some ⟨ha, 0, none⟩) (n 0) (n 0), .slice (some ⟨hb, 0, none⟩) (n 1) (n 1)] 57 (0, 0)) ∧ wz.heap[ha]? = some (.cells (zrow (n 0) (.bool false)) 4 (0, 0)) ∧ wz.heap[hb]? = some (.cells (zrow (n 1) (.bool false)) 4 (0, 0)) ∧ ha ≠ hb ∧ wc.heap.size ≤ ha ∧ wc.heap.size ≤ hb ∧ Chg [w.heap.size + 1 + 1 + 1] wc wz))
        case first =>
          have HD0 : Hid (Chg [w.heap.size + 1 + 1 + 1] wc wc.drew) := Lib.hid ((Chg.refl _ wc).drew)
          have XF0 := Lib.hid (show wc.drew.heap[w.heap.size + 1 + 1 + 1]? = _ from HX8.out)
          refine wp_region_held_drew (S := fun W' => W'.cell? ⟨w.heap.size + 1, 0, none⟩ = some (.slice (some ⟨g 0, 0, none⟩) (n 0) (c 0)) ∧ W'.cell? ⟨w.heap.size + 1, 1, none⟩ = some (.slice (some ⟨g 1, 0, none⟩) (n 1) (c 1))) (by kernel_rfl) (by exact ⟨s0, s1⟩) (fun hHeld => ?_)
          refine wpAnyH_take (i := 0) (oi := ?_) (v := ?_) ?_ (by kernel_rfl) (by kernel_rfl) (by kernel_rfl) ?_ (Or.inl ⟨?_, ?_⟩) hHeld ?_
          rotate_left 2
          · (simp only [List.getElem?_toArray, List.getElem?_cons_succ, List.getElem?_cons_zero]; rfl)
          · exact fun _ _ _ h => h
          · rfl
          · (rintro W' ⟨s0, s1⟩; go_simp; first | done | with_reducible rfl)
          try simp only [Act.put, List.setIfInBounds_toArray, List.set_cons_zero, List.set_cons_succ]
          refine wpAnyH_take (i := 1) (oi := ?_) (v := ?_) ?_ (by kernel_rfl) (by kernel_rfl) (by kernel_rfl) ?_ (Or.inl ⟨?_, ?_⟩) hHeld ?_
          rotate_left 2
          · (simp only [List.getElem?_toArray, List.getElem?_cons_succ, List.getElem?_cons_zero]; rfl)
          · exact fun _ _ _ h => h
          · rfl
          · (rintro W' ⟨s0, s1⟩; go_simp; first | done | with_reducible rfl)
          try simp only [Act.put, List.setIfInBounds_toArray, List.set_cons_zero, List.set_cons_succ]
          refine wpAnyH_take (i := 2) (oi := ?_) (v := ?_) ?_ (by kernel_rfl) (by kernel_rfl) (by kernel_rfl) ?_ (Or.inl ⟨?_, ?_⟩) hHeld ?_
          rotate_left 2
          · (simp only [List.getElem?_toArray, List.getElem?_cons_succ, List.getElem?_cons_zero]; rfl)
          · exact fun _ _ _ h => h
          · rfl
          · (rintro W' ⟨s0, s1⟩; go_simp; first | done | with_reducible rfl)
          try simp only [Act.put, List.setIfInBounds_toArray, List.set_cons_zero, List.set_cons_succ]
          refine wpAnyH_take (i := 4) (oi := ?_) (v := ?_) ?_ (by kernel_rfl) (by kernel_rfl) (by kernel_rfl) ?_ (Or.inl ⟨?_, ?_⟩) hHeld ?_
          rotate_left 2
          · (simp only [List.getElem?_toArray, List.getElem?_cons_succ, List.getElem?_cons_zero]; rfl)
          · exact fun _ _ _ h => h
          · rfl
          · (rintro W' ⟨s0, s1⟩; go_simp; first | done | with_reducible rfl)
          try simp only [Act.put, List.setIfInBounds_toArray, List.set_cons_zero, List.set_cons_succ]
          refine wpAnyH_take (i := 5) (oi := ?_) (v := ?_) ?_ (by kernel_rfl) (by kernel_rfl) (by kernel_rfl) ?_ (Or.inl ⟨?_, ?_⟩) hHeld ?_
          rotate_left 2
          · (simp only [List.getElem?_toArray, List.getElem?_cons_succ, List.getElem?_cons_zero]; rfl)
          · exact fun _ _ _ h => h
          · rfl
          · (rintro W' ⟨s0, s1⟩; go_simp; first | done | with_reducible rfl)
          try simp only [Act.put, List.setIfInBounds_toArray, List.set_cons_zero, List.set_cons_succ]
          refine wpAnyH_take (i := 6) (oi := ?_) (v := ?_) ?_ (by kernel_rfl) (by kernel_rfl) (by kernel_rfl) ?_ (Or.inl ⟨?_, ?_⟩) hHeld ?_
          rotate_left 2
          · (simp only [List.getElem?_toArray, List.getElem?_cons_succ, List.getElem?_cons_zero]; rfl)
          · exact fun _ _ _ h => h
          · rfl
          · (rintro W' ⟨s0, s1⟩; go_simp; first | done | with_reducible rfl)
          try simp only [Act.put, List.setIfInBounds_toArray, List.set_cons_zero, List.set_cons_succ]
          generalize wc.drew = w8 at *
          refine wpAnyH_ready (rs := [3, 7]) (by kernel_rfl) (by simp) ?_
          refine AllReadyH.cons (o := ?_) ?_ (fun K hK => ?_) ?_
          rotate_left 1
          · (simp only [List.getElem?_toArray, List.getElem?_cons_succ, List.getElem?_cons_zero]; rfl)
          · (go_simp; have FB3 := Lib.hid (new_block w8 (.cells (zrow (n 0) (.bool false)) 4)); have HD1 := Lib.hid (HD0.out.alloc (.cells (zrow (n 0) (.bool false)) 4)); have XF1 := Lib.hid ((((Chg.refl [] w8).alloc (.cells (zrow (n 0) (.bool false)) 4)).block _ (heap_lt XF0.out) (by simp)).trans XF0.out); have SZ1 := Lib.hid (size_alloc' w8 (.cells (zrow (n 0) (.bool false)) 4)); generalize w8.alloc _ = V3 at *)
            refine hK.out _ _ ?_ (fun hHeld => ?_)
            · exact ⟨(HD1.out.cell (p := ⟨w.heap.size + 1, 0, none⟩) lsw (by simp)).trans s0, (HD1.out.cell (p := ⟨w.heap.size + 1, 1, none⟩) lsw (by simp)).trans s1⟩
            clear hK K
            try simp only [Act.put, List.setIfInBounds_toArray, List.set_cons_zero, List.set_cons_succ]
            refine wpAnyH_take (i := 8) (oi := ?_) (v := ?_) ?_ (by kernel_rfl) (by kernel_rfl) (by kernel_rfl) ?_ (Or.inl ⟨?_, ?_⟩) hHeld ?_
            rotate_left 2
            · (simp only [List.getElem?_toArray, List.getElem?_cons_succ, List.getElem?_cons_zero]; rfl)
            · exact fun _ _ _ h => h
            · rfl
            · (rintro W' ⟨s0, s1⟩; go_simp; first | done | with_reducible rfl)
            try simp only [Act.put, List.setIfInBounds_toArray, List.set_cons_zero, List.set_cons_succ]
            refine wpAnyH_ready (rs := [7, 9]) (by kernel_rfl) (by simp) ?_
            refine AllReadyH.cons (o := ?_) ?_ (fun K hK => ?_) ?_
            rotate_left 1
            · (simp only [List.getElem?_toArray, List.getElem?_cons_succ, List.getElem?_cons_zero]; rfl)
            · (go_simp; have FB3n := FB3.out; have FB3 := Lib.hid ((((Chg.refl [] V3).alloc (.cells (zrow (n 1) (.bool false)) 4)).block _ (heap_lt FB3n) (by simp)).trans FB3n); clear FB3n; have FB7 := Lib.hid (new_block V3 (.cells (zrow (n 1) (.bool false)) 4)); have HD2 := Lib.hid (HD1.out.alloc (.cells (zrow (n 1) (.bool false)) 4)); have XF2 := Lib.hid ((((Chg.refl [] V3).alloc (.cells (zrow (n 1) (.bool false)) 4)).block _ (heap_lt XF1.out) (by simp)).trans XF1.out); have SZ2 := Lib.hid (size_alloc' V3 (.cells (zrow (n 1) (.bool false)) 4)); generalize V3.alloc _ = V37 at *)
              refine hK.out _ _ ?_ (fun hHeld => ?_)
              · exact ⟨(HD2.out.cell (p := ⟨w.heap.size + 1, 0, none⟩) lsw (by simp)).trans s0, (HD2.out.cell (p := ⟨w.heap.size + 1, 1, none⟩) lsw (by simp)).trans s1⟩
              clear hK K
              try simp only [Act.put, List.setIfInBounds_toArray, List.set_cons_zero, List.set_cons_succ]
              refine wpAnyH_ready (rs := [9]) (by kernel_rfl) (by simp) ?_
              refine AllReadyH.cons (o := ?_) ?_ (fun K hK => ?_) AllReadyH.nil
              rotate_left 1
              · (simp only [List.getElem?_toArray, List.getElem?_cons_succ, List.getElem?_cons_zero]; rfl)
              · (have hxc := XF2.out; have za := cell_of_block hxc 7; have f4 := frozen_of_block hxc 7; simp only [List.getElem?_toArray, List.getElem?_cons_zero, List.getElem?_cons_succ] at za; have hxd := setCell_block hxc 7 (.slice (some ⟨w8.heap.size, 0, none⟩) (n 0) (n 0)); simp only [List.setIfInBounds_toArray, List.set_cons_zero, List.set_cons_succ] at hxd; have XF3 := Lib.hid hxd; have CR3 : Hid (Chg [w.heap.size + 1 + 1 + 1] V37 (V37.setCell ⟨w.heap.size + 1 + 1 + 1, 7, none⟩ (.slice (some ⟨w8.heap.size, 0, none⟩) (n 0) (n 0)))) := Lib.hid ((Chg.refl _ _).setCell (.inl (by simp)) _); have FB3n := FB3.out; have FB3 := Lib.hid ((CR3.out.block _ (heap_lt FB3n) (by have q0 := HD0.out.size; have q1 := SZ1.out; have q2 := SZ2.out; simp; omega)).trans FB3n); clear FB3n; have FB7n := FB7.out; have FB7 := Lib.hid ((CR3.out.block _ (heap_lt FB7n) (by have q0 := HD0.out.size; have q1 := SZ1.out; have q2 := SZ2.out; simp; omega)).trans FB7n); clear FB7n; have HD3 := Lib.hid (HD2.out.trans CR3.out); have SZ3 := Lib.hid (size_setCell' V37 ⟨w.heap.size + 1 + 1 + 1, 7, none⟩ (.slice (some ⟨w8.heap.size, 0, none⟩) (n 0) (n 0))); clear hxc hxd; go_simp; clear za f4; generalize V37.setCell _ _ = V379 at *)
                refine hK.out _ _ ?_ (fun hHeld => ?_)
                · exact ⟨(HD3.out.cell (p := ⟨w.heap.size + 1, 0, none⟩) lsw (by simp)).trans s0, (HD3.out.cell (p := ⟨w.heap.size + 1, 1, none⟩) lsw (by simp)).trans s1⟩
                clear hK K
                try simp only [Act.put, List.setIfInBounds_toArray, List.set_cons_zero, List.set_cons_succ]
                refine wpAnyH_take (i := 10) (oi := ?_) (v := ?_) ?_ (by kernel_rfl) (by kernel_rfl) (by kernel_rfl) ?_ (Or.inl ⟨?_, ?_⟩) hHeld ?_
                rotate_left 2
                · (simp only [List.getElem?_toArray, List.getElem?_cons_succ, List.getElem?_cons_zero]; rfl)
                · exact fun _ _ _ h => h
                · rfl
                · (rintro W' ⟨s0, s1⟩; go_simp; first | done | with_reducible rfl)
                try simp only [Act.put, List.setIfInBounds_toArray, List.set_cons_zero, List.set_cons_succ]
                refine wpAnyH_ready (rs := [11]) (by kernel_rfl) (by simp) ?_
                refine AllReadyH.cons (o := ?_) ?_ (fun K hK => ?_) AllReadyH.nil
                rotate_left 1
                · (simp only [List.getElem?_toArray, List.getElem?_cons_succ, List.getElem?_cons_zero]; rfl)
                · (have hxc := XF3.out; have za := cell_of_block hxc 8; have f4 := frozen_of_block hxc 8; simp only [List.getElem?_toArray, List.getElem?_cons_zero, List.getElem?_cons_succ] at za; have hxd := setCell_block hxc 8 (.slice (some ⟨V3.heap.size, 0, none⟩) (n 1) (n 1)); simp only [List.setIfInBounds_toArray, List.set_cons_zero, List.set_cons_succ] at hxd; have XF4 := Lib.hid hxd; have CR4 : Hid (Chg [w.heap.size + 1 + 1 + 1] V379 (V379.setCell ⟨w.heap.size + 1 + 1 + 1, 8, none⟩ (.slice (some ⟨V3.heap.size, 0, none⟩) (n 1) (n 1)))) := Lib.hid ((Chg.refl _ _).setCell (.inl (by simp)) _); have FB3n := FB3.out; have FB3 := Lib.hid ((CR4.out.block _ (heap_lt FB3n) (by have q0 := HD0.out.size; have q1 := SZ1.out; have q2 := SZ2.out; have q3 := SZ3.out; simp; omega)).trans FB3n); clear FB3n; have FB7n := FB7.out; have FB7 := Lib.hid ((CR4.out.block _ (heap_lt FB7n) (by have q0 := HD0.out.size; have q1 := SZ1.out; have q2 := SZ2.out; have q3 := SZ3.out; simp; omega)).trans FB7n); clear FB7n; have HD4 := Lib.hid (HD3.out.trans CR4.out); have SZ4 := Lib.hid (size_setCell' V379 ⟨w.heap.size + 1 + 1 + 1, 8, none⟩ (.slice (some ⟨V3.heap.size, 0, none⟩) (n 1) (n 1))); clear hxc hxd; go_simp; clear za f4; generalize V379.setCell _ _ = V37911 at *)
                  refine hK.out _ _ ?_ (fun hHeld => ?_)
                  · exact ⟨(HD4.out.cell (p := ⟨w.heap.size + 1, 0, none⟩) lsw (by simp)).trans s0, (HD4.out.cell (p := ⟨w.heap.size + 1, 1, none⟩) lsw (by simp)).trans s1⟩
                  clear hK K
                  try simp only [Act.put, List.setIfInBounds_toArray, List.set_cons_zero, List.set_cons_succ]
                  refine wpAnyH_done (by kernel_rfl) ?_ _
                  go_wp2_with fail
                  go_meet
                  exact ⟨w8.heap.size, V3.heap.size, XF4.out, FB3.out, FB7.out, by have q1 := SZ1.out; have q2 := SZ2.out; have q3 := SZ3.out; have q4 := SZ4.out; omega, by have q0 := HD0.out.size; have q1 := SZ1.out; have q2 := SZ2.out; have q3 := SZ3.out; have q4 := SZ4.out; omega, by have q0 := HD0.out.size; have q1 := SZ1.out; have q2 := SZ2.out; have q3 := SZ3.out; have q4 := SZ4.out; omega, HD4.out⟩
            refine AllReadyH.cons (o := ?_) ?_ (fun K hK => ?_) AllReadyH.nil
            rotate_left 1
            · (simp only [List.getElem?_toArray, List.getElem?_cons_succ, List.getElem?_cons_zero]; rfl)
            · (have hxc := XF1.out; have za := cell_of_block hxc 7; have f4 := frozen_of_block hxc 7; simp only [List.getElem?_toArray, List.getElem?_cons_zero, List.getElem?_cons_succ] at za; have hxd := setCell_block hxc 7 (.slice (some ⟨w8.heap.size, 0, none⟩) (n 0) (n 0)); simp only [List.setIfInBounds_toArray, List.set_cons_zero, List.set_cons_succ] at hxd; have XF2 := Lib.hid hxd; have CR2 : Hid (Chg [w.heap.size + 1 + 1 + 1] V3 (V3.setCell ⟨w.heap.size + 1 + 1 + 1, 7, none⟩ (.slice (some ⟨w8.heap.size, 0, none⟩) (n 0) (n 0)))) := Lib.hid ((Chg.refl _ _).setCell (.inl (by simp)) _); have FB3n := FB3.out; have FB3 := Lib.hid ((CR2.out.block _ (heap_lt FB3n) (by have q0 := HD0.out.size; have q1 := SZ1.out; simp; omega)).trans FB3n); clear FB3n; have HD2 := Lib.hid (HD1.out.trans CR2.out); have SZ2 := Lib.hid (size_setCell' V3 ⟨w.heap.size + 1 + 1 + 1, 7, none⟩ (.slice (some ⟨w8.heap.size, 0, none⟩) (n 0) (n 0))); clear hxc hxd; go_simp; clear za f4; generalize V3.setCell _ _ = V39 at *)
              refine hK.out _ _ ?_ (fun hHeld => ?_)
              · exact ⟨(HD2.out.cell (p := ⟨w.heap.size + 1, 0, none⟩) lsw (by simp)).trans s0, (HD2.out.cell (p := ⟨w.heap.size + 1, 1, none⟩) lsw (by simp)).trans s1⟩
              clear hK K
              try simp only [Act.put, List.setIfInBounds_toArray, List.set_cons_zero, List.set_cons_succ]
              refine wpAnyH_ready (rs := [7]) (by kernel_rfl) (by simp) ?_
              refine AllReadyH.cons (o := ?_) ?_ (fun K hK => ?_) AllReadyH.nil
              rotate_left 1
              · (simp only [List.getElem?_toArray, List.getElem?_cons_succ, List.getElem?_cons_zero]; rfl)
              · (go_simp; have FB3n := FB3.out; have FB3 := Lib.hid ((((Chg.refl [] V39).alloc (.cells (zrow (n 1) (.bool false)) 4)).block _ (heap_lt FB3n) (by simp)).trans FB3n); clear FB3n; have FB7 := Lib.hid (new_block V39 (.cells (zrow (n 1) (.bool false)) 4)); have HD3 := Lib.hid (HD2.out.alloc (.cells (zrow (n 1) (.bool false)) 4)); have XF3 := Lib.hid ((((Chg.refl [] V39).alloc (.cells (zrow (n 1) (.bool false)) 4)).block _ (heap_lt XF2.out) (by simp)).trans XF2.out); have SZ3 := Lib.hid (size_alloc' V39 (.cells (zrow (n 1) (.bool false)) 4)); generalize V39.alloc _ = V397 at *)
                refine hK.out _ _ ?_ (fun hHeld => ?_)
                · exact ⟨(HD3.out.cell (p := ⟨w.heap.size + 1, 0, none⟩) lsw (by simp)).trans s0, (HD3.out.cell (p := ⟨w.heap.size + 1, 1, none⟩) lsw (by simp)).trans s1⟩
                clear hK K
                try simp only [Act.put, List.setIfInBounds_toArray, List.set_cons_zero, List.set_cons_succ]
                refine wpAnyH_take (i := 10) (oi := ?_) (v := ?_) ?_ (by kernel_rfl) (by kernel_rfl) (by kernel_rfl) ?_ (Or.inl ⟨?_, ?_⟩) hHeld ?_
                rotate_left 2
                · (simp only [List.getElem?_toArray, List.getElem?_cons_succ, List.getElem?_cons_zero]; rfl)
                · exact fun _ _ _ h => h
                · rfl
                · (rintro W' ⟨s0, s1⟩; go_simp; first | done | with_reducible rfl)
                try simp only [Act.put, List.setIfInBounds_toArray, List.set_cons_zero, List.set_cons_succ]
                refine wpAnyH_ready (rs := [11]) (by kernel_rfl) (by simp) ?_
                refine AllReadyH.cons (o := ?_) ?_ (fun K hK => ?_) AllReadyH.nil
                rotate_left 1
                · (simp only [List.getElem?_toArray, List.getElem?_cons_succ, List.getElem?_cons_zero]; rfl)
                · (have hxc := XF3.out; have za := cell_of_block hxc 8; have f4 := frozen_of_block hxc 8; simp only [List.getElem?_toArray, List.getElem?_cons_zero, List.getElem?_cons_succ] at za; have hxd := setCell_block hxc 8 (.slice (some ⟨V39.heap.size, 0, none⟩) (n 1) (n 1)); simp only [List.setIfInBounds_toArray, List.set_cons_zero, List.set_cons_succ] at hxd; have XF4 := Lib.hid hxd; have CR4 : Hid (Chg [w.heap.size + 1 + 1 + 1] V397 (V397.setCell ⟨w.heap.size + 1 + 1 + 1, 8, none⟩ (.slice (some ⟨V39.heap.size, 0, none⟩) (n 1) (n 1)))) := Lib.hid ((Chg.refl _ _).setCell (.inl (by simp)) _); have FB3n := FB3.out; have FB3 := Lib.hid ((CR4.out.block _ (heap_lt FB3n) (by have q0 := HD0.out.size; have q1 := SZ1.out; have q2 := SZ2.out; have q3 := SZ3.out; simp; omega)).trans FB3n); clear FB3n; have FB7n := FB7.out; have FB7 := Lib.hid ((CR4.out.block _ (heap_lt FB7n) (by have q0 := HD0.out.size; have q1 := SZ1.out; have q2 := SZ2.out; have q3 := SZ3.out; simp; omega)).trans FB7n); clear FB7n; have HD4 := Lib.hid (HD3.out.trans CR4.out); have SZ4 := Lib.hid (size_setCell' V397 ⟨w.heap.size + 1 + 1 + 1, 8, none⟩ (.slice (some ⟨V39.heap.size, 0, none⟩) (n 1) (n 1))); clear hxc hxd; go_simp; clear za f4; generalize V397.setCell _ _ = V39711 at *)
                  refine hK.out _ _ ?_ (fun hHeld => ?_)
                  · exact ⟨(HD4.out.cell (p := ⟨w.heap.size + 1, 0, none⟩) lsw (by simp)).trans s0, (HD4.out.cell (p := ⟨w.heap.size + 1, 1, none⟩) lsw (by simp)).trans s1⟩
                  clear hK K
                  try simp only [Act.put, List.setIfInBounds_toArray, List.set_cons_zero, List.set_cons_succ]
                  refine wpAnyH_done (by kernel_rfl) ?_ _
                  go_wp2_with fail
                  go_meet
                  exact ⟨w8.heap.size, V39.heap.size, XF4.out, FB3.out, FB7.out, by have q1 := SZ1.out; have q2 := SZ2.out; have q3 := SZ3.out; have q4 := SZ4.out; omega, by have q0 := HD0.out.size; have q1 := SZ1.out; have q2 := SZ2.out; have q3 := SZ3.out; have q4 := SZ4.out; omega, by have q0 := HD0.out.size; have q1 := SZ1.out; have q2 := SZ2.out; have q3 := SZ3.out; have q4 := SZ4.out; omega, HD4.out⟩
          refine AllReadyH.cons (o := ?_) ?_ (fun K hK => ?_) AllReadyH.nil
          rotate_left 1
          · (simp only [List.getElem?_toArray, List.getElem?_cons_succ, List.getElem?_cons_zero]; rfl)
          · (go_simp; have FB7 := Lib.hid (new_block w8 (.cells (zrow (n 1) (.bool false)) 4)); have HD1 := Lib.hid (HD0.out.alloc (.cells (zrow (n 1) (.bool false)) 4)); have XF1 := Lib.hid ((((Chg.refl [] w8).alloc (.cells (zrow (n 1) (.bool false)) 4)).block _ (heap_lt XF0.out) (by simp)).trans XF0.out); have SZ1 := Lib.hid (size_alloc' w8 (.cells (zrow (n 1) (.bool false)) 4)); generalize w8.alloc _ = V7 at *)
            refine hK.out _ _ ?_ (fun hHeld => ?_)
            · exact ⟨(HD1.out.cell (p := ⟨w.heap.size + 1, 0, none⟩) lsw (by simp)).trans s0, (HD1.out.cell (p := ⟨w.heap.size + 1, 1, none⟩) lsw (by simp)).trans s1⟩
            clear hK K
            try simp only [Act.put, List.setIfInBounds_toArray, List.set_cons_zero, List.set_cons_succ]
            refine wpAnyH_ready (rs := [3]) (by kernel_rfl) (by simp) ?_
            refine AllReadyH.cons (o := ?_) ?_ (fun K hK => ?_) AllReadyH.nil
            rotate_left 1
            · (simp only [List.getElem?_toArray, List.getElem?_cons_succ, List.getElem?_cons_zero]; rfl)
            · (go_simp; have FB7n := FB7.out; have FB7 := Lib.hid ((((Chg.refl [] V7).alloc (.cells (zrow (n 0) (.bool false)) 4)).block _ (heap_lt FB7n) (by simp)).trans FB7n); clear FB7n; have FB3 := Lib.hid (new_block V7 (.cells (zrow (n 0) (.bool false)) 4)); have HD2 := Lib.hid (HD1.out.alloc (.cells (zrow (n 0) (.bool false)) 4)); have XF2 := Lib.hid ((((Chg.refl [] V7).alloc (.cells (zrow (n 0) (.bool false)) 4)).block _ (heap_lt XF1.out) (by simp)).trans XF1.out); have SZ2 := Lib.hid (size_alloc' V7 (.cells (zrow (n 0) (.bool false)) 4)); generalize V7.alloc _ = V73 at *)
              refine hK.out _ _ ?_ (fun hHeld => ?_)
              · exact ⟨(HD2.out.cell (p := ⟨w.heap.size + 1, 0, none⟩) lsw (by simp)).trans s0, (HD2.out.cell (p := ⟨w.heap.size + 1, 1, none⟩) lsw (by simp)).trans s1⟩
              clear hK K
              try simp only [Act.put, List.setIfInBounds_toArray, List.set_cons_zero, List.set_cons_succ]
              refine wpAnyH_take (i := 8) (oi := ?_) (v := ?_) ?_ (by kernel_rfl) (by kernel_rfl) (by kernel_rfl) ?_ (Or.inl ⟨?_, ?_⟩) hHeld ?_
              rotate_left 2
              · (simp only [List.getElem?_toArray, List.getElem?_cons_succ, List.getElem?_cons_zero]; rfl)
              · exact fun _ _ _ h => h
              · rfl
              · (rintro W' ⟨s0, s1⟩; go_simp; first | done | with_reducible rfl)
              try simp only [Act.put, List.setIfInBounds_toArray, List.set_cons_zero, List.set_cons_succ]
              refine wpAnyH_ready (rs := [9]) (by kernel_rfl) (by simp) ?_
              refine AllReadyH.cons (o := ?_) ?_ (fun K hK => ?_) AllReadyH.nil
              rotate_left 1
              · (simp only [List.getElem?_toArray, List.getElem?_cons_succ, List.getElem?_cons_zero]; rfl)
              · (have hxc := XF2.out; have za := cell_of_block hxc 7; have f4 := frozen_of_block hxc 7; simp only [List.getElem?_toArray, List.getElem?_cons_zero, List.getElem?_cons_succ] at za; have hxd := setCell_block hxc 7 (.slice (some ⟨V7.heap.size, 0, none⟩) (n 0) (n 0)); simp only [List.setIfInBounds_toArray, List.set_cons_zero, List.set_cons_succ] at hxd; have XF3 := Lib.hid hxd; have CR3 : Hid (Chg [w.heap.size + 1 + 1 + 1] V73 (V73.setCell ⟨w.heap.size + 1 + 1 + 1, 7, none⟩ (.slice (some ⟨V7.heap.size, 0, none⟩) (n 0) (n 0)))) := Lib.hid ((Chg.refl _ _).setCell (.inl (by simp)) _); have FB3n := FB3.out; have FB3 := Lib.hid ((CR3.out.block _ (heap_lt FB3n) (by have q0 := HD0.out.size; have q1 := SZ1.out; have q2 := SZ2.out; simp; omega)).trans FB3n); clear FB3n; have FB7n := FB7.out; have FB7 := Lib.hid ((CR3.out.block _ (heap_lt FB7n) (by have q0 := HD0.out.size; have q1 := SZ1.out; have q2 := SZ2.out; simp; omega)).trans FB7n); clear FB7n; have HD3 := Lib.hid (HD2.out.trans CR3.out); have SZ3 := Lib.hid (size_setCell' V73 ⟨w.heap.size + 1 + 1 + 1, 7, none⟩ (.slice (some ⟨V7.heap.size, 0, none⟩) (n 0) (n 0))); clear hxc hxd; go_simp; clear za f4; generalize V73.setCell _ _ = V739 at *)
                refine hK.out _ _ ?_ (fun hHeld => ?_)
                · exact ⟨(HD3.out.cell (p := ⟨w.heap.size + 1, 0, none⟩) lsw (by simp)).trans s0, (HD3.out.cell (p := ⟨w.heap.size + 1, 1, none⟩) lsw (by simp)).trans s1⟩
                clear hK K
                try simp only [Act.put, List.setIfInBounds_toArray, List.set_cons_zero, List.set_cons_succ]
                refine wpAnyH_take (i := 10) (oi := ?_) (v := ?_) ?_ (by kernel_rfl) (by kernel_rfl) (by kernel_rfl) ?_ (Or.inl ⟨?_, ?_⟩) hHeld ?_
                rotate_left 2
                · (simp only [List.getElem?_toArray, List.getElem?_cons_succ, List.getElem?_cons_zero]; rfl)
                · exact fun _ _ _ h => h
                · rfl
                · (rintro W' ⟨s0, s1⟩; go_simp; first | done | with_reducible rfl)
                try simp only [Act.put, List.setIfInBounds_toArray, List.set_cons_zero, List.set_cons_succ]
                refine wpAnyH_ready (rs := [11]) (by kernel_rfl) (by simp) ?_
                refine AllReadyH.cons (o := ?_) ?_ (fun K hK => ?_) AllReadyH.nil
                rotate_left 1
                · (simp only [List.getElem?_toArray, List.getElem?_cons_succ, List.getElem?_cons_zero]; rfl)
                · (have hxc := XF3.out; have za := cell_of_block hxc 8; have f4 := frozen_of_block hxc 8; simp only [List.getElem?_toArray, List.getElem?_cons_zero, List.getElem?_cons_succ] at za; have hxd := setCell_block hxc 8 (.slice (some ⟨w8.heap.size, 0, none⟩) (n 1) (n 1)); simp only [List.setIfInBounds_toArray, List.set_cons_zero, List.set_cons_succ] at hxd; have XF4 := Lib.hid hxd; have CR4 : Hid (Chg [w.heap.size + 1 + 1 + 1] V739 (V739.setCell ⟨w.heap.size + 1 + 1 + 1, 8, none⟩ (.slice (some ⟨w8.heap.size, 0, none⟩) (n 1) (n 1)))) := Lib.hid ((Chg.refl _ _).setCell (.inl (by simp)) _); have FB3n := FB3.out; have FB3 := Lib.hid ((CR4.out.block _ (heap_lt FB3n) (by have q0 := HD0.out.size; have q1 := SZ1.out; have q2 := SZ2.out; have q3 := SZ3.out; simp; omega)).trans FB3n); clear FB3n; have FB7n := FB7.out; have FB7 := Lib.hid ((CR4.out.block _ (heap_lt FB7n) (by have q0 := HD0.out.size; have q1 := SZ1.out; have q2 := SZ2.out; have q3 := SZ3.out; simp; omega)).trans FB7n); clear FB7n; have HD4 := Lib.hid (HD3.out.trans CR4.out); have SZ4 := Lib.hid (size_setCell' V739 ⟨w.heap.size + 1 + 1 + 1, 8, none⟩ (.slice (some ⟨w8.heap.size, 0, none⟩) (n 1) (n 1))); clear hxc hxd; go_simp; clear za f4; generalize V739.setCell _ _ = V73911 at *)
                  refine hK.out _ _ ?_ (fun hHeld => ?_)
                  · exact ⟨(HD4.out.cell (p := ⟨w.heap.size + 1, 0, none⟩) lsw (by simp)).trans s0, (HD4.out.cell (p := ⟨w.heap.size + 1, 1, none⟩) lsw (by simp)).trans s1⟩
                  clear hK K
                  try simp only [Act.put, List.setIfInBounds_toArray, List.set_cons_zero, List.set_cons_succ]
                  refine wpAnyH_done (by kernel_rfl) ?_ _
                  go_wp2_with fail
                  go_meet
                  exact ⟨V7.heap.size, w8.heap.size, XF4.out, FB3.out, FB7.out, by have q1 := SZ1.out; have q2 := SZ2.out; have q3 := SZ3.out; have q4 := SZ4.out; omega, by have q0 := HD0.out.size; have q1 := SZ1.out; have q2 := SZ2.out; have q3 := SZ3.out; have q4 := SZ4.out; omega, by have q0 := HD0.out.size; have q1 := SZ1.out; have q2 := SZ2.out; have q3 := SZ3.out; have q4 := SZ4.out; omega, HD4.out⟩
        case rest =>
          obtain ⟨ha, hb, hX9, hha, hhb, hnhh, geh, gehb, hC9⟩ := hcut.out
          clear hcut mk0 mk1 s0 s1
          have hCW := HC70.out.then (HC8.out.trans hC9) (fun q hq => by simp at hq; right; omega)
          have hga9 := (hC9.block _ (heap_lt HGA.out.1) (by have := HNE.out.2.1; simp; omega)).trans HGA.out.1
          have hgb9 := (hC9.block _ (heap_lt HGA.out.2.2.1) (by have := HNE.out.2.2; simp; omega)).trans HGA.out.2.2.1
          have hst := ref_start (X := w.heap.size + 1 + 1 + 1) (R := w.heap.size + 1 + 1) HH.out HA.out HO.out HFX.out.1 HFX.out.2 hga9 HGA.out.2.1 hgb9 HGA.out.2.2.2 hha hhb (by
            have := HNE.out; have := heap_lt HGA.out.1; have := heap_lt HGA.out.2.2.1
            simp only [List.nodup_cons, List.mem_cons, List.not_mem_nil, or_false, not_or, List.nodup_nil, and_true, not_false_eq_true]
            omega) (by
            have := HNE.out; have := heap_lt hga9; have := heap_lt hgb9; have := heap_lt hha; have := heap_lt hhb; have := heap_lt hX9; have := HC70.out.size; have := HC8.out.size
            intro b hb
            simp only [List.mem_cons, List.not_mem_nil, or_false] at hb
            omega) hCW
          obtain ⟨B, g', c', h', ⟨e1, e2, e3, e4, e5, e6⟩, hRS, hBB, hAB, hXB, hRB⟩ := hst
          rw [← e1, ← e2, ← e3, ← e4, ← e5, ← e6] at hX9
          have HAB := Lib.hid (And.intro hAB hXB)
          have HRB := Lib.hid hRB
          have hR9 := (hC9.block _ (Nat.lt_of_lt_of_le (heap_lt HR7.out) HC8.out.size) (by simp)).trans ((HC8.out.block _ (heap_lt HR7.out) (by simp)).trans HR7.out)
          have HXG := Lib.hid (show ∀ b, b ∈ [g' 0, g' 1, h' 0, h' 1] → b ≠ w.heap.size + 1 + 1 + 1 ∧ b ≠ w.heap.size + 1 + 1 by
            have := HNE.out; have := HC8.out.size
            intro b hb
            simp only [List.mem_cons, List.not_mem_nil, or_false] at hb
            omega)
          have HGW := Lib.hid (show ∀ b, b ∈ [g' 0, g' 1, h' 0, h' 1] → w.heap.size ≤ b by
            have := HNE.out; have := HC8.out.size
            intro b hb
            simp only [List.mem_cons, List.not_mem_nil, or_false] at hb
            omega)
          obtain ⟨wl, rfl⟩ : ∃ wl : World, wl = wc := ⟨_, rfl⟩
          obtain ⟨F, hF⟩ : ∃ F, F = (PS.start T K n a).fin := ⟨_, rfl⟩
          have H0 : Hid (∃ u1, wl.heap[w.heap.size + 1 + 1 + 1]? = some (stObj' u1 (.slice (some ⟨g2, 0, none⟩) T.n c2) (PS.start T K n a).K (PS.start T K n a).n g' c' h') ∧ RefS B wl u1 (.slice (some ⟨g2, 0, none⟩) T.n c2) g' c' h' (PS.start T K n a) ∧ (PS.start T K n a).fin = F ∧ (PS.start T K n a).n = n ∧ (true = false → (PS.start T K n a).next = none) ∧ Chg [] w wl ∧ wl.heap[w.heap.size + 1 + 1]? = some (.cells #[.slice none 0 0, .slice none 0 0, .int .i64 0, .int .i64 0, .int .i64 0, .slice none 0 0, .slice none 0 0, .slice none 0 0, .slice none 0 0] 57 (0, 0)) ∧ ∀ k, k ∈ B → k < wl.heap.size) := Lib.hid ⟨_, hX9, hRS, hF.symm, rfl, (fun q => by cases q), hCW, hR9, hBB⟩
          have HF := Lib.hid hF
          clear hX9 hha hhb hnhh geh gehb hC9 hCW hga9 hgb9 e1 e2 e3 e4 e5 e6 hRS hBB hAB hXB hRB hR9 hF HGA HNE HC8 HX8 HS8 lsw lX8
          go_wp2_with fail
          go_loopg [7] ((PS.start T K n a).left + 1) (fun gg s wr => ∃ (S : PS) (more : Bool), s = .bool more ∧ gg = (if more then S.left + 1 else 0) ∧ Hid (∃ u1, wr.heap[w.heap.size + 1 + 1 + 1]? = some (stObj' u1 (.slice (some ⟨g2, 0, none⟩) T.n c2) S.K S.n g' c' h') ∧ RefS B wr u1 (.slice (some ⟨g2, 0, none⟩) T.n c2) g' c' h' S ∧ S.fin = F ∧ S.n = n ∧ (more = false → S.next = none) ∧ Chg [] w wr ∧ wr.heap[w.heap.size + 1 + 1]? = some (.cells #[.slice none 0 0, .slice none 0 0, .int .i64 0, .int .i64 0, .int .i64 0, .slice none 0 0, .slice none 0 0, .slice none 0 0, .slice none 0 0] 57 (0, 0)) ∧ ∀ k, k ∈ B → k < wr.heap.size))
          case atStart => exact ⟨_, true, rfl, rfl, H0⟩
          case round =>
            obtain ⟨S, more, rfl, hgg, HL⟩ := hrel
            have Hgg := Lib.hid hgg
            clear hgg H0
            obtain ⟨u1, hx, hR, hfin, hn, hmore, hC, hr, hBB⟩ := HL.out
            obtain ⟨g3, c3, e5, _⟩ := hR.t.now
            subst e5
            have HR := Lib.hid hR
            have HFI := Lib.hid (And.intro hfin (And.intro hn hmore))
            have HC := Lib.hid hC
            have HRR := Lib.hid hr
            have HBB := Lib.hid hBB
            have HXX := Lib.hid hx
            unfold stObj' at hx
            have x0 := cell_of_block hx 0
            have x1 := cell_of_block hx 1
            have x2 := cell_of_block hx 2
            have x3 := cell_of_block hx 3
            have x4 := cell_of_block hx 4
            have x5 := cell_of_block hx 5
            have x6 := cell_of_block hx 6
            have x7 := cell_of_block hx 7
            have x8 := cell_of_block hx 8
            simp only [List.getElem?_toArray, List.getElem?_cons_zero, List.getElem?_cons_succ] at x0 x1 x2 x3 x4 x5 x6 x7 x8
            clear hx hR hfin hn hmore hC hr hBB HL
            cases more with
            | true =>
              have cS := r10step_at HR.out HBB.out
              unfold st10 at cS
              unfold StepR at cS
              cases hxn : S.next with
              | none =>
                rw [hxn] at cS
                have HXN := Lib.hid hxn
                clear hxn
                go_wp2_with fail
                refine cS.mono ?_
                clear cS
                rintro e w2 ⟨rfl, hC2⟩
                have hx2 := (hC2.block _ (heap_lt HXX.out) (by simp)).trans HXX.out
                unfold stObj' at hx2
                have f0 := frozen_of_block hx2 0
                have z0 := cell_of_block hx2 0
                have f1 := frozen_of_block hx2 1
                have z1 := cell_of_block hx2 1
                have f2 := frozen_of_block hx2 2
                have z2 := cell_of_block hx2 2
                have f3 := frozen_of_block hx2 3
                have z3 := cell_of_block hx2 3
                have f4 := frozen_of_block hx2 4
                have z4 := cell_of_block hx2 4
                have f5 := frozen_of_block hx2 5
                have z5 := cell_of_block hx2 5
                have f6 := frozen_of_block hx2 6
                have z6 := cell_of_block hx2 6
                have f7 := frozen_of_block hx2 7
                have z7 := cell_of_block hx2 7
                have f8 := frozen_of_block hx2 8
                have z8 := cell_of_block hx2 8
                simp only [List.getElem?_toArray, List.getElem?_cons_zero, List.getElem?_cons_succ] at z0 z1 z2 z3 z4 z5 z6 z7 z8
                have h9 := Lib.hid (sto9of9 hx2 (.slice (some ⟨g3, 0, none⟩) S.T.n c3) (.slice (some ⟨g2, 0, none⟩) T.n c2) (.int .i64 (S.K.first : Int)) (.int .i64 (S.K.next : Int)) (.int .i64 (S.K.asked : Int)) (.slice (some ⟨g' 0, 0, none⟩) (S.n 0) (c' 0)) (.slice (some ⟨g' 1, 0, none⟩) (S.n 1) (c' 1)) (.slice (some ⟨h' 0, 0, none⟩) (S.n 0) (S.n 0)) (.slice (some ⟨h' 1, 0, none⟩) (S.n 1) (S.n 1)))
                have HR2 := Lib.hid ((HR.out.chg hC2 (by simp) (by simp)).chg h9.out.2 (fun q hq => .inl (by simp at hq; rw [hq]; exact HAB.out.2)) (fun q hq => by have := HXG.out q hq; simp; exact this.1))
                have HC2 := Lib.hid ((HC.out.trans hC2).then h9.out.2 (fun q hq => by simp at hq; right; omega))
                have HRR2 := Lib.hid ((h9.out.2.block _ (Nat.lt_of_lt_of_le (heap_lt HRR.out) hC2.size) (by simp)).trans ((hC2.block _ (heap_lt HRR.out) (by simp)).trans HRR.out))
                have HBB2 := Lib.hid (fun k hk => Nat.lt_of_lt_of_le (HBB.out k hk) (Nat.le_trans hC2.size h9.out.2.size) : ∀ k, k ∈ B → _)
                clear hC2 hx2
                unfold st10
                go_wp2_with fail
                go_roundg 0
                case measure => have := Hgg.out; simp at this; omega
                case rel => exact ⟨S, false, rfl, rfl, ⟨_, h9.out.1, HR2.out, HFI.out.1, HFI.out.2.1, (fun _ => HXN.out), HC2.out, HRR2.out, HBB2.out⟩⟩
              | some ki =>
                obtain ⟨k, i⟩ := ki
                rw [hxn] at cS
                have HXN := Lib.hid hxn
                clear hxn
                go_wp2_with fail
                refine cS.mono ?_
                clear cS
                rintro e w2 ⟨u2, rfl, hR2, hC2⟩
                obtain ⟨g4, c4, e6, _⟩ := hR2.t.now
                subst e6
                have hx2 := (hC2.block _ (heap_lt HXX.out) (fun q => (HXG.out _ q).1 rfl)).trans HXX.out
                unfold stObj' at hx2
                have f0 := frozen_of_block hx2 0
                have z0 := cell_of_block hx2 0
                have f1 := frozen_of_block hx2 1
                have z1 := cell_of_block hx2 1
                have f2 := frozen_of_block hx2 2
                have z2 := cell_of_block hx2 2
                have f3 := frozen_of_block hx2 3
                have z3 := cell_of_block hx2 3
                have f4 := frozen_of_block hx2 4
                have z4 := cell_of_block hx2 4
                have f5 := frozen_of_block hx2 5
                have z5 := cell_of_block hx2 5
                have f6 := frozen_of_block hx2 6
                have z6 := cell_of_block hx2 6
                have f7 := frozen_of_block hx2 7
                have z7 := cell_of_block hx2 7
                have f8 := frozen_of_block hx2 8
                have z8 := cell_of_block hx2 8
                simp only [List.getElem?_toArray, List.getElem?_cons_zero, List.getElem?_cons_succ] at z0 z1 z2 z3 z4 z5 z6 z7 z8
                have h9 := Lib.hid (sto9of9 hx2 (.slice (some ⟨g4, 0, none⟩) (S.step k i).T.n c4) (.slice (some ⟨g2, 0, none⟩) T.n c2) (.int .i64 ((S.step k i).K.first : Int)) (.int .i64 ((S.step k i).K.next : Int)) (.int .i64 ((S.step k i).K.asked : Int)) (.slice (some ⟨g' 0, 0, none⟩) (S.n 0) (c' 0)) (.slice (some ⟨g' 1, 0, none⟩) (S.n 1) (c' 1)) (.slice (some ⟨h' 0, 0, none⟩) (S.n 0) (S.n 0)) (.slice (some ⟨h' 1, 0, none⟩) (S.n 1) (S.n 1)))
                have HR2 := Lib.hid (hR2.chg h9.out.2 (fun q hq => .inl (by simp at hq; rw [hq]; exact HAB.out.2)) (fun q hq => by have := HXG.out q hq; simp; exact this.1))
                have HC2 := Lib.hid ((HC.out.then hC2 (fun q hq => .inr (HGW.out q hq))).then h9.out.2 (fun q hq => by simp at hq; right; omega))
                have HRR2 := Lib.hid ((h9.out.2.block _ (Nat.lt_of_lt_of_le (heap_lt HRR.out) hC2.size) (by simp)).trans ((hC2.block _ (heap_lt HRR.out) (fun q => (HXG.out _ q).2 rfl)).trans HRR.out))
                have HBB2 := Lib.hid (fun k hk => Nat.lt_of_lt_of_le (HBB.out k hk) (Nat.le_trans hC2.size h9.out.2.size) : ∀ k, k ∈ B → _)
                have HLT := Lib.hid (PS.left_step (PS.next_some HXN.out).1 (PS.next_some HXN.out).2.1 (PS.next_some HXN.out).2.2)
                have HFS := Lib.hid ((PS.fin_some HXN.out).symm.trans HFI.out.1)
                clear hC2 hx2 hR2
                unfold st10
                go_wp2_with fail
                go_roundg ((S.step k i).left + 1)
                case measure => have := Hgg.out; have := HLT.out; simp at *; omega
                case rel => exact ⟨S.step k i, true, rfl, rfl, ⟨_, h9.out.1, HR2.out, HFS.out, HFI.out.2.1, (fun q => by cases q), HC2.out, HRR2.out, HBB2.out⟩⟩
            | false =>
              have hr2 := HRR.out
              have f0 := frozen_of_block hr2 0
              have z0 := cell_of_block hr2 0
              have f1 := frozen_of_block hr2 1
              have z1 := cell_of_block hr2 1
              have f2 := frozen_of_block hr2 2
              have z2 := cell_of_block hr2 2
              have f3 := frozen_of_block hr2 3
              have z3 := cell_of_block hr2 3
              have f4 := frozen_of_block hr2 4
              have z4 := cell_of_block hr2 4
              have f5 := frozen_of_block hr2 5
              have z5 := cell_of_block hr2 5
              have f6 := frozen_of_block hr2 6
              have z6 := cell_of_block hr2 6
              have f7 := frozen_of_block hr2 7
              have z7 := cell_of_block hr2 7
              have f8 := frozen_of_block hr2 8
              have z8 := cell_of_block hr2 8
              simp only [List.getElem?_toArray, List.getElem?_cons_zero, List.getElem?_cons_succ] at z0 z1 z2 z3 z4 z5 z6 z7 z8
              have h9 := Lib.hid (sto9of9 hr2 (.slice (some ⟨g3, 0, none⟩) S.T.n c3) (.slice (some ⟨g2, 0, none⟩) T.n c2) (.int .i64 (S.K.first : Int)) (.int .i64 (S.K.next : Int)) (.int .i64 (S.K.asked : Int)) (.slice (some ⟨g' 0, 0, none⟩) (S.n 0) (c' 0)) (.slice (some ⟨g' 1, 0, none⟩) (S.n 1) (c' 1)) (.slice (some ⟨h' 0, 0, none⟩) (S.n 0) (S.n 0)) (.slice (some ⟨h' 1, 0, none⟩) (S.n 1) (S.n 1)))
              clear hr2
              go_wp2_with fail
              generalize ((((((((wr.setCell _ _).setCell _ _).setCell _ _).setCell _ _).setCell _ _).setCell _ _).setCell _ _).setCell _ _).setCell _ _ = W9 at *
              have hr9 := h9.out.1
              have k0 := cell_of_block hr9 0
              have k1 := cell_of_block hr9 1
              have k2 := cell_of_block hr9 2
              have k3 := cell_of_block hr9 3
              have k4 := cell_of_block hr9 4
              have k5 := cell_of_block hr9 5
              have k6 := cell_of_block hr9 6
              have k7 := cell_of_block hr9 7
              have k8 := cell_of_block hr9 8
              simp only [List.getElem?_toArray, List.getElem?_cons_zero, List.getElem?_cons_succ] at k0 k1 k2 k3 k4 k5 k6 k7 k8
              have hSF : S = F := by rw [← HFI.out.1, PS.fin_none (by have := HFI.out.2.2; simpa using this)]
              (try simp only [Exit.inBlock, Exit.then])
              refine bodyPost_ret (v := .tuple #[.agg #[.slice (some ⟨g3, 0, none⟩) S.T.n c3, .slice (some ⟨g2, 0, none⟩) T.n c2, .int .i64 (S.K.first : Int), .int .i64 (S.K.next : Int), .int .i64 (S.K.asked : Int), .slice (some ⟨g' 0, 0, none⟩) (S.n 0) (c' 0), .slice (some ⟨g' 1, 0, none⟩) (S.n 1) (c' 1), .slice (some ⟨h' 0, 0, none⟩) (S.n 0) (S.n 0), .slice (some ⟨h' 1, 0, none⟩) (S.n 1) (S.n 1)], .int .i64 0]) (by simp [results, Try.results21, go_sem, k0, k1, k2, k3, k4, k5, k6, k7, k8]) rfl ?_
              have hC9 := h9.out.2
              have hnn := HFI.out.2.1
              rw [← HF.out, ← hSF, hnn]
              have hR9 : RefS B W9 (.slice (some ⟨g3, 0, none⟩) S.T.n c3) (.slice (some ⟨g2, 0, none⟩) T.n c2) g' c' h' S := HR.out.chg hC9 (fun q hq => .inl (by simp at hq; rw [hq]; exact HRB.out)) (fun q hq => by have := HXG.out q hq; simp; exact this.2)
              exact ⟨_, B, g', c', h', rfl, hR9, HAB.out.1, fun k hk => Nat.lt_of_lt_of_le (HBB.out k hk) hC9.size, HC.out.then hC9 (fun q hq => by simp at hq; right; omega)⟩


end Go.Proofs.Ytnhabpbdpjgiiaa
