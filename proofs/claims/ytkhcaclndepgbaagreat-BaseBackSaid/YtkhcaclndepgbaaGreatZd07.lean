/- Package disk: Cached and Copy of a disk on which nothing waits; slices.Clone of blocks. (Printed by mkdsk6.py.) -/
import Derived.Test.YtkhcaclndepgbaaGreatZd06
set_option linter.unusedVariables false
set_option linter.unusedSimpArgs false
set_option maxRecDepth 100000
set_option maxHeartbeats 20000000
namespace Go.Proofs.YtkhcaclndepgbaaGreat
open Go.RowKit
theorem dCached_none {w : World} {p bb cap : Nat} {wv : Value} {D : Dk} (h : DiskRd w p bb cap wv D) (hw : D.waits = []) :
  Calls Tryz.prog 47 #[.pointer (some ⟨p, 0, none⟩)] w fun e w' => e = .returned (.slice none 0 0) ∧ w = w' := by
 have ht := h.top
 obtain ⟨a, c, hwv, _, _⟩ := ownRow_slice h.wts
 rw [hw] at hwv
 simp only [List.length_nil] at hwv
 subst hwv
 have c0 := cell_of_block ht 0
 have c1 := cell_of_block ht 1
 have c2 := cell_of_block ht 2
 have c3 := cell_of_block ht 3
 simp only [List.getElem?_toArray, List.getElem?_cons_zero, List.getElem?_cons_succ] at c0 c1 c2 c3
 clear h ht
 go_enter Tryz.func47, Tryz.ntmps47
 go_wp2_with fail
 go_loopg [3, 14] 0 (fun gg o s wr => o = .slice none 0 0 ∧ s = .int .i64 0 ∧ Hid (w = wr))
 case atStart => exact ⟨rfl, rfl, Lib.hid rfl⟩
 case round =>
  obtain ⟨rfl, rfl, hX⟩ := hrel
  go_wp2_with fail
  go_ret
  exact ⟨rfl, hX.out⟩
theorem clWrites_nil (w : World) : Calls Tryz.prog 108 #[.slice none 0 0] w fun e w' => e = .returned (.slice none 0 0) ∧ w = w' := by
 have hn := Lib.run_eql_slice_nil (P := Tryz.prog) w 152 171 none 0 0 0 0 Tryz.underlying152
 go_enter Tryz.func108, Tryz.ntmps108
 go_wp2_with fail
 go_ret
 exact ⟨rfl, rfl⟩
theorem clBlocks_at {w : World} {bb n cap : Nat} {d : Nat → Nat → Nat} (h1 : 1 ≤ n) (hn : n ≤ 4096) (hc : n ≤ cap) (hty : ∃ cur, w.heap[bb]? = some (.cells cur 169 (0, 0))) (hb : ∀ b, b < n → ∀ i, i < 128 → w.cell? ⟨bb, b * 128 + i, none⟩ = some (.int .u8 (d b i : Int))) :
  Calls Tryz.prog 107 #[.slice (some ⟨bb, 0, none⟩) n cap] w fun e w' => ∃ g c, e = .returned (.slice (some ⟨g, 0, none⟩) n c) ∧ n ≤ c ∧ c ≤ maxLen ∧ w.heap.size ≤ g ∧ (∃ cur, w'.heap[g]? = some (.cells cur 169 (0, 0))) ∧ (∀ b, b < n → ∀ i, i < 128 → w'.cell? ⟨g, b * 128 + i, none⟩ = some (.int .u8 (d b i : Int))) ∧ Chg [] w w' := by
 obtain ⟨cur, hcur⟩ := hty
 have hlt := heap_lt hcur
 have hc1 := (Chg.refl [] w).alloc (.cells #[] 169)
 have hsrc : AppSrc (w.alloc (.cells #[] 169)) 128 (.slice (some ⟨bb, 0, none⟩) n cap) n (rowD n d).toList := by
  refine ⟨by simp [rowD, u8s], fun u hu => ?_, .inl ⟨bb, 0, cap, rfl, by simp; omega, fun j u hu => ?_⟩⟩
  ·obtain ⟨j, hj⟩ := List.getElem?_of_mem hu
   rw [Array.getElem?_toList] at hj
   by_cases hjn : j < n * 128
   ·rw [rowD, u8s_get hjn] at hj
    rw [← Option.some.inj hj]
    rfl
   ·rw [Array.getElem?_eq_none (by simp [rowD, u8s]; omega)] at hj; cases hj
  ·rw [Array.getElem?_toList] at hu
   by_cases hjn : j < n * 128
   ·rw [rowD, u8s_get hjn] at hu
    rw [← Option.some.inj hu, Nat.zero_add]
    have := (hc1.cell (p := ⟨bb, j / 128 * 128 + j % 128, none⟩) hlt (by simp)).trans (hb (j / 128) (by omega) (j % 128) (Nat.mod_lt _ (by omega)))
    rw [show j / 128 * 128 + j % 128 = j by omega] at this
    exact this
   ·rw [Array.getElem?_eq_none (by simp [rowD, u8s]; omega)] at hu; cases hu
 obtain ⟨v', w2, hrun, ho, hg, _⟩ := run_app (base := w.heap.size) (n := 0) (xs := []) Tryz.underlying149 infoBlk (by rfl) (by omega) (by omega) (own_emptyG (Nat.le_refl _)) hsrc (by omega) (by simp)
 rw [Nat.zero_add, List.nil_append] at ho
 obtain ⟨g, c, rfl, k1, k2, k3, k4, kc⟩ := ownRow_cells ho (by omega)
 have HO := Lib.hid ho
 have HK := Lib.hid (And.intro k1 (And.intro k2 (And.intro k3 kc)))
 have HRUN := Lib.hid hrun
 have HC := Lib.hid (hc1.grown hg (fun k e => .inr (by simp [Value.ownBlock] at e; subst e; exact Nat.le_refl _)))
 have hq := Lib.run_eql_slice_nil (P := Tryz.prog) w 149 169 (some ⟨bb, 0, none⟩) n cap 0 0 Tryz.underlying149
 clear hc1 hsrc hrun ho hg k1 k2 k3 k4 kc hb hcur
 go_enter Tryz.func107, Tryz.ntmps107
 go_wp2_with (at_builtin; refine Lib.wpList_append_run _ rfl _ _ _ _ rfl _ _ rfl rfl _ _ HRUN.out ?_)
 go_ret
 refine ⟨g, c, rfl, HK.out.1, HK.out.2.1, HK.out.2.2.1, ?_, fun b hb i hi => ?_, HC.out⟩
 ·rcases HO.out.2 with ⟨e, _⟩ | ⟨g', c', cur, e, _, hg', _⟩
  ·cases e
  ·injection e with e1 _ _
   injection e1 with e1
   injection e1 with e1
   subst e1
   exact ⟨cur, hg'⟩
 ·rw [HK.out.2.2.2 _ (by omega), Array.getElem?_toList, rowD, u8s_get (by omega), show (b * 128 + i) / 128 = b by omega, show (b * 128 + i) % 128 = i by omega]
theorem dCopy_at {w : World} {p bb cap : Nat} {D : Dk} (h : DiskRd w p bb cap (.slice none 0 0) D) (hw : D.waits = []) :
  Calls Tryz.prog 42 #[.pointer (some ⟨p, 0, none⟩)] w fun e w' => ∃ q g c, e = .returned (.pointer (some ⟨q, 0, none⟩)) ∧ DiskRd w' q g c (.slice none 0 0) D ∧ w.heap.size ≤ q ∧ w.heap.size ≤ g ∧ Chg [] w w' := by
 have ht := h.top
 have cm := rdMay_at h
 have H := Lib.hid h
 have c0 := cell_of_block ht 0
 have c1 := cell_of_block ht 1
 have c2 := cell_of_block ht 2
 have c3 := cell_of_block ht 3
 simp only [List.getElem?_toArray, List.getElem?_cons_zero, List.getElem?_cons_succ] at c0 c1 c2 c3
 clear h ht
 go_enter Tryz.func42, Tryz.ntmps42
 go_wp2_with fail
 refine cm.mono ?_
 rintro e w' ⟨rfl, rfl⟩
 clear cm
 go_upto_region 4 with fail
 have hc1 := (Chg.refl [] w).alloc (.cells #[.slice (some ⟨bb, 0, none⟩) D.n cap, .slice none 0 0, .int .i64 (-1), .bool false] 156)
 have hx := new_block w (.cells #[.slice (some ⟨bb, 0, none⟩) D.n cap, .slice none 0 0, .int .i64 (-1), .bool false] 156)
 generalize w.alloc (.cells #[.slice (some ⟨bb, 0, none⟩) D.n cap, .slice none 0 0, .int .i64 (-1), .bool false] 156) = W at *
 have HC := Lib.hid hc1
 have HX := Lib.hid hx
 have HP := Lib.hid ((hc1.block p H.out.lt.1 (by simp)).trans H.out.top)
 clear c0 c1 c2 c3
 have e0 : W.cell? ⟨p, 0, none⟩ = some (.slice (some ⟨bb, 0, none⟩) D.n cap) := (cell_of_block HP.out 0).trans rfl
 have e1 : W.cell? ⟨p, 1, none⟩ = some (.slice none 0 0) := (cell_of_block HP.out 1).trans rfl
 clear hc1 hx
 refine wp_region_held_drew (S := fun W' => W'.cell? ⟨p, 0, none⟩ = some (.slice (some ⟨bb, 0, none⟩) D.n cap) ∧ W'.cell? ⟨p, 1, none⟩ = some (.slice none 0 0)) (by kernel_rfl) (by exact ⟨e0, e1⟩) (fun hHeld => ?_)
 refine wpAnyH_take (i := 0) (oi := ?_) (v := ?_) ?_ (by kernel_rfl) (by kernel_rfl) (by kernel_rfl) ?_ (Or.inl ⟨?_, ?_⟩) hHeld ?_
 rotate_left 2
 ·(simp only [List.getElem?_toArray, List.getElem?_cons_succ, List.getElem?_cons_zero]; rfl)
 ·exact fun _ _ _ h => h
 ·rfl
 ·(rintro W' ⟨s0, s1⟩; go_simp; first | done | with_reducible rfl)
 try simp only [Act.put, List.setIfInBounds_toArray, List.set_cons_zero, List.set_cons_succ]
 refine wpAnyH_take (i := 1) (oi := ?_) (v := ?_) ?_ (by kernel_rfl) (by kernel_rfl) (by kernel_rfl) ?_ (Or.inl ⟨?_, ?_⟩) hHeld ?_
 rotate_left 2
 ·(simp only [List.getElem?_toArray, List.getElem?_cons_succ, List.getElem?_cons_zero]; rfl)
 ·exact fun _ _ _ h => h
 ·rfl
 ·(rintro W' ⟨s0, s1⟩; go_simp; first | done | with_reducible rfl)
 try simp only [Act.put, List.setIfInBounds_toArray, List.set_cons_zero, List.set_cons_succ]
 refine wpAnyH_take (i := 2) (oi := ?_) (v := ?_) ?_ (by kernel_rfl) (by kernel_rfl) (by kernel_rfl) ?_ (Or.inl ⟨?_, ?_⟩) hHeld ?_
 rotate_left 2
 ·(simp only [List.getElem?_toArray, List.getElem?_cons_succ, List.getElem?_cons_zero]; rfl)
 ·exact fun _ _ _ h => h
 ·rfl
 ·(rintro W' ⟨s0, s1⟩; go_simp; first | done | with_reducible rfl)
 try simp only [Act.put, List.setIfInBounds_toArray, List.set_cons_zero, List.set_cons_succ]
 refine wpAnyH_take (i := 3) (oi := ?_) (v := ?_) ?_ (by kernel_rfl) (by kernel_rfl) (by kernel_rfl) ?_ (Or.inl ⟨?_, ?_⟩) hHeld ?_
 rotate_left 2
 ·(simp only [List.getElem?_toArray, List.getElem?_cons_succ, List.getElem?_cons_zero]; rfl)
 ·exact fun _ _ _ h => h
 ·rfl
 ·(rintro W' ⟨s0, s1⟩; go_simp; first | done | with_reducible rfl)
 try simp only [Act.put, List.setIfInBounds_toArray, List.set_cons_zero, List.set_cons_succ]
 refine wpAnyH_take (i := 4) (oi := ?_) (v := ?_) ?_ (by kernel_rfl) (by kernel_rfl) (by kernel_rfl) ?_ (Or.inl ⟨?_, ?_⟩) hHeld ?_
 rotate_left 2
 ·(simp only [List.getElem?_toArray, List.getElem?_cons_succ, List.getElem?_cons_zero]; rfl)
 ·exact fun _ _ _ h => h
 ·rfl
 ·(rintro W' ⟨s0, s1⟩; go_simp; first | done | with_reducible rfl)
 try simp only [Act.put, List.setIfInBounds_toArray, List.set_cons_zero, List.set_cons_succ]
 refine wpAnyH_take (i := 6) (oi := ?_) (v := ?_) ?_ (by kernel_rfl) (by kernel_rfl) (by kernel_rfl) ?_ (Or.inl ⟨?_, ?_⟩) hHeld ?_
 rotate_left 2
 ·(simp only [List.getElem?_toArray, List.getElem?_cons_succ, List.getElem?_cons_zero]; rfl)
 ·exact fun _ _ _ h => h
 ·rfl
 ·(rintro W' ⟨s0, s1⟩; go_simp; first | done | with_reducible rfl)
 try simp only [Act.put, List.setIfInBounds_toArray, List.set_cons_zero, List.set_cons_succ]
 refine wpAnyH_take (i := 7) (oi := ?_) (v := ?_) ?_ (by kernel_rfl) (by kernel_rfl) (by kernel_rfl) ?_ (Or.inl ⟨?_, ?_⟩) hHeld ?_
 rotate_left 2
 ·(simp only [List.getElem?_toArray, List.getElem?_cons_succ, List.getElem?_cons_zero]; rfl)
 ·exact fun _ _ _ h => h
 ·rfl
 ·(rintro W' ⟨s0, s1⟩; go_simp; first | done | with_reducible rfl)
 try simp only [Act.put, List.setIfInBounds_toArray, List.set_cons_zero, List.set_cons_succ]
 refine wpAnyH_take (i := 8) (oi := ?_) (v := ?_) ?_ (by kernel_rfl) (by kernel_rfl) (by kernel_rfl) ?_ (Or.inl ⟨?_, ?_⟩) hHeld ?_
 rotate_left 2
 ·(simp only [List.getElem?_toArray, List.getElem?_cons_succ, List.getElem?_cons_zero]; rfl)
 ·exact fun _ _ _ h => h
 ·rfl
 ·(rintro W' ⟨s0, s1⟩; go_simp; first | done | with_reducible rfl)
 try simp only [Act.put, List.setIfInBounds_toArray, List.set_cons_zero, List.set_cons_succ]
 refine wpAnyH_take (i := 9) (oi := ?_) (v := ?_) ?_ (by kernel_rfl) (by kernel_rfl) (by kernel_rfl) ?_ (Or.inl ⟨?_, ?_⟩) hHeld ?_
 rotate_left 2
 ·(simp only [List.getElem?_toArray, List.getElem?_cons_succ, List.getElem?_cons_zero]; rfl)
 ·exact fun _ _ _ h => h
 ·rfl
 ·(rintro W' ⟨s0, s1⟩; go_simp; first | done | with_reducible rfl)
 try simp only [Act.put, List.setIfInBounds_toArray, List.set_cons_zero, List.set_cons_succ]
 refine wpAnyH_take (i := 10) (oi := ?_) (v := ?_) ?_ (by kernel_rfl) (by kernel_rfl) (by kernel_rfl) ?_ (Or.inl ⟨?_, ?_⟩) hHeld ?_
 rotate_left 2
 ·(simp only [List.getElem?_toArray, List.getElem?_cons_succ, List.getElem?_cons_zero]; rfl)
 ·exact fun _ _ _ h => h
 ·rfl
 ·(rintro W' ⟨s0, s1⟩; go_simp; first | done | with_reducible rfl)
 try simp only [Act.put, List.setIfInBounds_toArray, List.set_cons_zero, List.set_cons_succ]
 refine wpAnyH_ready (rs := [5]) (by kernel_rfl) (by simp) ?_
 refine AllReadyH.cons (o := ?_) ?_ (fun K hK => ?_) AllReadyH.nil
 rotate_left 1
 ·(simp only [List.getElem?_toArray, List.getElem?_cons_succ, List.getElem?_cons_zero]; rfl)
 ·(go_simp; refine (clBlocks_at (w := W.drew) (d := D.data) H.out.n1 H.out.n2 H.out.cp.1 (by obtain ⟨cur, hcur⟩ := H.out.ty; exact ⟨cur, (HC.out.drew.block bb (heap_lt hcur) (by simp)).trans hcur⟩) (fun b hb i hi => (HC.out.drew.cell (p := ⟨bb, b * 128 + i, none⟩) H.out.lt.2 (by simp)).trans (H.out.blk b hb i hi))).mono ?_; rintro e w5 ⟨g, c, rfl, k1, k2, k3, k4, k5, k6⟩; have HK := Lib.hid (And.intro k1 (And.intro k2 (And.intro k3 (And.intro k4 k5)))); have HC5 := Lib.hid ((Chg.refl [] W).drew.trans k6); clear k1 k2 k3 k4 k5 k6)
  refine hK.out _ _ ?_ (fun hHeld => ?_)
  ·exact ⟨(HC5.out.cell (p := ⟨p, 0, none⟩) (heap_lt HP.out) (by simp)).trans e0, (HC5.out.cell (p := ⟨p, 1, none⟩) (heap_lt HP.out) (by simp)).trans e1⟩
  clear hK K
  try simp only [Act.put, List.setIfInBounds_toArray, List.set_cons_zero, List.set_cons_succ]
  refine wpAnyH_ready (rs := [11]) (by kernel_rfl) (by simp) ?_
  refine AllReadyH.cons (o := ?_) ?_ (fun K hK => ?_) AllReadyH.nil
  rotate_left 1
  ·(simp only [List.getElem?_toArray, List.getElem?_cons_succ, List.getElem?_cons_zero]; rfl)
  ·(go_simp; refine (clWrites_nil w5).mono ?_; rintro e w6 ⟨rfl, rfl⟩)
   refine hK.out _ _ ?_ (fun hHeld => ?_)
   ·exact ⟨(HC5.out.cell (p := ⟨p, 0, none⟩) (heap_lt HP.out) (by simp)).trans e0, (HC5.out.cell (p := ⟨p, 1, none⟩) (heap_lt HP.out) (by simp)).trans e1⟩
   clear hK K
   try simp only [Act.put, List.setIfInBounds_toArray, List.set_cons_zero, List.set_cons_succ]
   refine wpAnyH_take (i := 12) (oi := ?_) (v := ?_) ?_ (by kernel_rfl) (by kernel_rfl) (by kernel_rfl) ?_ (Or.inl ⟨?_, ?_⟩) hHeld ?_
   rotate_left 2
   ·(simp only [List.getElem?_toArray, List.getElem?_cons_succ, List.getElem?_cons_zero]; rfl)
   ·exact fun _ _ _ h => h
   ·rfl
   ·(rintro W' ⟨s0, s1⟩; go_simp; first | done | with_reducible rfl)
   try simp only [Act.put, List.setIfInBounds_toArray, List.set_cons_zero, List.set_cons_succ]
   refine wpAnyH_take (i := 13) (oi := ?_) (v := ?_) ?_ (by kernel_rfl) (by kernel_rfl) (by kernel_rfl) ?_ (Or.inl ⟨?_, ?_⟩) hHeld ?_
   rotate_left 2
   ·(simp only [List.getElem?_toArray, List.getElem?_cons_succ, List.getElem?_cons_zero]; rfl)
   ·exact fun _ _ _ h => h
   ·rfl
   ·(rintro W' ⟨s0, s1⟩; go_simp; first | done | with_reducible rfl)
   try simp only [Act.put, List.setIfInBounds_toArray, List.set_cons_zero, List.set_cons_succ]
   refine wpAnyH_ready (rs := [14]) (by kernel_rfl) (by simp) ?_
   refine AllReadyH.cons (o := ?_) ?_ (fun K hK => ?_) AllReadyH.nil
   rotate_left 1
   ·(simp only [List.getElem?_toArray, List.getElem?_cons_succ, List.getElem?_cons_zero]; rfl)
   ·(have hcs := (cell_of_block ((HC5.out.block _ (heap_lt HX.out) (by simp)).trans HX.out) 0); have hfz := frozen_of_block ((HC5.out.block _ (heap_lt HX.out) (by simp)).trans HX.out) 0; simp only [List.getElem?_toArray, List.getElem?_cons_zero, List.getElem?_cons_succ] at hcs; have hpl := Nat.lt_of_lt_of_le (heap_lt HX.out) HC5.out.size; go_simp; clear hcs hfz hpl)
    refine hK.out _ _ ?_ (fun hHeld => ?_)
    ·(have hne : p ≠ w.heap.size := (by have := H.out.lt.1; omega); have h5 := HC5.out.cell (p := ⟨p, 0, none⟩) (heap_lt HP.out) (by simp); have h6 := HC5.out.cell (p := ⟨p, 1, none⟩) (heap_lt HP.out) (by simp); exact ⟨(World.cell?_of_block (setCell_other 0 _ hne)).trans (h5.trans e0), (World.cell?_of_block (setCell_other 0 _ hne)).trans (h6.trans e1)⟩)
    clear hK K
    try simp only [Act.put, List.setIfInBounds_toArray, List.set_cons_zero, List.set_cons_succ]
    refine wpAnyH_take (i := 15) (oi := ?_) (v := ?_) ?_ (by kernel_rfl) (by kernel_rfl) (by kernel_rfl) ?_ (Or.inl ⟨?_, ?_⟩) hHeld ?_
    rotate_left 2
    ·(simp only [List.getElem?_toArray, List.getElem?_cons_succ, List.getElem?_cons_zero]; rfl)
    ·exact fun _ _ _ h => h
    ·rfl
    ·(rintro W' ⟨s0, s1⟩; go_simp; first | done | with_reducible rfl)
    try simp only [Act.put, List.setIfInBounds_toArray, List.set_cons_zero, List.set_cons_succ]
    refine wpAnyH_take (i := 16) (oi := ?_) (v := ?_) ?_ (by kernel_rfl) (by kernel_rfl) (by kernel_rfl) ?_ (Or.inl ⟨?_, ?_⟩) hHeld ?_
    rotate_left 2
    ·(simp only [List.getElem?_toArray, List.getElem?_cons_succ, List.getElem?_cons_zero]; rfl)
    ·exact fun _ _ _ h => h
    ·rfl
    ·(rintro W' ⟨s0, s1⟩; go_simp; first | done | with_reducible rfl)
    try simp only [Act.put, List.setIfInBounds_toArray, List.set_cons_zero, List.set_cons_succ]
    refine wpAnyH_ready (rs := [17]) (by kernel_rfl) (by simp) ?_
    refine AllReadyH.cons (o := ?_) ?_ (fun K hK => ?_) AllReadyH.nil
    rotate_left 1
    ·(simp only [List.getElem?_toArray, List.getElem?_cons_succ, List.getElem?_cons_zero]; rfl)
    ·(have hb0 := setCell_block ((HC5.out.block _ (heap_lt HX.out) (by simp)).trans HX.out) 0 (.slice (some ⟨g, 0, none⟩) D.n c); have hcs := cell_of_block hb0 1; have hfz := frozen_of_block hb0 1; simp only [Array.set!_eq_setIfInBounds, List.setIfInBounds_toArray, List.set_cons_zero, List.getElem?_toArray, List.getElem?_cons_zero, List.getElem?_cons_succ] at hcs; have hpl := heap_lt hb0; go_simp; clear hcs hfz hpl hb0)
     refine hK.out _ _ ?_ (fun hHeld => ?_)
     ·(have hne : p ≠ w.heap.size := (by have := H.out.lt.1; omega); have h5 := HC5.out.cell (p := ⟨p, 0, none⟩) (heap_lt HP.out) (by simp); have h6 := HC5.out.cell (p := ⟨p, 1, none⟩) (heap_lt HP.out) (by simp); exact ⟨(World.cell?_of_block (setCell_other 1 _ hne)).trans ((World.cell?_of_block (setCell_other 0 _ hne)).trans (h5.trans e0)), (World.cell?_of_block (setCell_other 1 _ hne)).trans ((World.cell?_of_block (setCell_other 0 _ hne)).trans (h6.trans e1))⟩)
     clear hK K
     try simp only [Act.put, List.setIfInBounds_toArray, List.set_cons_zero, List.set_cons_succ]
     refine wpAnyH_done (by kernel_rfl) ?_ _
     go_wp2_with fail
     go_ret
     have hb0 := setCell_block (setCell_block ((HC5.out.block _ (heap_lt HX.out) (by simp)).trans HX.out) 0 (.slice (some ⟨g, 0, none⟩) D.n c)) 1 (.slice none 0 0)
     have hgl : g ≠ w.heap.size := by
      have := HK.out.2.2.1
      have h2 := HC.out.size
      have h3 := heap_lt HX.out
      have h4 : W.heap.size ≤ g := this
      omega
     refine ⟨w.heap.size, g, c, rfl, { n1 := H.out.n1, n2 := H.out.n2, le := H.out.le, cp := ⟨HK.out.1, by have := HK.out.2.1; unfold maxLen at this; exact this⟩, top := hb0, ty := ?_, blk := fun b hb i hi => ?_, wts := by rw [hw]; exact row_zero, wle := H.out.wle, wl := H.out.wl }, Nat.le_refl _, ?_, ?_⟩
     ·obtain ⟨cur, hcur⟩ := HK.out.2.2.2.1
      exact ⟨cur, (setCell_other 1 _ hgl).trans ((setCell_other 0 _ hgl).trans hcur)⟩
     ·exact (World.cell?_of_block ((setCell_other 1 _ hgl).trans (setCell_other 0 _ hgl))).trans (HK.out.2.2.2.2 b hb i hi)
     ·have := HK.out.2.2.1; have h2 := HC.out.size; have h4 : W.heap.size ≤ g := this; omega
     ·exact ((HC.out.trans HC5.out).setCell (p := ⟨w.heap.size, 0, none⟩) (.inr (Nat.le_refl _)) _).setCell (p := ⟨w.heap.size, 1, none⟩) (.inr (Nat.le_refl _)) _
end Go.Proofs.YtkhcaclndepgbaaGreat
