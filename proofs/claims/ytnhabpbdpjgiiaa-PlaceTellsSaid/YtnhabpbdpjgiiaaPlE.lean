/- Layer 10: a sheet of pages that stand nowhere. (Printed by mkple.py.) -/
import Derived.Test.YtnhabpbdpjgiiaaPlC
namespace Go.Proofs.Ytnhabpbdpjgiiaa
open Go.RowKit
set_option linter.unusedVariables false
set_option linter.unusedSimpArgs false

def nOf (n : Nat) (k : Nat) : Nat := if k = 0 then pg n else pg (pg n)
theorem empty_ok (T : Tal) : ShOk T (nOf T.n) (fun _ _ => 0) := ⟨rfl, rfl, fun k i _ _ h => absurd rfl h, fun k i k' i' _ _ _ _ h => absurd rfl h⟩
theorem zrow_sl {w : World} {b n : Nat} (h : w.heap[b]? = some (.cells (zrow n (.int .i64 0)) 3 (0, 0))) (hn : n ≤ 4096) {A : Nat → Nat → Nat} {nn : Nat → Nat} {k : Nat} (hA : ∀ i, A k i = 0) (hk : nn k = n) : SlI w (.slice (some ⟨b, 0, none⟩) n n) (atL A nn k) := by
  refine .inr ⟨b, n, by rw [atL_len, hk], by rw [atL_len, hk]; exact Nat.le_refl _, by unfold maxLen; omega, heap_lt h, fun i hi => ?_⟩
  rw [atL_len] at hi
  rw [atL_get _ _ hi, hA, cell_of_block h]
  rw [hk] at hi
  simp [zrow, hi]
def EmptyR (n : Nat) (w : World) (e : Ending) (w' : World) : Prop :=
  ∃ v0 v1 g c, e = .returned (.agg #[v0, v1]) ∧ ShV w' v0 v1 (fun _ _ => 0) (nOf n) g c ∧ (∀ k, k < 2 → w.heap.size ≤ g k) ∧ Chg [] w w'
theorem empty_end {w W : World} {n r h0 h1 : Nat} (hn : n ≤ 4096) (hC : Chg [] w W) (hr : W.heap[r]? = some (.cells #[.slice none 0 0, .slice none 0 0] 42 (0, 0))) (hrw : w.heap.size ≤ r)
    (hb0 : W.heap[h0]? = some (.cells (zrow (pg n) (.int .i64 0)) 3 (0, 0))) (hb1 : W.heap[h1]? = some (.cells (zrow (pg (pg n)) (.int .i64 0)) 3 (0, 0))) (h0r : h0 ≠ r) (h1r : h1 ≠ r) (hw0 : w.heap.size ≤ h0) (hw1 : w.heap.size ≤ h1) :
    ∀ W2, W2 = (W.setCell ⟨r, 0, none⟩ (.slice (some ⟨h0, 0, none⟩) (pg n) (pg n))).setCell ⟨r, 1, none⟩ (.slice (some ⟨h1, 0, none⟩) (pg (pg n)) (pg (pg n))) →
      W2.cell? ⟨r, 0, none⟩ = some (.slice (some ⟨h0, 0, none⟩) (pg n) (pg n)) ∧ W2.cell? ⟨r, 1, none⟩ = some (.slice (some ⟨h1, 0, none⟩) (pg (pg n)) (pg (pg n))) ∧
      EmptyR n w (.returned (.agg #[.slice (some ⟨h0, 0, none⟩) (pg n) (pg n), .slice (some ⟨h1, 0, none⟩) (pg (pg n)) (pg (pg n))])) W2 := by
  rintro W2 rfl
  have hW := setCell_block (setCell_block hr 0 (.slice (some ⟨h0, 0, none⟩) (pg n) (pg n))) 1 (.slice (some ⟨h1, 0, none⟩) (pg (pg n)) (pg (pg n)))
  have k0 := cell_of_block hW 0
  have k1 := cell_of_block hW 1
  simp only [List.setIfInBounds_toArray, List.set_cons_zero, List.set_cons_succ, List.getElem?_toArray, List.getElem?_cons_zero, List.getElem?_cons_succ] at k0 k1
  have p2 := pg_le (n := n)
  have p4 := pg_le (n := pg n)
  refine ⟨k0, k1, _, _, fun k => if k = 0 then h0 else h1, nOf n, rfl, ⟨rfl, rfl, fun k hk => ?_⟩, fun k hk => ?_, (hC.setCell (.inr hrw) _).setCell (.inr hrw) _⟩
  · have hk2 : k = 0 ∨ k = 1 := by omega
    rcases hk2 with rfl | rfl
    · exact zrow_sl (k := 0) ((setCell_other 1 _ h0r).trans ((setCell_other 0 _ h0r).trans hb0)) (by omega) (fun _ => rfl) rfl
    · exact zrow_sl (k := 1) ((setCell_other 1 _ h1r).trans ((setCell_other 0 _ h1r).trans hb1)) (by omega) (fun _ => rfl) rfl
  · have hk2 : k = 0 ∨ k = 1 := by omega
    rcases hk2 with rfl | rfl <;> simp <;> omega

set_option maxRecDepth 20000 in
set_option maxHeartbeats 2000000 in
theorem empty_at {n : Nat} (w : World) (h1 : 1 ≤ n) (h2 : n ≤ 4096) : Calls Try.prog 12 #[.int .i64 (n : Int)] w (EmptyR n w) := by
  have p1 := pg_pos h1
  have p2 := pg_le (n := n)
  have p4 := pg_le (n := pg n)
  have e1 : ((n : Int) + 60) / 61 = ((pg n : Nat) : Int) := by unfold pg; omega
  have e2 : ((pg n : Int) + 60) / 61 = ((pg (pg n) : Nat) : Int) := by have : pg (pg n) = (pg n + 60) / 61 := rfl; omega
  have E2 : IntKind.i64.wrap ((IntKind.i64.wrap ((pg n : Int) + 60)).tdiv 61) = ((pg (pg n) : Nat) : Int) := by
    have a : IntKind.i64.wrap ((pg n : Int) + 60) = (pg n : Int) + 60 := by rw [IntKind.wrap_i64]; omega
    have b : ((pg n : Int) + 60).tdiv 61 = ((pg (pg n) : Nat) : Int) := by rw [Int.tdiv_eq_ediv_of_nonneg (by omega)]; exact e2
    rw [a, b, IntKind.wrap_i64]
    omega
  have mk0 := run_make1 (P := Try.prog) 31 3 Try.underlying31 infoInt8 rfl .i64 .i64 (pg n) (by omega) (by omega)
  have mk1 := run_make1 (P := Try.prog) 31 3 Try.underlying31 infoInt8 rfl .i64 .i64 (pg (pg n)) (by omega) (by omega)
  have hr := new_block w (.cells #[.slice none 0 0, .slice none 0 0] 42)
  have hC := (Chg.refl [] w).alloc (.cells #[.slice none 0 0, .slice none 0 0] 42)
  have hz := size_alloc' w (.cells #[.slice none 0 0, .slice none 0 0] 42)
  go_enter Try.func12, Try.ntmps12
  go_upto_region 2 with fail
  generalize w.alloc _ = w1 at *
  have HR := Lib.hid hr
  have HC := Lib.hid hC
  have HSZ := Lib.hid hz
  clear hr hC hz
  have HC0 := Lib.hid ((Chg.refl [] w1).drew)
  refine wp_region_held_drew (S := fun _ => True) (by kernel_rfl) (by exact trivial) (fun hHeld => ?_)
  refine wpAnyH_take (i := 0) (oi := ?_) (v := ?_) ?_ (by kernel_rfl) (by kernel_rfl) (by kernel_rfl) ?_ (Or.inl ⟨?_, ?_⟩) hHeld ?_
  rotate_left 2
  · (simp only [List.getElem?_toArray, List.getElem?_cons_succ, List.getElem?_cons_zero]; rfl)
  · exact fun _ _ _ h => h
  · rfl
  · (intro W' hW'; go_simp; first | done | with_reducible rfl)
  try simp only [Act.put, List.setIfInBounds_toArray, List.set_cons_zero, List.set_cons_succ]
  refine wpAnyH_take (i := 2) (oi := ?_) (v := ?_) ?_ (by kernel_rfl) (by kernel_rfl) (by kernel_rfl) ?_ (Or.inl ⟨?_, ?_⟩) hHeld ?_
  rotate_left 2
  · (simp only [List.getElem?_toArray, List.getElem?_cons_succ, List.getElem?_cons_zero]; rfl)
  · exact fun _ _ _ h => h
  · rfl
  · (intro W' hW'; go_simp; first | done | with_reducible rfl)
  try simp only [Act.put, List.setIfInBounds_toArray, List.set_cons_zero, List.set_cons_succ]
  refine wpAnyH_take (i := 3) (oi := ?_) (v := ?_) ?_ (by kernel_rfl) (by kernel_rfl) (by kernel_rfl) ?_ (Or.inl ⟨?_, ?_⟩) hHeld ?_
  rotate_left 2
  · (simp only [List.getElem?_toArray, List.getElem?_cons_succ, List.getElem?_cons_zero]; rfl)
  · exact fun _ _ _ h => h
  · rfl
  · (intro W' hW'; go_simp; first | done | with_reducible rfl)
  try simp only [Act.put, List.setIfInBounds_toArray, List.set_cons_zero, List.set_cons_succ]
  refine wpAnyH_take (i := 4) (oi := ?_) (v := ?_) ?_ (by kernel_rfl) (by kernel_rfl) (by kernel_rfl) ?_ (Or.inl ⟨?_, ?_⟩) hHeld ?_
  rotate_left 2
  · (simp only [List.getElem?_toArray, List.getElem?_cons_succ, List.getElem?_cons_zero]; rfl)
  · exact fun _ _ _ h => h
  · rfl
  · (intro W' hW'; go_simp; first | done | with_reducible rfl)
  try simp only [Act.put, List.setIfInBounds_toArray, List.set_cons_zero, List.set_cons_succ]
  generalize w1.drew = w2 at *
  refine wpAnyH_ready (rs := [1, 5]) (by kernel_rfl) (by simp) ?_
  refine AllReadyH.cons (o := ?_) ?_ (fun K hK => ?_) ?_
  rotate_left 1
  · (simp only [List.getElem?_toArray, List.getElem?_cons_succ, List.getElem?_cons_zero]; rfl)
  · (go_simp; have FB1 := Lib.hid (new_block w2 (.cells (zrow (pg n) (.int .i64 0)) 3)); have HC1 := Lib.hid (HC0.out.alloc (.cells (zrow (pg n) (.int .i64 0)) 3)); have sz1 := Lib.hid (size_alloc' w2 (.cells (zrow (pg n) (.int .i64 0)) 3)); generalize w2.alloc _ = W81 at *)
    refine hK.out _ _ ?_ (fun hHeld => ?_)
    · exact trivial
    clear hK K
    try simp only [Act.put, List.setIfInBounds_toArray, List.set_cons_zero, List.set_cons_succ]
    refine wpAnyH_ready (rs := [5]) (by kernel_rfl) (by simp) ?_
    refine AllReadyH.cons (o := ?_) ?_ (fun K hK => ?_) AllReadyH.nil
    rotate_left 1
    · (simp only [List.getElem?_toArray, List.getElem?_cons_succ, List.getElem?_cons_zero]; rfl)
    · (go_simp; have FB2 := Lib.hid (new_block W81 (.cells (zrow (pg (pg n)) (.int .i64 0)) 3)); have FB1' := Lib.hid ((((Chg.refl [] W81).alloc (.cells (zrow (pg (pg n)) (.int .i64 0)) 3)).block _ (heap_lt FB1.out) (by simp)).trans FB1.out); have HC2 := Lib.hid (HC1.out.alloc (.cells (zrow (pg (pg n)) (.int .i64 0)) 3)); have sz2 := Lib.hid (size_alloc' W81 (.cells (zrow (pg (pg n)) (.int .i64 0)) 3)); generalize W81.alloc _ = W82 at *)
      refine hK.out _ _ ?_ (fun hHeld => ?_)
      · exact trivial
      clear hK K
      try simp only [Act.put, List.setIfInBounds_toArray, List.set_cons_zero, List.set_cons_succ]
      refine wpAnyH_take (i := 6) (oi := ?_) (v := ?_) ?_ (by kernel_rfl) (by kernel_rfl) (by kernel_rfl) ?_ (Or.inl ⟨?_, ?_⟩) hHeld ?_
      rotate_left 2
      · (simp only [List.getElem?_toArray, List.getElem?_cons_succ, List.getElem?_cons_zero]; rfl)
      · exact fun _ _ _ h => h
      · rfl
      · (intro W' hW'; go_simp; first | done | with_reducible rfl)
      try simp only [Act.put, List.setIfInBounds_toArray, List.set_cons_zero, List.set_cons_succ]
      refine wpAnyH_ready (rs := [7]) (by kernel_rfl) (by simp) ?_
      refine AllReadyH.cons (o := ?_) ?_ (fun K hK => ?_) AllReadyH.nil
      rotate_left 1
      · (simp only [List.getElem?_toArray, List.getElem?_cons_succ, List.getElem?_cons_zero]; rfl)
      · (have hx2 := (HC2.out.block _ (heap_lt HR.out) (by simp)).trans HR.out; have z4 := cell_of_block hx2 0; have z5 := cell_of_block hx2 1; have f4 := frozen_of_block hx2 0; have f5 := frozen_of_block hx2 1; simp only [List.getElem?_toArray, List.getElem?_cons_zero, List.getElem?_cons_succ] at z4 z5; have HX2 := Lib.hid hx2; clear hx2; go_simp)
        refine hK.out _ _ ?_ (fun hHeld => ?_)
        · exact trivial
        clear hK K
        try simp only [Act.put, List.setIfInBounds_toArray, List.set_cons_zero, List.set_cons_succ]
        refine wpAnyH_done (by kernel_rfl) ?_ _
        have HF := Lib.hid (empty_end (n := n) h2 (HC.out.trans HC2.out) HX2.out (Nat.le_refl _) FB1'.out FB2.out (by have q0 := HSZ.out; have q1 := sz1.out; have q2 := sz2.out; have q3 := HC0.out.size; omega) (by have q0 := HSZ.out; have q1 := sz1.out; have q2 := sz2.out; have q3 := HC0.out.size; omega) (by have q0 := HSZ.out; have q1 := sz1.out; have q2 := sz2.out; have q3 := HC0.out.size; omega) (by have q0 := HSZ.out; have q1 := sz1.out; have q2 := sz2.out; have q3 := HC0.out.size; omega))
        go_wp2_with fail
        obtain ⟨k0, k1, hP⟩ := HF.out _ rfl
        exact bodyPost_ret (v := .agg #[.slice (some ⟨w2.heap.size, 0, none⟩) (pg n) (pg n), .slice (some ⟨W81.heap.size, 0, none⟩) (pg (pg n)) (pg (pg n))]) (by simp [results, Try.results12, go_sem, k0, k1]) rfl hP
  refine AllReadyH.cons (o := ?_) ?_ (fun K hK => ?_) AllReadyH.nil
  rotate_left 1
  · (simp only [List.getElem?_toArray, List.getElem?_cons_succ, List.getElem?_cons_zero]; rfl)
  · (go_simp; have FB1 := Lib.hid (new_block w2 (.cells (zrow (pg (pg n)) (.int .i64 0)) 3)); have HC1 := Lib.hid (HC0.out.alloc (.cells (zrow (pg (pg n)) (.int .i64 0)) 3)); have sz1 := Lib.hid (size_alloc' w2 (.cells (zrow (pg (pg n)) (.int .i64 0)) 3)); generalize w2.alloc _ = W81 at *)
    refine hK.out _ _ ?_ (fun hHeld => ?_)
    · exact trivial
    clear hK K
    try simp only [Act.put, List.setIfInBounds_toArray, List.set_cons_zero, List.set_cons_succ]
    refine wpAnyH_ready (rs := [1]) (by kernel_rfl) (by simp) ?_
    refine AllReadyH.cons (o := ?_) ?_ (fun K hK => ?_) AllReadyH.nil
    rotate_left 1
    · (simp only [List.getElem?_toArray, List.getElem?_cons_succ, List.getElem?_cons_zero]; rfl)
    · (go_simp; have FB2 := Lib.hid (new_block W81 (.cells (zrow (pg n) (.int .i64 0)) 3)); have FB1' := Lib.hid ((((Chg.refl [] W81).alloc (.cells (zrow (pg n) (.int .i64 0)) 3)).block _ (heap_lt FB1.out) (by simp)).trans FB1.out); have HC2 := Lib.hid (HC1.out.alloc (.cells (zrow (pg n) (.int .i64 0)) 3)); have sz2 := Lib.hid (size_alloc' W81 (.cells (zrow (pg n) (.int .i64 0)) 3)); generalize W81.alloc _ = W82 at *)
      refine hK.out _ _ ?_ (fun hHeld => ?_)
      · exact trivial
      clear hK K
      try simp only [Act.put, List.setIfInBounds_toArray, List.set_cons_zero, List.set_cons_succ]
      refine wpAnyH_take (i := 6) (oi := ?_) (v := ?_) ?_ (by kernel_rfl) (by kernel_rfl) (by kernel_rfl) ?_ (Or.inl ⟨?_, ?_⟩) hHeld ?_
      rotate_left 2
      · (simp only [List.getElem?_toArray, List.getElem?_cons_succ, List.getElem?_cons_zero]; rfl)
      · exact fun _ _ _ h => h
      · rfl
      · (intro W' hW'; go_simp; first | done | with_reducible rfl)
      try simp only [Act.put, List.setIfInBounds_toArray, List.set_cons_zero, List.set_cons_succ]
      refine wpAnyH_ready (rs := [7]) (by kernel_rfl) (by simp) ?_
      refine AllReadyH.cons (o := ?_) ?_ (fun K hK => ?_) AllReadyH.nil
      rotate_left 1
      · (simp only [List.getElem?_toArray, List.getElem?_cons_succ, List.getElem?_cons_zero]; rfl)
      · (have hx2 := (HC2.out.block _ (heap_lt HR.out) (by simp)).trans HR.out; have z4 := cell_of_block hx2 0; have z5 := cell_of_block hx2 1; have f4 := frozen_of_block hx2 0; have f5 := frozen_of_block hx2 1; simp only [List.getElem?_toArray, List.getElem?_cons_zero, List.getElem?_cons_succ] at z4 z5; have HX2 := Lib.hid hx2; clear hx2; go_simp)
        refine hK.out _ _ ?_ (fun hHeld => ?_)
        · exact trivial
        clear hK K
        try simp only [Act.put, List.setIfInBounds_toArray, List.set_cons_zero, List.set_cons_succ]
        refine wpAnyH_done (by kernel_rfl) ?_ _
        have HF := Lib.hid (empty_end (n := n) h2 (HC.out.trans HC2.out) HX2.out (Nat.le_refl _) FB2.out FB1'.out (by have q0 := HSZ.out; have q1 := sz1.out; have q2 := sz2.out; have q3 := HC0.out.size; omega) (by have q0 := HSZ.out; have q1 := sz1.out; have q2 := sz2.out; have q3 := HC0.out.size; omega) (by have q0 := HSZ.out; have q1 := sz1.out; have q2 := sz2.out; have q3 := HC0.out.size; omega) (by have q0 := HSZ.out; have q1 := sz1.out; have q2 := sz2.out; have q3 := HC0.out.size; omega))
        go_wp2_with fail
        obtain ⟨k0, k1, hP⟩ := HF.out _ rfl
        exact bodyPost_ret (v := .agg #[.slice (some ⟨W81.heap.size, 0, none⟩) (pg n) (pg n), .slice (some ⟨w2.heap.size, 0, none⟩) (pg (pg n)) (pg (pg n))]) (by simp [results, Try.results12, go_sem, k0, k1]) rfl hP

end Go.Proofs.Ytnhabpbdpjgiiaa
