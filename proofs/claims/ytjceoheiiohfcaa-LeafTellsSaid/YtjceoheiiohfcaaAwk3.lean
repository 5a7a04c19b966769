/- catchmentlaw03.awake: the chapter's examples are as they should be. -/
import Derived.Test.YtjceoheiiohfcaaRefu
namespace Go.Proofs.Ytjceoheiiohfcaa
open Go.RowKit
set_option linter.unusedVariables false
set_option linter.unusedSimpArgs false

theorem nums_lit {w : World} {g n c : Nat} (l : List Nat) (h : w.heap[g]? = some (.cells (l.map fun (v : Nat) => Value.int .u64 (v : Int)).toArray 43 (0, 0))) (hn : n ≤ l.length) (hc : n ≤ c) (hc2 : c ≤ 100) (hb : ∀ i, i < n → l.getD i 0 < 18446744073709551616) :
    NumsIn [] w (.slice (some ⟨g, 0, none⟩) n c) n (fun i => l.getD i 0) :=
  .inr ⟨g, 0, c, rfl, hc, by unfold maxLen; omega, heap_lt h, by simp, fun i hi => ⟨by
    rw [Nat.zero_add, cell_of_block h]
    have : i < l.length := by omega
    simp [List.getD, this], hb i hi⟩⟩
theorem nums_nil (w : World) (f : Nat → Nat) : NumsIn [] w (.slice none 0 0) 0 f := .inl ⟨⟨none, 0, rfl, Nat.zero_le _, fun _ => rfl⟩, rfl⟩

namespace Awk3
theorem lt1 (l : List Nat) (n : Nat) (h : l.all (fun v => decide (v < 18446744073709551616)) = true) : ∀ i, i < n → l.getD i 0 < 18446744073709551616 := by
  intro i _
  rw [List.all_eq_true] at h
  rw [List.getD_eq_getElem?_getD]
  by_cases hi : i < l.length
  · rw [List.getElem?_eq_getElem hi]
    have := h _ (List.getElem_mem hi)
    simpa using this
  · rw [List.getElem?_eq_none (by omega)]
    decide
def k1 (i : Nat) : Nat := [5].getD i 0
def v1 (i : Nat) : Nat := [9].getD i 0
theorem r1 : rightB true 1 1 k1 v1 = true := by decide
theorem r0 : rightB true 0 0 k1 v1 = true := by decide
theorem k1_lt : ∀ i, i < 1 → k1 i < 18446744073709551616 := lt1 [5] 1 (by decide)
theorem v1_lt : ∀ i, i < 1 → v1 i < 18446744073709551616 := lt1 [9] 1 (by decide)
theorem p0 : pageF true 1 k1 v1 0 = 1 := page_kind _ _ _ _
theorem p1 : pageF true 1 k1 v1 1 = 1 := page_many _ _ _ _
theorem p9 : pageF true 1 k1 v1 9 = 5 := (page_low true 1 k1 v1 (i := 8) (by omega)).trans (by decide)
theorem p17 : pageF true 1 k1 v1 17 = 9 := (page_low true 1 k1 v1 (i := 16) (by omega)).trans (by decide)
theorem p18 : pageF true 1 k1 v1 18 = 0 := (page_low true 1 k1 v1 (i := 17) (by omega)).trans (by decide)
theorem q0 : pageF true 0 k1 v1 0 = 1 := page_kind _ _ _ _
theorem q1 : pageF true 0 k1 v1 1 = 0 := page_many _ _ _ _
theorem dec1 : decB 128 (pageF true 1 k1 v1) = true := decB_page r1 k1_lt v1_lt
theorem eq1 : eqN true true (pageF true 1 k1 v1 1) 1 (pageF true 1 k1 v1 1) 1 (pkey (pageF true 1 k1 v1)) k1 (pval (pageF true 1 k1 v1)) v1 = true := by
  unfold eqN
  rw [p1, Bool.and_eq_true, Bool.and_eq_true, eqF_iff, eqF_iff]
  exact ⟨rfl, ⟨rfl, fun i hi => pkey_page (by omega) k1_lt hi⟩, rfl, fun i hi => pval_page (by omega) v1_lt hi⟩
theorem f0 : rightB false 0 0 Awk3.k1 Awk3.v1 = false := by decide
theorem f1 : rightB false 1 1 (fun i => [0, 1, 2, 3, 4, 5, 6, 7].getD i 0) (fun i => [0].getD i 0) = false := by decide
theorem f2 : rightB false 1 1 (fun i => [0, 1, 2, 3, 4, 5, 6, 7].getD i 0) (fun i => [4096].getD i 0) = false := by decide
theorem f3 : rightB false 2 2 (fun i => [0, 1, 2, 3, 4, 5, 6, 7].getD i 0) (fun i => [3, 3].getD i 0) = false := by decide
theorem f4 : rightB true 2 2 (fun i => [5, 5].getD i 0) (fun i => [1, 2].getD i 0) = false := by decide
theorem f5 : rightB true 8 8 (fun i => [0, 1, 2, 3, 4, 5, 6, 7].getD i 0) (fun i => [0, 1, 2, 3, 4, 5, 6, 7].getD i 0) = false := by decide
theorem f6 : rightB true 2 1 (fun i => [0, 1, 2, 3, 4, 5, 6, 7].getD i 0) (fun i => [1].getD i 0) = false := by decide
end Awk3

theorem page_cell {w : World} {g : Nat} {f : Nat → Nat} (h : w.heap[g]? = some (.cells (u8s 128 f) 5 (0, 0))) {i v : Nat} (hi : i < 128) (hv : f i = v) : w.cell? ⟨g, i, none⟩ = some (.int .u8 (v : Int)) := by
  rw [cell_of_block h, u8s_get hi, hv]

set_option maxRecDepth 20000 in
set_option maxHeartbeats 4000000 in
theorem awake03 (w : World) : Calls Try.prog 9 #[] w fun e w' => e = .returned (.bool true) ∧ Chg [] w w' := by
  have K0 := Lib.hid (nums_lit (n := 1) (c := 1) [5] (new_block21 w (.cells #[.int .u64 5] 43) (.cells #[.int .u64 9] 43)) (by decide) (by decide) (by decide) (Awk3.lt1 _ _ (by decide)))
  have V0 := Lib.hid (nums_lit (n := 1) (c := 1) [9] (new_block2 w (.cells #[.int .u64 5] 43) (.cells #[.int .u64 9] 43)) (by decide) (by decide) (by decide) (Awk3.lt1 _ _ (by decide)))
  have C0 := Lib.hid (((Chg.refl [] w).alloc (.cells #[.int .u64 5] 43)).alloc (.cells #[.int .u64 9] 43))
  go_enter Try.func9, Try.ntmps9
  go_wp2_with fail
  refine (enc_ok (leaf := true) (keys := Awk3.k1) (vals := Awk3.v1) K0.out V0.out Awk3.r1).mono ?_
  rintro e w1 ⟨g, rfl, hg, hB, hC⟩
  have B1 := Lib.hid hB
  have C1 := Lib.hid (C0.out.trans hC)
  clear hB hC K0 V0 C0 hg
  go_wp2_with fail
  refine (enc_ok (leaf := true) (nums_nil _ Awk3.k1) (nums_nil _ Awk3.v1) Awk3.r0).mono ?_
  rintro e w2 ⟨g2, rfl, hg2, hB2, hC2⟩
  have hB := (hC2.block g (heap_lt B1.out) (by simp)).trans B1.out
  have B2 := Lib.hid hB
  have C2 := Lib.hid (C1.out.trans hC2)
  have a0 := page_cell hB (i := 0) (by omega) Awk3.p0
  have a1 := page_cell hB (i := 1) (by omega) Awk3.p1
  have a9 := page_cell hB (i := 9) (by omega) Awk3.p9
  have a17 := page_cell hB (i := 17) (by omega) Awk3.p17
  have a18 := page_cell hB (i := 18) (by omega) Awk3.p18
  have b0 := page_cell hB2 (i := 0) (by omega) Awk3.q0
  have b1 := page_cell hB2 (i := 1) (by omega) Awk3.q1
  have hp := of_block_in hB (fun i _ => pageF_le true (by omega) _ _ _)
  have cD := dec_at hp
  rw [Awk3.dec1, Awk3.p0] at cD
  have cD' : Calls Try.prog 14 #[.slice (some ⟨g, 0, none⟩) 128 128] w2 (DecOk w2 true (pageF true 1 Awk3.k1 Awk3.v1)) := cD
  clear hB hB2 hC2 hg2 hp cD B1 C1
  go_wp2_with fail
  refine cD'.mono ?_
  clear cD' a0 a1 a9 a17 a18 b0 b1
  rintro e w3 ⟨kb, vb, rfl, d1, d2, d3, hK3, hV3, hC3⟩
  rw [Awk3.p1] at hK3 hV3 ⊢
  have C3 := Lib.hid (C2.out.trans hC3)
  have kb3 := hK3.lt
  have vb3 := hV3.lt
  have K3 := Lib.hid hK3
  have V3 := Lib.hid hV3
  clear hK3 hV3 hC3 C2 B2
  go_wp2_with fail
  have hc4 : Chg [] w3 (((w3.alloc (.cells #[.bool true, .slice (some ⟨kb, 0, none⟩) 1 1, .slice (some ⟨vb, 0, none⟩) 1 1] 24)).alloc (.cells #[.int .u64 5] 43)).alloc (.cells #[.int .u64 9] 43)) := (((Chg.refl [] w3).alloc _).alloc _).alloc _
  have nK : NumsIn [] (((w3.alloc (.cells #[.bool true, .slice (some ⟨kb, 0, none⟩) 1 1, .slice (some ⟨vb, 0, none⟩) 1 1] 24)).alloc (.cells #[.int .u64 5] 43)).alloc (.cells #[.int .u64 9] 43)) (.slice (some ⟨kb, 0, none⟩) 1 1) 1 (pkey (pageF true 1 Awk3.k1 Awk3.v1)) := .inr ⟨kb, 0, 1, rfl, Nat.le_refl _, by unfold maxLen; omega, Nat.lt_of_lt_of_le kb3 hc4.size, by simp, K3.out.nums.chg hc4 (by simp)⟩
  have nV : NumsIn [] (((w3.alloc (.cells #[.bool true, .slice (some ⟨kb, 0, none⟩) 1 1, .slice (some ⟨vb, 0, none⟩) 1 1] 24)).alloc (.cells #[.int .u64 5] 43)).alloc (.cells #[.int .u64 9] 43)) (.slice (some ⟨vb, 0, none⟩) 1 1) 1 (pval (pageF true 1 Awk3.k1 Awk3.v1)) := .inr ⟨vb, 0, 1, rfl, Nat.le_refl _, by unfold maxLen; omega, Nat.lt_of_lt_of_le vb3 hc4.size, by simp, V3.out.nums.chg hc4 (by simp)⟩
  have n5 := nums_lit (n := 1) (c := 1) [5] (new_block21 (w3.alloc (.cells #[.bool true, .slice (some ⟨kb, 0, none⟩) 1 1, .slice (some ⟨vb, 0, none⟩) 1 1] 24)) (.cells #[.int .u64 5] 43) (.cells #[.int .u64 9] 43)) (by decide) (by decide) (by decide) (Awk3.lt1 _ _ (by decide))
  have n9 := nums_lit (n := 1) (c := 1) [9] (new_block2 (w3.alloc (.cells #[.bool true, .slice (some ⟨kb, 0, none⟩) 1 1, .slice (some ⟨vb, 0, none⟩) 1 1] 24)) (.cells #[.int .u64 5] 43) (.cells #[.int .u64 9] 43)) (by decide) (by decide) (by decide) (Awk3.lt1 _ _ (by decide))
  simp only [size_alloc'] at n5 n9
  have cE := equalNodes_at (l := true) (l' := true) nK nV n5 n9
  have eE := Awk3.eq1
  rw [Awk3.p1] at eE
  rw [show eqN true true 1 1 1 1 (pkey (pageF true 1 Awk3.k1 Awk3.v1)) (fun i => [5].getD i 0) (pval (pageF true 1 Awk3.k1 Awk3.v1)) (fun i => [9].getD i 0) = true from eE] at cE
  have C4' := Lib.hid (C3.out.trans hc4)
  clear eE nK nV n5 n9 hc4 K3 V3 C3
  refine cE.mono ?_
  clear cE
  rintro e w4 ⟨rfl, hC4⟩
  have C4 := Lib.hid ((C4'.out.trans hC4).alloc (.cells #[.int .u64 0, .int .u64 1, .int .u64 2, .int .u64 3, .int .u64 4, .int .u64 5, .int .u64 6, .int .u64 7] 43))
  have B4 := Lib.hid (new_block w4 (.cells #[.int .u64 0, .int .u64 1, .int .u64 2, .int .u64 3, .int .u64 4, .int .u64 5, .int .u64 6, .int .u64 7] 43))
  clear hC4 C4'
  go_wp2_with fail
  refine (refused_at (leaf := false) (w := (w4.alloc (.cells #[.int .u64 0, .int .u64 1, .int .u64 2, .int .u64 3, .int .u64 4, .int .u64 5, .int .u64 6, .int .u64 7] 43))) (nums_nil _ Awk3.k1) (nums_nil _ Awk3.v1) Awk3.f0).mono ?_
  rintro e w5 ⟨rfl, hC⟩
  have hD : Chg [] (w4.alloc (.cells #[.int .u64 0, .int .u64 1, .int .u64 2, .int .u64 3, .int .u64 4, .int .u64 5, .int .u64 6, .int .u64 7] 43)) w5 := (Chg.refl [] _).trans hC
  have B5 := Lib.hid ((hD.block w4.heap.size (heap_lt B4.out) (by simp)).trans B4.out)
  have C5 := Lib.hid (C4.out.trans hD)
  clear hC hD B4 C4
  go_wp2_with fail
  refine (refused_at (leaf := false) (w := (w5.alloc (.cells #[.int .u64 0] 43))) (nums_lit (n := 1) (c := 8) [0, 1, 2, 3, 4, 5, 6, 7] (g := w4.heap.size) ((((Chg.refl [] _).alloc _).block _ (heap_lt B5.out) (by simp)).trans B5.out) (by decide) (by decide) (by decide) (Awk3.lt1 _ _ (by decide))) (nums_lit (n := 1) (c := 1) [0] (new_block _ (.cells #[.int .u64 0] 43)) (by decide) (by decide) (by decide) (Awk3.lt1 _ _ (by decide))) Awk3.f1).mono ?_
  rintro e w6 ⟨rfl, hC⟩
  have hD : Chg [] w5 w6 := ((Chg.refl [] _).alloc _).trans hC
  have B6 := Lib.hid ((hD.block w4.heap.size (heap_lt B5.out) (by simp)).trans B5.out)
  have C6 := Lib.hid (C5.out.trans hD)
  clear hC hD B5 C5
  go_wp2_with fail
  refine (refused_at (leaf := false) (w := (w6.alloc (.cells #[.int .u64 4096] 43))) (nums_lit (n := 1) (c := 8) [0, 1, 2, 3, 4, 5, 6, 7] (g := w4.heap.size) ((((Chg.refl [] _).alloc _).block _ (heap_lt B6.out) (by simp)).trans B6.out) (by decide) (by decide) (by decide) (Awk3.lt1 _ _ (by decide))) (nums_lit (n := 1) (c := 1) [4096] (new_block _ (.cells #[.int .u64 4096] 43)) (by decide) (by decide) (by decide) (Awk3.lt1 _ _ (by decide))) Awk3.f2).mono ?_
  rintro e w7 ⟨rfl, hC⟩
  have hD : Chg [] w6 w7 := ((Chg.refl [] _).alloc _).trans hC
  have B7 := Lib.hid ((hD.block w4.heap.size (heap_lt B6.out) (by simp)).trans B6.out)
  have C7 := Lib.hid (C6.out.trans hD)
  clear hC hD B6 C6
  go_wp2_with fail
  refine (refused_at (leaf := false) (w := (w7.alloc (.cells #[.int .u64 3, .int .u64 3] 43))) (nums_lit (n := 2) (c := 8) [0, 1, 2, 3, 4, 5, 6, 7] (g := w4.heap.size) ((((Chg.refl [] _).alloc _).block _ (heap_lt B7.out) (by simp)).trans B7.out) (by decide) (by decide) (by decide) (Awk3.lt1 _ _ (by decide))) (nums_lit (n := 2) (c := 2) [3, 3] (new_block _ (.cells #[.int .u64 3, .int .u64 3] 43)) (by decide) (by decide) (by decide) (Awk3.lt1 _ _ (by decide))) Awk3.f3).mono ?_
  rintro e w8 ⟨rfl, hC⟩
  have hD : Chg [] w7 w8 := ((Chg.refl [] _).alloc _).trans hC
  have B8 := Lib.hid ((hD.block w4.heap.size (heap_lt B7.out) (by simp)).trans B7.out)
  have C8 := Lib.hid (C7.out.trans hD)
  clear hC hD B7 C7
  go_wp2_with fail
  refine (refused_at (leaf := true) (w := ((w8.alloc (.cells #[.int .u64 5, .int .u64 5] 43)).alloc (.cells #[.int .u64 1, .int .u64 2] 43))) (nums_lit (n := 2) (c := 2) [5, 5] (new_block21 _ (.cells #[.int .u64 5, .int .u64 5] 43) (.cells #[.int .u64 1, .int .u64 2] 43)) (by decide) (by decide) (by decide) (Awk3.lt1 _ _ (by decide))) (nums_lit (n := 2) (c := 2) [1, 2] (new_block2 _ (.cells #[.int .u64 5, .int .u64 5] 43) (.cells #[.int .u64 1, .int .u64 2] 43)) (by decide) (by decide) (by decide) (Awk3.lt1 _ _ (by decide))) Awk3.f4).mono ?_
  rintro e w9 ⟨rfl, hC⟩
  have hD : Chg [] w8 w9 := (((Chg.refl [] _).alloc _).alloc _).trans hC
  have B9 := Lib.hid ((hD.block w4.heap.size (heap_lt B8.out) (by simp)).trans B8.out)
  have C9 := Lib.hid (C8.out.trans hD)
  clear hC hD B8 C8
  go_wp2_with fail
  refine (refused_at (leaf := true) (w := w9) (nums_lit (n := 8) (c := 8) [0, 1, 2, 3, 4, 5, 6, 7] (g := w4.heap.size) (((Chg.refl [] _).block _ (heap_lt B9.out) (by simp)).trans B9.out) (by decide) (by decide) (by decide) (Awk3.lt1 _ _ (by decide))) (nums_lit (n := 8) (c := 8) [0, 1, 2, 3, 4, 5, 6, 7] (g := w4.heap.size) (((Chg.refl [] _).block _ (heap_lt B9.out) (by simp)).trans B9.out) (by decide) (by decide) (by decide) (Awk3.lt1 _ _ (by decide))) Awk3.f5).mono ?_
  rintro e w10 ⟨rfl, hC⟩
  have hD : Chg [] w9 w10 := (Chg.refl [] _).trans hC
  have B10 := Lib.hid ((hD.block w4.heap.size (heap_lt B9.out) (by simp)).trans B9.out)
  have C10 := Lib.hid (C9.out.trans hD)
  clear hC hD B9 C9
  go_wp2_with fail
  refine (refused_at (leaf := true) (w := (w10.alloc (.cells #[.int .u64 1] 43))) (nums_lit (n := 2) (c := 8) [0, 1, 2, 3, 4, 5, 6, 7] (g := w4.heap.size) ((((Chg.refl [] _).alloc _).block _ (heap_lt B10.out) (by simp)).trans B10.out) (by decide) (by decide) (by decide) (Awk3.lt1 _ _ (by decide))) (nums_lit (n := 1) (c := 1) [1] (new_block _ (.cells #[.int .u64 1] 43)) (by decide) (by decide) (by decide) (Awk3.lt1 _ _ (by decide))) Awk3.f6).mono ?_
  rintro e w11 ⟨rfl, hC⟩
  have hD : Chg [] w10 w11 := ((Chg.refl [] _).alloc _).trans hC
  have B11 := Lib.hid ((hD.block w4.heap.size (heap_lt B10.out) (by simp)).trans B10.out)
  have C11 := Lib.hid (C10.out.trans hD)
  clear hC hD B10 C10
  go_wp2_with fail
  go_ret
  exact ⟨rfl, C11.out⟩

end Go.Proofs.Ytjceoheiiohfcaa
