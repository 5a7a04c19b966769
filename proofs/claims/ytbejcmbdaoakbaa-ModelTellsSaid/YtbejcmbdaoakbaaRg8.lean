/- The reference of layer 24: Do, code by code. (Printed by mkrdo.py.) -/
import Derived.Test.YtbejcmbdaoakbaaRg4
import Derived.Test.YtbejcmbdaoakbaaRg5
import Derived.Test.YtbejcmbdaoakbaaRg7
namespace Go.Proofs.Ytbejcmbdaoakbaa
open Go.RowKit
set_option linter.unusedVariables false
set_option linter.unusedSimpArgs false

/-- The reply is stored: the reference as it was. -/
theorem rdo_fin {L L' : List Nat} {B' : Nat} {w w2 w4 w5 : World} {p b4 : Nat} {vv' : Value} {R' : RSt} (hR : RefAt L' B' w4 p vv' R') (hL : ∀ b, b ∈ L' → b ∈ L ∨ w2.heap.size ≤ b) (hlt : ∀ b, b ∈ L → b < w.heap.size) (h4 : w.heap.size ≤ b4) (h42 : b4 < w2.heap.size) (c : Chg [b4] w4 w5) : RefAt L' B' w5 p vv' R' :=
  hR.chg c (fun b hb => by
    simp only [List.mem_singleton]
    rcases hL b hb with h | h
    · have := hlt b h; omega
    · omega)

set_option maxRecDepth 20000 in
set_option maxHeartbeats 4000000 in
theorem rdo_err {L : List Nat} {B : Nat} {w : World} {p code er vol pl n dl dc : Nat} {da : Option Addr} {vv : Value} {R : RSt} (h : RefAt L B w p vv R) (hB : B ≤ 1000000) (hc : code ≤ 255) (he : er ≠ 0) (hw : wrongR R code vol pl n dl = er) :
    Calls Try.prog 18 #[.pointer (some ⟨p, 0, none⟩), .agg #[.int .u8 (code : Int), .int .u64 (vol : Int), .int .u64 (pl : Int), .int .u64 (n : Int), .slice da dl dc]] w fun e w' => e = .returned (repV er 0 (.slice none 0 0) 0) ∧ Chg [] w w' := by
  have H := Lib.hid h
  have HBN := Lib.hid hB
  have HWR := Lib.hid hw
  clear h hB hw
  go_enter Try.func18, Try.ntmps18
  go_upto_region 1 with fail
  have h3 := (Chg.refl [] w).alloc (.cells #[.int .u8 (code : Int), .int .u64 (vol : Int), .int .u64 (pl : Int), .int .u64 (n : Int), .slice da dl dc] 26)
  have h4 := (Chg.refl [] (w.alloc (.cells #[.int .u8 (code : Int), .int .u64 (vol : Int), .int .u64 (pl : Int), .int .u64 (n : Int), .slice da dl dc] 26))).alloc (.cells #[.int .i64 0, .int .u64 0, .slice none 0 0, .int .i64 0] 32)
  have n3 := new_block w (.cells #[.int .u8 (code : Int), .int .u64 (vol : Int), .int .u64 (pl : Int), .int .u64 (n : Int), .slice da dl dc] 26)
  have n4 := new_block (w.alloc (.cells #[.int .u8 (code : Int), .int .u64 (vol : Int), .int .u64 (pl : Int), .int .u64 (n : Int), .slice da dl dc] 26)) (.cells #[.int .i64 0, .int .u64 0, .slice none 0 0, .int .i64 0] 32)
  have n3 := (h4.block _ (heap_lt n3) (by simp)).trans n3
  have hsz := size_alloc' w (.cells #[.int .u8 (code : Int), .int .u64 (vol : Int), .int .u64 (pl : Int), .int .u64 (n : Int), .slice da dl dc] 26)
  rw [hsz] at n4
  have HC := Lib.hid (h3.trans h4)
  obtain ⟨b4, hb4⟩ : ∃ b4, b4 = w.heap.size + 1 := ⟨_, rfl⟩
  rw [← hb4] at n4
  have HN := Lib.hid (And.intro n3 (And.intro n4 hb4))
  clear h3 h4 n3 n4 hsz
  generalize hWW : (w.alloc (.cells #[.int .u8 (code : Int), .int .u64 (vol : Int), .int .u64 (pl : Int), .int .u64 (n : Int), .slice da dl dc] 26)).alloc (.cells #[.int .i64 0, .int .u64 0, .slice none 0 0, .int .i64 0] 32) = W at *
  obtain ⟨b3, hb3⟩ : ∃ b3, b3 = w.heap.size := ⟨_, rfl⟩
  have HB3 := Lib.hid hb3
  rw [← hb4, ← hb3]
  clear hWW hb3 hb4
  have hR := H.out.chg HC.out (by simp)
  have HW : Hid (Calls Try.prog 35 #[.pointer (some ⟨p, 0, none⟩), .agg #[.int .u8 (code : Int), .int .u64 (vol : Int), .int .u64 (pl : Int), .int .u64 (n : Int), .slice da dl dc]] W fun e w' => e = .returned (.int .i64 ((wrongR R code vol pl n dl : Nat) : Int)) ∧ Chg [] W w') := Lib.hid (r24wrong_at (code := code) hR HBN.out (by omega))
  have n3 : W.heap[b3]? = some (.cells #[.int .u8 (code : Int), .int .u64 (vol : Int), .int .u64 (pl : Int), .int .u64 (n : Int), .slice da dl dc] 26 (0, 0)) := by rw [HB3.out]; exact HN.out.1
  have n4 := HN.out.2.1
  have x0 := cell_of_block n3 0
  have x1 := cell_of_block n3 1
  have x2 := cell_of_block n3 2
  have x3 := cell_of_block n3 3
  have x4 := cell_of_block n3 4
  simp only [List.getElem?_toArray, List.getElem?_cons_zero, List.getElem?_cons_succ] at x0 x1 x2 x3 x4
  clear hR n3 n4
  go_wp2_with fail
  refine HW.out.mono ?_
  rintro e w2 ⟨rfl, hC2⟩
  rw [HWR.out]
  have HC2 := Lib.hid (HC.out.trans hC2)
  have hR := H.out.chg HC2.out (by simp)
  have n3 : w2.heap[b3]? = some (.cells #[.int .u8 (code : Int), .int .u64 (vol : Int), .int .u64 (pl : Int), .int .u64 (n : Int), .slice da dl dc] 26 (0, 0)) := by rw [HB3.out]; exact (hC2.block _ (heap_lt HN.out.1) (by simp)).trans HN.out.1
  have n4 := (hC2.block _ (heap_lt HN.out.2.1) (by simp)).trans HN.out.2.1
  have hp2 := hR.blk
  have HR2 := Lib.hid hR
  have HN3 := Lib.hid n3
  have HN4 := Lib.hid n4
  have hb4w : w.heap.size ≤ b4 := by have := HN.out.2.2; omega
  have hpb : p ≠ b4 := by have := H.out.heap_p; omega
  have hpb3 : p ≠ b3 := by have := H.out.heap_p; have := HB3.out; omega
  clear hR hC2 x0 x1 x2 x3 x4 HW
  have x0 := cell_of_block n3 0
  have x1 := cell_of_block n3 1
  have x2 := cell_of_block n3 2
  have x3 := cell_of_block n3 3
  have x4 := cell_of_block n3 4
  simp only [List.getElem?_toArray, List.getElem?_cons_zero, List.getElem?_cons_succ] at x0 x1 x2 x3 x4
  have y0 := cell_of_block n4 0
  have y1 := cell_of_block n4 1
  have y2 := cell_of_block n4 2
  have y3 := cell_of_block n4 3
  simp only [List.getElem?_toArray, List.getElem?_cons_zero, List.getElem?_cons_succ] at y0 y1 y2 y3
  have m0 := cell_of_block hp2 0
  have m1 := cell_of_block hp2 1
  have m2 := cell_of_block hp2 2
  simp only [List.getElem?_toArray, List.getElem?_cons_zero, List.getElem?_cons_succ] at m0 m1 m2
  have f0 := frozen_of_block n4 0
  have f1 := frozen_of_block n4 1
  have f2 := frozen_of_block n4 2
  have f3 := frozen_of_block n4 3
  clear n3 n4 hp2
  have e0 : ((er : Int) == 0) = false := by simp; omega
  have e1 : ¬ (er : Int) = 0 := by omega
  have e2 : ((er : Int) != 0) = true := by simp; omega
  have e3 : (er != 0) = true := by simp; omega
  go_wp2_with fail
  have h4 : (((((w2).setCell ⟨b4, 0, none⟩ (.int .i64 (er : Int))).setCell ⟨b4, 1, none⟩ (.int .u64 0)).setCell ⟨b4, 2, none⟩ (.slice none 0 0)).setCell ⟨b4, 3, none⟩ (.int .i64 0)).heap[b4]? = some (.cells #[.int .i64 (er : Int), .int .u64 0, .slice none 0 0, .int .i64 0] 32 (0, 0)) := setCell_block (setCell_block (setCell_block (setCell_block (HN4.out) 0 (.int .i64 (er : Int))) 1 (.int .u64 0)) 2 (.slice none 0 0)) 3 (.int .i64 0)
  have hC5 : Chg [b4] w2 (((((w2).setCell ⟨b4, 0, none⟩ (.int .i64 (er : Int))).setCell ⟨b4, 1, none⟩ (.int .u64 0)).setCell ⟨b4, 2, none⟩ (.slice none 0 0)).setCell ⟨b4, 3, none⟩ (.int .i64 0)) := ((((Chg.refl [b4] w2).setCell (.inl (by simp)) _).setCell (.inl (by simp)) _).setCell (.inl (by simp)) _).setCell (.inl (by simp)) _
  clear f0 f1 f2 f3 y0 y1 y2 y3
  generalize ((((w2).setCell ⟨b4, 0, none⟩ (.int .i64 (er : Int))).setCell ⟨b4, 1, none⟩ (.int .u64 0)).setCell ⟨b4, 2, none⟩ (.slice none 0 0)).setCell ⟨b4, 3, none⟩ (.int .i64 0) = W5 at *
  have z0 := cell_of_block h4 0
  have z1 := cell_of_block h4 1
  have z2 := cell_of_block h4 2
  have z3 := cell_of_block h4 3
  simp only [List.getElem?_toArray, List.getElem?_cons_zero, List.getElem?_cons_succ] at z0 z1 z2 z3
  (try simp only [Exit.inBlock, Exit.then])
  refine bodyPost_ret (v := repV (er) 0 (.slice none 0 0) 0) (by simp [results, Try.results18, go_sem, repV, z0, z1, z2, z3]) rfl ?_
  exact ⟨rfl, HC2.out.then hC5 (fun x hx => .inr (by simp only [List.mem_singleton] at hx; rw [hx]; exact hb4w))⟩

set_option maxRecDepth 20000 in
set_option maxHeartbeats 4000000 in
theorem rdo_no7 {L : List Nat} {B : Nat} {w : World} {p vol pl n dl dc : Nat} {da : Option Addr} {vv : Value} {R : RSt} (h : RefAt L B w p vv R) (hB : B ≤ 1000000)  (hw : wrongR R 7 vol pl n dl = 0) :
    Calls Try.prog 18 #[.pointer (some ⟨p, 0, none⟩), .agg #[.int .u8 7, .int .u64 (vol : Int), .int .u64 (pl : Int), .int .u64 (n : Int), .slice da dl dc]] w fun e w' => e = .returned (repV 0 0 (.slice none 0 0) 0) ∧ Chg [] w w' := by
  have H := Lib.hid h
  have HBN := Lib.hid hB
  have HWR := Lib.hid hw
  clear h hB hw
  go_enter Try.func18, Try.ntmps18
  go_upto_region 1 with fail
  have h3 := (Chg.refl [] w).alloc (.cells #[.int .u8 7, .int .u64 (vol : Int), .int .u64 (pl : Int), .int .u64 (n : Int), .slice da dl dc] 26)
  have h4 := (Chg.refl [] (w.alloc (.cells #[.int .u8 7, .int .u64 (vol : Int), .int .u64 (pl : Int), .int .u64 (n : Int), .slice da dl dc] 26))).alloc (.cells #[.int .i64 0, .int .u64 0, .slice none 0 0, .int .i64 0] 32)
  have n3 := new_block w (.cells #[.int .u8 7, .int .u64 (vol : Int), .int .u64 (pl : Int), .int .u64 (n : Int), .slice da dl dc] 26)
  have n4 := new_block (w.alloc (.cells #[.int .u8 7, .int .u64 (vol : Int), .int .u64 (pl : Int), .int .u64 (n : Int), .slice da dl dc] 26)) (.cells #[.int .i64 0, .int .u64 0, .slice none 0 0, .int .i64 0] 32)
  have n3 := (h4.block _ (heap_lt n3) (by simp)).trans n3
  have hsz := size_alloc' w (.cells #[.int .u8 7, .int .u64 (vol : Int), .int .u64 (pl : Int), .int .u64 (n : Int), .slice da dl dc] 26)
  rw [hsz] at n4
  have HC := Lib.hid (h3.trans h4)
  obtain ⟨b4, hb4⟩ : ∃ b4, b4 = w.heap.size + 1 := ⟨_, rfl⟩
  rw [← hb4] at n4
  have HN := Lib.hid (And.intro n3 (And.intro n4 hb4))
  clear h3 h4 n3 n4 hsz
  generalize hWW : (w.alloc (.cells #[.int .u8 7, .int .u64 (vol : Int), .int .u64 (pl : Int), .int .u64 (n : Int), .slice da dl dc] 26)).alloc (.cells #[.int .i64 0, .int .u64 0, .slice none 0 0, .int .i64 0] 32) = W at *
  obtain ⟨b3, hb3⟩ : ∃ b3, b3 = w.heap.size := ⟨_, rfl⟩
  have HB3 := Lib.hid hb3
  rw [← hb4, ← hb3]
  clear hWW hb3 hb4
  have hR := H.out.chg HC.out (by simp)
  have HW : Hid (Calls Try.prog 35 #[.pointer (some ⟨p, 0, none⟩), .agg #[.int .u8 7, .int .u64 (vol : Int), .int .u64 (pl : Int), .int .u64 (n : Int), .slice da dl dc]] W fun e w' => e = .returned (.int .i64 ((wrongR R 7 vol pl n dl : Nat) : Int)) ∧ Chg [] W w') := Lib.hid (r24wrong_at (code := 7) hR HBN.out (by omega))
  have n3 : W.heap[b3]? = some (.cells #[.int .u8 7, .int .u64 (vol : Int), .int .u64 (pl : Int), .int .u64 (n : Int), .slice da dl dc] 26 (0, 0)) := by rw [HB3.out]; exact HN.out.1
  have n4 := HN.out.2.1
  have x0 := cell_of_block n3 0
  have x1 := cell_of_block n3 1
  have x2 := cell_of_block n3 2
  have x3 := cell_of_block n3 3
  have x4 := cell_of_block n3 4
  simp only [List.getElem?_toArray, List.getElem?_cons_zero, List.getElem?_cons_succ] at x0 x1 x2 x3 x4
  clear hR n3 n4
  go_wp2_with fail
  refine HW.out.mono ?_
  rintro e w2 ⟨rfl, hC2⟩
  rw [HWR.out]
  have HC2 := Lib.hid (HC.out.trans hC2)
  have hR := H.out.chg HC2.out (by simp)
  have n3 : w2.heap[b3]? = some (.cells #[.int .u8 7, .int .u64 (vol : Int), .int .u64 (pl : Int), .int .u64 (n : Int), .slice da dl dc] 26 (0, 0)) := by rw [HB3.out]; exact (hC2.block _ (heap_lt HN.out.1) (by simp)).trans HN.out.1
  have n4 := (hC2.block _ (heap_lt HN.out.2.1) (by simp)).trans HN.out.2.1
  have hp2 := hR.blk
  have HR2 := Lib.hid hR
  have HN3 := Lib.hid n3
  have HN4 := Lib.hid n4
  have hb4w : w.heap.size ≤ b4 := by have := HN.out.2.2; omega
  have hpb : p ≠ b4 := by have := H.out.heap_p; omega
  have hpb3 : p ≠ b3 := by have := H.out.heap_p; have := HB3.out; omega
  clear hR hC2 x0 x1 x2 x3 x4 HW
  have x0 := cell_of_block n3 0
  have x1 := cell_of_block n3 1
  have x2 := cell_of_block n3 2
  have x3 := cell_of_block n3 3
  have x4 := cell_of_block n3 4
  simp only [List.getElem?_toArray, List.getElem?_cons_zero, List.getElem?_cons_succ] at x0 x1 x2 x3 x4
  have y0 := cell_of_block n4 0
  have y1 := cell_of_block n4 1
  have y2 := cell_of_block n4 2
  have y3 := cell_of_block n4 3
  simp only [List.getElem?_toArray, List.getElem?_cons_zero, List.getElem?_cons_succ] at y0 y1 y2 y3
  have m0 := cell_of_block hp2 0
  have m1 := cell_of_block hp2 1
  have m2 := cell_of_block hp2 2
  simp only [List.getElem?_toArray, List.getElem?_cons_zero, List.getElem?_cons_succ] at m0 m1 m2
  have f0 := frozen_of_block n4 0
  have f1 := frozen_of_block n4 1
  have f2 := frozen_of_block n4 2
  have f3 := frozen_of_block n4 3
  clear n3 n4 hp2
  have HAT := Lib.hid (r24at_at (v := vol) HR2.out HBN.out)
  go_wp2_with fail
  refine HAT.out.mono ?_
  rintro e w3 ⟨rfl, rfl⟩
  clear HAT
  go_wp2_with fail
  have h4 : (((((w2).setCell ⟨b4, 0, none⟩ (.int .i64 0)).setCell ⟨b4, 1, none⟩ (.int .u64 0)).setCell ⟨b4, 2, none⟩ (.slice none 0 0)).setCell ⟨b4, 3, none⟩ (.int .i64 0)).heap[b4]? = some (.cells #[.int .i64 0, .int .u64 0, .slice none 0 0, .int .i64 0] 32 (0, 0)) := setCell_block (setCell_block (setCell_block (setCell_block (HN4.out) 0 (.int .i64 0)) 1 (.int .u64 0)) 2 (.slice none 0 0)) 3 (.int .i64 0)
  have hC5 : Chg [b4] w2 (((((w2).setCell ⟨b4, 0, none⟩ (.int .i64 0)).setCell ⟨b4, 1, none⟩ (.int .u64 0)).setCell ⟨b4, 2, none⟩ (.slice none 0 0)).setCell ⟨b4, 3, none⟩ (.int .i64 0)) := ((((Chg.refl [b4] w2).setCell (.inl (by simp)) _).setCell (.inl (by simp)) _).setCell (.inl (by simp)) _).setCell (.inl (by simp)) _
  clear f0 f1 f2 f3 y0 y1 y2 y3
  generalize ((((w2).setCell ⟨b4, 0, none⟩ (.int .i64 0)).setCell ⟨b4, 1, none⟩ (.int .u64 0)).setCell ⟨b4, 2, none⟩ (.slice none 0 0)).setCell ⟨b4, 3, none⟩ (.int .i64 0) = W5 at *
  have z0 := cell_of_block h4 0
  have z1 := cell_of_block h4 1
  have z2 := cell_of_block h4 2
  have z3 := cell_of_block h4 3
  simp only [List.getElem?_toArray, List.getElem?_cons_zero, List.getElem?_cons_succ] at z0 z1 z2 z3
  (try simp only [Exit.inBlock, Exit.then])
  refine bodyPost_ret (v := repV 0 0 (.slice none 0 0) 0) (by simp [results, Try.results18, go_sem, repV, z0, z1, z2, z3]) rfl ?_
  exact ⟨rfl, HC2.out.then hC5 (fun x hx => .inr (by simp only [List.mem_singleton] at hx; rw [hx]; exact hb4w))⟩

set_option maxRecDepth 20000 in
set_option maxHeartbeats 4000000 in
theorem rdo_no8 {L : List Nat} {B : Nat} {w : World} {p vol pl n dl dc : Nat} {da : Option Addr} {vv : Value} {R : RSt} (h : RefAt L B w p vv R) (hB : B ≤ 1000000)  (hw : wrongR R 8 vol pl n dl = 0) :
    Calls Try.prog 18 #[.pointer (some ⟨p, 0, none⟩), .agg #[.int .u8 8, .int .u64 (vol : Int), .int .u64 (pl : Int), .int .u64 (n : Int), .slice da dl dc]] w fun e w' => e = .returned (repV 0 0 (.slice none 0 0) 0) ∧ Chg [] w w' := by
  have H := Lib.hid h
  have HBN := Lib.hid hB
  have HWR := Lib.hid hw
  clear h hB hw
  go_enter Try.func18, Try.ntmps18
  go_upto_region 1 with fail
  have h3 := (Chg.refl [] w).alloc (.cells #[.int .u8 8, .int .u64 (vol : Int), .int .u64 (pl : Int), .int .u64 (n : Int), .slice da dl dc] 26)
  have h4 := (Chg.refl [] (w.alloc (.cells #[.int .u8 8, .int .u64 (vol : Int), .int .u64 (pl : Int), .int .u64 (n : Int), .slice da dl dc] 26))).alloc (.cells #[.int .i64 0, .int .u64 0, .slice none 0 0, .int .i64 0] 32)
  have n3 := new_block w (.cells #[.int .u8 8, .int .u64 (vol : Int), .int .u64 (pl : Int), .int .u64 (n : Int), .slice da dl dc] 26)
  have n4 := new_block (w.alloc (.cells #[.int .u8 8, .int .u64 (vol : Int), .int .u64 (pl : Int), .int .u64 (n : Int), .slice da dl dc] 26)) (.cells #[.int .i64 0, .int .u64 0, .slice none 0 0, .int .i64 0] 32)
  have n3 := (h4.block _ (heap_lt n3) (by simp)).trans n3
  have hsz := size_alloc' w (.cells #[.int .u8 8, .int .u64 (vol : Int), .int .u64 (pl : Int), .int .u64 (n : Int), .slice da dl dc] 26)
  rw [hsz] at n4
  have HC := Lib.hid (h3.trans h4)
  obtain ⟨b4, hb4⟩ : ∃ b4, b4 = w.heap.size + 1 := ⟨_, rfl⟩
  rw [← hb4] at n4
  have HN := Lib.hid (And.intro n3 (And.intro n4 hb4))
  clear h3 h4 n3 n4 hsz
  generalize hWW : (w.alloc (.cells #[.int .u8 8, .int .u64 (vol : Int), .int .u64 (pl : Int), .int .u64 (n : Int), .slice da dl dc] 26)).alloc (.cells #[.int .i64 0, .int .u64 0, .slice none 0 0, .int .i64 0] 32) = W at *
  obtain ⟨b3, hb3⟩ : ∃ b3, b3 = w.heap.size := ⟨_, rfl⟩
  have HB3 := Lib.hid hb3
  rw [← hb4, ← hb3]
  clear hWW hb3 hb4
  have hR := H.out.chg HC.out (by simp)
  have HW : Hid (Calls Try.prog 35 #[.pointer (some ⟨p, 0, none⟩), .agg #[.int .u8 8, .int .u64 (vol : Int), .int .u64 (pl : Int), .int .u64 (n : Int), .slice da dl dc]] W fun e w' => e = .returned (.int .i64 ((wrongR R 8 vol pl n dl : Nat) : Int)) ∧ Chg [] W w') := Lib.hid (r24wrong_at (code := 8) hR HBN.out (by omega))
  have n3 : W.heap[b3]? = some (.cells #[.int .u8 8, .int .u64 (vol : Int), .int .u64 (pl : Int), .int .u64 (n : Int), .slice da dl dc] 26 (0, 0)) := by rw [HB3.out]; exact HN.out.1
  have n4 := HN.out.2.1
  have x0 := cell_of_block n3 0
  have x1 := cell_of_block n3 1
  have x2 := cell_of_block n3 2
  have x3 := cell_of_block n3 3
  have x4 := cell_of_block n3 4
  simp only [List.getElem?_toArray, List.getElem?_cons_zero, List.getElem?_cons_succ] at x0 x1 x2 x3 x4
  clear hR n3 n4
  go_wp2_with fail
  refine HW.out.mono ?_
  rintro e w2 ⟨rfl, hC2⟩
  rw [HWR.out]
  have HC2 := Lib.hid (HC.out.trans hC2)
  have hR := H.out.chg HC2.out (by simp)
  have n3 : w2.heap[b3]? = some (.cells #[.int .u8 8, .int .u64 (vol : Int), .int .u64 (pl : Int), .int .u64 (n : Int), .slice da dl dc] 26 (0, 0)) := by rw [HB3.out]; exact (hC2.block _ (heap_lt HN.out.1) (by simp)).trans HN.out.1
  have n4 := (hC2.block _ (heap_lt HN.out.2.1) (by simp)).trans HN.out.2.1
  have hp2 := hR.blk
  have HR2 := Lib.hid hR
  have HN3 := Lib.hid n3
  have HN4 := Lib.hid n4
  have hb4w : w.heap.size ≤ b4 := by have := HN.out.2.2; omega
  have hpb : p ≠ b4 := by have := H.out.heap_p; omega
  have hpb3 : p ≠ b3 := by have := H.out.heap_p; have := HB3.out; omega
  clear hR hC2 x0 x1 x2 x3 x4 HW
  have x0 := cell_of_block n3 0
  have x1 := cell_of_block n3 1
  have x2 := cell_of_block n3 2
  have x3 := cell_of_block n3 3
  have x4 := cell_of_block n3 4
  simp only [List.getElem?_toArray, List.getElem?_cons_zero, List.getElem?_cons_succ] at x0 x1 x2 x3 x4
  have y0 := cell_of_block n4 0
  have y1 := cell_of_block n4 1
  have y2 := cell_of_block n4 2
  have y3 := cell_of_block n4 3
  simp only [List.getElem?_toArray, List.getElem?_cons_zero, List.getElem?_cons_succ] at y0 y1 y2 y3
  have m0 := cell_of_block hp2 0
  have m1 := cell_of_block hp2 1
  have m2 := cell_of_block hp2 2
  simp only [List.getElem?_toArray, List.getElem?_cons_zero, List.getElem?_cons_succ] at m0 m1 m2
  have f0 := frozen_of_block n4 0
  have f1 := frozen_of_block n4 1
  have f2 := frozen_of_block n4 2
  have f3 := frozen_of_block n4 3
  clear n3 n4 hp2
  have HAT := Lib.hid (r24at_at (v := vol) HR2.out HBN.out)
  go_wp2_with fail
  refine HAT.out.mono ?_
  rintro e w3 ⟨rfl, rfl⟩
  clear HAT
  go_wp2_with fail
  have h4 : (((((w2).setCell ⟨b4, 0, none⟩ (.int .i64 0)).setCell ⟨b4, 1, none⟩ (.int .u64 0)).setCell ⟨b4, 2, none⟩ (.slice none 0 0)).setCell ⟨b4, 3, none⟩ (.int .i64 0)).heap[b4]? = some (.cells #[.int .i64 0, .int .u64 0, .slice none 0 0, .int .i64 0] 32 (0, 0)) := setCell_block (setCell_block (setCell_block (setCell_block (HN4.out) 0 (.int .i64 0)) 1 (.int .u64 0)) 2 (.slice none 0 0)) 3 (.int .i64 0)
  have hC5 : Chg [b4] w2 (((((w2).setCell ⟨b4, 0, none⟩ (.int .i64 0)).setCell ⟨b4, 1, none⟩ (.int .u64 0)).setCell ⟨b4, 2, none⟩ (.slice none 0 0)).setCell ⟨b4, 3, none⟩ (.int .i64 0)) := ((((Chg.refl [b4] w2).setCell (.inl (by simp)) _).setCell (.inl (by simp)) _).setCell (.inl (by simp)) _).setCell (.inl (by simp)) _
  clear f0 f1 f2 f3 y0 y1 y2 y3
  generalize ((((w2).setCell ⟨b4, 0, none⟩ (.int .i64 0)).setCell ⟨b4, 1, none⟩ (.int .u64 0)).setCell ⟨b4, 2, none⟩ (.slice none 0 0)).setCell ⟨b4, 3, none⟩ (.int .i64 0) = W5 at *
  have z0 := cell_of_block h4 0
  have z1 := cell_of_block h4 1
  have z2 := cell_of_block h4 2
  have z3 := cell_of_block h4 3
  simp only [List.getElem?_toArray, List.getElem?_cons_zero, List.getElem?_cons_succ] at z0 z1 z2 z3
  (try simp only [Exit.inBlock, Exit.then])
  refine bodyPost_ret (v := repV 0 0 (.slice none 0 0) 0) (by simp [results, Try.results18, go_sem, repV, z0, z1, z2, z3]) rfl ?_
  exact ⟨rfl, HC2.out.then hC5 (fun x hx => .inr (by simp only [List.mem_singleton] at hx; rw [hx]; exact hb4w))⟩

set_option maxRecDepth 20000 in
set_option maxHeartbeats 4000000 in
theorem rdo_len {L : List Nat} {B : Nat} {w : World} {p vol pl n dl dc : Nat} {da : Option Addr} {vv : Value} {R : RSt} (h : RefAt L B w p vv R) (hB : B ≤ 1000000)  (hw : wrongR R 9 vol pl n dl = 0) :
    Calls Try.prog 18 #[.pointer (some ⟨p, 0, none⟩), .agg #[.int .u8 9, .int .u64 (vol : Int), .int .u64 (pl : Int), .int .u64 (n : Int), .slice da dl dc]] w fun e w' => e = .returned (repV 0 0 (.slice none 0 0) R.vols.length) ∧ Chg [] w w' := by
  obtain ⟨va, vc, hvv, _, _⟩ := ownRow_slice h.vols
  subst hvv
  have H := Lib.hid h
  have HBN := Lib.hid hB
  have HWR := Lib.hid hw
  clear h hB hw
  go_enter Try.func18, Try.ntmps18
  go_upto_region 1 with fail
  have h3 := (Chg.refl [] w).alloc (.cells #[.int .u8 9, .int .u64 (vol : Int), .int .u64 (pl : Int), .int .u64 (n : Int), .slice da dl dc] 26)
  have h4 := (Chg.refl [] (w.alloc (.cells #[.int .u8 9, .int .u64 (vol : Int), .int .u64 (pl : Int), .int .u64 (n : Int), .slice da dl dc] 26))).alloc (.cells #[.int .i64 0, .int .u64 0, .slice none 0 0, .int .i64 0] 32)
  have n3 := new_block w (.cells #[.int .u8 9, .int .u64 (vol : Int), .int .u64 (pl : Int), .int .u64 (n : Int), .slice da dl dc] 26)
  have n4 := new_block (w.alloc (.cells #[.int .u8 9, .int .u64 (vol : Int), .int .u64 (pl : Int), .int .u64 (n : Int), .slice da dl dc] 26)) (.cells #[.int .i64 0, .int .u64 0, .slice none 0 0, .int .i64 0] 32)
  have n3 := (h4.block _ (heap_lt n3) (by simp)).trans n3
  have hsz := size_alloc' w (.cells #[.int .u8 9, .int .u64 (vol : Int), .int .u64 (pl : Int), .int .u64 (n : Int), .slice da dl dc] 26)
  rw [hsz] at n4
  have HC := Lib.hid (h3.trans h4)
  obtain ⟨b4, hb4⟩ : ∃ b4, b4 = w.heap.size + 1 := ⟨_, rfl⟩
  rw [← hb4] at n4
  have HN := Lib.hid (And.intro n3 (And.intro n4 hb4))
  clear h3 h4 n3 n4 hsz
  generalize hWW : (w.alloc (.cells #[.int .u8 9, .int .u64 (vol : Int), .int .u64 (pl : Int), .int .u64 (n : Int), .slice da dl dc] 26)).alloc (.cells #[.int .i64 0, .int .u64 0, .slice none 0 0, .int .i64 0] 32) = W at *
  obtain ⟨b3, hb3⟩ : ∃ b3, b3 = w.heap.size := ⟨_, rfl⟩
  have HB3 := Lib.hid hb3
  rw [← hb4, ← hb3]
  clear hWW hb3 hb4
  have hR := H.out.chg HC.out (by simp)
  have HW : Hid (Calls Try.prog 35 #[.pointer (some ⟨p, 0, none⟩), .agg #[.int .u8 9, .int .u64 (vol : Int), .int .u64 (pl : Int), .int .u64 (n : Int), .slice da dl dc]] W fun e w' => e = .returned (.int .i64 ((wrongR R 9 vol pl n dl : Nat) : Int)) ∧ Chg [] W w') := Lib.hid (r24wrong_at (code := 9) hR HBN.out (by omega))
  have n3 : W.heap[b3]? = some (.cells #[.int .u8 9, .int .u64 (vol : Int), .int .u64 (pl : Int), .int .u64 (n : Int), .slice da dl dc] 26 (0, 0)) := by rw [HB3.out]; exact HN.out.1
  have n4 := HN.out.2.1
  have x0 := cell_of_block n3 0
  have x1 := cell_of_block n3 1
  have x2 := cell_of_block n3 2
  have x3 := cell_of_block n3 3
  have x4 := cell_of_block n3 4
  simp only [List.getElem?_toArray, List.getElem?_cons_zero, List.getElem?_cons_succ] at x0 x1 x2 x3 x4
  clear hR n3 n4
  go_wp2_with fail
  refine HW.out.mono ?_
  rintro e w2 ⟨rfl, hC2⟩
  rw [HWR.out]
  have HC2 := Lib.hid (HC.out.trans hC2)
  have hR := H.out.chg HC2.out (by simp)
  have n3 : w2.heap[b3]? = some (.cells #[.int .u8 9, .int .u64 (vol : Int), .int .u64 (pl : Int), .int .u64 (n : Int), .slice da dl dc] 26 (0, 0)) := by rw [HB3.out]; exact (hC2.block _ (heap_lt HN.out.1) (by simp)).trans HN.out.1
  have n4 := (hC2.block _ (heap_lt HN.out.2.1) (by simp)).trans HN.out.2.1
  have hp2 := hR.blk
  have HR2 := Lib.hid hR
  have HN3 := Lib.hid n3
  have HN4 := Lib.hid n4
  have hb4w : w.heap.size ≤ b4 := by have := HN.out.2.2; omega
  have hpb : p ≠ b4 := by have := H.out.heap_p; omega
  have hpb3 : p ≠ b3 := by have := H.out.heap_p; have := HB3.out; omega
  clear hR hC2 x0 x1 x2 x3 x4 HW
  have x0 := cell_of_block n3 0
  have x1 := cell_of_block n3 1
  have x2 := cell_of_block n3 2
  have x3 := cell_of_block n3 3
  have x4 := cell_of_block n3 4
  simp only [List.getElem?_toArray, List.getElem?_cons_zero, List.getElem?_cons_succ] at x0 x1 x2 x3 x4
  have y0 := cell_of_block n4 0
  have y1 := cell_of_block n4 1
  have y2 := cell_of_block n4 2
  have y3 := cell_of_block n4 3
  simp only [List.getElem?_toArray, List.getElem?_cons_zero, List.getElem?_cons_succ] at y0 y1 y2 y3
  have m0 := cell_of_block hp2 0
  have m1 := cell_of_block hp2 1
  have m2 := cell_of_block hp2 2
  simp only [List.getElem?_toArray, List.getElem?_cons_zero, List.getElem?_cons_succ] at m0 m1 m2
  have f0 := frozen_of_block n4 0
  have f1 := frozen_of_block n4 1
  have f2 := frozen_of_block n4 2
  have f3 := frozen_of_block n4 3
  clear n3 n4 hp2
  have HAT := Lib.hid (r24at_at (v := vol) HR2.out HBN.out)
  go_wp2_with fail
  refine HAT.out.mono ?_
  rintro e w3 ⟨rfl, rfl⟩
  clear HAT
  go_wp2_with fail
  have h4 : (((((w2).setCell ⟨b4, 0, none⟩ (.int .i64 0)).setCell ⟨b4, 1, none⟩ (.int .u64 0)).setCell ⟨b4, 2, none⟩ (.slice none 0 0)).setCell ⟨b4, 3, none⟩ (.int .i64 (R.vols.length : Int))).heap[b4]? = some (.cells #[.int .i64 0, .int .u64 0, .slice none 0 0, .int .i64 (R.vols.length : Int)] 32 (0, 0)) := setCell_block (setCell_block (setCell_block (setCell_block (HN4.out) 0 (.int .i64 0)) 1 (.int .u64 0)) 2 (.slice none 0 0)) 3 (.int .i64 (R.vols.length : Int))
  have hC5 : Chg [b4] w2 (((((w2).setCell ⟨b4, 0, none⟩ (.int .i64 0)).setCell ⟨b4, 1, none⟩ (.int .u64 0)).setCell ⟨b4, 2, none⟩ (.slice none 0 0)).setCell ⟨b4, 3, none⟩ (.int .i64 (R.vols.length : Int))) := ((((Chg.refl [b4] w2).setCell (.inl (by simp)) _).setCell (.inl (by simp)) _).setCell (.inl (by simp)) _).setCell (.inl (by simp)) _
  clear f0 f1 f2 f3 y0 y1 y2 y3
  generalize ((((w2).setCell ⟨b4, 0, none⟩ (.int .i64 0)).setCell ⟨b4, 1, none⟩ (.int .u64 0)).setCell ⟨b4, 2, none⟩ (.slice none 0 0)).setCell ⟨b4, 3, none⟩ (.int .i64 (R.vols.length : Int)) = W5 at *
  have z0 := cell_of_block h4 0
  have z1 := cell_of_block h4 1
  have z2 := cell_of_block h4 2
  have z3 := cell_of_block h4 3
  simp only [List.getElem?_toArray, List.getElem?_cons_zero, List.getElem?_cons_succ] at z0 z1 z2 z3
  (try simp only [Exit.inBlock, Exit.then])
  refine bodyPost_ret (v := repV 0 0 (.slice none 0 0) R.vols.length) (by simp [results, Try.results18, go_sem, repV, z0, z1, z2, z3]) rfl ?_
  exact ⟨rfl, HC2.out.then hC5 (fun x hx => .inr (by simp only [List.mem_singleton] at hx; rw [hx]; exact hb4w))⟩

set_option maxRecDepth 20000 in
set_option maxHeartbeats 4000000 in
theorem rdo_new {L : List Nat} {B : Nat} {w : World} {p vol pl n dl dc : Nat} {da : Option Addr} {vv : Value} {R : RSt} (h : RefAt L B w p vv R) (hB : B ≤ 1000000) (hla : R.last + 1 < 18446744073709551616) (hw : wrongR R 1 vol pl n dl = 0) :
    Calls Try.prog 18 #[.pointer (some ⟨p, 0, none⟩), .agg #[.int .u8 1, .int .u64 (vol : Int), .int .u64 (pl : Int), .int .u64 (n : Int), .slice da dl dc]] w fun e w' => ∃ vv' L', e = .returned (repV 0 (R.last + 1) (.slice none 0 0) 0) ∧ RefAt L' (B + 1) w' p vv' ⟨R.size, R.last + 1, R.vols ++ [(R.last + 1, .slice none 0 0, [])]⟩ ∧ (∀ b, b ∈ L' → b ∈ L ∨ w.heap.size ≤ b) ∧ Chg [p] w w' := by
  have HLA := Lib.hid hla
  clear hla
  have H := Lib.hid h
  have HBN := Lib.hid hB
  have HWR := Lib.hid hw
  clear h hB hw
  go_enter Try.func18, Try.ntmps18
  go_upto_region 1 with fail
  have h3 := (Chg.refl [] w).alloc (.cells #[.int .u8 1, .int .u64 (vol : Int), .int .u64 (pl : Int), .int .u64 (n : Int), .slice da dl dc] 26)
  have h4 := (Chg.refl [] (w.alloc (.cells #[.int .u8 1, .int .u64 (vol : Int), .int .u64 (pl : Int), .int .u64 (n : Int), .slice da dl dc] 26))).alloc (.cells #[.int .i64 0, .int .u64 0, .slice none 0 0, .int .i64 0] 32)
  have n3 := new_block w (.cells #[.int .u8 1, .int .u64 (vol : Int), .int .u64 (pl : Int), .int .u64 (n : Int), .slice da dl dc] 26)
  have n4 := new_block (w.alloc (.cells #[.int .u8 1, .int .u64 (vol : Int), .int .u64 (pl : Int), .int .u64 (n : Int), .slice da dl dc] 26)) (.cells #[.int .i64 0, .int .u64 0, .slice none 0 0, .int .i64 0] 32)
  have n3 := (h4.block _ (heap_lt n3) (by simp)).trans n3
  have hsz := size_alloc' w (.cells #[.int .u8 1, .int .u64 (vol : Int), .int .u64 (pl : Int), .int .u64 (n : Int), .slice da dl dc] 26)
  rw [hsz] at n4
  have HC := Lib.hid (h3.trans h4)
  obtain ⟨b4, hb4⟩ : ∃ b4, b4 = w.heap.size + 1 := ⟨_, rfl⟩
  rw [← hb4] at n4
  have HN := Lib.hid (And.intro n3 (And.intro n4 hb4))
  clear h3 h4 n3 n4 hsz
  generalize hWW : (w.alloc (.cells #[.int .u8 1, .int .u64 (vol : Int), .int .u64 (pl : Int), .int .u64 (n : Int), .slice da dl dc] 26)).alloc (.cells #[.int .i64 0, .int .u64 0, .slice none 0 0, .int .i64 0] 32) = W at *
  obtain ⟨b3, hb3⟩ : ∃ b3, b3 = w.heap.size := ⟨_, rfl⟩
  have HB3 := Lib.hid hb3
  rw [← hb4, ← hb3]
  clear hWW hb3 hb4
  have hR := H.out.chg HC.out (by simp)
  have HW : Hid (Calls Try.prog 35 #[.pointer (some ⟨p, 0, none⟩), .agg #[.int .u8 1, .int .u64 (vol : Int), .int .u64 (pl : Int), .int .u64 (n : Int), .slice da dl dc]] W fun e w' => e = .returned (.int .i64 ((wrongR R 1 vol pl n dl : Nat) : Int)) ∧ Chg [] W w') := Lib.hid (r24wrong_at (code := 1) hR HBN.out (by omega))
  have n3 : W.heap[b3]? = some (.cells #[.int .u8 1, .int .u64 (vol : Int), .int .u64 (pl : Int), .int .u64 (n : Int), .slice da dl dc] 26 (0, 0)) := by rw [HB3.out]; exact HN.out.1
  have n4 := HN.out.2.1
  have x0 := cell_of_block n3 0
  have x1 := cell_of_block n3 1
  have x2 := cell_of_block n3 2
  have x3 := cell_of_block n3 3
  have x4 := cell_of_block n3 4
  simp only [List.getElem?_toArray, List.getElem?_cons_zero, List.getElem?_cons_succ] at x0 x1 x2 x3 x4
  clear hR n3 n4
  go_wp2_with fail
  refine HW.out.mono ?_
  rintro e w2 ⟨rfl, hC2⟩
  rw [HWR.out]
  have HC2 := Lib.hid (HC.out.trans hC2)
  have hR := H.out.chg HC2.out (by simp)
  have n3 : w2.heap[b3]? = some (.cells #[.int .u8 1, .int .u64 (vol : Int), .int .u64 (pl : Int), .int .u64 (n : Int), .slice da dl dc] 26 (0, 0)) := by rw [HB3.out]; exact (hC2.block _ (heap_lt HN.out.1) (by simp)).trans HN.out.1
  have n4 := (hC2.block _ (heap_lt HN.out.2.1) (by simp)).trans HN.out.2.1
  have hp2 := hR.blk
  have HR2 := Lib.hid hR
  have HN3 := Lib.hid n3
  have HN4 := Lib.hid n4
  have hb4w : w.heap.size ≤ b4 := by have := HN.out.2.2; omega
  have hpb : p ≠ b4 := by have := H.out.heap_p; omega
  have hpb3 : p ≠ b3 := by have := H.out.heap_p; have := HB3.out; omega
  clear hR hC2 x0 x1 x2 x3 x4 HW
  have x0 := cell_of_block n3 0
  have x1 := cell_of_block n3 1
  have x2 := cell_of_block n3 2
  have x3 := cell_of_block n3 3
  have x4 := cell_of_block n3 4
  simp only [List.getElem?_toArray, List.getElem?_cons_zero, List.getElem?_cons_succ] at x0 x1 x2 x3 x4
  have y0 := cell_of_block n4 0
  have y1 := cell_of_block n4 1
  have y2 := cell_of_block n4 2
  have y3 := cell_of_block n4 3
  simp only [List.getElem?_toArray, List.getElem?_cons_zero, List.getElem?_cons_succ] at y0 y1 y2 y3
  have m0 := cell_of_block hp2 0
  have m1 := cell_of_block hp2 1
  have m2 := cell_of_block hp2 2
  simp only [List.getElem?_toArray, List.getElem?_cons_zero, List.getElem?_cons_succ] at m0 m1 m2
  have f0 := frozen_of_block n4 0
  have f1 := frozen_of_block n4 1
  have f2 := frozen_of_block n4 2
  have f3 := frozen_of_block n4 3
  clear n3 n4 hp2
  have HAT := Lib.hid (r24at_at (v := vol) HR2.out HBN.out)
  go_wp2_with fail
  refine HAT.out.mono ?_
  rintro e w3 ⟨rfl, rfl⟩
  clear HAT
  have HMD := Lib.hid (r24made_at (pv := .slice none 0 0) (ps := []) HR2.out HBN.out HLA.out ⟨World.ownsRow_nil _ _ _ _, fun g e => (by cases e), fun q h => (by cases h)⟩ (Nat.zero_le _))
  go_wp2_with fail
  refine HMD.out.mono ?_
  rintro e w4 ⟨rfl, vv', L', hR', hL', hC'⟩
  clear HMD
  unfold repV
  obtain ⟨la, hla2⟩ : ∃ la, la = R.last + 1 := ⟨_, rfl⟩
  rw [← hla2]
  have HLN := Lib.hid hla2
  clear hla2
  have hn4 := (hC'.block b4 (heap_lt HN4.out) (by simp; omega)).trans HN4.out
  have HN5 := Lib.hid hn4
  have HR5 := Lib.hid hR'
  have HL5 := Lib.hid hL'
  have HC5 := Lib.hid hC'
  clear y0 y1 y2 y3 f0 f1 f2 f3 hR' hL' hC'
  have y0 := cell_of_block hn4 0
  have y1 := cell_of_block hn4 1
  have y2 := cell_of_block hn4 2
  have y3 := cell_of_block hn4 3
  simp only [List.getElem?_toArray, List.getElem?_cons_zero, List.getElem?_cons_succ] at y0 y1 y2 y3
  have f0 := frozen_of_block hn4 0
  have f1 := frozen_of_block hn4 1
  have f2 := frozen_of_block hn4 2
  have f3 := frozen_of_block hn4 3
  clear hn4
  go_wp2_with fail
  have h4 : (((((w4).setCell ⟨b4, 0, none⟩ (.int .i64 0)).setCell ⟨b4, 1, none⟩ (.int .u64 (la : Int))).setCell ⟨b4, 2, none⟩ (.slice none 0 0)).setCell ⟨b4, 3, none⟩ (.int .i64 0)).heap[b4]? = some (.cells #[.int .i64 0, .int .u64 (la : Int), .slice none 0 0, .int .i64 0] 32 (0, 0)) := setCell_block (setCell_block (setCell_block (setCell_block (HN5.out) 0 (.int .i64 0)) 1 (.int .u64 (la : Int))) 2 (.slice none 0 0)) 3 (.int .i64 0)
  have hC5 : Chg [b4] w4 (((((w4).setCell ⟨b4, 0, none⟩ (.int .i64 0)).setCell ⟨b4, 1, none⟩ (.int .u64 (la : Int))).setCell ⟨b4, 2, none⟩ (.slice none 0 0)).setCell ⟨b4, 3, none⟩ (.int .i64 0)) := ((((Chg.refl [b4] w4).setCell (.inl (by simp)) _).setCell (.inl (by simp)) _).setCell (.inl (by simp)) _).setCell (.inl (by simp)) _
  clear f0 f1 f2 f3 y0 y1 y2 y3
  generalize ((((w4).setCell ⟨b4, 0, none⟩ (.int .i64 0)).setCell ⟨b4, 1, none⟩ (.int .u64 (la : Int))).setCell ⟨b4, 2, none⟩ (.slice none 0 0)).setCell ⟨b4, 3, none⟩ (.int .i64 0) = W5 at *
  have z0 := cell_of_block h4 0
  have z1 := cell_of_block h4 1
  have z2 := cell_of_block h4 2
  have z3 := cell_of_block h4 3
  simp only [List.getElem?_toArray, List.getElem?_cons_zero, List.getElem?_cons_succ] at z0 z1 z2 z3
  (try simp only [Exit.inBlock, Exit.then])
  refine bodyPost_ret (v := repV 0 (la) (.slice none 0 0) 0) (by simp [results, Try.results18, go_sem, repV, z0, z1, z2, z3]) rfl ?_
  exact ⟨_, _, by first | rfl | rw [HLN.out], rdo_fin HR5.out HL5.out H.out.lt hb4w (heap_lt HN4.out) hC5, fun b hb => (HL5.out b hb).imp (fun h => h) (fun h => Nat.le_trans HC2.out.size h), (((Chg.refl [p] w).then HC2.out (by simp)).then HC5.out (fun x hx => .inl hx)).then hC5 (fun x hx => .inr (by simp only [List.mem_singleton] at hx; rw [hx]; exact hb4w))⟩

set_option maxRecDepth 20000 in
set_option maxHeartbeats 4000000 in
theorem rdo_copy {L : List Nat} {B : Nat} {w : World} {p i vol pl n dl dc : Nat} {da : Option Addr} {vv : Value} {R : RSt} (h : RefAt L B w p vv R) (hB : B ≤ 1000000) (hix : ixOf R.vols vol = (i : Int)) (hi : i < R.vols.length) (hla : R.last + 1 < 18446744073709551616) (hw : wrongR R 3 vol pl n dl = 0) :
    Calls Try.prog 18 #[.pointer (some ⟨p, 0, none⟩), .agg #[.int .u8 3, .int .u64 (vol : Int), .int .u64 (pl : Int), .int .u64 (n : Int), .slice da dl dc]] w fun e w' => ∃ vv' L', e = .returned (repV 0 (R.last + 1) (.slice none 0 0) 0) ∧ RefAt L' (B + 1) w' p vv' ⟨R.size, R.last + 1, R.vols ++ [(R.last + 1, (R.vols[i]!).2.1, (R.vols[i]!).2.2)]⟩ ∧ (∀ b, b ∈ L' → b ∈ L ∨ w.heap.size ≤ b) ∧ Chg [p] w w' := by
  obtain ⟨va, vc, hvv, _, _⟩ := ownRow_slice h.vols
  subst hvv
  have HLA := Lib.hid hla
  clear hla
  have HIX := Lib.hid hix
  clear hix
  have H := Lib.hid h
  have HBN := Lib.hid hB
  have HWR := Lib.hid hw
  clear h hB hw
  go_enter Try.func18, Try.ntmps18
  go_upto_region 1 with fail
  have h3 := (Chg.refl [] w).alloc (.cells #[.int .u8 3, .int .u64 (vol : Int), .int .u64 (pl : Int), .int .u64 (n : Int), .slice da dl dc] 26)
  have h4 := (Chg.refl [] (w.alloc (.cells #[.int .u8 3, .int .u64 (vol : Int), .int .u64 (pl : Int), .int .u64 (n : Int), .slice da dl dc] 26))).alloc (.cells #[.int .i64 0, .int .u64 0, .slice none 0 0, .int .i64 0] 32)
  have n3 := new_block w (.cells #[.int .u8 3, .int .u64 (vol : Int), .int .u64 (pl : Int), .int .u64 (n : Int), .slice da dl dc] 26)
  have n4 := new_block (w.alloc (.cells #[.int .u8 3, .int .u64 (vol : Int), .int .u64 (pl : Int), .int .u64 (n : Int), .slice da dl dc] 26)) (.cells #[.int .i64 0, .int .u64 0, .slice none 0 0, .int .i64 0] 32)
  have n3 := (h4.block _ (heap_lt n3) (by simp)).trans n3
  have hsz := size_alloc' w (.cells #[.int .u8 3, .int .u64 (vol : Int), .int .u64 (pl : Int), .int .u64 (n : Int), .slice da dl dc] 26)
  rw [hsz] at n4
  have HC := Lib.hid (h3.trans h4)
  obtain ⟨b4, hb4⟩ : ∃ b4, b4 = w.heap.size + 1 := ⟨_, rfl⟩
  rw [← hb4] at n4
  have HN := Lib.hid (And.intro n3 (And.intro n4 hb4))
  clear h3 h4 n3 n4 hsz
  generalize hWW : (w.alloc (.cells #[.int .u8 3, .int .u64 (vol : Int), .int .u64 (pl : Int), .int .u64 (n : Int), .slice da dl dc] 26)).alloc (.cells #[.int .i64 0, .int .u64 0, .slice none 0 0, .int .i64 0] 32) = W at *
  obtain ⟨b3, hb3⟩ : ∃ b3, b3 = w.heap.size := ⟨_, rfl⟩
  have HB3 := Lib.hid hb3
  rw [← hb4, ← hb3]
  clear hWW hb3 hb4
  have hR := H.out.chg HC.out (by simp)
  have HW : Hid (Calls Try.prog 35 #[.pointer (some ⟨p, 0, none⟩), .agg #[.int .u8 3, .int .u64 (vol : Int), .int .u64 (pl : Int), .int .u64 (n : Int), .slice da dl dc]] W fun e w' => e = .returned (.int .i64 ((wrongR R 3 vol pl n dl : Nat) : Int)) ∧ Chg [] W w') := Lib.hid (r24wrong_at (code := 3) hR HBN.out (by omega))
  have n3 : W.heap[b3]? = some (.cells #[.int .u8 3, .int .u64 (vol : Int), .int .u64 (pl : Int), .int .u64 (n : Int), .slice da dl dc] 26 (0, 0)) := by rw [HB3.out]; exact HN.out.1
  have n4 := HN.out.2.1
  have x0 := cell_of_block n3 0
  have x1 := cell_of_block n3 1
  have x2 := cell_of_block n3 2
  have x3 := cell_of_block n3 3
  have x4 := cell_of_block n3 4
  simp only [List.getElem?_toArray, List.getElem?_cons_zero, List.getElem?_cons_succ] at x0 x1 x2 x3 x4
  clear hR n3 n4
  go_wp2_with fail
  refine HW.out.mono ?_
  rintro e w2 ⟨rfl, hC2⟩
  rw [HWR.out]
  have HC2 := Lib.hid (HC.out.trans hC2)
  have hR := H.out.chg HC2.out (by simp)
  have n3 : w2.heap[b3]? = some (.cells #[.int .u8 3, .int .u64 (vol : Int), .int .u64 (pl : Int), .int .u64 (n : Int), .slice da dl dc] 26 (0, 0)) := by rw [HB3.out]; exact (hC2.block _ (heap_lt HN.out.1) (by simp)).trans HN.out.1
  have n4 := (hC2.block _ (heap_lt HN.out.2.1) (by simp)).trans HN.out.2.1
  have hp2 := hR.blk
  have HR2 := Lib.hid hR
  have HN3 := Lib.hid n3
  have HN4 := Lib.hid n4
  have hb4w : w.heap.size ≤ b4 := by have := HN.out.2.2; omega
  have hpb : p ≠ b4 := by have := H.out.heap_p; omega
  have hpb3 : p ≠ b3 := by have := H.out.heap_p; have := HB3.out; omega
  clear hR hC2 x0 x1 x2 x3 x4 HW
  have x0 := cell_of_block n3 0
  have x1 := cell_of_block n3 1
  have x2 := cell_of_block n3 2
  have x3 := cell_of_block n3 3
  have x4 := cell_of_block n3 4
  simp only [List.getElem?_toArray, List.getElem?_cons_zero, List.getElem?_cons_succ] at x0 x1 x2 x3 x4
  have y0 := cell_of_block n4 0
  have y1 := cell_of_block n4 1
  have y2 := cell_of_block n4 2
  have y3 := cell_of_block n4 3
  simp only [List.getElem?_toArray, List.getElem?_cons_zero, List.getElem?_cons_succ] at y0 y1 y2 y3
  have m0 := cell_of_block hp2 0
  have m1 := cell_of_block hp2 1
  have m2 := cell_of_block hp2 2
  simp only [List.getElem?_toArray, List.getElem?_cons_zero, List.getElem?_cons_succ] at m0 m1 m2
  have f0 := frozen_of_block n4 0
  have f1 := frozen_of_block n4 1
  have f2 := frozen_of_block n4 2
  have f3 := frozen_of_block n4 3
  clear n3 n4 hp2
  obtain ⟨g, c, hvg, hgc, hgL, c0, c1⟩ := HR2.out.cell hi
  injection hvg with e1 _ e3
  subst e1 e3
  have hmem : R.vols[i]! ∈ R.vols := by rw [getElem!_pos R.vols i hi]; exact List.getElem_mem _
  have hpu := HR2.out.puts _ hmem
  have hbp := HR2.out.bp _ hmem
  obtain ⟨t, ht⟩ : ∃ t, t = R.vols[i]! := ⟨_, rfl⟩
  rw [← ht] at hpu hbp c0 c1
  have HT := Lib.hid ht
  clear ht
  obtain ⟨id, pv, ps⟩ := t
  simp only at hpu hbp c0 c1
  obtain ⟨pa, pk, hpv, _, _⟩ := ownRow_slice hpu.1
  obtain ⟨kn, hkn⟩ : ∃ k, k = ps.length := ⟨_, rfl⟩
  rw [← hkn] at hpv
  subst hpv
  have HPU := Lib.hid hpu
  have HBP := Lib.hid hbp
  have HKN := Lib.hid hkn
  obtain ⟨nv, hnv⟩ : ∃ k, k = R.vols.length := ⟨_, rfl⟩
  rw [← hnv] at m2 hgc hi
  have HNV := Lib.hid hnv
  have i1 : (i : Int) < (nv : Int) := by omega
  have HMD := Lib.hid (r24made_at HR2.out HBN.out HLA.out hpu hbp)
  clear hmem hpu hbp hkn hnv
  have HAT := Lib.hid (r24at_at (v := vol) HR2.out HBN.out)
  go_wp2_with fail
  refine HAT.out.mono ?_
  rintro e w3 ⟨rfl, rfl⟩
  rw [HIX.out]
  clear HAT
  go_wp2_with fail
  refine HMD.out.mono ?_
  rintro e w4 ⟨rfl, vv', L', hR', hL', hC'⟩
  clear HMD
  unfold repV
  obtain ⟨la, hla2⟩ : ∃ la, la = R.last + 1 := ⟨_, rfl⟩
  rw [← hla2]
  have HLN := Lib.hid hla2
  clear hla2
  have hn4 := (hC'.block b4 (heap_lt HN4.out) (by simp; omega)).trans HN4.out
  have HN5 := Lib.hid hn4
  have HR5 := Lib.hid hR'
  have HL5 := Lib.hid hL'
  have HC5 := Lib.hid hC'
  clear y0 y1 y2 y3 f0 f1 f2 f3 hR' hL' hC'
  have y0 := cell_of_block hn4 0
  have y1 := cell_of_block hn4 1
  have y2 := cell_of_block hn4 2
  have y3 := cell_of_block hn4 3
  simp only [List.getElem?_toArray, List.getElem?_cons_zero, List.getElem?_cons_succ] at y0 y1 y2 y3
  have f0 := frozen_of_block hn4 0
  have f1 := frozen_of_block hn4 1
  have f2 := frozen_of_block hn4 2
  have f3 := frozen_of_block hn4 3
  clear hn4
  go_wp2_with fail
  have h4 : (((((w4).setCell ⟨b4, 0, none⟩ (.int .i64 0)).setCell ⟨b4, 1, none⟩ (.int .u64 (la : Int))).setCell ⟨b4, 2, none⟩ (.slice none 0 0)).setCell ⟨b4, 3, none⟩ (.int .i64 0)).heap[b4]? = some (.cells #[.int .i64 0, .int .u64 (la : Int), .slice none 0 0, .int .i64 0] 32 (0, 0)) := setCell_block (setCell_block (setCell_block (setCell_block (HN5.out) 0 (.int .i64 0)) 1 (.int .u64 (la : Int))) 2 (.slice none 0 0)) 3 (.int .i64 0)
  have hC5 : Chg [b4] w4 (((((w4).setCell ⟨b4, 0, none⟩ (.int .i64 0)).setCell ⟨b4, 1, none⟩ (.int .u64 (la : Int))).setCell ⟨b4, 2, none⟩ (.slice none 0 0)).setCell ⟨b4, 3, none⟩ (.int .i64 0)) := ((((Chg.refl [b4] w4).setCell (.inl (by simp)) _).setCell (.inl (by simp)) _).setCell (.inl (by simp)) _).setCell (.inl (by simp)) _
  clear f0 f1 f2 f3 y0 y1 y2 y3
  generalize ((((w4).setCell ⟨b4, 0, none⟩ (.int .i64 0)).setCell ⟨b4, 1, none⟩ (.int .u64 (la : Int))).setCell ⟨b4, 2, none⟩ (.slice none 0 0)).setCell ⟨b4, 3, none⟩ (.int .i64 0) = W5 at *
  have z0 := cell_of_block h4 0
  have z1 := cell_of_block h4 1
  have z2 := cell_of_block h4 2
  have z3 := cell_of_block h4 3
  simp only [List.getElem?_toArray, List.getElem?_cons_zero, List.getElem?_cons_succ] at z0 z1 z2 z3
  (try simp only [Exit.inBlock, Exit.then])
  refine bodyPost_ret (v := repV 0 (la) (.slice none 0 0) 0) (by simp [results, Try.results18, go_sem, repV, z0, z1, z2, z3]) rfl ?_
  rw [← HT.out]
  exact ⟨_, _, by first | rfl | rw [HLN.out], rdo_fin HR5.out HL5.out H.out.lt hb4w (heap_lt HN4.out) hC5, fun b hb => (HL5.out b hb).imp (fun h => h) (fun h => Nat.le_trans HC2.out.size h), (((Chg.refl [p] w).then HC2.out (by simp)).then HC5.out (fun x hx => .inl hx)).then hC5 (fun x hx => .inr (by simp only [List.mem_singleton] at hx; rw [hx]; exact hb4w))⟩

set_option maxRecDepth 20000 in
set_option maxHeartbeats 4000000 in
theorem rdo_put {L : List Nat} {B : Nat} {w : World} {p i vol pl n dl dc : Nat} {da : Option Addr} {vv : Value} {R : RSt} {f : Nat → Nat} (h : RefAt L B w p vv R) (hB : B ≤ 1000000) (hix : ixOf R.vols vol = (i : Int)) (hi : i < R.vols.length) (hpl : pl < 18446744073709551616) (hd : BytesIn w da dl dc f) (hw : wrongR R 5 vol pl n dl = 0) :
    Calls Try.prog 18 #[.pointer (some ⟨p, 0, none⟩), .agg #[.int .u8 5, .int .u64 (vol : Int), .int .u64 (pl : Int), .int .u64 (n : Int), .slice da dl dc]] w fun e w' => ∃ vv' nv L', e = .returned (repV 0 0 (.slice none 0 0) 0) ∧ RefAt L' (B + 1) w' p vv' { R with vols := R.vols.set i ((R.vols[i]!).1, nv, (R.vols[i]!).2.2 ++ [(pl, bstr dl f)]) } ∧ (∀ b, b ∈ L' → b ∈ L ∨ w.heap.size ≤ b) ∧ Chg [p] w w' := by
  have HDD := Lib.hid hd
  have HPP := Lib.hid (And.intro hi hpl)
  clear hd hi hpl
  have HIX := Lib.hid hix
  clear hix
  have H := Lib.hid h
  have HBN := Lib.hid hB
  have HWR := Lib.hid hw
  clear h hB hw
  go_enter Try.func18, Try.ntmps18
  go_upto_region 1 with fail
  have h3 := (Chg.refl [] w).alloc (.cells #[.int .u8 5, .int .u64 (vol : Int), .int .u64 (pl : Int), .int .u64 (n : Int), .slice da dl dc] 26)
  have h4 := (Chg.refl [] (w.alloc (.cells #[.int .u8 5, .int .u64 (vol : Int), .int .u64 (pl : Int), .int .u64 (n : Int), .slice da dl dc] 26))).alloc (.cells #[.int .i64 0, .int .u64 0, .slice none 0 0, .int .i64 0] 32)
  have n3 := new_block w (.cells #[.int .u8 5, .int .u64 (vol : Int), .int .u64 (pl : Int), .int .u64 (n : Int), .slice da dl dc] 26)
  have n4 := new_block (w.alloc (.cells #[.int .u8 5, .int .u64 (vol : Int), .int .u64 (pl : Int), .int .u64 (n : Int), .slice da dl dc] 26)) (.cells #[.int .i64 0, .int .u64 0, .slice none 0 0, .int .i64 0] 32)
  have n3 := (h4.block _ (heap_lt n3) (by simp)).trans n3
  have hsz := size_alloc' w (.cells #[.int .u8 5, .int .u64 (vol : Int), .int .u64 (pl : Int), .int .u64 (n : Int), .slice da dl dc] 26)
  rw [hsz] at n4
  have HC := Lib.hid (h3.trans h4)
  obtain ⟨b4, hb4⟩ : ∃ b4, b4 = w.heap.size + 1 := ⟨_, rfl⟩
  rw [← hb4] at n4
  have HN := Lib.hid (And.intro n3 (And.intro n4 hb4))
  clear h3 h4 n3 n4 hsz
  generalize hWW : (w.alloc (.cells #[.int .u8 5, .int .u64 (vol : Int), .int .u64 (pl : Int), .int .u64 (n : Int), .slice da dl dc] 26)).alloc (.cells #[.int .i64 0, .int .u64 0, .slice none 0 0, .int .i64 0] 32) = W at *
  obtain ⟨b3, hb3⟩ : ∃ b3, b3 = w.heap.size := ⟨_, rfl⟩
  have HB3 := Lib.hid hb3
  rw [← hb4, ← hb3]
  clear hWW hb3 hb4
  have hR := H.out.chg HC.out (by simp)
  have HW : Hid (Calls Try.prog 35 #[.pointer (some ⟨p, 0, none⟩), .agg #[.int .u8 5, .int .u64 (vol : Int), .int .u64 (pl : Int), .int .u64 (n : Int), .slice da dl dc]] W fun e w' => e = .returned (.int .i64 ((wrongR R 5 vol pl n dl : Nat) : Int)) ∧ Chg [] W w') := Lib.hid (r24wrong_at (code := 5) hR HBN.out (by omega))
  have n3 : W.heap[b3]? = some (.cells #[.int .u8 5, .int .u64 (vol : Int), .int .u64 (pl : Int), .int .u64 (n : Int), .slice da dl dc] 26 (0, 0)) := by rw [HB3.out]; exact HN.out.1
  have n4 := HN.out.2.1
  have x0 := cell_of_block n3 0
  have x1 := cell_of_block n3 1
  have x2 := cell_of_block n3 2
  have x3 := cell_of_block n3 3
  have x4 := cell_of_block n3 4
  simp only [List.getElem?_toArray, List.getElem?_cons_zero, List.getElem?_cons_succ] at x0 x1 x2 x3 x4
  clear hR n3 n4
  go_wp2_with fail
  refine HW.out.mono ?_
  rintro e w2 ⟨rfl, hC2⟩
  rw [HWR.out]
  have HC2 := Lib.hid (HC.out.trans hC2)
  have hR := H.out.chg HC2.out (by simp)
  have n3 : w2.heap[b3]? = some (.cells #[.int .u8 5, .int .u64 (vol : Int), .int .u64 (pl : Int), .int .u64 (n : Int), .slice da dl dc] 26 (0, 0)) := by rw [HB3.out]; exact (hC2.block _ (heap_lt HN.out.1) (by simp)).trans HN.out.1
  have n4 := (hC2.block _ (heap_lt HN.out.2.1) (by simp)).trans HN.out.2.1
  have hp2 := hR.blk
  have HR2 := Lib.hid hR
  have HN3 := Lib.hid n3
  have HN4 := Lib.hid n4
  have hb4w : w.heap.size ≤ b4 := by have := HN.out.2.2; omega
  have hpb : p ≠ b4 := by have := H.out.heap_p; omega
  have hpb3 : p ≠ b3 := by have := H.out.heap_p; have := HB3.out; omega
  clear hR hC2 x0 x1 x2 x3 x4 HW
  have x0 := cell_of_block n3 0
  have x1 := cell_of_block n3 1
  have x2 := cell_of_block n3 2
  have x3 := cell_of_block n3 3
  have x4 := cell_of_block n3 4
  simp only [List.getElem?_toArray, List.getElem?_cons_zero, List.getElem?_cons_succ] at x0 x1 x2 x3 x4
  have y0 := cell_of_block n4 0
  have y1 := cell_of_block n4 1
  have y2 := cell_of_block n4 2
  have y3 := cell_of_block n4 3
  simp only [List.getElem?_toArray, List.getElem?_cons_zero, List.getElem?_cons_succ] at y0 y1 y2 y3
  have m0 := cell_of_block hp2 0
  have m1 := cell_of_block hp2 1
  have m2 := cell_of_block hp2 2
  simp only [List.getElem?_toArray, List.getElem?_cons_zero, List.getElem?_cons_succ] at m0 m1 m2
  have f0 := frozen_of_block n4 0
  have f1 := frozen_of_block n4 1
  have f2 := frozen_of_block n4 2
  have f3 := frozen_of_block n4 3
  clear n3 n4 hp2
  have HAT := Lib.hid (r24at_at (v := vol) HR2.out HBN.out)
  go_wp2_with fail
  refine HAT.out.mono ?_
  rintro e w3 ⟨rfl, rfl⟩
  rw [HIX.out]
  clear HAT
  have HPT := Lib.hid (r24put_at (qn := pl) (qt := bstr dl f) HR2.out HBN.out HPP.out.1 HPP.out.2)
  have hcv := conv_at (HDD.out.chg HC2.out (by simp))
  go_wp2_with fail
  refine HPT.out.mono ?_
  rintro e w4 ⟨rfl, vv', nv, L', hR', hL', hC'⟩
  clear HPT hcv
  have hn4 := (hC'.block b4 (heap_lt HN4.out) (by simp; omega)).trans HN4.out
  have HN5 := Lib.hid hn4
  have HR5 := Lib.hid hR'
  have HL5 := Lib.hid hL'
  have HC5 := Lib.hid hC'
  clear y0 y1 y2 y3 f0 f1 f2 f3 hR' hL' hC'
  have y0 := cell_of_block hn4 0
  have y1 := cell_of_block hn4 1
  have y2 := cell_of_block hn4 2
  have y3 := cell_of_block hn4 3
  simp only [List.getElem?_toArray, List.getElem?_cons_zero, List.getElem?_cons_succ] at y0 y1 y2 y3
  have f0 := frozen_of_block hn4 0
  have f1 := frozen_of_block hn4 1
  have f2 := frozen_of_block hn4 2
  have f3 := frozen_of_block hn4 3
  clear hn4
  go_wp2_with fail
  have h4 : (((((w4).setCell ⟨b4, 0, none⟩ (.int .i64 0)).setCell ⟨b4, 1, none⟩ (.int .u64 0)).setCell ⟨b4, 2, none⟩ (.slice none 0 0)).setCell ⟨b4, 3, none⟩ (.int .i64 0)).heap[b4]? = some (.cells #[.int .i64 0, .int .u64 0, .slice none 0 0, .int .i64 0] 32 (0, 0)) := setCell_block (setCell_block (setCell_block (setCell_block (HN5.out) 0 (.int .i64 0)) 1 (.int .u64 0)) 2 (.slice none 0 0)) 3 (.int .i64 0)
  have hC5 : Chg [b4] w4 (((((w4).setCell ⟨b4, 0, none⟩ (.int .i64 0)).setCell ⟨b4, 1, none⟩ (.int .u64 0)).setCell ⟨b4, 2, none⟩ (.slice none 0 0)).setCell ⟨b4, 3, none⟩ (.int .i64 0)) := ((((Chg.refl [b4] w4).setCell (.inl (by simp)) _).setCell (.inl (by simp)) _).setCell (.inl (by simp)) _).setCell (.inl (by simp)) _
  clear f0 f1 f2 f3 y0 y1 y2 y3
  generalize ((((w4).setCell ⟨b4, 0, none⟩ (.int .i64 0)).setCell ⟨b4, 1, none⟩ (.int .u64 0)).setCell ⟨b4, 2, none⟩ (.slice none 0 0)).setCell ⟨b4, 3, none⟩ (.int .i64 0) = W5 at *
  have z0 := cell_of_block h4 0
  have z1 := cell_of_block h4 1
  have z2 := cell_of_block h4 2
  have z3 := cell_of_block h4 3
  simp only [List.getElem?_toArray, List.getElem?_cons_zero, List.getElem?_cons_succ] at z0 z1 z2 z3
  (try simp only [Exit.inBlock, Exit.then])
  refine bodyPost_ret (v := repV 0 0 (.slice none 0 0) 0) (by simp [results, Try.results18, go_sem, repV, z0, z1, z2, z3]) rfl ?_
  exact ⟨_, _, _, rfl, rdo_fin HR5.out HL5.out H.out.lt hb4w (heap_lt HN4.out) hC5, fun b hb => (HL5.out b hb).imp (fun h => h) (fun h => Nat.le_trans HC2.out.size h), (((Chg.refl [p] w).then HC2.out (by simp)).then HC5.out (fun x hx => .inl hx)).then hC5 (fun x hx => .inr (by simp only [List.mem_singleton] at hx; rw [hx]; exact hb4w))⟩

set_option maxRecDepth 20000 in
set_option maxHeartbeats 4000000 in
theorem rdo_trim {L : List Nat} {B : Nat} {w : World} {p i vol pl n dl dc : Nat} {da : Option Addr} {vv : Value} {R : RSt} (h : RefAt L B w p vv R) (hB : B ≤ 1000000) (hix : ixOf R.vols vol = (i : Int)) (hi : i < R.vols.length) (hB2 : 2 * B ≤ 1000000) (hpl : pl < 18446744073709551616) (hn : n < 18446744073709551616) (hw : wrongR R 6 vol pl n dl = 0) :
    Calls Try.prog 18 #[.pointer (some ⟨p, 0, none⟩), .agg #[.int .u8 6, .int .u64 (vol : Int), .int .u64 (pl : Int), .int .u64 (n : Int), .slice da dl dc]] w fun e w' => ∃ l, PlR (R.vols[i]!).2.2 (R.vols[i]!).2.2.length l ∧ e = .returned (repV 0 0 (.slice none 0 0) (selT pl n l).length) ∧ TrimAt L B w p i R (R.vols[i]!).2.2 (R.vols[i]!).1 (selT pl n l) w' := by
  have HPP := Lib.hid (And.intro hi (And.intro hpl (And.intro hn hB2)))
  clear hi hpl hn hB2
  have HIX := Lib.hid hix
  clear hix
  have H := Lib.hid h
  have HBN := Lib.hid hB
  have HWR := Lib.hid hw
  clear h hB hw
  go_enter Try.func18, Try.ntmps18
  go_upto_region 1 with fail
  have h3 := (Chg.refl [] w).alloc (.cells #[.int .u8 6, .int .u64 (vol : Int), .int .u64 (pl : Int), .int .u64 (n : Int), .slice da dl dc] 26)
  have h4 := (Chg.refl [] (w.alloc (.cells #[.int .u8 6, .int .u64 (vol : Int), .int .u64 (pl : Int), .int .u64 (n : Int), .slice da dl dc] 26))).alloc (.cells #[.int .i64 0, .int .u64 0, .slice none 0 0, .int .i64 0] 32)
  have n3 := new_block w (.cells #[.int .u8 6, .int .u64 (vol : Int), .int .u64 (pl : Int), .int .u64 (n : Int), .slice da dl dc] 26)
  have n4 := new_block (w.alloc (.cells #[.int .u8 6, .int .u64 (vol : Int), .int .u64 (pl : Int), .int .u64 (n : Int), .slice da dl dc] 26)) (.cells #[.int .i64 0, .int .u64 0, .slice none 0 0, .int .i64 0] 32)
  have n3 := (h4.block _ (heap_lt n3) (by simp)).trans n3
  have hsz := size_alloc' w (.cells #[.int .u8 6, .int .u64 (vol : Int), .int .u64 (pl : Int), .int .u64 (n : Int), .slice da dl dc] 26)
  rw [hsz] at n4
  have HC := Lib.hid (h3.trans h4)
  obtain ⟨b4, hb4⟩ : ∃ b4, b4 = w.heap.size + 1 := ⟨_, rfl⟩
  rw [← hb4] at n4
  have HN := Lib.hid (And.intro n3 (And.intro n4 hb4))
  clear h3 h4 n3 n4 hsz
  generalize hWW : (w.alloc (.cells #[.int .u8 6, .int .u64 (vol : Int), .int .u64 (pl : Int), .int .u64 (n : Int), .slice da dl dc] 26)).alloc (.cells #[.int .i64 0, .int .u64 0, .slice none 0 0, .int .i64 0] 32) = W at *
  obtain ⟨b3, hb3⟩ : ∃ b3, b3 = w.heap.size := ⟨_, rfl⟩
  have HB3 := Lib.hid hb3
  rw [← hb4, ← hb3]
  clear hWW hb3 hb4
  have hR := H.out.chg HC.out (by simp)
  have HW : Hid (Calls Try.prog 35 #[.pointer (some ⟨p, 0, none⟩), .agg #[.int .u8 6, .int .u64 (vol : Int), .int .u64 (pl : Int), .int .u64 (n : Int), .slice da dl dc]] W fun e w' => e = .returned (.int .i64 ((wrongR R 6 vol pl n dl : Nat) : Int)) ∧ Chg [] W w') := Lib.hid (r24wrong_at (code := 6) hR HBN.out (by omega))
  have n3 : W.heap[b3]? = some (.cells #[.int .u8 6, .int .u64 (vol : Int), .int .u64 (pl : Int), .int .u64 (n : Int), .slice da dl dc] 26 (0, 0)) := by rw [HB3.out]; exact HN.out.1
  have n4 := HN.out.2.1
  have x0 := cell_of_block n3 0
  have x1 := cell_of_block n3 1
  have x2 := cell_of_block n3 2
  have x3 := cell_of_block n3 3
  have x4 := cell_of_block n3 4
  simp only [List.getElem?_toArray, List.getElem?_cons_zero, List.getElem?_cons_succ] at x0 x1 x2 x3 x4
  clear hR n3 n4
  go_wp2_with fail
  refine HW.out.mono ?_
  rintro e w2 ⟨rfl, hC2⟩
  rw [HWR.out]
  have HC2 := Lib.hid (HC.out.trans hC2)
  have hR := H.out.chg HC2.out (by simp)
  have n3 : w2.heap[b3]? = some (.cells #[.int .u8 6, .int .u64 (vol : Int), .int .u64 (pl : Int), .int .u64 (n : Int), .slice da dl dc] 26 (0, 0)) := by rw [HB3.out]; exact (hC2.block _ (heap_lt HN.out.1) (by simp)).trans HN.out.1
  have n4 := (hC2.block _ (heap_lt HN.out.2.1) (by simp)).trans HN.out.2.1
  have hp2 := hR.blk
  have HR2 := Lib.hid hR
  have HN3 := Lib.hid n3
  have HN4 := Lib.hid n4
  have hb4w : w.heap.size ≤ b4 := by have := HN.out.2.2; omega
  have hpb : p ≠ b4 := by have := H.out.heap_p; omega
  have hpb3 : p ≠ b3 := by have := H.out.heap_p; have := HB3.out; omega
  clear hR hC2 x0 x1 x2 x3 x4 HW
  have x0 := cell_of_block n3 0
  have x1 := cell_of_block n3 1
  have x2 := cell_of_block n3 2
  have x3 := cell_of_block n3 3
  have x4 := cell_of_block n3 4
  simp only [List.getElem?_toArray, List.getElem?_cons_zero, List.getElem?_cons_succ] at x0 x1 x2 x3 x4
  have y0 := cell_of_block n4 0
  have y1 := cell_of_block n4 1
  have y2 := cell_of_block n4 2
  have y3 := cell_of_block n4 3
  simp only [List.getElem?_toArray, List.getElem?_cons_zero, List.getElem?_cons_succ] at y0 y1 y2 y3
  have m0 := cell_of_block hp2 0
  have m1 := cell_of_block hp2 1
  have m2 := cell_of_block hp2 2
  simp only [List.getElem?_toArray, List.getElem?_cons_zero, List.getElem?_cons_succ] at m0 m1 m2
  have f0 := frozen_of_block n4 0
  have f1 := frozen_of_block n4 1
  have f2 := frozen_of_block n4 2
  have f3 := frozen_of_block n4 3
  clear n3 n4 hp2
  have HAT := Lib.hid (r24at_at (v := vol) HR2.out HBN.out)
  go_wp2_with fail
  refine HAT.out.mono ?_
  rintro e w3 ⟨rfl, rfl⟩
  rw [HIX.out]
  clear HAT
  have htm := r24trim_at (code := 6) (vol := vol) (dv := .slice da dl dc) HR2.out HPP.out.2.2.2 HPP.out.1 HPP.out.2.1 HPP.out.2.2.1
  rw [show (((6 : Nat)) : Int) = (6 : Int) from rfl] at htm
  have HTM := Lib.hid htm
  clear htm
  go_wp2_with fail
  refine HTM.out.mono ?_
  rintro e w4 ⟨l, hPl, rfl, vv', nv, L', hR', hL', hC'⟩
  have HPL := Lib.hid hPl
  clear HTM hPl
  obtain ⟨ct, hct⟩ : ∃ k, k = (selT pl n l).length := ⟨_, rfl⟩
  rw [← hct]
  have HCT := Lib.hid hct
  clear hct
  have hn4 := (hC'.block b4 (heap_lt HN4.out) (by simp; omega)).trans HN4.out
  have HN5 := Lib.hid hn4
  have HR5 := Lib.hid hR'
  have HL5 := Lib.hid hL'
  have HC5 := Lib.hid hC'
  clear y0 y1 y2 y3 f0 f1 f2 f3 hR' hL' hC'
  have y0 := cell_of_block hn4 0
  have y1 := cell_of_block hn4 1
  have y2 := cell_of_block hn4 2
  have y3 := cell_of_block hn4 3
  simp only [List.getElem?_toArray, List.getElem?_cons_zero, List.getElem?_cons_succ] at y0 y1 y2 y3
  have f0 := frozen_of_block hn4 0
  have f1 := frozen_of_block hn4 1
  have f2 := frozen_of_block hn4 2
  have f3 := frozen_of_block hn4 3
  clear hn4
  go_wp2_with fail
  have h4 : (((((w4).setCell ⟨b4, 0, none⟩ (.int .i64 0)).setCell ⟨b4, 1, none⟩ (.int .u64 0)).setCell ⟨b4, 2, none⟩ (.slice none 0 0)).setCell ⟨b4, 3, none⟩ (.int .i64 (ct : Int))).heap[b4]? = some (.cells #[.int .i64 0, .int .u64 0, .slice none 0 0, .int .i64 (ct : Int)] 32 (0, 0)) := setCell_block (setCell_block (setCell_block (setCell_block (HN5.out) 0 (.int .i64 0)) 1 (.int .u64 0)) 2 (.slice none 0 0)) 3 (.int .i64 (ct : Int))
  have hC5 : Chg [b4] w4 (((((w4).setCell ⟨b4, 0, none⟩ (.int .i64 0)).setCell ⟨b4, 1, none⟩ (.int .u64 0)).setCell ⟨b4, 2, none⟩ (.slice none 0 0)).setCell ⟨b4, 3, none⟩ (.int .i64 (ct : Int))) := ((((Chg.refl [b4] w4).setCell (.inl (by simp)) _).setCell (.inl (by simp)) _).setCell (.inl (by simp)) _).setCell (.inl (by simp)) _
  clear f0 f1 f2 f3 y0 y1 y2 y3
  generalize ((((w4).setCell ⟨b4, 0, none⟩ (.int .i64 0)).setCell ⟨b4, 1, none⟩ (.int .u64 0)).setCell ⟨b4, 2, none⟩ (.slice none 0 0)).setCell ⟨b4, 3, none⟩ (.int .i64 (ct : Int)) = W5 at *
  have z0 := cell_of_block h4 0
  have z1 := cell_of_block h4 1
  have z2 := cell_of_block h4 2
  have z3 := cell_of_block h4 3
  simp only [List.getElem?_toArray, List.getElem?_cons_zero, List.getElem?_cons_succ] at z0 z1 z2 z3
  (try simp only [Exit.inBlock, Exit.then])
  refine bodyPost_ret (v := repV 0 0 (.slice none 0 0) (ct)) (by simp [results, Try.results18, go_sem, repV, z0, z1, z2, z3]) rfl ?_
  exact ⟨l, HPL.out, by rw [HCT.out], _, _, _, rdo_fin HR5.out HL5.out H.out.lt hb4w (heap_lt HN4.out) hC5, fun b hb => (HL5.out b hb).imp (fun h => h) (fun h => Nat.le_trans HC2.out.size h), (((Chg.refl [p] w).then HC2.out (by simp)).then HC5.out (fun x hx => .inl hx)).then hC5 (fun x hx => .inr (by simp only [List.mem_singleton] at hx; rw [hx]; exact hb4w))⟩

end Go.Proofs.Ytbejcmbdaoakbaa
