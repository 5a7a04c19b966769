/- The reference of layer 24: wrong. (Printed by mkrwrong.py.) -/
import Derived.Test.YtbejcmbdaoakbaaRg1
import Derived.BigQuiet
namespace Go.Proofs.Ytbejcmbdaoakbaa
open Go.RowKit
set_option linter.unusedVariables false
set_option linter.unusedSimpArgs false

def wrongR (R : RSt) (code vol pl n len : Nat) : Nat :=
  if code = 0 ∨ 9 < code then 240
  else if 2 ≤ code ∧ code ≤ 6 ∧ ixOf R.vols vol < 0 then 200
  else if (4 ≤ code ∧ code ≤ 6 ∧ R.size ≤ pl) ∨ (code = 6 ∧ R.size - pl < n) then 241
  else if code = 5 ∧ len ≠ 128 then 242 else 0

set_option maxRecDepth 20000 in
set_option maxHeartbeats 4000000 in
theorem wr_zero {L : List Nat} {B : Nat} {w : World} {p vol pl n len cap : Nat} {a : Option Addr} {vv : Value} {R : RSt} (h : RefAt L B w p vv R) (hB : B ≤ 1000000)  :
    Calls Try.prog 35 #[.pointer (some ⟨p, 0, none⟩), .agg #[.int .u8 0, .int .u64 (vol : Int), .int .u64 (pl : Int), .int .u64 (n : Int), .slice a len cap]] w fun e w' => e = .returned (.int .i64 240) ∧ Chg [] w w' := by
  have hsz := h.size
  have H := Lib.hid h
  have HBB := Lib.hid hB
  clear h hB hsz
  go_enter Try.func35, Try.ntmps35
  go_upto_region 1 with fail
  have hC := (Chg.refl [] w).alloc (.cells #[.int .u8 0, .int .u64 (vol : Int), .int .u64 (pl : Int), .int .u64 (n : Int), .slice a len cap] 26)
  have hb := new_block w (.cells #[.int .u8 0, .int .u64 (vol : Int), .int .u64 (pl : Int), .int .u64 (n : Int), .slice a len cap] 26)
  have hp := (hC.block p (heap_lt H.out.blk) (by simp)).trans H.out.blk
  have HC := Lib.hid hC
  have HA := Lib.hid (r24at_at (v := vol) (H.out.chg hC (by simp)) HBB.out)
  clear hC
  generalize w.alloc (.cells #[.int .u8 0, .int .u64 (vol : Int), .int .u64 (pl : Int), .int .u64 (n : Int), .slice a len cap] 26) = W at *
  obtain ⟨b, hbb⟩ : ∃ b, b = w.heap.size := ⟨_, rfl⟩
  rw [← hbb] at hb ⊢
  clear hbb
  have x0 := cell_of_block hb 0
  have x1 := cell_of_block hb 1
  have x2 := cell_of_block hb 2
  have x3 := cell_of_block hb 3
  have x4 := cell_of_block hb 4
  simp only [List.getElem?_toArray, List.getElem?_cons_zero, List.getElem?_cons_succ] at x0 x1 x2 x3 x4
  have m0 := cell_of_block hp 0
  have m1 := cell_of_block hp 1
  have m2 := cell_of_block hp 2
  simp only [List.getElem?_toArray, List.getElem?_cons_zero, List.getElem?_cons_succ] at m0 m1 m2
  clear hb hp
  go_wp2_with fail
  go_ret
  exact ⟨rfl, HC.out⟩

set_option maxRecDepth 20000 in
set_option maxHeartbeats 4000000 in
theorem wr_big {L : List Nat} {B : Nat} {w : World} {p code vol pl n len cap : Nat} {a : Option Addr} {vv : Value} {R : RSt} (h : RefAt L B w p vv R) (hB : B ≤ 1000000) (i0 : 9 < code) :
    Calls Try.prog 35 #[.pointer (some ⟨p, 0, none⟩), .agg #[.int .u8 (code : Int), .int .u64 (vol : Int), .int .u64 (pl : Int), .int .u64 (n : Int), .slice a len cap]] w fun e w' => e = .returned (.int .i64 240) ∧ Chg [] w w' := by
  have hsz := h.size
  have j0 : ((code : Int) == 0) = false := by simp; omega
  have j1 : (9 : Int) < (code : Int) := by omega
  have d1 : decide ((9 : Int) < (code : Int)) = true := by simp; omega
  have H := Lib.hid h
  have HBB := Lib.hid hB
  clear h hB hsz
  go_enter Try.func35, Try.ntmps35
  go_upto_region 1 with fail
  have hC := (Chg.refl [] w).alloc (.cells #[.int .u8 (code : Int), .int .u64 (vol : Int), .int .u64 (pl : Int), .int .u64 (n : Int), .slice a len cap] 26)
  have hb := new_block w (.cells #[.int .u8 (code : Int), .int .u64 (vol : Int), .int .u64 (pl : Int), .int .u64 (n : Int), .slice a len cap] 26)
  have hp := (hC.block p (heap_lt H.out.blk) (by simp)).trans H.out.blk
  have HC := Lib.hid hC
  have HA := Lib.hid (r24at_at (v := vol) (H.out.chg hC (by simp)) HBB.out)
  clear hC
  generalize w.alloc (.cells #[.int .u8 (code : Int), .int .u64 (vol : Int), .int .u64 (pl : Int), .int .u64 (n : Int), .slice a len cap] 26) = W at *
  obtain ⟨b, hbb⟩ : ∃ b, b = w.heap.size := ⟨_, rfl⟩
  rw [← hbb] at hb ⊢
  clear hbb
  have x0 := cell_of_block hb 0
  have x1 := cell_of_block hb 1
  have x2 := cell_of_block hb 2
  have x3 := cell_of_block hb 3
  have x4 := cell_of_block hb 4
  simp only [List.getElem?_toArray, List.getElem?_cons_zero, List.getElem?_cons_succ] at x0 x1 x2 x3 x4
  have m0 := cell_of_block hp 0
  have m1 := cell_of_block hp 1
  have m2 := cell_of_block hp 2
  simp only [List.getElem?_toArray, List.getElem?_cons_zero, List.getElem?_cons_succ] at m0 m1 m2
  clear hb hp
  go_wp2_with fail
  go_ret
  exact ⟨rfl, HC.out⟩

set_option maxRecDepth 20000 in
set_option maxHeartbeats 4000000 in
theorem wr_p1 {L : List Nat} {B : Nat} {w : World} {p vol pl n len cap : Nat} {a : Option Addr} {vv : Value} {R : RSt} (h : RefAt L B w p vv R) (hB : B ≤ 1000000)  :
    Calls Try.prog 35 #[.pointer (some ⟨p, 0, none⟩), .agg #[.int .u8 1, .int .u64 (vol : Int), .int .u64 (pl : Int), .int .u64 (n : Int), .slice a len cap]] w fun e w' => e = .returned (.int .i64 0) ∧ Chg [] w w' := by
  have hsz := h.size
  have H := Lib.hid h
  have HBB := Lib.hid hB
  clear h hB hsz
  go_enter Try.func35, Try.ntmps35
  go_upto_region 1 with fail
  have hC := (Chg.refl [] w).alloc (.cells #[.int .u8 1, .int .u64 (vol : Int), .int .u64 (pl : Int), .int .u64 (n : Int), .slice a len cap] 26)
  have hb := new_block w (.cells #[.int .u8 1, .int .u64 (vol : Int), .int .u64 (pl : Int), .int .u64 (n : Int), .slice a len cap] 26)
  have hp := (hC.block p (heap_lt H.out.blk) (by simp)).trans H.out.blk
  have HC := Lib.hid hC
  have HA := Lib.hid (r24at_at (v := vol) (H.out.chg hC (by simp)) HBB.out)
  clear hC
  generalize w.alloc (.cells #[.int .u8 1, .int .u64 (vol : Int), .int .u64 (pl : Int), .int .u64 (n : Int), .slice a len cap] 26) = W at *
  obtain ⟨b, hbb⟩ : ∃ b, b = w.heap.size := ⟨_, rfl⟩
  rw [← hbb] at hb ⊢
  clear hbb
  have x0 := cell_of_block hb 0
  have x1 := cell_of_block hb 1
  have x2 := cell_of_block hb 2
  have x3 := cell_of_block hb 3
  have x4 := cell_of_block hb 4
  simp only [List.getElem?_toArray, List.getElem?_cons_zero, List.getElem?_cons_succ] at x0 x1 x2 x3 x4
  have m0 := cell_of_block hp 0
  have m1 := cell_of_block hp 1
  have m2 := cell_of_block hp 2
  simp only [List.getElem?_toArray, List.getElem?_cons_zero, List.getElem?_cons_succ] at m0 m1 m2
  clear hb hp
  go_wp2_with fail
  go_quiet (fail)
  go_wp2_with fail
  go_ret
  exact ⟨rfl, HC.out.trans ((Chg.refl [] _).drewN _)⟩

set_option maxRecDepth 20000 in
set_option maxHeartbeats 4000000 in
theorem wr_p7 {L : List Nat} {B : Nat} {w : World} {p vol pl n len cap : Nat} {a : Option Addr} {vv : Value} {R : RSt} (h : RefAt L B w p vv R) (hB : B ≤ 1000000)  :
    Calls Try.prog 35 #[.pointer (some ⟨p, 0, none⟩), .agg #[.int .u8 7, .int .u64 (vol : Int), .int .u64 (pl : Int), .int .u64 (n : Int), .slice a len cap]] w fun e w' => e = .returned (.int .i64 0) ∧ Chg [] w w' := by
  have hsz := h.size
  have H := Lib.hid h
  have HBB := Lib.hid hB
  clear h hB hsz
  go_enter Try.func35, Try.ntmps35
  go_upto_region 1 with fail
  have hC := (Chg.refl [] w).alloc (.cells #[.int .u8 7, .int .u64 (vol : Int), .int .u64 (pl : Int), .int .u64 (n : Int), .slice a len cap] 26)
  have hb := new_block w (.cells #[.int .u8 7, .int .u64 (vol : Int), .int .u64 (pl : Int), .int .u64 (n : Int), .slice a len cap] 26)
  have hp := (hC.block p (heap_lt H.out.blk) (by simp)).trans H.out.blk
  have HC := Lib.hid hC
  have HA := Lib.hid (r24at_at (v := vol) (H.out.chg hC (by simp)) HBB.out)
  clear hC
  generalize w.alloc (.cells #[.int .u8 7, .int .u64 (vol : Int), .int .u64 (pl : Int), .int .u64 (n : Int), .slice a len cap] 26) = W at *
  obtain ⟨b, hbb⟩ : ∃ b, b = w.heap.size := ⟨_, rfl⟩
  rw [← hbb] at hb ⊢
  clear hbb
  have x0 := cell_of_block hb 0
  have x1 := cell_of_block hb 1
  have x2 := cell_of_block hb 2
  have x3 := cell_of_block hb 3
  have x4 := cell_of_block hb 4
  simp only [List.getElem?_toArray, List.getElem?_cons_zero, List.getElem?_cons_succ] at x0 x1 x2 x3 x4
  have m0 := cell_of_block hp 0
  have m1 := cell_of_block hp 1
  have m2 := cell_of_block hp 2
  simp only [List.getElem?_toArray, List.getElem?_cons_zero, List.getElem?_cons_succ] at m0 m1 m2
  clear hb hp
  go_wp2_with fail
  go_quiet (fail)
  go_wp2_with fail
  go_ret
  exact ⟨rfl, HC.out.trans ((Chg.refl [] _).drewN _)⟩

set_option maxRecDepth 20000 in
set_option maxHeartbeats 4000000 in
theorem wr_p8 {L : List Nat} {B : Nat} {w : World} {p vol pl n len cap : Nat} {a : Option Addr} {vv : Value} {R : RSt} (h : RefAt L B w p vv R) (hB : B ≤ 1000000)  :
    Calls Try.prog 35 #[.pointer (some ⟨p, 0, none⟩), .agg #[.int .u8 8, .int .u64 (vol : Int), .int .u64 (pl : Int), .int .u64 (n : Int), .slice a len cap]] w fun e w' => e = .returned (.int .i64 0) ∧ Chg [] w w' := by
  have hsz := h.size
  have H := Lib.hid h
  have HBB := Lib.hid hB
  clear h hB hsz
  go_enter Try.func35, Try.ntmps35
  go_upto_region 1 with fail
  have hC := (Chg.refl [] w).alloc (.cells #[.int .u8 8, .int .u64 (vol : Int), .int .u64 (pl : Int), .int .u64 (n : Int), .slice a len cap] 26)
  have hb := new_block w (.cells #[.int .u8 8, .int .u64 (vol : Int), .int .u64 (pl : Int), .int .u64 (n : Int), .slice a len cap] 26)
  have hp := (hC.block p (heap_lt H.out.blk) (by simp)).trans H.out.blk
  have HC := Lib.hid hC
  have HA := Lib.hid (r24at_at (v := vol) (H.out.chg hC (by simp)) HBB.out)
  clear hC
  generalize w.alloc (.cells #[.int .u8 8, .int .u64 (vol : Int), .int .u64 (pl : Int), .int .u64 (n : Int), .slice a len cap] 26) = W at *
  obtain ⟨b, hbb⟩ : ∃ b, b = w.heap.size := ⟨_, rfl⟩
  rw [← hbb] at hb ⊢
  clear hbb
  have x0 := cell_of_block hb 0
  have x1 := cell_of_block hb 1
  have x2 := cell_of_block hb 2
  have x3 := cell_of_block hb 3
  have x4 := cell_of_block hb 4
  simp only [List.getElem?_toArray, List.getElem?_cons_zero, List.getElem?_cons_succ] at x0 x1 x2 x3 x4
  have m0 := cell_of_block hp 0
  have m1 := cell_of_block hp 1
  have m2 := cell_of_block hp 2
  simp only [List.getElem?_toArray, List.getElem?_cons_zero, List.getElem?_cons_succ] at m0 m1 m2
  clear hb hp
  go_wp2_with fail
  go_quiet (fail)
  go_wp2_with fail
  go_ret
  exact ⟨rfl, HC.out.trans ((Chg.refl [] _).drewN _)⟩

set_option maxRecDepth 20000 in
set_option maxHeartbeats 4000000 in
theorem wr_p9 {L : List Nat} {B : Nat} {w : World} {p vol pl n len cap : Nat} {a : Option Addr} {vv : Value} {R : RSt} (h : RefAt L B w p vv R) (hB : B ≤ 1000000)  :
    Calls Try.prog 35 #[.pointer (some ⟨p, 0, none⟩), .agg #[.int .u8 9, .int .u64 (vol : Int), .int .u64 (pl : Int), .int .u64 (n : Int), .slice a len cap]] w fun e w' => e = .returned (.int .i64 0) ∧ Chg [] w w' := by
  have hsz := h.size
  have H := Lib.hid h
  have HBB := Lib.hid hB
  clear h hB hsz
  go_enter Try.func35, Try.ntmps35
  go_upto_region 1 with fail
  have hC := (Chg.refl [] w).alloc (.cells #[.int .u8 9, .int .u64 (vol : Int), .int .u64 (pl : Int), .int .u64 (n : Int), .slice a len cap] 26)
  have hb := new_block w (.cells #[.int .u8 9, .int .u64 (vol : Int), .int .u64 (pl : Int), .int .u64 (n : Int), .slice a len cap] 26)
  have hp := (hC.block p (heap_lt H.out.blk) (by simp)).trans H.out.blk
  have HC := Lib.hid hC
  have HA := Lib.hid (r24at_at (v := vol) (H.out.chg hC (by simp)) HBB.out)
  clear hC
  generalize w.alloc (.cells #[.int .u8 9, .int .u64 (vol : Int), .int .u64 (pl : Int), .int .u64 (n : Int), .slice a len cap] 26) = W at *
  obtain ⟨b, hbb⟩ : ∃ b, b = w.heap.size := ⟨_, rfl⟩
  rw [← hbb] at hb ⊢
  clear hbb
  have x0 := cell_of_block hb 0
  have x1 := cell_of_block hb 1
  have x2 := cell_of_block hb 2
  have x3 := cell_of_block hb 3
  have x4 := cell_of_block hb 4
  simp only [List.getElem?_toArray, List.getElem?_cons_zero, List.getElem?_cons_succ] at x0 x1 x2 x3 x4
  have m0 := cell_of_block hp 0
  have m1 := cell_of_block hp 1
  have m2 := cell_of_block hp 2
  simp only [List.getElem?_toArray, List.getElem?_cons_zero, List.getElem?_cons_succ] at m0 m1 m2
  clear hb hp
  go_wp2_with fail
  go_quiet (fail)
  go_wp2_with fail
  go_ret
  exact ⟨rfl, HC.out.trans ((Chg.refl [] _).drewN _)⟩

set_option maxRecDepth 20000 in
set_option maxHeartbeats 4000000 in
theorem wr_n2 {L : List Nat} {B : Nat} {w : World} {p vol pl n len cap : Nat} {a : Option Addr} {vv : Value} {R : RSt} (h : RefAt L B w p vv R) (hB : B ≤ 1000000) (i1 : ixOf R.vols vol < 0) :
    Calls Try.prog 35 #[.pointer (some ⟨p, 0, none⟩), .agg #[.int .u8 2, .int .u64 (vol : Int), .int .u64 (pl : Int), .int .u64 (n : Int), .slice a len cap]] w fun e w' => e = .returned (.int .i64 200) ∧ Chg [] w w' := by
  have hsz := h.size
  have H := Lib.hid h
  have HBB := Lib.hid hB
  clear h hB hsz
  go_enter Try.func35, Try.ntmps35
  go_upto_region 1 with fail
  have hC := (Chg.refl [] w).alloc (.cells #[.int .u8 2, .int .u64 (vol : Int), .int .u64 (pl : Int), .int .u64 (n : Int), .slice a len cap] 26)
  have hb := new_block w (.cells #[.int .u8 2, .int .u64 (vol : Int), .int .u64 (pl : Int), .int .u64 (n : Int), .slice a len cap] 26)
  have hp := (hC.block p (heap_lt H.out.blk) (by simp)).trans H.out.blk
  have HC := Lib.hid hC
  have HA := Lib.hid (r24at_at (v := vol) (H.out.chg hC (by simp)) HBB.out)
  clear hC
  generalize w.alloc (.cells #[.int .u8 2, .int .u64 (vol : Int), .int .u64 (pl : Int), .int .u64 (n : Int), .slice a len cap] 26) = W at *
  obtain ⟨b, hbb⟩ : ∃ b, b = w.heap.size := ⟨_, rfl⟩
  rw [← hbb] at hb ⊢
  clear hbb
  have x0 := cell_of_block hb 0
  have x1 := cell_of_block hb 1
  have x2 := cell_of_block hb 2
  have x3 := cell_of_block hb 3
  have x4 := cell_of_block hb 4
  simp only [List.getElem?_toArray, List.getElem?_cons_zero, List.getElem?_cons_succ] at x0 x1 x2 x3 x4
  have m0 := cell_of_block hp 0
  have m1 := cell_of_block hp 1
  have m2 := cell_of_block hp 2
  simp only [List.getElem?_toArray, List.getElem?_cons_zero, List.getElem?_cons_succ] at m0 m1 m2
  clear hb hp
  go_wp2_with fail
  refine HA.out.mono ?_
  rintro e w' ⟨rfl, rfl⟩
  generalize ixOf R.vols vol = ix at *
  clear HA
  go_wp2_with fail
  go_ret
  exact ⟨rfl, HC.out⟩

set_option maxRecDepth 20000 in
set_option maxHeartbeats 4000000 in
theorem wr_p2 {L : List Nat} {B : Nat} {w : World} {p vol pl n len cap : Nat} {a : Option Addr} {vv : Value} {R : RSt} (h : RefAt L B w p vv R) (hB : B ≤ 1000000) (i1 : ¬ ixOf R.vols vol < 0) :
    Calls Try.prog 35 #[.pointer (some ⟨p, 0, none⟩), .agg #[.int .u8 2, .int .u64 (vol : Int), .int .u64 (pl : Int), .int .u64 (n : Int), .slice a len cap]] w fun e w' => e = .returned (.int .i64 0) ∧ Chg [] w w' := by
  have hsz := h.size
  have H := Lib.hid h
  have HBB := Lib.hid hB
  clear h hB hsz
  go_enter Try.func35, Try.ntmps35
  go_upto_region 1 with fail
  have hC := (Chg.refl [] w).alloc (.cells #[.int .u8 2, .int .u64 (vol : Int), .int .u64 (pl : Int), .int .u64 (n : Int), .slice a len cap] 26)
  have hb := new_block w (.cells #[.int .u8 2, .int .u64 (vol : Int), .int .u64 (pl : Int), .int .u64 (n : Int), .slice a len cap] 26)
  have hp := (hC.block p (heap_lt H.out.blk) (by simp)).trans H.out.blk
  have HC := Lib.hid hC
  have HA := Lib.hid (r24at_at (v := vol) (H.out.chg hC (by simp)) HBB.out)
  clear hC
  generalize w.alloc (.cells #[.int .u8 2, .int .u64 (vol : Int), .int .u64 (pl : Int), .int .u64 (n : Int), .slice a len cap] 26) = W at *
  obtain ⟨b, hbb⟩ : ∃ b, b = w.heap.size := ⟨_, rfl⟩
  rw [← hbb] at hb ⊢
  clear hbb
  have x0 := cell_of_block hb 0
  have x1 := cell_of_block hb 1
  have x2 := cell_of_block hb 2
  have x3 := cell_of_block hb 3
  have x4 := cell_of_block hb 4
  simp only [List.getElem?_toArray, List.getElem?_cons_zero, List.getElem?_cons_succ] at x0 x1 x2 x3 x4
  have m0 := cell_of_block hp 0
  have m1 := cell_of_block hp 1
  have m2 := cell_of_block hp 2
  simp only [List.getElem?_toArray, List.getElem?_cons_zero, List.getElem?_cons_succ] at m0 m1 m2
  clear hb hp
  go_wp2_with fail
  refine HA.out.mono ?_
  rintro e w' ⟨rfl, rfl⟩
  generalize ixOf R.vols vol = ix at *
  clear HA
  go_wp2_with fail
  go_quiet (fail)
  go_wp2_with fail
  go_ret
  exact ⟨rfl, HC.out.trans ((Chg.refl [] _).drewN _)⟩

set_option maxRecDepth 20000 in
set_option maxHeartbeats 4000000 in
theorem wr_n3 {L : List Nat} {B : Nat} {w : World} {p vol pl n len cap : Nat} {a : Option Addr} {vv : Value} {R : RSt} (h : RefAt L B w p vv R) (hB : B ≤ 1000000) (i1 : ixOf R.vols vol < 0) :
    Calls Try.prog 35 #[.pointer (some ⟨p, 0, none⟩), .agg #[.int .u8 3, .int .u64 (vol : Int), .int .u64 (pl : Int), .int .u64 (n : Int), .slice a len cap]] w fun e w' => e = .returned (.int .i64 200) ∧ Chg [] w w' := by
  have hsz := h.size
  have H := Lib.hid h
  have HBB := Lib.hid hB
  clear h hB hsz
  go_enter Try.func35, Try.ntmps35
  go_upto_region 1 with fail
  have hC := (Chg.refl [] w).alloc (.cells #[.int .u8 3, .int .u64 (vol : Int), .int .u64 (pl : Int), .int .u64 (n : Int), .slice a len cap] 26)
  have hb := new_block w (.cells #[.int .u8 3, .int .u64 (vol : Int), .int .u64 (pl : Int), .int .u64 (n : Int), .slice a len cap] 26)
  have hp := (hC.block p (heap_lt H.out.blk) (by simp)).trans H.out.blk
  have HC := Lib.hid hC
  have HA := Lib.hid (r24at_at (v := vol) (H.out.chg hC (by simp)) HBB.out)
  clear hC
  generalize w.alloc (.cells #[.int .u8 3, .int .u64 (vol : Int), .int .u64 (pl : Int), .int .u64 (n : Int), .slice a len cap] 26) = W at *
  obtain ⟨b, hbb⟩ : ∃ b, b = w.heap.size := ⟨_, rfl⟩
  rw [← hbb] at hb ⊢
  clear hbb
  have x0 := cell_of_block hb 0
  have x1 := cell_of_block hb 1
  have x2 := cell_of_block hb 2
  have x3 := cell_of_block hb 3
  have x4 := cell_of_block hb 4
  simp only [List.getElem?_toArray, List.getElem?_cons_zero, List.getElem?_cons_succ] at x0 x1 x2 x3 x4
  have m0 := cell_of_block hp 0
  have m1 := cell_of_block hp 1
  have m2 := cell_of_block hp 2
  simp only [List.getElem?_toArray, List.getElem?_cons_zero, List.getElem?_cons_succ] at m0 m1 m2
  clear hb hp
  go_wp2_with fail
  refine HA.out.mono ?_
  rintro e w' ⟨rfl, rfl⟩
  generalize ixOf R.vols vol = ix at *
  clear HA
  go_wp2_with fail
  go_ret
  exact ⟨rfl, HC.out⟩

set_option maxRecDepth 20000 in
set_option maxHeartbeats 4000000 in
theorem wr_p3 {L : List Nat} {B : Nat} {w : World} {p vol pl n len cap : Nat} {a : Option Addr} {vv : Value} {R : RSt} (h : RefAt L B w p vv R) (hB : B ≤ 1000000) (i1 : ¬ ixOf R.vols vol < 0) :
    Calls Try.prog 35 #[.pointer (some ⟨p, 0, none⟩), .agg #[.int .u8 3, .int .u64 (vol : Int), .int .u64 (pl : Int), .int .u64 (n : Int), .slice a len cap]] w fun e w' => e = .returned (.int .i64 0) ∧ Chg [] w w' := by
  have hsz := h.size
  have H := Lib.hid h
  have HBB := Lib.hid hB
  clear h hB hsz
  go_enter Try.func35, Try.ntmps35
  go_upto_region 1 with fail
  have hC := (Chg.refl [] w).alloc (.cells #[.int .u8 3, .int .u64 (vol : Int), .int .u64 (pl : Int), .int .u64 (n : Int), .slice a len cap] 26)
  have hb := new_block w (.cells #[.int .u8 3, .int .u64 (vol : Int), .int .u64 (pl : Int), .int .u64 (n : Int), .slice a len cap] 26)
  have hp := (hC.block p (heap_lt H.out.blk) (by simp)).trans H.out.blk
  have HC := Lib.hid hC
  have HA := Lib.hid (r24at_at (v := vol) (H.out.chg hC (by simp)) HBB.out)
  clear hC
  generalize w.alloc (.cells #[.int .u8 3, .int .u64 (vol : Int), .int .u64 (pl : Int), .int .u64 (n : Int), .slice a len cap] 26) = W at *
  obtain ⟨b, hbb⟩ : ∃ b, b = w.heap.size := ⟨_, rfl⟩
  rw [← hbb] at hb ⊢
  clear hbb
  have x0 := cell_of_block hb 0
  have x1 := cell_of_block hb 1
  have x2 := cell_of_block hb 2
  have x3 := cell_of_block hb 3
  have x4 := cell_of_block hb 4
  simp only [List.getElem?_toArray, List.getElem?_cons_zero, List.getElem?_cons_succ] at x0 x1 x2 x3 x4
  have m0 := cell_of_block hp 0
  have m1 := cell_of_block hp 1
  have m2 := cell_of_block hp 2
  simp only [List.getElem?_toArray, List.getElem?_cons_zero, List.getElem?_cons_succ] at m0 m1 m2
  clear hb hp
  go_wp2_with fail
  refine HA.out.mono ?_
  rintro e w' ⟨rfl, rfl⟩
  generalize ixOf R.vols vol = ix at *
  clear HA
  go_wp2_with fail
  go_quiet (fail)
  go_wp2_with fail
  go_ret
  exact ⟨rfl, HC.out.trans ((Chg.refl [] _).drewN _)⟩

set_option maxRecDepth 20000 in
set_option maxHeartbeats 4000000 in
theorem wr_n4 {L : List Nat} {B : Nat} {w : World} {p vol pl n len cap : Nat} {a : Option Addr} {vv : Value} {R : RSt} (h : RefAt L B w p vv R) (hB : B ≤ 1000000) (i1 : ixOf R.vols vol < 0) :
    Calls Try.prog 35 #[.pointer (some ⟨p, 0, none⟩), .agg #[.int .u8 4, .int .u64 (vol : Int), .int .u64 (pl : Int), .int .u64 (n : Int), .slice a len cap]] w fun e w' => e = .returned (.int .i64 200) ∧ Chg [] w w' := by
  have hsz := h.size
  have H := Lib.hid h
  have HBB := Lib.hid hB
  clear h hB hsz
  go_enter Try.func35, Try.ntmps35
  go_upto_region 1 with fail
  have hC := (Chg.refl [] w).alloc (.cells #[.int .u8 4, .int .u64 (vol : Int), .int .u64 (pl : Int), .int .u64 (n : Int), .slice a len cap] 26)
  have hb := new_block w (.cells #[.int .u8 4, .int .u64 (vol : Int), .int .u64 (pl : Int), .int .u64 (n : Int), .slice a len cap] 26)
  have hp := (hC.block p (heap_lt H.out.blk) (by simp)).trans H.out.blk
  have HC := Lib.hid hC
  have HA := Lib.hid (r24at_at (v := vol) (H.out.chg hC (by simp)) HBB.out)
  clear hC
  generalize w.alloc (.cells #[.int .u8 4, .int .u64 (vol : Int), .int .u64 (pl : Int), .int .u64 (n : Int), .slice a len cap] 26) = W at *
  obtain ⟨b, hbb⟩ : ∃ b, b = w.heap.size := ⟨_, rfl⟩
  rw [← hbb] at hb ⊢
  clear hbb
  have x0 := cell_of_block hb 0
  have x1 := cell_of_block hb 1
  have x2 := cell_of_block hb 2
  have x3 := cell_of_block hb 3
  have x4 := cell_of_block hb 4
  simp only [List.getElem?_toArray, List.getElem?_cons_zero, List.getElem?_cons_succ] at x0 x1 x2 x3 x4
  have m0 := cell_of_block hp 0
  have m1 := cell_of_block hp 1
  have m2 := cell_of_block hp 2
  simp only [List.getElem?_toArray, List.getElem?_cons_zero, List.getElem?_cons_succ] at m0 m1 m2
  clear hb hp
  go_wp2_with fail
  refine HA.out.mono ?_
  rintro e w' ⟨rfl, rfl⟩
  generalize ixOf R.vols vol = ix at *
  clear HA
  go_wp2_with fail
  go_ret
  exact ⟨rfl, HC.out⟩

set_option maxRecDepth 20000 in
set_option maxHeartbeats 4000000 in
theorem wr_g4 {L : List Nat} {B : Nat} {w : World} {p vol pl n len cap : Nat} {a : Option Addr} {vv : Value} {R : RSt} (h : RefAt L B w p vv R) (hB : B ≤ 1000000) (i1 : ¬ ixOf R.vols vol < 0) (i2 : R.size ≤ pl) :
    Calls Try.prog 35 #[.pointer (some ⟨p, 0, none⟩), .agg #[.int .u8 4, .int .u64 (vol : Int), .int .u64 (pl : Int), .int .u64 (n : Int), .slice a len cap]] w fun e w' => e = .returned (.int .i64 241) ∧ Chg [] w w' := by
  have hsz := h.size
  have j2 : (R.size : Int) ≤ (pl : Int) := by omega
  have d2 : decide ((R.size : Int) ≤ (pl : Int)) = true := by simp; omega
  have H := Lib.hid h
  have HBB := Lib.hid hB
  clear h hB hsz
  go_enter Try.func35, Try.ntmps35
  go_upto_region 1 with fail
  have hC := (Chg.refl [] w).alloc (.cells #[.int .u8 4, .int .u64 (vol : Int), .int .u64 (pl : Int), .int .u64 (n : Int), .slice a len cap] 26)
  have hb := new_block w (.cells #[.int .u8 4, .int .u64 (vol : Int), .int .u64 (pl : Int), .int .u64 (n : Int), .slice a len cap] 26)
  have hp := (hC.block p (heap_lt H.out.blk) (by simp)).trans H.out.blk
  have HC := Lib.hid hC
  have HA := Lib.hid (r24at_at (v := vol) (H.out.chg hC (by simp)) HBB.out)
  clear hC
  generalize w.alloc (.cells #[.int .u8 4, .int .u64 (vol : Int), .int .u64 (pl : Int), .int .u64 (n : Int), .slice a len cap] 26) = W at *
  obtain ⟨b, hbb⟩ : ∃ b, b = w.heap.size := ⟨_, rfl⟩
  rw [← hbb] at hb ⊢
  clear hbb
  have x0 := cell_of_block hb 0
  have x1 := cell_of_block hb 1
  have x2 := cell_of_block hb 2
  have x3 := cell_of_block hb 3
  have x4 := cell_of_block hb 4
  simp only [List.getElem?_toArray, List.getElem?_cons_zero, List.getElem?_cons_succ] at x0 x1 x2 x3 x4
  have m0 := cell_of_block hp 0
  have m1 := cell_of_block hp 1
  have m2 := cell_of_block hp 2
  simp only [List.getElem?_toArray, List.getElem?_cons_zero, List.getElem?_cons_succ] at m0 m1 m2
  clear hb hp
  go_wp2_with fail
  refine HA.out.mono ?_
  rintro e w' ⟨rfl, rfl⟩
  generalize ixOf R.vols vol = ix at *
  clear HA
  go_wp2_with fail
  go_quiet (fail)
  go_wp2_with fail
  go_ret
  exact ⟨rfl, HC.out.trans ((Chg.refl [] _).drewN _)⟩

set_option maxRecDepth 20000 in
set_option maxHeartbeats 4000000 in
theorem wr_p4 {L : List Nat} {B : Nat} {w : World} {p vol pl n len cap : Nat} {a : Option Addr} {vv : Value} {R : RSt} (h : RefAt L B w p vv R) (hB : B ≤ 1000000) (i1 : ¬ ixOf R.vols vol < 0) (i2 : pl < R.size) :
    Calls Try.prog 35 #[.pointer (some ⟨p, 0, none⟩), .agg #[.int .u8 4, .int .u64 (vol : Int), .int .u64 (pl : Int), .int .u64 (n : Int), .slice a len cap]] w fun e w' => e = .returned (.int .i64 0) ∧ Chg [] w w' := by
  have hsz := h.size
  have j2 : ¬ (R.size : Int) ≤ (pl : Int) := by omega
  have d2 : decide ((R.size : Int) ≤ (pl : Int)) = false := by simp; omega
  have n2 : ¬ R.size ≤ pl := by omega
  have e2 : decide (R.size ≤ pl) = false := by simp; omega
  clear i2
  have H := Lib.hid h
  have HBB := Lib.hid hB
  clear h hB hsz
  go_enter Try.func35, Try.ntmps35
  go_upto_region 1 with fail
  have hC := (Chg.refl [] w).alloc (.cells #[.int .u8 4, .int .u64 (vol : Int), .int .u64 (pl : Int), .int .u64 (n : Int), .slice a len cap] 26)
  have hb := new_block w (.cells #[.int .u8 4, .int .u64 (vol : Int), .int .u64 (pl : Int), .int .u64 (n : Int), .slice a len cap] 26)
  have hp := (hC.block p (heap_lt H.out.blk) (by simp)).trans H.out.blk
  have HC := Lib.hid hC
  have HA := Lib.hid (r24at_at (v := vol) (H.out.chg hC (by simp)) HBB.out)
  clear hC
  generalize w.alloc (.cells #[.int .u8 4, .int .u64 (vol : Int), .int .u64 (pl : Int), .int .u64 (n : Int), .slice a len cap] 26) = W at *
  obtain ⟨b, hbb⟩ : ∃ b, b = w.heap.size := ⟨_, rfl⟩
  rw [← hbb] at hb ⊢
  clear hbb
  have x0 := cell_of_block hb 0
  have x1 := cell_of_block hb 1
  have x2 := cell_of_block hb 2
  have x3 := cell_of_block hb 3
  have x4 := cell_of_block hb 4
  simp only [List.getElem?_toArray, List.getElem?_cons_zero, List.getElem?_cons_succ] at x0 x1 x2 x3 x4
  have m0 := cell_of_block hp 0
  have m1 := cell_of_block hp 1
  have m2 := cell_of_block hp 2
  simp only [List.getElem?_toArray, List.getElem?_cons_zero, List.getElem?_cons_succ] at m0 m1 m2
  clear hb hp
  go_wp2_with fail
  refine HA.out.mono ?_
  rintro e w' ⟨rfl, rfl⟩
  generalize ixOf R.vols vol = ix at *
  clear HA
  go_wp2_with fail
  go_quiet (fail)
  go_wp2_with fail
  go_ret
  exact ⟨rfl, HC.out.trans ((Chg.refl [] _).drewN _)⟩

set_option maxRecDepth 20000 in
set_option maxHeartbeats 4000000 in
theorem wr_n5 {L : List Nat} {B : Nat} {w : World} {p vol pl n len cap : Nat} {a : Option Addr} {vv : Value} {R : RSt} (h : RefAt L B w p vv R) (hB : B ≤ 1000000) (i1 : ixOf R.vols vol < 0) :
    Calls Try.prog 35 #[.pointer (some ⟨p, 0, none⟩), .agg #[.int .u8 5, .int .u64 (vol : Int), .int .u64 (pl : Int), .int .u64 (n : Int), .slice a len cap]] w fun e w' => e = .returned (.int .i64 200) ∧ Chg [] w w' := by
  have hsz := h.size
  have H := Lib.hid h
  have HBB := Lib.hid hB
  clear h hB hsz
  go_enter Try.func35, Try.ntmps35
  go_upto_region 1 with fail
  have hC := (Chg.refl [] w).alloc (.cells #[.int .u8 5, .int .u64 (vol : Int), .int .u64 (pl : Int), .int .u64 (n : Int), .slice a len cap] 26)
  have hb := new_block w (.cells #[.int .u8 5, .int .u64 (vol : Int), .int .u64 (pl : Int), .int .u64 (n : Int), .slice a len cap] 26)
  have hp := (hC.block p (heap_lt H.out.blk) (by simp)).trans H.out.blk
  have HC := Lib.hid hC
  have HA := Lib.hid (r24at_at (v := vol) (H.out.chg hC (by simp)) HBB.out)
  clear hC
  generalize w.alloc (.cells #[.int .u8 5, .int .u64 (vol : Int), .int .u64 (pl : Int), .int .u64 (n : Int), .slice a len cap] 26) = W at *
  obtain ⟨b, hbb⟩ : ∃ b, b = w.heap.size := ⟨_, rfl⟩
  rw [← hbb] at hb ⊢
  clear hbb
  have x0 := cell_of_block hb 0
  have x1 := cell_of_block hb 1
  have x2 := cell_of_block hb 2
  have x3 := cell_of_block hb 3
  have x4 := cell_of_block hb 4
  simp only [List.getElem?_toArray, List.getElem?_cons_zero, List.getElem?_cons_succ] at x0 x1 x2 x3 x4
  have m0 := cell_of_block hp 0
  have m1 := cell_of_block hp 1
  have m2 := cell_of_block hp 2
  simp only [List.getElem?_toArray, List.getElem?_cons_zero, List.getElem?_cons_succ] at m0 m1 m2
  clear hb hp
  go_wp2_with fail
  refine HA.out.mono ?_
  rintro e w' ⟨rfl, rfl⟩
  generalize ixOf R.vols vol = ix at *
  clear HA
  go_wp2_with fail
  go_ret
  exact ⟨rfl, HC.out⟩

set_option maxRecDepth 20000 in
set_option maxHeartbeats 4000000 in
theorem wr_g5 {L : List Nat} {B : Nat} {w : World} {p vol pl n len cap : Nat} {a : Option Addr} {vv : Value} {R : RSt} (h : RefAt L B w p vv R) (hB : B ≤ 1000000) (i1 : ¬ ixOf R.vols vol < 0) (i2 : R.size ≤ pl) :
    Calls Try.prog 35 #[.pointer (some ⟨p, 0, none⟩), .agg #[.int .u8 5, .int .u64 (vol : Int), .int .u64 (pl : Int), .int .u64 (n : Int), .slice a len cap]] w fun e w' => e = .returned (.int .i64 241) ∧ Chg [] w w' := by
  have hsz := h.size
  have j2 : (R.size : Int) ≤ (pl : Int) := by omega
  have d2 : decide ((R.size : Int) ≤ (pl : Int)) = true := by simp; omega
  have H := Lib.hid h
  have HBB := Lib.hid hB
  clear h hB hsz
  go_enter Try.func35, Try.ntmps35
  go_upto_region 1 with fail
  have hC := (Chg.refl [] w).alloc (.cells #[.int .u8 5, .int .u64 (vol : Int), .int .u64 (pl : Int), .int .u64 (n : Int), .slice a len cap] 26)
  have hb := new_block w (.cells #[.int .u8 5, .int .u64 (vol : Int), .int .u64 (pl : Int), .int .u64 (n : Int), .slice a len cap] 26)
  have hp := (hC.block p (heap_lt H.out.blk) (by simp)).trans H.out.blk
  have HC := Lib.hid hC
  have HA := Lib.hid (r24at_at (v := vol) (H.out.chg hC (by simp)) HBB.out)
  clear hC
  generalize w.alloc (.cells #[.int .u8 5, .int .u64 (vol : Int), .int .u64 (pl : Int), .int .u64 (n : Int), .slice a len cap] 26) = W at *
  obtain ⟨b, hbb⟩ : ∃ b, b = w.heap.size := ⟨_, rfl⟩
  rw [← hbb] at hb ⊢
  clear hbb
  have x0 := cell_of_block hb 0
  have x1 := cell_of_block hb 1
  have x2 := cell_of_block hb 2
  have x3 := cell_of_block hb 3
  have x4 := cell_of_block hb 4
  simp only [List.getElem?_toArray, List.getElem?_cons_zero, List.getElem?_cons_succ] at x0 x1 x2 x3 x4
  have m0 := cell_of_block hp 0
  have m1 := cell_of_block hp 1
  have m2 := cell_of_block hp 2
  simp only [List.getElem?_toArray, List.getElem?_cons_zero, List.getElem?_cons_succ] at m0 m1 m2
  clear hb hp
  go_wp2_with fail
  refine HA.out.mono ?_
  rintro e w' ⟨rfl, rfl⟩
  generalize ixOf R.vols vol = ix at *
  clear HA
  go_wp2_with fail
  go_quiet (fail)
  go_wp2_with fail
  go_ret
  exact ⟨rfl, HC.out.trans ((Chg.refl [] _).drewN _)⟩

set_option maxRecDepth 20000 in
set_option maxHeartbeats 4000000 in
theorem wr_l5 {L : List Nat} {B : Nat} {w : World} {p vol pl n len cap : Nat} {a : Option Addr} {vv : Value} {R : RSt} (h : RefAt L B w p vv R) (hB : B ≤ 1000000) (i1 : ¬ ixOf R.vols vol < 0) (i2 : pl < R.size) (i3 : len ≠ 128) :
    Calls Try.prog 35 #[.pointer (some ⟨p, 0, none⟩), .agg #[.int .u8 5, .int .u64 (vol : Int), .int .u64 (pl : Int), .int .u64 (n : Int), .slice a len cap]] w fun e w' => e = .returned (.int .i64 242) ∧ Chg [] w w' := by
  have hsz := h.size
  have j2 : ¬ (R.size : Int) ≤ (pl : Int) := by omega
  have d2 : decide ((R.size : Int) ≤ (pl : Int)) = false := by simp; omega
  have n2 : ¬ R.size ≤ pl := by omega
  have e2 : decide (R.size ≤ pl) = false := by simp; omega
  clear i2
  have j3 : ((len : Int) != 128) = true := by simp; omega
  have k3 : (len != 128) = true := by simp; omega
  clear i3
  have H := Lib.hid h
  have HBB := Lib.hid hB
  clear h hB hsz
  go_enter Try.func35, Try.ntmps35
  go_upto_region 1 with fail
  have hC := (Chg.refl [] w).alloc (.cells #[.int .u8 5, .int .u64 (vol : Int), .int .u64 (pl : Int), .int .u64 (n : Int), .slice a len cap] 26)
  have hb := new_block w (.cells #[.int .u8 5, .int .u64 (vol : Int), .int .u64 (pl : Int), .int .u64 (n : Int), .slice a len cap] 26)
  have hp := (hC.block p (heap_lt H.out.blk) (by simp)).trans H.out.blk
  have HC := Lib.hid hC
  have HA := Lib.hid (r24at_at (v := vol) (H.out.chg hC (by simp)) HBB.out)
  clear hC
  generalize w.alloc (.cells #[.int .u8 5, .int .u64 (vol : Int), .int .u64 (pl : Int), .int .u64 (n : Int), .slice a len cap] 26) = W at *
  obtain ⟨b, hbb⟩ : ∃ b, b = w.heap.size := ⟨_, rfl⟩
  rw [← hbb] at hb ⊢
  clear hbb
  have x0 := cell_of_block hb 0
  have x1 := cell_of_block hb 1
  have x2 := cell_of_block hb 2
  have x3 := cell_of_block hb 3
  have x4 := cell_of_block hb 4
  simp only [List.getElem?_toArray, List.getElem?_cons_zero, List.getElem?_cons_succ] at x0 x1 x2 x3 x4
  have m0 := cell_of_block hp 0
  have m1 := cell_of_block hp 1
  have m2 := cell_of_block hp 2
  simp only [List.getElem?_toArray, List.getElem?_cons_zero, List.getElem?_cons_succ] at m0 m1 m2
  clear hb hp
  go_wp2_with fail
  refine HA.out.mono ?_
  rintro e w' ⟨rfl, rfl⟩
  generalize ixOf R.vols vol = ix at *
  clear HA
  go_wp2_with fail
  go_quiet (fail)
  go_wp2_with fail
  go_ret
  exact ⟨rfl, HC.out.trans ((Chg.refl [] _).drewN _)⟩

set_option maxRecDepth 20000 in
set_option maxHeartbeats 4000000 in
theorem wr_p5 {L : List Nat} {B : Nat} {w : World} {p vol pl n len cap : Nat} {a : Option Addr} {vv : Value} {R : RSt} (h : RefAt L B w p vv R) (hB : B ≤ 1000000) (i1 : ¬ ixOf R.vols vol < 0) (i2 : pl < R.size) (i3 : len = 128) :
    Calls Try.prog 35 #[.pointer (some ⟨p, 0, none⟩), .agg #[.int .u8 5, .int .u64 (vol : Int), .int .u64 (pl : Int), .int .u64 (n : Int), .slice a len cap]] w fun e w' => e = .returned (.int .i64 0) ∧ Chg [] w w' := by
  have hsz := h.size
  have j2 : ¬ (R.size : Int) ≤ (pl : Int) := by omega
  have d2 : decide ((R.size : Int) ≤ (pl : Int)) = false := by simp; omega
  have n2 : ¬ R.size ≤ pl := by omega
  have e2 : decide (R.size ≤ pl) = false := by simp; omega
  clear i2
  have j3 : ((len : Int) != 128) = false := by simp; omega
  have k3 : (len != 128) = false := by simp; omega
  clear i3
  have H := Lib.hid h
  have HBB := Lib.hid hB
  clear h hB hsz
  go_enter Try.func35, Try.ntmps35
  go_upto_region 1 with fail
  have hC := (Chg.refl [] w).alloc (.cells #[.int .u8 5, .int .u64 (vol : Int), .int .u64 (pl : Int), .int .u64 (n : Int), .slice a len cap] 26)
  have hb := new_block w (.cells #[.int .u8 5, .int .u64 (vol : Int), .int .u64 (pl : Int), .int .u64 (n : Int), .slice a len cap] 26)
  have hp := (hC.block p (heap_lt H.out.blk) (by simp)).trans H.out.blk
  have HC := Lib.hid hC
  have HA := Lib.hid (r24at_at (v := vol) (H.out.chg hC (by simp)) HBB.out)
  clear hC
  generalize w.alloc (.cells #[.int .u8 5, .int .u64 (vol : Int), .int .u64 (pl : Int), .int .u64 (n : Int), .slice a len cap] 26) = W at *
  obtain ⟨b, hbb⟩ : ∃ b, b = w.heap.size := ⟨_, rfl⟩
  rw [← hbb] at hb ⊢
  clear hbb
  have x0 := cell_of_block hb 0
  have x1 := cell_of_block hb 1
  have x2 := cell_of_block hb 2
  have x3 := cell_of_block hb 3
  have x4 := cell_of_block hb 4
  simp only [List.getElem?_toArray, List.getElem?_cons_zero, List.getElem?_cons_succ] at x0 x1 x2 x3 x4
  have m0 := cell_of_block hp 0
  have m1 := cell_of_block hp 1
  have m2 := cell_of_block hp 2
  simp only [List.getElem?_toArray, List.getElem?_cons_zero, List.getElem?_cons_succ] at m0 m1 m2
  clear hb hp
  go_wp2_with fail
  refine HA.out.mono ?_
  rintro e w' ⟨rfl, rfl⟩
  generalize ixOf R.vols vol = ix at *
  clear HA
  go_wp2_with fail
  go_quiet (fail)
  go_wp2_with fail
  go_ret
  exact ⟨rfl, HC.out.trans ((Chg.refl [] _).drewN _)⟩

set_option maxRecDepth 20000 in
set_option maxHeartbeats 4000000 in
theorem wr_n6 {L : List Nat} {B : Nat} {w : World} {p vol pl n len cap : Nat} {a : Option Addr} {vv : Value} {R : RSt} (h : RefAt L B w p vv R) (hB : B ≤ 1000000) (i1 : ixOf R.vols vol < 0) :
    Calls Try.prog 35 #[.pointer (some ⟨p, 0, none⟩), .agg #[.int .u8 6, .int .u64 (vol : Int), .int .u64 (pl : Int), .int .u64 (n : Int), .slice a len cap]] w fun e w' => e = .returned (.int .i64 200) ∧ Chg [] w w' := by
  have hsz := h.size
  have H := Lib.hid h
  have HBB := Lib.hid hB
  clear h hB hsz
  go_enter Try.func35, Try.ntmps35
  go_upto_region 1 with fail
  have hC := (Chg.refl [] w).alloc (.cells #[.int .u8 6, .int .u64 (vol : Int), .int .u64 (pl : Int), .int .u64 (n : Int), .slice a len cap] 26)
  have hb := new_block w (.cells #[.int .u8 6, .int .u64 (vol : Int), .int .u64 (pl : Int), .int .u64 (n : Int), .slice a len cap] 26)
  have hp := (hC.block p (heap_lt H.out.blk) (by simp)).trans H.out.blk
  have HC := Lib.hid hC
  have HA := Lib.hid (r24at_at (v := vol) (H.out.chg hC (by simp)) HBB.out)
  clear hC
  generalize w.alloc (.cells #[.int .u8 6, .int .u64 (vol : Int), .int .u64 (pl : Int), .int .u64 (n : Int), .slice a len cap] 26) = W at *
  obtain ⟨b, hbb⟩ : ∃ b, b = w.heap.size := ⟨_, rfl⟩
  rw [← hbb] at hb ⊢
  clear hbb
  have x0 := cell_of_block hb 0
  have x1 := cell_of_block hb 1
  have x2 := cell_of_block hb 2
  have x3 := cell_of_block hb 3
  have x4 := cell_of_block hb 4
  simp only [List.getElem?_toArray, List.getElem?_cons_zero, List.getElem?_cons_succ] at x0 x1 x2 x3 x4
  have m0 := cell_of_block hp 0
  have m1 := cell_of_block hp 1
  have m2 := cell_of_block hp 2
  simp only [List.getElem?_toArray, List.getElem?_cons_zero, List.getElem?_cons_succ] at m0 m1 m2
  clear hb hp
  go_wp2_with fail
  refine HA.out.mono ?_
  rintro e w' ⟨rfl, rfl⟩
  generalize ixOf R.vols vol = ix at *
  clear HA
  go_wp2_with fail
  go_ret
  exact ⟨rfl, HC.out⟩

set_option maxRecDepth 20000 in
set_option maxHeartbeats 4000000 in
theorem wr_g6 {L : List Nat} {B : Nat} {w : World} {p vol pl n len cap : Nat} {a : Option Addr} {vv : Value} {R : RSt} (h : RefAt L B w p vv R) (hB : B ≤ 1000000) (i1 : ¬ ixOf R.vols vol < 0) (i2 : R.size ≤ pl) :
    Calls Try.prog 35 #[.pointer (some ⟨p, 0, none⟩), .agg #[.int .u8 6, .int .u64 (vol : Int), .int .u64 (pl : Int), .int .u64 (n : Int), .slice a len cap]] w fun e w' => e = .returned (.int .i64 241) ∧ Chg [] w w' := by
  have hsz := h.size
  have j2 : (R.size : Int) ≤ (pl : Int) := by omega
  have d2 : decide ((R.size : Int) ≤ (pl : Int)) = true := by simp; omega
  have H := Lib.hid h
  have HBB := Lib.hid hB
  clear h hB hsz
  go_enter Try.func35, Try.ntmps35
  go_upto_region 1 with fail
  have hC := (Chg.refl [] w).alloc (.cells #[.int .u8 6, .int .u64 (vol : Int), .int .u64 (pl : Int), .int .u64 (n : Int), .slice a len cap] 26)
  have hb := new_block w (.cells #[.int .u8 6, .int .u64 (vol : Int), .int .u64 (pl : Int), .int .u64 (n : Int), .slice a len cap] 26)
  have hp := (hC.block p (heap_lt H.out.blk) (by simp)).trans H.out.blk
  have HC := Lib.hid hC
  have HA := Lib.hid (r24at_at (v := vol) (H.out.chg hC (by simp)) HBB.out)
  clear hC
  generalize w.alloc (.cells #[.int .u8 6, .int .u64 (vol : Int), .int .u64 (pl : Int), .int .u64 (n : Int), .slice a len cap] 26) = W at *
  obtain ⟨b, hbb⟩ : ∃ b, b = w.heap.size := ⟨_, rfl⟩
  rw [← hbb] at hb ⊢
  clear hbb
  have x0 := cell_of_block hb 0
  have x1 := cell_of_block hb 1
  have x2 := cell_of_block hb 2
  have x3 := cell_of_block hb 3
  have x4 := cell_of_block hb 4
  simp only [List.getElem?_toArray, List.getElem?_cons_zero, List.getElem?_cons_succ] at x0 x1 x2 x3 x4
  have m0 := cell_of_block hp 0
  have m1 := cell_of_block hp 1
  have m2 := cell_of_block hp 2
  simp only [List.getElem?_toArray, List.getElem?_cons_zero, List.getElem?_cons_succ] at m0 m1 m2
  clear hb hp
  go_wp2_with fail
  refine HA.out.mono ?_
  rintro e w' ⟨rfl, rfl⟩
  generalize ixOf R.vols vol = ix at *
  clear HA
  go_wp2_with fail
  go_quiet (fail)
  go_wp2_with fail
  go_ret
  exact ⟨rfl, HC.out.trans ((Chg.refl [] _).drewN _)⟩

set_option maxRecDepth 20000 in
set_option maxHeartbeats 4000000 in
theorem wr_b6 {L : List Nat} {B : Nat} {w : World} {p vol pl n len cap : Nat} {a : Option Addr} {vv : Value} {R : RSt} (h : RefAt L B w p vv R) (hB : B ≤ 1000000) (i1 : ¬ ixOf R.vols vol < 0) (i2 : pl < R.size) (i3 : R.size - pl < n) :
    Calls Try.prog 35 #[.pointer (some ⟨p, 0, none⟩), .agg #[.int .u8 6, .int .u64 (vol : Int), .int .u64 (pl : Int), .int .u64 (n : Int), .slice a len cap]] w fun e w' => e = .returned (.int .i64 241) ∧ Chg [] w w' := by
  have hsz := h.size
  obtain ⟨sp, hsp⟩ : ∃ sp, sp = R.size - pl := ⟨_, rfl⟩
  have ew : IntKind.u64.wrap ((R.size : Int) - (pl : Int)) = (sp : Int) := by rw [show (R.size : Int) - (pl : Int) = (sp : Int) by omega]; exact IntWalk.u64_in _ (by omega)
  rw [← hsp] at i3
  have j2 : ¬ (R.size : Int) ≤ (pl : Int) := by omega
  have d2 : decide ((R.size : Int) ≤ (pl : Int)) = false := by simp; omega
  have n2 : ¬ R.size ≤ pl := by omega
  have e2 : decide (R.size ≤ pl) = false := by simp; omega
  clear i2
  have j3 : (sp : Int) < (n : Int) := by omega
  have d3 : decide ((sp : Int) < (n : Int)) = true := by simp; omega
  clear hsp
  have H := Lib.hid h
  have HBB := Lib.hid hB
  clear h hB hsz
  go_enter Try.func35, Try.ntmps35
  go_upto_region 1 with fail
  have hC := (Chg.refl [] w).alloc (.cells #[.int .u8 6, .int .u64 (vol : Int), .int .u64 (pl : Int), .int .u64 (n : Int), .slice a len cap] 26)
  have hb := new_block w (.cells #[.int .u8 6, .int .u64 (vol : Int), .int .u64 (pl : Int), .int .u64 (n : Int), .slice a len cap] 26)
  have hp := (hC.block p (heap_lt H.out.blk) (by simp)).trans H.out.blk
  have HC := Lib.hid hC
  have HA := Lib.hid (r24at_at (v := vol) (H.out.chg hC (by simp)) HBB.out)
  clear hC
  generalize w.alloc (.cells #[.int .u8 6, .int .u64 (vol : Int), .int .u64 (pl : Int), .int .u64 (n : Int), .slice a len cap] 26) = W at *
  obtain ⟨b, hbb⟩ : ∃ b, b = w.heap.size := ⟨_, rfl⟩
  rw [← hbb] at hb ⊢
  clear hbb
  have x0 := cell_of_block hb 0
  have x1 := cell_of_block hb 1
  have x2 := cell_of_block hb 2
  have x3 := cell_of_block hb 3
  have x4 := cell_of_block hb 4
  simp only [List.getElem?_toArray, List.getElem?_cons_zero, List.getElem?_cons_succ] at x0 x1 x2 x3 x4
  have m0 := cell_of_block hp 0
  have m1 := cell_of_block hp 1
  have m2 := cell_of_block hp 2
  simp only [List.getElem?_toArray, List.getElem?_cons_zero, List.getElem?_cons_succ] at m0 m1 m2
  clear hb hp
  go_wp2_with fail
  refine HA.out.mono ?_
  rintro e w' ⟨rfl, rfl⟩
  generalize ixOf R.vols vol = ix at *
  clear HA
  go_wp2_with fail
  go_quiet (fail)
  go_wp2_with fail
  go_ret
  exact ⟨rfl, HC.out.trans ((Chg.refl [] _).drewN _)⟩

set_option maxRecDepth 20000 in
set_option maxHeartbeats 4000000 in
theorem wr_p6 {L : List Nat} {B : Nat} {w : World} {p vol pl n len cap : Nat} {a : Option Addr} {vv : Value} {R : RSt} (h : RefAt L B w p vv R) (hB : B ≤ 1000000) (i1 : ¬ ixOf R.vols vol < 0) (i2 : pl < R.size) (i3 : ¬ R.size - pl < n) :
    Calls Try.prog 35 #[.pointer (some ⟨p, 0, none⟩), .agg #[.int .u8 6, .int .u64 (vol : Int), .int .u64 (pl : Int), .int .u64 (n : Int), .slice a len cap]] w fun e w' => e = .returned (.int .i64 0) ∧ Chg [] w w' := by
  have hsz := h.size
  obtain ⟨sp, hsp⟩ : ∃ sp, sp = R.size - pl := ⟨_, rfl⟩
  have ew : IntKind.u64.wrap ((R.size : Int) - (pl : Int)) = (sp : Int) := by rw [show (R.size : Int) - (pl : Int) = (sp : Int) by omega]; exact IntWalk.u64_in _ (by omega)
  rw [← hsp] at i3
  have j2 : ¬ (R.size : Int) ≤ (pl : Int) := by omega
  have d2 : decide ((R.size : Int) ≤ (pl : Int)) = false := by simp; omega
  have n2 : ¬ R.size ≤ pl := by omega
  have e2 : decide (R.size ≤ pl) = false := by simp; omega
  clear i2
  have j3 : ¬ (sp : Int) < (n : Int) := by omega
  have d3 : decide ((sp : Int) < (n : Int)) = false := by simp; omega
  clear hsp
  have H := Lib.hid h
  have HBB := Lib.hid hB
  clear h hB hsz
  go_enter Try.func35, Try.ntmps35
  go_upto_region 1 with fail
  have hC := (Chg.refl [] w).alloc (.cells #[.int .u8 6, .int .u64 (vol : Int), .int .u64 (pl : Int), .int .u64 (n : Int), .slice a len cap] 26)
  have hb := new_block w (.cells #[.int .u8 6, .int .u64 (vol : Int), .int .u64 (pl : Int), .int .u64 (n : Int), .slice a len cap] 26)
  have hp := (hC.block p (heap_lt H.out.blk) (by simp)).trans H.out.blk
  have HC := Lib.hid hC
  have HA := Lib.hid (r24at_at (v := vol) (H.out.chg hC (by simp)) HBB.out)
  clear hC
  generalize w.alloc (.cells #[.int .u8 6, .int .u64 (vol : Int), .int .u64 (pl : Int), .int .u64 (n : Int), .slice a len cap] 26) = W at *
  obtain ⟨b, hbb⟩ : ∃ b, b = w.heap.size := ⟨_, rfl⟩
  rw [← hbb] at hb ⊢
  clear hbb
  have x0 := cell_of_block hb 0
  have x1 := cell_of_block hb 1
  have x2 := cell_of_block hb 2
  have x3 := cell_of_block hb 3
  have x4 := cell_of_block hb 4
  simp only [List.getElem?_toArray, List.getElem?_cons_zero, List.getElem?_cons_succ] at x0 x1 x2 x3 x4
  have m0 := cell_of_block hp 0
  have m1 := cell_of_block hp 1
  have m2 := cell_of_block hp 2
  simp only [List.getElem?_toArray, List.getElem?_cons_zero, List.getElem?_cons_succ] at m0 m1 m2
  clear hb hp
  go_wp2_with fail
  refine HA.out.mono ?_
  rintro e w' ⟨rfl, rfl⟩
  generalize ixOf R.vols vol = ix at *
  clear HA
  go_wp2_with fail
  go_quiet (fail)
  go_wp2_with fail
  go_ret
  exact ⟨rfl, HC.out.trans ((Chg.refl [] _).drewN _)⟩

theorem r24wrong_at {L : List Nat} {B : Nat} {w : World} {p code vol pl n len cap : Nat} {a : Option Addr} {vv : Value} {R : RSt} (h : RefAt L B w p vv R) (hB : B ≤ 1000000) (hc : code ≤ 255) :
    Calls Try.prog 35 #[.pointer (some ⟨p, 0, none⟩), .agg #[.int .u8 (code : Int), .int .u64 (vol : Int), .int .u64 (pl : Int), .int .u64 (n : Int), .slice a len cap]] w fun e w' => e = .returned (.int .i64 ((wrongR R code vol pl n len : Nat) : Int)) ∧ Chg [] w w' := by
  unfold wrongR
  by_cases h9 : 9 < code
  · rw [if_pos (.inr h9)]; exact wr_big h hB h9
  have : code = 0 ∨ code = 1 ∨ code = 2 ∨ code = 3 ∨ code = 4 ∨ code = 5 ∨ code = 6 ∨ code = 7 ∨ code = 8 ∨ code = 9 := by omega
  rcases this with rfl | rfl | rfl | rfl | rfl | rfl | rfl | rfl | rfl | rfl
  · exact wr_zero h hB
  · exact wr_p1 h hB
  · by_cases i1 : ixOf R.vols vol < 0
    · rw [if_neg (by omega), if_pos ⟨by omega, by omega, i1⟩]; exact wr_n2 h hB i1
    · rw [if_neg (by omega), if_neg (fun q => i1 q.2.2), if_neg (by omega), if_neg (by omega)]; exact wr_p2 h hB i1
  · by_cases i1 : ixOf R.vols vol < 0
    · rw [if_neg (by omega), if_pos ⟨by omega, by omega, i1⟩]; exact wr_n3 h hB i1
    · rw [if_neg (by omega), if_neg (fun q => i1 q.2.2), if_neg (by omega), if_neg (by omega)]; exact wr_p3 h hB i1
  · by_cases i1 : ixOf R.vols vol < 0
    · rw [if_neg (by omega), if_pos ⟨by omega, by omega, i1⟩]; exact wr_n4 h hB i1
    · rw [if_neg (by omega), if_neg (fun q => i1 q.2.2)]
      by_cases i2 : R.size ≤ pl
      · rw [if_pos (by omega)]; exact wr_g4 h hB i1 i2
      · rw [if_neg (by omega), if_neg (by omega)]; exact wr_p4 h hB i1 (by omega)
  · by_cases i1 : ixOf R.vols vol < 0
    · rw [if_neg (by omega), if_pos ⟨by omega, by omega, i1⟩]; exact wr_n5 h hB i1
    · rw [if_neg (by omega), if_neg (fun q => i1 q.2.2)]
      by_cases i2 : R.size ≤ pl
      · rw [if_pos (by omega)]; exact wr_g5 h hB i1 i2
      · by_cases i4 : len = 128
        · rw [if_neg (by omega), if_neg (by omega)]; exact wr_p5 h hB i1 (by omega) i4
        · rw [if_neg (by omega), if_pos (by omega)]; exact wr_l5 h hB i1 (by omega) i4
  · by_cases i1 : ixOf R.vols vol < 0
    · rw [if_neg (by omega), if_pos ⟨by omega, by omega, i1⟩]; exact wr_n6 h hB i1
    · rw [if_neg (by omega), if_neg (fun q => i1 q.2.2)]
      by_cases i2 : R.size ≤ pl
      · rw [if_pos (by omega)]; exact wr_g6 h hB i1 i2
      · by_cases i3 : R.size - pl < n
        · rw [if_pos (by omega)]; exact wr_b6 h hB i1 (by omega) i3
        · rw [if_neg (by omega), if_neg (by omega)]; exact wr_p6 h hB i1 (by omega) i3
  · exact wr_p7 h hB
  · exact wr_p8 h hB
  · exact wr_p9 h hB

end Go.Proofs.Ytbejcmbdaoakbaa
