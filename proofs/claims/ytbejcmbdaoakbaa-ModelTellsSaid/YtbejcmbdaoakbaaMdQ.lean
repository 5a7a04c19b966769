/- What a code asks for, done: nothing, status, make, drop, snap. (Printed by mkmo2.py.) -/
import Derived.Test.YtbejcmbdaoakbaaMdO
namespace Go.Proofs.Ytbejcmbdaoakbaa
open Go.RowKit Go.Maps
set_option linter.unusedVariables false
set_option linter.unusedSimpArgs false

set_option maxRecDepth 20000 in
set_option maxHeartbeats 4000000 in
theorem nothing_at {N : Nat} {L : List Nat} {w : World} {p code vol pl n : Nat} {dv : Value} {S : St} (h : MdAt N L w p S) (hN : N ≤ 1000000) :
    Calls Try.prog 46 #[.pointer (some ⟨p, 0, none⟩), opV code vol pl n dv] w (Done N L w p S Rep.none) := by
  obtain ⟨mb, D, C, hp, M⟩ := h
  unfold mdRow at hp
  unfold opV
  have lp := heap_lt hp
  have hW : Chg [] w ((w.alloc (.cells #[.int .u8 (code : Int), .int .u64 (vol : Int), .int .u64 (pl : Int), .int .u64 (n : Int), dv] 26)).alloc (.cells #[.int .i64 0, .int .u64 0, .slice none 0 0, .int .i64 0] 32)) := ((Chg.refl [] w).alloc _).alloc _
  have hP := (hW.block p lp (by simp)).trans hp
  have hO := new_block21 w (.cells #[.int .u8 (code : Int), .int .u64 (vol : Int), .int .u64 (pl : Int), .int .u64 (n : Int), dv] 26) (.cells #[.int .i64 0, .int .u64 0, .slice none 0 0, .int .i64 0] 32)
  have hR := new_block2 w (.cells #[.int .u8 (code : Int), .int .u64 (vol : Int), .int .u64 (pl : Int), .int .u64 (n : Int), dv] 26) (.cells #[.int .i64 0, .int .u64 0, .slice none 0 0, .int .i64 0] 32)
  have hM := M.chg hW (by simp)
  have hlt := M.lt
  clear hp M lp
  go_enter Try.func46, Try.ntmps46
  go_upto_region 1 with fail
  generalize ((w.alloc (.cells #[.int .u8 (code : Int), .int .u64 (vol : Int), .int .u64 (pl : Int), .int .u64 (n : Int), dv] 26)).alloc (.cells #[.int .i64 0, .int .u64 0, .slice none 0 0, .int .i64 0] 32)) = W at *
  have x0 := cell_of_block hP 0
  have x1 := cell_of_block hP 1
  have x2 := cell_of_block hP 2
  simp only [List.getElem?_toArray, List.getElem?_cons_zero, List.getElem?_cons_succ] at x0 x1 x2
  have o0 := cell_of_block hO 0
  have o1 := cell_of_block hO 1
  have o2 := cell_of_block hO 2
  have o3 := cell_of_block hO 3
  have o4 := cell_of_block hO 4
  simp only [List.getElem?_toArray, List.getElem?_cons_zero, List.getElem?_cons_succ] at o0 o1 o2 o3 o4
  have r0 := cell_of_block hR 0
  have r1 := cell_of_block hR 1
  have r2 := cell_of_block hR 2
  have r3 := cell_of_block hR 3
  simp only [List.getElem?_toArray, List.getElem?_cons_zero, List.getElem?_cons_succ] at r0 r1 r2 r3
  have lp := heap_lt hP
  have lo := heap_lt hO
  have lr := heap_lt hR
  have fr0 := frozen_of_block hR 0
  have fr1 := frozen_of_block hR 1
  have fr2 := frozen_of_block hR 2
  have fr3 := frozen_of_block hR 3
  have HP := Lib.hid hP
  have HO := Lib.hid hO
  have HR := Lib.hid hR
  have HM := Lib.hid hM
  have HW := Lib.hid hW
  have HLT := Lib.hid hlt
  clear hP hO hR hM hW hlt
  go_wp2_with fail
  obtain ⟨hR4, hC4⟩ := rep_store HR.out (.int .i64 0) (.int .u64 0) (.slice none 0 0) (.int .i64 0)
  generalize (((W.setCell ⟨w.heap.size + 1, 0, none⟩ (.int .i64 0)).setCell ⟨w.heap.size + 1, 1, none⟩ (.int .u64 0)).setCell ⟨w.heap.size + 1, 2, none⟩ (.slice none 0 0)).setCell ⟨w.heap.size + 1, 3, none⟩ (.int .i64 0) = W4 at *
  have l4 := heap_lt hR4
  have z0 := cell_of_block hR4 0
  have z1 := cell_of_block hR4 1
  have z2 := cell_of_block hR4 2
  have z3 := cell_of_block hR4 3
  simp only [List.getElem?_toArray, List.getElem?_cons_zero, List.getElem?_cons_succ] at z0 z1 z2 z3
  have hc : Chg [] w W4 := HW.out.then hC4 (by simp)
  have hc2 := HM.out.chg hC4 (fun b hb => by have := HLT.out b hb; simp; omega)
  have hP4 := (hC4.block p lp (by simp; have := HLT.out p HM.out.pin; omega)).trans HP.out
  exact bodyPost_ret (v := repV 0 0 (.slice none 0 0) 0) (by simp [results, Try.results46, go_sem, repV, l4, z0, z1, z2, z3]) rfl ⟨L, none, 0, rfl, ⟨mb, D, C, hP4, hc2.mono (Nat.le_succ _)⟩, fun b hb => .inl hb, bytes_none, fun b hb => (by cases hb), hc.mono (by simp)⟩

set_option maxRecDepth 20000 in
set_option maxHeartbeats 4000000 in
theorem status_at {N : Nat} {L : List Nat} {w : World} {p code vol pl n : Nat} {dv : Value} {S : St} (h : MdAt N L w p S) (hN : N ≤ 1000000) :
    Calls Try.prog 55 #[.pointer (some ⟨p, 0, none⟩), opV code vol pl n dv] w (Done N L w p S ⟨0, 0, 0, fun _ => 0, S.cnt⟩) := by
  obtain ⟨mb, D, C, hp, M⟩ := h
  unfold mdRow at hp
  unfold opV
  have lp := heap_lt hp
  have hW : Chg [] w ((w.alloc (.cells #[.int .u8 (code : Int), .int .u64 (vol : Int), .int .u64 (pl : Int), .int .u64 (n : Int), dv] 26)).alloc (.cells #[.int .i64 0, .int .u64 0, .slice none 0 0, .int .i64 0] 32)) := ((Chg.refl [] w).alloc _).alloc _
  have hP := (hW.block p lp (by simp)).trans hp
  have hO := new_block21 w (.cells #[.int .u8 (code : Int), .int .u64 (vol : Int), .int .u64 (pl : Int), .int .u64 (n : Int), dv] 26) (.cells #[.int .i64 0, .int .u64 0, .slice none 0 0, .int .i64 0] 32)
  have hR := new_block2 w (.cells #[.int .u8 (code : Int), .int .u64 (vol : Int), .int .u64 (pl : Int), .int .u64 (n : Int), dv] 26) (.cells #[.int .i64 0, .int .u64 0, .slice none 0 0, .int .i64 0] 32)
  have hM := M.chg hW (by simp)
  have hlt := M.lt
  clear hp M lp
  go_enter Try.func55, Try.ntmps55
  go_upto_region 1 with fail
  generalize ((w.alloc (.cells #[.int .u8 (code : Int), .int .u64 (vol : Int), .int .u64 (pl : Int), .int .u64 (n : Int), dv] 26)).alloc (.cells #[.int .i64 0, .int .u64 0, .slice none 0 0, .int .i64 0] 32)) = W at *
  have x0 := cell_of_block hP 0
  have x1 := cell_of_block hP 1
  have x2 := cell_of_block hP 2
  simp only [List.getElem?_toArray, List.getElem?_cons_zero, List.getElem?_cons_succ] at x0 x1 x2
  have o0 := cell_of_block hO 0
  have o1 := cell_of_block hO 1
  have o2 := cell_of_block hO 2
  have o3 := cell_of_block hO 3
  have o4 := cell_of_block hO 4
  simp only [List.getElem?_toArray, List.getElem?_cons_zero, List.getElem?_cons_succ] at o0 o1 o2 o3 o4
  have r0 := cell_of_block hR 0
  have r1 := cell_of_block hR 1
  have r2 := cell_of_block hR 2
  have r3 := cell_of_block hR 3
  simp only [List.getElem?_toArray, List.getElem?_cons_zero, List.getElem?_cons_succ] at r0 r1 r2 r3
  have lp := heap_lt hP
  have lo := heap_lt hO
  have lr := heap_lt hR
  have fr0 := frozen_of_block hR 0
  have fr1 := frozen_of_block hR 1
  have fr2 := frozen_of_block hR 2
  have fr3 := frozen_of_block hR 3
  have HP := Lib.hid hP
  have HO := Lib.hid hO
  have HR := Lib.hid hR
  have HM := Lib.hid hM
  have HW := Lib.hid hW
  have HLT := Lib.hid hlt
  clear hP hO hR hM hW hlt
  have hl := fun ty => HM.out.own.len (t := 62) Try.underlying62 ty
  rw [← HM.out.cnt] at hl
  go_wp2_with fail
  obtain ⟨hR4, hC4⟩ := rep_store HR.out (.int .i64 0) (.int .u64 0) (.slice none 0 0) (.int .i64 (S.cnt : Int))
  generalize (((W.setCell ⟨w.heap.size + 1, 0, none⟩ (.int .i64 0)).setCell ⟨w.heap.size + 1, 1, none⟩ (.int .u64 0)).setCell ⟨w.heap.size + 1, 2, none⟩ (.slice none 0 0)).setCell ⟨w.heap.size + 1, 3, none⟩ (.int .i64 (S.cnt : Int)) = W4 at *
  have l4 := heap_lt hR4
  have z0 := cell_of_block hR4 0
  have z1 := cell_of_block hR4 1
  have z2 := cell_of_block hR4 2
  have z3 := cell_of_block hR4 3
  simp only [List.getElem?_toArray, List.getElem?_cons_zero, List.getElem?_cons_succ] at z0 z1 z2 z3
  have hc : Chg [] w W4 := HW.out.then hC4 (by simp)
  have hc2 := HM.out.chg hC4 (fun b hb => by have := HLT.out b hb; simp; omega)
  have hP4 := (hC4.block p lp (by simp; have := HLT.out p HM.out.pin; omega)).trans HP.out
  exact bodyPost_ret (v := repV 0 0 (.slice none 0 0) S.cnt) (by simp [results, Try.results55, go_sem, repV, l4, z0, z1, z2, z3]) rfl ⟨L, none, 0, rfl, ⟨mb, D, C, hP4, hc2.mono (Nat.le_succ _)⟩, fun b hb => .inl hb, bytes_none, fun b hb => (by cases hb), hc.mono (by simp)⟩

set_option maxRecDepth 20000 in
set_option maxHeartbeats 4000000 in
theorem make_at {N : Nat} {L : List Nat} {w : World} {p code vol pl n : Nat} {dv : Value} {S : St} (h : MdAt N L w p S) (hN : N ≤ 1000000) (hl : S.last + 1 < 18446744073709551616) :
    Calls Try.prog 47 #[.pointer (some ⟨p, 0, none⟩), opV code vol pl n dv] w (Done N L w p (S.made (.map [])) ⟨0, S.last + 1, 0, fun _ => 0, 0⟩) := by
  obtain ⟨mb, D, C, hp, M⟩ := h
  unfold mdRow at hp
  unfold opV
  have lp := heap_lt hp
  have hW : Chg [] w ((w.alloc (.cells #[.int .u8 (code : Int), .int .u64 (vol : Int), .int .u64 (pl : Int), .int .u64 (n : Int), dv] 26)).alloc (.cells #[.int .i64 0, .int .u64 0, .slice none 0 0, .int .i64 0] 32)) := ((Chg.refl [] w).alloc _).alloc _
  have hP := (hW.block p lp (by simp)).trans hp
  have hO := new_block21 w (.cells #[.int .u8 (code : Int), .int .u64 (vol : Int), .int .u64 (pl : Int), .int .u64 (n : Int), dv] 26) (.cells #[.int .i64 0, .int .u64 0, .slice none 0 0, .int .i64 0] 32)
  have hR := new_block2 w (.cells #[.int .u8 (code : Int), .int .u64 (vol : Int), .int .u64 (pl : Int), .int .u64 (n : Int), dv] 26) (.cells #[.int .i64 0, .int .u64 0, .slice none 0 0, .int .i64 0] 32)
  have hM := M.chg hW (by simp)
  have hlt := M.lt
  have HL1 := Lib.hid hl
  have mk := fun w => run_makeMap (P := Try.prog) 68 w
  clear hl
  clear hp M lp
  go_enter Try.func47, Try.ntmps47
  go_upto_region 1 with fail
  generalize ((w.alloc (.cells #[.int .u8 (code : Int), .int .u64 (vol : Int), .int .u64 (pl : Int), .int .u64 (n : Int), dv] 26)).alloc (.cells #[.int .i64 0, .int .u64 0, .slice none 0 0, .int .i64 0] 32)) = W at *
  have x0 := cell_of_block hP 0
  have x1 := cell_of_block hP 1
  have x2 := cell_of_block hP 2
  simp only [List.getElem?_toArray, List.getElem?_cons_zero, List.getElem?_cons_succ] at x0 x1 x2
  have o0 := cell_of_block hO 0
  have o1 := cell_of_block hO 1
  have o2 := cell_of_block hO 2
  have o3 := cell_of_block hO 3
  have o4 := cell_of_block hO 4
  simp only [List.getElem?_toArray, List.getElem?_cons_zero, List.getElem?_cons_succ] at o0 o1 o2 o3 o4
  have r0 := cell_of_block hR 0
  have r1 := cell_of_block hR 1
  have r2 := cell_of_block hR 2
  have r3 := cell_of_block hR 3
  simp only [List.getElem?_toArray, List.getElem?_cons_zero, List.getElem?_cons_succ] at r0 r1 r2 r3
  have lp := heap_lt hP
  have lo := heap_lt hO
  have lr := heap_lt hR
  have fr0 := frozen_of_block hR 0
  have fr1 := frozen_of_block hR 1
  have fr2 := frozen_of_block hR 2
  have fr3 := frozen_of_block hR 3
  have HP := Lib.hid hP
  have HO := Lib.hid hO
  have HR := Lib.hid hR
  have HM := Lib.hid hM
  have HW := Lib.hid hW
  have HLT := Lib.hid hlt
  clear hP hO hR hM hW hlt
  have hV : OwnV (W.alloc (.map #[] 0)) W.heap.size (N + 1) (.map []) := (World.ownsMap_made W Try.prog 23 RB).mono (Nat.zero_le _)
  have HV := Lib.hid hV
  have hA := (Chg.refl [] W).alloc (.map #[] 0)
  have HA := Lib.hid hA
  have hs := HW.out.size
  have HS := Lib.hid hs
  clear hV hA hs
  go_wp2_with fail
  refine (made_at (b := W.heap.size) ⟨mb, D, C, (HA.out.block p lp (by simp)).trans HP.out, HM.out.chg HA.out (by simp)⟩ hN HV.out (fun hb => by have := HLT.out _ hb; have := HS.out; omega) HL1.out).mono ?_
  rintro e w1 ⟨rfl, hM1, hC1⟩
  have hR1 := (hC1.block (w.heap.size + 1) (Nat.lt_of_lt_of_le lr HA.out.size) (fun hb => by have := HLT.out _ hb; omega)).trans ((HA.out.block (w.heap.size + 1) lr (by simp)).trans HR.out)
  unfold repV
  have HM1 := Lib.hid hM1
  have HC1 := Lib.hid hC1
  have HR1 := Lib.hid hR1
  clear x0 x1 x2 o0 o1 o2 o3 o4 r0 r1 r2 r3 fr0 fr1 fr2 fr3 lp lo mk hM1 hC1
  have r0 := cell_of_block hR1 0
  have r1 := cell_of_block hR1 1
  have r2 := cell_of_block hR1 2
  have r3 := cell_of_block hR1 3
  simp only [List.getElem?_toArray, List.getElem?_cons_zero, List.getElem?_cons_succ] at r0 r1 r2 r3
  have fr0 := frozen_of_block hR1 0
  have fr1 := frozen_of_block hR1 1
  have fr2 := frozen_of_block hR1 2
  have fr3 := frozen_of_block hR1 3
  have lr1 := heap_lt hR1
  clear hR1
  go_wp2_with fail
  obtain ⟨hR4, hC4⟩ := rep_store HR1.out (.int .i64 0) (.int .u64 ((S.last : Int) + 1)) (.slice none 0 0) (.int .i64 0)
  generalize (((w1.setCell ⟨w.heap.size + 1, 0, none⟩ (.int .i64 0)).setCell ⟨w.heap.size + 1, 1, none⟩ (.int .u64 ((S.last : Int) + 1))).setCell ⟨w.heap.size + 1, 2, none⟩ (.slice none 0 0)).setCell ⟨w.heap.size + 1, 3, none⟩ (.int .i64 0) = W4 at *
  have l4 := heap_lt hR4
  have z0 := cell_of_block hR4 0
  have z1 := cell_of_block hR4 1
  have z2 := cell_of_block hR4 2
  have z3 := cell_of_block hR4 3
  simp only [List.getElem?_toArray, List.getElem?_cons_zero, List.getElem?_cons_succ] at z0 z1 z2 z3
  have hc : Chg L w W4 := (((HW.out.trans HA.out).mono (by simp)).trans HC1.out).then hC4 (by simp)
  have hd : ∀ b, b ∈ W.heap.size :: L → b ∉ [w.heap.size + 1] := fun b hb => by
    simp only [List.mem_cons] at hb
    simp only [List.mem_singleton]
    rcases hb with rfl | hb
    · omega
    · have := HLT.out b hb; omega
  exact bodyPost_ret (v := repV 0 (S.last + 1) (.slice none 0 0) 0) (by simp [results, Try.results47, go_sem, repV, l4, z0, z1, z2, z3]) rfl ⟨W.heap.size :: L, none, 0, rfl, HM1.out.chg hC4 hd, fun b hb => by
    rcases List.mem_cons.1 hb with rfl | hb
    · exact .inr HS.out
    · exact .inl hb, bytes_none, fun b hb => (by cases hb), hc⟩

set_option maxRecDepth 20000 in
set_option maxHeartbeats 4000000 in
theorem drop_at {N : Nat} {L : List Nat} {w : World} {p code vol pl n : Nat} {dv : Value} {S : St} (h : MdAt N L w p S) (hN : N ≤ 1000000) (hv : vol < 18446744073709551616) :
    Calls Try.prog 49 #[.pointer (some ⟨p, 0, none⟩), opV code vol pl n dv] w (Done N L w p (S.drop vol) Rep.none) := by
  obtain ⟨mb, D, C, hp, M⟩ := h
  unfold mdRow at hp
  unfold opV
  have lp := heap_lt hp
  have hW : Chg [] w ((w.alloc (.cells #[.int .u8 (code : Int), .int .u64 (vol : Int), .int .u64 (pl : Int), .int .u64 (n : Int), dv] 26)).alloc (.cells #[.int .i64 0, .int .u64 0, .slice none 0 0, .int .i64 0] 32)) := ((Chg.refl [] w).alloc _).alloc _
  have hP := (hW.block p lp (by simp)).trans hp
  have hO := new_block21 w (.cells #[.int .u8 (code : Int), .int .u64 (vol : Int), .int .u64 (pl : Int), .int .u64 (n : Int), dv] 26) (.cells #[.int .i64 0, .int .u64 0, .slice none 0 0, .int .i64 0] 32)
  have hR := new_block2 w (.cells #[.int .u8 (code : Int), .int .u64 (vol : Int), .int .u64 (pl : Int), .int .u64 (n : Int), dv] 26) (.cells #[.int .i64 0, .int .u64 0, .slice none 0 0, .int .i64 0] 32)
  have hM := M.chg hW (by simp)
  have hlt := M.lt
  have HKY := Lib.hid (kU_key hv)
  clear hv
  clear hp M lp
  go_enter Try.func49, Try.ntmps49
  go_upto_region 1 with fail
  generalize ((w.alloc (.cells #[.int .u8 (code : Int), .int .u64 (vol : Int), .int .u64 (pl : Int), .int .u64 (n : Int), dv] 26)).alloc (.cells #[.int .i64 0, .int .u64 0, .slice none 0 0, .int .i64 0] 32)) = W at *
  have x0 := cell_of_block hP 0
  have x1 := cell_of_block hP 1
  have x2 := cell_of_block hP 2
  simp only [List.getElem?_toArray, List.getElem?_cons_zero, List.getElem?_cons_succ] at x0 x1 x2
  have o0 := cell_of_block hO 0
  have o1 := cell_of_block hO 1
  have o2 := cell_of_block hO 2
  have o3 := cell_of_block hO 3
  have o4 := cell_of_block hO 4
  simp only [List.getElem?_toArray, List.getElem?_cons_zero, List.getElem?_cons_succ] at o0 o1 o2 o3 o4
  have r0 := cell_of_block hR 0
  have r1 := cell_of_block hR 1
  have r2 := cell_of_block hR 2
  have r3 := cell_of_block hR 3
  simp only [List.getElem?_toArray, List.getElem?_cons_zero, List.getElem?_cons_succ] at r0 r1 r2 r3
  have lp := heap_lt hP
  have lo := heap_lt hO
  have lr := heap_lt hR
  have fr0 := frozen_of_block hR 0
  have fr1 := frozen_of_block hR 1
  have fr2 := frozen_of_block hR 2
  have fr3 := frozen_of_block hR 3
  have HP := Lib.hid hP
  have HO := Lib.hid hO
  have HR := Lib.hid hR
  have HM := Lib.hid hM
  have HW := Lib.hid hW
  have HLT := Lib.hid hlt
  clear hP hO hR hM hW hlt
  have HPM := Lib.hid (show p ≠ mb from fun e => ownsMap_ne_cells HM.out.own HP.out e.symm)
  have HOM := Lib.hid (show w.heap.size ≠ mb from fun e => by have := HLT.out mb HM.out.min; omega)
  have HRM := Lib.hid (show w.heap.size + 1 ≠ mb from fun e => by have := HLT.out mb HM.out.min; omega)
  refine wp_region_held_drew (S := fun W' => W'.cell? ⟨p, 2, none⟩ = some (.map (some mb)) ∧ W'.cell? ⟨w.heap.size, 1, none⟩ = some (.int .u64 (vol : Int))) (by kernel_rfl) (by exact ⟨x2, o1⟩) (fun hHeld => ?_)
  refine wpAnyH_take (i := 0) (oi := ?_) (v := ?_) ?_ (by kernel_rfl) (by kernel_rfl) (by kernel_rfl) ?_ (Or.inl ⟨?_, ?_⟩) hHeld ?_
  rotate_left 2
  · (simp only [List.getElem?_toArray, List.getElem?_cons_succ, List.getElem?_cons_zero]; rfl)
  · exact fun _ _ _ h => h
  · rfl
  · (rintro W ⟨s1, s2⟩; go_simp; first | done | with_reducible rfl)
  try simp only [Act.put, List.setIfInBounds_toArray, List.set_cons_zero, List.set_cons_succ]
  refine wpAnyH_take (i := 1) (oi := ?_) (v := ?_) ?_ (by kernel_rfl) (by kernel_rfl) (by kernel_rfl) ?_ (Or.inl ⟨?_, ?_⟩) hHeld ?_
  rotate_left 2
  · (simp only [List.getElem?_toArray, List.getElem?_cons_succ, List.getElem?_cons_zero]; rfl)
  · exact fun _ _ _ h => h
  · rfl
  · (rintro W ⟨s1, s2⟩; go_simp; first | done | with_reducible rfl)
  try simp only [Act.put, List.setIfInBounds_toArray, List.set_cons_zero, List.set_cons_succ]
  refine wpAnyH_take (i := 2) (oi := ?_) (v := ?_) ?_ (by kernel_rfl) (by kernel_rfl) (by kernel_rfl) ?_ (Or.inl ⟨?_, ?_⟩) hHeld ?_
  rotate_left 2
  · (simp only [List.getElem?_toArray, List.getElem?_cons_succ, List.getElem?_cons_zero]; rfl)
  · exact fun _ _ _ h => h
  · rfl
  · (rintro W ⟨s1, s2⟩; go_simp; first | done | with_reducible rfl)
  try simp only [Act.put, List.setIfInBounds_toArray, List.set_cons_zero, List.set_cons_succ]
  refine wpAnyH_take (i := 3) (oi := ?_) (v := ?_) ?_ (by kernel_rfl) (by kernel_rfl) (by kernel_rfl) ?_ (Or.inl ⟨?_, ?_⟩) hHeld ?_
  rotate_left 2
  · (simp only [List.getElem?_toArray, List.getElem?_cons_succ, List.getElem?_cons_zero]; rfl)
  · exact fun _ _ _ h => h
  · rfl
  · (rintro W ⟨s1, s2⟩; go_simp; first | done | with_reducible rfl)
  try simp only [Act.put, List.setIfInBounds_toArray, List.set_cons_zero, List.set_cons_succ]
  refine wpAnyH_take (i := 4) (oi := ?_) (v := ?_) ?_ (by kernel_rfl) (by kernel_rfl) (by kernel_rfl) ?_ (Or.inl ⟨?_, ?_⟩) hHeld ?_
  rotate_left 2
  · (simp only [List.getElem?_toArray, List.getElem?_cons_succ, List.getElem?_cons_zero]; rfl)
  · exact fun _ _ _ h => h
  · rfl
  · (rintro W ⟨s1, s2⟩; go_simp; first | done | with_reducible rfl)
  try simp only [Act.put, List.setIfInBounds_toArray, List.set_cons_zero, List.set_cons_succ]
  refine wpAnyH_take (i := 5) (oi := ?_) (v := ?_) ?_ (by kernel_rfl) (by kernel_rfl) (by kernel_rfl) ?_ (Or.inl ⟨?_, ?_⟩) hHeld ?_
  rotate_left 2
  · (simp only [List.getElem?_toArray, List.getElem?_cons_succ, List.getElem?_cons_zero]; rfl)
  · exact fun _ _ _ h => h
  · rfl
  · (rintro W ⟨s1, s2⟩; go_simp; first | done | with_reducible rfl)
  try simp only [Act.put, List.setIfInBounds_toArray, List.set_cons_zero, List.set_cons_succ]
  refine wpAnyH_ready (rs := [6]) (by kernel_rfl) (by simp) ?_
  refine AllReadyH.cons (o := ?_) ?_ (fun K hK => ?_) AllReadyH.nil
  rotate_left 1
  · (simp only [List.getElem?_toArray, List.getElem?_cons_succ, List.getElem?_cons_zero]; rfl)
  · (obtain ⟨w3, hrun, hown3, ht3⟩ := HM.out.own.drew.drop KU Try.underlying62 HKY.out 0; have hg3 := ht3.grown; go_simp)
    refine hK.out _ _ ?_ (fun hHeld => ?_)
    · exact ⟨(Chg.cell (L := [mb]) (p := ⟨p, 2, none⟩) ((Chg.refl _ _).grown hg3 (by simp)) lp (by simp; exact HPM.out)).trans x2, (Chg.cell (L := [mb]) (p := ⟨w.heap.size, 1, none⟩) ((Chg.refl _ _).grown hg3 (by simp)) lo (by simp; exact HOM.out)).trans o1⟩
    clear hK K
    try simp only [Act.put, List.setIfInBounds_toArray, List.set_cons_zero, List.set_cons_succ]
    refine wpAnyH_done (by kernel_rfl) ?_ _
    have hg := (Chg.refl [mb] W).drew.trans ((Chg.refl [mb] _).grown hg3 (by simp))
    have hR1 := (hg.block (w.heap.size + 1) lr (by simp; exact HRM.out)).trans HR.out
    have HR1 := Lib.hid hR1
    have HG := Lib.hid hg
    clear x0 x1 x2 o0 o1 o2 o3 o4 r0 r1 r2 r3 fr0 fr1 fr2 fr3 lo hg hrun hg3 ht3
    have r0 := cell_of_block hR1 0
    have r1 := cell_of_block hR1 1
    have r2 := cell_of_block hR1 2
    have r3 := cell_of_block hR1 3
    simp only [List.getElem?_toArray, List.getElem?_cons_zero, List.getElem?_cons_succ] at r0 r1 r2 r3
    have fr0 := frozen_of_block hR1 0
    have fr1 := frozen_of_block hR1 1
    have fr2 := frozen_of_block hR1 2
    have fr3 := frozen_of_block hR1 3
    have lr1 := heap_lt hR1
    clear hR1
    go_wp2_with fail
    obtain ⟨hR4, hC4⟩ := rep_store HR1.out (.int .i64 0) (.int .u64 0) (.slice none 0 0) (.int .i64 0)
    generalize (((w3.setCell ⟨w.heap.size + 1, 0, none⟩ (.int .i64 0)).setCell ⟨w.heap.size + 1, 1, none⟩ (.int .u64 0)).setCell ⟨w.heap.size + 1, 2, none⟩ (.slice none 0 0)).setCell ⟨w.heap.size + 1, 3, none⟩ (.int .i64 0) = W4 at *
    have l4 := heap_lt hR4
    have z0 := cell_of_block hR4 0
    have z1 := cell_of_block hR4 1
    have z2 := cell_of_block hR4 2
    have z3 := cell_of_block hR4 3
    simp only [List.getElem?_toArray, List.getElem?_cons_zero, List.getElem?_cons_succ] at z0 z1 z2 z3
    have hc : Chg [mb] w W4 := ((HW.out.mono (by simp)).trans HG.out).then hC4 (by simp)
    have hM3 := HM.out.del HP.out HG.out hown3
    have hM4 := hM3.chg hC4 (fun b hb => by have := HLT.out b hb; simp; omega)
    have hP4 := (hC4.block p (Nat.lt_of_lt_of_le lp HG.out.size) (by simp; have := HLT.out p HM.out.pin; omega)).trans ((HG.out.block p lp (by simp; exact HPM.out)).trans HP.out)
    exact bodyPost_ret (v := repV 0 0 (.slice none 0 0) 0) (by simp [results, Try.results49, go_sem, repV, l4, z0, z1, z2, z3]) rfl ⟨L, none, 0, rfl, ⟨mb, _, _, hP4, hM4.mono (Nat.le_succ _)⟩, fun b hb => .inl hb, bytes_none, fun b hb => (by cases hb), hc.mono (fun b hb => by simp at hb; rw [hb]; exact HM.out.min)⟩

set_option maxRecDepth 20000 in
set_option maxHeartbeats 4000000 in
theorem snap_at {N : Nat} {L : List Nat} {w : World} {p code vol pl n : Nat} {dv : Value} {S : St} (h : MdAt N L w p S) (hN : N ≤ 1000000) (hv : vol < 18446744073709551616) (hl : S.last + 1 < 18446744073709551616) {Dv : VD} (hk : S.vols (kU vol) = some Dv) :
    Calls Try.prog 50 #[.pointer (some ⟨p, 0, none⟩), opV code vol pl n dv] w (Done N L w p (S.made Dv) ⟨0, S.last + 1, 0, fun _ => 0, 0⟩) := by
  obtain ⟨mb, D, C, hp, M⟩ := h
  unfold mdRow at hp
  unfold opV
  have lp := heap_lt hp
  have hW : Chg [] w ((w.alloc (.cells #[.int .u8 (code : Int), .int .u64 (vol : Int), .int .u64 (pl : Int), .int .u64 (n : Int), dv] 26)).alloc (.cells #[.int .i64 0, .int .u64 0, .slice none 0 0, .int .i64 0] 32)) := ((Chg.refl [] w).alloc _).alloc _
  have hP := (hW.block p lp (by simp)).trans hp
  have hO := new_block21 w (.cells #[.int .u8 (code : Int), .int .u64 (vol : Int), .int .u64 (pl : Int), .int .u64 (n : Int), dv] 26) (.cells #[.int .i64 0, .int .u64 0, .slice none 0 0, .int .i64 0] 32)
  have hR := new_block2 w (.cells #[.int .u8 (code : Int), .int .u64 (vol : Int), .int .u64 (pl : Int), .int .u64 (n : Int), dv] 26) (.cells #[.int .i64 0, .int .u64 0, .slice none 0 0, .int .i64 0] 32)
  have hM := M.chg hW (by simp)
  have hlt := M.lt
  have HVL := Lib.hid hv
  have HL1 := Lib.hid hl
  have HAT := Lib.hid (M.vol_at hp hk)
  clear hv hl hk
  clear hp M lp
  go_enter Try.func50, Try.ntmps50
  go_upto_region 1 with fail
  generalize ((w.alloc (.cells #[.int .u8 (code : Int), .int .u64 (vol : Int), .int .u64 (pl : Int), .int .u64 (n : Int), dv] 26)).alloc (.cells #[.int .i64 0, .int .u64 0, .slice none 0 0, .int .i64 0] 32)) = W at *
  have x0 := cell_of_block hP 0
  have x1 := cell_of_block hP 1
  have x2 := cell_of_block hP 2
  simp only [List.getElem?_toArray, List.getElem?_cons_zero, List.getElem?_cons_succ] at x0 x1 x2
  have o0 := cell_of_block hO 0
  have o1 := cell_of_block hO 1
  have o2 := cell_of_block hO 2
  have o3 := cell_of_block hO 3
  have o4 := cell_of_block hO 4
  simp only [List.getElem?_toArray, List.getElem?_cons_zero, List.getElem?_cons_succ] at o0 o1 o2 o3 o4
  have r0 := cell_of_block hR 0
  have r1 := cell_of_block hR 1
  have r2 := cell_of_block hR 2
  have r3 := cell_of_block hR 3
  simp only [List.getElem?_toArray, List.getElem?_cons_zero, List.getElem?_cons_succ] at r0 r1 r2 r3
  have lp := heap_lt hP
  have lo := heap_lt hO
  have lr := heap_lt hR
  have fr0 := frozen_of_block hR 0
  have fr1 := frozen_of_block hR 1
  have fr2 := frozen_of_block hR 2
  have fr3 := frozen_of_block hR 3
  have HP := Lib.hid hP
  have HO := Lib.hid hO
  have HR := Lib.hid hR
  have HM := Lib.hid hM
  have HW := Lib.hid hW
  have HLT := Lib.hid hlt
  clear hP hO hR hM hW hlt
  have HNE := Lib.hid (show kU vol ≠ kU (S.last + 1) from fun e => by
    obtain ⟨n', h1, h2⟩ := HM.out.low _ HAT.out.1
    have := kU_inj h2
    have := kU_inj e
    omega)
  refine wp_region_held_drew (S := fun W' => W'.cell? ⟨p, 2, none⟩ = some (.map (some mb)) ∧ W'.cell? ⟨w.heap.size, 1, none⟩ = some (.int .u64 (vol : Int)) ∧ ∃ (N' : Nat) (D' : DataW Nat), OwnM W' mb N' D' ∧ has D' (kU vol) = true ∧ tok (D'.atKey (kU vol) .nil) = tok (D.atKey (kU vol) .nil)) (by kernel_rfl) (by exact ⟨x2, o1, _, _, HM.out.own, HAT.out.1, rfl⟩) (fun hHeld => ?_)
  refine wpAnyH_take (i := 0) (oi := ?_) (v := ?_) ?_ (by kernel_rfl) (by kernel_rfl) (by kernel_rfl) ?_ (Or.inl ⟨?_, ?_⟩) hHeld ?_
  rotate_left 2
  · (simp only [List.getElem?_toArray, List.getElem?_cons_succ, List.getElem?_cons_zero]; rfl)
  · exact fun _ _ _ h => h
  · rfl
  · (rintro W' ⟨s1, s2, N', D', s3, s4, s5⟩; have s6 := look_vol s3 HVL.out s4; rw [s5] at s6; go_simp; first | done | with_reducible rfl)
  try simp only [Act.put, List.setIfInBounds_toArray, List.set_cons_zero, List.set_cons_succ]
  refine wpAnyH_take (i := 1) (oi := ?_) (v := ?_) ?_ (by kernel_rfl) (by kernel_rfl) (by kernel_rfl) ?_ (Or.inl ⟨?_, ?_⟩) hHeld ?_
  rotate_left 2
  · (simp only [List.getElem?_toArray, List.getElem?_cons_succ, List.getElem?_cons_zero]; rfl)
  · exact fun _ _ _ h => h
  · rfl
  · (rintro W' ⟨s1, s2, N', D', s3, s4, s5⟩; have s6 := look_vol s3 HVL.out s4; rw [s5] at s6; go_simp; first | done | with_reducible rfl)
  try simp only [Act.put, List.setIfInBounds_toArray, List.set_cons_zero, List.set_cons_succ]
  refine wpAnyH_take (i := 2) (oi := ?_) (v := ?_) ?_ (by kernel_rfl) (by kernel_rfl) (by kernel_rfl) ?_ (Or.inl ⟨?_, ?_⟩) hHeld ?_
  rotate_left 2
  · (simp only [List.getElem?_toArray, List.getElem?_cons_succ, List.getElem?_cons_zero]; rfl)
  · exact fun _ _ _ h => h
  · rfl
  · (rintro W' ⟨s1, s2, N', D', s3, s4, s5⟩; have s6 := look_vol s3 HVL.out s4; rw [s5] at s6; go_simp; first | done | with_reducible rfl)
  try simp only [Act.put, List.setIfInBounds_toArray, List.set_cons_zero, List.set_cons_succ]
  refine wpAnyH_take (i := 3) (oi := ?_) (v := ?_) ?_ (by kernel_rfl) (by kernel_rfl) (by kernel_rfl) ?_ (Or.inl ⟨?_, ?_⟩) hHeld ?_
  rotate_left 2
  · (simp only [List.getElem?_toArray, List.getElem?_cons_succ, List.getElem?_cons_zero]; rfl)
  · exact fun _ _ _ h => h
  · rfl
  · (rintro W' ⟨s1, s2, N', D', s3, s4, s5⟩; have s6 := look_vol s3 HVL.out s4; rw [s5] at s6; go_simp; first | done | with_reducible rfl)
  try simp only [Act.put, List.setIfInBounds_toArray, List.set_cons_zero, List.set_cons_succ]
  refine wpAnyH_take (i := 4) (oi := ?_) (v := ?_) ?_ (by kernel_rfl) (by kernel_rfl) (by kernel_rfl) ?_ (Or.inl ⟨?_, ?_⟩) hHeld ?_
  rotate_left 2
  · (simp only [List.getElem?_toArray, List.getElem?_cons_succ, List.getElem?_cons_zero]; rfl)
  · exact fun _ _ _ h => h
  · rfl
  · (rintro W' ⟨s1, s2, N', D', s3, s4, s5⟩; have s6 := look_vol s3 HVL.out s4; rw [s5] at s6; go_simp; first | done | with_reducible rfl)
  try simp only [Act.put, List.setIfInBounds_toArray, List.set_cons_zero, List.set_cons_succ]
  refine wpAnyH_take (i := 5) (oi := ?_) (v := ?_) ?_ (by kernel_rfl) (by kernel_rfl) (by kernel_rfl) ?_ (Or.inl ⟨?_, ?_⟩) hHeld ?_
  rotate_left 2
  · (simp only [List.getElem?_toArray, List.getElem?_cons_succ, List.getElem?_cons_zero]; rfl)
  · exact fun _ _ _ h => h
  · rfl
  · (rintro W' ⟨s1, s2, N', D', s3, s4, s5⟩; have s6 := look_vol s3 HVL.out s4; rw [s5] at s6; go_simp; first | done | with_reducible rfl)
  try simp only [Act.put, List.setIfInBounds_toArray, List.set_cons_zero, List.set_cons_succ]
  refine wpAnyH_take (i := 6) (oi := ?_) (v := ?_) ?_ (by kernel_rfl) (by kernel_rfl) (by kernel_rfl) ?_ (Or.inl ⟨?_, ?_⟩) hHeld ?_
  rotate_left 2
  · (simp only [List.getElem?_toArray, List.getElem?_cons_succ, List.getElem?_cons_zero]; rfl)
  · exact fun _ _ _ h => h
  · rfl
  · (rintro W' ⟨s1, s2, N', D', s3, s4, s5⟩; have s6 := look_vol s3 HVL.out s4; rw [s5] at s6; go_simp; first | done | with_reducible rfl)
  try simp only [Act.put, List.setIfInBounds_toArray, List.set_cons_zero, List.set_cons_succ]
  refine wpAnyH_take (i := 7) (oi := ?_) (v := ?_) ?_ (by kernel_rfl) (by kernel_rfl) (by kernel_rfl) ?_ (Or.inl ⟨?_, ?_⟩) hHeld ?_
  rotate_left 2
  · (simp only [List.getElem?_toArray, List.getElem?_cons_succ, List.getElem?_cons_zero]; rfl)
  · exact fun _ _ _ h => h
  · rfl
  · (rintro W' ⟨s1, s2, N', D', s3, s4, s5⟩; have s6 := look_vol s3 HVL.out s4; rw [s5] at s6; go_simp; first | done | with_reducible rfl)
  try simp only [Act.put, List.setIfInBounds_toArray, List.set_cons_zero, List.set_cons_succ]
  refine wpAnyH_ready (rs := [8]) (by kernel_rfl) (by simp) ?_
  refine AllReadyH.cons (o := ?_) ?_ (fun K hK => ?_) AllReadyH.nil
  rotate_left 1
  · (simp only [List.getElem?_toArray, List.getElem?_cons_succ, List.getElem?_cons_zero]; rfl)
  · (go_simp; refine (volClone_at (w := W.drew) (own_chg HAT.out.2.2.2.2 HW.out.drew (by simp))).mono ?_; rintro e w2 ⟨rfl, hv2, hB⟩; have HV2 := Lib.hid hv2; have HC2 := Lib.hid ((Chg.refl [] W).drew.trans hB); clear hv2 hB)
    refine hK.out _ _ ?_ (fun hHeld => ?_)
    · exact ⟨(HC2.out.cell (p := ⟨p, 2, none⟩) lp (by simp)).trans x2, (HC2.out.cell (p := ⟨w.heap.size, 1, none⟩) lo (by simp)).trans o1, _, _, own_chg HM.out.own HC2.out (by simp), HAT.out.1, rfl⟩
    clear hK K
    try simp only [Act.put, List.setIfInBounds_toArray, List.set_cons_zero, List.set_cons_succ]
    refine wpAnyH_ready (rs := [9]) (by kernel_rfl) (by simp) ?_
    refine AllReadyH.cons (o := ?_) ?_ (fun K hK => ?_) AllReadyH.nil
    rotate_left 1
    · (simp only [List.getElem?_toArray, List.getElem?_cons_succ, List.getElem?_cons_zero]; rfl)
    · (go_simp; refine (made_pt (b := W.heap.size) ((HC2.out.block p lp (by simp)).trans HP.out) (HM.out.chg HC2.out (by simp)) hN (HV2.out.mono (Nat.le_succ _)) (fun hb => by have := HLT.out _ hb; have := HW.out.size; omega) HL1.out).mono ?_; rintro e w3 ⟨rfl, hP3, hM3, hC3⟩; unfold repV; have HP3 := Lib.hid hP3; have HM3 := Lib.hid hM3; have HC3 := Lib.hid hC3; have c2 := cell_of_block hP3 2; unfold mdRow at c2; simp only [List.getElem?_toArray, List.getElem?_cons_zero, List.getElem?_cons_succ] at c2; have HR3 := Lib.hid ((hC3.block (w.heap.size + 1) (Nat.lt_of_lt_of_le lr HC2.out.size) (fun hb => by have := HLT.out _ hb; omega)).trans ((HC2.out.block (w.heap.size + 1) lr (by simp)).trans HR.out)); have q1 := ((hC3.cell (p := ⟨w.heap.size, 1, none⟩) (Nat.lt_of_lt_of_le lo HC2.out.size) (fun hb => by have := HLT.out _ hb; simp at this)).trans ((HC2.out.cell (p := ⟨w.heap.size, 1, none⟩) lo (by simp)).trans o1)); clear hP3 hM3 hC3)
      refine hK.out _ _ ?_ (fun hHeld => ?_)
      · exact ⟨c2, q1, _, _, HM3.out.own, ⟨by rw [has_put_other HNE.out]; exact HAT.out.1, by rw [atKey_put_other HNE.out]⟩⟩
      clear hK K
      try simp only [Act.put, List.setIfInBounds_toArray, List.set_cons_zero, List.set_cons_succ]
      refine wpAnyH_ready (rs := [10]) (by kernel_rfl) (by simp) ?_
      refine AllReadyH.cons (o := ?_) ?_ (fun K hK => ?_) AllReadyH.nil
      rotate_left 1
      · (simp only [List.getElem?_toArray, List.getElem?_cons_succ, List.getElem?_cons_zero]; rfl)
      · (clear x0 x1 x2 o0 o1 o2 o3 o4 r0 r1 r2 r3 fr0 fr1 fr2 fr3; have hR3 := HR3.out; have lr3 := heap_lt hR3; have r0 := cell_of_block hR3 0; have r1 := cell_of_block hR3 1; have r2 := cell_of_block hR3 2; have r3 := cell_of_block hR3 3; simp only [List.getElem?_toArray, List.getElem?_cons_zero, List.getElem?_cons_succ] at r0 r1 r2 r3; have fr0 := frozen_of_block hR3 0; have fr1 := frozen_of_block hR3 1; have fr2 := frozen_of_block hR3 2; have fr3 := frozen_of_block hR3 3; clear hR3; go_simp; have HRS := Lib.hid (rep_store HR3.out (.int .i64 0) (.int .u64 ((S.last : Int) + 1)) (.slice none 0 0) (.int .i64 0)))
        refine hK.out _ _ ?_ (fun hHeld => ?_)
        · exact ⟨(HRS.out.2.cell (p := ⟨p, 2, none⟩) (heap_lt HP3.out) (by simp; have := HLT.out p HM.out.pin; omega)).trans c2, (HRS.out.2.cell (p := ⟨w.heap.size, 1, none⟩) (Nat.lt_of_lt_of_le lo (Nat.le_trans HC2.out.size HC3.out.size)) (by simp)).trans q1, _, _, own_chg HM3.out.own HRS.out.2 (by simp; have := HLT.out mb HM.out.min; omega), ⟨by rw [has_put_other HNE.out]; exact HAT.out.1, by rw [atKey_put_other HNE.out]⟩⟩
        clear hK K
        try simp only [Act.put, List.setIfInBounds_toArray, List.set_cons_zero, List.set_cons_succ]
        refine wpAnyH_done (by kernel_rfl) ?_ _
        obtain ⟨hR4, hC4⟩ := HRS.out
        clear HRS
        generalize (((w3.setCell ⟨w.heap.size + 1, 0, none⟩ (.int .i64 0)).setCell ⟨w.heap.size + 1, 1, none⟩ (.int .u64 ((S.last : Int) + 1))).setCell ⟨w.heap.size + 1, 2, none⟩ (.slice none 0 0)).setCell ⟨w.heap.size + 1, 3, none⟩ (.int .i64 0) = W4 at *
        have l4 := heap_lt hR4
        have z0 := cell_of_block hR4 0
        have z1 := cell_of_block hR4 1
        have z2 := cell_of_block hR4 2
        have z3 := cell_of_block hR4 3
        simp only [List.getElem?_toArray, List.getElem?_cons_zero, List.getElem?_cons_succ] at z0 z1 z2 z3
        have hc : Chg L w W4 := (((HW.out.trans HC2.out).mono (by simp)).trans HC3.out).then hC4 (by simp)
        have hd : ∀ b, b ∈ W.heap.size :: L → b ∉ [w.heap.size + 1] := fun b hb => by
          simp only [List.mem_cons] at hb
          simp only [List.mem_singleton]
          rcases hb with rfl | hb
          · omega
          · have := HLT.out b hb; omega
        go_wp2_with fail
        exact bodyPost_ret (v := repV 0 (S.last + 1) (.slice none 0 0) 0) (by simp [results, Try.results50, go_sem, repV, l4, z0, z1, z2, z3]) rfl ⟨W.heap.size :: L, none, 0, rfl, (show MdAt (N + 1) (W.heap.size :: L) w3 p (S.made Dv) from ⟨mb, _, _, HP3.out, HM3.out⟩).chg hC4 hd, fun b hb => by
          rcases List.mem_cons.1 hb with rfl | hb
          · exact .inr HW.out.size
          · exact .inl hb, bytes_none, fun b hb => (by cases hb), hc⟩

end Go.Proofs.Ytbejcmbdaoakbaa
