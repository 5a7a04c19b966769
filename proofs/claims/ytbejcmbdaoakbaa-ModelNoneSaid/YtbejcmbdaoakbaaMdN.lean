/- Models that are none. -/
import Derived.Test.YtbejcmbdaoakbaaLRef
namespace Go.Proofs.Ytbejcmbdaoakbaa
open Go.RowKit Go.Maps
set_option linter.unusedVariables false
set_option linter.unusedSimpArgs false

/-- nil, or one that New did not make. -/
def NoneAt (w : World) (v : Value) : Prop := v = .pointer none ∨ ∃ b, v = .pointer (some ⟨b, 0, none⟩) ∧ w.heap[b]? = some (.cells #[.int .u64 0, .int .u64 0, .map none] 64 (0, 0))
theorem NoneAt.chg {w w' : World} {v : Value} (h : NoneAt w v) (c : Chg [] w w') : NoneAt w' v := by
  rcases h with h | ⟨b, rfl, h⟩
  · exact .inl h
  · exact .inr ⟨b, rfl, (c.block _ (heap_lt h) (by simp)).trans h⟩
theorem none_none {w : World} {v : Value} (h : NoneAt w v) : Calls Try.prog 28 #[v] w fun e w' => e = .returned (.bool true) ∧ w = w' := by
  rcases h with rfl | ⟨b, rfl, h⟩
  · exact none_nil
  · exact none_zero h

set_option maxRecDepth 20000 in
theorem size_none {w : World} {v : Value} (h : NoneAt w v) : Calls Try.prog 21 #[v] w fun e w' => e = .returned (.int .u64 0) ∧ w = w' := by
  have c := none_none h
  clear h
  go_enter Try.func21, Try.ntmps21
  go_wp2_with fail
  refine c.mono ?_
  rintro e w' ⟨rfl, rfl⟩
  go_wp2_with fail
  go_ret
  exact ⟨rfl, rfl⟩
set_option maxRecDepth 20000 in
theorem last_none {w : World} {v : Value} (h : NoneAt w v) : Calls Try.prog 22 #[v] w fun e w' => e = .returned (.int .u64 0) ∧ w = w' := by
  have c := none_none h
  clear h
  go_enter Try.func22, Try.ntmps22
  go_wp2_with fail
  refine c.mono ?_
  rintro e w' ⟨rfl, rfl⟩
  go_wp2_with fail
  go_ret
  exact ⟨rfl, rfl⟩
set_option maxRecDepth 20000 in
theorem volumes_none {w : World} {v : Value} (h : NoneAt w v) : Calls Try.prog 20 #[v] w fun e w' => e = .returned (.slice none 0 0) ∧ w = w' := by
  have c := none_none h
  clear h
  go_enter Try.func20, Try.ntmps20
  go_wp2_with fail
  refine c.mono ?_
  rintro e w' ⟨rfl, rfl⟩
  go_wp2_with fail
  go_ret
  exact ⟨rfl, rfl⟩
set_option maxRecDepth 20000 in
theorem places_none {w : World} {v : Value} {n : Nat} (h : NoneAt w v) : Calls Try.prog 24 #[v, .int .u64 (n : Int)] w fun e w' => e = .returned (.slice none 0 0) ∧ w = w' := by
  have c := none_none h
  clear h
  go_enter Try.func24, Try.ntmps24
  go_wp2_with fail
  refine c.mono ?_
  rintro e w' ⟨rfl, rfl⟩
  go_wp2_with fail
  go_ret
  exact ⟨rfl, rfl⟩
set_option maxRecDepth 20000 in
theorem copy_none {w : World} {v : Value} (h : NoneAt w v) : Calls Try.prog 11 #[v] w fun e w' => e = .returned (.pointer none) ∧ w = w' := by
  have c := none_none h
  clear h
  go_enter Try.func11, Try.ntmps11
  go_wp2_with fail
  refine c.mono ?_
  rintro e w' ⟨rfl, rfl⟩
  go_wp2_with fail
  go_ret
  exact ⟨rfl, rfl⟩

set_option maxRecDepth 20000 in
theorem same_none {w : World} {u v : Value} (hu : NoneAt w u) (hv : NoneAt w v) : Calls Try.prog 14 #[u, v] w fun e w' => e = .returned (.bool true) ∧ w = w' := by
  have c := none_none hu
  have d := none_none hv
  clear hu hv
  go_enter Try.func14, Try.ntmps14
  go_wp2_with fail
  refine c.mono ?_
  rintro e w' ⟨rfl, rfl⟩
  go_wp2_with fail
  refine c.mono ?_
  rintro e w' ⟨rfl, rfl⟩
  go_wp2_with fail
  refine d.mono ?_
  rintro e w' ⟨rfl, rfl⟩
  go_wp2_with fail
  go_ret
  exact ⟨rfl, rfl⟩
set_option maxRecDepth 20000 in
theorem same_none_l {w : World} {u : Value} {p N : Nat} {L : List Nat} {S : St} (hu : NoneAt w u) (hv : MdAt N L w p S) : Calls Try.prog 14 #[u, .pointer (some ⟨p, 0, none⟩)] w fun e w' => e = .returned (.bool false) ∧ w = w' := by
  have c := none_none hu
  obtain ⟨mb, D, C, hp, M⟩ := hv
  have d := none_of hp
  clear hu hp M
  go_enter Try.func14, Try.ntmps14
  go_wp2_with fail
  refine c.mono ?_
  rintro e w' ⟨rfl, rfl⟩
  go_wp2_with fail
  refine c.mono ?_
  rintro e w' ⟨rfl, rfl⟩
  go_wp2_with fail
  refine d.mono ?_
  rintro e w' ⟨rfl, rfl⟩
  go_wp2_with fail
  go_ret
  exact ⟨rfl, rfl⟩
set_option maxRecDepth 20000 in
theorem same_none_r {w : World} {u : Value} {p N : Nat} {L : List Nat} {S : St} (hv : MdAt N L w p S) (hu : NoneAt w u) : Calls Try.prog 14 #[.pointer (some ⟨p, 0, none⟩), u] w fun e w' => e = .returned (.bool false) ∧ w = w' := by
  have c := none_none hu
  obtain ⟨mb, D, C, hp, M⟩ := hv
  have d := none_of hp
  clear hu hp M
  go_enter Try.func14, Try.ntmps14
  go_wp2_with fail
  refine d.mono ?_
  rintro e w' ⟨rfl, rfl⟩
  go_wp2_with fail
  refine c.mono ?_
  rintro e w' ⟨rfl, rfl⟩
  go_wp2_with fail
  refine d.mono ?_
  rintro e w' ⟨rfl, rfl⟩
  go_wp2_with fail
  refine c.mono ?_
  rintro e w' ⟨rfl, rfl⟩
  go_wp2_with fail
  go_ret
  exact ⟨rfl, rfl⟩

set_option maxRecDepth 20000 in
set_option maxHeartbeats 1000000 in
theorem do_nil {w : World} {v : Value} {code vol pl n : Nat} {d : Value} (h : NoneAt w v) : Calls Try.prog 12 #[v, opV code vol pl n d] w fun e w' => e = .returned (repV 1 0 (.slice none 0 0) 0) ∧ Chg [] w w' := by
  unfold opV
  have hc := ((Chg.refl [] w).alloc (.cells #[.int .u8 (code : Int), .int .u64 (vol : Int), .int .u64 (pl : Int), .int .u64 (n : Int), d] 26)).alloc (.cells #[.int .i64 0, .int .u64 0, .slice none 0 0, .int .i64 0] 32)
  have c := none_none (h.chg hc)
  have hR := new_block2 w (.cells #[.int .u8 (code : Int), .int .u64 (vol : Int), .int .u64 (pl : Int), .int .u64 (n : Int), d] 26) (.cells #[.int .i64 0, .int .u64 0, .slice none 0 0, .int .i64 0] 32)
  clear h
  go_enter Try.func12, Try.ntmps12
  go_upto_region 1 with fail
  generalize (w.alloc (.cells #[.int .u8 (code : Int), .int .u64 (vol : Int), .int .u64 (pl : Int), .int .u64 (n : Int), d] 26)).alloc (.cells #[.int .i64 0, .int .u64 0, .slice none 0 0, .int .i64 0] 32) = W at *
  have r0 := cell_of_block hR 0
  have r1 := cell_of_block hR 1
  have r2 := cell_of_block hR 2
  have r3 := cell_of_block hR 3
  simp only [List.getElem?_toArray, List.getElem?_cons_zero, List.getElem?_cons_succ] at r0 r1 r2 r3
  have fr0 := frozen_of_block hR 0
  have fr1 := frozen_of_block hR 1
  have fr2 := frozen_of_block hR 2
  have fr3 := frozen_of_block hR 3
  have lr := heap_lt hR
  have HR := Lib.hid hR
  have HC := Lib.hid hc
  clear hR hc
  go_wp2_with fail
  refine c.mono ?_
  clear c
  rintro e w' ⟨rfl, rfl⟩
  go_wp2_with fail
  obtain ⟨hR4, hC4⟩ := rep_store HR.out (.int .i64 1) (.int .u64 0) (.slice none 0 0) (.int .i64 0)
  generalize (((W.setCell ⟨w.heap.size + 1, 0, none⟩ (.int .i64 1)).setCell ⟨w.heap.size + 1, 1, none⟩ (.int .u64 0)).setCell ⟨w.heap.size + 1, 2, none⟩ (.slice none 0 0)).setCell ⟨w.heap.size + 1, 3, none⟩ (.int .i64 0) = W4 at *
  have l4 := heap_lt hR4
  have z0 := cell_of_block hR4 0
  have z1 := cell_of_block hR4 1
  have z2 := cell_of_block hR4 2
  have z3 := cell_of_block hR4 3
  simp only [List.getElem?_toArray, List.getElem?_cons_zero, List.getElem?_cons_succ] at z0 z1 z2 z3
  exact bodyPost_ret (v := repV 1 0 (.slice none 0 0) 0) (by simp [results, Try.results12, go_sem, repV, l4, z0, z1, z2, z3]) rfl ⟨rfl, HC.out.then hC4 (by simp)⟩

end Go.Proofs.Ytbejcmbdaoakbaa
