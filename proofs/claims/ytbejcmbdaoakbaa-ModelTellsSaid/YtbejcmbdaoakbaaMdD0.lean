/- Model.Do, code by code. (Printed by mkmz.py.) -/
import Derived.Test.YtbejcmbdaoakbaaMdZ
import Derived.Deep.DeepCutAuto
import Derived.Laws.EntriesVeiled
namespace Go.Proofs.Ytbejcmbdaoakbaa
open Go.RowKit Go.Maps
set_option linter.unusedVariables false
set_option linter.unusedSimpArgs false

/-- .. or refused. -/
def DoneIf (N : Nat) (L : List Nat) (w : World) (p ev : Nat) (S' : St) (R : Rep) (S : St) (e : Ending) (w' : World) : Prop :=
  if ev = 0 then Done N L w p S' R e w' else Done N L w p S ⟨ev, 0, 0, fun _ => 0, 0⟩ e w'

/-- A deed was stored. -/
theorem deed_store {w : World} {g : Nat} {c0 c1 c2 c3 c4 c5 : Value} (h : w.heap[g]? = some (.cells #[c0, c1, c2, c3, c4, c5] 74 (0, 0))) (v0 v1 v2 v3 v4 v5 : Value) :
    ((((((w.setCell ⟨g, 0, none⟩ v0).setCell ⟨g, 1, none⟩ v1).setCell ⟨g, 2, none⟩ v2).setCell ⟨g, 3, none⟩ v3).setCell ⟨g, 4, none⟩ v4).setCell ⟨g, 5, none⟩ v5).heap[g]? = some (.cells #[v0, v1, v2, v3, v4, v5] 74 (0, 0)) ∧
      Chg [g] w ((((((w.setCell ⟨g, 0, none⟩ v0).setCell ⟨g, 1, none⟩ v1).setCell ⟨g, 2, none⟩ v2).setCell ⟨g, 3, none⟩ v3).setCell ⟨g, 4, none⟩ v4).setCell ⟨g, 5, none⟩ v5) :=
  ⟨setCell_block (setCell_block (setCell_block (setCell_block (setCell_block (setCell_block h 0 v0) 1 v1) 2 v2) 3 v3) 4 v4) 5 v5,
    ((((((Chg.refl [g] w).setCell (.inl (by simp)) _).setCell (.inl (by simp)) _).setCell (.inl (by simp)) _).setCell (.inl (by simp)) _).setCell (.inl (by simp)) _).setCell (.inl (by simp)) _⟩
def zDeed : Array Value := #[.bool false, .bool false, .bool false, .bool false, .bool false, .nilFunc]
set_option maxRecDepth 20000 in
set_option maxHeartbeats 4000000 in
theorem do_none {N : Nat} {L : List Nat} {w : World} {p code vol pl n len cap : Nat} {a : Option Addr} {S : St} (h : MdAt N L w p S) (hc : code = 0 ∨ 9 < code) (hc2 : code ≤ 255) :
    Calls Try.prog 12 #[.pointer (some ⟨p, 0, none⟩), opV code vol pl n (.slice a len cap)] w (Done N L w p S ⟨240, 0, 0, fun _ => 0, 0⟩) := by
  have hcc : (code : Int) < 1 ∨ ¬ (code : Int) < 1 ∧ (9 : Int) < (code : Int) := by omega
  clear hc
  obtain ⟨mb, D, C, hp, M⟩ := h
  have cN := none_of hp
  unfold mdRow at hp
  unfold opV
  have lp := heap_lt hp
  have hW : Chg [] w ((w.alloc (.cells #[.int .u8 (code : Int), .int .u64 (vol : Int), .int .u64 (pl : Int), .int .u64 (n : Int), .slice a len cap] 26)).alloc (.cells #[.int .i64 0, .int .u64 0, .slice none 0 0, .int .i64 0] 32)) := ((Chg.refl [] w).alloc _).alloc _
  have hP := (hW.block p lp (by simp)).trans hp
  have hO := new_block21 w (.cells #[.int .u8 (code : Int), .int .u64 (vol : Int), .int .u64 (pl : Int), .int .u64 (n : Int), .slice a len cap] 26) (.cells #[.int .i64 0, .int .u64 0, .slice none 0 0, .int .i64 0] 32)
  have hR := new_block2 w (.cells #[.int .u8 (code : Int), .int .u64 (vol : Int), .int .u64 (pl : Int), .int .u64 (n : Int), .slice a len cap] 26) (.cells #[.int .i64 0, .int .u64 0, .slice none 0 0, .int .i64 0] 32)
  have hM := M.chg hW (by simp)
  have cN := none_of hP
  have hlt := M.lt
  clear hp M lp
  go_enter Try.func12, Try.ntmps12
  go_upto_region 1 with fail
  generalize ((w.alloc (.cells #[.int .u8 (code : Int), .int .u64 (vol : Int), .int .u64 (pl : Int), .int .u64 (n : Int), .slice a len cap] 26)).alloc (.cells #[.int .i64 0, .int .u64 0, .slice none 0 0, .int .i64 0] 32)) = W at *
  have o0 := cell_of_block hO 0
  have o1 := cell_of_block hO 1
  have o2 := cell_of_block hO 2
  have o3 := cell_of_block hO 3
  have o4 := cell_of_block hO 4
  simp only [List.getElem?_toArray, List.getElem?_cons_zero, List.getElem?_cons_succ] at o0 o1 o2 o3 o4
  have r0 := cell_of_block hR 0
  have r1 := cell_of_block hR 1
  have r2 := cell_of_block hR 2
  have r3 := cell_of_block hR 3
  simp only [List.getElem?_toArray, List.getElem?_cons_zero, List.getElem?_cons_succ] at r0 r1 r2 r3
  have lp := heap_lt hP
  have lo := heap_lt hO
  have lr := heap_lt hR
  have fr0 := frozen_of_block hR 0
  have fr1 := frozen_of_block hR 1
  have fr2 := frozen_of_block hR 2
  have fr3 := frozen_of_block hR 3
  have HP := Lib.hid hP
  have HO := Lib.hid hO
  have HR := Lib.hid hR
  have HM := Lib.hid hM
  have HW := Lib.hid hW
  have HLT := Lib.hid hlt
  clear hP hO hR hM hW hlt
  go_wp2_with fail
  refine cN.mono ?_
  clear cN
  rintro e w' ⟨rfl, rfl⟩
  rcases hcc with hc | ⟨hc, hc'⟩
  all_goals
    go_wp2_with fail
    obtain ⟨hR4, hC4⟩ := rep_store HR.out (.int .i64 240) (.int .u64 0) (.slice none 0 0) (.int .i64 0)
    generalize (((W.setCell ⟨w.heap.size + 1, 0, none⟩ (.int .i64 240)).setCell ⟨w.heap.size + 1, 1, none⟩ (.int .u64 0)).setCell ⟨w.heap.size + 1, 2, none⟩ (.slice none 0 0)).setCell ⟨w.heap.size + 1, 3, none⟩ (.int .i64 0) = W4 at *
    have l4 := heap_lt hR4
    have z0 := cell_of_block hR4 0
    have z1 := cell_of_block hR4 1
    have z2 := cell_of_block hR4 2
    have z3 := cell_of_block hR4 3
    simp only [List.getElem?_toArray, List.getElem?_cons_zero, List.getElem?_cons_succ] at z0 z1 z2 z3
    have hcw : Chg [] w W4 := HW.out.then hC4 (by simp)
    have hM4 := HM.out.chg hC4 (fun b hb => by have := HLT.out b hb; simp; omega)
    have hP4 := (hC4.block p lp (by simp; have := HLT.out p HM.out.pin; omega)).trans HP.out
    exact bodyPost_ret (v := repV 240 0 (.slice none 0 0) 0) (by simp [results, Try.results12, go_sem, repV, l4, z0, z1, z2, z3]) rfl ⟨L, none, 0, rfl, ⟨mb, D, C, hP4, hM4.mono (Nat.le_succ _)⟩, fun b hb => .inl hb, bytes_none, fun b hb => (by cases hb), hcw.mono (by simp)⟩


end Go.Proofs.Ytbejcmbdaoakbaa
