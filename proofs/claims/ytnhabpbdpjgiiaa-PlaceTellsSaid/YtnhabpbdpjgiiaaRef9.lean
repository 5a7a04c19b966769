/- The reference's pick (catchmentref09). -/
import Derived.Test.YtnhabpbdpjgiiaaRef8C
import Derived.Deep.DeepCutAuto
import Derived.Deep.CutBlock
import Derived.Deep.LoopGhost
namespace Go.Proofs.Ytnhabpbdpjgiiaa
open Go.RowKit
set_option linter.unusedVariables false
set_option linter.unusedSimpArgs false

set_option maxRecDepth 20000 in
set_option maxHeartbeats 1000000 in
theorem r9new_bad {A : List Nat} {w : World} {v1 v2 : Value} {T : Tal} (h : RefT A w v1 v2 T) (n : Int) (hn : n < 0 ∨ (0 ≤ n ∧ (T.n : Int) < n)) :
    Calls Try.prog 9 #[.agg #[v1, v2], .int .i64 n] w fun e w' => e = .returned (.tuple #[.agg #[.slice none 0 0, .slice none 0 0, .int .i64 0, .int .i64 0, .int .i64 0], .int .i64 2]) ∧ Chg [] w w' := by
  obtain ⟨g1, c1, rfl, a1, a2, a3, a4, a5⟩ := h.now
  obtain ⟨g2, c2, rfl, d1, d2, d3, d4, d5⟩ := h.kept
  clear h a5 d5
  rcases hn with hn | ⟨hn, hn2⟩
  all_goals
    go_enter Try.func9, Try.ntmps9
    go_wp2
    exact bodyPost_ret (v := .tuple #[.agg #[.slice none 0 0, .slice none 0 0, .int .i64 0, .int .i64 0, .int .i64 0], .int .i64 2]) (by simp [results, Try.results9, go_sem]) rfl ⟨rfl, ((Chg.refl _ _).alloc _).alloc _⟩

set_option maxRecDepth 20000 in
set_option maxHeartbeats 1000000 in
theorem r9new_at {A : List Nat} {w : World} {v1 v2 : Value} {T : Tal} (h : RefT A w v1 v2 T) (n : Nat) (hn : n ≤ T.n) :
    Calls Try.prog 9 #[.agg #[v1, v2], .int .i64 (n : Int)] w fun e w' => e = .returned (.tuple #[.agg #[v1, v2, .int .i64 (n : Int), .int .i64 (n : Int), .int .i64 0], .int .i64 0]) ∧ Chg [] w w' := by
  obtain ⟨g1, c1, rfl, a1, a2, a3, a4, a5⟩ := h.now
  obtain ⟨g2, c2, rfl, d1, d2, d3, d4, d5⟩ := h.kept
  clear h a5 d5
  go_enter Try.func9, Try.ntmps9
  go_wp2
  exact bodyPost_ret (v := .tuple #[.agg #[.slice (some ⟨g1, 0, none⟩) T.n c1, .slice (some ⟨g2, 0, none⟩) T.n c2, .int .i64 (n : Int), .int .i64 (n : Int), .int .i64 0], .int .i64 0]) (by simp [results, Try.results9, go_sem]) rfl ⟨rfl, ((Chg.refl _ _).alloc _).alloc _⟩

set_option maxRecDepth 20000 in
set_option maxHeartbeats 1000000 in
theorem r9free_at {A : List Nat} {w : World} {v1 v2 : Value} {T : Tal} (h : RefT A w v1 v2 T) (f n a : Int) (b : Nat) (hb : b < T.n) :
    Calls Try.prog 37 #[.agg #[v1, v2, .int .i64 f, .int .i64 n, .int .i64 a], .int .i64 (b : Int)] w fun e w' => e = .returned (.bool (T.free b)) ∧ Chg [] w w' := by
  have n2 := h.n2
  obtain ⟨g1, c1, rfl, a1, a2, a3, a4, a5⟩ := h.now
  obtain ⟨g2, c2, rfl, d1, d2, d3, d4, d5⟩ := h.kept
  have HC := Lib.hid ((Chg.refl [] w).alloc (.cells #[.slice (some ⟨g1, 0, none⟩) T.n c1, .slice (some ⟨g2, 0, none⟩) T.n c2, .int .i64 f, .int .i64 n, .int .i64 a] 37))
  have y1 := (HC.out.cell (p := ⟨g1, b, none⟩) a3 (by simp)).trans (a5 b hb)
  have y2 := (HC.out.cell (p := ⟨g2, b, none⟩) d3 (by simp)).trans (d5 b hb)
  have i0 : (0 : Int) ≤ (b : Int) := by omega
  have i1 : (b : Int) < (T.n : Int) := by omega
  clear h a5 d5
  by_cases h0 : T.now b = 0
  · rw [h0] at y1
    have He : T.free b = ((T.kept b : Int) == 0) := by simp only [Tal.free, h0]; rw [Bool.eq_iff_iff]; simp
    have He := Lib.hid He
    clear h0
    go_enter Try.func37, Try.ntmps37
    go_wp2_with fail
    go_ret
    exact ⟨by rw [He.out]; rfl, HC.out⟩
  · have t0 : ((T.now b : Int) == 0) = false := by simp; omega
    have He := Lib.hid (show T.free b = false by simp [Tal.free, h0])
    clear h0
    go_enter Try.func37, Try.ntmps37
    go_wp2_with fail
    go_ret
    exact ⟨by rw [He.out]; rfl, HC.out⟩

set_option maxRecDepth 20000 in
set_option maxHeartbeats 1000000 in
theorem r9room_at {A : List Nat} {w : World} {v1 v2 : Value} {T : Tal} (h : RefT A w v1 v2 T) (f : Nat) (n a : Int) (hf : f ≤ T.n) :
    Calls Try.prog 36 #[.agg #[v1, v2, .int .i64 (f : Int), .int .i64 n, .int .i64 a]] w fun e w' => e = .returned (.int .i64 (roomI T f)) ∧ Chg [] w w' := by
  have n2 := h.n2
  have HR := Lib.hid h
  obtain ⟨g1, c1, rfl, a1, a2, a3, a4, a5⟩ := h.now
  obtain ⟨g2, c2, rfl, d1, d2, d3, d4, d5⟩ := h.kept
  have HC := Lib.hid ((Chg.refl [] w).alloc (.cells #[.slice (some ⟨g1, 0, none⟩) T.n c1, .slice (some ⟨g2, 0, none⟩) T.n c2, .int .i64 (f : Int), .int .i64 n, .int .i64 a] 37))
  have HX := Lib.hid (new_block w (.cells #[.slice (some ⟨g1, 0, none⟩) T.n c1, .slice (some ⟨g2, 0, none⟩) T.n c2, .int .i64 (f : Int), .int .i64 n, .int .i64 a] 37))
  clear h a5 d5
  go_enter Try.func36, Try.ntmps36
  go_wp2_with fail
  generalize w.alloc (.cells #[.slice (some ⟨g1, 0, none⟩) T.n c1, .slice (some ⟨g2, 0, none⟩) T.n c2, .int .i64 (f : Int), .int .i64 n, .int .i64 a] 37) = W at *
  go_loopw [3, 4] (fun s b wr => ∃ k : Nat, f ≤ k ∧ k ≤ T.n ∧ b = .int .i64 (k : Int) ∧ s = .int .i64 ((cnt k T.free : Int) - (cnt f T.free : Int)) ∧ Chg [] W wr) (fun _ b _ => T.n - (intOf b).toNat)
  case atStart => exact ⟨f, Nat.le_refl _, hf, rfl, by rw [Int.sub_self], Chg.refl _ _⟩
  case round =>
    obtain ⟨k, hk1, hk2, rfl, rfl, hCk⟩ := hrel
    have hcl := cnt_le T.free k
    have hcl2 := cnt_le T.free f
    have x := (hCk.block w.heap.size (heap_lt HX.out) (by simp)).trans HX.out
    have x0 := cell_of_block x 0
    have x1 := cell_of_block x 1
    have x2 := cell_of_block x 2
    have x3 := cell_of_block x 3
    have x4 := cell_of_block x 4
    simp only [List.getElem?_toArray, List.getElem?_cons_zero, List.getElem?_cons_succ] at x0 x1 x2 x3 x4
    have HCk := Lib.hid hCk
    have hRk := (HR.out.chg HC.out (by simp)).chg hCk (by simp)
    have HRk := Lib.hid hRk
    clear x hCk hRk
    by_cases hlt : k < T.n
    · have Hst := Lib.hid (cnt_step k T.free)
      go_wp2_with fail
      refine (r9free_at HRk.out f n a k hlt).mono ?_
      rintro e w1 ⟨rfl, hC1⟩
      have HC1 := Lib.hid (HCk.out.trans hC1)
      clear hC1 x0 x1 x2 x3 x4
      cases hf' : T.free k with
      | true =>
        have e : cnt (k + 1) T.free = cnt k T.free + 1 := by rw [Hst.out, hf']; rfl
        have E := Lib.hid e
        clear e hf'
        go_wp2_with fail
        go_roundw
        case rel => exact ⟨k + 1, by omega, by omega, by go_num, by rw [E.out]; congr 1; omega, HC1.out⟩
        case measure => simp [intOf]; omega
      | false =>
        have e : cnt (k + 1) T.free = cnt k T.free := by rw [Hst.out, hf']; rfl
        have E := Lib.hid e
        clear e hf'
        go_wp2_with fail
        go_roundw
        case rel => exact ⟨k + 1, by omega, by omega, by go_num, by rw [E.out], HC1.out⟩
        case measure => simp [intOf]; omega
    · obtain rfl : k = T.n := by omega
      go_wp2_with fail
      go_ret
      exact ⟨rfl, HC.out.trans HCk.out⟩

end Go.Proofs.Ytnhabpbdpjgiiaa
