/- The reference's pick: Ask, Done. -/
import Derived.Test.YtgbhofneinmonaaRef9
import Derived.Test.YtgbhofneinmonaaPickP
namespace Go.Proofs.Ytgbhofneinmonaa
open Go.RowKit
set_option linter.unusedVariables false
set_option linter.unusedSimpArgs false

/-- The value of the reference's pick. -/
def pv (v1 v2 : Value) (K : Pk) : Value := .agg #[v1, v2, .int .i64 (K.first : Int), .int .i64 (K.next : Int), .int .i64 (K.asked : Int)]

set_option maxRecDepth 20000 in
set_option maxHeartbeats 2000000 in
theorem r9ask_at {A : List Nat} {w : World} {v1 v2 : Value} {T : Tal} {K : Pk} (h : RefT A w v1 v2 T) (hf : K.first ≤ T.n) (ha : K.asked ≤ 4096) (n : Int) :
    Calls Try.prog 46 #[pv v1 v2 K, .int .i64 n] w fun e w' => e = .returned (.tuple #[pv v1 v2 (askK T K n), .int .i64 (askE T K n)]) ∧ Chg [] w w' := by
  have n2 := h.n2
  have hrb := roomI_bd hf
  have HR := Lib.hid h
  obtain ⟨g1, c1, rfl, _⟩ := h.now
  obtain ⟨g2, c2, rfl, _⟩ := h.kept
  unfold pv
  by_cases hn : n < 0
  · have He : askE T K n = 2 := by unfold askE; rw [if_pos hn]
    have Hk : askK T K n = K := by unfold askK; rw [if_neg (by rw [He]; decide)]
    rw [He, Hk]
    clear He Hk h
    go_enter Try.func46, Try.ntmps46
    go_wp2_with fail
    exact bodyPost_ret (v := .tuple #[.agg #[.slice (some ⟨g1, 0, none⟩) T.n c1, .slice (some ⟨g2, 0, none⟩) T.n c2, .int .i64 (K.first : Int), .int .i64 (K.next : Int), .int .i64 (K.asked : Int)], .int .i64 2]) (by simp [results, Try.results46, go_sem]) rfl ⟨rfl, ((Chg.refl _ _).alloc _).alloc _⟩
  · have HC0 := ((Chg.refl [] w).alloc (.cells #[.slice (some ⟨g1, 0, none⟩) T.n c1, .slice (some ⟨g2, 0, none⟩) T.n c2, .int .i64 (K.first : Int), .int .i64 (K.next : Int), .int .i64 (K.asked : Int)] 73)).alloc (.cells #[.slice none 0 0, .slice none 0 0, .int .i64 0, .int .i64 0, .int .i64 0] 73)
    have HX := Lib.hid (new_block21 w (.cells #[.slice (some ⟨g1, 0, none⟩) T.n c1, .slice (some ⟨g2, 0, none⟩) T.n c2, .int .i64 (K.first : Int), .int .i64 (K.next : Int), .int .i64 (K.asked : Int)] 73) (.cells #[.slice none 0 0, .slice none 0 0, .int .i64 0, .int .i64 0, .int .i64 0] 73))
    have HY := Lib.hid (new_block2 w (.cells #[.slice (some ⟨g1, 0, none⟩) T.n c1, .slice (some ⟨g2, 0, none⟩) T.n c2, .int .i64 (K.first : Int), .int .i64 (K.next : Int), .int .i64 (K.asked : Int)] 73) (.cells #[.slice none 0 0, .slice none 0 0, .int .i64 0, .int .i64 0, .int .i64 0] 73))
    have HC := Lib.hid HC0
    have HRd := Lib.hid ((HR.out.chg HC0 (by simp)).chg (Chg.drew (Chg.refl [] _)) (by simp))
    have x0 := cell_of_block HX.out 0
    have x1 := cell_of_block HX.out 1
    have x2 := cell_of_block HX.out 2
    have x3 := cell_of_block HX.out 3
    have x4 := cell_of_block HX.out 4
    simp only [List.getElem?_toArray, List.getElem?_cons_zero, List.getElem?_cons_succ] at x0 x1 x2 x3 x4
    have hlt := heap_lt HX.out
    have hwr := Lib.hid (show IntKind.i64.wrap (roomI T K.first - (K.asked : Int)) = roomI T K.first - (K.asked : Int) from IntWalk.i64_in _ (by omega))
    clear h HC0
    by_cases hr : roomI T K.first - K.asked < n
    · have He : askE T K n = 90 := by unfold askE; rw [if_neg hn, if_pos hr]
      have Hk : askK T K n = K := by unfold askK; rw [if_neg (by rw [He]; decide)]
      rw [He, Hk]
      clear He Hk
      go_enter Try.func46, Try.ntmps46
      go_wp2_with fail
      generalize (w.alloc (.cells #[.slice (some ⟨g1, 0, none⟩) T.n c1, .slice (some ⟨g2, 0, none⟩) T.n c2, .int .i64 (K.first : Int), .int .i64 (K.next : Int), .int .i64 (K.asked : Int)] 73)).alloc (.cells #[.slice none 0 0, .slice none 0 0, .int .i64 0, .int .i64 0, .int .i64 0] 73) = W at *
      go_upto_region 3 with fail
      go_cut [15] (fun c wx => c = .bool (decide (roomI T K.first - K.asked < n)) ∧ Chg [] W wx)
      case first =>
        go_region_with (go_at_call 48; refine (r9room_at HRd.out K.first K.next K.asked hf).mono ?_; rintro e w1 ⟨rfl, hC1⟩; have y4 := (hC1.cell (p := ⟨w.heap.size, 4, none⟩) hlt (by simp)).trans x4; have HC1 := Lib.hid hC1; clear hC1)
        all_goals (go_wp2_with fail; go_meet; exact ⟨by rw [hwr.out], (Chg.drew (Chg.refl [] _)).trans HC1.out⟩)
      case rest =>
        obtain ⟨rfl, hC2⟩ := hcut
        have X2 := (hC2.block w.heap.size (heap_lt HX.out) (by simp)).trans HX.out
        have Y2 := (hC2.block (w.heap.size + 1) (heap_lt HY.out) (by simp)).trans HY.out
        clear x0 x1 x2 x3 x4
        have x0 := cell_of_block X2 0
        have x1 := cell_of_block X2 1
        have x2 := cell_of_block X2 2
        have x3 := cell_of_block X2 3
        have x4 := cell_of_block X2 4
        have y0 := cell_of_block Y2 0
        have y1 := cell_of_block Y2 1
        have y2 := cell_of_block Y2 2
        have y3 := cell_of_block Y2 3
        have y4 := cell_of_block Y2 4
        have f0 := frozen_of_block Y2 0
        have f1 := frozen_of_block Y2 1
        have f2 := frozen_of_block Y2 2
        have f3 := frozen_of_block Y2 3
        have f4 := frozen_of_block Y2 4
        have f5 := frozen_of_block X2 4
        simp only [List.getElem?_toArray, List.getElem?_cons_zero, List.getElem?_cons_succ] at x0 x1 x2 x3 x4 y0 y1 y2 y3 y4
        have HC2 := Lib.hid (HC.out.trans hC2)
        clear X2 Y2 hC2
        go_wp2_with fail
        exact bodyPost_ret (v := .tuple #[.agg #[.slice (some ⟨g1, 0, none⟩) T.n c1, .slice (some ⟨g2, 0, none⟩) T.n c2, .int .i64 (K.first : Int), .int .i64 (K.next : Int), .int .i64 (K.asked : Int)], .int .i64 90]) (by simp [results, Try.results46, go_sem, y0, y1, y2, y3, y4]) rfl
          ⟨rfl, by repeat (first | refine Chg.setCell ?_ (.inr (by show w.heap.size ≤ w.heap.size + 1; omega)) _ | exact HC2.out)⟩
    · have He : askE T K n = 0 := by unfold askE; rw [if_neg hn, if_neg hr]
      have Hk : askK T K n = { K with asked := K.asked + n.toNat } := by unfold askK; rw [if_pos He]
      have hnb : n ≤ 4096 := by omega
      obtain ⟨m, rfl⟩ := Int.eq_ofNat_of_zero_le (show 0 ≤ n by omega)
      rw [He, Hk]
      have hm : ((K.asked + (m : Int).toNat : Nat) : Int) = (K.asked : Int) + (m : Int) := by omega
      simp only [hm]
      clear He Hk hm
      go_enter Try.func46, Try.ntmps46
      go_wp2_with fail
      generalize (w.alloc (.cells #[.slice (some ⟨g1, 0, none⟩) T.n c1, .slice (some ⟨g2, 0, none⟩) T.n c2, .int .i64 (K.first : Int), .int .i64 (K.next : Int), .int .i64 (K.asked : Int)] 73)).alloc (.cells #[.slice none 0 0, .slice none 0 0, .int .i64 0, .int .i64 0, .int .i64 0] 73) = W at *
      go_upto_region 3 with fail
      go_cut [15] (fun c wx => c = .bool (decide (roomI T K.first - K.asked < (m : Int))) ∧ Chg [] W wx)
      case first =>
        go_region_with (go_at_call 48; refine (r9room_at HRd.out K.first K.next K.asked hf).mono ?_; rintro e w1 ⟨rfl, hC1⟩; have y4 := (hC1.cell (p := ⟨w.heap.size, 4, none⟩) hlt (by simp)).trans x4; have HC1 := Lib.hid hC1; clear hC1)
        all_goals (go_wp2_with fail; go_meet; exact ⟨by rw [hwr.out], (Chg.drew (Chg.refl [] _)).trans HC1.out⟩)
      case rest =>
        obtain ⟨rfl, hC2⟩ := hcut
        have X2 := (hC2.block w.heap.size (heap_lt HX.out) (by simp)).trans HX.out
        have Y2 := (hC2.block (w.heap.size + 1) (heap_lt HY.out) (by simp)).trans HY.out
        clear x0 x1 x2 x3 x4
        have x0 := cell_of_block X2 0
        have x1 := cell_of_block X2 1
        have x2 := cell_of_block X2 2
        have x3 := cell_of_block X2 3
        have x4 := cell_of_block X2 4
        have y0 := cell_of_block Y2 0
        have y1 := cell_of_block Y2 1
        have y2 := cell_of_block Y2 2
        have y3 := cell_of_block Y2 3
        have y4 := cell_of_block Y2 4
        have f0 := frozen_of_block Y2 0
        have f1 := frozen_of_block Y2 1
        have f2 := frozen_of_block Y2 2
        have f3 := frozen_of_block Y2 3
        have f4 := frozen_of_block Y2 4
        have f5 := frozen_of_block X2 4
        simp only [List.getElem?_toArray, List.getElem?_cons_zero, List.getElem?_cons_succ] at x0 x1 x2 x3 x4 y0 y1 y2 y3 y4
        have HC2 := Lib.hid (HC.out.trans hC2)
        clear X2 Y2 hC2
        go_wp2_with fail
        exact bodyPost_ret (v := .tuple #[.agg #[.slice (some ⟨g1, 0, none⟩) T.n c1, .slice (some ⟨g2, 0, none⟩) T.n c2, .int .i64 (K.first : Int), .int .i64 (K.next : Int), .int .i64 ((K.asked : Int) + (m : Int))], .int .i64 0]) (by simp [results, Try.results46, go_sem, x0, x1, x2, x3, x4, y0, y1, y2, y3, y4]) rfl
          ⟨rfl, by refine Chg.setCell (Chg.setCell (Chg.setCell (Chg.setCell (Chg.setCell (Chg.setCell HC2.out (.inr ?_) _) (.inr ?_) _) (.inr ?_) _) (.inr ?_) _) (.inr ?_) _) (.inr ?_) _ <;> simp⟩

set_option maxRecDepth 20000 in
set_option maxHeartbeats 2000000 in
theorem r9done_at {A : List Nat} {w : World} {v1 v2 : Value} {T : Tal} {K : Pk} (h : RefT A w v1 v2 T) (ha : K.asked ≤ 4096) (n : Int) :
    Calls Try.prog 47 #[pv v1 v2 K, .int .i64 n] w fun e w' => e = .returned (.tuple #[pv v1 v2 (doneK K n), .int .i64 (doneE K n)]) ∧ Chg [] w w' := by
  obtain ⟨g1, c1, rfl, _⟩ := h.now
  obtain ⟨g2, c2, rfl, _⟩ := h.kept
  unfold pv
  by_cases hn : n < 0
  · have He : doneE K n = 2 := by unfold doneE; rw [if_pos hn]
    have Hk : doneK K n = K := by unfold doneK; rw [if_neg (by rw [He]; decide)]
    rw [He, Hk]
    clear He Hk h
    go_enter Try.func47, Try.ntmps47
    go_wp2_with fail
    exact bodyPost_ret (v := .tuple #[.agg #[.slice (some ⟨g1, 0, none⟩) T.n c1, .slice (some ⟨g2, 0, none⟩) T.n c2, .int .i64 (K.first : Int), .int .i64 (K.next : Int), .int .i64 (K.asked : Int)], .int .i64 2]) (by simp [results, Try.results47, go_sem]) rfl ⟨rfl, ((Chg.refl _ _).alloc _).alloc _⟩
  · by_cases hr : (K.asked : Int) < n
    · have He : doneE K n = 91 := by unfold doneE; rw [if_neg hn, if_pos hr]
      have Hk : doneK K n = K := by unfold doneK; rw [if_neg (by rw [He]; decide)]
      rw [He, Hk]
      clear He Hk h
      go_enter Try.func47, Try.ntmps47
      go_wp2_with fail
      exact bodyPost_ret (v := .tuple #[.agg #[.slice (some ⟨g1, 0, none⟩) T.n c1, .slice (some ⟨g2, 0, none⟩) T.n c2, .int .i64 (K.first : Int), .int .i64 (K.next : Int), .int .i64 (K.asked : Int)], .int .i64 91]) (by simp [results, Try.results47, go_sem]) rfl ⟨rfl, ((Chg.refl _ _).alloc _).alloc _⟩
    · have He : doneE K n = 0 := by unfold doneE; rw [if_neg hn, if_neg hr]
      have Hk : doneK K n = { K with asked := K.asked - n.toNat } := by unfold doneK; rw [if_pos He]
      obtain ⟨m, rfl⟩ := Int.eq_ofNat_of_zero_le (show 0 ≤ n by omega)
      rw [He, Hk]
      have hm : ((K.asked - (m : Int).toNat : Nat) : Int) = (K.asked : Int) - (m : Int) := by omega
      simp only [hm]
      clear He Hk hm h
      go_enter Try.func47, Try.ntmps47
      go_wp2_with fail
      exact bodyPost_ret (v := .tuple #[.agg #[.slice (some ⟨g1, 0, none⟩) T.n c1, .slice (some ⟨g2, 0, none⟩) T.n c2, .int .i64 (K.first : Int), .int .i64 (K.next : Int), .int .i64 ((K.asked : Int) - (m : Int))], .int .i64 0]) (by simp [results, Try.results47, go_sem]) rfl ⟨rfl, ((Chg.refl _ _).alloc _).alloc _⟩

end Go.Proofs.Ytgbhofneinmonaa
