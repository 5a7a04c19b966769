/- The reference's pick: Take. -/
import Derived.Test.YtnhabpbdpjgiiaaRef9B
import Derived.Test.YtnhabpbdpjgiiaaPAllL
namespace Go.Proofs.Ytnhabpbdpjgiiaa
open Go.RowKit
set_option linter.unusedVariables false
set_option linter.unusedSimpArgs false

/-- How far the search has come. -/
def far (T : Tal) (K : Pk) (k g : Nat) : Prop :=
  (K.next ≤ k ∧ k ≤ T.n ∧ g = 2 * T.n + 1 - k ∧ firstFree T.free K.next (T.n - K.next) = firstFree T.free k (T.n - k)) ∨
  (K.first ≤ k ∧ k < K.next ∧ g = T.n - k ∧ firstFree T.free K.next (T.n - K.next) = none ∧ firstFree T.free K.first (K.next - K.first) = firstFree T.free k (K.next - k))
theorem far_start {T : Tal} {K : Pk} (hn : K.next ≤ T.n) : far T K K.next (2 * T.n + 1 - K.next) := .inl ⟨Nat.le_refl _, hn, rfl, rfl⟩
theorem far_hit {T : Tal} {K : Pk} {k g : Nat} (h : far T K k g) (hk : k < T.n) (hf : T.free k = true) : takeR T K = some k := by
  unfold takeR
  rcases h with ⟨h1, h2, _, h4⟩ | ⟨h1, h2, _, h4, h5⟩
  · rw [h4, firstFree_hit hk hf]
  · rw [h4, h5, firstFree_hit h2 hf]
theorem far_wrap {T : Tal} {K : Pk} {k g b : Nat} (hfn : K.first ≤ K.next) (hn : K.next ≤ T.n) (h : far T K k g) (ht : takeR T K = some b) (hk : k = T.n ∨ (k + 1 = T.n ∧ T.free k = false)) : ∃ g', g' < g ∧ far T K K.first g' := by
  unfold takeR at ht
  rcases h with ⟨h1, h2, h3, h4⟩ | ⟨h1, h2, h3, h4, h5⟩
  · have e0 : firstFree T.free K.next (T.n - K.next) = none := by
      rw [h4]
      rcases hk with rfl | ⟨hk, hf⟩
      · exact firstFree_end
      · rw [firstFree_on (by omega) hf, hk]; exact firstFree_end
    rw [e0] at ht
    simp only at ht
    have hlt : K.first < K.next := by
      obtain ⟨a, b, _⟩ := firstFree_some ht
      omega
    exact ⟨T.n - K.first, by omega, .inr ⟨Nat.le_refl _, hlt, rfl, e0, rfl⟩⟩
  · exfalso
    rw [h4] at ht
    simp only at ht
    rw [h5] at ht
    rcases hk with rfl | ⟨hk, hf⟩
    · omega
    · rw [firstFree_on h2 hf] at ht
      have e : K.next = k + 1 := by omega
      rw [e, firstFree_end] at ht
      cases ht
theorem far_on {T : Tal} {K : Pk} {k g b : Nat} (hn : K.next ≤ T.n) (h : far T K k g) (ht : takeR T K = some b) (hk : k + 1 < T.n) (hf : T.free k = false) : ∃ g', g' < g ∧ far T K (k + 1) g' := by
  unfold takeR at ht
  rcases h with ⟨h1, h2, h3, h4⟩ | ⟨h1, h2, h3, h4, h5⟩
  · exact ⟨2 * T.n + 1 - (k + 1), by omega, .inl ⟨by omega, by omega, rfl, h4.trans (firstFree_on (by omega) hf)⟩⟩
  · rw [h4] at ht
    simp only at ht
    rw [h5, firstFree_on h2 hf] at ht
    have hlt : k + 1 < K.next := by
      obtain ⟨a, b, _⟩ := firstFree_some ht
      omega
    exact ⟨T.n - (k + 1), by omega, .inr ⟨by omega, hlt, rfl, h4, h5.trans (firstFree_on h2 hf)⟩⟩
theorem far_le {T : Tal} {K : Pk} {k g : Nat} (hn : K.next ≤ T.n) (h : far T K k g) : k ≤ T.n := by
  rcases h with ⟨_, h, _⟩ | ⟨_, h, _⟩ <;> omega

theorem st5 {w : World} {b : Nat} {a0 a1 a2 a3 a4 : Value} (h : w.heap[b]? = some (.cells #[a0, a1, a2, a3, a4] 37 (0, 0))) (x y z : Value) :
    (((w.setCell ⟨b, 0, none⟩ x).setCell ⟨b, 1, none⟩ y).setCell ⟨b, 3, none⟩ z).heap[b]? = some (.cells #[x, y, a2, z, a4] 37 (0, 0)) ∧ Chg [b] w (((w.setCell ⟨b, 0, none⟩ x).setCell ⟨b, 1, none⟩ y).setCell ⟨b, 3, none⟩ z) := by
  refine ⟨?_, (((Chg.refl _ _).setCell (.inl (by simp)) _).setCell (.inl (by simp)) _).setCell (.inl (by simp)) _⟩
  rw [setCell_block (setCell_block (setCell_block h 0 x) 1 y) 3 z]
  rfl
theorem st5b {w : World} {b : Nat} {a0 a1 a2 a3 a4 : Value} (h : w.heap[b]? = some (.cells #[a0, a1, a2, a3, a4] 37 (0, 0))) (z : Value) :
    (w.setCell ⟨b, 3, none⟩ z).heap[b]? = some (.cells #[a0, a1, a2, z, a4] 37 (0, 0)) ∧ Chg [b] w (w.setCell ⟨b, 3, none⟩ z) := by
  refine ⟨?_, (Chg.refl _ _).setCell (.inl (by simp)) _⟩
  rw [setCell_block h 3 z]
  rfl

set_option maxRecDepth 20000 in
set_option maxHeartbeats 16000000 in
theorem r9take_at {A : List Nat} {w : World} {v1 v2 : Value} {T : Tal} {K : Pk} (h : RefT A w v1 v2 T) (hA : ∀ k, k ∈ A → k < w.heap.size) (hf : K.first ≤ K.next) (hn : K.next ≤ T.n) :
    Calls Try.prog 14 #[pv v1 v2 K] w fun e w' => ∃ u1, e = .returned (.tuple #[pv u1 v2 (takeK T K), .int .i64 (takeB T K), .int .i64 (takeE T K)]) ∧ RefT A w' u1 v2 (takeT T K) ∧ Chg [] w w' := by
  have n2 := h.n2
  have HR := Lib.hid (h.more (B := A ++ [w.heap.size, w.heap.size + 1]) (fun a ha => by
    simp only [List.mem_append, List.mem_cons, List.not_mem_nil, or_false] at ha
    rcases ha with ha | ha | ha
    · exact .inl ha
    · exact .inr (by omega)
    · exact .inr (by omega)))
  have HA := Lib.hid hA
  obtain ⟨g1, c1, rfl, _⟩ := h.now
  obtain ⟨g2, c2, rfl, _⟩ := h.kept
  have hfn : K.first ≤ T.n := by omega
  have HC0 := ((Chg.refl [] w).alloc (.cells #[.slice (some ⟨g1, 0, none⟩) T.n c1, .slice (some ⟨g2, 0, none⟩) T.n c2, .int .i64 (K.first : Int), .int .i64 (K.next : Int), .int .i64 (K.asked : Int)] 37)).alloc (.cells #[.slice none 0 0, .slice none 0 0, .int .i64 0, .int .i64 0, .int .i64 0] 37)
  have HX := Lib.hid (new_block21 w (.cells #[.slice (some ⟨g1, 0, none⟩) T.n c1, .slice (some ⟨g2, 0, none⟩) T.n c2, .int .i64 (K.first : Int), .int .i64 (K.next : Int), .int .i64 (K.asked : Int)] 37) (.cells #[.slice none 0 0, .slice none 0 0, .int .i64 0, .int .i64 0, .int .i64 0] 37))
  have HY := Lib.hid (new_block2 w (.cells #[.slice (some ⟨g1, 0, none⟩) T.n c1, .slice (some ⟨g2, 0, none⟩) T.n c2, .int .i64 (K.first : Int), .int .i64 (K.next : Int), .int .i64 (K.asked : Int)] 37) (.cells #[.slice none 0 0, .slice none 0 0, .int .i64 0, .int .i64 0, .int .i64 0] 37))
  have HC := Lib.hid HC0
  have HR1 := Lib.hid (HR.out.chg HC0 (by simp))
  clear h hA HC0
  unfold pv
  cases ht : takeR T K with
  | none =>
    have hr0 := room_none hf hn ht
    have e1 : takeK T K = K := by unfold takeK; rw [ht]
    have e2 : takeB T K = 0 := by unfold takeB; rw [ht]
    have e3 : takeE T K = 90 := by unfold takeE; rw [ht]
    have e4 : takeT T K = T := by unfold takeT; rw [ht]
    rw [e1, e2, e3, e4]
    clear e1 e2 e3 e4 ht
    have Hr0 := Lib.hid hr0
    clear hr0
    go_enter Try.func14, Try.ntmps14
    go_wp2_with fail
    refine (r9room_at HR1.out K.first K.next K.asked hfn).mono ?_
    rintro e w1 ⟨rfl, hC1⟩
    have X1 := (hC1.block w.heap.size (heap_lt HX.out) (by simp)).trans HX.out
    have Y1 := (hC1.block (w.heap.size + 1) (heap_lt HY.out) (by simp)).trans HY.out
    have x0 := cell_of_block X1 0
    have x1 := cell_of_block X1 1
    have x2 := cell_of_block X1 2
    have x3 := cell_of_block X1 3
    have x4 := cell_of_block X1 4
    have y0 := cell_of_block Y1 0
    have y1 := cell_of_block Y1 1
    have y2 := cell_of_block Y1 2
    have y3 := cell_of_block Y1 3
    have y4 := cell_of_block Y1 4
    have f0 := frozen_of_block Y1 0
    have f1 := frozen_of_block Y1 1
    have f2 := frozen_of_block Y1 2
    have f3 := frozen_of_block Y1 3
    have f4 := frozen_of_block Y1 4
    simp only [List.getElem?_toArray, List.getElem?_cons_zero, List.getElem?_cons_succ] at x0 x1 x2 x3 x4 y0 y1 y2 y3 y4
    have HCw := Lib.hid (HC.out.trans hC1)
    rw [Hr0.out]
    clear X1 Y1 hC1
    go_wp2_with fail
    have hE : Chg [] w (((((w1.setCell ⟨w.heap.size + 1, 0, none⟩ (.slice (some ⟨g1, 0, none⟩) T.n c1)).setCell ⟨w.heap.size + 1, 1, none⟩ (.slice (some ⟨g2, 0, none⟩) T.n c2)).setCell ⟨w.heap.size + 1, 2, none⟩ (.int .i64 (K.first : Int))).setCell ⟨w.heap.size + 1, 3, none⟩ (.int .i64 (K.next : Int))).setCell ⟨w.heap.size + 1, 4, none⟩ (.int .i64 (K.asked : Int))) := by
      refine Chg.setCell (Chg.setCell (Chg.setCell (Chg.setCell (Chg.setCell HCw.out (.inr ?_) _) (.inr ?_) _) (.inr ?_) _) (.inr ?_) _) (.inr ?_) _ <;> simp
    exact bodyPost_ret (v := .tuple #[.agg #[.slice (some ⟨g1, 0, none⟩) T.n c1, .slice (some ⟨g2, 0, none⟩) T.n c2, .int .i64 (K.first : Int), .int .i64 (K.next : Int), .int .i64 (K.asked : Int)], .int .i64 0, .int .i64 90]) (by simp [results, Try.results14, go_sem, y0, y1, y2, y3, y4]) rfl
      ⟨_, rfl, (HR.out.chg hE (by simp)).more (fun a ha => .inl (List.mem_append_left _ ha)), hE⟩
  | some b =>
    obtain ⟨s1, s2, s3⟩ := takeR_spec hf hn ht
    have hz : (roomI T K.first == 0) = false := by
      have := room_pos s1 s2 s3
      simp
      omega
    have e1 : takeK T K = { K with next := if b + 1 = T.n then K.first else b + 1 } := by unfold takeK; rw [ht]
    have e2 : takeB T K = b := by unfold takeB; rw [ht]
    have e3 : takeE T K = 0 := by unfold takeE; rw [ht]
    have e4 : takeT T K = T.set b 1 := by unfold takeT; rw [ht]
    rw [e1, e2, e3, e4]
    simp only
    have HT := Lib.hid ht
    clear e1 e2 e3 e4 ht s3
    go_enter Try.func14, Try.ntmps14
    go_wp2_with fail
    refine (r9room_at HR1.out K.first K.next K.asked hfn).mono ?_
    rintro e w1 ⟨rfl, hC1⟩
    have HX1 := Lib.hid ((hC1.block w.heap.size (heap_lt HX.out) (by simp)).trans HX.out)
    have HY1 := Lib.hid ((hC1.block (w.heap.size + 1) (heap_lt HY.out) (by simp)).trans HY.out)
    have HR2 := Lib.hid (HR1.out.chg hC1 (by simp))
    have HCw := Lib.hid (HC.out.trans hC1)
    have x3 := cell_of_block HX1.out 3
    simp only [List.getElem?_toArray, List.getElem?_cons_zero, List.getElem?_cons_succ] at x3
    clear hC1
    go_wp2_with fail
    clear x3
    go_loopg [5] (2 * T.n + 1 - K.next) (fun g s wr => ∃ k : Nat, s = .int .i64 (k : Int) ∧ far T K k g ∧ Chg [] w1 wr)
    case atStart => exact ⟨K.next, rfl, far_start hn, Chg.refl _ _⟩
    case round =>
      obtain ⟨k, rfl, hfar, hCk⟩ := hrel
      have hkn := far_le hn hfar
      have HXk := Lib.hid ((hCk.block w.heap.size (heap_lt HX1.out) (by simp)).trans HX1.out)
      have HYk := Lib.hid ((hCk.block (w.heap.size + 1) (heap_lt HY1.out) (by simp)).trans HY1.out)
      have HRk := Lib.hid (HR2.out.chg hCk (by simp))
      have HCkw := Lib.hid (HCw.out.trans hCk)
      have HCk := Lib.hid hCk
      have x0 := cell_of_block HXk.out 0
      have x1 := cell_of_block HXk.out 1
      have x2 := cell_of_block HXk.out 2
      have x3 := cell_of_block HXk.out 3
      have x4 := cell_of_block HXk.out 4
      simp only [List.getElem?_toArray, List.getElem?_cons_zero, List.getElem?_cons_succ] at x0 x1 x2 x3 x4
      clear hCk
      by_cases hhit : k < T.n ∧ T.free k = true
      · have hkb : k = b := by
          have := far_hit hfar hhit.1 hhit.2
          rw [HT.out] at this
          injection this with this
          exact this.symm
        subst hkb
        obtain ⟨hk1, hk2⟩ := hhit
        have hne : ((k : Int) == (T.n : Int)) = false := by simp; omega
        have cf := r9free_at HRk.out K.first K.next K.asked k hk1
        rw [hk2] at cf
        obtain ⟨hu1, hu2⟩ := up_free hk1 hk2
        have Hu2 := Lib.hid hu2
        have Hu1 := Lib.hid hu1
        clear hu1 hu2 hk2 hfar
        go_wp2_with fail
        refine cf.mono ?_
        rintro e w2 ⟨rfl, hC2⟩
        have hR2 := HRk.out.chg hC2 (by simp)
        have X2 := Lib.hid ((hC2.block w.heap.size (heap_lt HXk.out) (by simp)).trans HXk.out)
        have Y2 := Lib.hid ((hC2.block (w.heap.size + 1) (heap_lt HYk.out) (by simp)).trans HYk.out)
        have C2 := Lib.hid (HCkw.out.trans hC2)
        clear cf hC2 x0 x1 x2 x3 x4
        have x0 := cell_of_block X2.out 0
        have x1 := cell_of_block X2.out 1
        simp only [List.getElem?_toArray, List.getElem?_cons_zero, List.getElem?_cons_succ] at x0 x1
        go_wp2_with fail
        refine (r8up hR2 (fun a ha => by
          have q1 := C2.out.size
          have q2 := heap_lt X2.out
          have q3 := heap_lt Y2.out
          simp only [List.mem_append, List.mem_cons, List.not_mem_nil, or_false] at ha
          rcases ha with ha | ha | ha
          · have := HA.out a ha; omega
          · omega
          · omega) (k : Int)).mono ?_
        rintro e w3 ⟨u1, rfl, hR3, hC3⟩
        obtain ⟨g3, c3, hu, _⟩ := hR3.now
        rw [up_n] at hu
        subst hu
        rw [Hu2.out] at hR3
        have X3 := (hC3.block w.heap.size (heap_lt X2.out) (by simp)).trans X2.out
        have Y3 := (hC3.block (w.heap.size + 1) (heap_lt Y2.out) (by simp)).trans Y2.out
        have C3 := Lib.hid (C2.out.trans hC3)
        clear x0 x1 hC3 hR2
        have x0 := cell_of_block X3 0
        have x1 := cell_of_block X3 1
        have x2 := cell_of_block X3 2
        have x3 := cell_of_block X3 3
        have x4 := cell_of_block X3 4
        have y0 := cell_of_block Y3 0
        have y1 := cell_of_block Y3 1
        have y2 := cell_of_block Y3 2
        have y3 := cell_of_block Y3 3
        have y4 := cell_of_block Y3 4
        have f0 := frozen_of_block Y3 0
        have f1 := frozen_of_block Y3 1
        have f2 := frozen_of_block Y3 2
        have f3 := frozen_of_block Y3 3
        have f4 := frozen_of_block Y3 4
        have q0 := frozen_of_block X3 0
        have q1 := frozen_of_block X3 1
        have q2 := frozen_of_block X3 2
        have q3 := frozen_of_block X3 3
        have q4 := frozen_of_block X3 4
        simp only [List.getElem?_toArray, List.getElem?_cons_zero, List.getElem?_cons_succ] at x0 x1 x2 x3 x4 y0 y1 y2 y3 y4
        have R3 := Lib.hid hR3
        have HX3 := Lib.hid X3
        have HY3 := Lib.hid Y3
        clear X3 Y3 hR3
        by_cases hE : k + 1 = T.n
        · have hd : (((k : Int) + 1) == (T.n : Int)) = true := by simp; omega
          have HE := Lib.hid hE
          clear hE
          go_upto_region 12 with fail
          have S0 := st5 HX3.out (.slice (some ⟨g3, 0, none⟩) T.n c3) (.slice (some ⟨g2, 0, none⟩) T.n c2) (.int .i64 ((k : Int) + 1))
          have S := st5b S0.1 (.int .i64 (K.first : Int))
          have SC := S0.2.trans S.2
          have X4 := S.1
          have Y4 := (SC.block (w.heap.size + 1) (heap_lt HY3.out) (by simp)).trans HY3.out
          have R4 := Lib.hid (R3.out.chg SC (by simp))
          have C4 := Lib.hid (C3.out.then SC (by simp))
          clear S0 S SC x0 x1 x2 x3 x4 y0 y1 y2 y3 y4 f0 f1 f2 f3 f4 q0 q1 q2 q3 q4
          generalize (((w3.setCell ⟨w.heap.size, 0, none⟩ (.slice (some ⟨g3, 0, none⟩) T.n c3)).setCell ⟨w.heap.size, 1, none⟩ (.slice (some ⟨g2, 0, none⟩) T.n c2)).setCell ⟨w.heap.size, 3, none⟩ (.int .i64 ((k : Int) + 1))).setCell ⟨w.heap.size, 3, none⟩ (.int .i64 (K.first : Int)) = w4 at *
          have x0 := cell_of_block X4 0
          have x1 := cell_of_block X4 1
          have x2 := cell_of_block X4 2
          have x3 := cell_of_block X4 3
          have x4 := cell_of_block X4 4
          have y0 := cell_of_block Y4 0
          have y1 := cell_of_block Y4 1
          have y2 := cell_of_block Y4 2
          have y3 := cell_of_block Y4 3
          have y4 := cell_of_block Y4 4
          have f0 := frozen_of_block Y4 0
          have f1 := frozen_of_block Y4 1
          have f2 := frozen_of_block Y4 2
          have f3 := frozen_of_block Y4 3
          have f4 := frozen_of_block Y4 4
          simp only [List.getElem?_toArray, List.getElem?_cons_zero, List.getElem?_cons_succ] at x0 x1 x2 x3 x4 y0 y1 y2 y3 y4
          clear X4 Y4
          go_wp2_with fail
          have hE : Chg [] w (((((w4.setCell ⟨w.heap.size + 1, 0, none⟩ (.slice (some ⟨g3, 0, none⟩) T.n c3)).setCell ⟨w.heap.size + 1, 1, none⟩ (.slice (some ⟨g2, 0, none⟩) T.n c2)).setCell ⟨w.heap.size + 1, 2, none⟩ (.int .i64 (K.first : Int))).setCell ⟨w.heap.size + 1, 3, none⟩ (.int .i64 (K.first : Int))).setCell ⟨w.heap.size + 1, 4, none⟩ (.int .i64 (K.asked : Int))) := by
            refine Chg.setCell (Chg.setCell (Chg.setCell (Chg.setCell (Chg.setCell C4.out (.inr ?_) _) (.inr ?_) _) (.inr ?_) _) (.inr ?_) _) (.inr ?_) _ <;> simp
          have hR : Chg [w.heap.size + 1] w4 (((((w4.setCell ⟨w.heap.size + 1, 0, none⟩ (.slice (some ⟨g3, 0, none⟩) T.n c3)).setCell ⟨w.heap.size + 1, 1, none⟩ (.slice (some ⟨g2, 0, none⟩) T.n c2)).setCell ⟨w.heap.size + 1, 2, none⟩ (.int .i64 (K.first : Int))).setCell ⟨w.heap.size + 1, 3, none⟩ (.int .i64 (K.first : Int))).setCell ⟨w.heap.size + 1, 4, none⟩ (.int .i64 (K.asked : Int))) := by
            refine Chg.setCell (Chg.setCell (Chg.setCell (Chg.setCell (Chg.setCell (Chg.refl _ _) (.inl ?_) _) (.inl ?_) _) (.inl ?_) _) (.inl ?_) _) (.inl ?_) _ <;> simp
          exact bodyPost_ret (v := .tuple #[.agg #[.slice (some ⟨g3, 0, none⟩) T.n c3, .slice (some ⟨g2, 0, none⟩) T.n c2, .int .i64 (K.first : Int), .int .i64 (K.first : Int), .int .i64 (K.asked : Int)], .int .i64 (k : Int), .int .i64 0]) (by simp [results, Try.results14, go_sem, y0, y1, y2, y3, y4]) rfl
            ⟨_, rfl, (R4.out.chg hR (by simp)).more (fun a ha => .inl (List.mem_append_left _ ha)), hE⟩
        · have hd : (((k : Int) + 1) == (T.n : Int)) = false := by simp; omega
          have HE := Lib.hid hE
          clear hE
          go_upto_region 12 with fail
          have S0 := st5 HX3.out (.slice (some ⟨g3, 0, none⟩) T.n c3) (.slice (some ⟨g2, 0, none⟩) T.n c2) (.int .i64 ((k : Int) + 1))
          have S := S0
          have SC := S0.2
          have X4 := S.1
          have Y4 := (SC.block (w.heap.size + 1) (heap_lt HY3.out) (by simp)).trans HY3.out
          have R4 := Lib.hid (R3.out.chg SC (by simp))
          have C4 := Lib.hid (C3.out.then SC (by simp))
          clear S0 S SC x0 x1 x2 x3 x4 y0 y1 y2 y3 y4 f0 f1 f2 f3 f4 q0 q1 q2 q3 q4
          generalize ((w3.setCell ⟨w.heap.size, 0, none⟩ (.slice (some ⟨g3, 0, none⟩) T.n c3)).setCell ⟨w.heap.size, 1, none⟩ (.slice (some ⟨g2, 0, none⟩) T.n c2)).setCell ⟨w.heap.size, 3, none⟩ (.int .i64 ((k : Int) + 1)) = w4 at *
          have x0 := cell_of_block X4 0
          have x1 := cell_of_block X4 1
          have x2 := cell_of_block X4 2
          have x3 := cell_of_block X4 3
          have x4 := cell_of_block X4 4
          have y0 := cell_of_block Y4 0
          have y1 := cell_of_block Y4 1
          have y2 := cell_of_block Y4 2
          have y3 := cell_of_block Y4 3
          have y4 := cell_of_block Y4 4
          have f0 := frozen_of_block Y4 0
          have f1 := frozen_of_block Y4 1
          have f2 := frozen_of_block Y4 2
          have f3 := frozen_of_block Y4 3
          have f4 := frozen_of_block Y4 4
          simp only [List.getElem?_toArray, List.getElem?_cons_zero, List.getElem?_cons_succ] at x0 x1 x2 x3 x4 y0 y1 y2 y3 y4
          clear X4 Y4
          go_wp2_with fail
          have hE : Chg [] w (((((w4.setCell ⟨w.heap.size + 1, 0, none⟩ (.slice (some ⟨g3, 0, none⟩) T.n c3)).setCell ⟨w.heap.size + 1, 1, none⟩ (.slice (some ⟨g2, 0, none⟩) T.n c2)).setCell ⟨w.heap.size + 1, 2, none⟩ (.int .i64 (K.first : Int))).setCell ⟨w.heap.size + 1, 3, none⟩ (.int .i64 ((k : Int) + 1))).setCell ⟨w.heap.size + 1, 4, none⟩ (.int .i64 (K.asked : Int))) := by
            refine Chg.setCell (Chg.setCell (Chg.setCell (Chg.setCell (Chg.setCell C4.out (.inr ?_) _) (.inr ?_) _) (.inr ?_) _) (.inr ?_) _) (.inr ?_) _ <;> simp
          have hR : Chg [w.heap.size + 1] w4 (((((w4.setCell ⟨w.heap.size + 1, 0, none⟩ (.slice (some ⟨g3, 0, none⟩) T.n c3)).setCell ⟨w.heap.size + 1, 1, none⟩ (.slice (some ⟨g2, 0, none⟩) T.n c2)).setCell ⟨w.heap.size + 1, 2, none⟩ (.int .i64 (K.first : Int))).setCell ⟨w.heap.size + 1, 3, none⟩ (.int .i64 ((k : Int) + 1))).setCell ⟨w.heap.size + 1, 4, none⟩ (.int .i64 (K.asked : Int))) := by
            refine Chg.setCell (Chg.setCell (Chg.setCell (Chg.setCell (Chg.setCell (Chg.refl _ _) (.inl ?_) _) (.inl ?_) _) (.inl ?_) _) (.inl ?_) _) (.inl ?_) _ <;> simp
          exact bodyPost_ret (v := .tuple #[.agg #[.slice (some ⟨g3, 0, none⟩) T.n c3, .slice (some ⟨g2, 0, none⟩) T.n c2, .int .i64 (K.first : Int), .int .i64 ((k : Int) + 1), .int .i64 (K.asked : Int)], .int .i64 (k : Int), .int .i64 0]) (by simp [results, Try.results14, go_sem, y0, y1, y2, y3, y4]) rfl
            ⟨_, rfl, (R4.out.chg hR (by simp)).more (fun a ha => .inl (List.mem_append_left _ ha)), hE⟩
      · have hno : k = T.n ∨ (k < T.n ∧ T.free k = false) := by
          by_cases e : k = T.n
          · exact .inl e
          · refine .inr ⟨by omega, ?_⟩
            cases hq : T.free k with
            | false => rfl
            | true => exact absurd ⟨by omega, hq⟩ hhit
        clear hhit
        rcases hno with hk | ⟨hk1, hk2⟩
        · obtain ⟨g', hg1, hg2⟩ := far_wrap hf hn hfar HT.out (.inl hk)
          have hd : ((k : Int) == (T.n : Int)) = true := by simp; omega
          have hge : (T.n : Int) ≤ (k : Int) + 1 := by omega
          clear hk hfar
          go_wp2_with fail
          go_roundg g'
          case measure => exact hg1
          case rel => exact ⟨K.first, rfl, hg2, HCk.out⟩
        · have hd : ((k : Int) == (T.n : Int)) = false := by simp; omega
          have cf := r9free_at HRk.out K.first K.next K.asked k hk1
          rw [hk2] at cf
          by_cases hE : k + 1 = T.n
          · obtain ⟨g', hg1, hg2⟩ := far_wrap hf hn hfar HT.out (.inr ⟨hE, hk2⟩)
            have hge : (T.n : Int) ≤ (k : Int) + 1 := by omega
            clear hE hk2 hfar
            go_wp2_with fail
            refine cf.mono ?_
            rintro e w2 ⟨rfl, hC2⟩
            have X2 := (hC2.block w.heap.size (heap_lt HXk.out) (by simp)).trans HXk.out
            have C2 := Lib.hid (HCk.out.trans hC2)
            have z0 := cell_of_block X2 0
            have z2 := cell_of_block X2 2
            simp only [List.getElem?_toArray, List.getElem?_cons_zero, List.getElem?_cons_succ] at z0 z2
            clear hC2 cf x0 x1 x2 x3 x4 X2
            go_wp2_with fail
            go_roundg g'
            case measure => exact hg1
            case rel => exact ⟨K.first, rfl, hg2, C2.out⟩
          · obtain ⟨g', hg1, hg2⟩ := far_on hn hfar HT.out (by omega) hk2
            have hge : (k : Int) + 1 < (T.n : Int) := by omega
            clear hE hk2 hfar
            go_wp2_with fail
            refine cf.mono ?_
            rintro e w2 ⟨rfl, hC2⟩
            have X2 := (hC2.block w.heap.size (heap_lt HXk.out) (by simp)).trans HXk.out
            have C2 := Lib.hid (HCk.out.trans hC2)
            have z0 := cell_of_block X2 0
            simp only [List.getElem?_toArray, List.getElem?_cons_zero, List.getElem?_cons_succ] at z0
            clear hC2 cf x0 x1 x2 x3 x4 X2
            go_wp2_with fail
            go_roundg g'
            case measure => exact hg1
            case rel => exact ⟨k + 1, by go_num, hg2, C2.out⟩

end Go.Proofs.Ytnhabpbdpjgiiaa
