/- The reference of layer 10: a page gets a new block. -/
import Derived.Test.YtnhabpbdpjgiiaaR10B
namespace Go.Proofs.Ytnhabpbdpjgiiaa
open Go.RowKit
set_option linter.unusedVariables false
set_option linter.unusedSimpArgs false

theorem sto2of9 {w : World} {b : Nat} {a0 a1 a2 a3 a4 a5 a6 a7 a8 : Value} {T : TypeId} (h : w.heap[b]? = some (.cells #[a0, a1, a2, a3, a4, a5, a6, a7, a8] T (0, 0))) (x0 x1 : Value) :
    ((w.setCell ⟨b, 0, none⟩ x0).setCell ⟨b, 1, none⟩ x1).heap[b]? = some (.cells #[x0, x1, a2, a3, a4, a5, a6, a7, a8] T (0, 0)) ∧ Chg [b] w ((w.setCell ⟨b, 0, none⟩ x0).setCell ⟨b, 1, none⟩ x1) :=
  ⟨(setCell_block (setCell_block h 0 x0) 1 x1), (((Chg.refl _ _).setCell (.inl (by simp)) _).setCell (.inl (by simp)) _)⟩
theorem sto5of9 {w : World} {b : Nat} {a0 a1 a2 a3 a4 a5 a6 a7 a8 : Value} {T : TypeId} (h : w.heap[b]? = some (.cells #[a0, a1, a2, a3, a4, a5, a6, a7, a8] T (0, 0))) (x0 x1 x2 x3 x4 : Value) :
    (((((w.setCell ⟨b, 0, none⟩ x0).setCell ⟨b, 1, none⟩ x1).setCell ⟨b, 2, none⟩ x2).setCell ⟨b, 3, none⟩ x3).setCell ⟨b, 4, none⟩ x4).heap[b]? = some (.cells #[x0, x1, x2, x3, x4, a5, a6, a7, a8] T (0, 0)) ∧ Chg [b] w (((((w.setCell ⟨b, 0, none⟩ x0).setCell ⟨b, 1, none⟩ x1).setCell ⟨b, 2, none⟩ x2).setCell ⟨b, 3, none⟩ x3).setCell ⟨b, 4, none⟩ x4) :=
  ⟨(setCell_block (setCell_block (setCell_block (setCell_block (setCell_block h 0 x0) 1 x1) 2 x2) 3 x3) 4 x4), ((((((Chg.refl _ _).setCell (.inl (by simp)) _).setCell (.inl (by simp)) _).setCell (.inl (by simp)) _).setCell (.inl (by simp)) _).setCell (.inl (by simp)) _)⟩
theorem sto9of9 {w : World} {b : Nat} {a0 a1 a2 a3 a4 a5 a6 a7 a8 : Value} {T : TypeId} (h : w.heap[b]? = some (.cells #[a0, a1, a2, a3, a4, a5, a6, a7, a8] T (0, 0))) (x0 x1 x2 x3 x4 x5 x6 x7 x8 : Value) :
    (((((((((w.setCell ⟨b, 0, none⟩ x0).setCell ⟨b, 1, none⟩ x1).setCell ⟨b, 2, none⟩ x2).setCell ⟨b, 3, none⟩ x3).setCell ⟨b, 4, none⟩ x4).setCell ⟨b, 5, none⟩ x5).setCell ⟨b, 6, none⟩ x6).setCell ⟨b, 7, none⟩ x7).setCell ⟨b, 8, none⟩ x8).heap[b]? = some (.cells #[x0, x1, x2, x3, x4, x5, x6, x7, x8] T (0, 0)) ∧ Chg [b] w (((((((((w.setCell ⟨b, 0, none⟩ x0).setCell ⟨b, 1, none⟩ x1).setCell ⟨b, 2, none⟩ x2).setCell ⟨b, 3, none⟩ x3).setCell ⟨b, 4, none⟩ x4).setCell ⟨b, 5, none⟩ x5).setCell ⟨b, 6, none⟩ x6).setCell ⟨b, 7, none⟩ x7).setCell ⟨b, 8, none⟩ x8) := by
  have h5 := (sto5of9 h x0 x1 x2 x3 x4).1
  have h6 : ((((((w.setCell ⟨b, 0, none⟩ x0).setCell ⟨b, 1, none⟩ x1).setCell ⟨b, 2, none⟩ x2).setCell ⟨b, 3, none⟩ x3).setCell ⟨b, 4, none⟩ x4).setCell ⟨b, 5, none⟩ x5).heap[b]? = some (.cells #[x0, x1, x2, x3, x4, x5, a6, a7, a8] T (0, 0)) := setCell_block h5 5 x5
  have h7 : (((((((w.setCell ⟨b, 0, none⟩ x0).setCell ⟨b, 1, none⟩ x1).setCell ⟨b, 2, none⟩ x2).setCell ⟨b, 3, none⟩ x3).setCell ⟨b, 4, none⟩ x4).setCell ⟨b, 5, none⟩ x5).setCell ⟨b, 6, none⟩ x6).heap[b]? = some (.cells #[x0, x1, x2, x3, x4, x5, x6, a7, a8] T (0, 0)) := setCell_block h6 6 x6
  have h8 : ((((((((w.setCell ⟨b, 0, none⟩ x0).setCell ⟨b, 1, none⟩ x1).setCell ⟨b, 2, none⟩ x2).setCell ⟨b, 3, none⟩ x3).setCell ⟨b, 4, none⟩ x4).setCell ⟨b, 5, none⟩ x5).setCell ⟨b, 6, none⟩ x6).setCell ⟨b, 7, none⟩ x7).heap[b]? = some (.cells #[x0, x1, x2, x3, x4, x5, x6, x7, a8] T (0, 0)) := setCell_block h7 7 x7
  have h9 : (((((((((w.setCell ⟨b, 0, none⟩ x0).setCell ⟨b, 1, none⟩ x1).setCell ⟨b, 2, none⟩ x2).setCell ⟨b, 3, none⟩ x3).setCell ⟨b, 4, none⟩ x4).setCell ⟨b, 5, none⟩ x5).setCell ⟨b, 6, none⟩ x6).setCell ⟨b, 7, none⟩ x7).setCell ⟨b, 8, none⟩ x8).heap[b]? = some (.cells #[x0, x1, x2, x3, x4, x5, x6, x7, x8] T (0, 0)) := setCell_block h8 8 x8
  exact ⟨h9, ((((((((((Chg.refl _ _).setCell (.inl (by simp)) _).setCell (.inl (by simp)) _).setCell (.inl (by simp)) _).setCell (.inl (by simp)) _).setCell (.inl (by simp)) _).setCell (.inl (by simp)) _).setCell (.inl (by simp)) _).setCell (.inl (by simp)) _).setCell (.inl (by simp)) _)⟩

def T1of (T : Tal) (old : Nat) : Tal := if old = 0 then T else down T (old : Int)
set_option maxRecDepth 20000 in
set_option maxHeartbeats 4000000 in
theorem r10moved_at {A : List Nat} {w : World} {v1 v2 : Value} {n g c h : Nat → Nat} {T : Tal} {K : Pk} (H : RefT A w v1 v2 T) (hA : ∀ k, k ∈ A → k < w.heap.size) (old : Nat) (hf : K.first ≤ K.next) (hn : K.next ≤ T.n) :
    Calls Try.prog 59 #[st10 v1 v2 K n g c h, .int .i64 (old : Int)] w fun e w' => ∃ u1, e = .returned (.tuple #[st10 u1 v2 (takeK (T1of T old) K) n g c h, .int .i64 (takeB (T1of T old) K)]) ∧
      RefT A w' u1 v2 (takeT (T1of T old) K) ∧ Chg [] w w' := by
  have HH := Lib.hid H
  obtain ⟨g1, c1, e1, _⟩ := H.now
  obtain ⟨g2, c2, e2, _⟩ := H.kept
  subst e1 e2
  have hX := new_block21 w (stObj (.slice (some ⟨g1, 0, none⟩) T.n c1) (.slice (some ⟨g2, 0, none⟩) T.n c2) K n g c h) (.cells #[.slice none 0 0, .slice none 0 0, .int .i64 0, .int .i64 0, .int .i64 0, .slice none 0 0, .slice none 0 0, .slice none 0 0, .slice none 0 0] 57)
  have hR := new_block2 w (stObj (.slice (some ⟨g1, 0, none⟩) T.n c1) (.slice (some ⟨g2, 0, none⟩) T.n c2) K n g c h) (.cells #[.slice none 0 0, .slice none 0 0, .int .i64 0, .int .i64 0, .int .i64 0, .slice none 0 0, .slice none 0 0, .slice none 0 0, .slice none 0 0] 57)
  have hC := ((Chg.refl [] w).alloc (stObj (.slice (some ⟨g1, 0, none⟩) T.n c1) (.slice (some ⟨g2, 0, none⟩) T.n c2) K n g c h)).alloc (.cells #[.slice none 0 0, .slice none 0 0, .int .i64 0, .int .i64 0, .int .i64 0, .slice none 0 0, .slice none 0 0, .slice none 0 0, .slice none 0 0] 57)
  unfold st10
  unfold stObj at hX hR hC
  clear H
  by_cases h0 : old = 0
  · subst h0
    have eT : T1of T 0 = T := rfl
    rw [eT]
    clear eT
    go_enter Try.func59, Try.ntmps59
    go_wp2_with fail
    generalize (w.alloc _).alloc _ = w1 at *
    have HC := Lib.hid hC
    have HX := Lib.hid hX
    have HR := Lib.hid hR
    have lx := heap_lt hX
    have hsz : w.heap.size + 1 < w1.heap.size := heap_lt hR
    clear hX hR hC
    have HX1 := HX
    have HR1 := HR
    have HC1 := HC
    have lx2 := lx
    have hsz2 := hsz
    have HA2 : Hid (∀ k, k ∈ A ++ [w.heap.size, w.heap.size + 1] → k < w1.heap.size) := Lib.hid (fun k hk => by
      rcases List.mem_append.1 hk with h | h
      · exact Nat.lt_of_lt_of_le (hA k h) HC.out.size
      · simp at h; omega)
    have HM := Lib.hid ((HH.out.more (B := A ++ [w.heap.size, w.heap.size + 1]) (fun k hk => by
      rcases List.mem_append.1 hk with h | h
      · exact .inl h
      · simp at h; right; omega)).chg HC.out (by simp))
    refine (r9take_at HM.out HA2.out hf hn).mono ?_
    rintro e w2 ⟨u1, rfl, hT2, hC2⟩
    unfold pv
    obtain ⟨g3, c3, e3, hrest⟩ := hT2.now
    subst e3
    have HT2 := Lib.hid hT2
    have hx := (hC2.block _ lx2 (by simp)).trans HX1.out
    have HX2 := Lib.hid hx
    have HR2 := Lib.hid ((hC2.block _ hsz2 (by simp)).trans HR1.out)
    have HC2 := Lib.hid (HC1.out.trans hC2)
    have x0 := cell_of_block hx 0
    have x1 := cell_of_block hx 1
    have x2 := cell_of_block hx 2
    have x3 := cell_of_block hx 3
    have x4 := cell_of_block hx 4
    have x5 := cell_of_block hx 5
    have x6 := cell_of_block hx 6
    have x7 := cell_of_block hx 7
    have x8 := cell_of_block hx 8
    simp only [List.getElem?_toArray, List.getElem?_cons_zero, List.getElem?_cons_succ] at x0 x1 x2 x3 x4 x5 x6 x7 x8
    have f0 := frozen_of_block hx 0
    have f1 := frozen_of_block hx 1
    have f2 := frozen_of_block hx 2
    have f3 := frozen_of_block hx 3
    have f4 := frozen_of_block hx 4
    clear hx hT2 hC2 hrest
    go_upto_region 5 with fail
    have hs := sto5of9 HX2.out (.slice (some ⟨g3, 0, none⟩) (takeT (T) K).n c3) (.slice (some ⟨g2, 0, none⟩) T.n c2) (.int .i64 ((takeK (T) K).first : Int)) (.int .i64 ((takeK (T) K).next : Int)) (.int .i64 ((takeK (T) K).asked : Int))
    clear x0 x1 x2 x3 x4 x5 x6 x7 x8 f0 f1 f2 f3 f4
    generalize ((((w2.setCell _ _).setCell _ _).setCell _ _).setCell _ _).setCell _ _ = w3 at *
    have hsx := hs.1
    have x0 := cell_of_block hsx 0
    have x1 := cell_of_block hsx 1
    have x2 := cell_of_block hsx 2
    have x3 := cell_of_block hsx 3
    have x4 := cell_of_block hsx 4
    have x5 := cell_of_block hsx 5
    have x6 := cell_of_block hsx 6
    have x7 := cell_of_block hsx 7
    have x8 := cell_of_block hsx 8
    simp only [List.getElem?_toArray, List.getElem?_cons_zero, List.getElem?_cons_succ] at x0 x1 x2 x3 x4 x5 x6 x7 x8
    have hr3 := (hs.2.block (w.heap.size + 1) (heap_lt HR2.out) (by simp)).trans HR2.out
    have r0 := cell_of_block hr3 0
    have r1 := cell_of_block hr3 1
    have r2 := cell_of_block hr3 2
    have r3 := cell_of_block hr3 3
    have r4 := cell_of_block hr3 4
    have r5 := cell_of_block hr3 5
    have r6 := cell_of_block hr3 6
    have r7 := cell_of_block hr3 7
    have r8 := cell_of_block hr3 8
    simp only [List.getElem?_toArray, List.getElem?_cons_zero, List.getElem?_cons_succ] at r0 r1 r2 r3 r4 r5 r6 r7 r8
    have f0 := frozen_of_block hr3 0
    have f1 := frozen_of_block hr3 1
    have f2 := frozen_of_block hr3 2
    have f3 := frozen_of_block hr3 3
    have f4 := frozen_of_block hr3 4
    have f5 := frozen_of_block hr3 5
    have f6 := frozen_of_block hr3 6
    have f7 := frozen_of_block hr3 7
    have f8 := frozen_of_block hr3 8
    have HR3 := Lib.hid hr3
    have HC3 := Lib.hid (HC2.out.then hs.2 (fun i hi => by simp at hi; right; omega))
    have HT3 := Lib.hid (HT2.out.chg hs.2 (fun k hk => .inl (by simp at hk ⊢; right; left; exact hk)))
    clear hs hsx hr3
    go_wp2_with fail
    have h9 := sto9of9 HR3.out (.slice (some ⟨g3, 0, none⟩) (takeT (T) K).n c3) (.slice (some ⟨g2, 0, none⟩) T.n c2) (.int .i64 ((takeK (T) K).first : Int)) (.int .i64 ((takeK (T) K).next : Int)) (.int .i64 ((takeK (T) K).asked : Int)) (.slice (some ⟨g 0, 0, none⟩) (n 0) (c 0)) (.slice (some ⟨g 1, 0, none⟩) (n 1) (c 1)) (.slice (some ⟨h 0, 0, none⟩) (n 0) (n 0)) (.slice (some ⟨h 1, 0, none⟩) (n 1) (n 1))
    have hC9 := HC3.out.then h9.2 (fun i hi => by simp at hi; right; omega)
    have hT9 := (HT3.out.chg h9.2 (fun k hk => .inl (by simp at hk ⊢; right; right; exact hk))).more (B := A) (fun k hk => .inl (List.mem_append.2 (.inl hk)))
    have h9b := h9.1
    clear h9 r0 r1 r2 r3 r4 r5 r6 r7 r8
    generalize ((((((((w3.setCell _ _).setCell _ _).setCell _ _).setCell _ _).setCell _ _).setCell _ _).setCell _ _).setCell _ _).setCell _ _ = W at *
    have k0 := cell_of_block h9b 0
    have k1 := cell_of_block h9b 1
    have k2 := cell_of_block h9b 2
    have k3 := cell_of_block h9b 3
    have k4 := cell_of_block h9b 4
    have k5 := cell_of_block h9b 5
    have k6 := cell_of_block h9b 6
    have k7 := cell_of_block h9b 7
    have k8 := cell_of_block h9b 8
    simp only [List.getElem?_toArray, List.getElem?_cons_zero, List.getElem?_cons_succ] at k0 k1 k2 k3 k4 k5 k6 k7 k8
    refine bodyPost_ret (v := .tuple #[st10 (.slice (some ⟨g3, 0, none⟩) (takeT (T) K).n c3) (.slice (some ⟨g2, 0, none⟩) T.n c2) (takeK (T) K) n g c h, .int .i64 (takeB (T) K)]) (by simp [results, Try.results59, go_sem, st10, k0, k1, k2, k3, k4, k5, k6, k7, k8]) rfl ⟨_, rfl, hT9, hC9⟩
  · have eT : T1of T old = down T (old : Int) := by unfold T1of; rw [if_neg h0]
    rw [eT]
    clear eT
    have h0' : ¬ (old : Int) = 0 := by omega
    have h0b : ((old : Int) != 0) = true := by simp; exact h0
    go_enter Try.func59, Try.ntmps59
    go_wp2_with fail
    generalize (w.alloc _).alloc _ = w1 at *
    have HC := Lib.hid hC
    have HX := Lib.hid hX
    have HR := Lib.hid hR
    have lx := heap_lt hX
    have hsz : w.heap.size + 1 < w1.heap.size := heap_lt hR
    clear hX hR hC
    have HA2 : Hid (∀ k, k ∈ A ++ [w.heap.size, w.heap.size + 1] → k < w1.heap.size) := Lib.hid (fun k hk => by
      rcases List.mem_append.1 hk with h | h
      · exact Nat.lt_of_lt_of_le (hA k h) HC.out.size
      · simp at h; omega)
    have HM := Lib.hid ((HH.out.more (B := A ++ [w.heap.size, w.heap.size + 1]) (fun k hk => by
      rcases List.mem_append.1 hk with h | h
      · exact .inl h
      · simp at h; right; omega)).chg HC.out (by simp))
    refine (r8down HM.out HA2.out (old : Int)).mono ?_
    rintro e w4 ⟨u0, rfl, hT4, hC4⟩
    have hx4 := (hC4.block _ lx (by simp)).trans HX.out
    have HX4 := Lib.hid hx4
    have HR4 := Lib.hid ((hC4.block _ hsz (by simp)).trans HR.out)
    have HC4 := Lib.hid (HC.out.trans hC4)
    have HT4 := Lib.hid hT4
    obtain ⟨g4, c4, e4, hrest4⟩ := hT4.now
    subst e4
    have x0 := cell_of_block hx4 0
    have x1 := cell_of_block hx4 1
    have x2 := cell_of_block hx4 2
    have x3 := cell_of_block hx4 3
    have x4 := cell_of_block hx4 4
    have x5 := cell_of_block hx4 5
    have x6 := cell_of_block hx4 6
    have x7 := cell_of_block hx4 7
    have x8 := cell_of_block hx4 8
    simp only [List.getElem?_toArray, List.getElem?_cons_zero, List.getElem?_cons_succ] at x0 x1 x2 x3 x4 x5 x6 x7 x8
    have f0 := frozen_of_block hx4 0
    have f1 := frozen_of_block hx4 1
    have s4 := hC4.size
    clear hx4 hT4 hC4 hrest4
    go_upto_region 4 with fail
    have hs := sto2of9 HX4.out (.slice (some ⟨g4, 0, none⟩) (down T (old : Int)).n c4) (.slice (some ⟨g2, 0, none⟩) T.n c2)
    clear x0 x1 x2 x3 x4 x5 x6 x7 x8 f0 f1
    generalize (w4.setCell _ _).setCell _ _ = w5 at *
    have hsx := hs.1
    have x0 := cell_of_block hsx 0
    have x1 := cell_of_block hsx 1
    have x2 := cell_of_block hsx 2
    have x3 := cell_of_block hsx 3
    have x4 := cell_of_block hsx 4
    have x5 := cell_of_block hsx 5
    have x6 := cell_of_block hsx 6
    have x7 := cell_of_block hsx 7
    have x8 := cell_of_block hsx 8
    simp only [List.getElem?_toArray, List.getElem?_cons_zero, List.getElem?_cons_succ] at x0 x1 x2 x3 x4 x5 x6 x7 x8
    have HX1 := Lib.hid hsx
    have HR1 := Lib.hid ((hs.2.block (w.heap.size + 1) (heap_lt HR4.out) (by simp)).trans HR4.out)
    have HC1 := Lib.hid (HC4.out.then hs.2 (fun i hi => by simp at hi; right; omega))
    have HT5 := Lib.hid (HT4.out.chg hs.2 (fun k hk => .inl (by simp at hk ⊢; right; left; exact hk)))
    have HA5 : Hid (∀ k, k ∈ A ++ [w.heap.size, w.heap.size + 1] → k < w5.heap.size) := Lib.hid (fun k hk => by have := HA2.out k hk; have := hs.2.size; omega)
    have lx2 := heap_lt hsx
    have hsz2 := heap_lt HR1.out
    clear hs hsx
    go_wp2_with fail
    refine (r9take_at HT5.out HA5.out hf (by rw [down_n]; exact hn)).mono ?_
    rintro e w2 ⟨u1, rfl, hT2, hC2⟩
    clear x0 x1 x2 x3 x4 x5 x6 x7 x8
    unfold pv
    obtain ⟨g3, c3, e3, hrest⟩ := hT2.now
    subst e3
    have HT2 := Lib.hid hT2
    have hx := (hC2.block _ lx2 (by simp)).trans HX1.out
    have HX2 := Lib.hid hx
    have HR2 := Lib.hid ((hC2.block _ hsz2 (by simp)).trans HR1.out)
    have HC2 := Lib.hid (HC1.out.trans hC2)
    have x0 := cell_of_block hx 0
    have x1 := cell_of_block hx 1
    have x2 := cell_of_block hx 2
    have x3 := cell_of_block hx 3
    have x4 := cell_of_block hx 4
    have x5 := cell_of_block hx 5
    have x6 := cell_of_block hx 6
    have x7 := cell_of_block hx 7
    have x8 := cell_of_block hx 8
    simp only [List.getElem?_toArray, List.getElem?_cons_zero, List.getElem?_cons_succ] at x0 x1 x2 x3 x4 x5 x6 x7 x8
    have f0 := frozen_of_block hx 0
    have f1 := frozen_of_block hx 1
    have f2 := frozen_of_block hx 2
    have f3 := frozen_of_block hx 3
    have f4 := frozen_of_block hx 4
    clear hx hT2 hC2 hrest
    go_upto_region 5 with fail
    have hs := sto5of9 HX2.out (.slice (some ⟨g3, 0, none⟩) (takeT (down T (old : Int)) K).n c3) (.slice (some ⟨g2, 0, none⟩) T.n c2) (.int .i64 ((takeK (down T (old : Int)) K).first : Int)) (.int .i64 ((takeK (down T (old : Int)) K).next : Int)) (.int .i64 ((takeK (down T (old : Int)) K).asked : Int))
    clear x0 x1 x2 x3 x4 x5 x6 x7 x8 f0 f1 f2 f3 f4
    generalize ((((w2.setCell _ _).setCell _ _).setCell _ _).setCell _ _).setCell _ _ = w3 at *
    have hsx := hs.1
    have x0 := cell_of_block hsx 0
    have x1 := cell_of_block hsx 1
    have x2 := cell_of_block hsx 2
    have x3 := cell_of_block hsx 3
    have x4 := cell_of_block hsx 4
    have x5 := cell_of_block hsx 5
    have x6 := cell_of_block hsx 6
    have x7 := cell_of_block hsx 7
    have x8 := cell_of_block hsx 8
    simp only [List.getElem?_toArray, List.getElem?_cons_zero, List.getElem?_cons_succ] at x0 x1 x2 x3 x4 x5 x6 x7 x8
    have hr3 := (hs.2.block (w.heap.size + 1) (heap_lt HR2.out) (by simp)).trans HR2.out
    have r0 := cell_of_block hr3 0
    have r1 := cell_of_block hr3 1
    have r2 := cell_of_block hr3 2
    have r3 := cell_of_block hr3 3
    have r4 := cell_of_block hr3 4
    have r5 := cell_of_block hr3 5
    have r6 := cell_of_block hr3 6
    have r7 := cell_of_block hr3 7
    have r8 := cell_of_block hr3 8
    simp only [List.getElem?_toArray, List.getElem?_cons_zero, List.getElem?_cons_succ] at r0 r1 r2 r3 r4 r5 r6 r7 r8
    have f0 := frozen_of_block hr3 0
    have f1 := frozen_of_block hr3 1
    have f2 := frozen_of_block hr3 2
    have f3 := frozen_of_block hr3 3
    have f4 := frozen_of_block hr3 4
    have f5 := frozen_of_block hr3 5
    have f6 := frozen_of_block hr3 6
    have f7 := frozen_of_block hr3 7
    have f8 := frozen_of_block hr3 8
    have HR3 := Lib.hid hr3
    have HC3 := Lib.hid (HC2.out.then hs.2 (fun i hi => by simp at hi; right; omega))
    have HT3 := Lib.hid (HT2.out.chg hs.2 (fun k hk => .inl (by simp at hk ⊢; right; left; exact hk)))
    clear hs hsx hr3
    go_wp2_with fail
    have h9 := sto9of9 HR3.out (.slice (some ⟨g3, 0, none⟩) (takeT (down T (old : Int)) K).n c3) (.slice (some ⟨g2, 0, none⟩) T.n c2) (.int .i64 ((takeK (down T (old : Int)) K).first : Int)) (.int .i64 ((takeK (down T (old : Int)) K).next : Int)) (.int .i64 ((takeK (down T (old : Int)) K).asked : Int)) (.slice (some ⟨g 0, 0, none⟩) (n 0) (c 0)) (.slice (some ⟨g 1, 0, none⟩) (n 1) (c 1)) (.slice (some ⟨h 0, 0, none⟩) (n 0) (n 0)) (.slice (some ⟨h 1, 0, none⟩) (n 1) (n 1))
    have hC9 := HC3.out.then h9.2 (fun i hi => by simp at hi; right; omega)
    have hT9 := (HT3.out.chg h9.2 (fun k hk => .inl (by simp at hk ⊢; right; right; exact hk))).more (B := A) (fun k hk => .inl (List.mem_append.2 (.inl hk)))
    have h9b := h9.1
    clear h9 r0 r1 r2 r3 r4 r5 r6 r7 r8
    generalize ((((((((w3.setCell _ _).setCell _ _).setCell _ _).setCell _ _).setCell _ _).setCell _ _).setCell _ _).setCell _ _).setCell _ _ = W at *
    have k0 := cell_of_block h9b 0
    have k1 := cell_of_block h9b 1
    have k2 := cell_of_block h9b 2
    have k3 := cell_of_block h9b 3
    have k4 := cell_of_block h9b 4
    have k5 := cell_of_block h9b 5
    have k6 := cell_of_block h9b 6
    have k7 := cell_of_block h9b 7
    have k8 := cell_of_block h9b 8
    simp only [List.getElem?_toArray, List.getElem?_cons_zero, List.getElem?_cons_succ] at k0 k1 k2 k3 k4 k5 k6 k7 k8
    refine bodyPost_ret (v := .tuple #[st10 (.slice (some ⟨g3, 0, none⟩) (takeT (down T (old : Int)) K).n c3) (.slice (some ⟨g2, 0, none⟩) T.n c2) (takeK (down T (old : Int)) K) n g c h, .int .i64 (takeB (down T (old : Int)) K)]) (by simp [results, Try.results59, go_sem, st10, k0, k1, k2, k3, k4, k5, k6, k7, k8]) rfl ⟨_, rfl, hT9, hC9⟩

end Go.Proofs.Ytnhabpbdpjgiiaa
