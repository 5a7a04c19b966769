/- The reference of layer 10: a step. (Printed by mkr10d.py.) -/
import Derived.Test.YtnhabpbdpjgiiaaR10C
import Derived.Deep.LoopGhost
namespace Go.Proofs.Ytnhabpbdpjgiiaa
open Go.RowKit
set_option linter.unusedVariables false
set_option linter.unusedSimpArgs false

theorem RefS.put {A : List Nat} {w W : World} {v1 v2 u1 : Value} {g c h : Nat → Nat} {S : PS} {k i : Nat} (H : RefS A w v1 v2 g c h S) (hk : k < 2) (hi : i < S.n k) (C : Chg [] w W) {T' : Tal} {K' : Pk} (hT : RefT A W u1 v2 T') (hn : T'.n = S.T.n)
    (hf : K'.first ≤ K'.next) (hx : K'.next ≤ T'.n) (v : Nat) :
    RefS A ((W.setCell ⟨g k, i, none⟩ (.int .i64 (v : Int))).setCell ⟨h k, i, none⟩ (.bool true)) u1 v2 g c h ⟨T', K', S.n, upd2 S.a k i v, upd2 S.p k i true⟩ ∧
      Chg [g 0, g 1, h 0, h 1] w ((W.setCell ⟨g k, i, none⟩ (.int .i64 (v : Int))).setCell ⟨h k, i, none⟩ (.bool true)) := by
  have hnd := H.nd
  simp only [List.nodup_cons, List.mem_cons, List.not_mem_nil, or_false, not_or, List.nodup_nil, and_true] at hnd
  obtain ⟨⟨a1, a2, a3⟩, ⟨b2, b3⟩, c3, _⟩ := hnd
  have hk2 : k = 0 ∨ k = 1 := by omega
  have oc : ∀ (j : Nat) (u : Value) (b : Nat) (W : World), b ≠ j → ∀ q, (W.setCell ⟨j, q, none⟩ u).heap[b]? = W.heap[b]? := fun j u b W hb q => setCell_other q u hb
  have CC : Chg [g k, h k] W ((W.setCell ⟨g k, i, none⟩ (.int .i64 (v : Int))).setCell ⟨h k, i, none⟩ (.bool true)) := ((Chg.refl _ _).setCell (.inl (by simp)) _).setCell (.inl (by simp)) _
  have mk : ∀ b, b ∈ [g k, h k] → b ∈ [g 0, g 1, h 0, h 1] := by
    rcases hk2 with rfl | rfl <;> intro b hb <;> simp at hb <;> rcases hb with rfl | rfl <;> simp
  refine ⟨⟨hT.chg CC (fun b hb => .inl (H.own b (mk b hb))), ?_, ?_, H.nd, H.own, by rw [hn]; exact H.n0, by rw [hn]; exact H.n1, hf, hx⟩, (C.mono (by simp)).trans (CC.mono mk)⟩
  · intro k' hk'
    obtain ⟨cur, q1, q2, q3, q4, q5⟩ := H.ats k' hk'
    have q1' := (C.block (g k') (heap_lt q1) (by simp)).trans q1
    have hgh : g k' ≠ h k := by
      have hk2' : k' = 0 ∨ k' = 1 := by omega
      rcases hk2 with rfl | rfl <;> rcases hk2' with rfl | rfl <;> assumption
    by_cases e : k' = k
    · subst e
      refine ⟨cur.setIfInBounds i (.int .i64 (v : Int)), by rw [oc _ _ _ _ hgh, setCell_block q1'], by simp [q2], q3, q4, fun j hj => ?_⟩
      rw [Array.getElem?_setIfInBounds]
      by_cases ej : i = j
      · subst ej
        rw [if_pos rfl, if_pos (by rw [q2]; omega)]
        simp [upd2]
      · rw [if_neg ej, q5 j hj]
        simp [upd2, Ne.symm ej]
    · have hgg : g k' ≠ g k := by
        have hk2' : k' = 0 ∨ k' = 1 := by omega
        rcases hk2 with rfl | rfl <;> rcases hk2' with rfl | rfl <;> first | exact absurd rfl e | exact a1 | exact Ne.symm a1
      refine ⟨cur, by rw [oc _ _ _ _ hgh, oc _ _ _ _ hgg, q1'], q2, q3, q4, fun j hj => ?_⟩
      rw [q5 j hj]
      simp [upd2, e]
  · intro k' hk'
    have q1 := H.pls k' hk'
    have q1' := (C.block (h k') (heap_lt q1) (by simp)).trans q1
    have hgh : h k' ≠ g k := by
      have hk2' : k' = 0 ∨ k' = 1 := by omega
      rcases hk2 with rfl | rfl <;> rcases hk2' with rfl | rfl <;> first | exact Ne.symm a2 | exact Ne.symm a3 | exact Ne.symm b2 | exact Ne.symm b3
    have q1'' : (W.setCell ⟨g k, i, none⟩ (.int .i64 (v : Int))).heap[h k']? = _ := (oc _ _ _ _ hgh _).trans q1'
    by_cases e : k' = k
    · subst e
      show (World.setCell _ ⟨h k', i, none⟩ _).heap[h k']? = some (.cells (bools (S.n k') (upd2 S.p k' i true k')) 4 (0, 0))
      rw [setCell_block q1'', bools_set hi]
      congr 2
      congr 1
      funext j
      simp [upd2]
    · have hhh : h k' ≠ h k := by
        have hk2' : k' = 0 ∨ k' = 1 := by omega
        rcases hk2 with rfl | rfl <;> rcases hk2' with rfl | rfl <;> first | exact absurd rfl e | exact c3 | exact Ne.symm c3
      show (World.setCell _ ⟨h k, i, none⟩ _).heap[h k']? = some (.cells (bools (S.n k') (upd2 S.p k i true k')) 4 (0, 0))
      rw [oc _ _ _ _ hhh, q1'']
      congr 2
      congr 1
      funext j
      simp [upd2, e]

/-- What a step answers. -/
def StepR (A : List Nat) (w : World) (v1 v2 : Value) (g c h : Nat → Nat) (S : PS) (e : Ending) (w' : World) : Prop :=
  match S.next with
  | none => e = .returned (.tuple #[st10 v1 v2 S.K S.n g c h, .bool false]) ∧ Chg [] w w'
  | some (k, i) => ∃ u1, e = .returned (.tuple #[st10 u1 v2 (S.step k i).K S.n g c h, .bool true]) ∧ RefS A w' u1 v2 g c h (S.step k i) ∧ Chg [g 0, g 1, h 0, h 1] w w'
theorem stepR_some {A : List Nat} {w : World} {v1 v2 : Value} {g c h : Nat → Nat} {S : PS} {k i : Nat} (hx : S.next = some (k, i)) {e : Ending} {w' : World} (H : ∃ u1, e = .returned (.tuple #[st10 u1 v2 (S.step k i).K S.n g c h, .bool true]) ∧ RefS A w' u1 v2 g c h (S.step k i) ∧ Chg [g 0, g 1, h 0, h 1] w w') : StepR A w v1 v2 g c h S e w' := by
  unfold StepR; rw [hx]; exact H
theorem stepR_none {A : List Nat} {w : World} {v1 v2 : Value} {g c h : Nat → Nat} {S : PS} (hx : S.next = none) {e : Ending} {w' : World} (H : e = .returned (.tuple #[st10 v1 v2 S.K S.n g c h, .bool false]) ∧ Chg [] w w') : StepR A w v1 v2 g c h S e w' := by
  unfold StepR; rw [hx]; exact H
theorem T1of_eq (S : PS) (k i : Nat) : T1of S.T (S.a k i) = S.T1 k i := rfl

set_option maxRecDepth 20000 in
set_option maxHeartbeats 8000000 in
theorem r10step_at {A0 : List Nat} {w : World} {v1 v2 : Value} {g c h : Nat → Nat} {S : PS} (H0 : RefS A0 w v1 v2 g c h S) (hA0 : ∀ k, k ∈ A0 → k < w.heap.size) :
    Calls Try.prog 46 #[st10 v1 v2 S.K S.n g c h] w (StepR A0 w v1 v2 g c h S) := by
  have H : RefS (A0 ++ [w.heap.size, w.heap.size + 1]) w v1 v2 g c h S := { H0 with t := H0.t.more (B := A0 ++ [w.heap.size, w.heap.size + 1]) (fun k hk => by rcases List.mem_append.1 hk with q | q; exact .inl q; simp at q; right; omega), own := fun b hb => List.mem_append.2 (.inl (H0.own b hb)) }
  have HIN := Lib.hid (show w.heap.size + 1 ∈ A0 ++ [w.heap.size, w.heap.size + 1] by simp)
  have HSB := Lib.hid (show ∀ k, k ∈ A0 → k ∈ A0 ++ [w.heap.size, w.heap.size + 1] from fun k hk => List.mem_append.2 (.inl hk))
  have HOW := Lib.hid (show ∀ b, b ∈ [g 0, g 1, h 0, h 1] → b < w.heap.size from fun b hb => hA0 b (H0.own b hb))
  have HOA := Lib.hid H0.own
  have hA : ∀ k, k ∈ A0 ++ [w.heap.size, w.heap.size + 1] → k < w.heap.size + 2 := fun k hk => by
    rcases List.mem_append.1 hk with q | q
    · have := hA0 k q; omega
    · simp at q; omega
  clear H0 hA0
  generalize A0 ++ [w.heap.size, w.heap.size + 1] = A at *
  have HH := Lib.hid H
  obtain ⟨g1, c1, e1, _⟩ := H.t.now
  obtain ⟨g2, c2, e2, _⟩ := H.t.kept
  subst e1 e2
  have hX := new_block21 w (stObj (.slice (some ⟨g1, 0, none⟩) S.T.n c1) (.slice (some ⟨g2, 0, none⟩) S.T.n c2) S.K S.n g c h) (.cells #[.slice none 0 0, .slice none 0 0, .int .i64 0, .int .i64 0, .int .i64 0, .slice none 0 0, .slice none 0 0, .slice none 0 0, .slice none 0 0] 57)
  have hR := new_block2 w (stObj (.slice (some ⟨g1, 0, none⟩) S.T.n c1) (.slice (some ⟨g2, 0, none⟩) S.T.n c2) S.K S.n g c h) (.cells #[.slice none 0 0, .slice none 0 0, .int .i64 0, .int .i64 0, .int .i64 0, .slice none 0 0, .slice none 0 0, .slice none 0 0, .slice none 0 0] 57)
  have hC := ((Chg.refl [] w).alloc (stObj (.slice (some ⟨g1, 0, none⟩) S.T.n c1) (.slice (some ⟨g2, 0, none⟩) S.T.n c2) S.K S.n g c h)).alloc (.cells #[.slice none 0 0, .slice none 0 0, .int .i64 0, .int .i64 0, .int .i64 0, .slice none 0 0, .slice none 0 0, .slice none 0 0, .slice none 0 0] 57)
  unfold st10
  unfold stObj at hX hR hC
  have n0 := H.nle (k := 0) (by omega)
  have n1 := H.nle (k := 1) (by omega)
  obtain ⟨_, _, _, cp0, _⟩ := H.ats 0 (by omega)
  obtain ⟨_, _, _, cp1, _⟩ := H.ats 1 (by omega)
  have HN100 := Lib.hid (show S.n 0 ≤ 100 ∧ S.n 1 ≤ 100 by
    have h1 := H.t.n2
    rw [H.n0, H.n1]
    unfold pg
    omega)
  clear H
  go_enter Try.func46, Try.ntmps46
  go_wp2_with fail
  generalize (w.alloc _).alloc _ = w1 at *
  have HC := Lib.hid hC
  have HX := Lib.hid hX
  have HR := Lib.hid hR
  have lx := heap_lt hX
  have hsz : w.heap.size + 1 < w1.heap.size := heap_lt hR
  clear hX hR hC
  go_loopw [4] (fun s wr => ∃ i : Nat, i ≤ S.n 0 ∧ s = .int .i64 (i : Int) ∧ Hid (firstFree (S.want 0) 0 (S.n 0) = firstFree (S.want 0) i (S.n 0 - i) ∧ Chg [] w1 wr)) (fun s _ => S.n 0 - (intOf s).toNat)
  case atStart => exact ⟨0, Nat.zero_le _, rfl, ⟨by rw [Nat.sub_zero], Chg.refl _ _⟩⟩
  case round =>
    obtain ⟨i, hi, rfl, hM⟩ := hrel
    have hxr := (hM.out.2.block _ lx (by simp)).trans HX.out
    have x0 := cell_of_block hxr 0
    have x1 := cell_of_block hxr 1
    have x2 := cell_of_block hxr 2
    have x3 := cell_of_block hxr 3
    have x4 := cell_of_block hxr 4
    have x5 := cell_of_block hxr 5
    have x6 := cell_of_block hxr 6
    have x7 := cell_of_block hxr 7
    have x8 := cell_of_block hxr 8
    simp only [List.getElem?_toArray, List.getElem?_cons_zero, List.getElem?_cons_succ] at x0 x1 x2 x3 x4 x5 x6 x7 x8
    have lxr := heap_lt hxr
    have HXR := Lib.hid hxr
    have HS := Lib.hid ((HH.out.chg HC.out (by simp) (by simp)).chg hM.out.2 (by simp) (by simp))
    have HAR : Hid (∀ k, k ∈ A → k < wr.heap.size) := Lib.hid (fun k hk => by have := hA k hk; have := hM.out.2.size; omega)
    clear hxr
    by_cases hlt : i < S.n 0
    · have i1 : (i : Int) < (S.n 0 : Int) := by omega
      have lgr : g 0 < wr.heap.size := by obtain ⟨cur, q1, _⟩ := HS.out.ats 0 (by omega); exact heap_lt q1
      have ac : wr.cell? ⟨g 0, i, none⟩ = some (.int .i64 (S.a 0 i : Int)) := by
        obtain ⟨cur, q1, q2, q3, q4, q5⟩ := HS.out.ats 0 (by omega)
        rw [cell_of_block q1]; exact q5 i hlt
      have pc : wr.cell? ⟨h 0, i, none⟩ = some (.bool (S.p 0 i)) := by rw [cell_of_block (HS.out.pls 0 (by omega))]; exact bools_get hlt
      cases hpp : S.p 0 i with
      | true =>
        rw [hpp] at pc
        have HZ := Lib.hid (hM.out.1.trans (firstFree_on hlt (by unfold PS.want; simp [hpp])))
        go_wp2_with fail
        go_roundw
        case rel => exact ⟨i + 1, by omega, by go_num, ⟨HZ.out, hM.out.2⟩⟩
        case measure => simp [intOf]; omega
      | false =>
        rw [hpp] at pc
        by_cases ha : S.a 0 i = 0
        · have HNX := Lib.hid (next_hit (S := S) (j := 0) (by omega) (by intro j hj; omega) (hM.out.1.trans (firstFree_hit hlt (show S.want 0 i = true by unfold PS.want; simp [hpp, ha]))))
          have ha0 : ((S.a 0 i : Int) == 0) = true := by simp [ha]
          clear ha
          have HCW := Lib.hid (HC.out.trans hM.out.2)
          have HRW := Lib.hid ((hM.out.2.block _ (heap_lt HR.out) (by simp)).trans HR.out)
          go_upto_region 5 with fail
          have HD0 := Lib.hid ((Chg.refl [] wr).drew)
          refine wp_region_held_drew (S := fun W' => W'.cell? ⟨w.heap.size, 0, none⟩ = some (.slice (some ⟨g1, 0, none⟩) S.T.n c1) ∧ W'.cell? ⟨w.heap.size, 1, none⟩ = some (.slice (some ⟨g2, 0, none⟩) S.T.n c2) ∧ W'.cell? ⟨w.heap.size, 2, none⟩ = some (.int .i64 (S.K.first : Int)) ∧ W'.cell? ⟨w.heap.size, 3, none⟩ = some (.int .i64 (S.K.next : Int)) ∧ W'.cell? ⟨w.heap.size, 4, none⟩ = some (.int .i64 (S.K.asked : Int)) ∧ W'.cell? ⟨w.heap.size, 5, none⟩ = some (.slice (some ⟨g 0, 0, none⟩) (S.n 0) (c 0)) ∧ W'.cell? ⟨w.heap.size, 6, none⟩ = some (.slice (some ⟨g 1, 0, none⟩) (S.n 1) (c 1)) ∧ W'.cell? ⟨w.heap.size, 7, none⟩ = some (.slice (some ⟨h 0, 0, none⟩) (S.n 0) (S.n 0)) ∧ W'.cell? ⟨w.heap.size, 8, none⟩ = some (.slice (some ⟨h 1, 0, none⟩) (S.n 1) (S.n 1)) ∧ W'.cell? ⟨g 0, i, none⟩ = some (.int .i64 (S.a 0 i : Int))) (by kernel_rfl) (by exact ⟨x0, x1, x2, x3, x4, x5, x6, x7, x8, ac⟩) (fun hHeld => ?_)
          refine wpAnyH_take (i := 0) (oi := ?_) (v := ?_) ?_ (by kernel_rfl) (by kernel_rfl) (by kernel_rfl) ?_ (Or.inl ⟨?_, ?_⟩) hHeld ?_
          rotate_left 2
          · (simp only [List.getElem?_toArray, List.getElem?_cons_succ, List.getElem?_cons_zero]; rfl)
          · exact fun _ _ _ h => h
          · rfl
          · (rintro W' ⟨s0, s1, s2, s3, s4, s5, s6, s7, s8, s9⟩; go_simp; first | done | with_reducible rfl)
          try simp only [Act.put, List.setIfInBounds_toArray, List.set_cons_zero, List.set_cons_succ]
          refine wpAnyH_take (i := 1) (oi := ?_) (v := ?_) ?_ (by kernel_rfl) (by kernel_rfl) (by kernel_rfl) ?_ (Or.inl ⟨?_, ?_⟩) hHeld ?_
          rotate_left 2
          · (simp only [List.getElem?_toArray, List.getElem?_cons_succ, List.getElem?_cons_zero]; rfl)
          · exact fun _ _ _ h => h
          · rfl
          · (rintro W' ⟨s0, s1, s2, s3, s4, s5, s6, s7, s8, s9⟩; go_simp; first | done | with_reducible rfl)
          try simp only [Act.put, List.setIfInBounds_toArray, List.set_cons_zero, List.set_cons_succ]
          refine wpAnyH_take (i := 2) (oi := ?_) (v := ?_) ?_ (by kernel_rfl) (by kernel_rfl) (by kernel_rfl) ?_ (Or.inl ⟨?_, ?_⟩) hHeld ?_
          rotate_left 2
          · (simp only [List.getElem?_toArray, List.getElem?_cons_succ, List.getElem?_cons_zero]; rfl)
          · exact fun _ _ _ h => h
          · rfl
          · (rintro W' ⟨s0, s1, s2, s3, s4, s5, s6, s7, s8, s9⟩; go_simp; first | done | with_reducible rfl)
          try simp only [Act.put, List.setIfInBounds_toArray, List.set_cons_zero, List.set_cons_succ]
          refine wpAnyH_take (i := 3) (oi := ?_) (v := ?_) ?_ (by kernel_rfl) (by kernel_rfl) (by kernel_rfl) ?_ (Or.inl ⟨?_, ?_⟩) hHeld ?_
          rotate_left 2
          · (simp only [List.getElem?_toArray, List.getElem?_cons_succ, List.getElem?_cons_zero]; rfl)
          · exact fun _ _ _ h => h
          · rfl
          · (rintro W' ⟨s0, s1, s2, s3, s4, s5, s6, s7, s8, s9⟩; go_simp; first | done | with_reducible rfl)
          try simp only [Act.put, List.setIfInBounds_toArray, List.set_cons_zero, List.set_cons_succ]
          refine wpAnyH_take (i := 4) (oi := ?_) (v := ?_) ?_ (by kernel_rfl) (by kernel_rfl) (by kernel_rfl) ?_ (Or.inl ⟨?_, ?_⟩) hHeld ?_
          rotate_left 2
          · (simp only [List.getElem?_toArray, List.getElem?_cons_succ, List.getElem?_cons_zero]; rfl)
          · exact fun _ _ _ h => h
          · rfl
          · (rintro W' ⟨s0, s1, s2, s3, s4, s5, s6, s7, s8, s9⟩; go_simp; first | done | with_reducible rfl)
          try simp only [Act.put, List.setIfInBounds_toArray, List.set_cons_zero, List.set_cons_succ]
          refine wpAnyH_take (i := 5) (oi := ?_) (v := ?_) ?_ (by kernel_rfl) (by kernel_rfl) (by kernel_rfl) ?_ (Or.inl ⟨?_, ?_⟩) hHeld ?_
          rotate_left 2
          · (simp only [List.getElem?_toArray, List.getElem?_cons_succ, List.getElem?_cons_zero]; rfl)
          · exact fun _ _ _ h => h
          · rfl
          · (rintro W' ⟨s0, s1, s2, s3, s4, s5, s6, s7, s8, s9⟩; go_simp; first | done | with_reducible rfl)
          try simp only [Act.put, List.setIfInBounds_toArray, List.set_cons_zero, List.set_cons_succ]
          refine wpAnyH_take (i := 6) (oi := ?_) (v := ?_) ?_ (by kernel_rfl) (by kernel_rfl) (by kernel_rfl) ?_ (Or.inl ⟨?_, ?_⟩) hHeld ?_
          rotate_left 2
          · (simp only [List.getElem?_toArray, List.getElem?_cons_succ, List.getElem?_cons_zero]; rfl)
          · exact fun _ _ _ h => h
          · rfl
          · (rintro W' ⟨s0, s1, s2, s3, s4, s5, s6, s7, s8, s9⟩; go_simp; first | done | with_reducible rfl)
          try simp only [Act.put, List.setIfInBounds_toArray, List.set_cons_zero, List.set_cons_succ]
          generalize wr.drew = w3 at *
          refine wpAnyH_ready (rs := [7, 11]) (by kernel_rfl) (by simp) ?_
          refine AllReadyH.cons (o := ?_) ?_ (fun K hK => ?_) ?_
          rotate_left 1
          · (simp only [List.getElem?_toArray, List.getElem?_cons_succ, List.getElem?_cons_zero]; rfl)
          · (go_simp; have cM := r10moved_at (n := S.n) (g := g) (c := c) (h := h) (HS.out.t.chg HD0.out (by simp)) (fun k hk => Nat.lt_of_lt_of_le (HAR.out k hk) HD0.out.size) (S.a 0 i) HS.out.f HS.out.nx; unfold st10 at cM; refine cM.mono ?_; clear cM; rintro e w6 ⟨u1, rfl, hT, hD⟩; obtain ⟨g3, c3, e3, _⟩ := hT.now; subst e3; have HT := Lib.hid hT; have HD1 := Lib.hid (HD0.out.trans hD); clear hT hD)
            refine hK.out _ _ ?_ (fun hHeld => ?_)
            · exact ⟨(HD1.out.cell (p := ⟨w.heap.size, 0, none⟩) lxr (by simp)).trans x0, (HD1.out.cell (p := ⟨w.heap.size, 1, none⟩) lxr (by simp)).trans x1, (HD1.out.cell (p := ⟨w.heap.size, 2, none⟩) lxr (by simp)).trans x2, (HD1.out.cell (p := ⟨w.heap.size, 3, none⟩) lxr (by simp)).trans x3, (HD1.out.cell (p := ⟨w.heap.size, 4, none⟩) lxr (by simp)).trans x4, (HD1.out.cell (p := ⟨w.heap.size, 5, none⟩) lxr (by simp)).trans x5, (HD1.out.cell (p := ⟨w.heap.size, 6, none⟩) lxr (by simp)).trans x6, (HD1.out.cell (p := ⟨w.heap.size, 7, none⟩) lxr (by simp)).trans x7, (HD1.out.cell (p := ⟨w.heap.size, 8, none⟩) lxr (by simp)).trans x8, (HD1.out.cell (p := ⟨g 0, i, none⟩) lgr (by simp)).trans ac⟩
            clear hK K
            try simp only [Act.put, List.setIfInBounds_toArray, List.set_cons_zero, List.set_cons_succ]
            refine wpAnyH_take (i := 8) (oi := ?_) (v := ?_) ?_ (by kernel_rfl) (by kernel_rfl) (by kernel_rfl) ?_ (Or.inl ⟨?_, ?_⟩) hHeld ?_
            rotate_left 2
            · (simp only [List.getElem?_toArray, List.getElem?_cons_succ, List.getElem?_cons_zero]; rfl)
            · exact fun _ _ _ h => h
            · rfl
            · (rintro W' ⟨s0, s1, s2, s3, s4, s5, s6, s7, s8, s9⟩; go_simp; first | done | with_reducible rfl)
            try simp only [Act.put, List.setIfInBounds_toArray, List.set_cons_zero, List.set_cons_succ]
            refine wpAnyH_take (i := 9) (oi := ?_) (v := ?_) ?_ (by kernel_rfl) (by kernel_rfl) (by kernel_rfl) ?_ (Or.inl ⟨?_, ?_⟩) hHeld ?_
            rotate_left 2
            · (simp only [List.getElem?_toArray, List.getElem?_cons_succ, List.getElem?_cons_zero]; rfl)
            · exact fun _ _ _ h => h
            · rfl
            · (rintro W' ⟨s0, s1, s2, s3, s4, s5, s6, s7, s8, s9⟩; go_simp; first | done | with_reducible rfl)
            try simp only [Act.put, List.setIfInBounds_toArray, List.set_cons_zero, List.set_cons_succ]
            refine wpAnyH_take (i := 10) (oi := ?_) (v := ?_) ?_ (by kernel_rfl) (by kernel_rfl) (by kernel_rfl) ?_ (Or.inl ⟨?_, ?_⟩) hHeld ?_
            rotate_left 2
            · (simp only [List.getElem?_toArray, List.getElem?_cons_succ, List.getElem?_cons_zero]; rfl)
            · exact fun _ _ _ h => h
            · rfl
            · (rintro W' ⟨s0, s1, s2, s3, s4, s5, s6, s7, s8, s9⟩; go_simp; first | done | with_reducible rfl)
            try simp only [Act.put, List.setIfInBounds_toArray, List.set_cons_zero, List.set_cons_succ]
            refine wpAnyH_ready (rs := [11]) (by kernel_rfl) (by simp) ?_
            refine AllReadyH.cons (o := ?_) ?_ (fun K hK => ?_) AllReadyH.nil
            rotate_left 1
            · (simp only [List.getElem?_toArray, List.getElem?_cons_succ, List.getElem?_cons_zero]; rfl)
            · (go_simp; have FA := Lib.hid (new_block w6 (.cells #[.slice none 0 0, .slice none 0 0, .int .i64 0, .int .i64 0, .int .i64 0, .slice none 0 0, .slice none 0 0, .slice none 0 0, .slice none 0 0] 57)); have HD2 := Lib.hid (HD1.out.alloc (.cells #[.slice none 0 0, .slice none 0 0, .int .i64 0, .int .i64 0, .int .i64 0, .slice none 0 0, .slice none 0 0, .slice none 0 0, .slice none 0 0] 57)); have HE := Lib.hid ((Chg.refl [] w6).alloc (.cells #[.slice none 0 0, .slice none 0 0, .int .i64 0, .int .i64 0, .int .i64 0, .slice none 0 0, .slice none 0 0, .slice none 0 0, .slice none 0 0] 57)); have HRD : Hid (∀ j, j ∈ [w6.heap.size] → j ∈ ([] : List Nat) ∨ wr.heap.size ≤ j) := Lib.hid (fun j hj => by have := HD1.out.size; simp at hj; right; omega); generalize w6.alloc _ = w7 at *)
              refine hK.out _ _ ?_ (fun hHeld => ?_)
              · exact ⟨(HD2.out.cell (p := ⟨w.heap.size, 0, none⟩) lxr (by simp)).trans x0, (HD2.out.cell (p := ⟨w.heap.size, 1, none⟩) lxr (by simp)).trans x1, (HD2.out.cell (p := ⟨w.heap.size, 2, none⟩) lxr (by simp)).trans x2, (HD2.out.cell (p := ⟨w.heap.size, 3, none⟩) lxr (by simp)).trans x3, (HD2.out.cell (p := ⟨w.heap.size, 4, none⟩) lxr (by simp)).trans x4, (HD2.out.cell (p := ⟨w.heap.size, 5, none⟩) lxr (by simp)).trans x5, (HD2.out.cell (p := ⟨w.heap.size, 6, none⟩) lxr (by simp)).trans x6, (HD2.out.cell (p := ⟨w.heap.size, 7, none⟩) lxr (by simp)).trans x7, (HD2.out.cell (p := ⟨w.heap.size, 8, none⟩) lxr (by simp)).trans x8, (HD2.out.cell (p := ⟨g 0, i, none⟩) lgr (by simp)).trans ac⟩
              clear hK K
              try simp only [Act.put, List.setIfInBounds_toArray, List.set_cons_zero, List.set_cons_succ]
              refine wpAnyH_ready (rs := [12]) (by kernel_rfl) (by simp) ?_
              refine AllReadyH.cons (o := ?_) ?_ (fun K hK => ?_) AllReadyH.nil
              rotate_left 1
              · (simp only [List.getElem?_toArray, List.getElem?_cons_succ, List.getElem?_cons_zero]; rfl)
              · (have hr2 := FA.out; have z0 := cell_of_block hr2 0; have z1 := cell_of_block hr2 1; have z2 := cell_of_block hr2 2; have z3 := cell_of_block hr2 3; have z4 := cell_of_block hr2 4; have z5 := cell_of_block hr2 5; have z6 := cell_of_block hr2 6; have z7 := cell_of_block hr2 7; have z8 := cell_of_block hr2 8; have f0 := frozen_of_block hr2 0; have f1 := frozen_of_block hr2 1; have f2 := frozen_of_block hr2 2; have f3 := frozen_of_block hr2 3; have f4 := frozen_of_block hr2 4; have f5 := frozen_of_block hr2 5; have f6 := frozen_of_block hr2 6; have f7 := frozen_of_block hr2 7; have f8 := frozen_of_block hr2 8; simp only [List.getElem?_toArray, List.getElem?_cons_zero, List.getElem?_cons_succ] at z0 z1 z2 z3 z4 z5 z6 z7 z8; clear hr2; go_simp; have h9 := sto9of9 FA.out (.slice (some ⟨g3, 0, none⟩) (takeT (T1of S.T (S.a 0 i)) S.K).n c3) (.slice (some ⟨g2, 0, none⟩) S.T.n c2) (.int .i64 ((takeK (T1of S.T (S.a 0 i)) S.K).first : Int)) (.int .i64 ((takeK (T1of S.T (S.a 0 i)) S.K).next : Int)) (.int .i64 ((takeK (T1of S.T (S.a 0 i)) S.K).asked : Int)) (.slice (some ⟨g 0, 0, none⟩) (S.n 0) (c 0)) (.slice (some ⟨g 1, 0, none⟩) (S.n 1) (c 1)) (.slice (some ⟨h 0, 0, none⟩) (S.n 0) (S.n 0)) (.slice (some ⟨h 1, 0, none⟩) (S.n 1) (S.n 1)); have hRD := HRD.out; have HW := Lib.hid (HD2.out.then h9.2 hRD); have HTW := Lib.hid (HT.out.chg (HE.out.then h9.2 (L := []) (fun j hj => by simp at hj; right; omega)) (by simp)); have HRB := Lib.hid h9.1; clear h9 hRD z0 f0 z1 f1 z2 f2 z3 f3 z4 f4 z5 f5 z6 f6 z7 f7 z8 f8; generalize ((((((((w7.setCell _ _).setCell _ _).setCell _ _).setCell _ _).setCell _ _).setCell _ _).setCell _ _).setCell _ _).setCell _ _ = W at *)
                refine hK.out _ _ ?_ (fun hHeld => ?_)
                · exact ⟨(HW.out.cell (p := ⟨w.heap.size, 0, none⟩) lxr (by simp)).trans x0, (HW.out.cell (p := ⟨w.heap.size, 1, none⟩) lxr (by simp)).trans x1, (HW.out.cell (p := ⟨w.heap.size, 2, none⟩) lxr (by simp)).trans x2, (HW.out.cell (p := ⟨w.heap.size, 3, none⟩) lxr (by simp)).trans x3, (HW.out.cell (p := ⟨w.heap.size, 4, none⟩) lxr (by simp)).trans x4, (HW.out.cell (p := ⟨w.heap.size, 5, none⟩) lxr (by simp)).trans x5, (HW.out.cell (p := ⟨w.heap.size, 6, none⟩) lxr (by simp)).trans x6, (HW.out.cell (p := ⟨w.heap.size, 7, none⟩) lxr (by simp)).trans x7, (HW.out.cell (p := ⟨w.heap.size, 8, none⟩) lxr (by simp)).trans x8, (HW.out.cell (p := ⟨g 0, i, none⟩) lgr (by simp)).trans ac⟩
                clear hK K
                try simp only [Act.put, List.setIfInBounds_toArray, List.set_cons_zero, List.set_cons_succ]
                refine wpAnyH_take (i := 13) (oi := ?_) (v := ?_) ?_ (by kernel_rfl) (by kernel_rfl) (by kernel_rfl) ?_ (Or.inl ⟨?_, ?_⟩) hHeld ?_
                rotate_left 2
                · (simp only [List.getElem?_toArray, List.getElem?_cons_succ, List.getElem?_cons_zero]; rfl)
                · exact fun _ _ _ h => h
                · rfl
                · (rintro W' ⟨s0, s1, s2, s3, s4, s5, s6, s7, s8, s9⟩; go_simp; first | done | with_reducible rfl)
                try simp only [Act.put, List.setIfInBounds_toArray, List.set_cons_zero, List.set_cons_succ]
                refine wpAnyH_done (by kernel_rfl) ?_ _
                have hb := HRB.out
                have y0 := cell_of_block hb 0
                have y1 := cell_of_block hb 1
                have y2 := cell_of_block hb 2
                have y3 := cell_of_block hb 3
                have y4 := cell_of_block hb 4
                have y5 := cell_of_block hb 5
                have y6 := cell_of_block hb 6
                have y7 := cell_of_block hb 7
                have y8 := cell_of_block hb 8
                simp only [List.getElem?_toArray, List.getElem?_cons_zero, List.getElem?_cons_succ] at y0 y1 y2 y3 y4 y5 y6 y7 y8
                have lrb := heap_lt hb
                clear hb
                have hgk : ∃ cur, W.heap[g 0]? = some (.cells cur 3 (0, 0)) := by obtain ⟨cur, q1, _⟩ := HS.out.ats 0 (by omega); exact ⟨cur, (HW.out.block _ (heap_lt q1) (by simp)).trans q1⟩
                obtain ⟨curk, hgk⟩ := hgk
                have hhk := (HW.out.block _ (heap_lt (HS.out.pls 0 (by omega))) (by simp)).trans (HS.out.pls 0 (by omega))
                have j1 := frozen_of_block hgk i
                have j2 := frozen_of_block hhk i
                have j3 := (HW.out.cell (p := ⟨g 0, i, none⟩) lgr (by simp)).trans ac
                have j4 := (HW.out.cell (p := ⟨h 0, i, none⟩) (heap_lt (HS.out.pls 0 (by omega))) (by simp)).trans pc
                have hKb := takeK_bd (T := T1of S.T (S.a 0 i)) HS.out.f (by rw [T1of_eq, T1_n]; exact HS.out.nx)
                have HP := Lib.hid (HS.out.put (k := 0) (i := i) (by omega) hlt HW.out HTW.out (by rw [takeT_n, T1of_eq, T1_n]) hKb.1 (by rw [takeT_n]; exact hKb.2.1) (S.new 0 i))
                have HBN := Lib.hid (show takeB (T1of S.T (S.a 0 i)) S.K = ((S.new 0 i : Nat) : Int) from takeB_new S 0 i)
                rw [HBN.out]
                clear hgk hhk hKb x0 x1 x2 x3 x4 x5 x6 x7 x8
                have lhr0 := heap_lt (HS.out.pls 0 (by omega))
                have ng1 : w6.heap.size ≠ g 0 := by have h1 := HRD.out w6.heap.size (by simp); simp at h1; omega
                have ng2 : w6.heap.size ≠ h 0 := by have h1 := HRD.out w6.heap.size (by simp); simp at h1; omega
                have ng3 : g 0 ≠ w6.heap.size := Ne.symm ng1
                have ng4 : h 0 ≠ w6.heap.size := Ne.symm ng2
                have ng5 : g 0 ≠ h 0 := by
                  have hnd := HS.out.nd
                  simp only [List.nodup_cons, List.mem_cons, List.not_mem_nil, or_false, not_or, List.nodup_nil, and_true] at hnd
                  omega
                have ng6 : h 0 ≠ g 0 := Ne.symm ng5
                go_upto_region 8 with fail
                have CW : Hid (Chg [g 0, h 0] W ((W.setCell ⟨g 0, i, none⟩ (.int .i64 ((S.new 0 i : Nat) : Int))).setCell ⟨h 0, i, none⟩ (.bool true))) := Lib.hid (((Chg.refl _ _).setCell (.inl (by simp)) _).setCell (.inl (by simp)) _)
                have lhr := heap_lt (HS.out.pls 0 (by omega))
                have lgw : g 0 < w.heap.size := by obtain ⟨cur, q1, _⟩ := HH.out.ats 0 (by omega); exact heap_lt q1
                have lhw := heap_lt (HH.out.pls 0 (by omega))
                have hb2 := (CW.out.block _ lrb (by have h1 := HRD.out w6.heap.size (by simp); simp at h1; simp; omega)).trans HRB.out
                have hr2 := (CW.out.block _ (heap_lt ((HW.out.block _ (heap_lt HRW.out) (by simp)).trans HRW.out)) (by simp; omega)).trans ((HW.out.block _ (heap_lt HRW.out) (by simp)).trans HRW.out)
                have HRN := Lib.hid (show (w.heap.size + 1 : Nat) ≠ w6.heap.size from by have h1 := HRD.out w6.heap.size (by simp); have h2 := heap_lt HRW.out; simp at h1; omega)
                clear y0 y1 y2 y3 y4 y5 y6 y7 y8 j1 j2 j3 j4 ac pc
                generalize (W.setCell _ _).setCell _ _ = W2 at *
                have y0 := cell_of_block hb2 0
                have y1 := cell_of_block hb2 1
                have y2 := cell_of_block hb2 2
                have y3 := cell_of_block hb2 3
                have y4 := cell_of_block hb2 4
                have y5 := cell_of_block hb2 5
                have y6 := cell_of_block hb2 6
                have y7 := cell_of_block hb2 7
                have y8 := cell_of_block hb2 8
                simp only [List.getElem?_toArray, List.getElem?_cons_zero, List.getElem?_cons_succ] at y0 y1 y2 y3 y4 y5 y6 y7 y8
                have f0 := frozen_of_block hr2 0
                have z0 := cell_of_block hr2 0
                have f1 := frozen_of_block hr2 1
                have z1 := cell_of_block hr2 1
                have f2 := frozen_of_block hr2 2
                have z2 := cell_of_block hr2 2
                have f3 := frozen_of_block hr2 3
                have z3 := cell_of_block hr2 3
                have f4 := frozen_of_block hr2 4
                have z4 := cell_of_block hr2 4
                have f5 := frozen_of_block hr2 5
                have z5 := cell_of_block hr2 5
                have f6 := frozen_of_block hr2 6
                have z6 := cell_of_block hr2 6
                have f7 := frozen_of_block hr2 7
                have z7 := cell_of_block hr2 7
                have f8 := frozen_of_block hr2 8
                have z8 := cell_of_block hr2 8
                simp only [List.getElem?_toArray, List.getElem?_cons_zero, List.getElem?_cons_succ] at z0 z1 z2 z3 z4 z5 z6 z7 z8
                have h9 := Lib.hid (sto9of9 hr2 (.slice (some ⟨g3, 0, none⟩) (takeT (T1of S.T (S.a 0 i)) S.K).n c3) (.slice (some ⟨g2, 0, none⟩) S.T.n c2) (.int .i64 ((takeK (T1of S.T (S.a 0 i)) S.K).first : Int)) (.int .i64 ((takeK (T1of S.T (S.a 0 i)) S.K).next : Int)) (.int .i64 ((takeK (T1of S.T (S.a 0 i)) S.K).asked : Int)) (.slice (some ⟨g 0, 0, none⟩) (S.n 0) (c 0)) (.slice (some ⟨g 1, 0, none⟩) (S.n 1) (c 1)) (.slice (some ⟨h 0, 0, none⟩) (S.n 0) (S.n 0)) (.slice (some ⟨h 1, 0, none⟩) (S.n 1) (S.n 1)))
                clear hr2 hb2
                go_wp2_with fail
                generalize ((((((((W2.setCell _ _).setCell _ _).setCell _ _).setCell _ _).setCell _ _).setCell _ _).setCell _ _).setCell _ _).setCell _ _ = W3 at *
                have hR3 := h9.out.1
                have k0 := cell_of_block hR3 0
                have k1 := cell_of_block hR3 1
                have k2 := cell_of_block hR3 2
                have k3 := cell_of_block hR3 3
                have k4 := cell_of_block hR3 4
                have k5 := cell_of_block hR3 5
                have k6 := cell_of_block hR3 6
                have k7 := cell_of_block hR3 7
                have k8 := cell_of_block hR3 8
                simp only [List.getElem?_toArray, List.getElem?_cons_zero, List.getElem?_cons_succ] at k0 k1 k2 k3 k4 k5 k6 k7 k8
                have HRS := HP.out.1.chg h9.out.2 (fun q hq => .inl (by simp at hq; rw [hq]; exact HIN.out)) (fun q hq => by have := HOW.out q hq; simp; omega)
                have HRS0 := { HRS with t := HRS.t.more (B := A0) (fun k hk => .inl (HSB.out k hk)), own := HOA.out : RefS A0 W3 _ _ g c h _ }
                have HCH : Chg [g 0, g 1, h 0, h 1] w W3 := (((HCW.out.mono (by simp)).trans HP.out.2).then h9.out.2 (fun q hq => by simp at hq; right; omega))
                (try simp only [Exit.inBlock, Exit.then])
                refine bodyPost_ret (v := .tuple #[st10 (.slice (some ⟨g3, 0, none⟩) (takeT (T1of S.T (S.a 0 i)) S.K).n c3) (.slice (some ⟨g2, 0, none⟩) S.T.n c2) (S.step 0 i).K S.n g c h, .bool true]) (by simp [results, Try.results46, go_sem, k0, k1, k2, k3, k4, k5, k6, k7, k8, st10, PS.step, T1of_eq]) rfl ?_
                exact stepR_some HNX.out ⟨_, rfl, HRS0, HCH⟩
          refine AllReadyH.cons (o := ?_) ?_ (fun K hK => ?_) AllReadyH.nil
          rotate_left 1
          · (simp only [List.getElem?_toArray, List.getElem?_cons_succ, List.getElem?_cons_zero]; rfl)
          · (go_simp; have FA := Lib.hid (new_block w3 (.cells #[.slice none 0 0, .slice none 0 0, .int .i64 0, .int .i64 0, .int .i64 0, .slice none 0 0, .slice none 0 0, .slice none 0 0, .slice none 0 0] 57)); have HD2 := Lib.hid (HD0.out.alloc (.cells #[.slice none 0 0, .slice none 0 0, .int .i64 0, .int .i64 0, .int .i64 0, .slice none 0 0, .slice none 0 0, .slice none 0 0, .slice none 0 0] 57)); have HRD : Hid (∀ j, j ∈ [w3.heap.size] → j ∈ ([] : List Nat) ∨ wr.heap.size ≤ j) := Lib.hid (fun j hj => by have := HD0.out.size; simp at hj; right; omega); generalize w3.alloc _ = w5 at *)
            refine hK.out _ _ ?_ (fun hHeld => ?_)
            · exact ⟨(HD2.out.cell (p := ⟨w.heap.size, 0, none⟩) lxr (by simp)).trans x0, (HD2.out.cell (p := ⟨w.heap.size, 1, none⟩) lxr (by simp)).trans x1, (HD2.out.cell (p := ⟨w.heap.size, 2, none⟩) lxr (by simp)).trans x2, (HD2.out.cell (p := ⟨w.heap.size, 3, none⟩) lxr (by simp)).trans x3, (HD2.out.cell (p := ⟨w.heap.size, 4, none⟩) lxr (by simp)).trans x4, (HD2.out.cell (p := ⟨w.heap.size, 5, none⟩) lxr (by simp)).trans x5, (HD2.out.cell (p := ⟨w.heap.size, 6, none⟩) lxr (by simp)).trans x6, (HD2.out.cell (p := ⟨w.heap.size, 7, none⟩) lxr (by simp)).trans x7, (HD2.out.cell (p := ⟨w.heap.size, 8, none⟩) lxr (by simp)).trans x8, (HD2.out.cell (p := ⟨g 0, i, none⟩) lgr (by simp)).trans ac⟩
            clear hK K
            try simp only [Act.put, List.setIfInBounds_toArray, List.set_cons_zero, List.set_cons_succ]
            refine wpAnyH_ready (rs := [7]) (by kernel_rfl) (by simp) ?_
            refine AllReadyH.cons (o := ?_) ?_ (fun K hK => ?_) AllReadyH.nil
            rotate_left 1
            · (simp only [List.getElem?_toArray, List.getElem?_cons_succ, List.getElem?_cons_zero]; rfl)
            · (go_simp; have cM := r10moved_at (A := A ++ [w3.heap.size]) (n := S.n) (g := g) (c := c) (h := h) ((HS.out.t.more (B := A ++ [w3.heap.size]) (fun k hk => by rcases List.mem_append.1 hk with q | q; exact .inl q; have := HD0.out.size; simp at q; right; omega)).chg HD2.out (by simp)) (fun k hk => by rcases List.mem_append.1 hk with q | q; exact Nat.lt_of_lt_of_le (HAR.out k q) HD2.out.size; have := heap_lt FA.out; simp at q; omega) (S.a 0 i) HS.out.f HS.out.nx; unfold st10 at cM; refine cM.mono ?_; clear cM; rintro e w6 ⟨u1, rfl, hT, hD⟩; obtain ⟨g3, c3, e3, _⟩ := hT.now; subst e3; have HTb := Lib.hid hT; have FA2 := Lib.hid ((hD.block _ (heap_lt FA.out) (by simp)).trans FA.out); have HD1 := Lib.hid (HD2.out.trans hD); clear hT hD)
              refine hK.out _ _ ?_ (fun hHeld => ?_)
              · exact ⟨(HD1.out.cell (p := ⟨w.heap.size, 0, none⟩) lxr (by simp)).trans x0, (HD1.out.cell (p := ⟨w.heap.size, 1, none⟩) lxr (by simp)).trans x1, (HD1.out.cell (p := ⟨w.heap.size, 2, none⟩) lxr (by simp)).trans x2, (HD1.out.cell (p := ⟨w.heap.size, 3, none⟩) lxr (by simp)).trans x3, (HD1.out.cell (p := ⟨w.heap.size, 4, none⟩) lxr (by simp)).trans x4, (HD1.out.cell (p := ⟨w.heap.size, 5, none⟩) lxr (by simp)).trans x5, (HD1.out.cell (p := ⟨w.heap.size, 6, none⟩) lxr (by simp)).trans x6, (HD1.out.cell (p := ⟨w.heap.size, 7, none⟩) lxr (by simp)).trans x7, (HD1.out.cell (p := ⟨w.heap.size, 8, none⟩) lxr (by simp)).trans x8, (HD1.out.cell (p := ⟨g 0, i, none⟩) lgr (by simp)).trans ac⟩
              clear hK K
              try simp only [Act.put, List.setIfInBounds_toArray, List.set_cons_zero, List.set_cons_succ]
              refine wpAnyH_take (i := 8) (oi := ?_) (v := ?_) ?_ (by kernel_rfl) (by kernel_rfl) (by kernel_rfl) ?_ (Or.inl ⟨?_, ?_⟩) hHeld ?_
              rotate_left 2
              · (simp only [List.getElem?_toArray, List.getElem?_cons_succ, List.getElem?_cons_zero]; rfl)
              · exact fun _ _ _ h => h
              · rfl
              · (rintro W' ⟨s0, s1, s2, s3, s4, s5, s6, s7, s8, s9⟩; go_simp; first | done | with_reducible rfl)
              try simp only [Act.put, List.setIfInBounds_toArray, List.set_cons_zero, List.set_cons_succ]
              refine wpAnyH_take (i := 9) (oi := ?_) (v := ?_) ?_ (by kernel_rfl) (by kernel_rfl) (by kernel_rfl) ?_ (Or.inl ⟨?_, ?_⟩) hHeld ?_
              rotate_left 2
              · (simp only [List.getElem?_toArray, List.getElem?_cons_succ, List.getElem?_cons_zero]; rfl)
              · exact fun _ _ _ h => h
              · rfl
              · (rintro W' ⟨s0, s1, s2, s3, s4, s5, s6, s7, s8, s9⟩; go_simp; first | done | with_reducible rfl)
              try simp only [Act.put, List.setIfInBounds_toArray, List.set_cons_zero, List.set_cons_succ]
              refine wpAnyH_take (i := 10) (oi := ?_) (v := ?_) ?_ (by kernel_rfl) (by kernel_rfl) (by kernel_rfl) ?_ (Or.inl ⟨?_, ?_⟩) hHeld ?_
              rotate_left 2
              · (simp only [List.getElem?_toArray, List.getElem?_cons_succ, List.getElem?_cons_zero]; rfl)
              · exact fun _ _ _ h => h
              · rfl
              · (rintro W' ⟨s0, s1, s2, s3, s4, s5, s6, s7, s8, s9⟩; go_simp; first | done | with_reducible rfl)
              try simp only [Act.put, List.setIfInBounds_toArray, List.set_cons_zero, List.set_cons_succ]
              refine wpAnyH_ready (rs := [12]) (by kernel_rfl) (by simp) ?_
              refine AllReadyH.cons (o := ?_) ?_ (fun K hK => ?_) AllReadyH.nil
              rotate_left 1
              · (simp only [List.getElem?_toArray, List.getElem?_cons_succ, List.getElem?_cons_zero]; rfl)
              · (have hr2 := FA2.out; have z0 := cell_of_block hr2 0; have z1 := cell_of_block hr2 1; have z2 := cell_of_block hr2 2; have z3 := cell_of_block hr2 3; have z4 := cell_of_block hr2 4; have z5 := cell_of_block hr2 5; have z6 := cell_of_block hr2 6; have z7 := cell_of_block hr2 7; have z8 := cell_of_block hr2 8; have f0 := frozen_of_block hr2 0; have f1 := frozen_of_block hr2 1; have f2 := frozen_of_block hr2 2; have f3 := frozen_of_block hr2 3; have f4 := frozen_of_block hr2 4; have f5 := frozen_of_block hr2 5; have f6 := frozen_of_block hr2 6; have f7 := frozen_of_block hr2 7; have f8 := frozen_of_block hr2 8; simp only [List.getElem?_toArray, List.getElem?_cons_zero, List.getElem?_cons_succ] at z0 z1 z2 z3 z4 z5 z6 z7 z8; clear hr2; go_simp; have h9 := sto9of9 FA2.out (.slice (some ⟨g3, 0, none⟩) (takeT (T1of S.T (S.a 0 i)) S.K).n c3) (.slice (some ⟨g2, 0, none⟩) S.T.n c2) (.int .i64 ((takeK (T1of S.T (S.a 0 i)) S.K).first : Int)) (.int .i64 ((takeK (T1of S.T (S.a 0 i)) S.K).next : Int)) (.int .i64 ((takeK (T1of S.T (S.a 0 i)) S.K).asked : Int)) (.slice (some ⟨g 0, 0, none⟩) (S.n 0) (c 0)) (.slice (some ⟨g 1, 0, none⟩) (S.n 1) (c 1)) (.slice (some ⟨h 0, 0, none⟩) (S.n 0) (S.n 0)) (.slice (some ⟨h 1, 0, none⟩) (S.n 1) (S.n 1)); have hRD := HRD.out; have HW := Lib.hid (HD1.out.then h9.2 hRD); have HTW := Lib.hid ((HTb.out.chg h9.2 (fun k hk => .inl (List.mem_append.2 (.inr hk)))).more (B := A) (fun k hk => .inl (List.mem_append.2 (.inl hk)))); have HRB := Lib.hid h9.1; clear h9 hRD z0 f0 z1 f1 z2 f2 z3 f3 z4 f4 z5 f5 z6 f6 z7 f7 z8 f8; generalize ((((((((w6.setCell _ _).setCell _ _).setCell _ _).setCell _ _).setCell _ _).setCell _ _).setCell _ _).setCell _ _).setCell _ _ = W at *)
                refine hK.out _ _ ?_ (fun hHeld => ?_)
                · exact ⟨(HW.out.cell (p := ⟨w.heap.size, 0, none⟩) lxr (by simp)).trans x0, (HW.out.cell (p := ⟨w.heap.size, 1, none⟩) lxr (by simp)).trans x1, (HW.out.cell (p := ⟨w.heap.size, 2, none⟩) lxr (by simp)).trans x2, (HW.out.cell (p := ⟨w.heap.size, 3, none⟩) lxr (by simp)).trans x3, (HW.out.cell (p := ⟨w.heap.size, 4, none⟩) lxr (by simp)).trans x4, (HW.out.cell (p := ⟨w.heap.size, 5, none⟩) lxr (by simp)).trans x5, (HW.out.cell (p := ⟨w.heap.size, 6, none⟩) lxr (by simp)).trans x6, (HW.out.cell (p := ⟨w.heap.size, 7, none⟩) lxr (by simp)).trans x7, (HW.out.cell (p := ⟨w.heap.size, 8, none⟩) lxr (by simp)).trans x8, (HW.out.cell (p := ⟨g 0, i, none⟩) lgr (by simp)).trans ac⟩
                clear hK K
                try simp only [Act.put, List.setIfInBounds_toArray, List.set_cons_zero, List.set_cons_succ]
                refine wpAnyH_take (i := 13) (oi := ?_) (v := ?_) ?_ (by kernel_rfl) (by kernel_rfl) (by kernel_rfl) ?_ (Or.inl ⟨?_, ?_⟩) hHeld ?_
                rotate_left 2
                · (simp only [List.getElem?_toArray, List.getElem?_cons_succ, List.getElem?_cons_zero]; rfl)
                · exact fun _ _ _ h => h
                · rfl
                · (rintro W' ⟨s0, s1, s2, s3, s4, s5, s6, s7, s8, s9⟩; go_simp; first | done | with_reducible rfl)
                try simp only [Act.put, List.setIfInBounds_toArray, List.set_cons_zero, List.set_cons_succ]
                refine wpAnyH_done (by kernel_rfl) ?_ _
                have hb := HRB.out
                have y0 := cell_of_block hb 0
                have y1 := cell_of_block hb 1
                have y2 := cell_of_block hb 2
                have y3 := cell_of_block hb 3
                have y4 := cell_of_block hb 4
                have y5 := cell_of_block hb 5
                have y6 := cell_of_block hb 6
                have y7 := cell_of_block hb 7
                have y8 := cell_of_block hb 8
                simp only [List.getElem?_toArray, List.getElem?_cons_zero, List.getElem?_cons_succ] at y0 y1 y2 y3 y4 y5 y6 y7 y8
                have lrb := heap_lt hb
                clear hb
                have hgk : ∃ cur, W.heap[g 0]? = some (.cells cur 3 (0, 0)) := by obtain ⟨cur, q1, _⟩ := HS.out.ats 0 (by omega); exact ⟨cur, (HW.out.block _ (heap_lt q1) (by simp)).trans q1⟩
                obtain ⟨curk, hgk⟩ := hgk
                have hhk := (HW.out.block _ (heap_lt (HS.out.pls 0 (by omega))) (by simp)).trans (HS.out.pls 0 (by omega))
                have j1 := frozen_of_block hgk i
                have j2 := frozen_of_block hhk i
                have j3 := (HW.out.cell (p := ⟨g 0, i, none⟩) lgr (by simp)).trans ac
                have j4 := (HW.out.cell (p := ⟨h 0, i, none⟩) (heap_lt (HS.out.pls 0 (by omega))) (by simp)).trans pc
                have hKb := takeK_bd (T := T1of S.T (S.a 0 i)) HS.out.f (by rw [T1of_eq, T1_n]; exact HS.out.nx)
                have HP := Lib.hid (HS.out.put (k := 0) (i := i) (by omega) hlt HW.out HTW.out (by rw [takeT_n, T1of_eq, T1_n]) hKb.1 (by rw [takeT_n]; exact hKb.2.1) (S.new 0 i))
                have HBN := Lib.hid (show takeB (T1of S.T (S.a 0 i)) S.K = ((S.new 0 i : Nat) : Int) from takeB_new S 0 i)
                rw [HBN.out]
                clear hgk hhk hKb x0 x1 x2 x3 x4 x5 x6 x7 x8
                have lhr0 := heap_lt (HS.out.pls 0 (by omega))
                have ng1 : w3.heap.size ≠ g 0 := by have h1 := HRD.out w3.heap.size (by simp); simp at h1; omega
                have ng2 : w3.heap.size ≠ h 0 := by have h1 := HRD.out w3.heap.size (by simp); simp at h1; omega
                have ng3 : g 0 ≠ w3.heap.size := Ne.symm ng1
                have ng4 : h 0 ≠ w3.heap.size := Ne.symm ng2
                have ng5 : g 0 ≠ h 0 := by
                  have hnd := HS.out.nd
                  simp only [List.nodup_cons, List.mem_cons, List.not_mem_nil, or_false, not_or, List.nodup_nil, and_true] at hnd
                  omega
                have ng6 : h 0 ≠ g 0 := Ne.symm ng5
                go_upto_region 8 with fail
                have CW : Hid (Chg [g 0, h 0] W ((W.setCell ⟨g 0, i, none⟩ (.int .i64 ((S.new 0 i : Nat) : Int))).setCell ⟨h 0, i, none⟩ (.bool true))) := Lib.hid (((Chg.refl _ _).setCell (.inl (by simp)) _).setCell (.inl (by simp)) _)
                have lhr := heap_lt (HS.out.pls 0 (by omega))
                have lgw : g 0 < w.heap.size := by obtain ⟨cur, q1, _⟩ := HH.out.ats 0 (by omega); exact heap_lt q1
                have lhw := heap_lt (HH.out.pls 0 (by omega))
                have hb2 := (CW.out.block _ lrb (by have h1 := HRD.out w3.heap.size (by simp); simp at h1; simp; omega)).trans HRB.out
                have hr2 := (CW.out.block _ (heap_lt ((HW.out.block _ (heap_lt HRW.out) (by simp)).trans HRW.out)) (by simp; omega)).trans ((HW.out.block _ (heap_lt HRW.out) (by simp)).trans HRW.out)
                have HRN := Lib.hid (show (w.heap.size + 1 : Nat) ≠ w3.heap.size from by have h1 := HRD.out w3.heap.size (by simp); have h2 := heap_lt HRW.out; simp at h1; omega)
                clear y0 y1 y2 y3 y4 y5 y6 y7 y8 j1 j2 j3 j4 ac pc
                generalize (W.setCell _ _).setCell _ _ = W2 at *
                have y0 := cell_of_block hb2 0
                have y1 := cell_of_block hb2 1
                have y2 := cell_of_block hb2 2
                have y3 := cell_of_block hb2 3
                have y4 := cell_of_block hb2 4
                have y5 := cell_of_block hb2 5
                have y6 := cell_of_block hb2 6
                have y7 := cell_of_block hb2 7
                have y8 := cell_of_block hb2 8
                simp only [List.getElem?_toArray, List.getElem?_cons_zero, List.getElem?_cons_succ] at y0 y1 y2 y3 y4 y5 y6 y7 y8
                have f0 := frozen_of_block hr2 0
                have z0 := cell_of_block hr2 0
                have f1 := frozen_of_block hr2 1
                have z1 := cell_of_block hr2 1
                have f2 := frozen_of_block hr2 2
                have z2 := cell_of_block hr2 2
                have f3 := frozen_of_block hr2 3
                have z3 := cell_of_block hr2 3
                have f4 := frozen_of_block hr2 4
                have z4 := cell_of_block hr2 4
                have f5 := frozen_of_block hr2 5
                have z5 := cell_of_block hr2 5
                have f6 := frozen_of_block hr2 6
                have z6 := cell_of_block hr2 6
                have f7 := frozen_of_block hr2 7
                have z7 := cell_of_block hr2 7
                have f8 := frozen_of_block hr2 8
                have z8 := cell_of_block hr2 8
                simp only [List.getElem?_toArray, List.getElem?_cons_zero, List.getElem?_cons_succ] at z0 z1 z2 z3 z4 z5 z6 z7 z8
                have h9 := Lib.hid (sto9of9 hr2 (.slice (some ⟨g3, 0, none⟩) (takeT (T1of S.T (S.a 0 i)) S.K).n c3) (.slice (some ⟨g2, 0, none⟩) S.T.n c2) (.int .i64 ((takeK (T1of S.T (S.a 0 i)) S.K).first : Int)) (.int .i64 ((takeK (T1of S.T (S.a 0 i)) S.K).next : Int)) (.int .i64 ((takeK (T1of S.T (S.a 0 i)) S.K).asked : Int)) (.slice (some ⟨g 0, 0, none⟩) (S.n 0) (c 0)) (.slice (some ⟨g 1, 0, none⟩) (S.n 1) (c 1)) (.slice (some ⟨h 0, 0, none⟩) (S.n 0) (S.n 0)) (.slice (some ⟨h 1, 0, none⟩) (S.n 1) (S.n 1)))
                clear hr2 hb2
                go_wp2_with fail
                generalize ((((((((W2.setCell _ _).setCell _ _).setCell _ _).setCell _ _).setCell _ _).setCell _ _).setCell _ _).setCell _ _).setCell _ _ = W3 at *
                have hR3 := h9.out.1
                have k0 := cell_of_block hR3 0
                have k1 := cell_of_block hR3 1
                have k2 := cell_of_block hR3 2
                have k3 := cell_of_block hR3 3
                have k4 := cell_of_block hR3 4
                have k5 := cell_of_block hR3 5
                have k6 := cell_of_block hR3 6
                have k7 := cell_of_block hR3 7
                have k8 := cell_of_block hR3 8
                simp only [List.getElem?_toArray, List.getElem?_cons_zero, List.getElem?_cons_succ] at k0 k1 k2 k3 k4 k5 k6 k7 k8
                have HRS := HP.out.1.chg h9.out.2 (fun q hq => .inl (by simp at hq; rw [hq]; exact HIN.out)) (fun q hq => by have := HOW.out q hq; simp; omega)
                have HRS0 := { HRS with t := HRS.t.more (B := A0) (fun k hk => .inl (HSB.out k hk)), own := HOA.out : RefS A0 W3 _ _ g c h _ }
                have HCH : Chg [g 0, g 1, h 0, h 1] w W3 := (((HCW.out.mono (by simp)).trans HP.out.2).then h9.out.2 (fun q hq => by simp at hq; right; omega))
                (try simp only [Exit.inBlock, Exit.then])
                refine bodyPost_ret (v := .tuple #[st10 (.slice (some ⟨g3, 0, none⟩) (takeT (T1of S.T (S.a 0 i)) S.K).n c3) (.slice (some ⟨g2, 0, none⟩) S.T.n c2) (S.step 0 i).K S.n g c h, .bool true]) (by simp [results, Try.results46, go_sem, k0, k1, k2, k3, k4, k5, k6, k7, k8, st10, PS.step, T1of_eq]) rfl ?_
                exact stepR_some HNX.out ⟨_, rfl, HRS0, HCH⟩
        · have ha' : ¬ (S.a 0 i : Int) = 0 := by omega
          have cC := r10changed_at (K := S.K) (n := S.n) (g := g) (c := c) (h := h) HS.out.t i (by have := HN100.out; omega)
          unfold st10 at cC
          go_wp2_with fail
          refine cC.mono ?_
          clear cC
          rintro e w2 ⟨rfl, hC2⟩
          have HM2 := Lib.hid (hM.out.2.trans hC2)
          cases hch : anyIn S.T.changed S.T.n i with
          | false =>
            have HZ := Lib.hid (hM.out.1.trans (firstFree_on hlt (by unfold PS.want; simp [hpp, ha, hch])))
            clear hC2
            go_wp2_with fail
            go_roundw
            case rel => exact ⟨i + 1, by omega, by go_num, ⟨HZ.out, HM2.out⟩⟩
            case measure => simp [intOf]; omega
          | true =>
            have HNX := Lib.hid (next_hit (S := S) (j := 0) (by omega) (by intro j hj; omega) (hM.out.1.trans (firstFree_hit hlt (show S.want 0 i = true by unfold PS.want; simp [hpp, hch]))))
            have HCW := Lib.hid (HC.out.trans HM2.out)
            have HRW := Lib.hid ((HM2.out.block _ (heap_lt HR.out) (by simp)).trans HR.out)
            have HS2 := Lib.hid (HS.out.chg hC2 (by simp) (by simp))
            have HAR2 : Hid (∀ k, k ∈ A → k < w2.heap.size) := Lib.hid (fun k hk => Nat.lt_of_lt_of_le (HAR.out k hk) hC2.size)
            have ac2 := (hC2.cell (p := ⟨g 0, i, none⟩) lgr (by simp)).trans ac
            have pc2 := (hC2.cell (p := ⟨h 0, i, none⟩) (heap_lt (HS.out.pls 0 (by omega))) (by simp)).trans pc
            have lgr2 := Nat.lt_of_lt_of_le lgr hC2.size
            have hxr2 := (HM2.out.block _ lx (by simp)).trans HX.out
            clear x0 x1 x2 x3 x4 x5 x6 x7 x8 HXR HS HAR ac pc lgr lxr hC2 hch ha ha' HM2 hM
            obtain ⟨wr, rfl⟩ : ∃ wr : World, wr = w2 := ⟨_, rfl⟩
            have HS := HS2
            have HAR := HAR2
            have ac := ac2
            have pc := pc2
            have lgr := lgr2
            clear HS2 HAR2 ac2 pc2 lgr2
            have x0 := cell_of_block hxr2 0
            have x1 := cell_of_block hxr2 1
            have x2 := cell_of_block hxr2 2
            have x3 := cell_of_block hxr2 3
            have x4 := cell_of_block hxr2 4
            have x5 := cell_of_block hxr2 5
            have x6 := cell_of_block hxr2 6
            have x7 := cell_of_block hxr2 7
            have x8 := cell_of_block hxr2 8
            simp only [List.getElem?_toArray, List.getElem?_cons_zero, List.getElem?_cons_succ] at x0 x1 x2 x3 x4 x5 x6 x7 x8
            have lxr := heap_lt hxr2
            clear hxr2
            go_upto_region 5 with fail
            have HD0 := Lib.hid ((Chg.refl [] wr).drew)
            refine wp_region_held_drew (S := fun W' => W'.cell? ⟨w.heap.size, 0, none⟩ = some (.slice (some ⟨g1, 0, none⟩) S.T.n c1) ∧ W'.cell? ⟨w.heap.size, 1, none⟩ = some (.slice (some ⟨g2, 0, none⟩) S.T.n c2) ∧ W'.cell? ⟨w.heap.size, 2, none⟩ = some (.int .i64 (S.K.first : Int)) ∧ W'.cell? ⟨w.heap.size, 3, none⟩ = some (.int .i64 (S.K.next : Int)) ∧ W'.cell? ⟨w.heap.size, 4, none⟩ = some (.int .i64 (S.K.asked : Int)) ∧ W'.cell? ⟨w.heap.size, 5, none⟩ = some (.slice (some ⟨g 0, 0, none⟩) (S.n 0) (c 0)) ∧ W'.cell? ⟨w.heap.size, 6, none⟩ = some (.slice (some ⟨g 1, 0, none⟩) (S.n 1) (c 1)) ∧ W'.cell? ⟨w.heap.size, 7, none⟩ = some (.slice (some ⟨h 0, 0, none⟩) (S.n 0) (S.n 0)) ∧ W'.cell? ⟨w.heap.size, 8, none⟩ = some (.slice (some ⟨h 1, 0, none⟩) (S.n 1) (S.n 1)) ∧ W'.cell? ⟨g 0, i, none⟩ = some (.int .i64 (S.a 0 i : Int))) (by kernel_rfl) (by exact ⟨x0, x1, x2, x3, x4, x5, x6, x7, x8, ac⟩) (fun hHeld => ?_)
            refine wpAnyH_take (i := 0) (oi := ?_) (v := ?_) ?_ (by kernel_rfl) (by kernel_rfl) (by kernel_rfl) ?_ (Or.inl ⟨?_, ?_⟩) hHeld ?_
            rotate_left 2
            · (simp only [List.getElem?_toArray, List.getElem?_cons_succ, List.getElem?_cons_zero]; rfl)
            · exact fun _ _ _ h => h
            · rfl
            · (rintro W' ⟨s0, s1, s2, s3, s4, s5, s6, s7, s8, s9⟩; go_simp; first | done | with_reducible rfl)
            try simp only [Act.put, List.setIfInBounds_toArray, List.set_cons_zero, List.set_cons_succ]
            refine wpAnyH_take (i := 1) (oi := ?_) (v := ?_) ?_ (by kernel_rfl) (by kernel_rfl) (by kernel_rfl) ?_ (Or.inl ⟨?_, ?_⟩) hHeld ?_
            rotate_left 2
            · (simp only [List.getElem?_toArray, List.getElem?_cons_succ, List.getElem?_cons_zero]; rfl)
            · exact fun _ _ _ h => h
            · rfl
            · (rintro W' ⟨s0, s1, s2, s3, s4, s5, s6, s7, s8, s9⟩; go_simp; first | done | with_reducible rfl)
            try simp only [Act.put, List.setIfInBounds_toArray, List.set_cons_zero, List.set_cons_succ]
            refine wpAnyH_take (i := 2) (oi := ?_) (v := ?_) ?_ (by kernel_rfl) (by kernel_rfl) (by kernel_rfl) ?_ (Or.inl ⟨?_, ?_⟩) hHeld ?_
            rotate_left 2
            · (simp only [List.getElem?_toArray, List.getElem?_cons_succ, List.getElem?_cons_zero]; rfl)
            · exact fun _ _ _ h => h
            · rfl
            · (rintro W' ⟨s0, s1, s2, s3, s4, s5, s6, s7, s8, s9⟩; go_simp; first | done | with_reducible rfl)
            try simp only [Act.put, List.setIfInBounds_toArray, List.set_cons_zero, List.set_cons_succ]
            refine wpAnyH_take (i := 3) (oi := ?_) (v := ?_) ?_ (by kernel_rfl) (by kernel_rfl) (by kernel_rfl) ?_ (Or.inl ⟨?_, ?_⟩) hHeld ?_
            rotate_left 2
            · (simp only [List.getElem?_toArray, List.getElem?_cons_succ, List.getElem?_cons_zero]; rfl)
            · exact fun _ _ _ h => h
            · rfl
            · (rintro W' ⟨s0, s1, s2, s3, s4, s5, s6, s7, s8, s9⟩; go_simp; first | done | with_reducible rfl)
            try simp only [Act.put, List.setIfInBounds_toArray, List.set_cons_zero, List.set_cons_succ]
            refine wpAnyH_take (i := 4) (oi := ?_) (v := ?_) ?_ (by kernel_rfl) (by kernel_rfl) (by kernel_rfl) ?_ (Or.inl ⟨?_, ?_⟩) hHeld ?_
            rotate_left 2
            · (simp only [List.getElem?_toArray, List.getElem?_cons_succ, List.getElem?_cons_zero]; rfl)
            · exact fun _ _ _ h => h
            · rfl
            · (rintro W' ⟨s0, s1, s2, s3, s4, s5, s6, s7, s8, s9⟩; go_simp; first | done | with_reducible rfl)
            try simp only [Act.put, List.setIfInBounds_toArray, List.set_cons_zero, List.set_cons_succ]
            refine wpAnyH_take (i := 5) (oi := ?_) (v := ?_) ?_ (by kernel_rfl) (by kernel_rfl) (by kernel_rfl) ?_ (Or.inl ⟨?_, ?_⟩) hHeld ?_
            rotate_left 2
            · (simp only [List.getElem?_toArray, List.getElem?_cons_succ, List.getElem?_cons_zero]; rfl)
            · exact fun _ _ _ h => h
            · rfl
            · (rintro W' ⟨s0, s1, s2, s3, s4, s5, s6, s7, s8, s9⟩; go_simp; first | done | with_reducible rfl)
            try simp only [Act.put, List.setIfInBounds_toArray, List.set_cons_zero, List.set_cons_succ]
            refine wpAnyH_take (i := 6) (oi := ?_) (v := ?_) ?_ (by kernel_rfl) (by kernel_rfl) (by kernel_rfl) ?_ (Or.inl ⟨?_, ?_⟩) hHeld ?_
            rotate_left 2
            · (simp only [List.getElem?_toArray, List.getElem?_cons_succ, List.getElem?_cons_zero]; rfl)
            · exact fun _ _ _ h => h
            · rfl
            · (rintro W' ⟨s0, s1, s2, s3, s4, s5, s6, s7, s8, s9⟩; go_simp; first | done | with_reducible rfl)
            try simp only [Act.put, List.setIfInBounds_toArray, List.set_cons_zero, List.set_cons_succ]
            generalize wr.drew = w3 at *
            refine wpAnyH_ready (rs := [7, 11]) (by kernel_rfl) (by simp) ?_
            refine AllReadyH.cons (o := ?_) ?_ (fun K hK => ?_) ?_
            rotate_left 1
            · (simp only [List.getElem?_toArray, List.getElem?_cons_succ, List.getElem?_cons_zero]; rfl)
            · (go_simp; have cM := r10moved_at (n := S.n) (g := g) (c := c) (h := h) (HS.out.t.chg HD0.out (by simp)) (fun k hk => Nat.lt_of_lt_of_le (HAR.out k hk) HD0.out.size) (S.a 0 i) HS.out.f HS.out.nx; unfold st10 at cM; refine cM.mono ?_; clear cM; rintro e w6 ⟨u1, rfl, hT, hD⟩; obtain ⟨g3, c3, e3, _⟩ := hT.now; subst e3; have HT := Lib.hid hT; have HD1 := Lib.hid (HD0.out.trans hD); clear hT hD)
              refine hK.out _ _ ?_ (fun hHeld => ?_)
              · exact ⟨(HD1.out.cell (p := ⟨w.heap.size, 0, none⟩) lxr (by simp)).trans x0, (HD1.out.cell (p := ⟨w.heap.size, 1, none⟩) lxr (by simp)).trans x1, (HD1.out.cell (p := ⟨w.heap.size, 2, none⟩) lxr (by simp)).trans x2, (HD1.out.cell (p := ⟨w.heap.size, 3, none⟩) lxr (by simp)).trans x3, (HD1.out.cell (p := ⟨w.heap.size, 4, none⟩) lxr (by simp)).trans x4, (HD1.out.cell (p := ⟨w.heap.size, 5, none⟩) lxr (by simp)).trans x5, (HD1.out.cell (p := ⟨w.heap.size, 6, none⟩) lxr (by simp)).trans x6, (HD1.out.cell (p := ⟨w.heap.size, 7, none⟩) lxr (by simp)).trans x7, (HD1.out.cell (p := ⟨w.heap.size, 8, none⟩) lxr (by simp)).trans x8, (HD1.out.cell (p := ⟨g 0, i, none⟩) lgr (by simp)).trans ac⟩
              clear hK K
              try simp only [Act.put, List.setIfInBounds_toArray, List.set_cons_zero, List.set_cons_succ]
              refine wpAnyH_take (i := 8) (oi := ?_) (v := ?_) ?_ (by kernel_rfl) (by kernel_rfl) (by kernel_rfl) ?_ (Or.inl ⟨?_, ?_⟩) hHeld ?_
              rotate_left 2
              · (simp only [List.getElem?_toArray, List.getElem?_cons_succ, List.getElem?_cons_zero]; rfl)
              · exact fun _ _ _ h => h
              · rfl
              · (rintro W' ⟨s0, s1, s2, s3, s4, s5, s6, s7, s8, s9⟩; go_simp; first | done | with_reducible rfl)
              try simp only [Act.put, List.setIfInBounds_toArray, List.set_cons_zero, List.set_cons_succ]
              refine wpAnyH_take (i := 9) (oi := ?_) (v := ?_) ?_ (by kernel_rfl) (by kernel_rfl) (by kernel_rfl) ?_ (Or.inl ⟨?_, ?_⟩) hHeld ?_
              rotate_left 2
              · (simp only [List.getElem?_toArray, List.getElem?_cons_succ, List.getElem?_cons_zero]; rfl)
              · exact fun _ _ _ h => h
              · rfl
              · (rintro W' ⟨s0, s1, s2, s3, s4, s5, s6, s7, s8, s9⟩; go_simp; first | done | with_reducible rfl)
              try simp only [Act.put, List.setIfInBounds_toArray, List.set_cons_zero, List.set_cons_succ]
              refine wpAnyH_take (i := 10) (oi := ?_) (v := ?_) ?_ (by kernel_rfl) (by kernel_rfl) (by kernel_rfl) ?_ (Or.inl ⟨?_, ?_⟩) hHeld ?_
              rotate_left 2
              · (simp only [List.getElem?_toArray, List.getElem?_cons_succ, List.getElem?_cons_zero]; rfl)
              · exact fun _ _ _ h => h
              · rfl
              · (rintro W' ⟨s0, s1, s2, s3, s4, s5, s6, s7, s8, s9⟩; go_simp; first | done | with_reducible rfl)
              try simp only [Act.put, List.setIfInBounds_toArray, List.set_cons_zero, List.set_cons_succ]
              refine wpAnyH_ready (rs := [11]) (by kernel_rfl) (by simp) ?_
              refine AllReadyH.cons (o := ?_) ?_ (fun K hK => ?_) AllReadyH.nil
              rotate_left 1
              · (simp only [List.getElem?_toArray, List.getElem?_cons_succ, List.getElem?_cons_zero]; rfl)
              · (go_simp; have FA := Lib.hid (new_block w6 (.cells #[.slice none 0 0, .slice none 0 0, .int .i64 0, .int .i64 0, .int .i64 0, .slice none 0 0, .slice none 0 0, .slice none 0 0, .slice none 0 0] 57)); have HD2 := Lib.hid (HD1.out.alloc (.cells #[.slice none 0 0, .slice none 0 0, .int .i64 0, .int .i64 0, .int .i64 0, .slice none 0 0, .slice none 0 0, .slice none 0 0, .slice none 0 0] 57)); have HE := Lib.hid ((Chg.refl [] w6).alloc (.cells #[.slice none 0 0, .slice none 0 0, .int .i64 0, .int .i64 0, .int .i64 0, .slice none 0 0, .slice none 0 0, .slice none 0 0, .slice none 0 0] 57)); have HRD : Hid (∀ j, j ∈ [w6.heap.size] → j ∈ ([] : List Nat) ∨ wr.heap.size ≤ j) := Lib.hid (fun j hj => by have := HD1.out.size; simp at hj; right; omega); generalize w6.alloc _ = w7 at *)
                refine hK.out _ _ ?_ (fun hHeld => ?_)
                · exact ⟨(HD2.out.cell (p := ⟨w.heap.size, 0, none⟩) lxr (by simp)).trans x0, (HD2.out.cell (p := ⟨w.heap.size, 1, none⟩) lxr (by simp)).trans x1, (HD2.out.cell (p := ⟨w.heap.size, 2, none⟩) lxr (by simp)).trans x2, (HD2.out.cell (p := ⟨w.heap.size, 3, none⟩) lxr (by simp)).trans x3, (HD2.out.cell (p := ⟨w.heap.size, 4, none⟩) lxr (by simp)).trans x4, (HD2.out.cell (p := ⟨w.heap.size, 5, none⟩) lxr (by simp)).trans x5, (HD2.out.cell (p := ⟨w.heap.size, 6, none⟩) lxr (by simp)).trans x6, (HD2.out.cell (p := ⟨w.heap.size, 7, none⟩) lxr (by simp)).trans x7, (HD2.out.cell (p := ⟨w.heap.size, 8, none⟩) lxr (by simp)).trans x8, (HD2.out.cell (p := ⟨g 0, i, none⟩) lgr (by simp)).trans ac⟩
                clear hK K
                try simp only [Act.put, List.setIfInBounds_toArray, List.set_cons_zero, List.set_cons_succ]
                refine wpAnyH_ready (rs := [12]) (by kernel_rfl) (by simp) ?_
                refine AllReadyH.cons (o := ?_) ?_ (fun K hK => ?_) AllReadyH.nil
                rotate_left 1
                · (simp only [List.getElem?_toArray, List.getElem?_cons_succ, List.getElem?_cons_zero]; rfl)
                · (have hr2 := FA.out; have z0 := cell_of_block hr2 0; have z1 := cell_of_block hr2 1; have z2 := cell_of_block hr2 2; have z3 := cell_of_block hr2 3; have z4 := cell_of_block hr2 4; have z5 := cell_of_block hr2 5; have z6 := cell_of_block hr2 6; have z7 := cell_of_block hr2 7; have z8 := cell_of_block hr2 8; have f0 := frozen_of_block hr2 0; have f1 := frozen_of_block hr2 1; have f2 := frozen_of_block hr2 2; have f3 := frozen_of_block hr2 3; have f4 := frozen_of_block hr2 4; have f5 := frozen_of_block hr2 5; have f6 := frozen_of_block hr2 6; have f7 := frozen_of_block hr2 7; have f8 := frozen_of_block hr2 8; simp only [List.getElem?_toArray, List.getElem?_cons_zero, List.getElem?_cons_succ] at z0 z1 z2 z3 z4 z5 z6 z7 z8; clear hr2; go_simp; have h9 := sto9of9 FA.out (.slice (some ⟨g3, 0, none⟩) (takeT (T1of S.T (S.a 0 i)) S.K).n c3) (.slice (some ⟨g2, 0, none⟩) S.T.n c2) (.int .i64 ((takeK (T1of S.T (S.a 0 i)) S.K).first : Int)) (.int .i64 ((takeK (T1of S.T (S.a 0 i)) S.K).next : Int)) (.int .i64 ((takeK (T1of S.T (S.a 0 i)) S.K).asked : Int)) (.slice (some ⟨g 0, 0, none⟩) (S.n 0) (c 0)) (.slice (some ⟨g 1, 0, none⟩) (S.n 1) (c 1)) (.slice (some ⟨h 0, 0, none⟩) (S.n 0) (S.n 0)) (.slice (some ⟨h 1, 0, none⟩) (S.n 1) (S.n 1)); have hRD := HRD.out; have HW := Lib.hid (HD2.out.then h9.2 hRD); have HTW := Lib.hid (HT.out.chg (HE.out.then h9.2 (L := []) (fun j hj => by simp at hj; right; omega)) (by simp)); have HRB := Lib.hid h9.1; clear h9 hRD z0 f0 z1 f1 z2 f2 z3 f3 z4 f4 z5 f5 z6 f6 z7 f7 z8 f8; generalize ((((((((w7.setCell _ _).setCell _ _).setCell _ _).setCell _ _).setCell _ _).setCell _ _).setCell _ _).setCell _ _).setCell _ _ = W at *)
                  refine hK.out _ _ ?_ (fun hHeld => ?_)
                  · exact ⟨(HW.out.cell (p := ⟨w.heap.size, 0, none⟩) lxr (by simp)).trans x0, (HW.out.cell (p := ⟨w.heap.size, 1, none⟩) lxr (by simp)).trans x1, (HW.out.cell (p := ⟨w.heap.size, 2, none⟩) lxr (by simp)).trans x2, (HW.out.cell (p := ⟨w.heap.size, 3, none⟩) lxr (by simp)).trans x3, (HW.out.cell (p := ⟨w.heap.size, 4, none⟩) lxr (by simp)).trans x4, (HW.out.cell (p := ⟨w.heap.size, 5, none⟩) lxr (by simp)).trans x5, (HW.out.cell (p := ⟨w.heap.size, 6, none⟩) lxr (by simp)).trans x6, (HW.out.cell (p := ⟨w.heap.size, 7, none⟩) lxr (by simp)).trans x7, (HW.out.cell (p := ⟨w.heap.size, 8, none⟩) lxr (by simp)).trans x8, (HW.out.cell (p := ⟨g 0, i, none⟩) lgr (by simp)).trans ac⟩
                  clear hK K
                  try simp only [Act.put, List.setIfInBounds_toArray, List.set_cons_zero, List.set_cons_succ]
                  refine wpAnyH_take (i := 13) (oi := ?_) (v := ?_) ?_ (by kernel_rfl) (by kernel_rfl) (by kernel_rfl) ?_ (Or.inl ⟨?_, ?_⟩) hHeld ?_
                  rotate_left 2
                  · (simp only [List.getElem?_toArray, List.getElem?_cons_succ, List.getElem?_cons_zero]; rfl)
                  · exact fun _ _ _ h => h
                  · rfl
                  · (rintro W' ⟨s0, s1, s2, s3, s4, s5, s6, s7, s8, s9⟩; go_simp; first | done | with_reducible rfl)
                  try simp only [Act.put, List.setIfInBounds_toArray, List.set_cons_zero, List.set_cons_succ]
                  refine wpAnyH_done (by kernel_rfl) ?_ _
                  have hb := HRB.out
                  have y0 := cell_of_block hb 0
                  have y1 := cell_of_block hb 1
                  have y2 := cell_of_block hb 2
                  have y3 := cell_of_block hb 3
                  have y4 := cell_of_block hb 4
                  have y5 := cell_of_block hb 5
                  have y6 := cell_of_block hb 6
                  have y7 := cell_of_block hb 7
                  have y8 := cell_of_block hb 8
                  simp only [List.getElem?_toArray, List.getElem?_cons_zero, List.getElem?_cons_succ] at y0 y1 y2 y3 y4 y5 y6 y7 y8
                  have lrb := heap_lt hb
                  clear hb
                  have hgk : ∃ cur, W.heap[g 0]? = some (.cells cur 3 (0, 0)) := by obtain ⟨cur, q1, _⟩ := HS.out.ats 0 (by omega); exact ⟨cur, (HW.out.block _ (heap_lt q1) (by simp)).trans q1⟩
                  obtain ⟨curk, hgk⟩ := hgk
                  have hhk := (HW.out.block _ (heap_lt (HS.out.pls 0 (by omega))) (by simp)).trans (HS.out.pls 0 (by omega))
                  have j1 := frozen_of_block hgk i
                  have j2 := frozen_of_block hhk i
                  have j3 := (HW.out.cell (p := ⟨g 0, i, none⟩) lgr (by simp)).trans ac
                  have j4 := (HW.out.cell (p := ⟨h 0, i, none⟩) (heap_lt (HS.out.pls 0 (by omega))) (by simp)).trans pc
                  have hKb := takeK_bd (T := T1of S.T (S.a 0 i)) HS.out.f (by rw [T1of_eq, T1_n]; exact HS.out.nx)
                  have HP := Lib.hid (HS.out.put (k := 0) (i := i) (by omega) hlt HW.out HTW.out (by rw [takeT_n, T1of_eq, T1_n]) hKb.1 (by rw [takeT_n]; exact hKb.2.1) (S.new 0 i))
                  have HBN := Lib.hid (show takeB (T1of S.T (S.a 0 i)) S.K = ((S.new 0 i : Nat) : Int) from takeB_new S 0 i)
                  rw [HBN.out]
                  clear hgk hhk hKb x0 x1 x2 x3 x4 x5 x6 x7 x8
                  have lhr0 := heap_lt (HS.out.pls 0 (by omega))
                  have ng1 : w6.heap.size ≠ g 0 := by have h1 := HRD.out w6.heap.size (by simp); simp at h1; omega
                  have ng2 : w6.heap.size ≠ h 0 := by have h1 := HRD.out w6.heap.size (by simp); simp at h1; omega
                  have ng3 : g 0 ≠ w6.heap.size := Ne.symm ng1
                  have ng4 : h 0 ≠ w6.heap.size := Ne.symm ng2
                  have ng5 : g 0 ≠ h 0 := by
                    have hnd := HS.out.nd
                    simp only [List.nodup_cons, List.mem_cons, List.not_mem_nil, or_false, not_or, List.nodup_nil, and_true] at hnd
                    omega
                  have ng6 : h 0 ≠ g 0 := Ne.symm ng5
                  go_upto_region 8 with fail
                  have CW : Hid (Chg [g 0, h 0] W ((W.setCell ⟨g 0, i, none⟩ (.int .i64 ((S.new 0 i : Nat) : Int))).setCell ⟨h 0, i, none⟩ (.bool true))) := Lib.hid (((Chg.refl _ _).setCell (.inl (by simp)) _).setCell (.inl (by simp)) _)
                  have lhr := heap_lt (HS.out.pls 0 (by omega))
                  have lgw : g 0 < w.heap.size := by obtain ⟨cur, q1, _⟩ := HH.out.ats 0 (by omega); exact heap_lt q1
                  have lhw := heap_lt (HH.out.pls 0 (by omega))
                  have hb2 := (CW.out.block _ lrb (by have h1 := HRD.out w6.heap.size (by simp); simp at h1; simp; omega)).trans HRB.out
                  have hr2 := (CW.out.block _ (heap_lt ((HW.out.block _ (heap_lt HRW.out) (by simp)).trans HRW.out)) (by simp; omega)).trans ((HW.out.block _ (heap_lt HRW.out) (by simp)).trans HRW.out)
                  have HRN := Lib.hid (show (w.heap.size + 1 : Nat) ≠ w6.heap.size from by have h1 := HRD.out w6.heap.size (by simp); have h2 := heap_lt HRW.out; simp at h1; omega)
                  clear y0 y1 y2 y3 y4 y5 y6 y7 y8 j1 j2 j3 j4 ac pc
                  generalize (W.setCell _ _).setCell _ _ = W2 at *
                  have y0 := cell_of_block hb2 0
                  have y1 := cell_of_block hb2 1
                  have y2 := cell_of_block hb2 2
                  have y3 := cell_of_block hb2 3
                  have y4 := cell_of_block hb2 4
                  have y5 := cell_of_block hb2 5
                  have y6 := cell_of_block hb2 6
                  have y7 := cell_of_block hb2 7
                  have y8 := cell_of_block hb2 8
                  simp only [List.getElem?_toArray, List.getElem?_cons_zero, List.getElem?_cons_succ] at y0 y1 y2 y3 y4 y5 y6 y7 y8
                  have f0 := frozen_of_block hr2 0
                  have z0 := cell_of_block hr2 0
                  have f1 := frozen_of_block hr2 1
                  have z1 := cell_of_block hr2 1
                  have f2 := frozen_of_block hr2 2
                  have z2 := cell_of_block hr2 2
                  have f3 := frozen_of_block hr2 3
                  have z3 := cell_of_block hr2 3
                  have f4 := frozen_of_block hr2 4
                  have z4 := cell_of_block hr2 4
                  have f5 := frozen_of_block hr2 5
                  have z5 := cell_of_block hr2 5
                  have f6 := frozen_of_block hr2 6
                  have z6 := cell_of_block hr2 6
                  have f7 := frozen_of_block hr2 7
                  have z7 := cell_of_block hr2 7
                  have f8 := frozen_of_block hr2 8
                  have z8 := cell_of_block hr2 8
                  simp only [List.getElem?_toArray, List.getElem?_cons_zero, List.getElem?_cons_succ] at z0 z1 z2 z3 z4 z5 z6 z7 z8
                  have h9 := Lib.hid (sto9of9 hr2 (.slice (some ⟨g3, 0, none⟩) (takeT (T1of S.T (S.a 0 i)) S.K).n c3) (.slice (some ⟨g2, 0, none⟩) S.T.n c2) (.int .i64 ((takeK (T1of S.T (S.a 0 i)) S.K).first : Int)) (.int .i64 ((takeK (T1of S.T (S.a 0 i)) S.K).next : Int)) (.int .i64 ((takeK (T1of S.T (S.a 0 i)) S.K).asked : Int)) (.slice (some ⟨g 0, 0, none⟩) (S.n 0) (c 0)) (.slice (some ⟨g 1, 0, none⟩) (S.n 1) (c 1)) (.slice (some ⟨h 0, 0, none⟩) (S.n 0) (S.n 0)) (.slice (some ⟨h 1, 0, none⟩) (S.n 1) (S.n 1)))
                  clear hr2 hb2
                  go_wp2_with fail
                  generalize ((((((((W2.setCell _ _).setCell _ _).setCell _ _).setCell _ _).setCell _ _).setCell _ _).setCell _ _).setCell _ _).setCell _ _ = W3 at *
                  have hR3 := h9.out.1
                  have k0 := cell_of_block hR3 0
                  have k1 := cell_of_block hR3 1
                  have k2 := cell_of_block hR3 2
                  have k3 := cell_of_block hR3 3
                  have k4 := cell_of_block hR3 4
                  have k5 := cell_of_block hR3 5
                  have k6 := cell_of_block hR3 6
                  have k7 := cell_of_block hR3 7
                  have k8 := cell_of_block hR3 8
                  simp only [List.getElem?_toArray, List.getElem?_cons_zero, List.getElem?_cons_succ] at k0 k1 k2 k3 k4 k5 k6 k7 k8
                  have HRS := HP.out.1.chg h9.out.2 (fun q hq => .inl (by simp at hq; rw [hq]; exact HIN.out)) (fun q hq => by have := HOW.out q hq; simp; omega)
                  have HRS0 := { HRS with t := HRS.t.more (B := A0) (fun k hk => .inl (HSB.out k hk)), own := HOA.out : RefS A0 W3 _ _ g c h _ }
                  have HCH : Chg [g 0, g 1, h 0, h 1] w W3 := (((HCW.out.mono (by simp)).trans HP.out.2).then h9.out.2 (fun q hq => by simp at hq; right; omega))
                  (try simp only [Exit.inBlock, Exit.then])
                  refine bodyPost_ret (v := .tuple #[st10 (.slice (some ⟨g3, 0, none⟩) (takeT (T1of S.T (S.a 0 i)) S.K).n c3) (.slice (some ⟨g2, 0, none⟩) S.T.n c2) (S.step 0 i).K S.n g c h, .bool true]) (by simp [results, Try.results46, go_sem, k0, k1, k2, k3, k4, k5, k6, k7, k8, st10, PS.step, T1of_eq]) rfl ?_
                  exact stepR_some HNX.out ⟨_, rfl, HRS0, HCH⟩
            refine AllReadyH.cons (o := ?_) ?_ (fun K hK => ?_) AllReadyH.nil
            rotate_left 1
            · (simp only [List.getElem?_toArray, List.getElem?_cons_succ, List.getElem?_cons_zero]; rfl)
            · (go_simp; have FA := Lib.hid (new_block w3 (.cells #[.slice none 0 0, .slice none 0 0, .int .i64 0, .int .i64 0, .int .i64 0, .slice none 0 0, .slice none 0 0, .slice none 0 0, .slice none 0 0] 57)); have HD2 := Lib.hid (HD0.out.alloc (.cells #[.slice none 0 0, .slice none 0 0, .int .i64 0, .int .i64 0, .int .i64 0, .slice none 0 0, .slice none 0 0, .slice none 0 0, .slice none 0 0] 57)); have HRD : Hid (∀ j, j ∈ [w3.heap.size] → j ∈ ([] : List Nat) ∨ wr.heap.size ≤ j) := Lib.hid (fun j hj => by have := HD0.out.size; simp at hj; right; omega); generalize w3.alloc _ = w5 at *)
              refine hK.out _ _ ?_ (fun hHeld => ?_)
              · exact ⟨(HD2.out.cell (p := ⟨w.heap.size, 0, none⟩) lxr (by simp)).trans x0, (HD2.out.cell (p := ⟨w.heap.size, 1, none⟩) lxr (by simp)).trans x1, (HD2.out.cell (p := ⟨w.heap.size, 2, none⟩) lxr (by simp)).trans x2, (HD2.out.cell (p := ⟨w.heap.size, 3, none⟩) lxr (by simp)).trans x3, (HD2.out.cell (p := ⟨w.heap.size, 4, none⟩) lxr (by simp)).trans x4, (HD2.out.cell (p := ⟨w.heap.size, 5, none⟩) lxr (by simp)).trans x5, (HD2.out.cell (p := ⟨w.heap.size, 6, none⟩) lxr (by simp)).trans x6, (HD2.out.cell (p := ⟨w.heap.size, 7, none⟩) lxr (by simp)).trans x7, (HD2.out.cell (p := ⟨w.heap.size, 8, none⟩) lxr (by simp)).trans x8, (HD2.out.cell (p := ⟨g 0, i, none⟩) lgr (by simp)).trans ac⟩
              clear hK K
              try simp only [Act.put, List.setIfInBounds_toArray, List.set_cons_zero, List.set_cons_succ]
              refine wpAnyH_ready (rs := [7]) (by kernel_rfl) (by simp) ?_
              refine AllReadyH.cons (o := ?_) ?_ (fun K hK => ?_) AllReadyH.nil
              rotate_left 1
              · (simp only [List.getElem?_toArray, List.getElem?_cons_succ, List.getElem?_cons_zero]; rfl)
              · (go_simp; have cM := r10moved_at (A := A ++ [w3.heap.size]) (n := S.n) (g := g) (c := c) (h := h) ((HS.out.t.more (B := A ++ [w3.heap.size]) (fun k hk => by rcases List.mem_append.1 hk with q | q; exact .inl q; have := HD0.out.size; simp at q; right; omega)).chg HD2.out (by simp)) (fun k hk => by rcases List.mem_append.1 hk with q | q; exact Nat.lt_of_lt_of_le (HAR.out k q) HD2.out.size; have := heap_lt FA.out; simp at q; omega) (S.a 0 i) HS.out.f HS.out.nx; unfold st10 at cM; refine cM.mono ?_; clear cM; rintro e w6 ⟨u1, rfl, hT, hD⟩; obtain ⟨g3, c3, e3, _⟩ := hT.now; subst e3; have HTb := Lib.hid hT; have FA2 := Lib.hid ((hD.block _ (heap_lt FA.out) (by simp)).trans FA.out); have HD1 := Lib.hid (HD2.out.trans hD); clear hT hD)
                refine hK.out _ _ ?_ (fun hHeld => ?_)
                · exact ⟨(HD1.out.cell (p := ⟨w.heap.size, 0, none⟩) lxr (by simp)).trans x0, (HD1.out.cell (p := ⟨w.heap.size, 1, none⟩) lxr (by simp)).trans x1, (HD1.out.cell (p := ⟨w.heap.size, 2, none⟩) lxr (by simp)).trans x2, (HD1.out.cell (p := ⟨w.heap.size, 3, none⟩) lxr (by simp)).trans x3, (HD1.out.cell (p := ⟨w.heap.size, 4, none⟩) lxr (by simp)).trans x4, (HD1.out.cell (p := ⟨w.heap.size, 5, none⟩) lxr (by simp)).trans x5, (HD1.out.cell (p := ⟨w.heap.size, 6, none⟩) lxr (by simp)).trans x6, (HD1.out.cell (p := ⟨w.heap.size, 7, none⟩) lxr (by simp)).trans x7, (HD1.out.cell (p := ⟨w.heap.size, 8, none⟩) lxr (by simp)).trans x8, (HD1.out.cell (p := ⟨g 0, i, none⟩) lgr (by simp)).trans ac⟩
                clear hK K
                try simp only [Act.put, List.setIfInBounds_toArray, List.set_cons_zero, List.set_cons_succ]
                refine wpAnyH_take (i := 8) (oi := ?_) (v := ?_) ?_ (by kernel_rfl) (by kernel_rfl) (by kernel_rfl) ?_ (Or.inl ⟨?_, ?_⟩) hHeld ?_
                rotate_left 2
                · (simp only [List.getElem?_toArray, List.getElem?_cons_succ, List.getElem?_cons_zero]; rfl)
                · exact fun _ _ _ h => h
                · rfl
                · (rintro W' ⟨s0, s1, s2, s3, s4, s5, s6, s7, s8, s9⟩; go_simp; first | done | with_reducible rfl)
                try simp only [Act.put, List.setIfInBounds_toArray, List.set_cons_zero, List.set_cons_succ]
                refine wpAnyH_take (i := 9) (oi := ?_) (v := ?_) ?_ (by kernel_rfl) (by kernel_rfl) (by kernel_rfl) ?_ (Or.inl ⟨?_, ?_⟩) hHeld ?_
                rotate_left 2
                · (simp only [List.getElem?_toArray, List.getElem?_cons_succ, List.getElem?_cons_zero]; rfl)
                · exact fun _ _ _ h => h
                · rfl
                · (rintro W' ⟨s0, s1, s2, s3, s4, s5, s6, s7, s8, s9⟩; go_simp; first | done | with_reducible rfl)
                try simp only [Act.put, List.setIfInBounds_toArray, List.set_cons_zero, List.set_cons_succ]
                refine wpAnyH_take (i := 10) (oi := ?_) (v := ?_) ?_ (by kernel_rfl) (by kernel_rfl) (by kernel_rfl) ?_ (Or.inl ⟨?_, ?_⟩) hHeld ?_
                rotate_left 2
                · (simp only [List.getElem?_toArray, List.getElem?_cons_succ, List.getElem?_cons_zero]; rfl)
                · exact fun _ _ _ h => h
                · rfl
                · (rintro W' ⟨s0, s1, s2, s3, s4, s5, s6, s7, s8, s9⟩; go_simp; first | done | with_reducible rfl)
                try simp only [Act.put, List.setIfInBounds_toArray, List.set_cons_zero, List.set_cons_succ]
                refine wpAnyH_ready (rs := [12]) (by kernel_rfl) (by simp) ?_
                refine AllReadyH.cons (o := ?_) ?_ (fun K hK => ?_) AllReadyH.nil
                rotate_left 1
                · (simp only [List.getElem?_toArray, List.getElem?_cons_succ, List.getElem?_cons_zero]; rfl)
                · (have hr2 := FA2.out; have z0 := cell_of_block hr2 0; have z1 := cell_of_block hr2 1; have z2 := cell_of_block hr2 2; have z3 := cell_of_block hr2 3; have z4 := cell_of_block hr2 4; have z5 := cell_of_block hr2 5; have z6 := cell_of_block hr2 6; have z7 := cell_of_block hr2 7; have z8 := cell_of_block hr2 8; have f0 := frozen_of_block hr2 0; have f1 := frozen_of_block hr2 1; have f2 := frozen_of_block hr2 2; have f3 := frozen_of_block hr2 3; have f4 := frozen_of_block hr2 4; have f5 := frozen_of_block hr2 5; have f6 := frozen_of_block hr2 6; have f7 := frozen_of_block hr2 7; have f8 := frozen_of_block hr2 8; simp only [List.getElem?_toArray, List.getElem?_cons_zero, List.getElem?_cons_succ] at z0 z1 z2 z3 z4 z5 z6 z7 z8; clear hr2; go_simp; have h9 := sto9of9 FA2.out (.slice (some ⟨g3, 0, none⟩) (takeT (T1of S.T (S.a 0 i)) S.K).n c3) (.slice (some ⟨g2, 0, none⟩) S.T.n c2) (.int .i64 ((takeK (T1of S.T (S.a 0 i)) S.K).first : Int)) (.int .i64 ((takeK (T1of S.T (S.a 0 i)) S.K).next : Int)) (.int .i64 ((takeK (T1of S.T (S.a 0 i)) S.K).asked : Int)) (.slice (some ⟨g 0, 0, none⟩) (S.n 0) (c 0)) (.slice (some ⟨g 1, 0, none⟩) (S.n 1) (c 1)) (.slice (some ⟨h 0, 0, none⟩) (S.n 0) (S.n 0)) (.slice (some ⟨h 1, 0, none⟩) (S.n 1) (S.n 1)); have hRD := HRD.out; have HW := Lib.hid (HD1.out.then h9.2 hRD); have HTW := Lib.hid ((HTb.out.chg h9.2 (fun k hk => .inl (List.mem_append.2 (.inr hk)))).more (B := A) (fun k hk => .inl (List.mem_append.2 (.inl hk)))); have HRB := Lib.hid h9.1; clear h9 hRD z0 f0 z1 f1 z2 f2 z3 f3 z4 f4 z5 f5 z6 f6 z7 f7 z8 f8; generalize ((((((((w6.setCell _ _).setCell _ _).setCell _ _).setCell _ _).setCell _ _).setCell _ _).setCell _ _).setCell _ _).setCell _ _ = W at *)
                  refine hK.out _ _ ?_ (fun hHeld => ?_)
                  · exact ⟨(HW.out.cell (p := ⟨w.heap.size, 0, none⟩) lxr (by simp)).trans x0, (HW.out.cell (p := ⟨w.heap.size, 1, none⟩) lxr (by simp)).trans x1, (HW.out.cell (p := ⟨w.heap.size, 2, none⟩) lxr (by simp)).trans x2, (HW.out.cell (p := ⟨w.heap.size, 3, none⟩) lxr (by simp)).trans x3, (HW.out.cell (p := ⟨w.heap.size, 4, none⟩) lxr (by simp)).trans x4, (HW.out.cell (p := ⟨w.heap.size, 5, none⟩) lxr (by simp)).trans x5, (HW.out.cell (p := ⟨w.heap.size, 6, none⟩) lxr (by simp)).trans x6, (HW.out.cell (p := ⟨w.heap.size, 7, none⟩) lxr (by simp)).trans x7, (HW.out.cell (p := ⟨w.heap.size, 8, none⟩) lxr (by simp)).trans x8, (HW.out.cell (p := ⟨g 0, i, none⟩) lgr (by simp)).trans ac⟩
                  clear hK K
                  try simp only [Act.put, List.setIfInBounds_toArray, List.set_cons_zero, List.set_cons_succ]
                  refine wpAnyH_take (i := 13) (oi := ?_) (v := ?_) ?_ (by kernel_rfl) (by kernel_rfl) (by kernel_rfl) ?_ (Or.inl ⟨?_, ?_⟩) hHeld ?_
                  rotate_left 2
                  · (simp only [List.getElem?_toArray, List.getElem?_cons_succ, List.getElem?_cons_zero]; rfl)
                  · exact fun _ _ _ h => h
                  · rfl
                  · (rintro W' ⟨s0, s1, s2, s3, s4, s5, s6, s7, s8, s9⟩; go_simp; first | done | with_reducible rfl)
                  try simp only [Act.put, List.setIfInBounds_toArray, List.set_cons_zero, List.set_cons_succ]
                  refine wpAnyH_done (by kernel_rfl) ?_ _
                  have hb := HRB.out
                  have y0 := cell_of_block hb 0
                  have y1 := cell_of_block hb 1
                  have y2 := cell_of_block hb 2
                  have y3 := cell_of_block hb 3
                  have y4 := cell_of_block hb 4
                  have y5 := cell_of_block hb 5
                  have y6 := cell_of_block hb 6
                  have y7 := cell_of_block hb 7
                  have y8 := cell_of_block hb 8
                  simp only [List.getElem?_toArray, List.getElem?_cons_zero, List.getElem?_cons_succ] at y0 y1 y2 y3 y4 y5 y6 y7 y8
                  have lrb := heap_lt hb
                  clear hb
                  have hgk : ∃ cur, W.heap[g 0]? = some (.cells cur 3 (0, 0)) := by obtain ⟨cur, q1, _⟩ := HS.out.ats 0 (by omega); exact ⟨cur, (HW.out.block _ (heap_lt q1) (by simp)).trans q1⟩
                  obtain ⟨curk, hgk⟩ := hgk
                  have hhk := (HW.out.block _ (heap_lt (HS.out.pls 0 (by omega))) (by simp)).trans (HS.out.pls 0 (by omega))
                  have j1 := frozen_of_block hgk i
                  have j2 := frozen_of_block hhk i
                  have j3 := (HW.out.cell (p := ⟨g 0, i, none⟩) lgr (by simp)).trans ac
                  have j4 := (HW.out.cell (p := ⟨h 0, i, none⟩) (heap_lt (HS.out.pls 0 (by omega))) (by simp)).trans pc
                  have hKb := takeK_bd (T := T1of S.T (S.a 0 i)) HS.out.f (by rw [T1of_eq, T1_n]; exact HS.out.nx)
                  have HP := Lib.hid (HS.out.put (k := 0) (i := i) (by omega) hlt HW.out HTW.out (by rw [takeT_n, T1of_eq, T1_n]) hKb.1 (by rw [takeT_n]; exact hKb.2.1) (S.new 0 i))
                  have HBN := Lib.hid (show takeB (T1of S.T (S.a 0 i)) S.K = ((S.new 0 i : Nat) : Int) from takeB_new S 0 i)
                  rw [HBN.out]
                  clear hgk hhk hKb x0 x1 x2 x3 x4 x5 x6 x7 x8
                  have lhr0 := heap_lt (HS.out.pls 0 (by omega))
                  have ng1 : w3.heap.size ≠ g 0 := by have h1 := HRD.out w3.heap.size (by simp); simp at h1; omega
                  have ng2 : w3.heap.size ≠ h 0 := by have h1 := HRD.out w3.heap.size (by simp); simp at h1; omega
                  have ng3 : g 0 ≠ w3.heap.size := Ne.symm ng1
                  have ng4 : h 0 ≠ w3.heap.size := Ne.symm ng2
                  have ng5 : g 0 ≠ h 0 := by
                    have hnd := HS.out.nd
                    simp only [List.nodup_cons, List.mem_cons, List.not_mem_nil, or_false, not_or, List.nodup_nil, and_true] at hnd
                    omega
                  have ng6 : h 0 ≠ g 0 := Ne.symm ng5
                  go_upto_region 8 with fail
                  have CW : Hid (Chg [g 0, h 0] W ((W.setCell ⟨g 0, i, none⟩ (.int .i64 ((S.new 0 i : Nat) : Int))).setCell ⟨h 0, i, none⟩ (.bool true))) := Lib.hid (((Chg.refl _ _).setCell (.inl (by simp)) _).setCell (.inl (by simp)) _)
                  have lhr := heap_lt (HS.out.pls 0 (by omega))
                  have lgw : g 0 < w.heap.size := by obtain ⟨cur, q1, _⟩ := HH.out.ats 0 (by omega); exact heap_lt q1
                  have lhw := heap_lt (HH.out.pls 0 (by omega))
                  have hb2 := (CW.out.block _ lrb (by have h1 := HRD.out w3.heap.size (by simp); simp at h1; simp; omega)).trans HRB.out
                  have hr2 := (CW.out.block _ (heap_lt ((HW.out.block _ (heap_lt HRW.out) (by simp)).trans HRW.out)) (by simp; omega)).trans ((HW.out.block _ (heap_lt HRW.out) (by simp)).trans HRW.out)
                  have HRN := Lib.hid (show (w.heap.size + 1 : Nat) ≠ w3.heap.size from by have h1 := HRD.out w3.heap.size (by simp); have h2 := heap_lt HRW.out; simp at h1; omega)
                  clear y0 y1 y2 y3 y4 y5 y6 y7 y8 j1 j2 j3 j4 ac pc
                  generalize (W.setCell _ _).setCell _ _ = W2 at *
                  have y0 := cell_of_block hb2 0
                  have y1 := cell_of_block hb2 1
                  have y2 := cell_of_block hb2 2
                  have y3 := cell_of_block hb2 3
                  have y4 := cell_of_block hb2 4
                  have y5 := cell_of_block hb2 5
                  have y6 := cell_of_block hb2 6
                  have y7 := cell_of_block hb2 7
                  have y8 := cell_of_block hb2 8
                  simp only [List.getElem?_toArray, List.getElem?_cons_zero, List.getElem?_cons_succ] at y0 y1 y2 y3 y4 y5 y6 y7 y8
                  have f0 := frozen_of_block hr2 0
                  have z0 := cell_of_block hr2 0
                  have f1 := frozen_of_block hr2 1
                  have z1 := cell_of_block hr2 1
                  have f2 := frozen_of_block hr2 2
                  have z2 := cell_of_block hr2 2
                  have f3 := frozen_of_block hr2 3
                  have z3 := cell_of_block hr2 3
                  have f4 := frozen_of_block hr2 4
                  have z4 := cell_of_block hr2 4
                  have f5 := frozen_of_block hr2 5
                  have z5 := cell_of_block hr2 5
                  have f6 := frozen_of_block hr2 6
                  have z6 := cell_of_block hr2 6
                  have f7 := frozen_of_block hr2 7
                  have z7 := cell_of_block hr2 7
                  have f8 := frozen_of_block hr2 8
                  have z8 := cell_of_block hr2 8
                  simp only [List.getElem?_toArray, List.getElem?_cons_zero, List.getElem?_cons_succ] at z0 z1 z2 z3 z4 z5 z6 z7 z8
                  have h9 := Lib.hid (sto9of9 hr2 (.slice (some ⟨g3, 0, none⟩) (takeT (T1of S.T (S.a 0 i)) S.K).n c3) (.slice (some ⟨g2, 0, none⟩) S.T.n c2) (.int .i64 ((takeK (T1of S.T (S.a 0 i)) S.K).first : Int)) (.int .i64 ((takeK (T1of S.T (S.a 0 i)) S.K).next : Int)) (.int .i64 ((takeK (T1of S.T (S.a 0 i)) S.K).asked : Int)) (.slice (some ⟨g 0, 0, none⟩) (S.n 0) (c 0)) (.slice (some ⟨g 1, 0, none⟩) (S.n 1) (c 1)) (.slice (some ⟨h 0, 0, none⟩) (S.n 0) (S.n 0)) (.slice (some ⟨h 1, 0, none⟩) (S.n 1) (S.n 1)))
                  clear hr2 hb2
                  go_wp2_with fail
                  generalize ((((((((W2.setCell _ _).setCell _ _).setCell _ _).setCell _ _).setCell _ _).setCell _ _).setCell _ _).setCell _ _).setCell _ _ = W3 at *
                  have hR3 := h9.out.1
                  have k0 := cell_of_block hR3 0
                  have k1 := cell_of_block hR3 1
                  have k2 := cell_of_block hR3 2
                  have k3 := cell_of_block hR3 3
                  have k4 := cell_of_block hR3 4
                  have k5 := cell_of_block hR3 5
                  have k6 := cell_of_block hR3 6
                  have k7 := cell_of_block hR3 7
                  have k8 := cell_of_block hR3 8
                  simp only [List.getElem?_toArray, List.getElem?_cons_zero, List.getElem?_cons_succ] at k0 k1 k2 k3 k4 k5 k6 k7 k8
                  have HRS := HP.out.1.chg h9.out.2 (fun q hq => .inl (by simp at hq; rw [hq]; exact HIN.out)) (fun q hq => by have := HOW.out q hq; simp; omega)
                  have HRS0 := { HRS with t := HRS.t.more (B := A0) (fun k hk => .inl (HSB.out k hk)), own := HOA.out : RefS A0 W3 _ _ g c h _ }
                  have HCH : Chg [g 0, g 1, h 0, h 1] w W3 := (((HCW.out.mono (by simp)).trans HP.out.2).then h9.out.2 (fun q hq => by simp at hq; right; omega))
                  (try simp only [Exit.inBlock, Exit.then])
                  refine bodyPost_ret (v := .tuple #[st10 (.slice (some ⟨g3, 0, none⟩) (takeT (T1of S.T (S.a 0 i)) S.K).n c3) (.slice (some ⟨g2, 0, none⟩) S.T.n c2) (S.step 0 i).K S.n g c h, .bool true]) (by simp [results, Try.results46, go_sem, k0, k1, k2, k3, k4, k5, k6, k7, k8, st10, PS.step, T1of_eq]) rfl ?_
                  exact stepR_some HNX.out ⟨_, rfl, HRS0, HCH⟩
    · obtain rfl : i = S.n 0 := by omega
      have HF0 := Lib.hid (hM.out.1.trans firstFree_end)
      rename World => wq
      go_wp2_with fail
      clear x0 x1 x2 x3 x4 x5 x6 x7 x8 HXR
      go_loopw [7] (fun s wr => ∃ i : Nat, i ≤ S.n 1 ∧ s = .int .i64 (i : Int) ∧ Hid (firstFree (S.want 1) 0 (S.n 1) = firstFree (S.want 1) i (S.n 1 - i) ∧ Chg [] w1 wr)) (fun s _ => S.n 1 - (intOf s).toNat)
      case atStart => exact ⟨0, Nat.zero_le _, rfl, ⟨by rw [Nat.sub_zero], hM.out.2⟩⟩
      case round =>
        obtain ⟨i, hi, rfl, hM⟩ := hrel
        have hxr := (hM.out.2.block _ lx (by simp)).trans HX.out
        have x0 := cell_of_block hxr 0
        have x1 := cell_of_block hxr 1
        have x2 := cell_of_block hxr 2
        have x3 := cell_of_block hxr 3
        have x4 := cell_of_block hxr 4
        have x5 := cell_of_block hxr 5
        have x6 := cell_of_block hxr 6
        have x7 := cell_of_block hxr 7
        have x8 := cell_of_block hxr 8
        simp only [List.getElem?_toArray, List.getElem?_cons_zero, List.getElem?_cons_succ] at x0 x1 x2 x3 x4 x5 x6 x7 x8
        have lxr := heap_lt hxr
        have HXR := Lib.hid hxr
        have HS := Lib.hid ((HH.out.chg HC.out (by simp) (by simp)).chg hM.out.2 (by simp) (by simp))
        have HAR : Hid (∀ k, k ∈ A → k < wr.heap.size) := Lib.hid (fun k hk => by have := hA k hk; have := hM.out.2.size; omega)
        clear hxr
        by_cases hlt : i < S.n 1
        · have i1 : (i : Int) < (S.n 1 : Int) := by omega
          have lgr : g 1 < wr.heap.size := by obtain ⟨cur, q1, _⟩ := HS.out.ats 1 (by omega); exact heap_lt q1
          have ac : wr.cell? ⟨g 1, i, none⟩ = some (.int .i64 (S.a 1 i : Int)) := by
            obtain ⟨cur, q1, q2, q3, q4, q5⟩ := HS.out.ats 1 (by omega)
            rw [cell_of_block q1]; exact q5 i hlt
          have pc : wr.cell? ⟨h 1, i, none⟩ = some (.bool (S.p 1 i)) := by rw [cell_of_block (HS.out.pls 1 (by omega))]; exact bools_get hlt
          cases hpp : S.p 1 i with
          | true =>
            rw [hpp] at pc
            have HZ := Lib.hid (hM.out.1.trans (firstFree_on hlt (by unfold PS.want; simp [hpp])))
            go_wp2_with fail
            go_roundw
            case rel => exact ⟨i + 1, by omega, by go_num, ⟨HZ.out, hM.out.2⟩⟩
            case measure => simp [intOf]; omega
          | false =>
            rw [hpp] at pc
            by_cases ha : S.a 1 i = 0
            · have HNX := Lib.hid (next_hit (S := S) (j := 1) (by omega) (by intro j hj; obtain rfl : j = 0 := (by omega); exact HF0.out) (hM.out.1.trans (firstFree_hit hlt (show S.want 1 i = true by unfold PS.want; simp [hpp, ha]))))
              have ha0 : ((S.a 1 i : Int) == 0) = true := by simp [ha]
              clear ha
              have HCW := Lib.hid (HC.out.trans hM.out.2)
              have HRW := Lib.hid ((hM.out.2.block _ (heap_lt HR.out) (by simp)).trans HR.out)
              go_upto_region 13 with fail
              have HD0 := Lib.hid ((Chg.refl [] wr).drew)
              refine wp_region_held_drew (S := fun W' => W'.cell? ⟨w.heap.size, 0, none⟩ = some (.slice (some ⟨g1, 0, none⟩) S.T.n c1) ∧ W'.cell? ⟨w.heap.size, 1, none⟩ = some (.slice (some ⟨g2, 0, none⟩) S.T.n c2) ∧ W'.cell? ⟨w.heap.size, 2, none⟩ = some (.int .i64 (S.K.first : Int)) ∧ W'.cell? ⟨w.heap.size, 3, none⟩ = some (.int .i64 (S.K.next : Int)) ∧ W'.cell? ⟨w.heap.size, 4, none⟩ = some (.int .i64 (S.K.asked : Int)) ∧ W'.cell? ⟨w.heap.size, 5, none⟩ = some (.slice (some ⟨g 0, 0, none⟩) (S.n 0) (c 0)) ∧ W'.cell? ⟨w.heap.size, 6, none⟩ = some (.slice (some ⟨g 1, 0, none⟩) (S.n 1) (c 1)) ∧ W'.cell? ⟨w.heap.size, 7, none⟩ = some (.slice (some ⟨h 0, 0, none⟩) (S.n 0) (S.n 0)) ∧ W'.cell? ⟨w.heap.size, 8, none⟩ = some (.slice (some ⟨h 1, 0, none⟩) (S.n 1) (S.n 1)) ∧ W'.cell? ⟨g 1, i, none⟩ = some (.int .i64 (S.a 1 i : Int))) (by kernel_rfl) (by exact ⟨x0, x1, x2, x3, x4, x5, x6, x7, x8, ac⟩) (fun hHeld => ?_)
              refine wpAnyH_take (i := 0) (oi := ?_) (v := ?_) ?_ (by kernel_rfl) (by kernel_rfl) (by kernel_rfl) ?_ (Or.inl ⟨?_, ?_⟩) hHeld ?_
              rotate_left 2
              · (simp only [List.getElem?_toArray, List.getElem?_cons_succ, List.getElem?_cons_zero]; rfl)
              · exact fun _ _ _ h => h
              · rfl
              · (rintro W' ⟨s0, s1, s2, s3, s4, s5, s6, s7, s8, s9⟩; go_simp; first | done | with_reducible rfl)
              try simp only [Act.put, List.setIfInBounds_toArray, List.set_cons_zero, List.set_cons_succ]
              refine wpAnyH_take (i := 1) (oi := ?_) (v := ?_) ?_ (by kernel_rfl) (by kernel_rfl) (by kernel_rfl) ?_ (Or.inl ⟨?_, ?_⟩) hHeld ?_
              rotate_left 2
              · (simp only [List.getElem?_toArray, List.getElem?_cons_succ, List.getElem?_cons_zero]; rfl)
              · exact fun _ _ _ h => h
              · rfl
              · (rintro W' ⟨s0, s1, s2, s3, s4, s5, s6, s7, s8, s9⟩; go_simp; first | done | with_reducible rfl)
              try simp only [Act.put, List.setIfInBounds_toArray, List.set_cons_zero, List.set_cons_succ]
              refine wpAnyH_take (i := 2) (oi := ?_) (v := ?_) ?_ (by kernel_rfl) (by kernel_rfl) (by kernel_rfl) ?_ (Or.inl ⟨?_, ?_⟩) hHeld ?_
              rotate_left 2
              · (simp only [List.getElem?_toArray, List.getElem?_cons_succ, List.getElem?_cons_zero]; rfl)
              · exact fun _ _ _ h => h
              · rfl
              · (rintro W' ⟨s0, s1, s2, s3, s4, s5, s6, s7, s8, s9⟩; go_simp; first | done | with_reducible rfl)
              try simp only [Act.put, List.setIfInBounds_toArray, List.set_cons_zero, List.set_cons_succ]
              refine wpAnyH_take (i := 3) (oi := ?_) (v := ?_) ?_ (by kernel_rfl) (by kernel_rfl) (by kernel_rfl) ?_ (Or.inl ⟨?_, ?_⟩) hHeld ?_
              rotate_left 2
              · (simp only [List.getElem?_toArray, List.getElem?_cons_succ, List.getElem?_cons_zero]; rfl)
              · exact fun _ _ _ h => h
              · rfl
              · (rintro W' ⟨s0, s1, s2, s3, s4, s5, s6, s7, s8, s9⟩; go_simp; first | done | with_reducible rfl)
              try simp only [Act.put, List.setIfInBounds_toArray, List.set_cons_zero, List.set_cons_succ]
              refine wpAnyH_take (i := 4) (oi := ?_) (v := ?_) ?_ (by kernel_rfl) (by kernel_rfl) (by kernel_rfl) ?_ (Or.inl ⟨?_, ?_⟩) hHeld ?_
              rotate_left 2
              · (simp only [List.getElem?_toArray, List.getElem?_cons_succ, List.getElem?_cons_zero]; rfl)
              · exact fun _ _ _ h => h
              · rfl
              · (rintro W' ⟨s0, s1, s2, s3, s4, s5, s6, s7, s8, s9⟩; go_simp; first | done | with_reducible rfl)
              try simp only [Act.put, List.setIfInBounds_toArray, List.set_cons_zero, List.set_cons_succ]
              refine wpAnyH_take (i := 5) (oi := ?_) (v := ?_) ?_ (by kernel_rfl) (by kernel_rfl) (by kernel_rfl) ?_ (Or.inl ⟨?_, ?_⟩) hHeld ?_
              rotate_left 2
              · (simp only [List.getElem?_toArray, List.getElem?_cons_succ, List.getElem?_cons_zero]; rfl)
              · exact fun _ _ _ h => h
              · rfl
              · (rintro W' ⟨s0, s1, s2, s3, s4, s5, s6, s7, s8, s9⟩; go_simp; first | done | with_reducible rfl)
              try simp only [Act.put, List.setIfInBounds_toArray, List.set_cons_zero, List.set_cons_succ]
              refine wpAnyH_take (i := 6) (oi := ?_) (v := ?_) ?_ (by kernel_rfl) (by kernel_rfl) (by kernel_rfl) ?_ (Or.inl ⟨?_, ?_⟩) hHeld ?_
              rotate_left 2
              · (simp only [List.getElem?_toArray, List.getElem?_cons_succ, List.getElem?_cons_zero]; rfl)
              · exact fun _ _ _ h => h
              · rfl
              · (rintro W' ⟨s0, s1, s2, s3, s4, s5, s6, s7, s8, s9⟩; go_simp; first | done | with_reducible rfl)
              try simp only [Act.put, List.setIfInBounds_toArray, List.set_cons_zero, List.set_cons_succ]
              generalize wr.drew = w3 at *
              refine wpAnyH_ready (rs := [7, 11]) (by kernel_rfl) (by simp) ?_
              refine AllReadyH.cons (o := ?_) ?_ (fun K hK => ?_) ?_
              rotate_left 1
              · (simp only [List.getElem?_toArray, List.getElem?_cons_succ, List.getElem?_cons_zero]; rfl)
              · (go_simp; have cM := r10moved_at (n := S.n) (g := g) (c := c) (h := h) (HS.out.t.chg HD0.out (by simp)) (fun k hk => Nat.lt_of_lt_of_le (HAR.out k hk) HD0.out.size) (S.a 1 i) HS.out.f HS.out.nx; unfold st10 at cM; refine cM.mono ?_; clear cM; rintro e w6 ⟨u1, rfl, hT, hD⟩; obtain ⟨g3, c3, e3, _⟩ := hT.now; subst e3; have HT := Lib.hid hT; have HD1 := Lib.hid (HD0.out.trans hD); clear hT hD)
                refine hK.out _ _ ?_ (fun hHeld => ?_)
                · exact ⟨(HD1.out.cell (p := ⟨w.heap.size, 0, none⟩) lxr (by simp)).trans x0, (HD1.out.cell (p := ⟨w.heap.size, 1, none⟩) lxr (by simp)).trans x1, (HD1.out.cell (p := ⟨w.heap.size, 2, none⟩) lxr (by simp)).trans x2, (HD1.out.cell (p := ⟨w.heap.size, 3, none⟩) lxr (by simp)).trans x3, (HD1.out.cell (p := ⟨w.heap.size, 4, none⟩) lxr (by simp)).trans x4, (HD1.out.cell (p := ⟨w.heap.size, 5, none⟩) lxr (by simp)).trans x5, (HD1.out.cell (p := ⟨w.heap.size, 6, none⟩) lxr (by simp)).trans x6, (HD1.out.cell (p := ⟨w.heap.size, 7, none⟩) lxr (by simp)).trans x7, (HD1.out.cell (p := ⟨w.heap.size, 8, none⟩) lxr (by simp)).trans x8, (HD1.out.cell (p := ⟨g 1, i, none⟩) lgr (by simp)).trans ac⟩
                clear hK K
                try simp only [Act.put, List.setIfInBounds_toArray, List.set_cons_zero, List.set_cons_succ]
                refine wpAnyH_take (i := 8) (oi := ?_) (v := ?_) ?_ (by kernel_rfl) (by kernel_rfl) (by kernel_rfl) ?_ (Or.inl ⟨?_, ?_⟩) hHeld ?_
                rotate_left 2
                · (simp only [List.getElem?_toArray, List.getElem?_cons_succ, List.getElem?_cons_zero]; rfl)
                · exact fun _ _ _ h => h
                · rfl
                · (rintro W' ⟨s0, s1, s2, s3, s4, s5, s6, s7, s8, s9⟩; go_simp; first | done | with_reducible rfl)
                try simp only [Act.put, List.setIfInBounds_toArray, List.set_cons_zero, List.set_cons_succ]
                refine wpAnyH_take (i := 9) (oi := ?_) (v := ?_) ?_ (by kernel_rfl) (by kernel_rfl) (by kernel_rfl) ?_ (Or.inl ⟨?_, ?_⟩) hHeld ?_
                rotate_left 2
                · (simp only [List.getElem?_toArray, List.getElem?_cons_succ, List.getElem?_cons_zero]; rfl)
                · exact fun _ _ _ h => h
                · rfl
                · (rintro W' ⟨s0, s1, s2, s3, s4, s5, s6, s7, s8, s9⟩; go_simp; first | done | with_reducible rfl)
                try simp only [Act.put, List.setIfInBounds_toArray, List.set_cons_zero, List.set_cons_succ]
                refine wpAnyH_take (i := 10) (oi := ?_) (v := ?_) ?_ (by kernel_rfl) (by kernel_rfl) (by kernel_rfl) ?_ (Or.inl ⟨?_, ?_⟩) hHeld ?_
                rotate_left 2
                · (simp only [List.getElem?_toArray, List.getElem?_cons_succ, List.getElem?_cons_zero]; rfl)
                · exact fun _ _ _ h => h
                · rfl
                · (rintro W' ⟨s0, s1, s2, s3, s4, s5, s6, s7, s8, s9⟩; go_simp; first | done | with_reducible rfl)
                try simp only [Act.put, List.setIfInBounds_toArray, List.set_cons_zero, List.set_cons_succ]
                refine wpAnyH_ready (rs := [11]) (by kernel_rfl) (by simp) ?_
                refine AllReadyH.cons (o := ?_) ?_ (fun K hK => ?_) AllReadyH.nil
                rotate_left 1
                · (simp only [List.getElem?_toArray, List.getElem?_cons_succ, List.getElem?_cons_zero]; rfl)
                · (go_simp; have FA := Lib.hid (new_block w6 (.cells #[.slice none 0 0, .slice none 0 0, .int .i64 0, .int .i64 0, .int .i64 0, .slice none 0 0, .slice none 0 0, .slice none 0 0, .slice none 0 0] 57)); have HD2 := Lib.hid (HD1.out.alloc (.cells #[.slice none 0 0, .slice none 0 0, .int .i64 0, .int .i64 0, .int .i64 0, .slice none 0 0, .slice none 0 0, .slice none 0 0, .slice none 0 0] 57)); have HE := Lib.hid ((Chg.refl [] w6).alloc (.cells #[.slice none 0 0, .slice none 0 0, .int .i64 0, .int .i64 0, .int .i64 0, .slice none 0 0, .slice none 0 0, .slice none 0 0, .slice none 0 0] 57)); have HRD : Hid (∀ j, j ∈ [w6.heap.size] → j ∈ ([] : List Nat) ∨ wr.heap.size ≤ j) := Lib.hid (fun j hj => by have := HD1.out.size; simp at hj; right; omega); generalize w6.alloc _ = w7 at *)
                  refine hK.out _ _ ?_ (fun hHeld => ?_)
                  · exact ⟨(HD2.out.cell (p := ⟨w.heap.size, 0, none⟩) lxr (by simp)).trans x0, (HD2.out.cell (p := ⟨w.heap.size, 1, none⟩) lxr (by simp)).trans x1, (HD2.out.cell (p := ⟨w.heap.size, 2, none⟩) lxr (by simp)).trans x2, (HD2.out.cell (p := ⟨w.heap.size, 3, none⟩) lxr (by simp)).trans x3, (HD2.out.cell (p := ⟨w.heap.size, 4, none⟩) lxr (by simp)).trans x4, (HD2.out.cell (p := ⟨w.heap.size, 5, none⟩) lxr (by simp)).trans x5, (HD2.out.cell (p := ⟨w.heap.size, 6, none⟩) lxr (by simp)).trans x6, (HD2.out.cell (p := ⟨w.heap.size, 7, none⟩) lxr (by simp)).trans x7, (HD2.out.cell (p := ⟨w.heap.size, 8, none⟩) lxr (by simp)).trans x8, (HD2.out.cell (p := ⟨g 1, i, none⟩) lgr (by simp)).trans ac⟩
                  clear hK K
                  try simp only [Act.put, List.setIfInBounds_toArray, List.set_cons_zero, List.set_cons_succ]
                  refine wpAnyH_ready (rs := [12]) (by kernel_rfl) (by simp) ?_
                  refine AllReadyH.cons (o := ?_) ?_ (fun K hK => ?_) AllReadyH.nil
                  rotate_left 1
                  · (simp only [List.getElem?_toArray, List.getElem?_cons_succ, List.getElem?_cons_zero]; rfl)
                  · (have hr2 := FA.out; have z0 := cell_of_block hr2 0; have z1 := cell_of_block hr2 1; have z2 := cell_of_block hr2 2; have z3 := cell_of_block hr2 3; have z4 := cell_of_block hr2 4; have z5 := cell_of_block hr2 5; have z6 := cell_of_block hr2 6; have z7 := cell_of_block hr2 7; have z8 := cell_of_block hr2 8; have f0 := frozen_of_block hr2 0; have f1 := frozen_of_block hr2 1; have f2 := frozen_of_block hr2 2; have f3 := frozen_of_block hr2 3; have f4 := frozen_of_block hr2 4; have f5 := frozen_of_block hr2 5; have f6 := frozen_of_block hr2 6; have f7 := frozen_of_block hr2 7; have f8 := frozen_of_block hr2 8; simp only [List.getElem?_toArray, List.getElem?_cons_zero, List.getElem?_cons_succ] at z0 z1 z2 z3 z4 z5 z6 z7 z8; clear hr2; go_simp; have h9 := sto9of9 FA.out (.slice (some ⟨g3, 0, none⟩) (takeT (T1of S.T (S.a 1 i)) S.K).n c3) (.slice (some ⟨g2, 0, none⟩) S.T.n c2) (.int .i64 ((takeK (T1of S.T (S.a 1 i)) S.K).first : Int)) (.int .i64 ((takeK (T1of S.T (S.a 1 i)) S.K).next : Int)) (.int .i64 ((takeK (T1of S.T (S.a 1 i)) S.K).asked : Int)) (.slice (some ⟨g 0, 0, none⟩) (S.n 0) (c 0)) (.slice (some ⟨g 1, 0, none⟩) (S.n 1) (c 1)) (.slice (some ⟨h 0, 0, none⟩) (S.n 0) (S.n 0)) (.slice (some ⟨h 1, 0, none⟩) (S.n 1) (S.n 1)); have hRD := HRD.out; have HW := Lib.hid (HD2.out.then h9.2 hRD); have HTW := Lib.hid (HT.out.chg (HE.out.then h9.2 (L := []) (fun j hj => by simp at hj; right; omega)) (by simp)); have HRB := Lib.hid h9.1; clear h9 hRD z0 f0 z1 f1 z2 f2 z3 f3 z4 f4 z5 f5 z6 f6 z7 f7 z8 f8; generalize ((((((((w7.setCell _ _).setCell _ _).setCell _ _).setCell _ _).setCell _ _).setCell _ _).setCell _ _).setCell _ _).setCell _ _ = W at *)
                    refine hK.out _ _ ?_ (fun hHeld => ?_)
                    · exact ⟨(HW.out.cell (p := ⟨w.heap.size, 0, none⟩) lxr (by simp)).trans x0, (HW.out.cell (p := ⟨w.heap.size, 1, none⟩) lxr (by simp)).trans x1, (HW.out.cell (p := ⟨w.heap.size, 2, none⟩) lxr (by simp)).trans x2, (HW.out.cell (p := ⟨w.heap.size, 3, none⟩) lxr (by simp)).trans x3, (HW.out.cell (p := ⟨w.heap.size, 4, none⟩) lxr (by simp)).trans x4, (HW.out.cell (p := ⟨w.heap.size, 5, none⟩) lxr (by simp)).trans x5, (HW.out.cell (p := ⟨w.heap.size, 6, none⟩) lxr (by simp)).trans x6, (HW.out.cell (p := ⟨w.heap.size, 7, none⟩) lxr (by simp)).trans x7, (HW.out.cell (p := ⟨w.heap.size, 8, none⟩) lxr (by simp)).trans x8, (HW.out.cell (p := ⟨g 1, i, none⟩) lgr (by simp)).trans ac⟩
                    clear hK K
                    try simp only [Act.put, List.setIfInBounds_toArray, List.set_cons_zero, List.set_cons_succ]
                    refine wpAnyH_take (i := 13) (oi := ?_) (v := ?_) ?_ (by kernel_rfl) (by kernel_rfl) (by kernel_rfl) ?_ (Or.inl ⟨?_, ?_⟩) hHeld ?_
                    rotate_left 2
                    · (simp only [List.getElem?_toArray, List.getElem?_cons_succ, List.getElem?_cons_zero]; rfl)
                    · exact fun _ _ _ h => h
                    · rfl
                    · (rintro W' ⟨s0, s1, s2, s3, s4, s5, s6, s7, s8, s9⟩; go_simp; first | done | with_reducible rfl)
                    try simp only [Act.put, List.setIfInBounds_toArray, List.set_cons_zero, List.set_cons_succ]
                    refine wpAnyH_done (by kernel_rfl) ?_ _
                    have hb := HRB.out
                    have y0 := cell_of_block hb 0
                    have y1 := cell_of_block hb 1
                    have y2 := cell_of_block hb 2
                    have y3 := cell_of_block hb 3
                    have y4 := cell_of_block hb 4
                    have y5 := cell_of_block hb 5
                    have y6 := cell_of_block hb 6
                    have y7 := cell_of_block hb 7
                    have y8 := cell_of_block hb 8
                    simp only [List.getElem?_toArray, List.getElem?_cons_zero, List.getElem?_cons_succ] at y0 y1 y2 y3 y4 y5 y6 y7 y8
                    have lrb := heap_lt hb
                    clear hb
                    have hgk : ∃ cur, W.heap[g 1]? = some (.cells cur 3 (0, 0)) := by obtain ⟨cur, q1, _⟩ := HS.out.ats 1 (by omega); exact ⟨cur, (HW.out.block _ (heap_lt q1) (by simp)).trans q1⟩
                    obtain ⟨curk, hgk⟩ := hgk
                    have hhk := (HW.out.block _ (heap_lt (HS.out.pls 1 (by omega))) (by simp)).trans (HS.out.pls 1 (by omega))
                    have j1 := frozen_of_block hgk i
                    have j2 := frozen_of_block hhk i
                    have j3 := (HW.out.cell (p := ⟨g 1, i, none⟩) lgr (by simp)).trans ac
                    have j4 := (HW.out.cell (p := ⟨h 1, i, none⟩) (heap_lt (HS.out.pls 1 (by omega))) (by simp)).trans pc
                    have hKb := takeK_bd (T := T1of S.T (S.a 1 i)) HS.out.f (by rw [T1of_eq, T1_n]; exact HS.out.nx)
                    have HP := Lib.hid (HS.out.put (k := 1) (i := i) (by omega) hlt HW.out HTW.out (by rw [takeT_n, T1of_eq, T1_n]) hKb.1 (by rw [takeT_n]; exact hKb.2.1) (S.new 1 i))
                    have HBN := Lib.hid (show takeB (T1of S.T (S.a 1 i)) S.K = ((S.new 1 i : Nat) : Int) from takeB_new S 1 i)
                    rw [HBN.out]
                    clear hgk hhk hKb x0 x1 x2 x3 x4 x5 x6 x7 x8
                    have lhr0 := heap_lt (HS.out.pls 1 (by omega))
                    have ng1 : w6.heap.size ≠ g 1 := by have h1 := HRD.out w6.heap.size (by simp); simp at h1; omega
                    have ng2 : w6.heap.size ≠ h 1 := by have h1 := HRD.out w6.heap.size (by simp); simp at h1; omega
                    have ng3 : g 1 ≠ w6.heap.size := Ne.symm ng1
                    have ng4 : h 1 ≠ w6.heap.size := Ne.symm ng2
                    have ng5 : g 1 ≠ h 1 := by
                      have hnd := HS.out.nd
                      simp only [List.nodup_cons, List.mem_cons, List.not_mem_nil, or_false, not_or, List.nodup_nil, and_true] at hnd
                      omega
                    have ng6 : h 1 ≠ g 1 := Ne.symm ng5
                    go_upto_region 16 with fail
                    have CW : Hid (Chg [g 1, h 1] W ((W.setCell ⟨g 1, i, none⟩ (.int .i64 ((S.new 1 i : Nat) : Int))).setCell ⟨h 1, i, none⟩ (.bool true))) := Lib.hid (((Chg.refl _ _).setCell (.inl (by simp)) _).setCell (.inl (by simp)) _)
                    have lhr := heap_lt (HS.out.pls 1 (by omega))
                    have lgw : g 1 < w.heap.size := by obtain ⟨cur, q1, _⟩ := HH.out.ats 1 (by omega); exact heap_lt q1
                    have lhw := heap_lt (HH.out.pls 1 (by omega))
                    have hb2 := (CW.out.block _ lrb (by have h1 := HRD.out w6.heap.size (by simp); simp at h1; simp; omega)).trans HRB.out
                    have hr2 := (CW.out.block _ (heap_lt ((HW.out.block _ (heap_lt HRW.out) (by simp)).trans HRW.out)) (by simp; omega)).trans ((HW.out.block _ (heap_lt HRW.out) (by simp)).trans HRW.out)
                    have HRN := Lib.hid (show (w.heap.size + 1 : Nat) ≠ w6.heap.size from by have h1 := HRD.out w6.heap.size (by simp); have h2 := heap_lt HRW.out; simp at h1; omega)
                    clear y0 y1 y2 y3 y4 y5 y6 y7 y8 j1 j2 j3 j4 ac pc
                    generalize (W.setCell _ _).setCell _ _ = W2 at *
                    have y0 := cell_of_block hb2 0
                    have y1 := cell_of_block hb2 1
                    have y2 := cell_of_block hb2 2
                    have y3 := cell_of_block hb2 3
                    have y4 := cell_of_block hb2 4
                    have y5 := cell_of_block hb2 5
                    have y6 := cell_of_block hb2 6
                    have y7 := cell_of_block hb2 7
                    have y8 := cell_of_block hb2 8
                    simp only [List.getElem?_toArray, List.getElem?_cons_zero, List.getElem?_cons_succ] at y0 y1 y2 y3 y4 y5 y6 y7 y8
                    have f0 := frozen_of_block hr2 0
                    have z0 := cell_of_block hr2 0
                    have f1 := frozen_of_block hr2 1
                    have z1 := cell_of_block hr2 1
                    have f2 := frozen_of_block hr2 2
                    have z2 := cell_of_block hr2 2
                    have f3 := frozen_of_block hr2 3
                    have z3 := cell_of_block hr2 3
                    have f4 := frozen_of_block hr2 4
                    have z4 := cell_of_block hr2 4
                    have f5 := frozen_of_block hr2 5
                    have z5 := cell_of_block hr2 5
                    have f6 := frozen_of_block hr2 6
                    have z6 := cell_of_block hr2 6
                    have f7 := frozen_of_block hr2 7
                    have z7 := cell_of_block hr2 7
                    have f8 := frozen_of_block hr2 8
                    have z8 := cell_of_block hr2 8
                    simp only [List.getElem?_toArray, List.getElem?_cons_zero, List.getElem?_cons_succ] at z0 z1 z2 z3 z4 z5 z6 z7 z8
                    have h9 := Lib.hid (sto9of9 hr2 (.slice (some ⟨g3, 0, none⟩) (takeT (T1of S.T (S.a 1 i)) S.K).n c3) (.slice (some ⟨g2, 0, none⟩) S.T.n c2) (.int .i64 ((takeK (T1of S.T (S.a 1 i)) S.K).first : Int)) (.int .i64 ((takeK (T1of S.T (S.a 1 i)) S.K).next : Int)) (.int .i64 ((takeK (T1of S.T (S.a 1 i)) S.K).asked : Int)) (.slice (some ⟨g 0, 0, none⟩) (S.n 0) (c 0)) (.slice (some ⟨g 1, 0, none⟩) (S.n 1) (c 1)) (.slice (some ⟨h 0, 0, none⟩) (S.n 0) (S.n 0)) (.slice (some ⟨h 1, 0, none⟩) (S.n 1) (S.n 1)))
                    clear hr2 hb2
                    go_wp2_with fail
                    generalize ((((((((W2.setCell _ _).setCell _ _).setCell _ _).setCell _ _).setCell _ _).setCell _ _).setCell _ _).setCell _ _).setCell _ _ = W3 at *
                    have hR3 := h9.out.1
                    have k0 := cell_of_block hR3 0
                    have k1 := cell_of_block hR3 1
                    have k2 := cell_of_block hR3 2
                    have k3 := cell_of_block hR3 3
                    have k4 := cell_of_block hR3 4
                    have k5 := cell_of_block hR3 5
                    have k6 := cell_of_block hR3 6
                    have k7 := cell_of_block hR3 7
                    have k8 := cell_of_block hR3 8
                    simp only [List.getElem?_toArray, List.getElem?_cons_zero, List.getElem?_cons_succ] at k0 k1 k2 k3 k4 k5 k6 k7 k8
                    have HRS := HP.out.1.chg h9.out.2 (fun q hq => .inl (by simp at hq; rw [hq]; exact HIN.out)) (fun q hq => by have := HOW.out q hq; simp; omega)
                    have HRS0 := { HRS with t := HRS.t.more (B := A0) (fun k hk => .inl (HSB.out k hk)), own := HOA.out : RefS A0 W3 _ _ g c h _ }
                    have HCH : Chg [g 0, g 1, h 0, h 1] w W3 := (((HCW.out.mono (by simp)).trans HP.out.2).then h9.out.2 (fun q hq => by simp at hq; right; omega))
                    (try simp only [Exit.inBlock, Exit.then])
                    refine bodyPost_ret (v := .tuple #[st10 (.slice (some ⟨g3, 0, none⟩) (takeT (T1of S.T (S.a 1 i)) S.K).n c3) (.slice (some ⟨g2, 0, none⟩) S.T.n c2) (S.step 1 i).K S.n g c h, .bool true]) (by simp [results, Try.results46, go_sem, k0, k1, k2, k3, k4, k5, k6, k7, k8, st10, PS.step, T1of_eq]) rfl ?_
                    exact stepR_some HNX.out ⟨_, rfl, HRS0, HCH⟩
              refine AllReadyH.cons (o := ?_) ?_ (fun K hK => ?_) AllReadyH.nil
              rotate_left 1
              · (simp only [List.getElem?_toArray, List.getElem?_cons_succ, List.getElem?_cons_zero]; rfl)
              · (go_simp; have FA := Lib.hid (new_block w3 (.cells #[.slice none 0 0, .slice none 0 0, .int .i64 0, .int .i64 0, .int .i64 0, .slice none 0 0, .slice none 0 0, .slice none 0 0, .slice none 0 0] 57)); have HD2 := Lib.hid (HD0.out.alloc (.cells #[.slice none 0 0, .slice none 0 0, .int .i64 0, .int .i64 0, .int .i64 0, .slice none 0 0, .slice none 0 0, .slice none 0 0, .slice none 0 0] 57)); have HRD : Hid (∀ j, j ∈ [w3.heap.size] → j ∈ ([] : List Nat) ∨ wr.heap.size ≤ j) := Lib.hid (fun j hj => by have := HD0.out.size; simp at hj; right; omega); generalize w3.alloc _ = w5 at *)
                refine hK.out _ _ ?_ (fun hHeld => ?_)
                · exact ⟨(HD2.out.cell (p := ⟨w.heap.size, 0, none⟩) lxr (by simp)).trans x0, (HD2.out.cell (p := ⟨w.heap.size, 1, none⟩) lxr (by simp)).trans x1, (HD2.out.cell (p := ⟨w.heap.size, 2, none⟩) lxr (by simp)).trans x2, (HD2.out.cell (p := ⟨w.heap.size, 3, none⟩) lxr (by simp)).trans x3, (HD2.out.cell (p := ⟨w.heap.size, 4, none⟩) lxr (by simp)).trans x4, (HD2.out.cell (p := ⟨w.heap.size, 5, none⟩) lxr (by simp)).trans x5, (HD2.out.cell (p := ⟨w.heap.size, 6, none⟩) lxr (by simp)).trans x6, (HD2.out.cell (p := ⟨w.heap.size, 7, none⟩) lxr (by simp)).trans x7, (HD2.out.cell (p := ⟨w.heap.size, 8, none⟩) lxr (by simp)).trans x8, (HD2.out.cell (p := ⟨g 1, i, none⟩) lgr (by simp)).trans ac⟩
                clear hK K
                try simp only [Act.put, List.setIfInBounds_toArray, List.set_cons_zero, List.set_cons_succ]
                refine wpAnyH_ready (rs := [7]) (by kernel_rfl) (by simp) ?_
                refine AllReadyH.cons (o := ?_) ?_ (fun K hK => ?_) AllReadyH.nil
                rotate_left 1
                · (simp only [List.getElem?_toArray, List.getElem?_cons_succ, List.getElem?_cons_zero]; rfl)
                · (go_simp; have cM := r10moved_at (A := A ++ [w3.heap.size]) (n := S.n) (g := g) (c := c) (h := h) ((HS.out.t.more (B := A ++ [w3.heap.size]) (fun k hk => by rcases List.mem_append.1 hk with q | q; exact .inl q; have := HD0.out.size; simp at q; right; omega)).chg HD2.out (by simp)) (fun k hk => by rcases List.mem_append.1 hk with q | q; exact Nat.lt_of_lt_of_le (HAR.out k q) HD2.out.size; have := heap_lt FA.out; simp at q; omega) (S.a 1 i) HS.out.f HS.out.nx; unfold st10 at cM; refine cM.mono ?_; clear cM; rintro e w6 ⟨u1, rfl, hT, hD⟩; obtain ⟨g3, c3, e3, _⟩ := hT.now; subst e3; have HTb := Lib.hid hT; have FA2 := Lib.hid ((hD.block _ (heap_lt FA.out) (by simp)).trans FA.out); have HD1 := Lib.hid (HD2.out.trans hD); clear hT hD)
                  refine hK.out _ _ ?_ (fun hHeld => ?_)
                  · exact ⟨(HD1.out.cell (p := ⟨w.heap.size, 0, none⟩) lxr (by simp)).trans x0, (HD1.out.cell (p := ⟨w.heap.size, 1, none⟩) lxr (by simp)).trans x1, (HD1.out.cell (p := ⟨w.heap.size, 2, none⟩) lxr (by simp)).trans x2, (HD1.out.cell (p := ⟨w.heap.size, 3, none⟩) lxr (by simp)).trans x3, (HD1.out.cell (p := ⟨w.heap.size, 4, none⟩) lxr (by simp)).trans x4, (HD1.out.cell (p := ⟨w.heap.size, 5, none⟩) lxr (by simp)).trans x5, (HD1.out.cell (p := ⟨w.heap.size, 6, none⟩) lxr (by simp)).trans x6, (HD1.out.cell (p := ⟨w.heap.size, 7, none⟩) lxr (by simp)).trans x7, (HD1.out.cell (p := ⟨w.heap.size, 8, none⟩) lxr (by simp)).trans x8, (HD1.out.cell (p := ⟨g 1, i, none⟩) lgr (by simp)).trans ac⟩
                  clear hK K
                  try simp only [Act.put, List.setIfInBounds_toArray, List.set_cons_zero, List.set_cons_succ]
                  refine wpAnyH_take (i := 8) (oi := ?_) (v := ?_) ?_ (by kernel_rfl) (by kernel_rfl) (by kernel_rfl) ?_ (Or.inl ⟨?_, ?_⟩) hHeld ?_
                  rotate_left 2
                  · (simp only [List.getElem?_toArray, List.getElem?_cons_succ, List.getElem?_cons_zero]; rfl)
                  · exact fun _ _ _ h => h
                  · rfl
                  · (rintro W' ⟨s0, s1, s2, s3, s4, s5, s6, s7, s8, s9⟩; go_simp; first | done | with_reducible rfl)
                  try simp only [Act.put, List.setIfInBounds_toArray, List.set_cons_zero, List.set_cons_succ]
                  refine wpAnyH_take (i := 9) (oi := ?_) (v := ?_) ?_ (by kernel_rfl) (by kernel_rfl) (by kernel_rfl) ?_ (Or.inl ⟨?_, ?_⟩) hHeld ?_
                  rotate_left 2
                  · (simp only [List.getElem?_toArray, List.getElem?_cons_succ, List.getElem?_cons_zero]; rfl)
                  · exact fun _ _ _ h => h
                  · rfl
                  · (rintro W' ⟨s0, s1, s2, s3, s4, s5, s6, s7, s8, s9⟩; go_simp; first | done | with_reducible rfl)
                  try simp only [Act.put, List.setIfInBounds_toArray, List.set_cons_zero, List.set_cons_succ]
                  refine wpAnyH_take (i := 10) (oi := ?_) (v := ?_) ?_ (by kernel_rfl) (by kernel_rfl) (by kernel_rfl) ?_ (Or.inl ⟨?_, ?_⟩) hHeld ?_
                  rotate_left 2
                  · (simp only [List.getElem?_toArray, List.getElem?_cons_succ, List.getElem?_cons_zero]; rfl)
                  · exact fun _ _ _ h => h
                  · rfl
                  · (rintro W' ⟨s0, s1, s2, s3, s4, s5, s6, s7, s8, s9⟩; go_simp; first | done | with_reducible rfl)
                  try simp only [Act.put, List.setIfInBounds_toArray, List.set_cons_zero, List.set_cons_succ]
                  refine wpAnyH_ready (rs := [12]) (by kernel_rfl) (by simp) ?_
                  refine AllReadyH.cons (o := ?_) ?_ (fun K hK => ?_) AllReadyH.nil
                  rotate_left 1
                  · (simp only [List.getElem?_toArray, List.getElem?_cons_succ, List.getElem?_cons_zero]; rfl)
                  · (have hr2 := FA2.out; have z0 := cell_of_block hr2 0; have z1 := cell_of_block hr2 1; have z2 := cell_of_block hr2 2; have z3 := cell_of_block hr2 3; have z4 := cell_of_block hr2 4; have z5 := cell_of_block hr2 5; have z6 := cell_of_block hr2 6; have z7 := cell_of_block hr2 7; have z8 := cell_of_block hr2 8; have f0 := frozen_of_block hr2 0; have f1 := frozen_of_block hr2 1; have f2 := frozen_of_block hr2 2; have f3 := frozen_of_block hr2 3; have f4 := frozen_of_block hr2 4; have f5 := frozen_of_block hr2 5; have f6 := frozen_of_block hr2 6; have f7 := frozen_of_block hr2 7; have f8 := frozen_of_block hr2 8; simp only [List.getElem?_toArray, List.getElem?_cons_zero, List.getElem?_cons_succ] at z0 z1 z2 z3 z4 z5 z6 z7 z8; clear hr2; go_simp; have h9 := sto9of9 FA2.out (.slice (some ⟨g3, 0, none⟩) (takeT (T1of S.T (S.a 1 i)) S.K).n c3) (.slice (some ⟨g2, 0, none⟩) S.T.n c2) (.int .i64 ((takeK (T1of S.T (S.a 1 i)) S.K).first : Int)) (.int .i64 ((takeK (T1of S.T (S.a 1 i)) S.K).next : Int)) (.int .i64 ((takeK (T1of S.T (S.a 1 i)) S.K).asked : Int)) (.slice (some ⟨g 0, 0, none⟩) (S.n 0) (c 0)) (.slice (some ⟨g 1, 0, none⟩) (S.n 1) (c 1)) (.slice (some ⟨h 0, 0, none⟩) (S.n 0) (S.n 0)) (.slice (some ⟨h 1, 0, none⟩) (S.n 1) (S.n 1)); have hRD := HRD.out; have HW := Lib.hid (HD1.out.then h9.2 hRD); have HTW := Lib.hid ((HTb.out.chg h9.2 (fun k hk => .inl (List.mem_append.2 (.inr hk)))).more (B := A) (fun k hk => .inl (List.mem_append.2 (.inl hk)))); have HRB := Lib.hid h9.1; clear h9 hRD z0 f0 z1 f1 z2 f2 z3 f3 z4 f4 z5 f5 z6 f6 z7 f7 z8 f8; generalize ((((((((w6.setCell _ _).setCell _ _).setCell _ _).setCell _ _).setCell _ _).setCell _ _).setCell _ _).setCell _ _).setCell _ _ = W at *)
                    refine hK.out _ _ ?_ (fun hHeld => ?_)
                    · exact ⟨(HW.out.cell (p := ⟨w.heap.size, 0, none⟩) lxr (by simp)).trans x0, (HW.out.cell (p := ⟨w.heap.size, 1, none⟩) lxr (by simp)).trans x1, (HW.out.cell (p := ⟨w.heap.size, 2, none⟩) lxr (by simp)).trans x2, (HW.out.cell (p := ⟨w.heap.size, 3, none⟩) lxr (by simp)).trans x3, (HW.out.cell (p := ⟨w.heap.size, 4, none⟩) lxr (by simp)).trans x4, (HW.out.cell (p := ⟨w.heap.size, 5, none⟩) lxr (by simp)).trans x5, (HW.out.cell (p := ⟨w.heap.size, 6, none⟩) lxr (by simp)).trans x6, (HW.out.cell (p := ⟨w.heap.size, 7, none⟩) lxr (by simp)).trans x7, (HW.out.cell (p := ⟨w.heap.size, 8, none⟩) lxr (by simp)).trans x8, (HW.out.cell (p := ⟨g 1, i, none⟩) lgr (by simp)).trans ac⟩
                    clear hK K
                    try simp only [Act.put, List.setIfInBounds_toArray, List.set_cons_zero, List.set_cons_succ]
                    refine wpAnyH_take (i := 13) (oi := ?_) (v := ?_) ?_ (by kernel_rfl) (by kernel_rfl) (by kernel_rfl) ?_ (Or.inl ⟨?_, ?_⟩) hHeld ?_
                    rotate_left 2
                    · (simp only [List.getElem?_toArray, List.getElem?_cons_succ, List.getElem?_cons_zero]; rfl)
                    · exact fun _ _ _ h => h
                    · rfl
                    · (rintro W' ⟨s0, s1, s2, s3, s4, s5, s6, s7, s8, s9⟩; go_simp; first | done | with_reducible rfl)
                    try simp only [Act.put, List.setIfInBounds_toArray, List.set_cons_zero, List.set_cons_succ]
                    refine wpAnyH_done (by kernel_rfl) ?_ _
                    have hb := HRB.out
                    have y0 := cell_of_block hb 0
                    have y1 := cell_of_block hb 1
                    have y2 := cell_of_block hb 2
                    have y3 := cell_of_block hb 3
                    have y4 := cell_of_block hb 4
                    have y5 := cell_of_block hb 5
                    have y6 := cell_of_block hb 6
                    have y7 := cell_of_block hb 7
                    have y8 := cell_of_block hb 8
                    simp only [List.getElem?_toArray, List.getElem?_cons_zero, List.getElem?_cons_succ] at y0 y1 y2 y3 y4 y5 y6 y7 y8
                    have lrb := heap_lt hb
                    clear hb
                    have hgk : ∃ cur, W.heap[g 1]? = some (.cells cur 3 (0, 0)) := by obtain ⟨cur, q1, _⟩ := HS.out.ats 1 (by omega); exact ⟨cur, (HW.out.block _ (heap_lt q1) (by simp)).trans q1⟩
                    obtain ⟨curk, hgk⟩ := hgk
                    have hhk := (HW.out.block _ (heap_lt (HS.out.pls 1 (by omega))) (by simp)).trans (HS.out.pls 1 (by omega))
                    have j1 := frozen_of_block hgk i
                    have j2 := frozen_of_block hhk i
                    have j3 := (HW.out.cell (p := ⟨g 1, i, none⟩) lgr (by simp)).trans ac
                    have j4 := (HW.out.cell (p := ⟨h 1, i, none⟩) (heap_lt (HS.out.pls 1 (by omega))) (by simp)).trans pc
                    have hKb := takeK_bd (T := T1of S.T (S.a 1 i)) HS.out.f (by rw [T1of_eq, T1_n]; exact HS.out.nx)
                    have HP := Lib.hid (HS.out.put (k := 1) (i := i) (by omega) hlt HW.out HTW.out (by rw [takeT_n, T1of_eq, T1_n]) hKb.1 (by rw [takeT_n]; exact hKb.2.1) (S.new 1 i))
                    have HBN := Lib.hid (show takeB (T1of S.T (S.a 1 i)) S.K = ((S.new 1 i : Nat) : Int) from takeB_new S 1 i)
                    rw [HBN.out]
                    clear hgk hhk hKb x0 x1 x2 x3 x4 x5 x6 x7 x8
                    have lhr0 := heap_lt (HS.out.pls 1 (by omega))
                    have ng1 : w3.heap.size ≠ g 1 := by have h1 := HRD.out w3.heap.size (by simp); simp at h1; omega
                    have ng2 : w3.heap.size ≠ h 1 := by have h1 := HRD.out w3.heap.size (by simp); simp at h1; omega
                    have ng3 : g 1 ≠ w3.heap.size := Ne.symm ng1
                    have ng4 : h 1 ≠ w3.heap.size := Ne.symm ng2
                    have ng5 : g 1 ≠ h 1 := by
                      have hnd := HS.out.nd
                      simp only [List.nodup_cons, List.mem_cons, List.not_mem_nil, or_false, not_or, List.nodup_nil, and_true] at hnd
                      omega
                    have ng6 : h 1 ≠ g 1 := Ne.symm ng5
                    go_upto_region 16 with fail
                    have CW : Hid (Chg [g 1, h 1] W ((W.setCell ⟨g 1, i, none⟩ (.int .i64 ((S.new 1 i : Nat) : Int))).setCell ⟨h 1, i, none⟩ (.bool true))) := Lib.hid (((Chg.refl _ _).setCell (.inl (by simp)) _).setCell (.inl (by simp)) _)
                    have lhr := heap_lt (HS.out.pls 1 (by omega))
                    have lgw : g 1 < w.heap.size := by obtain ⟨cur, q1, _⟩ := HH.out.ats 1 (by omega); exact heap_lt q1
                    have lhw := heap_lt (HH.out.pls 1 (by omega))
                    have hb2 := (CW.out.block _ lrb (by have h1 := HRD.out w3.heap.size (by simp); simp at h1; simp; omega)).trans HRB.out
                    have hr2 := (CW.out.block _ (heap_lt ((HW.out.block _ (heap_lt HRW.out) (by simp)).trans HRW.out)) (by simp; omega)).trans ((HW.out.block _ (heap_lt HRW.out) (by simp)).trans HRW.out)
                    have HRN := Lib.hid (show (w.heap.size + 1 : Nat) ≠ w3.heap.size from by have h1 := HRD.out w3.heap.size (by simp); have h2 := heap_lt HRW.out; simp at h1; omega)
                    clear y0 y1 y2 y3 y4 y5 y6 y7 y8 j1 j2 j3 j4 ac pc
                    generalize (W.setCell _ _).setCell _ _ = W2 at *
                    have y0 := cell_of_block hb2 0
                    have y1 := cell_of_block hb2 1
                    have y2 := cell_of_block hb2 2
                    have y3 := cell_of_block hb2 3
                    have y4 := cell_of_block hb2 4
                    have y5 := cell_of_block hb2 5
                    have y6 := cell_of_block hb2 6
                    have y7 := cell_of_block hb2 7
                    have y8 := cell_of_block hb2 8
                    simp only [List.getElem?_toArray, List.getElem?_cons_zero, List.getElem?_cons_succ] at y0 y1 y2 y3 y4 y5 y6 y7 y8
                    have f0 := frozen_of_block hr2 0
                    have z0 := cell_of_block hr2 0
                    have f1 := frozen_of_block hr2 1
                    have z1 := cell_of_block hr2 1
                    have f2 := frozen_of_block hr2 2
                    have z2 := cell_of_block hr2 2
                    have f3 := frozen_of_block hr2 3
                    have z3 := cell_of_block hr2 3
                    have f4 := frozen_of_block hr2 4
                    have z4 := cell_of_block hr2 4
                    have f5 := frozen_of_block hr2 5
                    have z5 := cell_of_block hr2 5
                    have f6 := frozen_of_block hr2 6
                    have z6 := cell_of_block hr2 6
                    have f7 := frozen_of_block hr2 7
                    have z7 := cell_of_block hr2 7
                    have f8 := frozen_of_block hr2 8
                    have z8 := cell_of_block hr2 8
                    simp only [List.getElem?_toArray, List.getElem?_cons_zero, List.getElem?_cons_succ] at z0 z1 z2 z3 z4 z5 z6 z7 z8
                    have h9 := Lib.hid (sto9of9 hr2 (.slice (some ⟨g3, 0, none⟩) (takeT (T1of S.T (S.a 1 i)) S.K).n c3) (.slice (some ⟨g2, 0, none⟩) S.T.n c2) (.int .i64 ((takeK (T1of S.T (S.a 1 i)) S.K).first : Int)) (.int .i64 ((takeK (T1of S.T (S.a 1 i)) S.K).next : Int)) (.int .i64 ((takeK (T1of S.T (S.a 1 i)) S.K).asked : Int)) (.slice (some ⟨g 0, 0, none⟩) (S.n 0) (c 0)) (.slice (some ⟨g 1, 0, none⟩) (S.n 1) (c 1)) (.slice (some ⟨h 0, 0, none⟩) (S.n 0) (S.n 0)) (.slice (some ⟨h 1, 0, none⟩) (S.n 1) (S.n 1)))
                    clear hr2 hb2
                    go_wp2_with fail
                    generalize ((((((((W2.setCell _ _).setCell _ _).setCell _ _).setCell _ _).setCell _ _).setCell _ _).setCell _ _).setCell _ _).setCell _ _ = W3 at *
                    have hR3 := h9.out.1
                    have k0 := cell_of_block hR3 0
                    have k1 := cell_of_block hR3 1
                    have k2 := cell_of_block hR3 2
                    have k3 := cell_of_block hR3 3
                    have k4 := cell_of_block hR3 4
                    have k5 := cell_of_block hR3 5
                    have k6 := cell_of_block hR3 6
                    have k7 := cell_of_block hR3 7
                    have k8 := cell_of_block hR3 8
                    simp only [List.getElem?_toArray, List.getElem?_cons_zero, List.getElem?_cons_succ] at k0 k1 k2 k3 k4 k5 k6 k7 k8
                    have HRS := HP.out.1.chg h9.out.2 (fun q hq => .inl (by simp at hq; rw [hq]; exact HIN.out)) (fun q hq => by have := HOW.out q hq; simp; omega)
                    have HRS0 := { HRS with t := HRS.t.more (B := A0) (fun k hk => .inl (HSB.out k hk)), own := HOA.out : RefS A0 W3 _ _ g c h _ }
                    have HCH : Chg [g 0, g 1, h 0, h 1] w W3 := (((HCW.out.mono (by simp)).trans HP.out.2).then h9.out.2 (fun q hq => by simp at hq; right; omega))
                    (try simp only [Exit.inBlock, Exit.then])
                    refine bodyPost_ret (v := .tuple #[st10 (.slice (some ⟨g3, 0, none⟩) (takeT (T1of S.T (S.a 1 i)) S.K).n c3) (.slice (some ⟨g2, 0, none⟩) S.T.n c2) (S.step 1 i).K S.n g c h, .bool true]) (by simp [results, Try.results46, go_sem, k0, k1, k2, k3, k4, k5, k6, k7, k8, st10, PS.step, T1of_eq]) rfl ?_
                    exact stepR_some HNX.out ⟨_, rfl, HRS0, HCH⟩
            · have ha' : ¬ (S.a 1 i : Int) = 0 := by omega
              have cC := r10tells_at HS.out i (by have := HN100.out; omega)
              unfold st10 at cC
              go_wp2_with fail
              refine cC.mono ?_
              clear cC
              rintro e w2 ⟨rfl, hC2⟩
              have HM2 := Lib.hid (hM.out.2.trans hC2)
              cases hch : anyIn (S.p 0) (S.n 0) i with
              | false =>
                have HZ := Lib.hid (hM.out.1.trans (firstFree_on hlt (by unfold PS.want; simp [hpp, ha, hch])))
                clear hC2
                go_wp2_with fail
                go_roundw
                case rel => exact ⟨i + 1, by omega, by go_num, ⟨HZ.out, HM2.out⟩⟩
                case measure => simp [intOf]; omega
              | true =>
                have HNX := Lib.hid (next_hit (S := S) (j := 1) (by omega) (by intro j hj; obtain rfl : j = 0 := (by omega); exact HF0.out) (hM.out.1.trans (firstFree_hit hlt (show S.want 1 i = true by unfold PS.want; simp [hpp, hch]))))
                have HCW := Lib.hid (HC.out.trans HM2.out)
                have HRW := Lib.hid ((HM2.out.block _ (heap_lt HR.out) (by simp)).trans HR.out)
                have HS2 := Lib.hid (HS.out.chg hC2 (by simp) (by simp))
                have HAR2 : Hid (∀ k, k ∈ A → k < w2.heap.size) := Lib.hid (fun k hk => Nat.lt_of_lt_of_le (HAR.out k hk) hC2.size)
                have ac2 := (hC2.cell (p := ⟨g 1, i, none⟩) lgr (by simp)).trans ac
                have pc2 := (hC2.cell (p := ⟨h 1, i, none⟩) (heap_lt (HS.out.pls 1 (by omega))) (by simp)).trans pc
                have lgr2 := Nat.lt_of_lt_of_le lgr hC2.size
                have hxr2 := (HM2.out.block _ lx (by simp)).trans HX.out
                clear x0 x1 x2 x3 x4 x5 x6 x7 x8 HXR HS HAR ac pc lgr lxr hC2 hch ha ha' HM2 hM
                obtain ⟨wr, rfl⟩ : ∃ wr : World, wr = w2 := ⟨_, rfl⟩
                have HS := HS2
                have HAR := HAR2
                have ac := ac2
                have pc := pc2
                have lgr := lgr2
                clear HS2 HAR2 ac2 pc2 lgr2
                have x0 := cell_of_block hxr2 0
                have x1 := cell_of_block hxr2 1
                have x2 := cell_of_block hxr2 2
                have x3 := cell_of_block hxr2 3
                have x4 := cell_of_block hxr2 4
                have x5 := cell_of_block hxr2 5
                have x6 := cell_of_block hxr2 6
                have x7 := cell_of_block hxr2 7
                have x8 := cell_of_block hxr2 8
                simp only [List.getElem?_toArray, List.getElem?_cons_zero, List.getElem?_cons_succ] at x0 x1 x2 x3 x4 x5 x6 x7 x8
                have lxr := heap_lt hxr2
                clear hxr2
                go_upto_region 13 with fail
                have HD0 := Lib.hid ((Chg.refl [] wr).drew)
                refine wp_region_held_drew (S := fun W' => W'.cell? ⟨w.heap.size, 0, none⟩ = some (.slice (some ⟨g1, 0, none⟩) S.T.n c1) ∧ W'.cell? ⟨w.heap.size, 1, none⟩ = some (.slice (some ⟨g2, 0, none⟩) S.T.n c2) ∧ W'.cell? ⟨w.heap.size, 2, none⟩ = some (.int .i64 (S.K.first : Int)) ∧ W'.cell? ⟨w.heap.size, 3, none⟩ = some (.int .i64 (S.K.next : Int)) ∧ W'.cell? ⟨w.heap.size, 4, none⟩ = some (.int .i64 (S.K.asked : Int)) ∧ W'.cell? ⟨w.heap.size, 5, none⟩ = some (.slice (some ⟨g 0, 0, none⟩) (S.n 0) (c 0)) ∧ W'.cell? ⟨w.heap.size, 6, none⟩ = some (.slice (some ⟨g 1, 0, none⟩) (S.n 1) (c 1)) ∧ W'.cell? ⟨w.heap.size, 7, none⟩ = some (.slice (some ⟨h 0, 0, none⟩) (S.n 0) (S.n 0)) ∧ W'.cell? ⟨w.heap.size, 8, none⟩ = some (.slice (some ⟨h 1, 0, none⟩) (S.n 1) (S.n 1)) ∧ W'.cell? ⟨g 1, i, none⟩ = some (.int .i64 (S.a 1 i : Int))) (by kernel_rfl) (by exact ⟨x0, x1, x2, x3, x4, x5, x6, x7, x8, ac⟩) (fun hHeld => ?_)
                refine wpAnyH_take (i := 0) (oi := ?_) (v := ?_) ?_ (by kernel_rfl) (by kernel_rfl) (by kernel_rfl) ?_ (Or.inl ⟨?_, ?_⟩) hHeld ?_
                rotate_left 2
                · (simp only [List.getElem?_toArray, List.getElem?_cons_succ, List.getElem?_cons_zero]; rfl)
                · exact fun _ _ _ h => h
                · rfl
                · (rintro W' ⟨s0, s1, s2, s3, s4, s5, s6, s7, s8, s9⟩; go_simp; first | done | with_reducible rfl)
                try simp only [Act.put, List.setIfInBounds_toArray, List.set_cons_zero, List.set_cons_succ]
                refine wpAnyH_take (i := 1) (oi := ?_) (v := ?_) ?_ (by kernel_rfl) (by kernel_rfl) (by kernel_rfl) ?_ (Or.inl ⟨?_, ?_⟩) hHeld ?_
                rotate_left 2
                · (simp only [List.getElem?_toArray, List.getElem?_cons_succ, List.getElem?_cons_zero]; rfl)
                · exact fun _ _ _ h => h
                · rfl
                · (rintro W' ⟨s0, s1, s2, s3, s4, s5, s6, s7, s8, s9⟩; go_simp; first | done | with_reducible rfl)
                try simp only [Act.put, List.setIfInBounds_toArray, List.set_cons_zero, List.set_cons_succ]
                refine wpAnyH_take (i := 2) (oi := ?_) (v := ?_) ?_ (by kernel_rfl) (by kernel_rfl) (by kernel_rfl) ?_ (Or.inl ⟨?_, ?_⟩) hHeld ?_
                rotate_left 2
                · (simp only [List.getElem?_toArray, List.getElem?_cons_succ, List.getElem?_cons_zero]; rfl)
                · exact fun _ _ _ h => h
                · rfl
                · (rintro W' ⟨s0, s1, s2, s3, s4, s5, s6, s7, s8, s9⟩; go_simp; first | done | with_reducible rfl)
                try simp only [Act.put, List.setIfInBounds_toArray, List.set_cons_zero, List.set_cons_succ]
                refine wpAnyH_take (i := 3) (oi := ?_) (v := ?_) ?_ (by kernel_rfl) (by kernel_rfl) (by kernel_rfl) ?_ (Or.inl ⟨?_, ?_⟩) hHeld ?_
                rotate_left 2
                · (simp only [List.getElem?_toArray, List.getElem?_cons_succ, List.getElem?_cons_zero]; rfl)
                · exact fun _ _ _ h => h
                · rfl
                · (rintro W' ⟨s0, s1, s2, s3, s4, s5, s6, s7, s8, s9⟩; go_simp; first | done | with_reducible rfl)
                try simp only [Act.put, List.setIfInBounds_toArray, List.set_cons_zero, List.set_cons_succ]
                refine wpAnyH_take (i := 4) (oi := ?_) (v := ?_) ?_ (by kernel_rfl) (by kernel_rfl) (by kernel_rfl) ?_ (Or.inl ⟨?_, ?_⟩) hHeld ?_
                rotate_left 2
                · (simp only [List.getElem?_toArray, List.getElem?_cons_succ, List.getElem?_cons_zero]; rfl)
                · exact fun _ _ _ h => h
                · rfl
                · (rintro W' ⟨s0, s1, s2, s3, s4, s5, s6, s7, s8, s9⟩; go_simp; first | done | with_reducible rfl)
                try simp only [Act.put, List.setIfInBounds_toArray, List.set_cons_zero, List.set_cons_succ]
                refine wpAnyH_take (i := 5) (oi := ?_) (v := ?_) ?_ (by kernel_rfl) (by kernel_rfl) (by kernel_rfl) ?_ (Or.inl ⟨?_, ?_⟩) hHeld ?_
                rotate_left 2
                · (simp only [List.getElem?_toArray, List.getElem?_cons_succ, List.getElem?_cons_zero]; rfl)
                · exact fun _ _ _ h => h
                · rfl
                · (rintro W' ⟨s0, s1, s2, s3, s4, s5, s6, s7, s8, s9⟩; go_simp; first | done | with_reducible rfl)
                try simp only [Act.put, List.setIfInBounds_toArray, List.set_cons_zero, List.set_cons_succ]
                refine wpAnyH_take (i := 6) (oi := ?_) (v := ?_) ?_ (by kernel_rfl) (by kernel_rfl) (by kernel_rfl) ?_ (Or.inl ⟨?_, ?_⟩) hHeld ?_
                rotate_left 2
                · (simp only [List.getElem?_toArray, List.getElem?_cons_succ, List.getElem?_cons_zero]; rfl)
                · exact fun _ _ _ h => h
                · rfl
                · (rintro W' ⟨s0, s1, s2, s3, s4, s5, s6, s7, s8, s9⟩; go_simp; first | done | with_reducible rfl)
                try simp only [Act.put, List.setIfInBounds_toArray, List.set_cons_zero, List.set_cons_succ]
                generalize wr.drew = w3 at *
                refine wpAnyH_ready (rs := [7, 11]) (by kernel_rfl) (by simp) ?_
                refine AllReadyH.cons (o := ?_) ?_ (fun K hK => ?_) ?_
                rotate_left 1
                · (simp only [List.getElem?_toArray, List.getElem?_cons_succ, List.getElem?_cons_zero]; rfl)
                · (go_simp; have cM := r10moved_at (n := S.n) (g := g) (c := c) (h := h) (HS.out.t.chg HD0.out (by simp)) (fun k hk => Nat.lt_of_lt_of_le (HAR.out k hk) HD0.out.size) (S.a 1 i) HS.out.f HS.out.nx; unfold st10 at cM; refine cM.mono ?_; clear cM; rintro e w6 ⟨u1, rfl, hT, hD⟩; obtain ⟨g3, c3, e3, _⟩ := hT.now; subst e3; have HT := Lib.hid hT; have HD1 := Lib.hid (HD0.out.trans hD); clear hT hD)
                  refine hK.out _ _ ?_ (fun hHeld => ?_)
                  · exact ⟨(HD1.out.cell (p := ⟨w.heap.size, 0, none⟩) lxr (by simp)).trans x0, (HD1.out.cell (p := ⟨w.heap.size, 1, none⟩) lxr (by simp)).trans x1, (HD1.out.cell (p := ⟨w.heap.size, 2, none⟩) lxr (by simp)).trans x2, (HD1.out.cell (p := ⟨w.heap.size, 3, none⟩) lxr (by simp)).trans x3, (HD1.out.cell (p := ⟨w.heap.size, 4, none⟩) lxr (by simp)).trans x4, (HD1.out.cell (p := ⟨w.heap.size, 5, none⟩) lxr (by simp)).trans x5, (HD1.out.cell (p := ⟨w.heap.size, 6, none⟩) lxr (by simp)).trans x6, (HD1.out.cell (p := ⟨w.heap.size, 7, none⟩) lxr (by simp)).trans x7, (HD1.out.cell (p := ⟨w.heap.size, 8, none⟩) lxr (by simp)).trans x8, (HD1.out.cell (p := ⟨g 1, i, none⟩) lgr (by simp)).trans ac⟩
                  clear hK K
                  try simp only [Act.put, List.setIfInBounds_toArray, List.set_cons_zero, List.set_cons_succ]
                  refine wpAnyH_take (i := 8) (oi := ?_) (v := ?_) ?_ (by kernel_rfl) (by kernel_rfl) (by kernel_rfl) ?_ (Or.inl ⟨?_, ?_⟩) hHeld ?_
                  rotate_left 2
                  · (simp only [List.getElem?_toArray, List.getElem?_cons_succ, List.getElem?_cons_zero]; rfl)
                  · exact fun _ _ _ h => h
                  · rfl
                  · (rintro W' ⟨s0, s1, s2, s3, s4, s5, s6, s7, s8, s9⟩; go_simp; first | done | with_reducible rfl)
                  try simp only [Act.put, List.setIfInBounds_toArray, List.set_cons_zero, List.set_cons_succ]
                  refine wpAnyH_take (i := 9) (oi := ?_) (v := ?_) ?_ (by kernel_rfl) (by kernel_rfl) (by kernel_rfl) ?_ (Or.inl ⟨?_, ?_⟩) hHeld ?_
                  rotate_left 2
                  · (simp only [List.getElem?_toArray, List.getElem?_cons_succ, List.getElem?_cons_zero]; rfl)
                  · exact fun _ _ _ h => h
                  · rfl
                  · (rintro W' ⟨s0, s1, s2, s3, s4, s5, s6, s7, s8, s9⟩; go_simp; first | done | with_reducible rfl)
                  try simp only [Act.put, List.setIfInBounds_toArray, List.set_cons_zero, List.set_cons_succ]
                  refine wpAnyH_take (i := 10) (oi := ?_) (v := ?_) ?_ (by kernel_rfl) (by kernel_rfl) (by kernel_rfl) ?_ (Or.inl ⟨?_, ?_⟩) hHeld ?_
                  rotate_left 2
                  · (simp only [List.getElem?_toArray, List.getElem?_cons_succ, List.getElem?_cons_zero]; rfl)
                  · exact fun _ _ _ h => h
                  · rfl
                  · (rintro W' ⟨s0, s1, s2, s3, s4, s5, s6, s7, s8, s9⟩; go_simp; first | done | with_reducible rfl)
                  try simp only [Act.put, List.setIfInBounds_toArray, List.set_cons_zero, List.set_cons_succ]
                  refine wpAnyH_ready (rs := [11]) (by kernel_rfl) (by simp) ?_
                  refine AllReadyH.cons (o := ?_) ?_ (fun K hK => ?_) AllReadyH.nil
                  rotate_left 1
                  · (simp only [List.getElem?_toArray, List.getElem?_cons_succ, List.getElem?_cons_zero]; rfl)
                  · (go_simp; have FA := Lib.hid (new_block w6 (.cells #[.slice none 0 0, .slice none 0 0, .int .i64 0, .int .i64 0, .int .i64 0, .slice none 0 0, .slice none 0 0, .slice none 0 0, .slice none 0 0] 57)); have HD2 := Lib.hid (HD1.out.alloc (.cells #[.slice none 0 0, .slice none 0 0, .int .i64 0, .int .i64 0, .int .i64 0, .slice none 0 0, .slice none 0 0, .slice none 0 0, .slice none 0 0] 57)); have HE := Lib.hid ((Chg.refl [] w6).alloc (.cells #[.slice none 0 0, .slice none 0 0, .int .i64 0, .int .i64 0, .int .i64 0, .slice none 0 0, .slice none 0 0, .slice none 0 0, .slice none 0 0] 57)); have HRD : Hid (∀ j, j ∈ [w6.heap.size] → j ∈ ([] : List Nat) ∨ wr.heap.size ≤ j) := Lib.hid (fun j hj => by have := HD1.out.size; simp at hj; right; omega); generalize w6.alloc _ = w7 at *)
                    refine hK.out _ _ ?_ (fun hHeld => ?_)
                    · exact ⟨(HD2.out.cell (p := ⟨w.heap.size, 0, none⟩) lxr (by simp)).trans x0, (HD2.out.cell (p := ⟨w.heap.size, 1, none⟩) lxr (by simp)).trans x1, (HD2.out.cell (p := ⟨w.heap.size, 2, none⟩) lxr (by simp)).trans x2, (HD2.out.cell (p := ⟨w.heap.size, 3, none⟩) lxr (by simp)).trans x3, (HD2.out.cell (p := ⟨w.heap.size, 4, none⟩) lxr (by simp)).trans x4, (HD2.out.cell (p := ⟨w.heap.size, 5, none⟩) lxr (by simp)).trans x5, (HD2.out.cell (p := ⟨w.heap.size, 6, none⟩) lxr (by simp)).trans x6, (HD2.out.cell (p := ⟨w.heap.size, 7, none⟩) lxr (by simp)).trans x7, (HD2.out.cell (p := ⟨w.heap.size, 8, none⟩) lxr (by simp)).trans x8, (HD2.out.cell (p := ⟨g 1, i, none⟩) lgr (by simp)).trans ac⟩
                    clear hK K
                    try simp only [Act.put, List.setIfInBounds_toArray, List.set_cons_zero, List.set_cons_succ]
                    refine wpAnyH_ready (rs := [12]) (by kernel_rfl) (by simp) ?_
                    refine AllReadyH.cons (o := ?_) ?_ (fun K hK => ?_) AllReadyH.nil
                    rotate_left 1
                    · (simp only [List.getElem?_toArray, List.getElem?_cons_succ, List.getElem?_cons_zero]; rfl)
                    · (have hr2 := FA.out; have z0 := cell_of_block hr2 0; have z1 := cell_of_block hr2 1; have z2 := cell_of_block hr2 2; have z3 := cell_of_block hr2 3; have z4 := cell_of_block hr2 4; have z5 := cell_of_block hr2 5; have z6 := cell_of_block hr2 6; have z7 := cell_of_block hr2 7; have z8 := cell_of_block hr2 8; have f0 := frozen_of_block hr2 0; have f1 := frozen_of_block hr2 1; have f2 := frozen_of_block hr2 2; have f3 := frozen_of_block hr2 3; have f4 := frozen_of_block hr2 4; have f5 := frozen_of_block hr2 5; have f6 := frozen_of_block hr2 6; have f7 := frozen_of_block hr2 7; have f8 := frozen_of_block hr2 8; simp only [List.getElem?_toArray, List.getElem?_cons_zero, List.getElem?_cons_succ] at z0 z1 z2 z3 z4 z5 z6 z7 z8; clear hr2; go_simp; have h9 := sto9of9 FA.out (.slice (some ⟨g3, 0, none⟩) (takeT (T1of S.T (S.a 1 i)) S.K).n c3) (.slice (some ⟨g2, 0, none⟩) S.T.n c2) (.int .i64 ((takeK (T1of S.T (S.a 1 i)) S.K).first : Int)) (.int .i64 ((takeK (T1of S.T (S.a 1 i)) S.K).next : Int)) (.int .i64 ((takeK (T1of S.T (S.a 1 i)) S.K).asked : Int)) (.slice (some ⟨g 0, 0, none⟩) (S.n 0) (c 0)) (.slice (some ⟨g 1, 0, none⟩) (S.n 1) (c 1)) (.slice (some ⟨h 0, 0, none⟩) (S.n 0) (S.n 0)) (.slice (some ⟨h 1, 0, none⟩) (S.n 1) (S.n 1)); have hRD := HRD.out; have HW := Lib.hid (HD2.out.then h9.2 hRD); have HTW := Lib.hid (HT.out.chg (HE.out.then h9.2 (L := []) (fun j hj => by simp at hj; right; omega)) (by simp)); have HRB := Lib.hid h9.1; clear h9 hRD z0 f0 z1 f1 z2 f2 z3 f3 z4 f4 z5 f5 z6 f6 z7 f7 z8 f8; generalize ((((((((w7.setCell _ _).setCell _ _).setCell _ _).setCell _ _).setCell _ _).setCell _ _).setCell _ _).setCell _ _).setCell _ _ = W at *)
                      refine hK.out _ _ ?_ (fun hHeld => ?_)
                      · exact ⟨(HW.out.cell (p := ⟨w.heap.size, 0, none⟩) lxr (by simp)).trans x0, (HW.out.cell (p := ⟨w.heap.size, 1, none⟩) lxr (by simp)).trans x1, (HW.out.cell (p := ⟨w.heap.size, 2, none⟩) lxr (by simp)).trans x2, (HW.out.cell (p := ⟨w.heap.size, 3, none⟩) lxr (by simp)).trans x3, (HW.out.cell (p := ⟨w.heap.size, 4, none⟩) lxr (by simp)).trans x4, (HW.out.cell (p := ⟨w.heap.size, 5, none⟩) lxr (by simp)).trans x5, (HW.out.cell (p := ⟨w.heap.size, 6, none⟩) lxr (by simp)).trans x6, (HW.out.cell (p := ⟨w.heap.size, 7, none⟩) lxr (by simp)).trans x7, (HW.out.cell (p := ⟨w.heap.size, 8, none⟩) lxr (by simp)).trans x8, (HW.out.cell (p := ⟨g 1, i, none⟩) lgr (by simp)).trans ac⟩
                      clear hK K
                      try simp only [Act.put, List.setIfInBounds_toArray, List.set_cons_zero, List.set_cons_succ]
                      refine wpAnyH_take (i := 13) (oi := ?_) (v := ?_) ?_ (by kernel_rfl) (by kernel_rfl) (by kernel_rfl) ?_ (Or.inl ⟨?_, ?_⟩) hHeld ?_
                      rotate_left 2
                      · (simp only [List.getElem?_toArray, List.getElem?_cons_succ, List.getElem?_cons_zero]; rfl)
                      · exact fun _ _ _ h => h
                      · rfl
                      · (rintro W' ⟨s0, s1, s2, s3, s4, s5, s6, s7, s8, s9⟩; go_simp; first | done | with_reducible rfl)
                      try simp only [Act.put, List.setIfInBounds_toArray, List.set_cons_zero, List.set_cons_succ]
                      refine wpAnyH_done (by kernel_rfl) ?_ _
                      have hb := HRB.out
                      have y0 := cell_of_block hb 0
                      have y1 := cell_of_block hb 1
                      have y2 := cell_of_block hb 2
                      have y3 := cell_of_block hb 3
                      have y4 := cell_of_block hb 4
                      have y5 := cell_of_block hb 5
                      have y6 := cell_of_block hb 6
                      have y7 := cell_of_block hb 7
                      have y8 := cell_of_block hb 8
                      simp only [List.getElem?_toArray, List.getElem?_cons_zero, List.getElem?_cons_succ] at y0 y1 y2 y3 y4 y5 y6 y7 y8
                      have lrb := heap_lt hb
                      clear hb
                      have hgk : ∃ cur, W.heap[g 1]? = some (.cells cur 3 (0, 0)) := by obtain ⟨cur, q1, _⟩ := HS.out.ats 1 (by omega); exact ⟨cur, (HW.out.block _ (heap_lt q1) (by simp)).trans q1⟩
                      obtain ⟨curk, hgk⟩ := hgk
                      have hhk := (HW.out.block _ (heap_lt (HS.out.pls 1 (by omega))) (by simp)).trans (HS.out.pls 1 (by omega))
                      have j1 := frozen_of_block hgk i
                      have j2 := frozen_of_block hhk i
                      have j3 := (HW.out.cell (p := ⟨g 1, i, none⟩) lgr (by simp)).trans ac
                      have j4 := (HW.out.cell (p := ⟨h 1, i, none⟩) (heap_lt (HS.out.pls 1 (by omega))) (by simp)).trans pc
                      have hKb := takeK_bd (T := T1of S.T (S.a 1 i)) HS.out.f (by rw [T1of_eq, T1_n]; exact HS.out.nx)
                      have HP := Lib.hid (HS.out.put (k := 1) (i := i) (by omega) hlt HW.out HTW.out (by rw [takeT_n, T1of_eq, T1_n]) hKb.1 (by rw [takeT_n]; exact hKb.2.1) (S.new 1 i))
                      have HBN := Lib.hid (show takeB (T1of S.T (S.a 1 i)) S.K = ((S.new 1 i : Nat) : Int) from takeB_new S 1 i)
                      rw [HBN.out]
                      clear hgk hhk hKb x0 x1 x2 x3 x4 x5 x6 x7 x8
                      have lhr0 := heap_lt (HS.out.pls 1 (by omega))
                      have ng1 : w6.heap.size ≠ g 1 := by have h1 := HRD.out w6.heap.size (by simp); simp at h1; omega
                      have ng2 : w6.heap.size ≠ h 1 := by have h1 := HRD.out w6.heap.size (by simp); simp at h1; omega
                      have ng3 : g 1 ≠ w6.heap.size := Ne.symm ng1
                      have ng4 : h 1 ≠ w6.heap.size := Ne.symm ng2
                      have ng5 : g 1 ≠ h 1 := by
                        have hnd := HS.out.nd
                        simp only [List.nodup_cons, List.mem_cons, List.not_mem_nil, or_false, not_or, List.nodup_nil, and_true] at hnd
                        omega
                      have ng6 : h 1 ≠ g 1 := Ne.symm ng5
                      go_upto_region 16 with fail
                      have CW : Hid (Chg [g 1, h 1] W ((W.setCell ⟨g 1, i, none⟩ (.int .i64 ((S.new 1 i : Nat) : Int))).setCell ⟨h 1, i, none⟩ (.bool true))) := Lib.hid (((Chg.refl _ _).setCell (.inl (by simp)) _).setCell (.inl (by simp)) _)
                      have lhr := heap_lt (HS.out.pls 1 (by omega))
                      have lgw : g 1 < w.heap.size := by obtain ⟨cur, q1, _⟩ := HH.out.ats 1 (by omega); exact heap_lt q1
                      have lhw := heap_lt (HH.out.pls 1 (by omega))
                      have hb2 := (CW.out.block _ lrb (by have h1 := HRD.out w6.heap.size (by simp); simp at h1; simp; omega)).trans HRB.out
                      have hr2 := (CW.out.block _ (heap_lt ((HW.out.block _ (heap_lt HRW.out) (by simp)).trans HRW.out)) (by simp; omega)).trans ((HW.out.block _ (heap_lt HRW.out) (by simp)).trans HRW.out)
                      have HRN := Lib.hid (show (w.heap.size + 1 : Nat) ≠ w6.heap.size from by have h1 := HRD.out w6.heap.size (by simp); have h2 := heap_lt HRW.out; simp at h1; omega)
                      clear y0 y1 y2 y3 y4 y5 y6 y7 y8 j1 j2 j3 j4 ac pc
                      generalize (W.setCell _ _).setCell _ _ = W2 at *
                      have y0 := cell_of_block hb2 0
                      have y1 := cell_of_block hb2 1
                      have y2 := cell_of_block hb2 2
                      have y3 := cell_of_block hb2 3
                      have y4 := cell_of_block hb2 4
                      have y5 := cell_of_block hb2 5
                      have y6 := cell_of_block hb2 6
                      have y7 := cell_of_block hb2 7
                      have y8 := cell_of_block hb2 8
                      simp only [List.getElem?_toArray, List.getElem?_cons_zero, List.getElem?_cons_succ] at y0 y1 y2 y3 y4 y5 y6 y7 y8
                      have f0 := frozen_of_block hr2 0
                      have z0 := cell_of_block hr2 0
                      have f1 := frozen_of_block hr2 1
                      have z1 := cell_of_block hr2 1
                      have f2 := frozen_of_block hr2 2
                      have z2 := cell_of_block hr2 2
                      have f3 := frozen_of_block hr2 3
                      have z3 := cell_of_block hr2 3
                      have f4 := frozen_of_block hr2 4
                      have z4 := cell_of_block hr2 4
                      have f5 := frozen_of_block hr2 5
                      have z5 := cell_of_block hr2 5
                      have f6 := frozen_of_block hr2 6
                      have z6 := cell_of_block hr2 6
                      have f7 := frozen_of_block hr2 7
                      have z7 := cell_of_block hr2 7
                      have f8 := frozen_of_block hr2 8
                      have z8 := cell_of_block hr2 8
                      simp only [List.getElem?_toArray, List.getElem?_cons_zero, List.getElem?_cons_succ] at z0 z1 z2 z3 z4 z5 z6 z7 z8
                      have h9 := Lib.hid (sto9of9 hr2 (.slice (some ⟨g3, 0, none⟩) (takeT (T1of S.T (S.a 1 i)) S.K).n c3) (.slice (some ⟨g2, 0, none⟩) S.T.n c2) (.int .i64 ((takeK (T1of S.T (S.a 1 i)) S.K).first : Int)) (.int .i64 ((takeK (T1of S.T (S.a 1 i)) S.K).next : Int)) (.int .i64 ((takeK (T1of S.T (S.a 1 i)) S.K).asked : Int)) (.slice (some ⟨g 0, 0, none⟩) (S.n 0) (c 0)) (.slice (some ⟨g 1, 0, none⟩) (S.n 1) (c 1)) (.slice (some ⟨h 0, 0, none⟩) (S.n 0) (S.n 0)) (.slice (some ⟨h 1, 0, none⟩) (S.n 1) (S.n 1)))
                      clear hr2 hb2
                      go_wp2_with fail
                      generalize ((((((((W2.setCell _ _).setCell _ _).setCell _ _).setCell _ _).setCell _ _).setCell _ _).setCell _ _).setCell _ _).setCell _ _ = W3 at *
                      have hR3 := h9.out.1
                      have k0 := cell_of_block hR3 0
                      have k1 := cell_of_block hR3 1
                      have k2 := cell_of_block hR3 2
                      have k3 := cell_of_block hR3 3
                      have k4 := cell_of_block hR3 4
                      have k5 := cell_of_block hR3 5
                      have k6 := cell_of_block hR3 6
                      have k7 := cell_of_block hR3 7
                      have k8 := cell_of_block hR3 8
                      simp only [List.getElem?_toArray, List.getElem?_cons_zero, List.getElem?_cons_succ] at k0 k1 k2 k3 k4 k5 k6 k7 k8
                      have HRS := HP.out.1.chg h9.out.2 (fun q hq => .inl (by simp at hq; rw [hq]; exact HIN.out)) (fun q hq => by have := HOW.out q hq; simp; omega)
                      have HRS0 := { HRS with t := HRS.t.more (B := A0) (fun k hk => .inl (HSB.out k hk)), own := HOA.out : RefS A0 W3 _ _ g c h _ }
                      have HCH : Chg [g 0, g 1, h 0, h 1] w W3 := (((HCW.out.mono (by simp)).trans HP.out.2).then h9.out.2 (fun q hq => by simp at hq; right; omega))
                      (try simp only [Exit.inBlock, Exit.then])
                      refine bodyPost_ret (v := .tuple #[st10 (.slice (some ⟨g3, 0, none⟩) (takeT (T1of S.T (S.a 1 i)) S.K).n c3) (.slice (some ⟨g2, 0, none⟩) S.T.n c2) (S.step 1 i).K S.n g c h, .bool true]) (by simp [results, Try.results46, go_sem, k0, k1, k2, k3, k4, k5, k6, k7, k8, st10, PS.step, T1of_eq]) rfl ?_
                      exact stepR_some HNX.out ⟨_, rfl, HRS0, HCH⟩
                refine AllReadyH.cons (o := ?_) ?_ (fun K hK => ?_) AllReadyH.nil
                rotate_left 1
                · (simp only [List.getElem?_toArray, List.getElem?_cons_succ, List.getElem?_cons_zero]; rfl)
                · (go_simp; have FA := Lib.hid (new_block w3 (.cells #[.slice none 0 0, .slice none 0 0, .int .i64 0, .int .i64 0, .int .i64 0, .slice none 0 0, .slice none 0 0, .slice none 0 0, .slice none 0 0] 57)); have HD2 := Lib.hid (HD0.out.alloc (.cells #[.slice none 0 0, .slice none 0 0, .int .i64 0, .int .i64 0, .int .i64 0, .slice none 0 0, .slice none 0 0, .slice none 0 0, .slice none 0 0] 57)); have HRD : Hid (∀ j, j ∈ [w3.heap.size] → j ∈ ([] : List Nat) ∨ wr.heap.size ≤ j) := Lib.hid (fun j hj => by have := HD0.out.size; simp at hj; right; omega); generalize w3.alloc _ = w5 at *)
                  refine hK.out _ _ ?_ (fun hHeld => ?_)
                  · exact ⟨(HD2.out.cell (p := ⟨w.heap.size, 0, none⟩) lxr (by simp)).trans x0, (HD2.out.cell (p := ⟨w.heap.size, 1, none⟩) lxr (by simp)).trans x1, (HD2.out.cell (p := ⟨w.heap.size, 2, none⟩) lxr (by simp)).trans x2, (HD2.out.cell (p := ⟨w.heap.size, 3, none⟩) lxr (by simp)).trans x3, (HD2.out.cell (p := ⟨w.heap.size, 4, none⟩) lxr (by simp)).trans x4, (HD2.out.cell (p := ⟨w.heap.size, 5, none⟩) lxr (by simp)).trans x5, (HD2.out.cell (p := ⟨w.heap.size, 6, none⟩) lxr (by simp)).trans x6, (HD2.out.cell (p := ⟨w.heap.size, 7, none⟩) lxr (by simp)).trans x7, (HD2.out.cell (p := ⟨w.heap.size, 8, none⟩) lxr (by simp)).trans x8, (HD2.out.cell (p := ⟨g 1, i, none⟩) lgr (by simp)).trans ac⟩
                  clear hK K
                  try simp only [Act.put, List.setIfInBounds_toArray, List.set_cons_zero, List.set_cons_succ]
                  refine wpAnyH_ready (rs := [7]) (by kernel_rfl) (by simp) ?_
                  refine AllReadyH.cons (o := ?_) ?_ (fun K hK => ?_) AllReadyH.nil
                  rotate_left 1
                  · (simp only [List.getElem?_toArray, List.getElem?_cons_succ, List.getElem?_cons_zero]; rfl)
                  · (go_simp; have cM := r10moved_at (A := A ++ [w3.heap.size]) (n := S.n) (g := g) (c := c) (h := h) ((HS.out.t.more (B := A ++ [w3.heap.size]) (fun k hk => by rcases List.mem_append.1 hk with q | q; exact .inl q; have := HD0.out.size; simp at q; right; omega)).chg HD2.out (by simp)) (fun k hk => by rcases List.mem_append.1 hk with q | q; exact Nat.lt_of_lt_of_le (HAR.out k q) HD2.out.size; have := heap_lt FA.out; simp at q; omega) (S.a 1 i) HS.out.f HS.out.nx; unfold st10 at cM; refine cM.mono ?_; clear cM; rintro e w6 ⟨u1, rfl, hT, hD⟩; obtain ⟨g3, c3, e3, _⟩ := hT.now; subst e3; have HTb := Lib.hid hT; have FA2 := Lib.hid ((hD.block _ (heap_lt FA.out) (by simp)).trans FA.out); have HD1 := Lib.hid (HD2.out.trans hD); clear hT hD)
                    refine hK.out _ _ ?_ (fun hHeld => ?_)
                    · exact ⟨(HD1.out.cell (p := ⟨w.heap.size, 0, none⟩) lxr (by simp)).trans x0, (HD1.out.cell (p := ⟨w.heap.size, 1, none⟩) lxr (by simp)).trans x1, (HD1.out.cell (p := ⟨w.heap.size, 2, none⟩) lxr (by simp)).trans x2, (HD1.out.cell (p := ⟨w.heap.size, 3, none⟩) lxr (by simp)).trans x3, (HD1.out.cell (p := ⟨w.heap.size, 4, none⟩) lxr (by simp)).trans x4, (HD1.out.cell (p := ⟨w.heap.size, 5, none⟩) lxr (by simp)).trans x5, (HD1.out.cell (p := ⟨w.heap.size, 6, none⟩) lxr (by simp)).trans x6, (HD1.out.cell (p := ⟨w.heap.size, 7, none⟩) lxr (by simp)).trans x7, (HD1.out.cell (p := ⟨w.heap.size, 8, none⟩) lxr (by simp)).trans x8, (HD1.out.cell (p := ⟨g 1, i, none⟩) lgr (by simp)).trans ac⟩
                    clear hK K
                    try simp only [Act.put, List.setIfInBounds_toArray, List.set_cons_zero, List.set_cons_succ]
                    refine wpAnyH_take (i := 8) (oi := ?_) (v := ?_) ?_ (by kernel_rfl) (by kernel_rfl) (by kernel_rfl) ?_ (Or.inl ⟨?_, ?_⟩) hHeld ?_
                    rotate_left 2
                    · (simp only [List.getElem?_toArray, List.getElem?_cons_succ, List.getElem?_cons_zero]; rfl)
                    · exact fun _ _ _ h => h
                    · rfl
                    · (rintro W' ⟨s0, s1, s2, s3, s4, s5, s6, s7, s8, s9⟩; go_simp; first | done | with_reducible rfl)
                    try simp only [Act.put, List.setIfInBounds_toArray, List.set_cons_zero, List.set_cons_succ]
                    refine wpAnyH_take (i := 9) (oi := ?_) (v := ?_) ?_ (by kernel_rfl) (by kernel_rfl) (by kernel_rfl) ?_ (Or.inl ⟨?_, ?_⟩) hHeld ?_
                    rotate_left 2
                    · (simp only [List.getElem?_toArray, List.getElem?_cons_succ, List.getElem?_cons_zero]; rfl)
                    · exact fun _ _ _ h => h
                    · rfl
                    · (rintro W' ⟨s0, s1, s2, s3, s4, s5, s6, s7, s8, s9⟩; go_simp; first | done | with_reducible rfl)
                    try simp only [Act.put, List.setIfInBounds_toArray, List.set_cons_zero, List.set_cons_succ]
                    refine wpAnyH_take (i := 10) (oi := ?_) (v := ?_) ?_ (by kernel_rfl) (by kernel_rfl) (by kernel_rfl) ?_ (Or.inl ⟨?_, ?_⟩) hHeld ?_
                    rotate_left 2
                    · (simp only [List.getElem?_toArray, List.getElem?_cons_succ, List.getElem?_cons_zero]; rfl)
                    · exact fun _ _ _ h => h
                    · rfl
                    · (rintro W' ⟨s0, s1, s2, s3, s4, s5, s6, s7, s8, s9⟩; go_simp; first | done | with_reducible rfl)
                    try simp only [Act.put, List.setIfInBounds_toArray, List.set_cons_zero, List.set_cons_succ]
                    refine wpAnyH_ready (rs := [12]) (by kernel_rfl) (by simp) ?_
                    refine AllReadyH.cons (o := ?_) ?_ (fun K hK => ?_) AllReadyH.nil
                    rotate_left 1
                    · (simp only [List.getElem?_toArray, List.getElem?_cons_succ, List.getElem?_cons_zero]; rfl)
                    · (have hr2 := FA2.out; have z0 := cell_of_block hr2 0; have z1 := cell_of_block hr2 1; have z2 := cell_of_block hr2 2; have z3 := cell_of_block hr2 3; have z4 := cell_of_block hr2 4; have z5 := cell_of_block hr2 5; have z6 := cell_of_block hr2 6; have z7 := cell_of_block hr2 7; have z8 := cell_of_block hr2 8; have f0 := frozen_of_block hr2 0; have f1 := frozen_of_block hr2 1; have f2 := frozen_of_block hr2 2; have f3 := frozen_of_block hr2 3; have f4 := frozen_of_block hr2 4; have f5 := frozen_of_block hr2 5; have f6 := frozen_of_block hr2 6; have f7 := frozen_of_block hr2 7; have f8 := frozen_of_block hr2 8; simp only [List.getElem?_toArray, List.getElem?_cons_zero, List.getElem?_cons_succ] at z0 z1 z2 z3 z4 z5 z6 z7 z8; clear hr2; go_simp; have h9 := sto9of9 FA2.out (.slice (some ⟨g3, 0, none⟩) (takeT (T1of S.T (S.a 1 i)) S.K).n c3) (.slice (some ⟨g2, 0, none⟩) S.T.n c2) (.int .i64 ((takeK (T1of S.T (S.a 1 i)) S.K).first : Int)) (.int .i64 ((takeK (T1of S.T (S.a 1 i)) S.K).next : Int)) (.int .i64 ((takeK (T1of S.T (S.a 1 i)) S.K).asked : Int)) (.slice (some ⟨g 0, 0, none⟩) (S.n 0) (c 0)) (.slice (some ⟨g 1, 0, none⟩) (S.n 1) (c 1)) (.slice (some ⟨h 0, 0, none⟩) (S.n 0) (S.n 0)) (.slice (some ⟨h 1, 0, none⟩) (S.n 1) (S.n 1)); have hRD := HRD.out; have HW := Lib.hid (HD1.out.then h9.2 hRD); have HTW := Lib.hid ((HTb.out.chg h9.2 (fun k hk => .inl (List.mem_append.2 (.inr hk)))).more (B := A) (fun k hk => .inl (List.mem_append.2 (.inl hk)))); have HRB := Lib.hid h9.1; clear h9 hRD z0 f0 z1 f1 z2 f2 z3 f3 z4 f4 z5 f5 z6 f6 z7 f7 z8 f8; generalize ((((((((w6.setCell _ _).setCell _ _).setCell _ _).setCell _ _).setCell _ _).setCell _ _).setCell _ _).setCell _ _).setCell _ _ = W at *)
                      refine hK.out _ _ ?_ (fun hHeld => ?_)
                      · exact ⟨(HW.out.cell (p := ⟨w.heap.size, 0, none⟩) lxr (by simp)).trans x0, (HW.out.cell (p := ⟨w.heap.size, 1, none⟩) lxr (by simp)).trans x1, (HW.out.cell (p := ⟨w.heap.size, 2, none⟩) lxr (by simp)).trans x2, (HW.out.cell (p := ⟨w.heap.size, 3, none⟩) lxr (by simp)).trans x3, (HW.out.cell (p := ⟨w.heap.size, 4, none⟩) lxr (by simp)).trans x4, (HW.out.cell (p := ⟨w.heap.size, 5, none⟩) lxr (by simp)).trans x5, (HW.out.cell (p := ⟨w.heap.size, 6, none⟩) lxr (by simp)).trans x6, (HW.out.cell (p := ⟨w.heap.size, 7, none⟩) lxr (by simp)).trans x7, (HW.out.cell (p := ⟨w.heap.size, 8, none⟩) lxr (by simp)).trans x8, (HW.out.cell (p := ⟨g 1, i, none⟩) lgr (by simp)).trans ac⟩
                      clear hK K
                      try simp only [Act.put, List.setIfInBounds_toArray, List.set_cons_zero, List.set_cons_succ]
                      refine wpAnyH_take (i := 13) (oi := ?_) (v := ?_) ?_ (by kernel_rfl) (by kernel_rfl) (by kernel_rfl) ?_ (Or.inl ⟨?_, ?_⟩) hHeld ?_
                      rotate_left 2
                      · (simp only [List.getElem?_toArray, List.getElem?_cons_succ, List.getElem?_cons_zero]; rfl)
                      · exact fun _ _ _ h => h
                      · rfl
                      · (rintro W' ⟨s0, s1, s2, s3, s4, s5, s6, s7, s8, s9⟩; go_simp; first | done | with_reducible rfl)
                      try simp only [Act.put, List.setIfInBounds_toArray, List.set_cons_zero, List.set_cons_succ]
                      refine wpAnyH_done (by kernel_rfl) ?_ _
                      have hb := HRB.out
                      have y0 := cell_of_block hb 0
                      have y1 := cell_of_block hb 1
                      have y2 := cell_of_block hb 2
                      have y3 := cell_of_block hb 3
                      have y4 := cell_of_block hb 4
                      have y5 := cell_of_block hb 5
                      have y6 := cell_of_block hb 6
                      have y7 := cell_of_block hb 7
                      have y8 := cell_of_block hb 8
                      simp only [List.getElem?_toArray, List.getElem?_cons_zero, List.getElem?_cons_succ] at y0 y1 y2 y3 y4 y5 y6 y7 y8
                      have lrb := heap_lt hb
                      clear hb
                      have hgk : ∃ cur, W.heap[g 1]? = some (.cells cur 3 (0, 0)) := by obtain ⟨cur, q1, _⟩ := HS.out.ats 1 (by omega); exact ⟨cur, (HW.out.block _ (heap_lt q1) (by simp)).trans q1⟩
                      obtain ⟨curk, hgk⟩ := hgk
                      have hhk := (HW.out.block _ (heap_lt (HS.out.pls 1 (by omega))) (by simp)).trans (HS.out.pls 1 (by omega))
                      have j1 := frozen_of_block hgk i
                      have j2 := frozen_of_block hhk i
                      have j3 := (HW.out.cell (p := ⟨g 1, i, none⟩) lgr (by simp)).trans ac
                      have j4 := (HW.out.cell (p := ⟨h 1, i, none⟩) (heap_lt (HS.out.pls 1 (by omega))) (by simp)).trans pc
                      have hKb := takeK_bd (T := T1of S.T (S.a 1 i)) HS.out.f (by rw [T1of_eq, T1_n]; exact HS.out.nx)
                      have HP := Lib.hid (HS.out.put (k := 1) (i := i) (by omega) hlt HW.out HTW.out (by rw [takeT_n, T1of_eq, T1_n]) hKb.1 (by rw [takeT_n]; exact hKb.2.1) (S.new 1 i))
                      have HBN := Lib.hid (show takeB (T1of S.T (S.a 1 i)) S.K = ((S.new 1 i : Nat) : Int) from takeB_new S 1 i)
                      rw [HBN.out]
                      clear hgk hhk hKb x0 x1 x2 x3 x4 x5 x6 x7 x8
                      have lhr0 := heap_lt (HS.out.pls 1 (by omega))
                      have ng1 : w3.heap.size ≠ g 1 := by have h1 := HRD.out w3.heap.size (by simp); simp at h1; omega
                      have ng2 : w3.heap.size ≠ h 1 := by have h1 := HRD.out w3.heap.size (by simp); simp at h1; omega
                      have ng3 : g 1 ≠ w3.heap.size := Ne.symm ng1
                      have ng4 : h 1 ≠ w3.heap.size := Ne.symm ng2
                      have ng5 : g 1 ≠ h 1 := by
                        have hnd := HS.out.nd
                        simp only [List.nodup_cons, List.mem_cons, List.not_mem_nil, or_false, not_or, List.nodup_nil, and_true] at hnd
                        omega
                      have ng6 : h 1 ≠ g 1 := Ne.symm ng5
                      go_upto_region 16 with fail
                      have CW : Hid (Chg [g 1, h 1] W ((W.setCell ⟨g 1, i, none⟩ (.int .i64 ((S.new 1 i : Nat) : Int))).setCell ⟨h 1, i, none⟩ (.bool true))) := Lib.hid (((Chg.refl _ _).setCell (.inl (by simp)) _).setCell (.inl (by simp)) _)
                      have lhr := heap_lt (HS.out.pls 1 (by omega))
                      have lgw : g 1 < w.heap.size := by obtain ⟨cur, q1, _⟩ := HH.out.ats 1 (by omega); exact heap_lt q1
                      have lhw := heap_lt (HH.out.pls 1 (by omega))
                      have hb2 := (CW.out.block _ lrb (by have h1 := HRD.out w3.heap.size (by simp); simp at h1; simp; omega)).trans HRB.out
                      have hr2 := (CW.out.block _ (heap_lt ((HW.out.block _ (heap_lt HRW.out) (by simp)).trans HRW.out)) (by simp; omega)).trans ((HW.out.block _ (heap_lt HRW.out) (by simp)).trans HRW.out)
                      have HRN := Lib.hid (show (w.heap.size + 1 : Nat) ≠ w3.heap.size from by have h1 := HRD.out w3.heap.size (by simp); have h2 := heap_lt HRW.out; simp at h1; omega)
                      clear y0 y1 y2 y3 y4 y5 y6 y7 y8 j1 j2 j3 j4 ac pc
                      generalize (W.setCell _ _).setCell _ _ = W2 at *
                      have y0 := cell_of_block hb2 0
                      have y1 := cell_of_block hb2 1
                      have y2 := cell_of_block hb2 2
                      have y3 := cell_of_block hb2 3
                      have y4 := cell_of_block hb2 4
                      have y5 := cell_of_block hb2 5
                      have y6 := cell_of_block hb2 6
                      have y7 := cell_of_block hb2 7
                      have y8 := cell_of_block hb2 8
                      simp only [List.getElem?_toArray, List.getElem?_cons_zero, List.getElem?_cons_succ] at y0 y1 y2 y3 y4 y5 y6 y7 y8
                      have f0 := frozen_of_block hr2 0
                      have z0 := cell_of_block hr2 0
                      have f1 := frozen_of_block hr2 1
                      have z1 := cell_of_block hr2 1
                      have f2 := frozen_of_block hr2 2
                      have z2 := cell_of_block hr2 2
                      have f3 := frozen_of_block hr2 3
                      have z3 := cell_of_block hr2 3
                      have f4 := frozen_of_block hr2 4
                      have z4 := cell_of_block hr2 4
                      have f5 := frozen_of_block hr2 5
                      have z5 := cell_of_block hr2 5
                      have f6 := frozen_of_block hr2 6
                      have z6 := cell_of_block hr2 6
                      have f7 := frozen_of_block hr2 7
                      have z7 := cell_of_block hr2 7
                      have f8 := frozen_of_block hr2 8
                      have z8 := cell_of_block hr2 8
                      simp only [List.getElem?_toArray, List.getElem?_cons_zero, List.getElem?_cons_succ] at z0 z1 z2 z3 z4 z5 z6 z7 z8
                      have h9 := Lib.hid (sto9of9 hr2 (.slice (some ⟨g3, 0, none⟩) (takeT (T1of S.T (S.a 1 i)) S.K).n c3) (.slice (some ⟨g2, 0, none⟩) S.T.n c2) (.int .i64 ((takeK (T1of S.T (S.a 1 i)) S.K).first : Int)) (.int .i64 ((takeK (T1of S.T (S.a 1 i)) S.K).next : Int)) (.int .i64 ((takeK (T1of S.T (S.a 1 i)) S.K).asked : Int)) (.slice (some ⟨g 0, 0, none⟩) (S.n 0) (c 0)) (.slice (some ⟨g 1, 0, none⟩) (S.n 1) (c 1)) (.slice (some ⟨h 0, 0, none⟩) (S.n 0) (S.n 0)) (.slice (some ⟨h 1, 0, none⟩) (S.n 1) (S.n 1)))
                      clear hr2 hb2
                      go_wp2_with fail
                      generalize ((((((((W2.setCell _ _).setCell _ _).setCell _ _).setCell _ _).setCell _ _).setCell _ _).setCell _ _).setCell _ _).setCell _ _ = W3 at *
                      have hR3 := h9.out.1
                      have k0 := cell_of_block hR3 0
                      have k1 := cell_of_block hR3 1
                      have k2 := cell_of_block hR3 2
                      have k3 := cell_of_block hR3 3
                      have k4 := cell_of_block hR3 4
                      have k5 := cell_of_block hR3 5
                      have k6 := cell_of_block hR3 6
                      have k7 := cell_of_block hR3 7
                      have k8 := cell_of_block hR3 8
                      simp only [List.getElem?_toArray, List.getElem?_cons_zero, List.getElem?_cons_succ] at k0 k1 k2 k3 k4 k5 k6 k7 k8
                      have HRS := HP.out.1.chg h9.out.2 (fun q hq => .inl (by simp at hq; rw [hq]; exact HIN.out)) (fun q hq => by have := HOW.out q hq; simp; omega)
                      have HRS0 := { HRS with t := HRS.t.more (B := A0) (fun k hk => .inl (HSB.out k hk)), own := HOA.out : RefS A0 W3 _ _ g c h _ }
                      have HCH : Chg [g 0, g 1, h 0, h 1] w W3 := (((HCW.out.mono (by simp)).trans HP.out.2).then h9.out.2 (fun q hq => by simp at hq; right; omega))
                      (try simp only [Exit.inBlock, Exit.then])
                      refine bodyPost_ret (v := .tuple #[st10 (.slice (some ⟨g3, 0, none⟩) (takeT (T1of S.T (S.a 1 i)) S.K).n c3) (.slice (some ⟨g2, 0, none⟩) S.T.n c2) (S.step 1 i).K S.n g c h, .bool true]) (by simp [results, Try.results46, go_sem, k0, k1, k2, k3, k4, k5, k6, k7, k8, st10, PS.step, T1of_eq]) rfl ?_
                      exact stepR_some HNX.out ⟨_, rfl, HRS0, HCH⟩
        · obtain rfl : i = S.n 1 := by omega
          have HNN := Lib.hid (next_miss (S := S) (by
            intro j hj
            by_cases e : j = 0
            · subst e; exact HF0.out
            · obtain rfl : j = 1 := by omega
              exact hM.out.1.trans firstFree_end))
          have hr2 := (hM.out.2.block _ (heap_lt HR.out) (by simp)).trans HR.out
          have f0 := frozen_of_block hr2 0
          have z0 := cell_of_block hr2 0
          have f1 := frozen_of_block hr2 1
          have z1 := cell_of_block hr2 1
          have f2 := frozen_of_block hr2 2
          have z2 := cell_of_block hr2 2
          have f3 := frozen_of_block hr2 3
          have z3 := cell_of_block hr2 3
          have f4 := frozen_of_block hr2 4
          have z4 := cell_of_block hr2 4
          have f5 := frozen_of_block hr2 5
          have z5 := cell_of_block hr2 5
          have f6 := frozen_of_block hr2 6
          have z6 := cell_of_block hr2 6
          have f7 := frozen_of_block hr2 7
          have z7 := cell_of_block hr2 7
          have f8 := frozen_of_block hr2 8
          have z8 := cell_of_block hr2 8
          simp only [List.getElem?_toArray, List.getElem?_cons_zero, List.getElem?_cons_succ] at z0 z1 z2 z3 z4 z5 z6 z7 z8
          have h9 := Lib.hid (sto9of9 hr2 (.slice (some ⟨g1, 0, none⟩) S.T.n c1) (.slice (some ⟨g2, 0, none⟩) S.T.n c2) (.int .i64 (S.K.first : Int)) (.int .i64 (S.K.next : Int)) (.int .i64 (S.K.asked : Int)) (.slice (some ⟨g 0, 0, none⟩) (S.n 0) (c 0)) (.slice (some ⟨g 1, 0, none⟩) (S.n 1) (c 1)) (.slice (some ⟨h 0, 0, none⟩) (S.n 0) (S.n 0)) (.slice (some ⟨h 1, 0, none⟩) (S.n 1) (S.n 1)))
          have hsw := hM.out.2.size
          clear hr2
          go_wp2_with fail
          generalize ((((((((wr.setCell _ _).setCell _ _).setCell _ _).setCell _ _).setCell _ _).setCell _ _).setCell _ _).setCell _ _).setCell _ _ = W3 at *
          have hR3 := h9.out.1
          have k0 := cell_of_block hR3 0
          have k1 := cell_of_block hR3 1
          have k2 := cell_of_block hR3 2
          have k3 := cell_of_block hR3 3
          have k4 := cell_of_block hR3 4
          have k5 := cell_of_block hR3 5
          have k6 := cell_of_block hR3 6
          have k7 := cell_of_block hR3 7
          have k8 := cell_of_block hR3 8
          simp only [List.getElem?_toArray, List.getElem?_cons_zero, List.getElem?_cons_succ] at k0 k1 k2 k3 k4 k5 k6 k7 k8
          (try simp only [Exit.inBlock, Exit.then])
          refine bodyPost_ret (v := .tuple #[st10 (.slice (some ⟨g1, 0, none⟩) S.T.n c1) (.slice (some ⟨g2, 0, none⟩) S.T.n c2) S.K S.n g c h, .bool false]) (by simp [results, Try.results46, go_sem, k0, k1, k2, k3, k4, k5, k6, k7, k8, st10]) rfl ?_
          exact stepR_none HNN.out ⟨rfl, (HC.out.trans hM.out.2).then h9.out.2 (fun q hq => by simp at hq; right; omega)⟩

end Go.Proofs.Ytnhabpbdpjgiiaa
