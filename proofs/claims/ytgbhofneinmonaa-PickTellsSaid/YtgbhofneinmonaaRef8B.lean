/- The reference's tally: Add, refused; Add as 'up' and 'down'. -/
import Derived.Test.YtgbhofneinmonaaRef8A
namespace Go.Proofs.Ytgbhofneinmonaa
open Go.RowKit
set_option linter.unusedVariables false
set_option linter.unusedSimpArgs false

section
variable {A : List Nat} {w : World} {v1 v2 : Value} {T : Tal} (h : RefT A w v1 v2 T)
include h

set_option maxRecDepth 20000 in
set_option maxHeartbeats 1000000 in
theorem r8add_out (b by' : Int) (hb : b < 0 ∨ (0 ≤ b ∧ (T.n : Int) ≤ b)) :
    Calls Try.prog 34 #[.agg #[v1, v2], .int .i64 b, .int .i64 by'] w fun e w' => e = .returned (.tuple #[.agg #[v1, v2], .int .i64 80]) ∧ Chg [] w w' := by
  obtain ⟨g1, c1, rfl, a1, a2, a3, a4, a5⟩ := h.now
  obtain ⟨g2, c2, rfl, d1, d2, d3, d4, d5⟩ := h.kept
  have HC : Hid (Chg [] w ((w.alloc (.cells #[.slice (some ⟨g1, 0, none⟩) T.n c1, .slice (some ⟨g2, 0, none⟩) T.n c2] 52)).alloc (.cells #[.slice (some ⟨g1, 0, none⟩) T.n c1, .slice (some ⟨g2, 0, none⟩) T.n c2] 52))) := Lib.hid (((Chg.refl _ _).alloc _).alloc _)
  clear a5 d5 h
  rcases hb with hb | ⟨hb, hb2⟩
  all_goals
    go_enter Try.func34, Try.ntmps34
    go_wp2_with fail
    exact bodyPost_ret (v := .tuple #[.agg #[.slice (some ⟨g1, 0, none⟩) T.n c1, .slice (some ⟨g2, 0, none⟩) T.n c2], .int .i64 80]) (by simp [results, Try.results34, go_sem]) rfl ⟨rfl, HC.out⟩

set_option maxRecDepth 20000 in
set_option maxHeartbeats 1000000 in
theorem r8add_full (b : Nat) (hb : b < T.n) (hm : T.now b = 65535) :
    Calls Try.prog 34 #[.agg #[v1, v2], .int .i64 (b : Int), .int .i64 1] w fun e w' => e = .returned (.tuple #[.agg #[v1, v2], .int .i64 81]) ∧ Chg [] w w' := by
  have n2 := h.n2
  obtain ⟨g1, c1, rfl, a1, a2, a3, a4, a5⟩ := h.now
  obtain ⟨g2, c2, rfl, d1, d2, d3, d4, d5⟩ := h.kept
  have cb := a5 b hb
  rw [hm] at cb
  have cb1 : ((w.alloc (.cells #[.slice (some ⟨g1, 0, none⟩) T.n c1, .slice (some ⟨g2, 0, none⟩) T.n c2] 52)).alloc (.cells #[.slice none 0 0, .slice none 0 0] 52)).cell? ⟨g1, b, none⟩ = some (.int .i64 65535) :=
    ((((Chg.refl [] w).alloc _).alloc _).cell (p := ⟨g1, b, none⟩) a3 (by simp)).trans cb
  have HC : Hid (Chg [] w ((w.alloc (.cells #[.slice (some ⟨g1, 0, none⟩) T.n c1, .slice (some ⟨g2, 0, none⟩) T.n c2] 52)).alloc (.cells #[.slice (some ⟨g1, 0, none⟩) T.n c1, .slice (some ⟨g2, 0, none⟩) T.n c2] 52))) := Lib.hid (((Chg.refl _ _).alloc _).alloc _)
  clear a5 d5 h hm cb
  go_enter Try.func34, Try.ntmps34
  go_wp2_with fail
  exact bodyPost_ret (v := .tuple #[.agg #[.slice (some ⟨g1, 0, none⟩) T.n c1, .slice (some ⟨g2, 0, none⟩) T.n c2], .int .i64 81]) (by simp [results, Try.results34, go_sem]) rfl ⟨rfl, HC.out⟩

set_option maxRecDepth 20000 in
set_option maxHeartbeats 1000000 in
theorem r8add_none (b : Nat) (hb : b < T.n) (hm : T.now b = 0) :
    Calls Try.prog 34 #[.agg #[v1, v2], .int .i64 (b : Int), .int .i64 (-1)] w fun e w' => e = .returned (.tuple #[.agg #[v1, v2], .int .i64 82]) ∧ Chg [] w w' := by
  have n2 := h.n2
  obtain ⟨g1, c1, rfl, a1, a2, a3, a4, a5⟩ := h.now
  obtain ⟨g2, c2, rfl, d1, d2, d3, d4, d5⟩ := h.kept
  have cb := a5 b hb
  rw [hm] at cb
  have cb1 : ((w.alloc (.cells #[.slice (some ⟨g1, 0, none⟩) T.n c1, .slice (some ⟨g2, 0, none⟩) T.n c2] 52)).alloc (.cells #[.slice none 0 0, .slice none 0 0] 52)).cell? ⟨g1, b, none⟩ = some (.int .i64 0) :=
    ((((Chg.refl [] w).alloc _).alloc _).cell (p := ⟨g1, b, none⟩) a3 (by simp)).trans cb
  have HC : Hid (Chg [] w ((w.alloc (.cells #[.slice (some ⟨g1, 0, none⟩) T.n c1, .slice (some ⟨g2, 0, none⟩) T.n c2] 52)).alloc (.cells #[.slice (some ⟨g1, 0, none⟩) T.n c1, .slice (some ⟨g2, 0, none⟩) T.n c2] 52))) := Lib.hid (((Chg.refl _ _).alloc _).alloc _)
  clear a5 d5 h hm cb
  go_enter Try.func34, Try.ntmps34
  go_wp2_with fail
  exact bodyPost_ret (v := .tuple #[.agg #[.slice (some ⟨g1, 0, none⟩) T.n c1, .slice (some ⟨g2, 0, none⟩) T.n c2], .int .i64 82]) (by simp [results, Try.results34, go_sem]) rfl ⟨rfl, HC.out⟩

theorem r8up (hA : ∀ k, k ∈ A → k < w.heap.size) (b : Int) :
    Calls Try.prog 34 #[.agg #[v1, v2], .int .i64 b, .int .i64 1] w fun e w' => ∃ u1, e = .returned (.tuple #[.agg #[u1, v2], .int .i64 (upE T b)]) ∧ RefT A w' u1 v2 (up T b) ∧ Chg [] w w' := by
  by_cases hh : hasB T b = true
  · obtain ⟨h0, h1⟩ := (hasB_iff T b).1 hh
    obtain ⟨b, rfl⟩ := Int.eq_ofNat_of_zero_le h0
    have hb : b < T.n := by omega
    have hle := h.b1 b hb
    by_cases hm : T.now b = 65535
    · have He : upE T b = 81 := by simp [upE, hh, hm]
      have Hu : up T b = T := by unfold up; rw [if_neg (by rw [He]; decide)]
      refine (r8add_full h b hb hm).mono fun e w' ⟨he, hc⟩ => ⟨v1, by rw [he, He], by rw [Hu]; exact h.chg hc (by simp), hc⟩
    · have He : upE T b = 0 := by simp [upE, hh, hm]
      have Hu : up T b = T.set b (T.now b + 1) := by simp [up, He]
      have e1 : ((T.now b : Int) + 1).toNat = T.now b + 1 := by omega
      refine (r8add_yes h hA b 1 hb (.inl rfl) (by omega) (by omega)).mono fun e w' ⟨u1, he, hr, hc⟩ => ⟨u1, by rw [he, He], by rw [Hu]; rw [e1] at hr; exact hr, hc⟩
  · have hh' : hasB T b = false := by simpa using hh
    have He : upE T b = 80 := by simp [upE, hh']
    have Hu : up T b = T := by unfold up; rw [if_neg (by rw [He]; decide)]
    have hb : b < 0 ∨ (0 ≤ b ∧ (T.n : Int) ≤ b) := by
      rw [hasB_iff] at hh
      omega
    refine (r8add_out h b 1 hb).mono fun e w' ⟨he, hc⟩ => ⟨v1, by rw [he, He], by rw [Hu]; exact h.chg hc (by simp), hc⟩
theorem r8down (hA : ∀ k, k ∈ A → k < w.heap.size) (b : Int) :
    Calls Try.prog 34 #[.agg #[v1, v2], .int .i64 b, .int .i64 (-1)] w fun e w' => ∃ u1, e = .returned (.tuple #[.agg #[u1, v2], .int .i64 (downE T b)]) ∧ RefT A w' u1 v2 (down T b) ∧ Chg [] w w' := by
  by_cases hh : hasB T b = true
  · obtain ⟨h0, h1⟩ := (hasB_iff T b).1 hh
    obtain ⟨b, rfl⟩ := Int.eq_ofNat_of_zero_le h0
    have hb : b < T.n := by omega
    have hle := h.b1 b hb
    by_cases hm : T.now b = 0
    · have He : downE T b = 82 := by simp [downE, hh, hm]
      have Hu : down T b = T := by unfold down; rw [if_neg (by rw [He]; decide)]
      refine (r8add_none h b hb hm).mono fun e w' ⟨he, hc⟩ => ⟨v1, by rw [he, He], by rw [Hu]; exact h.chg hc (by simp), hc⟩
    · have He : downE T b = 0 := by simp [downE, hh, hm]
      have Hu : down T b = T.set b (T.now b - 1) := by simp [down, He]
      have e1 : ((T.now b : Int) + -1).toNat = T.now b - 1 := by omega
      refine (r8add_yes h hA b (-1) hb (.inr rfl) (by omega) (by omega)).mono fun e w' ⟨u1, he, hr, hc⟩ => ⟨u1, by rw [he, He], by rw [Hu]; rw [e1] at hr; exact hr, hc⟩
  · have hh' : hasB T b = false := by simpa using hh
    have He : downE T b = 80 := by simp [downE, hh']
    have Hu : down T b = T := by unfold down; rw [if_neg (by rw [He]; decide)]
    have hb : b < 0 ∨ (0 ≤ b ∧ (T.n : Int) ≤ b) := by
      rw [hasB_iff] at hh
      omega
    refine (r8add_out h b (-1) hb).mono fun e w' ⟨he, hc⟩ => ⟨v1, by rw [he, He], by rw [Hu]; exact h.chg hc (by simp), hc⟩
end

/-! Count -/
theorem own_drewN {w : World} {base e n s : Nat} {v : Value} {xs : List Value} (h : w.ownsRow base e s v n xs) (k : Nat) : (w.drewN k).ownsRow base e s v n xs := h
def chgsTo (T : Tal) (k : Nat) : List Nat := (List.range k).filter T.changed
theorem chgsTo_n (T : Tal) : chgsTo T T.n = chgs T := rfl
theorem chgsTo_hit {T : Tal} {k : Nat} (h : T.changed k = true) : intVs (chgsTo T (k + 1)) = intVs (chgsTo T k) ++ [.int .i64 (k : Int)] ∧ (chgsTo T (k + 1)).length = (chgsTo T k).length + 1 := by
  simp [chgsTo, intVs, List.range_succ, List.filter_append, h]
theorem chgsTo_miss {T : Tal} {k : Nat} (h : T.changed k = false) : chgsTo T (k + 1) = chgsTo T k := by
  simp [chgsTo, List.range_succ, List.filter_append, h]
theorem chgsTo_le (T : Tal) (k : Nat) : (chgsTo T k).length ≤ k := Nat.le_trans (List.length_filter_le _ _) (by simp)

set_option maxRecDepth 20000 in
set_option maxHeartbeats 8000000 in
theorem r8count {A : List Nat} {w : World} {v1 v2 : Value} {T : Tal} (h : RefT A w v1 v2 T) :
    Calls Try.prog 38 #[.agg #[v1, v2]] w fun e w' => ∃ v, e = .returned (.tuple #[.int .i64 (T.frees : Int), .int .i64 (T.waits : Int), v]) ∧ SlI w' v (chgs T) ∧ (∀ g, v.ownBlock = some g → w.heap.size ≤ g) ∧ Chg [] w w' := by
  have n1 := h.n1
  have n2 := h.n2
  obtain ⟨g1, c1, rfl, a1, a2, a3, a4, a5⟩ := h.now
  obtain ⟨g2, c2, rfl, d1, d2, d3, d4, d5⟩ := h.kept
  have H1 := Lib.hid a5
  have H2 := Lib.hid d5
  have X := Lib.hid (new_block w (.cells #[.slice (some ⟨g1, 0, none⟩) T.n c1, .slice (some ⟨g2, 0, none⟩) T.n c2] 52))
  have HC := Lib.hid ((Chg.refl [] w).alloc (.cells #[.slice (some ⟨g1, 0, none⟩) T.n c1, .slice (some ⟨g2, 0, none⟩) T.n c2] 52))
  unfold maxLen at a2 d2
  clear a5 d5 h
  go_enter Try.func38, Try.ntmps38
  go_wp2_with fail
  generalize hw1 : w.alloc (.cells #[.slice (some ⟨g1, 0, none⟩) T.n c1, .slice (some ⟨g2, 0, none⟩) T.n c2] 52) = w1 at *
  have hs1 : w.heap.size + 1 = w1.heap.size := by rw [← hw1]; simp
  clear hw1
  go_loopw [5, 6, 7, 8] (fun a b v s wr => ∃ k : Nat, k ≤ T.n ∧ s = .int .i64 (k : Int) ∧ a = .int .i64 (cnt k T.free : Int) ∧ b = .int .i64 (cnt k T.waitB : Int) ∧ wr.ownsRow w1.heap.size 3 1 v (chgsTo T k).length (intVs (chgsTo T k)) ∧ Chg [] w1 wr) (fun _ _ _ s _ => T.n - (intOf s).toNat)
  case atStart => exact ⟨0, Nat.zero_le _, rfl, rfl, rfl, World.ownsRow_nil _ _ _ _, Chg.refl _ _⟩
  case round =>
    obtain ⟨k, hk, rfl, rfl, rfl, hown, hCk⟩ := hrel
    obtain ⟨wp, rfl⟩ : ∃ wp : World, wp = wr := ⟨_, rfl⟩
    have b1 := cnt_le T.free k
    have b2 := cnt_le T.waitB k
    have b3 := chgsTo_le T k
    have hsz := hCk.size
    have hx := (hCk.block w.heap.size (by omega) (by simp)).trans X.out
    have x0 := cell_of_block hx 0
    have x1 := cell_of_block hx 1
    simp only [List.getElem?_toArray, List.getElem?_cons_zero, List.getElem?_cons_succ] at x0 x1
    have Hown := Lib.hid hown
    have HCk := Lib.hid hCk
    have hCw := HC.out.trans hCk
    clear hown hCk hx
    by_cases hlk : k < T.n
    · have y1 := (hCw.cell (p := ⟨g1, k, none⟩) a3 (by simp)).trans (H1.out k hlk)
      have y2 := (hCw.cell (p := ⟨g2, k, none⟩) d3 (by simp)).trans (H2.out k hlk)
      have S1 := Lib.hid (cnt_step k T.free)
      have S2 := Lib.hid (cnt_step k T.waitB)
      have i0 : (0 : Int) ≤ (k : Int) := by omega
      have i1 : (k : Int) < (T.n : Int) := by omega
      by_cases hx0 : T.now k = 0
      · rw [hx0] at y1
        by_cases hy0 : T.kept k = 0
        · rw [hy0] at y2
          have E1 := Lib.hid (show cnt (k + 1) T.free = cnt k T.free + 1 by rw [S1.out]; simp [Tal.free, hx0, hy0])
          have E2 := Lib.hid (show cnt (k + 1) T.waitB = cnt k T.waitB by rw [S2.out]; simp [Tal.waitB, hx0, hy0])
          have E3 := Lib.hid (chgsTo_miss (show T.changed k = false by simp [Tal.changed, hx0, hy0]))
          clear hx0 hy0 S1 S2
          go_wp2_with fail
          go_quiet (fail)
          go_wp2_with fail
          go_roundw
          case rel => exact ⟨k + 1, by omega, by go_num, by rw [E1.out]; go_num, by rw [E2.out], by rw [E3.out]; exact Hown.out, HCk.out.drewN _⟩
          case measure => simp [intOf]; omega
        · have E1 := Lib.hid (show cnt (k + 1) T.free = cnt k T.free by rw [S1.out]; simp [Tal.free, hx0, hy0])
          have E2 := Lib.hid (show cnt (k + 1) T.waitB = cnt k T.waitB + 1 by rw [S2.out]; simp [Tal.waitB, hx0, hy0])
          have E3 := Lib.hid (chgsTo_hit (show T.changed k = true by simp [Tal.changed, hx0]; omega))
          have t1 : ((T.kept k : Int) == 0) = false := by simp; omega
          have t2 : (0 : Int) < (T.kept k : Int) := by omega
          have t3 : ((0 : Int) != (T.kept k : Int)) = true := by simp; omega
          clear hx0 hy0 S1 S2
          go_wp2_with fail
          go_quiet (fail)
          go_wp2_with (at_builtin; refine wpList_app1 _ rfl _ _ 50 rfl w1.heap.size 3 (.int .i64 0) 8 Try.underlying50 infoInt8 rfl _ _ _ rfl ((own_drewN Hown.out _).alloc _) wp.heap.size 1 (.int .i64 (k : Int)) rfl ?c1 rfl ?c2 (by decide) ?c3 ?_)
          case c1 => exact cell_of_block (new_block _ _) 0
          case c2 => omega
          case c3 => simp; omega
          intro v' w3 hown' hgrow
          rw [← E3.out.1, ← E3.out.2] at hown'
          have HC3 := Lib.hid (Chg.app (HCk.out.drewN _) Hown.out hgrow (Nat.le_refl _))
          clear hgrow
          go_wp2_with fail
          go_roundw
          case rel => exact ⟨k + 1, by omega, by go_num, by rw [E1.out], by rw [E2.out]; go_num, hown', HC3.out⟩
          case measure => simp [intOf]; omega
      · have t0 : ((T.now k : Int) == 0) = false := by simp; omega
        have E1 := Lib.hid (show cnt (k + 1) T.free = cnt k T.free by rw [S1.out]; simp [Tal.free, hx0])
        have E2 := Lib.hid (show cnt (k + 1) T.waitB = cnt k T.waitB by rw [S2.out]; simp [Tal.waitB, hx0])
        by_cases hxy : T.now k = T.kept k
        · have E3 := Lib.hid (chgsTo_miss (show T.changed k = false by simp [Tal.changed, hxy]))
          have t3 : ((T.now k : Int) != (T.kept k : Int)) = false := by simp [hxy]
          clear hx0 hxy S1 S2
          go_wp2_with fail
          go_quiet (fail)
          go_wp2_with fail
          go_roundw
          case rel => exact ⟨k + 1, by omega, by go_num, by rw [E1.out], by rw [E2.out], by rw [E3.out]; exact Hown.out, HCk.out.drewN _⟩
          case measure => simp [intOf]; omega
        · have E3 := Lib.hid (chgsTo_hit (show T.changed k = true by simp [Tal.changed, hxy]))
          have t3 : ((T.now k : Int) != (T.kept k : Int)) = true := by simp; omega
          clear hx0 hxy S1 S2
          go_wp2_with fail
          go_quiet (fail)
          go_wp2_with (at_builtin; refine wpList_app1 _ rfl _ _ 50 rfl w1.heap.size 3 (.int .i64 0) 8 Try.underlying50 infoInt8 rfl _ _ _ rfl ((own_drewN Hown.out _).alloc _) wp.heap.size 1 (.int .i64 (k : Int)) rfl ?c1 rfl ?c2 (by decide) ?c3 ?_)
          case c1 => exact cell_of_block (new_block _ _) 0
          case c2 => omega
          case c3 => simp; omega
          intro v' w3 hown' hgrow
          rw [← E3.out.1, ← E3.out.2] at hown'
          have HC3 := Lib.hid (Chg.app (HCk.out.drewN _) Hown.out hgrow (Nat.le_refl _))
          clear hgrow
          go_wp2_with fail
          go_roundw
          case rel => exact ⟨k + 1, by omega, by go_num, by rw [E1.out], by rw [E2.out], hown', HC3.out⟩
          case measure => simp [intOf]; omega
    · obtain rfl : k = T.n := by omega
      go_wp2_with fail
      go_ret3
      exact ⟨_, rfl, SlI.of_own (by rw [← chgsTo_n]; exact Hown.out), fun g hg => by have := (Hown.out.lt g hg).1; omega, hCw⟩

end Go.Proofs.Ytgbhofneinmonaa
