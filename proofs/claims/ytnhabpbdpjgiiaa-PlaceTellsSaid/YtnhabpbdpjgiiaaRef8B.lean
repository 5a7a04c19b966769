/- The reference's tally: Add, refused; Add as 'up' and 'down'. -/
import Derived.Test.YtnhabpbdpjgiiaaRef8A
namespace Go.Proofs.Ytnhabpbdpjgiiaa
open Go.RowKit
set_option linter.unusedVariables false
set_option linter.unusedSimpArgs false

section
variable {A : List Nat} {w : World} {v1 v2 : Value} {T : Tal} (h : RefT A w v1 v2 T)
include h

set_option maxRecDepth 20000 in
set_option maxHeartbeats 1000000 in
theorem r8add_out (b by' : Int) (hb : b < 0 ∨ (0 ≤ b ∧ (T.n : Int) ≤ b)) :
    Calls Try.prog 16 #[.agg #[v1, v2], .int .i64 b, .int .i64 by'] w fun e w' => e = .returned (.tuple #[.agg #[v1, v2], .int .i64 80]) ∧ Chg [] w w' := by
  obtain ⟨g1, c1, rfl, a1, a2, a3, a4, a5⟩ := h.now
  obtain ⟨g2, c2, rfl, d1, d2, d3, d4, d5⟩ := h.kept
  have HC : Hid (Chg [] w ((w.alloc (.cells #[.slice (some ⟨g1, 0, none⟩) T.n c1, .slice (some ⟨g2, 0, none⟩) T.n c2] 33)).alloc (.cells #[.slice (some ⟨g1, 0, none⟩) T.n c1, .slice (some ⟨g2, 0, none⟩) T.n c2] 33))) := Lib.hid (((Chg.refl _ _).alloc _).alloc _)
  clear a5 d5 h
  rcases hb with hb | ⟨hb, hb2⟩
  all_goals
    go_enter Try.func16, Try.ntmps16
    go_wp2_with fail
    exact bodyPost_ret (v := .tuple #[.agg #[.slice (some ⟨g1, 0, none⟩) T.n c1, .slice (some ⟨g2, 0, none⟩) T.n c2], .int .i64 80]) (by simp [results, Try.results16, go_sem]) rfl ⟨rfl, HC.out⟩

set_option maxRecDepth 20000 in
set_option maxHeartbeats 1000000 in
theorem r8add_full (b : Nat) (hb : b < T.n) (hm : T.now b = 65535) :
    Calls Try.prog 16 #[.agg #[v1, v2], .int .i64 (b : Int), .int .i64 1] w fun e w' => e = .returned (.tuple #[.agg #[v1, v2], .int .i64 81]) ∧ Chg [] w w' := by
  have n2 := h.n2
  obtain ⟨g1, c1, rfl, a1, a2, a3, a4, a5⟩ := h.now
  obtain ⟨g2, c2, rfl, d1, d2, d3, d4, d5⟩ := h.kept
  have cb := a5 b hb
  rw [hm] at cb
  have cb1 : ((w.alloc (.cells #[.slice (some ⟨g1, 0, none⟩) T.n c1, .slice (some ⟨g2, 0, none⟩) T.n c2] 33)).alloc (.cells #[.slice none 0 0, .slice none 0 0] 33)).cell? ⟨g1, b, none⟩ = some (.int .i64 65535) :=
    ((((Chg.refl [] w).alloc _).alloc _).cell (p := ⟨g1, b, none⟩) a3 (by simp)).trans cb
  have HC : Hid (Chg [] w ((w.alloc (.cells #[.slice (some ⟨g1, 0, none⟩) T.n c1, .slice (some ⟨g2, 0, none⟩) T.n c2] 33)).alloc (.cells #[.slice (some ⟨g1, 0, none⟩) T.n c1, .slice (some ⟨g2, 0, none⟩) T.n c2] 33))) := Lib.hid (((Chg.refl _ _).alloc _).alloc _)
  clear a5 d5 h hm cb
  go_enter Try.func16, Try.ntmps16
  go_wp2_with fail
  exact bodyPost_ret (v := .tuple #[.agg #[.slice (some ⟨g1, 0, none⟩) T.n c1, .slice (some ⟨g2, 0, none⟩) T.n c2], .int .i64 81]) (by simp [results, Try.results16, go_sem]) rfl ⟨rfl, HC.out⟩

set_option maxRecDepth 20000 in
set_option maxHeartbeats 1000000 in
theorem r8add_none (b : Nat) (hb : b < T.n) (hm : T.now b = 0) :
    Calls Try.prog 16 #[.agg #[v1, v2], .int .i64 (b : Int), .int .i64 (-1)] w fun e w' => e = .returned (.tuple #[.agg #[v1, v2], .int .i64 82]) ∧ Chg [] w w' := by
  have n2 := h.n2
  obtain ⟨g1, c1, rfl, a1, a2, a3, a4, a5⟩ := h.now
  obtain ⟨g2, c2, rfl, d1, d2, d3, d4, d5⟩ := h.kept
  have cb := a5 b hb
  rw [hm] at cb
  have cb1 : ((w.alloc (.cells #[.slice (some ⟨g1, 0, none⟩) T.n c1, .slice (some ⟨g2, 0, none⟩) T.n c2] 33)).alloc (.cells #[.slice none 0 0, .slice none 0 0] 33)).cell? ⟨g1, b, none⟩ = some (.int .i64 0) :=
    ((((Chg.refl [] w).alloc _).alloc _).cell (p := ⟨g1, b, none⟩) a3 (by simp)).trans cb
  have HC : Hid (Chg [] w ((w.alloc (.cells #[.slice (some ⟨g1, 0, none⟩) T.n c1, .slice (some ⟨g2, 0, none⟩) T.n c2] 33)).alloc (.cells #[.slice (some ⟨g1, 0, none⟩) T.n c1, .slice (some ⟨g2, 0, none⟩) T.n c2] 33))) := Lib.hid (((Chg.refl _ _).alloc _).alloc _)
  clear a5 d5 h hm cb
  go_enter Try.func16, Try.ntmps16
  go_wp2_with fail
  exact bodyPost_ret (v := .tuple #[.agg #[.slice (some ⟨g1, 0, none⟩) T.n c1, .slice (some ⟨g2, 0, none⟩) T.n c2], .int .i64 82]) (by simp [results, Try.results16, go_sem]) rfl ⟨rfl, HC.out⟩

theorem r8up (hA : ∀ k, k ∈ A → k < w.heap.size) (b : Int) :
    Calls Try.prog 16 #[.agg #[v1, v2], .int .i64 b, .int .i64 1] w fun e w' => ∃ u1, e = .returned (.tuple #[.agg #[u1, v2], .int .i64 (upE T b)]) ∧ RefT A w' u1 v2 (up T b) ∧ Chg [] w w' := by
  by_cases hh : hasB T b = true
  · obtain ⟨h0, h1⟩ := (hasB_iff T b).1 hh
    obtain ⟨b, rfl⟩ := Int.eq_ofNat_of_zero_le h0
    have hb : b < T.n := by omega
    have hle := h.b1 b hb
    by_cases hm : T.now b = 65535
    · have He : upE T b = 81 := by simp [upE, hh, hm]
      have Hu : up T b = T := by unfold up; rw [if_neg (by rw [He]; decide)]
      refine (r8add_full h b hb hm).mono fun e w' ⟨he, hc⟩ => ⟨v1, by rw [he, He], by rw [Hu]; exact h.chg hc (by simp), hc⟩
    · have He : upE T b = 0 := by simp [upE, hh, hm]
      have Hu : up T b = T.set b (T.now b + 1) := by simp [up, He]
      have e1 : ((T.now b : Int) + 1).toNat = T.now b + 1 := by omega
      refine (r8add_yes h hA b 1 hb (.inl rfl) (by omega) (by omega)).mono fun e w' ⟨u1, he, hr, hc⟩ => ⟨u1, by rw [he, He], by rw [Hu]; rw [e1] at hr; exact hr, hc⟩
  · have hh' : hasB T b = false := by simpa using hh
    have He : upE T b = 80 := by simp [upE, hh']
    have Hu : up T b = T := by unfold up; rw [if_neg (by rw [He]; decide)]
    have hb : b < 0 ∨ (0 ≤ b ∧ (T.n : Int) ≤ b) := by
      rw [hasB_iff] at hh
      omega
    refine (r8add_out h b 1 hb).mono fun e w' ⟨he, hc⟩ => ⟨v1, by rw [he, He], by rw [Hu]; exact h.chg hc (by simp), hc⟩
theorem r8down (hA : ∀ k, k ∈ A → k < w.heap.size) (b : Int) :
    Calls Try.prog 16 #[.agg #[v1, v2], .int .i64 b, .int .i64 (-1)] w fun e w' => ∃ u1, e = .returned (.tuple #[.agg #[u1, v2], .int .i64 (downE T b)]) ∧ RefT A w' u1 v2 (down T b) ∧ Chg [] w w' := by
  by_cases hh : hasB T b = true
  · obtain ⟨h0, h1⟩ := (hasB_iff T b).1 hh
    obtain ⟨b, rfl⟩ := Int.eq_ofNat_of_zero_le h0
    have hb : b < T.n := by omega
    have hle := h.b1 b hb
    by_cases hm : T.now b = 0
    · have He : downE T b = 82 := by simp [downE, hh, hm]
      have Hu : down T b = T := by unfold down; rw [if_neg (by rw [He]; decide)]
      refine (r8add_none h b hb hm).mono fun e w' ⟨he, hc⟩ => ⟨v1, by rw [he, He], by rw [Hu]; exact h.chg hc (by simp), hc⟩
    · have He : downE T b = 0 := by simp [downE, hh, hm]
      have Hu : down T b = T.set b (T.now b - 1) := by simp [down, He]
      have e1 : ((T.now b : Int) + -1).toNat = T.now b - 1 := by omega
      refine (r8add_yes h hA b (-1) hb (.inr rfl) (by omega) (by omega)).mono fun e w' ⟨u1, he, hr, hc⟩ => ⟨u1, by rw [he, He], by rw [Hu]; rw [e1] at hr; exact hr, hc⟩
  · have hh' : hasB T b = false := by simpa using hh
    have He : downE T b = 80 := by simp [downE, hh']
    have Hu : down T b = T := by unfold down; rw [if_neg (by rw [He]; decide)]
    have hb : b < 0 ∨ (0 ≤ b ∧ (T.n : Int) ≤ b) := by
      rw [hasB_iff] at hh
      omega
    refine (r8add_out h b (-1) hb).mono fun e w' ⟨he, hc⟩ => ⟨v1, by rw [he, He], by rw [Hu]; exact h.chg hc (by simp), hc⟩
end

/-! Count -/
theorem own_drewN {w : World} {base e n s : Nat} {v : Value} {xs : List Value} (h : w.ownsRow base e s v n xs) (k : Nat) : (w.drewN k).ownsRow base e s v n xs := h
def chgsTo (T : Tal) (k : Nat) : List Nat := (List.range k).filter T.changed
theorem chgsTo_n (T : Tal) : chgsTo T T.n = chgs T := rfl
theorem chgsTo_hit {T : Tal} {k : Nat} (h : T.changed k = true) : intVs (chgsTo T (k + 1)) = intVs (chgsTo T k) ++ [.int .i64 (k : Int)] ∧ (chgsTo T (k + 1)).length = (chgsTo T k).length + 1 := by
  simp [chgsTo, intVs, List.range_succ, List.filter_append, h]
theorem chgsTo_miss {T : Tal} {k : Nat} (h : T.changed k = false) : chgsTo T (k + 1) = chgsTo T k := by
  simp [chgsTo, List.range_succ, List.filter_append, h]
theorem chgsTo_le (T : Tal) (k : Nat) : (chgsTo T k).length ≤ k := Nat.le_trans (List.length_filter_le _ _) (by simp)

end Go.Proofs.Ytnhabpbdpjgiiaa
