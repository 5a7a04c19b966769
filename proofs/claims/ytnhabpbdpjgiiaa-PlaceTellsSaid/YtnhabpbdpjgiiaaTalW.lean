/- The walks of package tally: what each method does to a tally in memory. -/
import Derived.Test.YtnhabpbdpjgiiaaTal
import Derived.Deep.QuietTactic
import Derived.BigQuiet
namespace Go.Proofs.Ytnhabpbdpjgiiaa
open Go.RowKit

theorem zeroU16 (w : World) : (zeroValue 22).run Try.prog w = .ok (.int .u16 0) w := by kernel_rfl

set_option maxHeartbeats 400000 in
theorem blocks_nil (w : World) : Calls Try.prog 30 #[.pointer none] w fun e w' => e = .returned (.int .i64 0) ∧ w = w' := by
  go_enter Try.func30, Try.ntmps30
  go_wp2
  go_ret
  exact ⟨rfl, rfl⟩

set_option maxHeartbeats 400000 in
theorem blocks_at {w : World} {t bc bk : Nat} {T : Tal} (h : TallyAt w t bc bk T) :
    Calls Try.prog 30 #[.pointer (some ⟨t, 0, none⟩)] w fun e w' => e = .returned (.int .i64 T.n) ∧ w = w' := by
  have c0 := h.c0
  go_enter Try.func30, Try.ntmps30
  go_wp2
  go_ret
  exact ⟨rfl, rfl⟩

set_option maxHeartbeats 400000 in
theorem frees_at {w : World} {t bc bk : Nat} {T : Tal} (h : TallyAt w t bc bk T) :
    Calls Try.prog 51 #[.pointer (some ⟨t, 0, none⟩)] w fun e w' => e = .returned (.int .i64 T.frees) ∧ w = w' := by
  have c0 := h.c2
  go_enter Try.func51, Try.ntmps51
  go_wp2
  go_ret
  exact ⟨rfl, rfl⟩

def hasB (T : Tal) (b : Int) : Bool := decide (0 ≤ b) && decide (b < (T.n : Int))

set_option maxHeartbeats 400000 in
theorem has_at {w : World} {t bc bk : Nat} {T : Tal} (h : TallyAt w t bc bk T) (b : Int) :
    Calls Try.prog 38 #[.pointer (some ⟨t, 0, none⟩), .int .i64 b] w fun e w' => e = .returned (.bool (hasB T b)) ∧ w = w' := by
  by_cases h0 : 0 ≤ b
  · go_enter Try.func38, Try.ntmps38
    go_wp2_with (go_at_call 30; refine (blocks_at h).mono ?_; rintro e w' ⟨rfl, rfl⟩)
    go_ret
    exact ⟨by simp [hasB, h0], rfl⟩
  · go_enter Try.func38, Try.ntmps38
    go_wp2_with fail
    go_ret
    exact ⟨by simp [hasB]; omega, rfl⟩

set_option maxHeartbeats 400000 in
theorem was_at {w : World} {t bc bk : Nat} {T : Tal} (h : TallyAt w t bc bk T) (b : Nat) (hb : b < T.n) :
    Calls Try.prog 53 #[.pointer (some ⟨t, 0, none⟩), .int .i64 (b : Int)] w fun e w' => e = .returned (.int .u16 (T.kept b : Nat)) ∧ w = w' := by
  have c0 := h.c0
  have c1 := h.c1
  have cc := h.cc hb
  have n2 := h.n2
  have hl := (h.map.look (t := 76) Try.underlying3 Try.underlying22 Try.underlying76 (zeroU16 w) hb n2).1
  by_cases hk : T.now b = T.kept b
  · have e1 : T.keptAt b = none := by simp [Tal.keptAt, hk]
    rw [e1] at hl
    simp only [Option.getD_none, Option.isSome_none] at hl
    go_enter Try.func53, Try.ntmps53
    go_wp2_with fail
    go_ret
    exact ⟨rfl, rfl⟩
  · have e1 : T.keptAt b = some (T.kept b) := by simp [Tal.keptAt, hk]
    rw [e1] at hl
    simp only [Option.getD_some, Option.isSome_some] at hl
    go_enter Try.func53, Try.ntmps53
    go_wp2_with fail
    go_ret
    exact ⟨rfl, rfl⟩

/-! set's closure 'by' -/
set_option maxHeartbeats 400000 in
theorem by_skip {w : World} {bw bx : Nat} (count : Nat) (one : Int) (h0 : 0 < count) :
    Calls Try.prog 54 #[.int .u16 (count : Int), .int .i64 one, .pointer (some ⟨bw, 0, none⟩), .pointer (some ⟨bx, 0, none⟩)] w fun e w' => e = .returned (.tuple #[]) ∧ w = w' := by
  go_enter Try.func54, Try.ntmps54
  go_wp2_with fail
  go_end0
  exact ⟨rfl, rfl⟩

set_option maxHeartbeats 400000 in
theorem by_wait {w : World} {bw bx t : Nat} {k : Nat} {f : Int} (one : Int) (hw : w.cell? ⟨bw, 0, none⟩ = some (.int .u16 (k : Int))) (hk : 0 < k) (hx : w.cell? ⟨bx, 0, none⟩ = some (.pointer (some ⟨t, 0, none⟩)))
    (c3 : w.cell? ⟨t, 3, none⟩ = some (.int .i64 f)) (fz : w.frozen? ⟨t, 3, none⟩ = false) (h1 : -1 ≤ one) (h2 : one ≤ 1) (h3 : -5000 ≤ f) (h4 : f ≤ 5000) :
    Calls Try.prog 54 #[.int .u16 0, .int .i64 one, .pointer (some ⟨bw, 0, none⟩), .pointer (some ⟨bx, 0, none⟩)] w fun e w' => e = .returned (.tuple #[]) ∧ w.setCell ⟨t, 3, none⟩ (.int .i64 (f + one)) = w' := by
  go_enter Try.func54, Try.ntmps54
  go_wp2_with fail
  go_end0
  exact ⟨rfl, rfl⟩

set_option maxHeartbeats 400000 in
theorem by_free {w : World} {bw bx t : Nat} {f : Int} (one : Int) (hw : w.cell? ⟨bw, 0, none⟩ = some (.int .u16 0)) (hx : w.cell? ⟨bx, 0, none⟩ = some (.pointer (some ⟨t, 0, none⟩)))
    (c3 : w.cell? ⟨t, 2, none⟩ = some (.int .i64 f)) (fz : w.frozen? ⟨t, 2, none⟩ = false) (h1 : -1 ≤ one) (h2 : one ≤ 1) (h3 : -5000 ≤ f) (h4 : f ≤ 5000) :
    Calls Try.prog 54 #[.int .u16 0, .int .i64 one, .pointer (some ⟨bw, 0, none⟩), .pointer (some ⟨bx, 0, none⟩)] w fun e w' => e = .returned (.tuple #[]) ∧ w.setCell ⟨t, 2, none⟩ (.int .i64 (f + one)) = w' := by
  go_enter Try.func54, Try.ntmps54
  go_wp2_with fail
  go_end0
  exact ⟨rfl, rfl⟩

theorem by_any {w : World} {bw bx t k count : Nat} {f g one : Int} {s m : Value} (hw : w.cell? ⟨bw, 0, none⟩ = some (.int .u16 (k : Int))) (hx : w.cell? ⟨bx, 0, none⟩ = some (.pointer (some ⟨t, 0, none⟩)))
    (ht : w.heap[t]? = some (.cells #[s, m, .int .i64 f, .int .i64 g] 78 (0, 0))) (h1 : -1 ≤ one) (h2 : one ≤ 1) (h3 : -5000 ≤ f) (h4 : f ≤ 5000) (h5 : -5000 ≤ g) (h6 : g ≤ 5000) :
    Calls Try.prog 54 #[.int .u16 (count : Int), .int .i64 one, .pointer (some ⟨bw, 0, none⟩), .pointer (some ⟨bx, 0, none⟩)] w fun e w' => e = .returned (.tuple #[]) ∧
      w'.heap[t]? = some (.cells #[s, m, .int .i64 (f + if count = 0 ∧ k = 0 then one else 0), .int .i64 (g + if count = 0 ∧ k ≠ 0 then one else 0)] 78 (0, 0)) ∧ Chg [t] w w' := by
  by_cases hc : count = 0
  · subst hc
    by_cases hk : k = 0
    · subst hk
      have c2 := cell_of_block ht 2
      have fz := frozen_of_block ht 2
      refine (by_free (f := f) one hw hx c2 fz h1 h2 h3 h4).mono ?_
      rintro e w' ⟨rfl, rfl⟩
      refine ⟨rfl, ?_, (Chg.refl _ _).setCell (.inl (by simp)) _⟩
      rw [setCell_block ht]; simp
    · have c3 := cell_of_block ht 3
      have fz := frozen_of_block ht 3
      refine (by_wait (f := g) one hw (by omega) hx c3 fz h1 h2 h5 h6).mono ?_
      rintro e w' ⟨rfl, rfl⟩
      refine ⟨rfl, ?_, (Chg.refl _ _).setCell (.inl (by simp)) _⟩
      rw [setCell_block ht]; simp [hk]
  · refine (by_skip count one (by omega)).mono ?_
    rintro e w' ⟨rfl, rfl⟩
    refine ⟨rfl, ?_, Chg.refl _ _⟩
    rw [ht]; simp [hc]

end Go.Proofs.Ytnhabpbdpjgiiaa
