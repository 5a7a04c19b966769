/- Package pick: how a pick lies in memory; New, none, Next, Asked, Done, Room, Ask. -/
import Derived.Test.YtnhabpbdpjgiiaaTalU
namespace Go.Proofs.Ytnhabpbdpjgiiaa
open Go.RowKit

structure Pk where
  first : Nat
  next : Nat
  asked : Nat

structure PickAt (w : World) (p t : Nat) (K : Pk) : Prop where
  top : w.heap[p]? = some (.cells #[.pointer (some ⟨t, 0, none⟩), .int .i64 (K.first : Int), .int .i64 (K.next : Int), .int .i64 (K.asked : Int)] 80 (0, 0))

namespace PickAt
variable {w : World} {p t : Nat} {K : Pk}
theorem c0 (h : PickAt w p t K) : w.cell? ⟨p, 0, none⟩ = some (.pointer (some ⟨t, 0, none⟩)) := cell_of_block h.top 0
theorem c1 (h : PickAt w p t K) : w.cell? ⟨p, 1, none⟩ = some (.int .i64 (K.first : Int)) := cell_of_block h.top 1
theorem c2 (h : PickAt w p t K) : w.cell? ⟨p, 2, none⟩ = some (.int .i64 (K.next : Int)) := cell_of_block h.top 2
theorem c3 (h : PickAt w p t K) : w.cell? ⟨p, 3, none⟩ = some (.int .i64 (K.asked : Int)) := cell_of_block h.top 3
theorem fz (h : PickAt w p t K) (i : Nat) : w.frozen? ⟨p, i, none⟩ = false := frozen_of_block h.top i
theorem lt (h : PickAt w p t K) : p < w.heap.size := heap_lt h.top
theorem chg {w' : World} {L : List Nat} (h : PickAt w p t K) (c : Chg L w w') (h0 : p ∉ L) : PickAt w' p t K := ⟨(c.block _ h.lt h0).trans h.top⟩
end PickAt

set_option maxHeartbeats 400000 in
theorem pnew_nil (n : Int) (w : World) :
    Calls Try.prog 7 #[.pointer none, .int .i64 n] w fun e w' => e = .returned (.tuple #[.pointer none, .int .i64 1]) ∧ w = w' := by
  go_enter Try.func7, Try.ntmps7
  go_wp2_with (go_at_call 30; refine (blocks_nil _).mono ?_; rintro e w' ⟨rfl, rfl⟩)
  go_ret2
  exact ⟨rfl, rfl⟩

set_option maxHeartbeats 400000 in
theorem pnew_bad {w : World} {t bc bk : Nat} {T : Tal} (h : TallyAt w t bc bk T) (n : Int) (hn : n < 0 ∨ (T.n : Int) < n) :
    Calls Try.prog 7 #[.pointer (some ⟨t, 0, none⟩), .int .i64 n] w fun e w' => e = .returned (.tuple #[.pointer none, .int .i64 2]) ∧ w = w' := by
  have h1 := h.n1
  have hz : ((T.n : Int) == 0) = false := by simp; omega
  rcases hn with hn | hn
  · go_enter Try.func7, Try.ntmps7
    go_wp2_with (go_at_call 30; refine (blocks_at h).mono ?_; rintro e w' ⟨rfl, rfl⟩)
    go_ret2
    exact ⟨rfl, rfl⟩
  · have hn' : ¬ n < 0 := by omega
    go_enter Try.func7, Try.ntmps7
    go_wp2_with (go_at_call 30; refine (blocks_at h).mono ?_; rintro e w' ⟨rfl, rfl⟩)
    go_ret2
    exact ⟨rfl, rfl⟩

set_option maxHeartbeats 400000 in
theorem pnew_at {w : World} {t bc bk : Nat} {T : Tal} (h : TallyAt w t bc bk T) (n : Nat) (hn : n ≤ T.n) :
    Calls Try.prog 7 #[.pointer (some ⟨t, 0, none⟩), .int .i64 (n : Int)] w fun e w' => e = .returned (.tuple #[.pointer (some ⟨w.heap.size, 0, none⟩), .int .i64 0]) ∧
      PickAt w' w.heap.size t ⟨n, n, 0⟩ ∧ Chg [] w w' := by
  have h1 := h.n1
  have hz : ((T.n : Int) == 0) = false := by simp; omega
  have hn' : ¬ (T.n : Int) < n := by omega
  go_enter Try.func7, Try.ntmps7
  go_wp2_with (go_at_call 30; refine (blocks_at h).mono ?_; rintro e w' ⟨rfl, rfl⟩)
  go_ret2
  exact ⟨rfl, ⟨new_block _ _⟩, (Chg.refl _ _).alloc _⟩

section
variable {w : World} {p t : Nat} {K : Pk} (h : PickAt w p t K)
include h

set_option maxHeartbeats 400000 in
theorem pnone_at : Calls Try.prog 34 #[.pointer (some ⟨p, 0, none⟩)] w fun e w' => e = .returned (.bool false) ∧ w = w' := by
  have c0 := h.c0
  go_enter Try.func34, Try.ntmps34
  go_wp2
  go_ret
  exact ⟨rfl, rfl⟩

end

end Go.Proofs.Ytnhabpbdpjgiiaa
