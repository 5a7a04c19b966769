/- tally.New. -/
import Derived.Test.YtnhabpbdpjgiiaaTalU
namespace Go.Proofs.Ytnhabpbdpjgiiaa
open Go.RowKit

theorem info16 : (Try.prog.info? 22).map (fun i => (i.zero, i.size, i.bytes)) = some (some (.int .u16 0), 1, 2) := by kernel_rfl

theorem zrow_u16s (n : Nat) : zrow n (.int .u16 0) = u16s n (fun _ => 0) := by
  apply Array.ext
  · simp [zrow, u16s]
  · intro i h1 h2
    simp [zrow, u16s]

theorem new_frees (n : Nat) : (Tal.new n).frees = n := cnt_all fun i _ => by simp [Tal.free, Tal.new]
theorem new_waits (n : Nat) : (Tal.new n).waits = 0 := cnt_zero fun i _ => by simp [Tal.waitB, Tal.new]

set_option maxHeartbeats 400000 in
theorem tnew_bad (n : Int) (w : World) (h : n < 1 ∨ 4096 < n) :
    Calls Try.prog 6 #[.int .i64 n] w fun e w' => e = .returned (.tuple #[.pointer none, .int .i64 2]) ∧ w = w' := by
  rcases h with h | h
  · go_enter Try.func6, Try.ntmps6
    go_wp2
    go_ret2
    exact ⟨rfl, rfl⟩
  · have h' : ¬ n < 1 := by omega
    go_enter Try.func6, Try.ntmps6
    go_wp2
    go_ret2
    exact ⟨rfl, rfl⟩

set_option maxHeartbeats 400000 in
theorem tnew_at (n : Nat) (w : World) (h1 : 1 ≤ n) (h2 : n ≤ 4096) :
    Calls Try.prog 6 #[.int .i64 (n : Int)] w fun e w' => e = .returned (.tuple #[.pointer (some ⟨w.heap.size + 2, 0, none⟩), .int .i64 0]) ∧
      TallyAt w' (w.heap.size + 2) w.heap.size (w.heap.size + 1) (Tal.new n) ∧ Chg [] w w' := by
  have hmk := run_make1 (P := Try.prog) 75 22 Try.underlying75 info16 rfl .i64 .i64 n (by omega) (by omega)
  have hmm := @run_makeMap Try.prog
  go_enter Try.func6, Try.ntmps6
  go_wp2
  go_ret2
  have hc : Chg [] w (((w.alloc (.cells (zrow n (.int .u16 0)) 22)).alloc (.map #[] 0)).alloc (.cells #[.slice (some ⟨w.heap.size, 0, none⟩) n n, .map (some (w.heap.size + 1)), .int .i64 (n : Int), .int .i64 0] 78)) :=
    (((Chg.refl _ _).alloc _).alloc _).alloc _
  refine ⟨rfl, ⟨h1, h2, fun _ _ => Nat.zero_le _, fun _ _ => Nat.zero_le _, ?_, ?_, ?_, by omega⟩, hc⟩
  · have := new_block ((w.alloc (.cells (zrow n (.int .u16 0)) 22)).alloc (.map #[] 0)) (.cells #[.slice (some ⟨w.heap.size, 0, none⟩) n n, .map (some (w.heap.size + 1)), .int .i64 (n : Int), .int .i64 0] 78)
    simp only [size_alloc'] at this
    rw [new_frees, new_waits]
    exact this
  · rw [Below.heap_alloc _ _ _ (by simp; omega), Below.heap_alloc _ _ _ (by simp), new_block, zrow_u16s]; rfl
  · have hm := KMap.made (P := Try.prog) (kt := 3) (et := 22) (w.alloc (.cells (zrow n (.int .u16 0)) 22)) n
    simp only [size_alloc'] at hm
    refine KMap.same (KMap.congr hm fun i _ => ?_) (Below.heap_alloc _ _ _ (by simp))
    simp [Tal.keptAt, Tal.new]

end Go.Proofs.Ytnhabpbdpjgiiaa
