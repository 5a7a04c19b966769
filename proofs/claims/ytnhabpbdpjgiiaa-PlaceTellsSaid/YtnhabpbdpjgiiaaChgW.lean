/- tally.Changed: the changed blocks, rising, in a slice of its own. -/
import Derived.Test.YtnhabpbdpjgiiaaChgL
import Derived.Test.YtnhabpbdpjgiiaaIt
import Derived.Test.YtnhabpbdpjgiiaaTalN
namespace Go.Proofs.Ytnhabpbdpjgiiaa
open Go.RowKit Go.Maps Go.Sort Go.Shelf
set_option linter.unusedVariables false
set_option linter.unusedSimpArgs false

theorem sortsA (m : Nat) : AnyZI.SortsIn Try.prog Try.sortedA_ren Fence.wide m :=
  ⟨fun blk off cap ss W hH hblk hsz => callsIn_wide.2 (AnyM.slices_Sort_int Try.sortA blk off cap ss W hH hblk hsz),
   fun p cap W => callsIn_wide.2 (AnyM.slices_Sort_int_none Try.sortA p cap W)⟩

def intVs (l : List Nat) : List Value := l.map (fun b : Nat => .int .i64 (b : Int))

set_option maxHeartbeats 1000000 in
theorem changed_at {w : World} {t bc bk : Nat} {T : Tal} (h : TallyAt w t bc bk T) :
    Calls Try.prog 28 #[.pointer (some ⟨t, 0, none⟩)] w fun e w' => ∃ v, e = .returned v ∧
      w'.ownsRow w.heap.size 3 1 v (chgs T).length (intVs (chgs T)) ∧ Below w.heap.size w w' := by
  obtain ⟨D, hown, h2, h3, h4⟩ := h.map
  have hperm := chgs_perm hown Try.underlying3 h3 h4
  have hsz : Maps.size D ≤ 4096 := by rw [h2]; exact Nat.le_trans (cnt_le _ _) h.n2
  have hmax : Maps.size D ≤ maxLen := by unfold maxLen; omega
  have hbytes : Maps.size D * 8 ≤ 140737488355328 := by omega
  have hbl := hown.lt
  have c1 := h.c1
  have HP := Lib.hid hperm
  clear hperm h3 h4 h2
  refine (callsIn_wide (n := 6)).1 ?_
  have hseq : SeqGives Fence.wide 2 Try.prog 63 #[.pointer (some ⟨w.heap.size, 0, none⟩)] encZ (fun ss => ss.Perm (intKeys D)) (Maps.size D) (w.alloc (.cells #[.map (some bk)] 76)) :=
    AnyZI.keys_gives (ρ := Try.keysA_ren) { Try.keysA with } Fence.wide _ trivial rfl (by omega) w.heap.size bk (Maps.size D) D _ (by simp) (by simp) (by
      obtain ⟨es, clock, hb, Ft, hs, hD⟩ := hown
      exact ⟨es, clock, (Below.heap_alloc _ _ bk hbl).trans hb, Ft, hs, hD⟩)
  have cK : ∀ mb W, CallsIn Fence.wide 5 Try.prog 50 #[.map mb] W fun e w' => e = .returned (.func (.func 63) #[] #[.pointer (some ⟨W.heap.size, 0, none⟩)]) ∧ w' = W.alloc (.cells #[.map mb] 76) := fun mb W => AnyZI.keys_in Try.keysA Fence.wide 5 trivial rfl mb W
  have cS := AnyZI.sorted_in Try.sortedA Fence.wide 5 trivial trivial trivial trivial rfl (by omega) (sortsA _) (enters_of Try.func62 (by kernel_rfl) rfl) 63 #[.pointer (some ⟨w.heap.size, 0, none⟩)] trivial (enters_of Try.func63 (by kernel_rfl) rfl) _ _ hmax hbytes _ hseq
  change CallsIn _ _ Try.prog 49 _ _ _ at cS
  have hfK : Fence.wide.fn 50 := trivial
  have hfS : Fence.wide.fn 49 := trivial
  refine callsIn_of_wp Try.func28 rfl trivial ?_ rfl
  simp only [Try.ntmps28, List.size_toArray, List.length_cons, List.length_nil, Nat.reduceAdd, Nat.reduceSub, Array.replicate_succ, Array.replicate_zero, List.push_toArray, List.append_toArray, List.nil_append, List.cons_append]
  gi_wp2_with (first
    | (gi_at_call 50; refine (cK _ _).mono ?_; rintro e w' ⟨rfl, rfl⟩)
    | (gi_at_call 49; refine cS.mono ?_; rintro e w' ⟨v, ss, rfl, hS, hrow, hnil, hb⟩))
  go_ret
  have hs := chgs_sorted T (ss := ss) (hS.trans HP.out.symm)
  have hl : ss.length = (chgs T).length := by
    have := (hS.trans HP.out.symm).length_eq
    simpa using this
  have hm : (ss.mergeSort (fun x y => decide (x ≤ y))).map encZ = intVs (chgs T) := by
    rw [hs]; simp [intVs, encZ]
  have hrow' := ownsRow_base_a (base' := w.heap.size) hrow (by simp)
  rw [hl] at hrow'
  refine ⟨v, rfl, ?_, ((Below.refl _ w).alloc (Nat.le_refl _) _).trans (hb.mono (by simp))⟩
  rw [← hm]
  exact hrow'

end Go.Proofs.Ytnhabpbdpjgiiaa
