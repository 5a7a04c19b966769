/- leaf.each, as Encode calls it. -/
import Derived.Test.YtjceoheiiohfcaaLeaf1
namespace Go.Proofs.Ytjceoheiiohfcaa
open Go.RowKit
set_option linter.unusedVariables false
set_option linter.unusedSimpArgs false

set_option maxRecDepth 20000 in
set_option maxHeartbeats 2000000 in
theorem each_enc {w : World} {bb g n : Nat} {leaf : Bool} {vk vv : Value} {keys vals : Nat → Nat} (hn : n ≤ 7) (hk : NumsIn [g] w vk n keys) (hv : NumsIn [g] w vv n vals) (hbb : w.heap[bb]? = some (.cells #[.slice (some ⟨g, 0, none⟩) 123 123] 25 (0, 0)))
    (hb : w.heap[g]? = some (.cells (u8s 123 (bodyF n keys vals 0)) 5 (0, 0))) (hne : bb ≠ g) :
    Calls Try.prog 23 #[.agg #[.bool leaf, vk, vv], .func (.func 24) #[] #[.pointer (some ⟨bb, 0, none⟩)]] w fun e w' =>
      e = .returned (.tuple #[]) ∧ w'.heap[g]? = some (.cells (u8s 123 (bodyF n keys vals n)) 5 (0, 0)) ∧ Chg [g] w w' := by
  obtain ⟨ak, ck, rfl⟩ := hk.len
  obtain ⟨av, cv, rfl⟩ := hv.len
  have hg := heap_lt hb
  have hW := (Chg.refl [] w).alloc (.cells #[.bool leaf, .slice ak n ck, .slice av n cv] 24)
  have HX := Lib.hid (new_block w (.cells #[.bool leaf, .slice ak n ck, .slice av n cv] 24))
  have HK := Lib.hid (hk.chg hW (by simp))
  have HV := Lib.hid (hv.chg hW (by simp))
  have HBB := Lib.hid ((hW.block bb (heap_lt hbb) (by simp)).trans hbb)
  have HB := Lib.hid ((hW.block g hg (by simp)).trans hb)
  have HW := Lib.hid hW
  clear hk hv hbb hb hW
  go_enter Try.func23, Try.ntmps23
  go_wp2_with fail
  generalize w.alloc (.cells #[.bool leaf, .slice ak n ck, .slice av n cv] 24) = W at *
  go_loopw [8] (fun s wr => ∃ k : Nat, k ≤ n ∧ s = .int .i64 (k : Int) ∧ wr.heap[g]? = some (.cells (u8s 123 (bodyF n keys vals k)) 5 (0, 0)) ∧ Chg [g] W wr) (fun s _ => n - (intOf s).toNat)
  case atStart => exact ⟨0, Nat.zero_le _, rfl, HB.out, Chg.refl _ _⟩
  case round =>
    obtain ⟨k, hk, rfl, hBk, hCk⟩ := hrel
    obtain ⟨wo, rfl⟩ : ∃ wo : World, wo = wr := ⟨_, rfl⟩
    have hX := (hCk.block w.heap.size (heap_lt HX.out) (by simp; omega)).trans HX.out
    have hBB := (hCk.block bb (heap_lt HBB.out) (by simp; omega)).trans HBB.out
    have hK := HK.out.chg hCk (by simp)
    have hV := HV.out.chg hCk (by simp)
    have x1 := cell_of_block hX 1
    have x2 := cell_of_block hX 2
    have z0 := cell_of_block hBB 0
    simp only [List.getElem?_toArray, List.getElem?_cons_zero, List.getElem?_cons_succ] at x1 x2 z0
    have HXk := Lib.hid hX
    have HBBk := Lib.hid hBB
    have HBk := Lib.hid hBk
    have HCk := Lib.hid hCk
    clear hX hBB hBk hCk
    by_cases hlk : k < n
    · rcases hK with ⟨_, h0⟩ | ⟨kb, ko, kc, hke, k1, k2, k3, k4, k5⟩
      · omega
      · rcases hV with ⟨_, h0⟩ | ⟨vb, vo, vc, hve, v1, v2, v3, v4, v5⟩
        · omega
        · injection hke with hke1 _ hke3
          injection hve with hve1 _ hve3
          subst hke1 hke3 hve1 hve3
          obtain ⟨kc1, kc2⟩ := k5 k hlk
          obtain ⟨vc1, vc2⟩ := v5 k hlk
          have c1 := enc1_at z0 HBk.out (1 + 16 * k) (by omega) (by omega) kc1 kc2
          rw [show ((1 + 16 * k : Nat) : Int) = 1 + 16 * (k : Int) by omega] at c1
          have i0 : (0 : Int) ≤ (k : Int) := by omega
          have i1 : (k : Int) < (n : Int) := by omega
          have hko : kb ≠ g := by simpa using k4
          have hvo : vb ≠ g := by simpa using v4
          have E := Lib.hid (bodyF_step n keys vals k)
          unfold maxLen at k2 v2
          clear k5 v5 kc1 kc2
          go_wp2_with fail
          refine c1.mono ?_
          clear c1
          rintro e w3 ⟨rfl, hB3, hC3⟩
          have z3 := (hC3.cell (p := ⟨bb, 0, none⟩) (heap_lt HBBk.out) (by simp; omega)).trans z0
          have y2 := (hC3.cell (p := ⟨w.heap.size, 2, none⟩) (heap_lt HXk.out) (by simp; omega)).trans x2
          have vc3 := (hC3.cell (p := ⟨vb, vo + k, none⟩) v3 (by simp; omega)).trans vc1
          have c2 := enc1_at z3 hB3 (1 + 16 * k + 8) (by omega) (by omega) vc3 vc2
          rw [show ((1 + 16 * k + 8 : Nat) : Int) = 1 + 16 * (k : Int) + 8 by omega, E.out] at c2
          have HC3 := Lib.hid (HCk.out.trans hC3)
          clear hB3 hC3 x1 x2 z0 vc1
          go_wp2_with fail
          refine c2.mono ?_
          clear c2
          rintro e w4 ⟨rfl, hB4, hC4⟩
          have HB4 := Lib.hid hB4
          have HC4 := Lib.hid (HC3.out.trans hC4)
          clear hB4 hC4
          go_wp2_with fail
          go_roundw
          case rel => exact ⟨k + 1, by omega, by go_num, HB4.out, HC4.out⟩
          case measure => simp [intOf]; omega
    · obtain rfl : k = n := by omega
      go_wp2_with fail
      go_end0
      exact ⟨rfl, HBk.out, (HW.out.mono (by simp)).trans HCk.out⟩

end Go.Proofs.Ytjceoheiiohfcaa
