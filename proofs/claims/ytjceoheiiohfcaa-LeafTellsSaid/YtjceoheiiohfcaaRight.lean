/- leaf.Right. -/
import Derived.Test.YtjceoheiiohfcaaKidsW
namespace Go.Proofs.Ytjceoheiiohfcaa
open Go.RowKit
set_option linter.unusedVariables false
set_option linter.unusedSimpArgs false

def ascTo (f : Nat → Nat) (n : Nat) : Prop := ∀ i, 0 < i → i < n → f (i - 1) < f i
def ascB (f : Nat → Nat) (n : Nat) : Bool := (List.range n).all fun i => decide (0 < i → f (i - 1) < f i)
theorem ascB_iff (f : Nat → Nat) (n : Nat) : ascB f n = true ↔ ascTo f n := by
  simp only [ascB, ascTo, List.all_eq_true, List.mem_range, decide_eq_true_eq]
  exact ⟨fun h i h1 h2 => h i h2 h1, fun h i h2 h1 => h i h1 h2⟩
/-- What Right answers. -/
def rightB (leaf : Bool) (nk nv : Nat) (keys vals : Nat → Nat) : Bool := decide (nk ≤ 7) && (decide (nv = nk) && ((leaf || kidsB vals nv) && ascB keys nk))
theorem rightB_eq {leaf : Bool} {nk nv : Nat} {keys vals : Nat → Nat} {b : Bool} (h : (nk ≤ 7 ∧ nv = nk ∧ (leaf || kidsB vals nv) = true ∧ ascTo keys nk) ↔ b = true) : rightB leaf nk nv keys vals = b := by
  rw [Bool.eq_iff_iff]
  unfold rightB
  rw [Bool.and_eq_true, Bool.and_eq_true, Bool.and_eq_true, decide_eq_true_eq, decide_eq_true_eq, ascB_iff]
  exact h

set_option maxRecDepth 100000 in
set_option maxHeartbeats 4000000 in
theorem right_at {A : List Nat} {w : World} {leaf : Bool} {vk vv : Value} {nk nv : Nat} {keys vals : Nat → Nat} (hk : NumsIn A w vk nk keys) (hv : NumsIn A w vv nv vals) :
    Calls Try.prog 18 #[.agg #[.bool leaf, vk, vv]] w fun e w' => e = .returned (.bool (rightB leaf nk nv keys vals)) ∧ Chg [] w w' := by
  obtain ⟨ak, ck, rfl⟩ := hk.len
  obtain ⟨av, cv, rfl⟩ := hv.len
  have hW := (Chg.refl [] w).alloc (.cells #[.bool leaf, .slice ak nk ck, .slice av nv cv] 24)
  have HX := Lib.hid (new_block w (.cells #[.bool leaf, .slice ak nk ck, .slice av nv cv] 24))
  have HK := Lib.hid (hk.chg hW (by simp))
  have HV := Lib.hid (hv.chg hW (by simp))
  have HW := Lib.hid hW
  clear hk hv hW
  by_cases h7 : 7 < nk
  · have h7I : (7 : Int) < (nk : Int) := by omega
    have E := Lib.hid (rightB_eq (leaf := leaf) (nk := nk) (nv := nv) (keys := keys) (vals := vals) (b := false) ⟨fun h => by omega, fun h => by cases h⟩)
    clear h7
    go_enter Try.func18, Try.ntmps18
    go_wp2_with fail
    go_ret
    exact ⟨by rw [E.out]; rfl, HW.out⟩
  by_cases hnv : nv = nk
  case neg =>
    have h7I : ¬ (7 : Int) < (nk : Int) := by omega
    have hne : ((nv : Int) != (nk : Int)) = true := by simp; omega
    have E := Lib.hid (rightB_eq (leaf := leaf) (nk := nk) (nv := nv) (keys := keys) (vals := vals) (b := false) ⟨fun h => absurd h.2.1 hnv, fun h => by cases h⟩)
    clear h7 hnv
    go_enter Try.func18, Try.ntmps18
    go_wp2_with fail
    go_ret
    exact ⟨by rw [E.out]; rfl, HW.out⟩
  have h7I : ¬ (7 : Int) < (nk : Int) := by omega
  have hne : ((nv : Int) != (nk : Int)) = false := by simp; omega
  have Hnv := Lib.hid hnv
  have H7 := Lib.hid h7
  have hnv12 : nv ≤ 12 := by omega
  have hnk12 : nk ≤ 12 := by omega
  clear hnv h7
  cases leaf with
  | true =>
    have Hok : Hid (nk ≤ 7 ∧ nv = nk ∧ (true || kidsB vals nv) = true) := Lib.hid ⟨by have := H7.out; omega, Hnv.out, rfl⟩
    go_enter Try.func18, Try.ntmps18
    go_wp2_with fail
    generalize w.alloc (.cells #[.bool true, .slice ak nk ck, .slice av nv cv] 24) = W at *
    go_loopw [31] (fun s wr => ∃ i : Nat, s = .int .i64 (i : Int) ∧ i ≤ nk ∧ ascTo keys i ∧ Chg [] W wr) (fun s _ => nk - (intOf s).toNat)
    case atStart => exact ⟨0, rfl, Nat.zero_le _, fun i h1 h2 => by omega, Chg.refl _ _⟩
    case round =>
      obtain ⟨i, rfl, hi, hA, hC⟩ := hrel
      have hX := (hC.block w.heap.size (heap_lt HX.out) (by simp)).trans HX.out
      have hK := HK.out.chg hC (by simp)
      have x1 := cell_of_block hX 1
      simp only [List.getElem?_toArray, List.getElem?_cons_zero, List.getElem?_cons_succ] at x1
      have HA := Lib.hid hA
      have HC := Lib.hid hC
      clear hA hC hX
      by_cases hin : i < nk
      · rcases hK with ⟨_, h0⟩ | ⟨kb, ko, kc, hke, k1, k2, k3, k4, k5⟩
        · omega
        · injection hke with hke1 _ hke3
          subst hke1 hke3
          unfold maxLen at k2
          by_cases h0 : i = 0
          · subst h0
            have hd : decide ((0 : Int) < ((0 : Nat) : Int)) = false := rfl
            clear k5
            go_wp2_with fail
            go_quiet (fail)
            go_wp2_with fail
            go_roundw
            case rel => exact ⟨1, by go_num, by omega, fun i h1 h2 => by omega, HC.out.drewN _⟩
            case measure => simp [intOf]; omega
          · obtain ⟨q, hq⟩ : ∃ q, i = q + 1 := ⟨i - 1, by omega⟩
            subst hq
            have c1 := (k5 (q + 1) hin).1
            have c2 := (k5 q (by omega)).1
            have j0 : (0 : Int) < (q : Int) + 1 := by omega
            have j1 : (q : Int) + 1 < (nk : Int) := by omega
            have j2 : (0 : Int) ≤ (q : Int) := by omega
            have j3 : (q : Int) < (nk : Int) := by omega
            have e2 : IntKind.i64.wrap ((q : Int) + 1 - 1) = (q : Int) := by
              rw [show (q : Int) + 1 - 1 = (q : Int) by omega]
              exact IntWalk.i64_in _ (by omega)
            clear k5
            by_cases hlt : keys q < keys (q + 1)
            · have hd : decide (keys (q + 1) ≤ keys q) = false := by simp; omega
              have Hlt := Lib.hid hlt
              clear hlt
              go_wp2_with fail
              go_quiet (fail)
              go_wp2_with fail
              go_roundw
              case rel =>
                refine ⟨q + 2, by go_num, by omega, fun j h1 h2 => ?_, HC.out.drewN _⟩
                by_cases e : j = q + 1
                · subst e; exact Hlt.out
                · exact HA.out j h1 (by omega)
              case measure => simp [intOf]; omega
            · have hd : decide (keys (q + 1) ≤ keys q) = true := by simp; omega
              have E := Lib.hid (rightB_eq (leaf := true) (nk := nk) (nv := nv) (keys := keys) (vals := vals) (b := false) ⟨fun h => absurd (h.2.2.2 (q + 1) (by omega) hin) hlt, fun h => by cases h⟩)
              clear hlt
              go_wp2_with fail
              go_quiet (fail)
              go_wp2_with fail
              go_ret
              exact ⟨by rw [E.out]; rfl, HW.out.trans (HC.out.drewN _)⟩
      · obtain rfl : i = nk := by omega
        have E := Lib.hid (rightB_eq (leaf := true) (nk := i) (nv := nv) (keys := keys) (vals := vals) (b := true) ⟨fun _ => rfl, fun _ => ⟨Hok.out.1, Hok.out.2.1, Hok.out.2.2, HA.out⟩⟩)
        clear hK
        go_wp2_with fail
        go_ret
        exact ⟨by rw [E.out]; rfl, HW.out.trans HC.out⟩
  | false =>
    have cK := kids_at HV.out hnv12
    cases hkb : kidsB vals nv with
    | false =>
      rw [hkb] at cK
      have E := Lib.hid (rightB_eq (leaf := false) (nk := nk) (nv := nv) (keys := keys) (vals := vals) (b := false) ⟨fun h => by rw [hkb] at h; exact absurd h.2.2.1 (by decide), fun h => by cases h⟩)
      clear hkb
      go_enter Try.func18, Try.ntmps18
      go_wp2_with fail
      refine cK.mono ?_
      clear cK
      rintro e w1 ⟨rfl, hC1⟩
      have HC1 := Lib.hid (HW.out.trans hC1)
      clear hC1
      go_wp2_with fail
      go_ret
      exact ⟨by rw [E.out]; rfl, HC1.out⟩
    | true =>
      rw [hkb] at cK
      have Hok : Hid (nk ≤ 7 ∧ nv = nk ∧ (false || kidsB vals nv) = true) := Lib.hid ⟨by have := H7.out; omega, Hnv.out, by rw [hkb]; rfl⟩
      clear hkb
      go_enter Try.func18, Try.ntmps18
      go_wp2_with fail
      refine cK.mono ?_
      clear cK
      rintro e W ⟨rfl, hC1⟩
      have HX0 := HX
      have HK0 := HK
      have HW0 := HW
      clear HX HK HW
      have HX := Lib.hid ((hC1.block w.heap.size (heap_lt HX0.out) (by simp)).trans HX0.out)
      have HK := Lib.hid (HK0.out.chg hC1 (by simp))
      have HW := Lib.hid (HW0.out.trans hC1)
      have x1' := cell_of_block HX.out 1
      simp only [List.getElem?_toArray, List.getElem?_cons_zero, List.getElem?_cons_succ] at x1'
      clear hC1 HX0 HK0 HW0
      go_wp2_with fail
      clear x1'
      go_loopw [31] (fun s wr => ∃ i : Nat, s = .int .i64 (i : Int) ∧ i ≤ nk ∧ ascTo keys i ∧ Chg [] W wr) (fun s _ => nk - (intOf s).toNat)
      case atStart => exact ⟨0, rfl, Nat.zero_le _, fun i h1 h2 => by omega, Chg.refl _ _⟩
      case round =>
        obtain ⟨i, rfl, hi, hA, hC⟩ := hrel
        have hX := (hC.block w.heap.size (heap_lt HX.out) (by simp)).trans HX.out
        have hK := HK.out.chg hC (by simp)
        have x1 := cell_of_block hX 1
        simp only [List.getElem?_toArray, List.getElem?_cons_zero, List.getElem?_cons_succ] at x1
        have HA := Lib.hid hA
        have HC := Lib.hid hC
        clear hA hC hX
        by_cases hin : i < nk
        · rcases hK with ⟨_, h0⟩ | ⟨kb, ko, kc, hke, k1, k2, k3, k4, k5⟩
          · omega
          · injection hke with hke1 _ hke3
            subst hke1 hke3
            unfold maxLen at k2
            by_cases h0 : i = 0
            · subst h0
              have hd : decide ((0 : Int) < ((0 : Nat) : Int)) = false := rfl
              clear k5
              go_wp2_with fail
              go_quiet (fail)
              go_wp2_with fail
              go_roundw
              case rel => exact ⟨1, by go_num, by omega, fun i h1 h2 => by omega, HC.out.drewN _⟩
              case measure => simp [intOf]; omega
            · obtain ⟨q, hq⟩ : ∃ q, i = q + 1 := ⟨i - 1, by omega⟩
              subst hq
              have c1 := (k5 (q + 1) hin).1
              have c2 := (k5 q (by omega)).1
              have j0 : (0 : Int) < (q : Int) + 1 := by omega
              have j1 : (q : Int) + 1 < (nk : Int) := by omega
              have j2 : (0 : Int) ≤ (q : Int) := by omega
              have j3 : (q : Int) < (nk : Int) := by omega
              have e2 : IntKind.i64.wrap ((q : Int) + 1 - 1) = (q : Int) := by
                rw [show (q : Int) + 1 - 1 = (q : Int) by omega]
                exact IntWalk.i64_in _ (by omega)
              clear k5
              by_cases hlt : keys q < keys (q + 1)
              · have hd : decide (keys (q + 1) ≤ keys q) = false := by simp; omega
                have Hlt := Lib.hid hlt
                clear hlt
                go_wp2_with fail
                go_quiet (fail)
                go_wp2_with fail
                go_roundw
                case rel =>
                  refine ⟨q + 2, by go_num, by omega, fun j h1 h2 => ?_, HC.out.drewN _⟩
                  by_cases e : j = q + 1
                  · subst e; exact Hlt.out
                  · exact HA.out j h1 (by omega)
                case measure => simp [intOf]; omega
              · have hd : decide (keys (q + 1) ≤ keys q) = true := by simp; omega
                have E := Lib.hid (rightB_eq (leaf := false) (nk := nk) (nv := nv) (keys := keys) (vals := vals) (b := false) ⟨fun h => absurd (h.2.2.2 (q + 1) (by omega) hin) hlt, fun h => by cases h⟩)
                clear hlt
                go_wp2_with fail
                go_quiet (fail)
                go_wp2_with fail
                go_ret
                exact ⟨by rw [E.out]; rfl, HW.out.trans (HC.out.drewN _)⟩
        · obtain rfl : i = nk := by omega
          have E := Lib.hid (rightB_eq (leaf := false) (nk := i) (nv := nv) (keys := keys) (vals := vals) (b := true) ⟨fun _ => rfl, fun _ => ⟨Hok.out.1, Hok.out.2.1, Hok.out.2.2, HA.out⟩⟩)
          clear hK
          go_wp2_with fail
          go_ret
          exact ⟨by rw [E.out]; rfl, HW.out.trans HC.out⟩

end Go.Proofs.Ytjceoheiiohfcaa
