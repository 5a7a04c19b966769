/- The reference of leaf: Right. -/
import Derived.Test.YtjceoheiiohfcaaRefA
import Derived.Test.YtjceoheiiohfcaaLOrdL
import Derived.Deep.LoopGhost
namespace Go.Proofs.Ytjceoheiiohfcaa
open Go.RowKit
set_option linter.unusedVariables false
set_option linter.unusedSimpArgs false

/-- The first i pairs are right. -/
def refInv (leaf : Bool) (keys vals : Nat → Nat) (i : Nat) : Prop :=
  (∀ a b, a < b → b < i → keys a < keys b ∧ (leaf = false → vals a ≠ vals b)) ∧ (∀ a, a < i → leaf = false → 1 ≤ vals a ∧ vals a ≤ 4095)
/-- Pair i is right beside the first k. -/
def refIn (leaf : Bool) (keys vals : Nat → Nat) (i k : Nat) : Prop := ∀ a, a < k → keys a < keys i ∧ (leaf = false → vals a ≠ vals i)
theorem refInv_zero (leaf : Bool) (keys vals : Nat → Nat) : refInv leaf keys vals 0 := ⟨fun a b h1 h2 => by omega, fun a h => by omega⟩
theorem refInv_succ {leaf : Bool} {keys vals : Nat → Nat} {i : Nat} (h : refInv leaf keys vals i) (k : refIn leaf keys vals i i) (g : leaf = false → 1 ≤ vals i ∧ vals i ≤ 4095) : refInv leaf keys vals (i + 1) := by
  refine ⟨fun a b h1 h2 => ?_, fun a h1 hl => ?_⟩
  · by_cases e : b = i
    · subst e; exact k a h1
    · exact h.1 a b h1 (by omega)
  · by_cases e : a = i
    · subst e; exact g hl
    · exact h.2 a (by omega) hl
theorem refInv_all {leaf : Bool} {keys vals : Nat → Nat} {n : Nat} (h7 : n ≤ 7) (h0 : leaf = true ∨ 1 ≤ n) (h : refInv leaf keys vals n) : rightB leaf n n keys vals = true := by
  refine rightB_iff.2 ⟨h7, rfl, ?_, fun i h1 h2 => (h.1 (i - 1) i (by omega) h2).1⟩
  cases leaf with
  | true => rfl
  | false =>
    rw [Bool.false_or, kidsB_iff]
    refine ⟨by simpa using h0, fun i hi => ?_, fun i j hij hj => (h.1 i j hij hj).2 rfl⟩
    have := h.2 i hi rfl
    omega
theorem right_inv {leaf : Bool} {keys vals : Nat → Nat} {n m : Nat} (h : rightB leaf n m keys vals = true) : n ≤ 7 ∧ m = n ∧ (leaf = true ∨ 1 ≤ n) ∧ refInv leaf keys vals n := by
  obtain ⟨h1, rfl, h2, h3⟩ := rightB_iff.1 h
  refine ⟨h1, rfl, ?_, fun a b hab hb => ⟨asc_lt h3 hab hb, fun hl => ?_⟩, fun a ha hl => ?_⟩
  · cases leaf with
    | true => exact .inl rfl
    | false => rw [Bool.false_or, kidsB_iff] at h2; exact .inr h2.1
  · subst hl
    rw [Bool.false_or, kidsB_iff] at h2
    exact h2.2.2 a b hab hb
  · subst hl
    rw [Bool.false_or, kidsB_iff] at h2
    have := h2.2.1 a ha
    omega

/-- What the reference's Right answers. -/
def RRight (w : World) (b : Bool) (e : Ending) (w' : World) : Prop := e = .returned (.bool b) ∧ Chg [] w w'

set_option maxRecDepth 20000 in
set_option maxHeartbeats 2000000 in
theorem rright_not {w : World} {leaf : Bool} {vk vv : Value} {nk nv : Nat} {keys vals : Nat → Nat} (hk : NumsIn [] w vk nk keys) (hv : NumsIn [] w vv nv vals) (h : 7 < nk ∨ nk ≠ nv ∨ (nk = 0 ∧ leaf = false)) :
    Calls Try.prog 19 #[.agg #[.bool leaf, vk, vv]] w (RRight w false) := by
  obtain ⟨ak, ck, rfl, _⟩ := hk.cap
  obtain ⟨av, cv, rfl, _⟩ := hv.cap
  have h' : (7 : Int) < nk ∨ (¬ (7 : Int) < nk ∧ ((nk : Int) != (nv : Int)) = true) ∨ (nk = 0 ∧ nv = 0 ∧ leaf = false) := by
    by_cases g1 : (7 : Int) < nk
    · exact .inl g1
    · by_cases g2 : nk = nv
      · rcases h with h | h | h
        · omega
        · exact absurd g2 h
        · exact .inr (.inr ⟨h.1, by omega, h.2⟩)
      · exact .inr (.inl ⟨g1, by simp; omega⟩)
  clear hk hv h
  rcases h' with d1 | ⟨d1, d2⟩ | ⟨rfl, rfl, rfl⟩
  all_goals
    go_enter Try.func19, Try.ntmps19
    go_wp2_with fail
    go_ret
    exact ⟨rfl, (Chg.refl _ _).alloc _⟩

set_option maxRecDepth 20000 in
set_option maxHeartbeats 4000000 in
theorem rright_leaf {w : World} {vk vv : Value} {n : Nat} {keys vals : Nat → Nat} (hk : NumsIn [] w vk n keys) (hv : NumsIn [] w vv n vals) (h7 : n ≤ 7) :
    Calls Try.prog 19 #[.agg #[.bool true, vk, vv]] w (RRight w (rightB true n n keys vals)) := by
  obtain ⟨ak, ck, rfl, _⟩ := hk.cap
  obtain ⟨av, cv, rfl, _⟩ := hv.cap
  have d1 : ¬ (7 : Int) < n := by omega
  have d2 : ((n : Int) != (n : Int)) = false := by simp
  have hW := (Chg.refl [] w).alloc (.cells #[.bool true, .slice ak n ck, .slice av n cv] 24)
  have X0 := Lib.hid (new_block w (.cells #[.bool true, .slice ak n ck, .slice av n cv] 24))
  have K0 := Lib.hid (hk.chg hW (by simp))
  have V0 := Lib.hid (hv.chg hW (by simp))
  have HW := Lib.hid hW
  clear hk hv hW
  go_enter Try.func19, Try.ntmps19
  by_cases hz : n = 0
  case' pos => have d3 : ((n : Int) == 0) = true := by simp; omega
  case' neg => have d3 : ((n : Int) == 0) = false := by simp; omega
  all_goals
    clear hz
    go_wp2_with fail
    clear d1 d2 d3
    generalize w.alloc (.cells #[.bool true, .slice ak n ck, .slice av n cv] 24) = W at *
    go_loopw [4] (fun s wr => ∃ i : Nat, i ≤ n ∧ s = .int .i64 (i : Int) ∧ refInv true keys vals i ∧ Chg [] W wr) (fun s _ => n - (intOf s).toNat)
    case atStart => exact ⟨0, Nat.zero_le _, rfl, refInv_zero _ _ _, Chg.refl _ _⟩
    case round =>
      obtain ⟨i, hi, rfl, hI, hC⟩ := hrel
      have HI := Lib.hid hI
      have HC := Lib.hid hC
      clear hI hC
      by_cases hin : i < n
      · have j1 : (i : Int) < (n : Int) := by omega
        have j0 : (0 : Int) ≤ (i : Int) := by omega
        obtain ⟨kb, ko, rfl, kl, _, kc⟩ := K0.out.get hin
        obtain ⟨vb, vo, rfl, vl, _, vc⟩ := V0.out.get hin
        have KC := Lib.hid kc
        have VC := Lib.hid vc
        clear kc vc
        obtain ⟨wo, rfl⟩ : ∃ wo : World, wo = wr := ⟨_, rfl⟩
        go_wp2_with fail
        go_loopw [5] (fun s wq => ∃ k : Nat, k ≤ i ∧ s = .int .i64 (k : Int) ∧ refIn true keys vals i k ∧ Chg [] W wq) (fun s _ => i - (intOf s).toNat)
        case atStart => exact ⟨0, Nat.zero_le _, rfl, fun a h => by omega, HC.out⟩
        case round =>
          obtain ⟨k, hk, rfl, hJ, hC⟩ := hrel
          have HJ := Lib.hid hJ
          have hX := (hC.block _ (heap_lt X0.out) (by simp)).trans X0.out
          have x0 := cell_of_block hX 0
          have x1 := cell_of_block hX 1
          have x2 := cell_of_block hX 2
          simp only [List.getElem?_toArray, List.getElem?_cons_zero, List.getElem?_cons_succ] at x0 x1 x2
          have HC2 := Lib.hid hC
          by_cases hki : k < i
          · have j2 : (k : Int) < (i : Int) := by omega
            have j3 : (0 : Int) ≤ (k : Int) := by omega
            have j4 : (k : Int) < (n : Int) := by omega
            have c1 := (hC.cell (p := ⟨kb, ko + k, none⟩) kl (by simp)).trans (KC.out k (by omega)).1
            have c2 := (hC.cell (p := ⟨kb, ko + i, none⟩) kl (by simp)).trans (KC.out i hin).1
            have c3 := (hC.cell (p := ⟨vb, vo + k, none⟩) vl (by simp)).trans (VC.out k (by omega)).1
            have c4 := (hC.cell (p := ⟨vb, vo + i, none⟩) vl (by simp)).trans (VC.out i hin).1
            clear hC hX hJ
            by_cases hlt : keys k < keys i
            · have g1 : decide (keys i ≤ keys k) = false := by simp; omega
              have HE := Lib.hid (show keys k < keys i ∧ (true = false → vals k ≠ vals i) from ⟨hlt, fun h => by cases h⟩)
              clear hlt
              go_wp2_with fail
              go_quiet (fail)
              go_wp2_with fail
              go_roundw
              case rel =>
                refine ⟨k + 1, by omega, by go_num, fun a ha => ?_, HC2.out.drewN _⟩
                by_cases e : a = k
                · subst e; exact HE.out
                · exact HJ.out a (by omega)
              case measure => simp [intOf]; omega
            · have g1 : decide (keys i ≤ keys k) = true := by simp; omega
              have E := Lib.hid (show rightB true n n keys vals = false from by
                cases hr : rightB true n n keys vals with
                | false => rfl
                | true => exact absurd (((right_inv hr).2.2.2.1 k i hki hin).1) hlt)
              clear hlt
              go_wp2_with fail
              go_quiet (fail)
              go_wp2_with fail
              go_ret
              exact ⟨by rw [E.out]; rfl, HW.out.trans (HC2.out.drewN _)⟩
          · obtain rfl : k = i := by omega
            have c4 := (hC.cell (p := ⟨vb, vo + k, none⟩) vl (by simp)).trans (VC.out k hin).1
            clear hC hX hJ
            go_wp2_with fail
            go_roundw
            case rel => exact ⟨k + 1, by omega, by go_num, refInv_succ HI.out HJ.out (fun h => by cases h), HC2.out⟩
            case measure => simp [intOf]; omega
      · obtain rfl : i = n := by omega
        have E := Lib.hid (refInv_all (leaf := true) h7 (.inl rfl) HI.out)
        go_wp2_with fail
        go_ret
        exact ⟨by rw [E.out]; rfl, HW.out.trans HC.out⟩

set_option maxRecDepth 20000 in
set_option maxHeartbeats 4000000 in
theorem rright_inner {w : World} {vk vv : Value} {n : Nat} {keys vals : Nat → Nat} (hk : NumsIn [] w vk n keys) (hv : NumsIn [] w vv n vals) (h7 : n ≤ 7) (h0 : 1 ≤ n) :
    Calls Try.prog 19 #[.agg #[.bool false, vk, vv]] w (RRight w (rightB false n n keys vals)) := by
  obtain ⟨ak, ck, rfl, _⟩ := hk.cap
  obtain ⟨av, cv, rfl, _⟩ := hv.cap
  have d1 : ¬ (7 : Int) < n := by omega
  have d2 : ((n : Int) != (n : Int)) = false := by simp
  have d3 : ((n : Int) == 0) = false := by simp; omega
  have hW := (Chg.refl [] w).alloc (.cells #[.bool false, .slice ak n ck, .slice av n cv] 24)
  have X0 := Lib.hid (new_block w (.cells #[.bool false, .slice ak n ck, .slice av n cv] 24))
  have K0 := Lib.hid (hk.chg hW (by simp))
  have V0 := Lib.hid (hv.chg hW (by simp))
  have HW := Lib.hid hW
  clear hk hv hW
  go_enter Try.func19, Try.ntmps19
  go_wp2_with fail
  clear d1 d2 d3
  generalize w.alloc (.cells #[.bool false, .slice ak n ck, .slice av n cv] 24) = W at *
  go_loopw [4] (fun s wr => ∃ i : Nat, i ≤ n ∧ s = .int .i64 (i : Int) ∧ refInv false keys vals i ∧ Chg [] W wr) (fun s _ => n - (intOf s).toNat)
  case atStart => exact ⟨0, Nat.zero_le _, rfl, refInv_zero _ _ _, Chg.refl _ _⟩
  case round =>
    obtain ⟨i, hi, rfl, hI, hC⟩ := hrel
    have HI := Lib.hid hI
    have HC := Lib.hid hC
    clear hI hC
    by_cases hin : i < n
    · have j1 : (i : Int) < (n : Int) := by omega
      have j0 : (0 : Int) ≤ (i : Int) := by omega
      obtain ⟨kb, ko, rfl, kl, _, kc⟩ := K0.out.get hin
      obtain ⟨vb, vo, rfl, vl, _, vc⟩ := V0.out.get hin
      have KC := Lib.hid kc
      have VC := Lib.hid vc
      clear kc vc
      obtain ⟨wo, rfl⟩ : ∃ wo : World, wo = wr := ⟨_, rfl⟩
      go_wp2_with fail
      go_loopw [5] (fun s wq => ∃ k : Nat, k ≤ i ∧ s = .int .i64 (k : Int) ∧ refIn false keys vals i k ∧ Chg [] W wq) (fun s _ => i - (intOf s).toNat)
      case atStart => exact ⟨0, Nat.zero_le _, rfl, fun a h => by omega, HC.out⟩
      case round =>
        obtain ⟨k, hk, rfl, hJ, hC⟩ := hrel
        have HJ := Lib.hid hJ
        have hX := (hC.block _ (heap_lt X0.out) (by simp)).trans X0.out
        have x0 := cell_of_block hX 0
        have x1 := cell_of_block hX 1
        have x2 := cell_of_block hX 2
        simp only [List.getElem?_toArray, List.getElem?_cons_zero, List.getElem?_cons_succ] at x0 x1 x2
        have HC2 := Lib.hid hC
        by_cases hki : k < i
        · have j2 : (k : Int) < (i : Int) := by omega
          have j3 : (0 : Int) ≤ (k : Int) := by omega
          have j4 : (k : Int) < (n : Int) := by omega
          have c1 := (hC.cell (p := ⟨kb, ko + k, none⟩) kl (by simp)).trans (KC.out k (by omega)).1
          have c2 := (hC.cell (p := ⟨kb, ko + i, none⟩) kl (by simp)).trans (KC.out i hin).1
          have c3 := (hC.cell (p := ⟨vb, vo + k, none⟩) vl (by simp)).trans (VC.out k (by omega)).1
          have c4 := (hC.cell (p := ⟨vb, vo + i, none⟩) vl (by simp)).trans (VC.out i hin).1
          clear hC hX hJ
          by_cases hlt : keys k < keys i
          · have g1 : decide (keys i ≤ keys k) = false := by simp; omega
            by_cases hvv : vals k = vals i
            · have g2 : ((vals k : Int) == (vals i : Int)) = true := by simp; omega
              have E := Lib.hid (show rightB false n n keys vals = false from by
                cases hr : rightB false n n keys vals with
                | false => rfl
                | true => exact absurd hvv (((right_inv hr).2.2.2.1 k i hki hin).2 rfl))
              clear hlt hvv
              go_wp2_with fail
              go_quiet (fail)
              go_wp2_with fail
              go_ret
              exact ⟨by rw [E.out]; rfl, HW.out.trans (HC2.out.drewN _)⟩
            · have g2 : ((vals k : Int) == (vals i : Int)) = false := by simp; omega
              have HE := Lib.hid (show keys k < keys i ∧ (false = false → vals k ≠ vals i) from ⟨hlt, fun _ => hvv⟩)
              clear hlt hvv
              go_wp2_with fail
              go_quiet (fail)
              go_wp2_with fail
              go_roundw
              case rel =>
                refine ⟨k + 1, by omega, by go_num, fun a ha => ?_, HC2.out.drewN _⟩
                by_cases e : a = k
                · subst e; exact ⟨HE.out.1, fun _ => HE.out.2 trivial⟩
                · exact HJ.out a (by omega)
              case measure => simp [intOf]; omega
          · have g1 : decide (keys i ≤ keys k) = true := by simp; omega
            have E := Lib.hid (show rightB false n n keys vals = false from by
              cases hr : rightB false n n keys vals with
              | false => rfl
              | true => exact absurd (((right_inv hr).2.2.2.1 k i hki hin).1) hlt)
            clear hlt
            go_wp2_with fail
            go_quiet (fail)
            go_wp2_with fail
            go_ret
            exact ⟨by rw [E.out]; rfl, HW.out.trans (HC2.out.drewN _)⟩
        · obtain rfl : k = i := by omega
          have c4 := (hC.cell (p := ⟨vb, vo + k, none⟩) vl (by simp)).trans (VC.out k hin).1
          clear hC hX hJ
          by_cases h1 : vals k < 1
          · have g1 : (vals k : Int) < 1 := by omega
            have E := Lib.hid (show rightB false n n keys vals = false from by
              cases hr : rightB false n n keys vals with
              | false => rfl
              | true =>
                have := (right_inv hr).2.2.2.2 k hin rfl
                omega)
            go_wp2_with fail
            go_ret
            exact ⟨by rw [E.out]; rfl, HW.out.trans HC2.out⟩
          · by_cases h2 : 4095 < vals k
            · have g1 : ¬ (vals k : Int) < 1 := by omega
              have g2 : (4095 : Int) < (vals k : Int) := by omega
              have E := Lib.hid (show rightB false n n keys vals = false from by
                cases hr : rightB false n n keys vals with
                | false => rfl
                | true =>
                  have := (right_inv hr).2.2.2.2 k hin rfl
                  omega)
              go_wp2_with fail
              go_ret
              exact ⟨by rw [E.out]; rfl, HW.out.trans HC2.out⟩
            · have g1 : ¬ (vals k : Int) < 1 := by omega
              have g2 : ¬ (4095 : Int) < (vals k : Int) := by omega
              have HE := Lib.hid (show 1 ≤ vals k ∧ vals k ≤ 4095 by omega)
              clear h1 h2
              go_wp2_with fail
              go_roundw
              case rel => exact ⟨k + 1, by omega, by go_num, refInv_succ HI.out HJ.out (fun _ => HE.out), HC2.out⟩
              case measure => simp [intOf]; omega
    · obtain rfl : i = n := by omega
      have E := Lib.hid (refInv_all (leaf := false) h7 (.inr h0) HI.out)
      go_wp2_with fail
      go_ret
      exact ⟨by rw [E.out]; rfl, HW.out.trans HC.out⟩

theorem rright_at {w : World} {leaf : Bool} {vk vv : Value} {nk nv : Nat} {keys vals : Nat → Nat} (hk : NumsIn [] w vk nk keys) (hv : NumsIn [] w vv nv vals) :
    Calls Try.prog 19 #[.agg #[.bool leaf, vk, vv]] w (RRight w (rightB leaf nk nv keys vals)) := by
  have no : (7 < nk ∨ nk ≠ nv ∨ (nk = 0 ∧ leaf = false)) → Calls Try.prog 19 #[.agg #[.bool leaf, vk, vv]] w (RRight w (rightB leaf nk nv keys vals)) := fun h => by
    have e : rightB leaf nk nv keys vals = false := by
      cases hr : rightB leaf nk nv keys vals with
      | false => rfl
      | true =>
        obtain ⟨h1, h2, h3, _⟩ := right_inv hr
        rcases h with h | h | ⟨h, rfl⟩
        · omega
        · omega
        · rcases h3 with h3 | h3
          · cases h3
          · omega
    rw [e]
    exact rright_not hk hv h
  by_cases h1 : 7 < nk
  · exact no (.inl h1)
  by_cases h2 : nk = nv
  · subst h2
    cases leaf with
    | true => exact rright_leaf hk hv (by omega)
    | false =>
      by_cases h3 : nk = 0
      · exact no (.inr (.inr ⟨h3, rfl⟩))
      · exact rright_inner hk hv (by omega) (by omega)
  · exact no (.inr (.inl h2))

end Go.Proofs.Ytjceoheiiohfcaa
