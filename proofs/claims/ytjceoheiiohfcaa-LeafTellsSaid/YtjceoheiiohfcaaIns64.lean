/- slices.insertionSortOrdered at uint64. -/
import Derived.Test.YtjceoheiiohfcaaSort64
namespace Go.Proofs.Ytjceoheiiohfcaa
open Go.RowKit
set_option linter.unusedVariables false
set_option linter.unusedSimpArgs false

theorem less_q (x y : Int) (w : World) (n : Nat) {b : Bool} (h : decide (x < y) = b) : Calls Try.prog 51 #[.int .u64 x, .int .u64 y] (w.drewN n) fun e w'' => e = .returned (.bool b) ∧ ∃ m, w'' = w.drewN m :=
  (less_at x y _).mono fun _ _ ⟨he, hm⟩ => ⟨by rw [he, h], n, hm.symm⟩

set_option maxRecDepth 100000 in
set_option maxHeartbeats 4000000 in
theorem ins_at {w : World} {g n c : Nat} {f : Nat → Nat} (h : Row64 w g n f) (hn : n ≤ 12) (hc : n ≤ c) :
    Calls Try.prog 45 #[.slice (some ⟨g, 0, none⟩) n c, .int .i64 0, .int .i64 (n : Int)] w fun e w' =>
      e = .returned (.tuple #[]) ∧ ∃ f', Row64 w' g n f' ∧ sortedTo f' n ∧ (Good f' n ↔ Good f n) ∧ Chg [g] w w' := by
  have H := Lib.hid h
  clear h
  go_enter Try.func45, Try.ntmps45
  go_wp2_with fail
  go_loopw [6] (fun s wr => ∃ (i : Nat) (f' : Nat → Nat), s = .int .i64 (i : Int) ∧ 1 ≤ i ∧ (i ≤ n ∨ i = 1) ∧ sortedTo f' i ∧ Row64 wr g n f' ∧ (Good f' n ↔ Good f n) ∧ Chg [g] w wr) (fun s _ => 13 - (intOf s).toNat)
  case atStart => exact ⟨1, f, rfl, Nat.le_refl _, .inr rfl, fun a b h1 h2 => by omega, H.out, Iff.rfl, Chg.refl _ _⟩
  case round =>
    obtain ⟨i, f', rfl, hi1, hi2, hs, hR, hG, hC⟩ := hrel
    obtain ⟨wo, rfl⟩ : ∃ wo : World, wo = wr := ⟨_, rfl⟩
    have Hs := Lib.hid hs
    have HR := Lib.hid hR
    have HG := Lib.hid hG
    have HC := Lib.hid hC
    clear hs hR hG hC
    by_cases hin : i < n
    · have hinI : (i : Int) < (n : Int) := by omega
      go_wp2_with fail
      go_loopw [7] (fun s wr => ∃ (j : Nat) (f2 : Nat → Nat), s = .int .i64 (j : Int) ∧ j ≤ i ∧ sortedBut f2 i j ∧ Row64 wr g n f2 ∧ (Good f2 n ↔ Good f n) ∧ Chg [g] w wr) (fun s _ => (intOf s).toNat)
      case atStart => exact ⟨i, f', rfl, Nat.le_refl _, but_start Hs.out, HR.out, HG.out, HC.out⟩
      case round =>
        obtain ⟨j, f2, rfl, hji, hb, hR2, hG2, hC2⟩ := hrel
        obtain ⟨wi, rfl⟩ : ∃ wi : World, wi = wr := ⟨_, rfl⟩
        have Hb := Lib.hid hb
        have HR2 := Lib.hid hR2
        have HG2 := Lib.hid hG2
        have HC2 := Lib.hid hC2
        clear hb hR2 hG2 hC2
        by_cases hj0 : j = 0
        · subst hj0
          have hd : decide ((0 : Int) < ((0 : Nat) : Int)) = false := rfl
          go_wp2_with fail
          go_quiet (fail)
          go_wp2_with fail
          go_roundw
          case rel => exact ⟨i + 1, f2, by go_num, by omega, .inl (by omega), but_zero Hb.out, HR2.out.chg (Chg.drewN (Chg.refl [] _) _) (by simp), HG2.out, HC2.out.drewN _⟩
          case measure => simp [intOf]; omega
        · have hj : 0 < j := by omega
          have hjI : (0 : Int) < (j : Int) := by omega
          obtain ⟨k, hk⟩ : ∃ k, j = k + 1 := ⟨j - 1, by omega⟩
          subst hk
          have c1 := HR2.out.cell (i := k + 1) (by omega)
          have c2 := HR2.out.cell (i := k) (by omega)
          have i0 : (0 : Int) ≤ (k : Int) + 1 := by omega
          have i1 : (k : Int) + 1 < (n : Int) := by omega
          have i2 : (0 : Int) ≤ (k : Int) := by omega
          have i3 : (k : Int) < (n : Int) := by omega
          have e1 : IntKind.i64.wrap ((k : Int) + 1 - 1) = (k : Int) := by
            rw [show (k : Int) + 1 - 1 = (k : Int) by omega]
            exact IntWalk.i64_in _ (by omega)
          by_cases hl : f2 (k + 1) < f2 k
          · have hd := fun n => less_q (f2 (k + 1)) (f2 k) wi n (b := true) (by simp; omega)
            have Hd := Lib.hid hd
            have Hl := Lib.hid hl
            clear hd hl
            go_wp2_with fail
            go_quiet ((go_at_call 51; exact Hd.out _))
            go_wp2_with fail
            have HRd := Lib.hid (HR2.out.chg (Chg.drewN (Chg.refl [] _) nq) (by simp))
            have HCd := Lib.hid (HC2.out.drewN nq)
            clear Hd c1 c2
            generalize wi.drewN nq = W at *
            have c1 := HRd.out.cell (i := k + 1) (by omega)
            have c2 := HRd.out.cell (i := k) (by omega)
            have f1 := HRd.out.fz (k + 1)
            have f2' := HRd.out.fz k
            go_region
            have hs := HRd.out.swap (j := k + 1) (by omega) (by omega)
            have hb2 := but_swp Hb.out (by omega) hji (by rw [Nat.add_sub_cancel]; exact Hl.out)
            simp only [Nat.add_sub_cancel] at hs hb2
            have HS := Lib.hid (And.intro hs hb2)
            clear hs hb2 c1 c2 f1 f2'
            go_wp2_with fail
            go_roundw
            case rel => exact ⟨k, swp f2 (k + 1), by go_num, by omega, HS.out.2, HS.out.1.chg (Chg.drew (Chg.refl [] _)) (by simp), (good_swp (by omega) (by omega)).trans HG2.out, ((HCd.out.setCell (.inl (by simp)) _).setCell (.inl (by simp)) _).drew⟩
            case measure => simp [intOf]
          · have hd := fun n => less_q (f2 (k + 1)) (f2 k) wi n (b := false) (by simp; omega)
            have Hd := Lib.hid hd
            have Hl := Lib.hid hl
            clear hd hl
            go_wp2_with fail
            go_quiet ((go_at_call 51; exact Hd.out _))
            go_wp2_with fail
            go_roundw
            case rel => exact ⟨i + 1, f2, by go_num, by omega, .inl (by omega), but_done Hb.out (by omega) (by have := Hl.out; rw [Nat.add_sub_cancel]; omega), HR2.out.chg (Chg.drewN (Chg.refl [] _) _) (by simp), HG2.out, HC2.out.drewN _⟩
            case measure => simp [intOf]; omega
    · go_wp2_with fail
      go_end0
      refine ⟨rfl, f', HR.out, fun a b hab hb => Hs.out a b hab (by omega), HG.out, HC.out⟩

end Go.Proofs.Ytjceoheiiohfcaa
