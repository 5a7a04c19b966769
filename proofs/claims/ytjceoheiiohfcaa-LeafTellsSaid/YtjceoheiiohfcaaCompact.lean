/- slices.Compact at []uint64: how many numbers are left. -/
import Derived.Test.YtjceoheiiohfcaaKids
namespace Go.Proofs.Ytjceoheiiohfcaa
open Go.RowKit
set_option linter.unusedVariables false
set_option linter.unusedSimpArgs false

theorem chg_setCells {L : List Nat} {a : World} {b : Nat} (hb : b ∈ L) : ∀ (vs : List Value) (o : Nat) (w : World), Chg L a w → Chg L a (w.setCells b o vs)
  | [], _, _, h => h
  | v :: r, o, w, h => chg_setCells hb r (o + 1) _ (h.setCell (.inl hb) v)

theorem zero64 (w : World) : (zeroValue 43).run Try.prog w = .ok (.int .u64 0) w := by kernel_rfl

/-- No two neighbours are alike. -/
def Apart (f : Nat → Nat) (n : Nat) : Prop := ∀ i, i + 1 < n → f i ≠ f (i + 1)
def CompactOf (w : World) (g n c : Nat) (f : Nat → Nat) (e : Ending) (w' : World) : Prop := ∃ m, e = .returned (.slice (some ⟨g, 0, none⟩) m c) ∧ m ≤ n ∧ (m = n ↔ Apart f n) ∧ Chg [g] w w'

set_option maxRecDepth 100000 in
set_option maxHeartbeats 4000000 in
theorem compact_at {w : World} {g n c : Nat} {f : Nat → Nat} (h : Row64 w g n f) (h1 : 1 ≤ n) (hn : n ≤ 12) (hc : n ≤ c) (hcm : c ≤ 9223372036854775807) :
    Calls Try.prog 41 #[.slice (some ⟨g, 0, none⟩) n c] w (CompactOf w g n c f) := by
  have H := Lib.hid h
  clear h
  by_cases hn1 : n = 1
  · have hlt : (n : Int) < 2 := by omega
    have Hn1 := Lib.hid hn1
    clear hn1
    go_enter Try.func41, Try.ntmps41
    go_wp2_with fail
    go_ret
    exact ⟨n, rfl, Nat.le_refl _, ⟨fun _ i hi => by have := Hn1.out; omega, fun _ => rfl⟩, Chg.refl _ _⟩
  · have hlt : ¬ (n : Int) < 2 := by omega
    go_enter Try.func41, Try.ntmps41
    go_wp2_with fail
    go_loopw [3] (fun s wr => ∃ i : Nat, s = .int .i64 (i : Int) ∧ 1 ≤ i ∧ i ≤ n ∧ Apart f i ∧ Chg [] w wr) (fun s _ => n - (intOf s).toNat)
    case atStart => exact ⟨1, rfl, Nat.le_refl _, h1, fun i hi => by omega, Chg.refl _ _⟩
    case round =>
      obtain ⟨i, rfl, hi1, hi2, hA, hC⟩ := hrel
      obtain ⟨wo, rfl⟩ : ∃ wo : World, wo = wr := ⟨_, rfl⟩
      have HA := Lib.hid hA
      have HC := Lib.hid hC
      have hR := H.out.chg hC (by simp)
      have HR := Lib.hid hR
      clear hA hC hR
      by_cases hin : i < n
      · obtain ⟨k, hk⟩ : ∃ k, i = k + 1 := ⟨i - 1, by omega⟩
        subst hk
        have c1 := HR.out.cell (i := k + 1) hin
        have c2 := HR.out.cell (i := k) (by omega)
        have i0 : (0 : Int) ≤ (k : Int) + 1 := by omega
        have i1 : (k : Int) + 1 < (n : Int) := by omega
        have i2 : (0 : Int) ≤ (k : Int) := by omega
        have i3 : (k : Int) < (n : Int) := by omega
        have e1 : IntKind.i64.wrap ((k : Int) + 1 - 1) = (k : Int) := by
          rw [show (k : Int) + 1 - 1 = (k : Int) by omega]
          exact IntWalk.i64_in _ (by omega)
        by_cases heq : f (k + 1) = f k
        · have hd : ((f (k + 1) : Int) == (f k : Int)) = true := by simp [heq]
          have Heq := Lib.hid heq
          clear heq
          go_wp2_with fail
          go_quiet (fail)
          have HRd := Lib.hid (HR.out.chg (Chg.drewN (Chg.refl [] _) nq) (by simp))
          have HCd := Lib.hid (HC.out.drewN nq)
          clear c1 c2
          generalize wo.drewN nq = W at *
          go_wp2_with fail
          have hM0 : k + 1 + (n - (k + 1)) = n := by omega
          have hM1 : k + 1 + (c - (k + 1)) = c := by omega
          generalize n - (k + 1) = M at *
          generalize c - (k + 1) = C at *
          go_loopw [3, 5] (fun s t wr => ∃ (i q : Nat) (f2 : Nat → Nat), s = .int .i64 (i : Int) ∧ t = .int .i64 ((q + 1 : Nat) : Int) ∧ q + 1 ≤ M ∧ k + 1 ≤ i ∧ i ≤ k + 1 + q ∧ Row64 wr g n f2 ∧ Chg [g] w wr) (fun _ t _ => M - (intOf t).toNat)
          case atStart => exact ⟨k + 1, 0, f, rfl, rfl, by omega, Nat.le_refl _, by omega, HRd.out, HCd.out.mono (by simp)⟩
          case round =>
            obtain ⟨i, q, f2, rfl, rfl, hq, hi3, hi4, hR2, hC2⟩ := hrel
            obtain ⟨wi, rfl⟩ : ∃ wi : World, wi = wr := ⟨_, rfl⟩
            have HR2 := Lib.hid hR2
            have HC2 := Lib.hid hC2
            clear hR2 hC2
            by_cases hqM : q + 1 < M
            · have c1 := HR2.out.cell (i := k + 1 + (q + 1)) (by omega)
              have c2 := HR2.out.cell (i := k + 1 + q) (by omega)
              have j0 : (0 : Int) ≤ (q : Int) + 1 := by omega
              have j1 : (q : Int) + 1 < (M : Int) := by omega
              have j2 : (0 : Int) ≤ (q : Int) := by omega
              have j3 : (q : Int) < (M : Int) := by omega
              have e2 : IntKind.i64.wrap ((q : Int) + 1 - 1) = (q : Int) := by
                rw [show (q : Int) + 1 - 1 = (q : Int) by omega]
                exact IntWalk.i64_in _ (by omega)
              have ci := HR2.out.cell (i := i) (by omega)
              have hin2 : (i : Int) < (n : Int) := by omega
              have hi0 : (0 : Int) ≤ (i : Int) := by omega
              have hv := (HR2.out.nums (k + 1 + (q + 1)) (by omega)).2
              have fi := HR2.out.fz i
              by_cases hxy : f2 (k + 1 + (q + 1)) = f2 (k + 1 + q)
              · have hd : ((f2 (k + 1 + (q + 1)) : Int) != (f2 (k + 1 + q) : Int)) = false := by simp [hxy]
                clear hxy
                go_wp2_with fail
                go_quiet (fail)
                go_wp2_with fail
                go_roundw
                case rel => exact ⟨i, q + 1, f2, rfl, by go_num, by omega, hi3, by omega, HR2.out.chg (Chg.drewN (Chg.refl [] _) _) (by simp), HC2.out.drewN _⟩
                case measure => simp [intOf]; omega
              · have hd : ((f2 (k + 1 + (q + 1)) : Int) != (f2 (k + 1 + q) : Int)) = true := by simp; omega
                clear hxy
                go_wp2_with fail
                go_quiet (fail)
                have HR3 := Lib.hid (HR2.out.chg (Chg.drewN (Chg.refl [] _) nq) (by simp))
                have HC3 := Lib.hid (HC2.out.drewN nq)
                have HS := Lib.hid (HR3.out.set (i := i) (v := f2 (k + 1 + (q + 1))) (by omega) hv)
                go_wp2_with fail
                go_roundw
                case rel => exact ⟨i + 1, q + 1, _, by go_num, by go_num, by omega, by omega, by omega, HS.out, HC3.out.setCell (.inl (by simp)) _⟩
                case measure => simp [intOf]; omega
            · have hi5 : i < n := by omega
              have hrun := Lib.run_clear_slice (P := Try.prog) wi 22 43 0 (.int .u64 0) Try.underlying22 zero64 rfl rfl g i (n - i) (c - i) (by omega)
                (fun j hj => by rw [HR2.out.cell (i := i + j) (by omega)]; rfl) (fun j hj => HR2.out.fz _)
              have HE := Lib.hid (chg_setCells (L := [g]) (a := w) (b := g) (by simp) (List.replicate (n - i) (.int .u64 0)) i wi HC2.out)
              have hin2 : (i : Int) ≤ (n : Int) := by omega
              have hi0 : (0 : Int) ≤ (i : Int) := by omega
              go_wp2_with fail
              go_ret
              exact ⟨i, rfl, by omega, ⟨fun h => by omega, fun h => absurd Heq.out.symm (h k (by omega))⟩, HE.out⟩
        · have hd : ((f (k + 1) : Int) == (f k : Int)) = false := by simp; omega
          have Heq := Lib.hid heq
          clear heq
          go_wp2_with fail
          go_quiet (fail)
          go_wp2_with fail
          go_roundw
          case rel =>
            refine ⟨k + 2, by go_num, by omega, by omega, fun j hj => ?_, HC.out.drewN _⟩
            by_cases e : j = k
            · subst e; exact fun q => Heq.out q.symm
            · exact HA.out j (by omega)
          case measure => simp [intOf]; omega
      · obtain rfl : i = n := by omega
        go_wp2_with fail
        go_ret
        exact ⟨i, rfl, Nat.le_refl _, ⟨fun _ => HA.out, fun _ => rfl⟩, HC.out.mono (by simp)⟩

end Go.Proofs.Ytjceoheiiohfcaa
