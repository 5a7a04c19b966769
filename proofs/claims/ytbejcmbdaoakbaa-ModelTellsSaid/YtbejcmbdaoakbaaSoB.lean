/- slices.reverseRangeOrdered, siftDownOrdered, heapSortOrdered at uint64. -/
import Derived.Test.YtbejcmbdaoakbaaSoA
namespace Go.Proofs.Ytbejcmbdaoakbaa
open Go.RowKit Go.Sort
set_option linter.unusedVariables false
set_option linter.unusedSimpArgs false

theorem soRev_go {α : Type} [Inhabited α] (i j : Nat) (d : Array α) (h : i < j) : reverseLoop i j d = reverseLoop (i + 1) (j - 1) (swp d i j) := by rw [reverseLoop, if_pos h]
theorem soRev_stop {α : Type} [Inhabited α] (i j : Nat) (d : Array α) (h : ¬ i < j) : reverseLoop i j d = d := by rw [reverseLoop, if_neg h]

set_option maxRecDepth 100000 in
set_option maxHeartbeats 4000000 in
theorem soRev_at {w : World} {g N c : Nat} {d : Array Int} (h : RowD w g N d) (hN : N < 4611686018427387904) (hc : N ≤ c) {a b : Nat} (hab : a < b) (hb : b ≤ N) :
    Calls Try.prog 69 #[.slice (some ⟨g, 0, none⟩) N c, .int .i64 (a : Int), .int .i64 (b : Int)] w fun e w' =>
      e = .returned (.tuple #[]) ∧ RowD w' g N (reverseRange d a b) ∧ Chg [g] w w' := by
  have H := Lib.hid h
  clear h
  go_enter Try.func69, Try.ntmps69
  go_wp2_with fail
  go_loopw [6, 7] (fun s u wr => ∃ (i j : Nat), s = .int .i64 (i : Int) ∧ u = .int .i64 (j : Int) ∧ i ≤ N ∧ j < N ∧ Hid (∃ dk, RowD wr g N dk ∧ Chg [g] w wr ∧ reverseLoop i j dk = reverseLoop a (b - 1) d)) (fun s u _ => (intOf u - intOf s).toNat)
  case atStart => exact ⟨a, b - 1, rfl, by congr 1; omega, by omega, by omega, ⟨d, H.out, Chg.refl _ _, rfl⟩⟩
  case round =>
    obtain ⟨i, j, rfl, rfl, hi, hj, hX⟩ := hrel
    obtain ⟨dk, hR, hC, hL⟩ := hX.out
    have HR := Lib.hid hR
    have HC := Lib.hid hC
    have HL := Lib.hid hL
    clear hR hC hL hX
    by_cases hij : i < j
    · obtain ⟨k, hk⟩ : ∃ k, j = k + 1 := ⟨j - 1, by omega⟩
      subst hk
      obtain ⟨x, hx⟩ : ∃ x, x = dk[i]! := ⟨_, rfl⟩
      obtain ⟨y, hy⟩ : ∃ y, y = dk[k + 1]! := ⟨_, rfl⟩
      have c1 := HR.out.cell (i := i) (by omega)
      have c2 := HR.out.cell (i := k + 1) (by omega)
      rw [← hx] at c1
      rw [← hy] at c2
      have Hx := Lib.hid hx
      have Hy := Lib.hid hy
      clear hx hy
      have f1 := HR.out.fz i
      have f2 := HR.out.fz (k + 1)
      have hijI : (i : Int) < (k : Int) + 1 := by omega
      have i0 : (0 : Int) ≤ (k : Int) + 1 := by omega
      have i1 : (k : Int) + 1 < (N : Int) := by omega
      have i2 : (0 : Int) ≤ (i : Int) := by omega
      have i3 : (i : Int) < (N : Int) := by omega
      have ne : i ≠ k + 1 := by omega
      go_upto_region 3 with fail
      go_region
      have HS := Lib.hid (HR.out.swapd (i := i) (j := k + 1) (by omega) (by omega) Hx.out Hy.out)
      clear c1 c2 f1 f2
      go_wp2_with fail
      go_roundw
      case rel => exact ⟨i + 1, k, by go_num, by go_num, by omega, by omega, ⟨swp dk i (k + 1), HS.out.1.chg (Chg.drew (Chg.refl [] _)) (by simp), (HC.out.trans HS.out.2).drew, by rw [← HL.out, soRev_go i (k + 1) dk hij]; rfl⟩⟩
      case measure => simp [intOf]; omega
    · have HF := Lib.hid (And.intro (show RowD wr g N (reverseRange d a b) by unfold reverseRange; rw [← HL.out, soRev_stop i j dk hij]; exact HR.out) HC.out)
      clear HR HC HL
      go_wp2_with fail
      go_end0
      exact ⟨rfl, HF.out.1, HF.out.2⟩

/-! ### siftDown -/
section
variable {α : Type} [Inhabited α] (lt : α → α → Bool)
theorem soSd_end {hi F r : Nat} (d : Array α) (h : hi ≤ 2 * r + 1) : siftDown lt hi F r d = d := by rw [siftDown, dif_pos h]
/-- The child that is asked: c. -/
def soKid (hi F r : Nat) (d : Array α) : Nat := if 2 * r + 1 + 1 < hi ∧ lt d[F + (2 * r + 1)]! d[F + (2 * r + 1) + 1]! = true then 2 * r + 2 else 2 * r + 1
theorem soSd_on {hi F r : Nat} (d : Array α) (h : ¬ hi ≤ 2 * r + 1) : siftDown lt hi F r d = if lt d[F + r]! d[F + soKid lt hi F r d]! = true then siftDown lt hi F (soKid lt hi F r d) (swp d (F + r) (F + soKid lt hi F r d)) else d := by
  rw [siftDown, dif_neg h]
  unfold soKid
  by_cases h1 : 2 * r + 1 + 1 < hi ∧ lt d[F + (2 * r + 1)]! d[F + (2 * r + 1) + 1]! = true
  · have h2 : (2 * r + 1 + 1 < hi && lt d[F + (2 * r + 1)]! d[F + (2 * r + 1) + 1]!) = true := by simp [h1.1, h1.2]
    have h3 : 2 * r + 2 < hi := h1.1
    rw [if_pos h1, if_pos h2, dif_pos h3]
    cases lt d[F + r]! d[F + (2 * r + 2)]! <;> simp
  · have h2 : ¬ (2 * r + 1 + 1 < hi && lt d[F + (2 * r + 1)]! d[F + (2 * r + 1) + 1]!) = true := by simpa using h1
    rw [if_neg h1, if_neg h2]
    cases lt d[F + r]! d[F + (2 * r + 1)]! <;> simp
end

-- SIFT
set_option maxRecDepth 100000 in
set_option maxHeartbeats 8000000 in
theorem soSift_at {w : World} {g N c : Nat} {d : Array Int} (h : RowD w g N d) (hN : N < 1152921504606846976) (hc : N ≤ c) {lo hi F : Nat} (hlo : lo ≤ N) (hhi : F + hi ≤ N) :
    Calls Try.prog 76 #[.slice (some ⟨g, 0, none⟩) N c, .int .i64 (lo : Int), .int .i64 (hi : Int), .int .i64 (F : Int)] w fun e w' =>
      e = .returned (.tuple #[]) ∧ RowD w' g N (siftDown ltInt hi F lo d) ∧ Chg [g] w w' := by
  have H := Lib.hid h
  clear h
  go_enter Try.func76, Try.ntmps76
  go_wp2_with fail
  go_loopg [8] (hi - lo) (fun gg s wr => ∃ r : Nat, s = .int .i64 (r : Int) ∧ r ≤ N ∧ gg = hi - r ∧ Hid (∃ dk, RowD wr g N dk ∧ Chg [g] w wr ∧ siftDown ltInt hi F r dk = siftDown ltInt hi F lo d))
  case atStart => exact ⟨lo, rfl, hlo, rfl, ⟨d, H.out, Chg.refl _ _, rfl⟩⟩
  case round =>
    obtain ⟨r, rfl, hrN, hgg, hX⟩ := hrel
    obtain ⟨dk, hR, hC, hL⟩ := hX.out
    have HR := Lib.hid hR
    have HC := Lib.hid hC
    have HL := Lib.hid hL
    clear hR hC hL hX
    by_cases hend : hi ≤ 2 * r + 1
    · have HF := Lib.hid (soSd_end ltInt (F := F) dk hend)
      have hE : (hi : Int) ≤ 2 * (r : Int) + 1 := by omega
      go_wp2_with fail
      go_end0
      exact ⟨rfl, by rw [← HL.out, HF.out]; exact HR.out, HC.out⟩
    · have hE : ¬ (hi : Int) ≤ 2 * (r : Int) + 1 := by omega
      obtain ⟨x0, hx0⟩ : ∃ x, x = dk[F + r]! := ⟨_, rfl⟩
      obtain ⟨x1, hx1⟩ : ∃ x, x = dk[F + (2 * r + 1)]! := ⟨_, rfl⟩
      have Hx0 := Lib.hid hx0
      have Hx1 := Lib.hid hx1
      clear hx0 hx1
      have s1 : IntKind.i64.wrap (2 * (r : Int) + 1 + 1) = 2 * (r : Int) + 1 + 1 := IntWalk.i64_in _ (by omega)
      have s2 : IntKind.i64.wrap ((F : Int) + (2 * (r : Int) + 1)) = (F : Int) + (2 * (r : Int) + 1) := IntWalk.i64_in _ (by omega)
      have s3 : IntKind.i64.wrap ((F : Int) + (2 * (r : Int) + 1) + 1) = (F : Int) + (2 * (r : Int) + 1) + 1 := IntWalk.i64_in _ (by omega)
      have s4 : IntKind.i64.wrap ((F : Int) + (r : Int)) = (F : Int) + (r : Int) := IntWalk.i64_in _ (by omega)
      have s5 : IntKind.i64.wrap ((F : Int) + (2 * (r : Int) + 1 + 1)) = (F : Int) + (2 * (r : Int) + 1 + 1) := IntWalk.i64_in _ (by omega)
      have t1 : ((F : Int) + (2 * (r : Int) + 1)).toNat = F + (2 * r + 1) := by omega
      have t2 : ((F : Int) + (2 * (r : Int) + 1) + 1).toNat = F + (2 * r + 1) + 1 := by omega
      have t3 : ((F : Int) + (r : Int)).toNat = F + r := by omega
      have t4 : ((F : Int) + (2 * (r : Int) + 1 + 1)).toNat = F + (2 * r + 1 + 1) := by omega
      have b1 : (0 : Int) ≤ (F : Int) + (2 * (r : Int) + 1) := by omega
      have b2 : (F : Int) + (2 * (r : Int) + 1) < (N : Int) := by omega
      have b3 : (0 : Int) ≤ (F : Int) + (r : Int) := by omega
      have b4 : (F : Int) + (r : Int) < (N : Int) := by omega
      by_cases h2 : 2 * r + 1 + 1 < hi
      · have b5 : (0 : Int) ≤ (F : Int) + (2 * (r : Int) + 1) + 1 := by omega
        have b6 : (F : Int) + (2 * (r : Int) + 1) + 1 < (N : Int) := by omega
        have b7 : (0 : Int) ≤ (F : Int) + (2 * (r : Int) + 1 + 1) := by omega
        have b8 : (F : Int) + (2 * (r : Int) + 1 + 1) < (N : Int) := by omega
        have hg : decide (2 * (r : Int) + 1 + 1 < (hi : Int)) = true := by simp; omega
        obtain ⟨x2, hx2⟩ : ∃ x, x = dk[F + (2 * r + 1 + 1)]! := ⟨_, rfl⟩
        have Hx2 := Lib.hid hx2
        clear hx2
        have c1 : wr.cell? ⟨g, F + (2 * r + 1), none⟩ = some (.int .u64 x1) := by rw [Hx1.out]; exact HR.out.cell (by omega)
        have c2 : wr.cell? ⟨g, F + (2 * r + 1) + 1, none⟩ = some (.int .u64 x2) := by rw [Hx2.out]; exact HR.out.cell (by omega)
        cases hl : ltInt x1 x2 with
        | true =>
          have HK : Hid (soKid ltInt hi F r dk = 2 * r + 1 + 1) := Lib.hid (by unfold soKid; rw [if_pos ⟨h2, by rw [show F + (2 * r + 1) + 1 = F + (2 * r + 1 + 1) by omega, ← Hx1.out, ← Hx2.out]; exact hl⟩])
          have Hd := Lib.hid (fun n => soLess_q x1 x2 wr n hl)
          clear hl
          go_upto_region 3 with fail
          go_quiet ((go_at_call 71; exact Hd.out _))
          have HR1 := Lib.hid (HR.out.chg (Chg.drewN (Chg.refl [] wr) nq) (by simp))
          have HC1 := Lib.hid (HC.out.drewN nq)
          clear c1 c2
          generalize wr.drewN nq = W1 at *
          cases hl2 : ltInt x0 x2 with
          | true =>
            have Hd2 := Lib.hid (fun (W : World) (n : Nat) => soLess_q x0 x2 W n hl2)
            have Hl2 := Lib.hid hl2
            clear hl2
            have d0 : W1.cell? ⟨g, F + r, none⟩ = some (.int .u64 x0) := by rw [Hx0.out]; exact HR1.out.cell (by omega)
            have d1 : W1.cell? ⟨g, F + (2 * r + 1 + 1), none⟩ = some (.int .u64 x2) := by rw [Hx2.out]; exact HR1.out.cell (by omega)
            go_upto_region 5 with fail
            go_quiet ((go_at_call 71; exact Hd2.out _ _))
            go_wp2_with fail
            have HR2 := Lib.hid (HR1.out.chg (Chg.drewN (Chg.refl [] W1) nq) (by simp))
            have HC2 := Lib.hid (HC1.out.drewN nq)
            have e0 : (W1.drewN nq).cell? ⟨g, F + r, none⟩ = _ := d0
            have e1 : (W1.drewN nq).cell? ⟨g, F + (2 * r + 1 + 1), none⟩ = _ := d1
            clear d0 d1
            generalize W1.drewN nq = W2 at *
            have f1 := HR2.out.fz (F + r)
            have f2 := HR2.out.fz (F + (2 * r + 1 + 1))
            have ne : F + r ≠ F + (2 * r + 1 + 1) := by omega
            go_upto_region 6 with fail
            go_region
            have HS := Lib.hid (HR2.out.swapd (i := F + r) (j := F + (2 * r + 1 + 1)) (by omega) (by omega) Hx0.out Hx2.out)
            clear e0 e1 f1 f2
            go_wp2_with fail
            go_roundg (hi - (2 * r + 1 + 1))
            case measure => omega
            case rel => exact ⟨2 * r + 1 + 1, by go_num, by omega, rfl, ⟨swp dk (F + r) (F + (2 * r + 1 + 1)), HS.out.1.chg (Chg.drew (Chg.refl [] _)) (by simp), (HC2.out.trans HS.out.2).drew, by rw [← HL.out, soSd_on ltInt dk hend, HK.out, ← Hx0.out, ← Hx2.out, if_pos Hl2.out]⟩⟩
          | false =>
            have Hd2 := Lib.hid (fun (W : World) (n : Nat) => soLess_q x0 x2 W n hl2)
            have HF := Lib.hid (show siftDown ltInt hi F r dk = dk by rw [soSd_on ltInt dk hend, HK.out, ← Hx0.out, ← Hx2.out, hl2]; rfl)
            clear hl2
            have d0 : W1.cell? ⟨g, F + r, none⟩ = some (.int .u64 x0) := by rw [Hx0.out]; exact HR1.out.cell (by omega)
            have d1 : W1.cell? ⟨g, F + (2 * r + 1 + 1), none⟩ = some (.int .u64 x2) := by rw [Hx2.out]; exact HR1.out.cell (by omega)
            go_upto_region 5 with fail
            go_quiet ((go_at_call 71; exact Hd2.out _ _))
            go_wp2_with fail
            (try simp only [Exit.inBlock, Exit.then])
            refine bodyPost_ret (v := .tuple #[]) (by simp [results, Try.results76, go_sem]) rfl ?_
            exact ⟨rfl, by rw [← HL.out, HF.out]; exact HR1.out.chg (Chg.drewN (Chg.refl [] W1) nq) (by simp), HC1.out.drewN nq⟩
        | false =>
          have HK : Hid (soKid ltInt hi F r dk = 2 * r + 1) := Lib.hid (by unfold soKid; rw [if_neg]; rintro ⟨_, q⟩; rw [show F + (2 * r + 1) + 1 = F + (2 * r + 1 + 1) by omega, ← Hx1.out, ← Hx2.out, hl] at q; cases q)
          have Hd := Lib.hid (fun n => soLess_q x1 x2 wr n hl)
          clear hl
          go_upto_region 3 with fail
          go_quiet ((go_at_call 71; exact Hd.out _))
          have HR1 := Lib.hid (HR.out.chg (Chg.drewN (Chg.refl [] wr) nq) (by simp))
          have HC1 := Lib.hid (HC.out.drewN nq)
          clear c1 c2
          generalize wr.drewN nq = W1 at *
          cases hl2 : ltInt x0 x1 with
          | true =>
            have Hd2 := Lib.hid (fun (W : World) (n : Nat) => soLess_q x0 x1 W n hl2)
            have Hl2 := Lib.hid hl2
            clear hl2
            have d0 : W1.cell? ⟨g, F + r, none⟩ = some (.int .u64 x0) := by rw [Hx0.out]; exact HR1.out.cell (by omega)
            have d1 : W1.cell? ⟨g, F + (2 * r + 1), none⟩ = some (.int .u64 x1) := by rw [Hx1.out]; exact HR1.out.cell (by omega)
            go_upto_region 5 with fail
            go_quiet ((go_at_call 71; exact Hd2.out _ _))
            go_wp2_with fail
            have HR2 := Lib.hid (HR1.out.chg (Chg.drewN (Chg.refl [] W1) nq) (by simp))
            have HC2 := Lib.hid (HC1.out.drewN nq)
            have e0 : (W1.drewN nq).cell? ⟨g, F + r, none⟩ = _ := d0
            have e1 : (W1.drewN nq).cell? ⟨g, F + (2 * r + 1), none⟩ = _ := d1
            clear d0 d1
            generalize W1.drewN nq = W2 at *
            have f1 := HR2.out.fz (F + r)
            have f2 := HR2.out.fz (F + (2 * r + 1))
            have ne : F + r ≠ F + (2 * r + 1) := by omega
            go_upto_region 6 with fail
            go_region
            have HS := Lib.hid (HR2.out.swapd (i := F + r) (j := F + (2 * r + 1)) (by omega) (by omega) Hx0.out Hx1.out)
            clear e0 e1 f1 f2
            go_wp2_with fail
            go_roundg (hi - (2 * r + 1))
            case measure => omega
            case rel => exact ⟨2 * r + 1, by go_num, by omega, rfl, ⟨swp dk (F + r) (F + (2 * r + 1)), HS.out.1.chg (Chg.drew (Chg.refl [] _)) (by simp), (HC2.out.trans HS.out.2).drew, by rw [← HL.out, soSd_on ltInt dk hend, HK.out, ← Hx0.out, ← Hx1.out, if_pos Hl2.out]⟩⟩
          | false =>
            have Hd2 := Lib.hid (fun (W : World) (n : Nat) => soLess_q x0 x1 W n hl2)
            have HF := Lib.hid (show siftDown ltInt hi F r dk = dk by rw [soSd_on ltInt dk hend, HK.out, ← Hx0.out, ← Hx1.out, hl2]; rfl)
            clear hl2
            have d0 : W1.cell? ⟨g, F + r, none⟩ = some (.int .u64 x0) := by rw [Hx0.out]; exact HR1.out.cell (by omega)
            have d1 : W1.cell? ⟨g, F + (2 * r + 1), none⟩ = some (.int .u64 x1) := by rw [Hx1.out]; exact HR1.out.cell (by omega)
            go_upto_region 5 with fail
            go_quiet ((go_at_call 71; exact Hd2.out _ _))
            go_wp2_with fail
            (try simp only [Exit.inBlock, Exit.then])
            refine bodyPost_ret (v := .tuple #[]) (by simp [results, Try.results76, go_sem]) rfl ?_
            exact ⟨rfl, by rw [← HL.out, HF.out]; exact HR1.out.chg (Chg.drewN (Chg.refl [] W1) nq) (by simp), HC1.out.drewN nq⟩
      · have hg : decide (2 * (r : Int) + 1 + 1 < (hi : Int)) = false := by simp; omega
        have HK : Hid (soKid ltInt hi F r dk = 2 * r + 1) := Lib.hid (by unfold soKid; rw [if_neg]; rintro ⟨q, _⟩; exact h2 q)
        have c1 := trivial
        have c2 := trivial
        go_upto_region 3 with fail
        go_quiet (fail)
        have HR1 := Lib.hid (HR.out.chg (Chg.drewN (Chg.refl [] wr) nq) (by simp))
        have HC1 := Lib.hid (HC.out.drewN nq)
        clear c1 c2
        generalize wr.drewN nq = W1 at *
        cases hl2 : ltInt x0 x1 with
        | true =>
          have Hd2 := Lib.hid (fun (W : World) (n : Nat) => soLess_q x0 x1 W n hl2)
          have Hl2 := Lib.hid hl2
          clear hl2
          have d0 : W1.cell? ⟨g, F + r, none⟩ = some (.int .u64 x0) := by rw [Hx0.out]; exact HR1.out.cell (by omega)
          have d1 : W1.cell? ⟨g, F + (2 * r + 1), none⟩ = some (.int .u64 x1) := by rw [Hx1.out]; exact HR1.out.cell (by omega)
          go_upto_region 5 with fail
          go_quiet ((go_at_call 71; exact Hd2.out _ _))
          go_wp2_with fail
          have HR2 := Lib.hid (HR1.out.chg (Chg.drewN (Chg.refl [] W1) nq) (by simp))
          have HC2 := Lib.hid (HC1.out.drewN nq)
          have e0 : (W1.drewN nq).cell? ⟨g, F + r, none⟩ = _ := d0
          have e1 : (W1.drewN nq).cell? ⟨g, F + (2 * r + 1), none⟩ = _ := d1
          clear d0 d1
          generalize W1.drewN nq = W2 at *
          have f1 := HR2.out.fz (F + r)
          have f2 := HR2.out.fz (F + (2 * r + 1))
          have ne : F + r ≠ F + (2 * r + 1) := by omega
          go_upto_region 6 with fail
          go_region
          have HS := Lib.hid (HR2.out.swapd (i := F + r) (j := F + (2 * r + 1)) (by omega) (by omega) Hx0.out Hx1.out)
          clear e0 e1 f1 f2
          go_wp2_with fail
          go_roundg (hi - (2 * r + 1))
          case measure => omega
          case rel => exact ⟨2 * r + 1, by go_num, by omega, rfl, ⟨swp dk (F + r) (F + (2 * r + 1)), HS.out.1.chg (Chg.drew (Chg.refl [] _)) (by simp), (HC2.out.trans HS.out.2).drew, by rw [← HL.out, soSd_on ltInt dk hend, HK.out, ← Hx0.out, ← Hx1.out, if_pos Hl2.out]⟩⟩
        | false =>
          have Hd2 := Lib.hid (fun (W : World) (n : Nat) => soLess_q x0 x1 W n hl2)
          have HF := Lib.hid (show siftDown ltInt hi F r dk = dk by rw [soSd_on ltInt dk hend, HK.out, ← Hx0.out, ← Hx1.out, hl2]; rfl)
          clear hl2
          have d0 : W1.cell? ⟨g, F + r, none⟩ = some (.int .u64 x0) := by rw [Hx0.out]; exact HR1.out.cell (by omega)
          have d1 : W1.cell? ⟨g, F + (2 * r + 1), none⟩ = some (.int .u64 x1) := by rw [Hx1.out]; exact HR1.out.cell (by omega)
          go_upto_region 5 with fail
          go_quiet ((go_at_call 71; exact Hd2.out _ _))
          go_wp2_with fail
          (try simp only [Exit.inBlock, Exit.then])
          refine bodyPost_ret (v := .tuple #[]) (by simp [results, Try.results76, go_sem]) rfl ?_
          exact ⟨rfl, by rw [← HL.out, HF.out]; exact HR1.out.chg (Chg.drewN (Chg.refl [] W1) nq) (by simp), HC1.out.drewN nq⟩

end Go.Proofs.Ytbejcmbdaoakbaa
