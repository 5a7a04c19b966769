/- octets.Open. -/
import Derived.Test.YtjceoheiiohfcaaSeal
namespace Go.Proofs.Ytjceoheiiohfcaa
open Go.RowKit
set_option linter.unusedVariables false
set_option linter.unusedSimpArgs false

theorem num_shift (f : Nat → Nat) (p : Nat) : ∀ k, num (fun i => f (p + i)) 0 k = num f p k
  | 0 => rfl
  | k + 1 => by unfold num; rw [num_shift f p k, Nat.zero_add]

/-- A page that is one: its sum is right. -/
def pageOK (f : Nat → Nat) : Prop := num f 124 4 = sumB f 124

set_option maxRecDepth 20000 in
set_option maxHeartbeats 1000000 in
theorem open_len {w : World} {a : Option Addr} {n cap : Nat} (hn : n ≠ 128) :
    Calls Try.prog 21 #[.slice a n cap] w fun e w' => e = .returned (.tuple #[.int .u8 0, .slice none 0 0, .int .i64 10]) ∧ w = w' := by
  have h : ((n : Int) != 128) = true := by simp; omega
  clear hn
  go_enter Try.func21, Try.ntmps21
  go_wp2_with fail
  go_ret3
  exact ⟨rfl, rfl⟩

section
variable {w : World} {b off cap : Nat} {f : Nat → Nat} (h : BytesAt w b off 128 f) (hcap : 128 ≤ cap) (hN : cap ≤ 9223372036854775807)
include h hcap hN

set_option maxRecDepth 20000 in
set_option maxHeartbeats 2000000 in
theorem open_wrong (hp : ¬ pageOK f) :
    Calls Try.prog 21 #[.slice (some ⟨b, off, none⟩) 128 cap] w fun e w' => e = .returned (.tuple #[.int .u8 0, .slice none 0 0, .int .i64 10]) ∧ Chg [] w w' := by
  have H := Lib.hid h
  have hs := sumB_lt f 124
  have hnl : num f 124 4 < 4294967296 := num_lt (k := 4) fun i hi => (h (124 + i) (by omega)).2
  have hne : ((num f 124 4 : Int) != (sumB f 124 : Int)) = true := by
    simp
    intro e
    exact hp (by unfold pageOK; omega)
  clear h hp
  go_enter Try.func21, Try.ntmps21
  go_wp2_with fail
  refine (parts_at hcap hN).mono ?_
  rintro e w1 ⟨rfl, hC1⟩
  have HC1 := Lib.hid hC1
  have h1 := H.out.chg hC1 (by simp)
  have hS : BytesAt w1 b off 124 f := fun i hi => h1 i (by omega)
  have hG := h1.sub (a := 124) (m := 4) (by omega)
  have cG := get_num (cap := 4) hG (by omega) (by omega) (by omega) 0 4 (by omega) (by omega) (by omega)
  rw [num_shift] at cG
  have cS := sum_at (cap := 124) hS (by omega)
  generalize num f 124 4 = X at *
  generalize sumB f 124 = Y at *
  clear h1 hS hG hC1
  go_wp2_with fail
  refine cG.mono ?_
  rintro e w' ⟨rfl, rfl⟩
  go_wp2_with fail
  refine cS.mono ?_
  rintro e w' ⟨rfl, rfl⟩
  go_wp2_with fail
  go_ret3
  exact ⟨rfl, HC1.out⟩

set_option maxRecDepth 20000 in
set_option maxHeartbeats 2000000 in
theorem open_right (hp : pageOK f) :
    Calls Try.prog 21 #[.slice (some ⟨b, off, none⟩) 128 cap] w fun e w' => ∃ g c, e = .returned (.tuple #[.int .u8 (f 0 : Int), .slice (some ⟨g, 0, none⟩) 123 c, .int .i64 0]) ∧ 123 ≤ c ∧ c ≤ maxLen ∧ w.heap.size ≤ g ∧ g < w'.heap.size ∧
      BytesAt w' g 0 123 (fun i => f (1 + i)) ∧ Chg [] w w' := by
  have H := Lib.hid h
  have hs := sumB_lt f 124
  have Hp := Lib.hid hp
  clear h hp
  go_enter Try.func21, Try.ntmps21
  go_wp2_with fail
  refine (parts_at hcap hN).mono ?_
  rintro e w1 ⟨rfl, hC1⟩
  have HC1 := Lib.hid hC1
  have h1 := H.out.chg hC1 (by simp)
  have H1 := Lib.hid h1
  have hS : BytesAt w1 b off 124 f := fun i hi => h1 i (by omega)
  have hG := h1.sub (a := 124) (m := 4) (by omega)
  have cG := get_num (cap := 4) hG (by omega) (by omega) (by omega) 0 4 (by omega) (by omega) (by omega)
  rw [num_shift, show num f 124 4 = sumB f 124 from Hp.out] at cG
  have cS := sum_at (cap := 124) hS (by omega)
  generalize sumB f 124 = Y at *
  clear h1 hS hG hC1
  go_wp2_with fail
  refine cG.mono ?_
  rintro e w' ⟨rfl, rfl⟩
  go_wp2_with fail
  refine cS.mono ?_
  rintro e w' ⟨rfl, rfl⟩
  have h1d := H1.out.chg (Chg.drew (Chg.refl [] _)) (by simp)
  have hcl := Lib.hid (h1d.sub (a := 1) (m := 123) (by omega))
  have x0 := (H1.out 0 (by omega)).1
  rw [Nat.add_zero] at x0
  have lb := World.block_lt_of_cell? _ _ x0
  clear h1d cG cS
  go_wp2_with fail
  go_region_with (go_at_call 36; refine (bclone_at (cap := 123) hcl.out (by omega) (by omega)).mono ?_; rintro e w2 ⟨g, c, rfl, r1, r2, r3, r4, r5, r6⟩; have x2 := (r6.cell (p := ⟨b, off, none⟩) lb (by simp)).trans x0; have R5 := Lib.hid r5; have R6 := Lib.hid r6; clear r5 r6)
  all_goals
    go_wp2_with fail
    go_ret3
    exact ⟨g, c, rfl, r1, r2, Nat.le_trans HC1.out.size r3, r4, R5.out, HC1.out.trans ((Chg.drew (Chg.refl [] _)).trans R6.out)⟩
end

end Go.Proofs.Ytjceoheiiohfcaa
