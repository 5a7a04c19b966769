/- catchmentlaw08.awake: the chapter's examples are as they should be. -/
import Derived.Test.YtgbhofneinmonaaSame
namespace Go.Proofs.Ytgbhofneinmonaa
open Go.RowKit
set_option linter.unusedVariables false
set_option linter.unusedSimpArgs false

namespace Awk8
variable {w : World} {t bc bk : Nat}
theorem s1 (h : TallyAt w t bc bk (Tal.new 3)) : Calls Try.prog 25 #[.pointer (some ⟨t, 0, none⟩), .int .i64 1] w fun e w' => e = .returned (.int .i64 0) ∧ TallyAt w' t bc bk (up (Tal.new 3) 1) ∧ Chg [t, bc, bk] w w' := up_at h 1
theorem s2 (h : TallyAt w t bc bk (up (Tal.new 3) 1)) : Calls Try.prog 25 #[.pointer (some ⟨t, 0, none⟩), .int .i64 1] w fun e w' => e = .returned (.int .i64 0) ∧ TallyAt w' t bc bk (up (up (Tal.new 3) 1) 1) ∧ Chg [t, bc, bk] w w' := up_at h 1
theorem s3 (h : TallyAt w t bc bk (up (up (Tal.new 3) 1) 1)) : Calls Try.prog 18 #[.pointer (some ⟨t, 0, none⟩), .int .i64 1] w fun e w' => e = .returned (.int .i64 0) ∧ TallyAt w' t bc bk (down (up (up (Tal.new 3) 1) 1) 1) ∧ Chg [t, bc, bk] w w' := down_at h 1
theorem s4 (h : TallyAt w t bc bk (down (up (up (Tal.new 3) 1) 1) 1)) : Calls Try.prog 27 #[.pointer (some ⟨t, 0, none⟩), .int .i64 1] w fun e w' => e = .returned (.int .i64 1) ∧ w = w' := get_at h 1
theorem s5 (h : TallyAt w t bc bk (down (up (up (Tal.new 3) 1) 1) 1)) : Calls Try.prog 32 #[.pointer (some ⟨t, 0, none⟩)] w fun e w' => e = .returned (.int .i64 2) ∧ w = w' := frees_at h
theorem s6 (h : TallyAt w t bc bk (down (up (up (Tal.new 3) 1) 1) 1)) : Calls Try.prog 28 #[.pointer (some ⟨t, 0, none⟩)] w fun e w' => e = .returned (.tuple #[]) ∧ TallyAt w' t bc bk (down (up (up (Tal.new 3) 1) 1) 1).keep ∧ Chg [t, bc, bk] w w' := (keep_at h).mono fun _ _ ⟨x, y, z⟩ => ⟨x, y, z.mono (by simp)⟩
theorem s7 (h : TallyAt w t bc bk (down (up (up (Tal.new 3) 1) 1) 1).keep) : Calls Try.prog 18 #[.pointer (some ⟨t, 0, none⟩), .int .i64 1] w fun e w' => e = .returned (.int .i64 0) ∧ TallyAt w' t bc bk (down (down (up (up (Tal.new 3) 1) 1) 1).keep 1) ∧ Chg [t, bc, bk] w w' := down_at h 1
theorem s8 (h : TallyAt w t bc bk (down (down (up (up (Tal.new 3) 1) 1) 1).keep 1)) : Calls Try.prog 26 #[.pointer (some ⟨t, 0, none⟩), .int .i64 1] w fun e w' => e = .returned (.bool false) ∧ w = w' := free_at h 1
theorem s9 (h : TallyAt w t bc bk (down (down (up (up (Tal.new 3) 1) 1) 1).keep 1)) : Calls Try.prog 29 #[.pointer (some ⟨t, 0, none⟩)] w fun e w' => e = .returned (.int .i64 1) ∧ w = w' := waits_at h
theorem s11 (h : TallyAt w t bc bk (down (down (up (up (Tal.new 3) 1) 1) 1).keep 1)) : Calls Try.prog 28 #[.pointer (some ⟨t, 0, none⟩)] w fun e w' => e = .returned (.tuple #[]) ∧ TallyAt w' t bc bk (down (down (up (up (Tal.new 3) 1) 1) 1).keep 1).keep ∧ Chg [t, bc, bk] w w' := (keep_at h).mono fun _ _ ⟨x, y, z⟩ => ⟨x, y, z.mono (by simp)⟩
theorem s12 (h : TallyAt w t bc bk (down (down (up (up (Tal.new 3) 1) 1) 1).keep 1).keep) : Calls Try.prog 32 #[.pointer (some ⟨t, 0, none⟩)] w fun e w' => e = .returned (.int .i64 3) ∧ w = w' := frees_at h
theorem s13 (h : TallyAt w t bc bk (down (down (up (up (Tal.new 3) 1) 1) 1).keep 1).keep) : Calls Try.prog 25 #[.pointer (some ⟨t, 0, none⟩), .int .i64 2] w fun e w' => e = .returned (.int .i64 0) ∧ TallyAt w' t bc bk (up (down (down (up (up (Tal.new 3) 1) 1) 1).keep 1).keep 2) ∧ Chg [t, bc, bk] w w' := up_at h 2
theorem s14 (h : TallyAt w t bc bk (up (down (down (up (up (Tal.new 3) 1) 1) 1).keep 1).keep 2)) : Calls Try.prog 36 #[.pointer (some ⟨t, 0, none⟩)] w fun e w' => e = .returned (.tuple #[]) ∧ TallyAt w' t bc bk (up (down (down (up (up (Tal.new 3) 1) 1) 1).keep 1).keep 2).back ∧ Chg [t, bc, bk] w w' := back_at h
theorem s15 (h : TallyAt w t bc bk (up (down (down (up (up (Tal.new 3) 1) 1) 1).keep 1).keep 2).back) : Calls Try.prog 27 #[.pointer (some ⟨t, 0, none⟩), .int .i64 2] w fun e w' => e = .returned (.int .i64 0) ∧ w = w' := get_at h 2
theorem s16 (h : TallyAt w t bc bk (up (down (down (up (up (Tal.new 3) 1) 1) 1).keep 1).keep 2).back) : Calls Try.prog 18 #[.pointer (some ⟨t, 0, none⟩), .int .i64 0] w fun e w' => e = .returned (.int .i64 82) ∧ TallyAt w' t bc bk (down (up (down (down (up (up (Tal.new 3) 1) 1) 1).keep 1).keep 2).back 0) ∧ Chg [t, bc, bk] w w' := down_at h 0
theorem s17 (h : TallyAt w t bc bk (down (up (down (down (up (up (Tal.new 3) 1) 1) 1).keep 1).keep 2).back 0)) : Calls Try.prog 25 #[.pointer (some ⟨t, 0, none⟩), .int .i64 3] w fun e w' => e = .returned (.int .i64 80) ∧ TallyAt w' t bc bk (up (down (up (down (down (up (up (Tal.new 3) 1) 1) 1).keep 1).keep 2).back 0) 3) ∧ Chg [t, bc, bk] w w' := up_at h 3
end Awk8

set_option maxRecDepth 20000 in
set_option maxHeartbeats 4000000 in
theorem awake08 (w : World) : Calls Try.prog 33 #[] w fun e w' => e = .returned (.bool true) ∧ Chg [] w w' := by
  go_enter Try.func33, Try.ntmps33
  go_wp2_with fail
  refine (tnew_ex 3 _ (by decide) (by decide)).mono ?_
  rintro e w1 ⟨t, bc, bk, rfl, hT, hC1, l1, l2, l3⟩
  have L : w.heap.size ≤ t ∧ w.heap.size ≤ bc ∧ w.heap.size ≤ bk := ⟨l1, l2, l3⟩
  have HC := Lib.hid hC1
  clear hC1 l1 l2 l3
  go_wp2_with fail
  refine (Awk8.s1 hT).mono ?_
  clear hT
  rintro e w2 ⟨rfl, hT, hc⟩
  have HC2 := Lib.hid (chg_own3 HC.out hc L)
  clear hc HC
  have HC := HC2
  clear HC2
  go_wp2_with fail
  refine (Awk8.s2 hT).mono ?_
  clear hT
  rintro e w3 ⟨rfl, hT, hc⟩
  have HC2 := Lib.hid (chg_own3 HC.out hc L)
  clear hc HC
  have HC := HC2
  clear HC2
  go_wp2_with fail
  refine (Awk8.s3 hT).mono ?_
  clear hT
  rintro e w4 ⟨rfl, hT, hc⟩
  have HC2 := Lib.hid (chg_own3 HC.out hc L)
  clear hc HC
  have HC := HC2
  clear HC2
  go_wp2_with fail
  refine (Awk8.s4 hT).mono ?_
  rintro e w' ⟨rfl, rfl⟩
  go_wp2_with fail
  refine (Awk8.s5 hT).mono ?_
  rintro e w' ⟨rfl, rfl⟩
  go_wp2_with fail
  refine (Awk8.s6 hT).mono ?_
  clear hT
  rintro e w5 ⟨rfl, hT, hc⟩
  have HC2 := Lib.hid (chg_own3 HC.out hc L)
  clear hc HC
  have HC := HC2
  clear HC2
  go_wp2_with fail
  refine (Awk8.s7 hT).mono ?_
  clear hT
  rintro e w6 ⟨rfl, hT, hc⟩
  have HC2 := Lib.hid (chg_own3 HC.out hc L)
  clear hc HC
  have HC := HC2
  clear HC2
  go_wp2_with fail
  refine (Awk8.s8 hT).mono ?_
  rintro e w' ⟨rfl, rfl⟩
  go_wp2_with fail
  refine (Awk8.s9 hT).mono ?_
  rintro e w' ⟨rfl, rfl⟩
  go_wp2_with fail
  refine (changed_sl hT).mono ?_
  rintro e w7 ⟨v, rfl, hS, hv, hc⟩
  have hT2 := hT.chg hc (by simp) (by simp) (by simp)
  have hS1 : SlI w7 v [1] := hS
  have HC2 := Lib.hid (HC.out.trans hc)
  clear hT hS HC hc
  have hT := hT2
  clear hT2
  have HS1 := Lib.hid hS1
  clear hS1
  go_wp2_with fail
  have hb := new_block w7 (.cells #[.int .i64 1] 3)
  have hs2 : SlI (w7.alloc (.cells #[.int .i64 1] 3)) (.slice (some ⟨w7.heap.size, 0, none⟩) 1 1) [1] :=
    .inr ⟨_, 1, rfl, Nat.le_refl _, by unfold maxLen; omega, by simp, fun i hi => by
      obtain rfl : i = 0 := by simp at hi; omega
      exact cell_of_block hb 0⟩
  have hc := (Chg.refl [] w7).alloc (.cells #[.int .i64 1] 3)
  have hs1 := HS1.out.chg hc (by simp)
  have HC := Lib.hid (HC2.out.trans hc)
  have hT2 := hT.chg hc (by simp) (by simp) (by simp)
  clear hb hT HC2 hv HS1 hc
  have hsm := same_at hs1 hs2 (by decide) (by decide)
  clear hs1 hs2
  have hT := hT2
  clear hT2
  refine hsm.mono ?_
  clear hsm
  rintro e w8 ⟨rfl, hc⟩
  have hT2 := hT.chg hc (by simp) (by simp) (by simp)
  have HC2 := Lib.hid (HC.out.trans hc)
  clear hc hT HC
  have hT := hT2
  have HC := HC2
  clear hT2 HC2
  go_wp2_with fail
  refine (Awk8.s11 hT).mono ?_
  clear hT
  rintro e w9 ⟨rfl, hT, hc⟩
  have HC2 := Lib.hid (chg_own3 HC.out hc L)
  clear hc HC
  have HC := HC2
  clear HC2
  go_wp2_with fail
  refine (Awk8.s12 hT).mono ?_
  rintro e w' ⟨rfl, rfl⟩
  go_wp2_with fail
  refine (Awk8.s13 hT).mono ?_
  clear hT
  rintro e w10 ⟨rfl, hT, hc⟩
  have HC2 := Lib.hid (chg_own3 HC.out hc L)
  clear hc HC
  have HC := HC2
  clear HC2
  go_wp2_with fail
  refine (Awk8.s14 hT).mono ?_
  clear hT
  rintro e w11 ⟨rfl, hT, hc⟩
  have HC2 := Lib.hid (chg_own3 HC.out hc L)
  clear hc HC
  have HC := HC2
  clear HC2
  go_wp2_with fail
  refine (Awk8.s15 hT).mono ?_
  rintro e w' ⟨rfl, rfl⟩
  go_wp2_with fail
  refine (Awk8.s16 hT).mono ?_
  clear hT
  rintro e w12 ⟨rfl, hT, hc⟩
  have HC2 := Lib.hid (chg_own3 HC.out hc L)
  clear hc HC
  have HC := HC2
  clear HC2
  go_wp2_with fail
  refine (Awk8.s17 hT).mono ?_
  clear hT
  rintro e w13 ⟨rfl, hT, hc⟩
  have HC2 := Lib.hid (chg_own3 HC.out hc L)
  clear hc HC
  have HC := HC2
  clear HC2
  go_wp2_with fail
  go_ret
  exact ⟨rfl, HC.out⟩

end Go.Proofs.Ytgbhofneinmonaa
