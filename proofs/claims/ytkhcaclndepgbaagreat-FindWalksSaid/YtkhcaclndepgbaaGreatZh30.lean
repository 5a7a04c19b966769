/- leaf.Decode: what is no node's page. -/
import Derived.Test.YtkhcaclndepgbaaGreatZh28
import Derived.Test.YtkhcaclndepgbaaGreatZh29
import Derived.Test.YtkhcaclndepgbaaGreatZh02
set_option linter.unusedVariables false
set_option linter.unusedSimpArgs false
set_option maxRecDepth 100000
set_option maxHeartbeats 20000000
namespace Go.Proofs.YtkhcaclndepgbaaGreat
open Go.RowKit
def DecBad (w : World) (e : Ending) (w' : World) : Prop := e = .returned (.tuple #[.agg #[.bool false, .slice none 0 0, .slice none 0 0], .int .i64 30]) ∧ Chg [] w w'
theorem dbl {w : World} {o : Obj} {w1 : World} (h : Chg [] (w.alloc o) w1) : w.heap.size < w1.heap.size ∧ w1.heap[w.heap.size]? = some o :=
 ⟨by have := h.size; rw [size_alloc'] at this; omega, (h.block _ (by simp) (by simp)).trans (new_block w o)⟩
theorem chg3 {w w1 : World} (h : Chg [] w w1) (a b c : Value) : Chg [] w (((w1.setCell ⟨w.heap.size, 0, none⟩ a).setCell ⟨w.heap.size, 1, none⟩ b).setCell ⟨w.heap.size, 2, none⟩ c) :=
 ((h.setCell (.inr (Nat.le_refl _)) _).setCell (.inr (Nat.le_refl _)) _).setCell (.inr (Nat.le_refl _)) _
theorem dec_len {w : World} {a : Option Addr} {n cap : Nat} (hn : n ≠ 128) : Calls Tryz.prog 116 #[.slice a n cap] w (DecBad w) := by
 have cO := fun w : World => open_len (w := w) (a := a) (cap := cap) hn
 clear hn
 go_enter Tryz.func116, Tryz.ntmps116
 go_wp2_with fail
 refine (cO _).mono ?_
 rintro e w' ⟨rfl, rfl⟩
 clear cO
 go_wp2_with fail
 exact bodyPost_ret (v := .tuple #[.agg #[.bool false, .slice none 0 0, .slice none 0 0], .int .i64 30]) (by simp [results, Tryz.results116, go_sem]) rfl ⟨rfl, ((Chg.refl _ _).alloc _).alloc _⟩
section
variable {w : World} {b off cap : Nat} {f : Nat → Nat} (h : BytesAt w b off 128 f) (hcap : 128 ≤ cap) (hN : cap ≤ 9223372036854775807)
include h hcap hN
theorem dec_sum (hp : ¬ pageOK f) : Calls Tryz.prog 116 #[.slice (some ⟨b, off, none⟩) 128 cap] w (DecBad w) := by
 have hW := (Chg.refl [] w).alloc (.cells #[.bool false, .slice none 0 0, .slice none 0 0] 107)
 have cO := open_wrong (h.chg hW (by simp)) hcap hN hp
 have HW := Lib.hid hW
 clear h hp hW
 go_enter Tryz.func116, Tryz.ntmps116
 go_wp2_with fail
 refine cO.mono ?_
 clear cO
 rintro e w1 ⟨rfl, hC1⟩
 obtain ⟨l1, hX⟩ := dbl hC1
 have HC1 := Lib.hid (HW.out.trans hC1)
 have x0 := cell_of_block hX 0
 have x1 := cell_of_block hX 1
 have x2 := cell_of_block hX 2
 have y0 := frozen_of_block hX 0
 have y1 := frozen_of_block hX 1
 have y2 := frozen_of_block hX 2
 simp only [List.getElem?_toArray, List.getElem?_cons_zero, List.getElem?_cons_succ] at x0 x1 x2
 clear hX hC1
 go_wp2_with fail
 exact bodyPost_ret (v := .tuple #[.agg #[.bool false, .slice none 0 0, .slice none 0 0], .int .i64 30]) (by simp [results, Tryz.results116, go_sem, l1, x0, x1, x2]) rfl ⟨rfl, (chg3 HC1.out _ _ _).alloc _⟩
theorem dec_kind (hp : pageOK f) (hk : f 0 ≠ 1 ∧ f 0 ≠ 2) : Calls Tryz.prog 116 #[.slice (some ⟨b, off, none⟩) 128 cap] w (DecBad w) := by
 have hW := (Chg.refl [] w).alloc (.cells #[.bool false, .slice none 0 0, .slice none 0 0] 107)
 have cO := open_right (h.chg hW (by simp)) hcap hN hp
 have k1 : ((f 0 : Int) != 1) = true := by simp; omega
 have k2 : ((f 0 : Int) != 2) = true := by simp; omega
 have HW := Lib.hid hW
 clear h hp hW hk
 go_enter Tryz.func116, Tryz.ntmps116
 go_wp2_with fail
 refine cO.mono ?_
 clear cO
 rintro e w1 ⟨g, c, rfl, r1, r2, r3, r4, r5, hC1⟩
 obtain ⟨l1, hX⟩ := dbl hC1
 have HC1 := Lib.hid (HW.out.trans hC1)
 have x0 := cell_of_block hX 0
 have x1 := cell_of_block hX 1
 have x2 := cell_of_block hX 2
 have y0 := frozen_of_block hX 0
 have y1 := frozen_of_block hX 1
 have y2 := frozen_of_block hX 2
 simp only [List.getElem?_toArray, List.getElem?_cons_zero, List.getElem?_cons_succ] at x0 x1 x2
 clear hX hC1 r5
 go_wp2_with fail
 exact bodyPost_ret (v := .tuple #[.agg #[.bool false, .slice none 0 0, .slice none 0 0], .int .i64 30]) (by simp [results, Tryz.results116, go_sem, l1, x0, x1, x2]) rfl ⟨rfl, (chg3 HC1.out _ _ _).alloc _⟩
theorem dec_many (hp : pageOK f) (hk : f 0 = 1 ∨ f 0 = 2) (hm : 7 < f 1) : Calls Tryz.prog 116 #[.slice (some ⟨b, off, none⟩) 128 cap] w (DecBad w) := by
 have hW := (Chg.refl [] w).alloc (.cells #[.bool false, .slice none 0 0, .slice none 0 0] 107)
 have cO := open_right (h.chg hW (by simp)) hcap hN hp
 have HW := Lib.hid hW
 have m1 : (7 : Int) < (f 1 : Int) := by omega
 clear h hp hW hm
 rcases hk with hk | hk
 case' inl => have k1 : ((f 0 : Int) != 1) = false := by simp; omega
 case' inr =>
  have k1 : ((f 0 : Int) != 1) = true := by simp; omega
  have k2 : ((f 0 : Int) != 2) = false := by simp; omega
 all_goals
  clear hk
  go_enter Tryz.func116, Tryz.ntmps116
  go_wp2_with fail
  refine cO.mono ?_
  clear cO
  rintro e w1 ⟨g, c, rfl, r1, r2, r3, r4, r5, hC1⟩
  obtain ⟨l1, hX⟩ := dbl hC1
  have HC1 := Lib.hid (HW.out.trans hC1)
  have x0 := cell_of_block hX 0
  have x1 := cell_of_block hX 1
  have x2 := cell_of_block hX 2
  have y0 := frozen_of_block hX 0
  have y1 := frozen_of_block hX 1
  have y2 := frozen_of_block hX 2
  have z0 := (r5 0 (by omega)).1
  simp only [List.getElem?_toArray, List.getElem?_cons_zero, List.getElem?_cons_succ, Nat.add_zero] at x0 x1 x2 z0
  clear hX hC1 r5
  go_wp2_with fail
  exact bodyPost_ret (v := .tuple #[.agg #[.bool false, .slice none 0 0, .slice none 0 0], .int .i64 30]) (by simp [results, Tryz.results116, go_sem, l1, x0, x1, x2]) rfl ⟨rfl, (chg3 HC1.out _ _ _).alloc _⟩
end
end Go.Proofs.YtkhcaclndepgbaaGreat
