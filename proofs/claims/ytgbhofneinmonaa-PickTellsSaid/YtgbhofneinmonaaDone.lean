/- catchmentlaw08.done: an operation on a tally. -/
import Derived.Test.YtgbhofneinmonaaAwk8
namespace Go.Proofs.Ytgbhofneinmonaa
open Go.RowKit
set_option linter.unusedVariables false
set_option linter.unusedSimpArgs false

def bIdx (B : Int) (n : Nat) : Nat := ((B.tmod n + n).tmod n).toNat
theorem bIdx_lt {B : Int} {n : Nat} (hn : 1 ≤ n) : bIdx B n < n := by
  have h1 := Int.lt_tmod_of_pos B (show (0 : Int) < n by omega)
  have h2 := Int.tmod_lt_of_pos B (show (0 : Int) < n by omega)
  have h3 := Int.tmod_lt_of_pos (B.tmod n + n) (show (0 : Int) < n by omega)
  have h4 := Int.tmod_nonneg (n : Int) (show 0 ≤ B.tmod n + n by omega)
  unfold bIdx
  omega
theorem bIdx_eq {B : Int} {n : Nat} (hn : 1 ≤ n) : (B.tmod n + n).tmod n = (bIdx B n : Int) := by
  have h1 := Int.lt_tmod_of_pos B (show (0 : Int) < n by omega)
  have h4 := Int.tmod_nonneg (n : Int) (show 0 ≤ B.tmod n + n by omega)
  unfold bIdx
  omega
theorem bIdx_wrap {B : Int} {n : Nat} (hn : 1 ≤ n) (hn2 : n ≤ 4096) : IntKind.i64.wrap (B.tmod n + n) = B.tmod n + n := by
  have h1 := Int.lt_tmod_of_pos B (show (0 : Int) < n by omega)
  have h2 := Int.tmod_lt_of_pos B (show (0 : Int) < n by omega)
  exact IntWalk.i64_in _ (by omega)

def doneT (d B : Int) (T : Tal) : Tal :=
  if d % 4 = 0 then up T (bIdx B T.n : Int) else if d % 4 = 1 then down T (bIdx B T.n : Int) else if d % 4 = 2 then T.keep else T.back

set_option maxRecDepth 20000 in
set_option maxHeartbeats 4000000 in
theorem done_at08 {w : World} {t bc bk : Nat} {T : Tal} (h : TallyAt w t bc bk T) (d B : Int) (hd : 0 ≤ d ∧ d ≤ 255) :
    Calls Try.prog 41 #[.pointer (some ⟨t, 0, none⟩), .agg #[.int .u8 d, .int .i64 B]] w fun e w' => e = .returned (.tuple #[]) ∧ TallyAt w' t bc bk (doneT d B T) ∧ Chg [t, bc, bk] w w' := by
  have n1 := h.n1
  have n2 := h.n2
  have hlt : bIdx B T.n < T.n := bIdx_lt n1
  obtain ⟨hd0, hd1⟩ := hd
  have HT := Lib.hid (show doneT d B T = (if d % 4 = 0 then up T (bIdx B T.n : Int) else if d % 4 = 1 then down T (bIdx B T.n : Int) else if d % 4 = 2 then T.keep else T.back) from rfl)
  have hz : (0 : Int) < (T.n : Int) := by omega
  have hz2 : ((T.n : Int) == 0) = false := by simp; omega
  have hc1 : Chg [] w (w.alloc (.cells #[.int .u8 d, .int .i64 B] 56)) := (Chg.refl _ _).alloc _
  have hT1 := h.chg hc1 (by simp) (by simp) (by simp)
  have x0 := new_block w (.cells #[.int .u8 d, .int .i64 B] 56)
  have y0 := cell_of_block x0 0
  have y1 := cell_of_block x0 1
  have e2 := bIdx_eq (B := B) n1
  have e1 := bIdx_wrap (B := B) n1 n2
  have HC := Lib.hid hc1
  generalize hb : bIdx B T.n = b at *
  clear hb x0 hc1
  have hmod : d % 4 = 0 ∨ d % 4 = 1 ∨ d % 4 = 2 ∨ d % 4 = 3 := by omega
  have hq : ∀ n : Nat, TallyAt ((w.alloc (.cells #[.int .u8 d, .int .i64 B] 56)).drewN n) t bc bk T := fun n => hT1.chg (Chg.drewN (Chg.refl [] _) n) (by simp) (by simp) (by simp)
  have HQ := Lib.hid hq
  clear hq
  go_enter Try.func41, Try.ntmps41
  go_wp2_with fail
  refine (blocks_at hT1).mono ?_
  rintro e w' ⟨rfl, rfl⟩
  go_wp2_with fail
  go_quiet ((go_at_call 31; exact quiet_left (blocks_at (HQ.out _))))
  have HTQ := Lib.hid (HQ.out nq)
  have HCQ := Lib.hid (HC.out.drewN nq)
  have z0 : ((w.alloc (.cells #[.int .u8 d, .int .i64 B] 56)).drewN nq).cell? ⟨w.heap.size, 0, none⟩ = some (.int .u8 d) := y0
  clear hT1 y1 e1 e2 hz hz2 HQ HC y0
  generalize (w.alloc (.cells #[.int .u8 d, .int .i64 B] 56)).drewN nq = W at *
  rcases hmod with hm | hm | hm | hm
  · have d0 : (d % 4 == 0) = true := by simp; omega
    have d1 : (d % 4 == 1) = false := by simp; omega
    have d2 : (d % 4 == 2) = false := by simp; omega
    have Hm := Lib.hid hm
    clear hm
    go_wp2_with fail
    refine (up_at HTQ.out (b : Int)).mono ?_
    rintro e w2 ⟨rfl, hT2, hC2⟩
    go_wp2_with fail
    go_end0
    exact ⟨rfl, by rw [HT.out, if_pos Hm.out]; exact hT2, (HCQ.out.mono (by simp)).trans (hC2.mono (by simp))⟩
  · have d0 : (d % 4 == 0) = false := by simp; omega
    have d1 : (d % 4 == 1) = true := by simp; omega
    have d2 : (d % 4 == 2) = false := by simp; omega
    have Hm := Lib.hid hm
    clear hm
    go_wp2_with fail
    refine (down_at HTQ.out (b : Int)).mono ?_
    rintro e w2 ⟨rfl, hT2, hC2⟩
    go_wp2_with fail
    go_end0
    exact ⟨rfl, by rw [HT.out, if_neg (by rw [Hm.out]; decide), if_pos Hm.out]; exact hT2, (HCQ.out.mono (by simp)).trans (hC2.mono (by simp))⟩
  · have d0 : (d % 4 == 0) = false := by simp; omega
    have d1 : (d % 4 == 1) = false := by simp; omega
    have d2 : (d % 4 == 2) = true := by simp; omega
    have Hm := Lib.hid hm
    clear hm
    go_wp2_with fail
    refine (keep_at HTQ.out).mono ?_
    rintro e w2 ⟨rfl, hT2, hC2⟩
    go_wp2_with fail
    go_end0
    exact ⟨rfl, by rw [HT.out, if_neg (by rw [Hm.out]; decide), if_neg (by rw [Hm.out]; decide), if_pos Hm.out]; exact hT2, (HCQ.out.mono (by simp)).trans (hC2.mono (by simp))⟩
  · have d0 : (d % 4 == 0) = false := by simp; omega
    have d1 : (d % 4 == 1) = false := by simp; omega
    have d2 : (d % 4 == 2) = false := by simp; omega
    have Hm := Lib.hid hm
    clear hm
    go_wp2_with fail
    refine (back_at HTQ.out).mono ?_
    rintro e w2 ⟨rfl, hT2, hC2⟩
    go_wp2_with fail
    go_end0
    exact ⟨rfl, by rw [HT.out, if_neg (by rw [Hm.out]; decide), if_neg (by rw [Hm.out]; decide), if_neg (by rw [Hm.out]; decide)]; exact hT2, (HCQ.out.mono (by simp)).trans (hC2.mono (by simp))⟩

end Go.Proofs.Ytgbhofneinmonaa
