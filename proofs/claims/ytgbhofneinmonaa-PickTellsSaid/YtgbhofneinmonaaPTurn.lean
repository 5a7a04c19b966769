/- catchmentlaw09.PickTurn: the walk. -/
import Derived.Test.YtgbhofneinmonaaAwk9
import Derived.Test.YtgbhofneinmonaaRow
namespace Go.Proofs.Ytgbhofneinmonaa
open Go.RowKit

theorem new_free (n b : Nat) : (Tal.new n).free b = true := by simp [Tal.free, Tal.new]
theorem set_back (T : Tal) (b : Nat) (h : T.now b = 0) : (T.set b 1).set b 0 = T := by
  unfold Tal.set
  congr 1
  funext i
  simp only
  split
  · rename_i e; subst e; exact h.symm
  · rfl

theorem take_new {n f x a : Nat} (hx : x < n) : takeR (Tal.new n) ⟨f, x, a⟩ = some x := by
  unfold takeR
  have : firstFree (Tal.new n).free x ((Tal.new n).n - x) = some x := firstFree_hit hx (new_free n x)
  show (match firstFree (Tal.new n).free x ((Tal.new n).n - x) with | some b => some b | none => _) = _
  rw [this]

theorem turn_next {n f i : Nat} (hf : f < n) : (if f + i % (n - f) + 1 = n then f else f + i % (n - f) + 1) = f + (i + 1) % (n - f) := by
  have hm : 0 < n - f := by omega
  have h1 := Nat.mod_lt i hm
  rw [Nat.add_mod i 1]
  by_cases e : f + i % (n - f) + 1 = n
  · rw [if_pos e]
    by_cases e1 : n - f = 1
    · rw [e1]; simp [Nat.mod_one]
    · rw [Nat.mod_eq_of_lt (show 1 < n - f by omega), show i % (n - f) + 1 = n - f by omega, Nat.mod_self]
      rfl
  · rw [if_neg e]
    by_cases e1 : n - f = 1
    · omega
    · rw [Nat.mod_eq_of_lt (show 1 < n - f by omega), Nat.mod_eq_of_lt (show i % (n - f) + 1 < n - f by omega)]
      omega

/-- One round: what Take hands out, and Down takes back. -/
theorem turn_take {w : World} {p t bc bk n f i : Nat} (hf : f < n) (h : PT w p t bc bk ⟨f, f + i % (n - f), 0⟩ (Tal.new n)) :
    Calls Try.prog 17 #[.pointer (some ⟨p, 0, none⟩)] w fun e w' => e = .returned (.tuple #[.int .i64 ((f + i % (n - f) : Nat) : Int), .int .i64 0]) ∧
      PT w' p t bc bk ⟨f, f + (i + 1) % (n - f), 0⟩ ((Tal.new n).set (f + i % (n - f)) 1) ∧ Chg [p, t, bc, bk] w w' := by
  have hm := Nat.mod_lt i (show 0 < n - f by omega)
  have hr := take_new (n := n) (f := f) (a := 0) (show f + i % (n - f) < n by omega)
  refine h.take.mono fun e w' ⟨he, hp, hc⟩ => ⟨?_, ?_, hc⟩
  · rw [he]; simp [takeB, takeE, hr]
  · have e1 : takeT (Tal.new n) ⟨f, f + i % (n - f), 0⟩ = (Tal.new n).set (f + i % (n - f)) 1 := by simp [takeT, hr]
    have e2 : takeK (Tal.new n) ⟨f, f + i % (n - f), 0⟩ = ⟨f, f + (i + 1) % (n - f), 0⟩ := by
      simp only [takeK, hr]
      show (⟨f, if f + i % (n - f) + 1 = n then f else f + i % (n - f) + 1, 0⟩ : Pk) = _
      rw [turn_next hf]
    rw [e1, e2] at hp
    exact hp
theorem turn_down {w : World} {p t bc bk n b : Nat} {K : Pk} (hb : b < n) (h : PT w p t bc bk K ((Tal.new n).set b 1)) :
    Calls Try.prog 18 #[.pointer (some ⟨t, 0, none⟩), .int .i64 (b : Int)] w fun e w' => e = .returned (.int .i64 0) ∧ PT w' p t bc bk K (Tal.new n) ∧ Chg [p, t, bc, bk] w w' := by
  have h0 : hasB ((Tal.new n).set b 1) (b : Int) = true := (hasB_iff _ _).2 ⟨by omega, by show (b : Int) < (n : Int); omega⟩
  have h1 : ((Tal.new n).set b 1).now b = 1 := by simp [Tal.set]
  have e1 : downE ((Tal.new n).set b 1) (b : Int) = 0 := by simp [downE, h0, h1]
  have e2 : down ((Tal.new n).set b 1) (b : Int) = Tal.new n := by
    simp only [down, e1, if_true, Int.toNat_natCast, h1]
    exact set_back _ _ rfl
  refine (h.down (b : Int)).mono fun e w' ⟨he, hp, hc⟩ => ⟨by rw [he, e1], by rw [e2] at hp; exact hp, hc⟩

theorem roomI_new (n f : Nat) : roomI (Tal.new n) f = (n : Int) - f := by
  unfold roomI
  rw [new_frees, cnt_all (p := (Tal.new n).free) (n := f) fun i _ => new_free n i]

set_option maxRecDepth 20000 in
set_option maxHeartbeats 2000000 in
theorem pickTurn_walk' (x y : Int) (w : World) (hx : 0 ≤ x ∧ x ≤ 255) (hy : 0 ≤ y ∧ y ≤ 255) :
    Calls Try.prog 3 #[.int .u8 x, .int .u8 y] w fun e w' => e = .returned (.bool true) ∧ Chg [] w w' := by
  obtain ⟨hx0, hx1⟩ := hx
  obtain ⟨hy0, hy1⟩ := hy
  go_enter Try.func3, Try.ntmps3
  go_wp2_with fail
  have hn1 : 2 ≤ 2 + x % 59 := by omega
  have hn2 : 2 + x % 59 ≤ 60 := by omega
  have hf0 : 0 ≤ y % (2 + x % 59) := Int.emod_nonneg _ (by omega)
  have hf1 : y % (2 + x % 59) < 2 + x % 59 := Int.emod_lt_of_pos _ (by omega)
  generalize y % (2 + x % 59) = F at *
  generalize 2 + x % 59 = N at *
  obtain ⟨n, rfl⟩ := Int.eq_ofNat_of_zero_le (show 0 ≤ N by omega)
  obtain ⟨f, rfl⟩ := Int.eq_ofNat_of_zero_le hf0
  have hf : f < n := by omega
  refine (tnew_ex n _ (by omega) (by omega)).mono ?_
  rintro e w1 ⟨t, bc, bk, rfl, hT, hC1, l1, l2, l3⟩
  go_wp2_with fail
  refine (pnew_ex hT f (by omega)).mono ?_
  rintro e w2 ⟨p, rfl, hP, hC2, l4⟩
  have L : w.heap.size ≤ p ∧ w.heap.size ≤ t ∧ w.heap.size ≤ bc ∧ w.heap.size ≤ bk := ⟨Nat.le_trans hC1.size l4, l1, l2, l3⟩
  have HC := Lib.hid (hC1.trans hC2)
  clear hT hC1 hC2 l1 l2 l3 l4
  go_wp2_with fail
  go_loopw [43] (fun s wr => ∃ i : Nat, i ≤ 2 * (n - f) ∧ s = .int .i64 (i : Int) ∧ PT wr p t bc bk ⟨f, f + i % (n - f), 0⟩ (Tal.new n) ∧ Chg [] w wr) (fun s _ => 2 * (n - f) - (intOf s).toNat)
  case atStart => exact ⟨0, Nat.zero_le _, rfl, by simpa using hP, HC.out⟩
  case round =>
    obtain ⟨i, hi, rfl, hPr, hCr⟩ := hrel
    have HCr := Lib.hid hCr
    clear hCr hP
    by_cases hlt : i < 2 * (n - f)
    · have hm := Nat.mod_lt i (show 0 < n - f by omega)
      have hT := turn_take hf hPr
      have hei : (i : Int) % ((n : Int) - f) = ((i % (n - f) : Nat) : Int) := by rw [Int.natCast_emod, Int.natCast_sub (by omega)]
      obtain ⟨r, hr⟩ : ∃ r, i % (n - f) = r := ⟨_, rfl⟩
      rw [hr] at hT hei hm
      obtain ⟨b, hb⟩ : ∃ b, f + r = b := ⟨_, rfl⟩
      rw [hb] at hT
      have hr0 : 0 ≤ (i : Int) % ((n : Int) - f) := by omega
      have hr1 : (i : Int) % ((n : Int) - f) < n := by omega
      have hbn : b < n := by omega
      have e1 : (f : Int) + (i : Int) % ((n : Int) - f) = b := by omega
      clear hr hb hei hm hPr
      go_wp2_with fail
      refine hT.mono ?_
      rintro e w3 ⟨rfl, hP3, hC3⟩
      have HC3 := Lib.hid (chg_own HCr.out hC3 L)
      clear hC3 hT
      go_wp2_with fail
      refine (turn_down hbn hP3).mono ?_
      rintro e w4 ⟨rfl, hP4, hC4⟩
      have HC4 := Lib.hid (chg_own HC3.out hC4 L)
      clear hC4 hP3
      go_wp2_with fail
      go_roundw
      case rel => exact ⟨i + 1, by omega, by go_num, hP4, HC4.out⟩
      case measure => simp [intOf]; omega
    · obtain rfl : i = 2 * (n - f) := by omega
      have hroom := hPr.room
      rw [roomI_new] at hroom
      go_wp2_with fail
      refine hroom.mono ?_
      rintro e w' ⟨rfl, rfl⟩
      go_wp2_with fail
      refine (awake09 _).mono ?_
      rintro e w5 ⟨rfl, hC5⟩
      go_wp2_with fail
      go_ret
      exact ⟨rfl, HCr.out.trans hC5⟩

theorem pickTurn_walk (x y : Int) (w : World) (hx : (Lit.int .u8 x).wf = true) (hy : (Lit.int .u8 y).wf = true) :
    Calls Try.prog 3 #[.int .u8 x, .int .u8 y] w fun e w' => e = .returned (.bool true) ∧ Below w.heap.size w w' :=
  (pickTurn_walk' x y w (bd_u8 hx) (bd_u8 hy)).mono fun _ _ ⟨he, hc⟩ => ⟨he, hc.below (by simp)⟩

end Go.Proofs.Ytgbhofneinmonaa
