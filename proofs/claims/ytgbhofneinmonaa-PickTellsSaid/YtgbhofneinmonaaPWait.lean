/- Taking all blocks, one behind the other; catchmentlaw09.PickWaits: the walk. -/
import Derived.Test.YtgbhofneinmonaaPTurn
namespace Go.Proofs.Ytgbhofneinmonaa
open Go.RowKit

def fillT (n i : Nat) : Tal := ⟨n, fun b => if b < i then 1 else 0, fun _ => 0⟩
def fillK (n i a : Nat) : Pk := ⟨0, if i = n then 0 else i, a⟩

theorem fillT_zero (n : Nat) : fillT n 0 = Tal.new n := by
  unfold fillT Tal.new
  congr 1
theorem fillT_succ (n i : Nat) : (fillT n i).set i 1 = fillT n (i + 1) := by
  unfold fillT Tal.set
  congr 1
  funext b
  simp only
  by_cases h : b = i
  · subst h; simp
  · rw [if_neg h]
    by_cases h2 : b < i
    · rw [if_pos h2, if_pos (by omega)]
    · rw [if_neg h2, if_neg (by omega)]
theorem fillT_free {n i b : Nat} : (fillT n i).free b = decide (i ≤ b) := by
  unfold fillT Tal.free
  by_cases h : b < i
  · simp [h]
  · simp [h]; omega

theorem firstFree_allfalse {p : Nat → Bool} : ∀ {c lo : Nat}, (∀ i, lo ≤ i → i < lo + c → p i = false) → firstFree p lo c = none
  | 0, _, _ => rfl
  | c + 1, lo, h => by
    unfold firstFree
    rw [h lo (Nat.le_refl _) (by omega)]
    exact firstFree_allfalse fun i h1 h2 => h i (by omega) (by omega)

theorem takeR_none {T : Tal} {K : Pk} (hn : K.next ≤ T.n) (h : ∀ i, i < T.n → T.free i = false) : takeR T K = none := by
  unfold takeR
  rw [firstFree_allfalse (fun i _ h2 => h i (by omega))]
  exact firstFree_allfalse (fun i _ h2 => h i (by omega))

theorem fill_takeR {n i a : Nat} (hi : i < n) : takeR (fillT n i) (fillK n i a) = some i := by
  unfold takeR fillK
  rw [if_neg (by omega)]
  have : firstFree (fillT n i).free i ((fillT n i).n - i) = some i := firstFree_hit hi (by rw [fillT_free]; simp)
  simp only
  rw [this]

theorem fill_take {w : World} {p t bc bk n i a : Nat} (hi : i < n) (h : PT w p t bc bk (fillK n i a) (fillT n i)) :
    Calls Try.prog 17 #[.pointer (some ⟨p, 0, none⟩)] w fun e w' => e = .returned (.tuple #[.int .i64 (i : Int), .int .i64 0]) ∧
      PT w' p t bc bk (fillK n (i + 1) a) (fillT n (i + 1)) ∧ Chg [p, t, bc, bk] w w' := by
  have hr := fill_takeR (a := a) hi
  refine h.take.mono fun e w' ⟨he, hp, hc⟩ => ⟨?_, ?_, hc⟩
  · rw [he]; simp [takeB, takeE, hr]
  · have e1 : takeT (fillT n i) (fillK n i a) = fillT n (i + 1) := by simp only [takeT, hr]; exact fillT_succ n i
    have e2 : takeK (fillT n i) (fillK n i a) = fillK n (i + 1) a := by
      simp only [takeK, hr]
      show (⟨0, if i + 1 = n then 0 else i + 1, a⟩ : Pk) = ⟨0, if i + 1 = n then 0 else i + 1, a⟩
      rfl
    rw [e1, e2] at hp
    exact hp

theorem full_take {w : World} {p t bc bk : Nat} {K : Pk} {T : Tal} (hf : ∀ i, i < T.n → T.free i = false) (h : PT w p t bc bk K T) :
    Calls Try.prog 17 #[.pointer (some ⟨p, 0, none⟩)] w fun e w' => e = .returned (.tuple #[.int .i64 0, .int .i64 90]) ∧
      PT w' p t bc bk K T ∧ Chg [p, t, bc, bk] w w' := by
  have hr := takeR_none h.n hf
  refine h.take.mono fun e w' ⟨he, hp, hc⟩ => ⟨by rw [he]; simp [takeB, takeE, hr], ?_, hc⟩
  have e1 : takeT T K = T := by simp [takeT, hr]
  have e2 : takeK T K = K := by simp [takeK, hr]
  rw [e1, e2] at hp
  exact hp

/-- What was kept with a count, let go below j. -/
def letT (n j : Nat) : Tal := ⟨n, fun b => if j ≤ b ∧ b < n then 1 else 0, fun b => if b < n then 1 else 0⟩
theorem fill_keep (n : Nat) : (fillT n n).keep = letT n 0 := by
  unfold fillT Tal.keep letT
  simp
theorem let_down {w : World} {p t bc bk n j : Nat} {K : Pk} (hj : j < n) (h : PT w p t bc bk K (letT n j)) :
    Calls Try.prog 18 #[.pointer (some ⟨t, 0, none⟩), .int .i64 (j : Int)] w fun e w' => e = .returned (.int .i64 0) ∧ PT w' p t bc bk K (letT n (j + 1)) ∧ Chg [p, t, bc, bk] w w' := by
  have h0 : hasB (letT n j) (j : Int) = true := (hasB_iff _ _).2 ⟨by omega, by show (j : Int) < (n : Int); omega⟩
  have h1 : (letT n j).now j = 1 := by simp [letT, hj]
  have e1 : downE (letT n j) (j : Int) = 0 := by simp [downE, h0, h1]
  have e2 : down (letT n j) (j : Int) = letT n (j + 1) := by
    simp only [down, e1, if_true, Int.toNat_natCast, h1]
    unfold Tal.set letT
    congr 1
    funext b
    simp only
    by_cases hb : b = j
    · subst hb; simp; omega
    · rw [if_neg hb]
      by_cases h2 : j ≤ b ∧ b < n
      · rw [if_pos h2, if_pos (by omega)]
      · rw [if_neg h2, if_neg (by omega)]
  refine (h.down (j : Int)).mono fun e w' ⟨he, hp, hc⟩ => ⟨by rw [he, e1], by rw [e2] at hp; exact hp, hc⟩
theorem letT_free {n j b : Nat} (hb : b < n) : (letT n j).free b = false := by simp [letT, Tal.free, hb]
theorem letT_frees (n j : Nat) : (letT n j).frees = 0 := cnt_zero fun _ hb => letT_free hb
theorem letT_waits (n : Nat) : (letT n n).waits = n := cnt_all fun b hb => by
  have hb' : b < n := hb
  simp only [letT, Tal.waitB, hb', if_true]
  rw [if_neg (by omega)]; rfl
theorem letT_keep_free {n b : Nat} (_hb : b < n) : (letT n n).keep.free b = true := by
  simp only [letT, Tal.keep, Tal.free]
  rw [if_neg (by omega)]; rfl
theorem letT_keep_takeR {n : Nat} (hn : 0 < n) (a : Nat) : takeR (letT n n).keep ⟨0, 0, a⟩ = some 0 := by
  unfold takeR
  have : firstFree (letT n n).keep.free 0 ((letT n n).keep.n - 0) = some 0 := firstFree_hit hn (letT_keep_free hn)
  simp only
  rw [this]
theorem letT_keep_room {n : Nat} (hn : 0 < n) : roomI ((letT n n).keep.set 0 1) 0 = (n : Int) - 1 := by
  have h1 := frees_set (letT n n).keep 1 (b := 0) hn
  have h2 : (letT n n).keep.frees = n := cnt_all fun b hb => letT_keep_free hb
  rw [letT_keep_free hn, h2] at h1
  have h3 : ((letT n n).keep.set 0 1).free 0 = false := by simp [Tal.free, Tal.set]
  rw [h3] at h1
  simp at h1
  unfold roomI
  simp only [cnt]
  omega
theorem let_room {w : World} {p t bc bk n a : Nat} (h : PT w p t bc bk ⟨0, 0, a⟩ (letT n n)) :
    Calls Try.prog 19 #[.pointer (some ⟨p, 0, none⟩)] w fun e w' => e = .returned (.int .i64 0) ∧ w = w' := by
  have := h.room
  have e : roomI (letT n n) 0 = 0 := by unfold roomI; rw [letT_frees]; rfl
  rw [e] at this
  exact this
theorem let_waits {w : World} {p t bc bk n : Nat} {K : Pk} (h : PT w p t bc bk K (letT n n)) :
    Calls Try.prog 29 #[.pointer (some ⟨t, 0, none⟩)] w fun e w' => e = .returned (.int .i64 (n : Int)) ∧ w = w' := by
  have := waits_at h.ht
  rw [letT_waits] at this
  exact this
theorem let_keep_take {w : World} {p t bc bk n a : Nat} (hn : 1 < n) (h : PT w p t bc bk ⟨0, 0, a⟩ (letT n n).keep) :
    Calls Try.prog 17 #[.pointer (some ⟨p, 0, none⟩)] w fun e w' => e = .returned (.tuple #[.int .i64 0, .int .i64 0]) ∧
      PT w' p t bc bk ⟨0, 1, a⟩ ((letT n n).keep.set 0 1) ∧ Chg [p, t, bc, bk] w w' := by
  have hr := letT_keep_takeR (show 0 < n by omega) a
  refine h.take.mono fun e w' ⟨he, hp, hc⟩ => ⟨by rw [he]; simp [takeB, takeE, hr], ?_, hc⟩
  have e1 : takeT (letT n n).keep ⟨0, 0, a⟩ = (letT n n).keep.set 0 1 := by simp [takeT, hr]
  have e2 : takeK (letT n n).keep ⟨0, 0, a⟩ = ⟨0, 1, a⟩ := by
    simp only [takeK, hr]
    have hne : ¬ 0 + 1 = (letT n n).keep.n := by show ¬ 0 + 1 = n; omega
    rw [if_neg hne]
  rw [e1, e2] at hp
  exact hp

set_option maxRecDepth 20000 in
set_option maxHeartbeats 4000000 in
theorem pickWaits_walk (x : Int) (w : World) (hx : (Lit.int .u8 x).wf = true) :
    Calls Try.prog 7 #[.int .u8 x] w fun e w' => e = .returned (.bool true) ∧ Below w.heap.size w w' := by
  obtain ⟨hx0, hx1⟩ := bd_u8 hx
  clear hx
  go_enter Try.func7, Try.ntmps7
  go_wp2_with fail
  have hn1 : 2 ≤ 2 + x % 59 := by omega
  have hn2 : 2 + x % 59 ≤ 60 := by omega
  generalize 2 + x % 59 = N at *
  obtain ⟨n, rfl⟩ := Int.eq_ofNat_of_zero_le (show 0 ≤ N by omega)
  refine (tnew_ex n _ (by omega) (by omega)).mono ?_
  rintro e w1 ⟨t, bc, bk, rfl, hT, hC1, l1, l2, l3⟩
  go_wp2_with fail
  refine (pnew_ex hT 0 (by omega)).mono ?_
  rintro e w2 ⟨p, rfl, hP, hC2, l4⟩
  have L : w.heap.size ≤ p ∧ w.heap.size ≤ t ∧ w.heap.size ≤ bc ∧ w.heap.size ≤ bk := ⟨Nat.le_trans hC1.size l4, l1, l2, l3⟩
  have HC := Lib.hid (hC1.trans hC2)
  clear hT hC1 hC2 l1 l2 l3 l4
  go_wp2_with fail
  go_loopw [33] (fun s wr => ∃ i : Nat, i ≤ n ∧ s = .int .i64 (i : Int) ∧ PT wr p t bc bk (fillK n i 0) (fillT n i) ∧ Chg [] w wr) (fun s _ => n - (intOf s).toNat)
  case atStart => exact ⟨0, Nat.zero_le _, rfl, by rw [fillT_zero, fillK, if_neg (by omega)]; exact hP, HC.out⟩
  case round =>
    obtain ⟨i, hi, rfl, hPr, hCr⟩ := hrel
    have HCr := Lib.hid hCr
    clear hCr hP HC
    by_cases hlt : i < n
    · go_wp2_with fail
      refine (fill_take hlt hPr).mono ?_
      rintro e w3 ⟨rfl, hP3, hC3⟩
      have HC3 := Lib.hid (chg_own HCr.out hC3 L)
      clear hC3
      go_wp2_with fail
      go_roundw
      case rel => exact ⟨i + 1, by omega, by go_num, hP3, HC3.out⟩
      case measure => simp [intOf]; omega
    · obtain rfl : i = n := by omega
      clear hlt hi
      have hk : fillK i i 0 = ⟨0, 0, 0⟩ := by simp [fillK]
      rw [hk] at hPr
      clear hk
      go_wp2_with fail
      refine (hPr.keep).mono ?_
      rw [fill_keep]
      rintro e w3 ⟨rfl, hP3, hC3⟩
      have HC3 := Lib.hid (chg_own HCr.out hC3 L)
      clear hC3 hPr HCr
      go_wp2_with fail
      obtain ⟨n, hni⟩ : ∃ n, i = n := ⟨i, rfl⟩
      subst hni
      go_loopw [41] (fun s wr => ∃ j : Nat, j ≤ i ∧ s = .int .i64 (j : Int) ∧ PT wr p t bc bk ⟨0, 0, 0⟩ (letT i j) ∧ Chg [] w wr) (fun s _ => i - (intOf s).toNat)
      case atStart => exact ⟨0, Nat.zero_le _, rfl, hP3, HC3.out⟩
      case round =>
        obtain ⟨j, hj, rfl, hPr, hCr⟩ := hrel
        have HCr := Lib.hid hCr
        clear hCr hP3 HC3
        by_cases hlt : j < i
        · go_wp2_with fail
          refine (let_down hlt hPr).mono ?_
          rintro e w4 ⟨rfl, hP4, hC4⟩
          have HC4 := Lib.hid (chg_own HCr.out hC4 L)
          clear hC4
          go_wp2_with fail
          go_roundw
          case rel => exact ⟨j + 1, by omega, by go_num, hP4, HC4.out⟩
          case measure => simp [intOf]; omega
        · obtain rfl : j = i := by omega
          clear hlt hj
          go_wp2_with fail
          refine (full_take (fun _ hb => letT_free hb) hPr).mono ?_
          clear hPr
          rintro e w4 ⟨rfl, hP4, hC4⟩
          have HC4 := Lib.hid (chg_own HCr.out hC4 L)
          clear hC4
          go_wp2_with fail
          refine (let_room hP4).mono ?_
          rintro e w' ⟨rfl, rfl⟩
          go_wp2_with fail
          refine (let_waits hP4).mono ?_
          rintro e w' ⟨rfl, rfl⟩
          go_wp2_with fail
          refine (hP4.keep).mono ?_
          clear hP4
          rintro e w5 ⟨rfl, hP5, hC5⟩
          have HC5 := Lib.hid (chg_own HC4.out hC5 L)
          clear hC5
          go_wp2_with fail
          refine (let_keep_take (by omega) hP5).mono ?_
          clear hP5
          rintro e w6 ⟨rfl, hP6, hC6⟩
          have HC6 := Lib.hid (chg_own HC5.out hC6 L)
          clear hC6
          have hroom := hP6.room
          rw [letT_keep_room (by omega)] at hroom
          go_wp2_with fail
          refine hroom.mono ?_
          rintro e w' ⟨rfl, rfl⟩
          go_wp2_with fail
          refine (awake09 _).mono ?_
          rintro e w7 ⟨rfl, hC7⟩
          go_wp2_with fail
          go_ret
          exact ⟨rfl, (HC6.out.trans hC7).below (by simp)⟩

end Go.Proofs.Ytgbhofneinmonaa
