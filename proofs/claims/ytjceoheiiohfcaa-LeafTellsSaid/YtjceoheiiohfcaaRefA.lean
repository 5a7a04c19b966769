/- The reference of octets: plus, Sum, Number, Bytes. -/
import Derived.Test.YtjceoheiiohfcaaPag
namespace Go.Proofs.Ytjceoheiiohfcaa
open Go.RowKit
set_option linter.unusedVariables false
set_option linter.unusedSimpArgs false

def addM (a b : Nat) : Nat := (a + b) % 4294967291
def mulM (j s : Nat) : Nat := j * s % 4294967291
theorem addM_lt (a b : Nat) : addM a b < 4294967291 := Nat.mod_lt _ (by omega)
theorem mulM_lt (a b : Nat) : mulM a b < 4294967291 := Nat.mod_lt _ (by omega)
theorem mul_step (s k : Nat) : addM (mulM k s) s = mulM (k + 1) s := by
  unfold addM mulM
  rw [Nat.add_mul, Nat.one_mul, Nat.mod_add_mod]
theorem mul_zero' (s : Nat) : mulM 0 s = 0 := by unfold mulM; rw [Nat.zero_mul, Nat.zero_mod]
theorem sum_step (s x : Nat) : addM (addM (mulM 31 s) x) 7 = (31 * s + x + 7) % 4294967291 := by
  unfold addM mulM
  omega

set_option maxRecDepth 20000 in
set_option maxHeartbeats 1000000 in
theorem plus_at (a b : Nat) (ha : a < 4294967291) (hb : b < 4294967291) (w : World) :
    Calls Try.prog 42 #[.int .u32 (a : Int), .int .u32 (b : Int)] w fun e w' => e = .returned (.int .u32 (addM a b : Int)) ∧ w = w' := by
  have e0 : IntKind.u32.wrap (4294967291 - (b : Int)) = 4294967291 - (b : Int) := by rw [IntKind.wrap_u32]; omega
  by_cases h : 4294967291 - (b : Int) ≤ (a : Int)
  · have E := Lib.hid (show (a : Int) - (4294967291 - (b : Int)) = (addM a b : Int) by unfold addM; omega)
    have e1 : IntKind.u32.wrap ((a : Int) - (4294967291 - (b : Int))) = (a : Int) - (4294967291 - (b : Int)) := by rw [IntKind.wrap_u32]; omega
    go_enter Try.func42, Try.ntmps42
    go_wp2_with fail
    go_ret
    exact ⟨by rw [← E.out]; rfl, rfl⟩
  · have E := Lib.hid (show (a : Int) + (b : Int) = (addM a b : Int) by unfold addM; omega)
    have e1 : IntKind.u32.wrap ((a : Int) + (b : Int)) = (a : Int) + (b : Int) := by rw [IntKind.wrap_u32]; omega
    have h' : (a : Int) < 4294967291 - (b : Int) := by omega
    go_enter Try.func42, Try.ntmps42
    go_wp2_with fail
    go_ret
    exact ⟨by rw [← E.out]; rfl, rfl⟩

set_option maxRecDepth 20000 in
set_option maxHeartbeats 2000000 in
theorem rsum_at {w : World} {b off len cap : Nat} {f : Nat → Nat} (hb : BytesAt w b off len f) (hN : len ≤ 9007199254740992) :
    Calls Try.prog 38 #[.slice (some ⟨b, off, none⟩) len cap] w fun e w' => e = .returned (.int .u32 (sumB f len : Int)) ∧ w = w' := by
  have HB := Lib.hid hb
  clear hb
  go_enter Try.func38, Try.ntmps38
  go_wp2_with fail
  go_loop [3, 4] (fun s i => ∃ k : Nat, k ≤ len ∧ i = .int .i64 (k : Int) ∧ s = .int .u32 (sumB f k : Int)) (fun _ i => len - (intOf i).toNat)
  case atStart => exact ⟨0, Nat.zero_le _, rfl, rfl⟩
  case round =>
    obtain ⟨k, hk, rfl, rfl⟩ := hrel
    have hs := sumB_lt f k
    by_cases hlk : k < len
    · obtain ⟨c, hf⟩ := HB.out k hlk
      have i0 : (0 : Int) ≤ (k : Int) := by omega
      have i1 : (k : Int) < (len : Int) := by omega
      have E := Lib.hid (show sumB f (k + 1) = (31 * sumB f k + f k + 7) % 4294967291 from rfl)
      generalize sumB f k = S at *
      go_wp2_with fail
      go_loop [5, 6] (fun t q => ∃ j : Nat, j ≤ 31 ∧ q = .int .i64 (j : Int) ∧ t = .int .u32 (mulM j S : Int)) (fun _ q => 31 - (intOf q).toNat)
      case atStart => exact ⟨0, Nat.zero_le _, rfl, by rw [mul_zero']; rfl⟩
      case round =>
        obtain ⟨j, hj, rfl, rfl⟩ := hrel
        by_cases hlj : j < 31
        · have j1 : (j : Int) < 31 := by omega
          have cp := plus_at (mulM j S) S (mulM_lt _ _) hs w
          rw [mul_step] at cp
          have hT := mulM_lt j S
          obtain ⟨T', hT'⟩ : ∃ T', mulM (j + 1) S = T' := ⟨_, rfl⟩
          rw [hT'] at cp
          have HT' := Lib.hid hT'
          clear hT'
          generalize mulM j S = T at *
          go_wp2_with fail
          refine cp.mono ?_
          rintro e w' ⟨rfl, rfl⟩
          go_wp2_with fail
          go_round
          case rel => exact ⟨j + 1, by omega, by go_num, by rw [HT'.out]⟩
          case measure => simp [intOf]; omega
        · obtain rfl : j = 31 := by omega
          have c1 := plus_at (mulM 31 S) (f k) (mulM_lt _ _) (by omega) w
          have c2 := plus_at (addM (mulM 31 S) (f k)) 7 (addM_lt _ _) (by omega) w
          rw [sum_step, ← E.out] at c2
          have hlt := sumB_lt f (k + 1)
          generalize mulM 31 S = T at *
          generalize addM T (f k) = U at *
          obtain ⟨V, hV⟩ : ∃ V, sumB f (k + 1) = V := ⟨_, rfl⟩
          rw [hV] at c2 hlt
          have HV := Lib.hid hV
          clear hV
          go_wp2_with fail
          refine c1.mono ?_
          rintro e w' ⟨rfl, rfl⟩
          go_wp2_with fail
          refine c2.mono ?_
          rintro e w' ⟨rfl, rfl⟩
          go_wp2_with fail
          go_round
          case rel => exact ⟨k + 1, by omega, by go_num, by rw [HV.out]⟩
          case measure => simp [intOf]; omega
    · obtain rfl : k = len := by omega
      go_wp2_with fail
      go_ret
      exact ⟨by congr 1, rfl⟩

set_option maxRecDepth 20000 in
set_option maxHeartbeats 2000000 in
theorem number_at {w : World} {b off len cap : Nat} {f : Nat → Nat} (hb : BytesAt w b off len f) (hN : len ≤ 8) :
    Calls Try.prog 31 #[.slice (some ⟨b, off, none⟩) len cap] w fun e w' => e = .returned (.int .u64 (num f 0 len : Int)) ∧ w = w' := by
  have HB := Lib.hid hb
  clear hb
  go_enter Try.func31, Try.ntmps31
  go_wp2_with fail
  go_loop [3, 4] (fun s i => ∃ k : Nat, k ≤ len ∧ i = .int .i64 (k : Int) ∧ s = .int .u64 (num f 0 k : Int)) (fun _ i => len - (intOf i).toNat)
  case atStart => exact ⟨0, Nat.zero_le _, rfl, rfl⟩
  case round =>
    obtain ⟨k, hk, rfl, rfl⟩ := hrel
    by_cases hlk : k < len
    · obtain ⟨c, hf⟩ := HB.out k hlk
      have i0 : (0 : Int) ≤ (k : Int) := by omega
      have i1 : (k : Int) < (len : Int) := by omega
      have hl : num f 0 k < 256 ^ k := num_lt fun i hi => by rw [Nat.zero_add]; exact (HB.out i (by omega)).2
      have hp : 256 ^ k ≤ 256 ^ 7 := Nat.pow_le_pow_right (by omega) (by omega)
      rw [show (256 : Nat) ^ 7 = 72057594037927936 by decide] at hp
      have E := Lib.hid ((show num f 0 (k + 1) = num f 0 k * 256 + f (0 + k) from rfl).trans (by rw [Nat.zero_add]))
      generalize num f 0 k = S at *
      have hS : (S : Int) < 72057594037927936 := by omega
      clear hl hp
      go_wp2_with fail
      go_round
      case rel => exact ⟨k + 1, by omega, by go_num, by rw [E.out]; congr 1⟩
      case measure => simp [intOf]; omega
    · obtain rfl : k = len := by omega
      go_wp2_with fail
      go_ret
      exact ⟨by congr 1, rfl⟩

/-- The bytes of a number, from the last on: the first k are laid. -/
def bigF (v s k i : Nat) : Nat := if s - k ≤ i then byteAt v (s - 1 - i) else 0
theorem bigF_step {v s k : Nat} (hk : k < s) : (fun i => if i = s - 1 - k then byteAt v k else bigF v s k i) = fun i => if i < s then bigF v s (k + 1) i else (if i = s - 1 - k then byteAt v k else bigF v s k i) := by
  funext i
  by_cases h : i < s
  · rw [if_pos h]
    unfold bigF
    by_cases e : i = s - 1 - k
    · subst e; rw [if_pos rfl, if_pos (by omega)]; congr 1; omega
    · rw [if_neg e]
      by_cases h2 : s - k ≤ i
      · rw [if_pos h2, if_pos (by omega)]
      · rw [if_neg h2, if_neg (by omega)]
  · rw [if_neg h]
theorem u8s_congr {n : Nat} {f g : Nat → Nat} (h : ∀ i, i < n → f i = g i) : u8s n f = u8s n g := by
  unfold u8s
  congr 1
  funext i
  rw [h i i.2]

def RBytes (v s : Nat) (w : World) (e : Ending) (w' : World) : Prop := ∃ b, e = .returned (.tuple #[.slice (some ⟨w.heap.size, 0, none⟩) s s, .bool b]) ∧ w'.heap[w.heap.size]? = some (.cells (u8s s (bigF v s s)) 5 (0, 0)) ∧ Chg [] w w'

set_option maxRecDepth 20000 in
set_option maxHeartbeats 2000000 in
theorem rbytes_at (v s : Nat) (hv : v < 18446744073709551616) (hs : s ≤ 8) (w : World) :
    Calls Try.prog 26 #[.int .u64 (v : Int), .int .i64 (s : Int)] w (RBytes v s w) := by
  have hmk := run_make1 (P := Try.prog) 25 5 Try.underlying25 infoU8 rfl .i64 .i64 s (by omega) (by omega)
  go_enter Try.func26, Try.ntmps26
  go_wp2_with fail
  have hb0 : (w.alloc (.cells (zrow s (.int .u8 0)) 5)).heap[w.heap.size]? = some (.cells (u8s s (fun _ => 0)) 5 (0, 0)) := by rw [new_block, zrow_u8s]
  have hC0 : Chg [w.heap.size] w (w.alloc (.cells (zrow s (.int .u8 0)) 5)) := (Chg.refl _ _).alloc _
  have HB0 := Lib.hid hb0
  have HC0 := Lib.hid hC0
  clear hb0 hC0 hmk
  generalize w.alloc (.cells (zrow s (.int .u8 0)) 5) = W at *
  go_loopw [0, 7] (fun n i wr => ∃ k : Nat, k ≤ s ∧ i = .int .i64 ((s : Int) - 1 - (k : Int)) ∧ n = .int .u64 ((v / 256 ^ k : Nat) : Int) ∧ wr.heap[w.heap.size]? = some (.cells (u8s s (bigF v s k)) 5 (0, 0)) ∧ Chg [w.heap.size] w wr) (fun _ i _ => (intOf i + 1).toNat)
  case atStart => exact ⟨0, Nat.zero_le _, by go_num, by simp, by rw [HB0.out]; congr 2; exact u8s_congr (fun i hi => by unfold bigF; rw [if_neg (by omega)]), HC0.out⟩
  case round =>
    obtain ⟨k, hk, rfl, rfl, hB, hC⟩ := hrel
    have HB := Lib.hid hB
    have HC := Lib.hid hC
    clear hB hC
    by_cases hlk : k < s
    · obtain ⟨q, hq⟩ : ∃ q, s - 1 - k = q := ⟨_, rfl⟩
      have eq : (s : Int) - 1 - (k : Int) = (q : Int) := by omega
      have hqs : q < s := by omega
      have E := Lib.hid (show u8s s (fun j => if j = q then byteAt v k else bigF v s k j) = u8s s (bigF v s (k + 1)) by
        subst hq
        exact u8s_congr (fun i hi => by have := congrFun (bigF_step (v := v) hlk) i; simp only [if_pos hi] at this; exact this))
      have hv2 : v / 256 ^ k < 18446744073709551616 := Nat.lt_of_le_of_lt (Nat.div_le_self _ _) hv
      have ew : IntKind.u8.wrap (((v / 256 ^ k : Nat) : Int) % 256) = ((byteAt v k : Nat) : Int) := by
        unfold byteAt
        simp [IntKind.wrap, IntKind.signed, IntKind.bits]
      have ed : ((v / 256 ^ k : Nat) : Int) / 256 = ((v / 256 ^ (k + 1) : Nat) : Int) := by
        rw [Nat.pow_succ, ← Nat.div_div_eq_div_mul]; rfl
      have Hed := Lib.hid ed
      have Hq := Lib.hid hq
      generalize v / 256 ^ k = V at *
      have cq := (cell_of_block HB.out q).trans (u8s_get hqs)
      have fq := frozen_of_block HB.out q
      have q0 : (0 : Int) ≤ (q : Int) := by omega
      have q1 : (q : Int) < (s : Int) := by omega
      clear ed hq
      go_wp2_with fail
      refine ⟨⟨k + 1, by omega, by congr 1; omega, by rw [Hed.out], ?_, HC.out.setCell (.inl (by simp)) _⟩, ?_⟩
      · rw [setCell_block HB.out, u8s_set hqs, E.out]
      · simp [intOf]
        omega
    · obtain rfl : k = s := by omega
      have hd : ¬ (0 : Int) ≤ (k : Int) - 1 - (k : Int) := by omega
      generalize v / 256 ^ k = V at *
      go_wp2_with fail
      go_ret2
      exact ⟨_, rfl, HB.out, Chg.then (L := []) (Chg.refl [] w) HC.out (by simp)⟩

end Go.Proofs.Ytjceoheiiohfcaa
