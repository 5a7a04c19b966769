/- Package octets: within, Put, Get, Sum, parts. -/
import Derived.Test.YtjceoheiiohfcaaProg
import Derived.Test.YtjceoheiiohfcaaFr
import Derived.Deep.QuietTactic
import Derived.BigQuiet
import Derived.RegionTactic
import Derived.StillTailTactics
import Derived.Laws.BitsAllLaws
namespace Go.Proofs.Ytjceoheiiohfcaa
open Go.RowKit
set_option linter.unusedVariables false
set_option linter.unusedSimpArgs false

def u8s (n : Nat) (f : Nat → Nat) : Array Value := Array.ofFn (n := n) fun i => .int .u8 ((f i : Nat) : Int)
theorem u8s_get {n : Nat} {f : Nat → Nat} {i : Nat} (h : i < n) : (u8s n f)[i]? = some (.int .u8 ((f i : Nat) : Int)) := by
  simp [u8s, h]
theorem u8s_set {n : Nat} {f : Nat → Nat} {i v : Nat} (h : i < n) : (u8s n f).setIfInBounds i (.int .u8 (v : Int)) = u8s n (fun j => if j = i then v else f j) := by
  apply Array.ext_getElem?
  intro j
  by_cases hj : j < n
  · rw [u8s_get hj, Array.getElem?_setIfInBounds]
    by_cases e : j = i
    · subst e; simp [u8s, h]
    · rw [if_neg (fun q => e q.symm), u8s_get hj]; simp [e]
  · simp [u8s, hj]

set_option maxHeartbeats 400000 in
theorem within_yes (n at' size : Nat) (w : World) (h1 : 1 ≤ size) (h2 : size ≤ 8) (h3 : at' + size ≤ n) (h4 : n ≤ 9007199254740992) :
    Calls Try.prog 37 #[.int .i64 (n : Int), .int .i64 (at' : Int), .int .i64 (size : Int)] w fun e w' => e = .returned (.bool true) ∧ w = w' := by
  have a1 : (1 : Int) ≤ (size : Int) := by omega
  have a2 : (size : Int) ≤ 8 := by omega
  have a3 : (0 : Int) ≤ (at' : Int) := by omega
  have a4 : (at' : Int) ≤ (n : Int) - (size : Int) := by omega
  go_enter Try.func37, Try.ntmps37
  go_wp2
  go_ret
  exact ⟨by simp, rfl⟩

/-- The byte number k of v. -/
def byteAt (v k : Nat) : Nat := v / 256 ^ k % 256
def putK (f : Nat → Nat) (p s v k i : Nat) : Nat := if p + s - k ≤ i ∧ i < p + s then byteAt v (p + s - 1 - i) else f i
theorem putK_zero (f : Nat → Nat) (p s v : Nat) : putK f p s v 0 = f := by
  funext i
  unfold putK
  rw [if_neg (by omega)]
theorem putK_succ (f : Nat → Nat) {p s k q : Nat} (v : Nat) (hk : k < s) (hq : q = p + s - 1 - k) : putK f p s v (k + 1) = fun i => if i = q then byteAt v k else putK f p s v k i := by
  funext i
  unfold putK
  by_cases e : i = q
  · rw [if_pos e, if_pos (by omega)]
    congr 1
    omega
  · rw [if_neg e]
    by_cases e2 : p + s - k ≤ i ∧ i < p + s
    · rw [if_pos e2, if_pos (by omega)]
    · rw [if_neg e2, if_neg (by omega)]
theorem shr_byte (v k : Nat) : IntKind.u8.wrap ((v : Int) / 2 ^ (8 * k)) = ((byteAt v k : Nat) : Int) := by
  have e : (2 : Int) ^ (8 * k) = ((256 ^ k : Nat) : Int) := by
    rw [Int.pow_mul]
    simp
  unfold byteAt
  rw [e]
  simp [IntKind.wrap, IntKind.signed, IntKind.bits]
def putF (f : Nat → Nat) (p s v i : Nat) : Nat := if p ≤ i ∧ i < p + s then byteAt v (p + s - 1 - i) else f i
theorem putK_all (f : Nat → Nat) (p s v : Nat) : putK f p s v s = putF f p s v := by
  funext i
  unfold putK putF
  rw [Nat.add_sub_cancel]

set_option maxRecDepth 20000 in
set_option maxHeartbeats 1000000 in
theorem put_at {w : World} {b N : Nat} {f : Nat → Nat} (hb : w.heap[b]? = some (.cells (u8s N f) 5 (0, 0))) (off len cap at' size v : Nat) (hlen : off + len ≤ N) (hN : N ≤ 100000) (h1 : 1 ≤ size) (h2 : size ≤ 8) (hat : at' + size ≤ len) (hv : v < 256 ^ size) :
    Calls Try.prog 25 #[.slice (some ⟨b, off, none⟩) len cap, .int .i64 (at' : Int), .int .i64 (size : Int), .int .u64 (v : Int)] w fun e w' =>
      e = .returned (.bool true) ∧ w'.heap[b]? = some (.cells (u8s N (putF f (off + at') size v)) 5 (0, 0)) ∧ Chg [b] w w' := by
  have HB := Lib.hid hb
  have hsh : size < 8 → (v : Int) / 2 ^ (8 * size) = 0 := fun _ => by
    have e : (256 : Nat) ^ size = 2 ^ (8 * size) := by rw [show (256 : Nat) = 2 ^ 8 from rfl, ← Nat.pow_mul]
    rw [e] at hv
    have : ((v / 2 ^ (8 * size) : Nat) : Int) = 0 := by rw [Nat.div_eq_of_lt hv]; rfl
    simpa using this
  clear hb
  have hcase : size < 8 ∨ size = 8 := by omega
  rcases hcase with hs | hs
  case' inl =>
    have e0 := hsh hs
    have hs' : (size : Int) < 8 := by omega
    clear hsh
  case' inr =>
    have hs' : ¬ (size : Int) < 8 := by omega
    clear hsh
  all_goals
    have Hhs := Lib.hid hs
    have Hhv := Lib.hid hv
    clear hs hv
    go_enter Try.func25, Try.ntmps25
    go_wp2_with fail
    refine (within_yes len at' size _ h1 h2 hat (by omega)).mono ?_
    rintro e w' ⟨rfl, rfl⟩
    go_wp2_with fail
    go_loopw [28] (fun s wr => ∃ k : Nat, k ≤ size ∧ s = .int .i64 (k : Int) ∧ wr.heap[b]? = some (.cells (u8s N (putK f (off + at') size v k)) 5 (0, 0)) ∧ Chg [b] w wr) (fun s _ => size - (intOf s).toNat)
    case atStart => exact ⟨0, Nat.zero_le _, rfl, by rw [putK_zero]; exact HB.out, Chg.refl _ _⟩
    case round =>
      obtain ⟨k, hk, rfl, hBk, hCk⟩ := hrel
      have HBk := Lib.hid hBk
      have HCk := Lib.hid hCk
      clear hBk hCk
      by_cases hlk : k < size
      · obtain ⟨q, hq⟩ : ∃ q : Nat, at' + size - 1 - k = q := ⟨_, rfl⟩
        have eq : (at' : Int) + (size : Int) - 1 - (k : Int) = (q : Int) := by omega
        have hqN : off + q < N := by omega
        have cq := (cell_of_block HBk.out (off + q)).trans (u8s_get hqN)
        have fq := frozen_of_block HBk.out (off + q)
        have ew : IntKind.u8.wrap ((v : Int) / 2 ^ (8 * k)) = ((byteAt v k : Nat) : Int) := shr_byte v k
        have q0 : (0 : Int) ≤ (q : Int) := by omega
        have q1 : (q : Int) < (len : Int) := by omega
        have E := Lib.hid (putK_succ f v hlk (show off + q = off + at' + size - 1 - k by omega))
        have Hq := Lib.hid hq
        clear hq
        go_wp2_with fail
        go_roundw
        case rel =>
          refine ⟨k + 1, by omega, by go_num, ?_, HCk.out.setCell (.inl (by simp)) _⟩
          rw [setCell_block HBk.out, u8s_set hqN, E.out]
        case measure => simp [intOf]; omega
      · obtain rfl : k = size := by omega
        go_wp2_with fail
        go_ret
        exact ⟨rfl, by rw [← putK_all]; exact HBk.out, HCk.out⟩

/-! Get -/
def num (f : Nat → Nat) (p : Nat) : Nat → Nat
  | 0 => 0
  | k + 1 => num f p k * 256 + f (p + k)
theorem num_lt {f : Nat → Nat} {p : Nat} : ∀ {k : Nat}, (∀ i, i < k → f (p + i) ≤ 255) → num f p k < 256 ^ k
  | 0, _ => by simp [num]
  | k + 1, h => by
    have := num_lt (k := k) (fun i hi => h i (by omega))
    have h2 := h k (by omega)
    unfold num
    rw [Nat.pow_succ]
    omega

theorem or_byte (a x : Nat) (ha : a < 72057594037927936) (hx : x ≤ 255) : bits .or .u64 (IntKind.u64.wrap ((a : Int) * 256)) (x : Int) = ((a * 256 + x : Nat) : Int) := by
  have e : IntKind.u64.wrap ((a : Int) * 256) = ((a * 256 : Nat) : Int) := by
    rw [IntKind.wrap_u64]
    omega
  rw [e, u64_or_nat (a * 256) x (by omega) (by omega)]
  have h : a * 256 ||| x = a * 256 + x := by
    have : a * 256 = a <<< 8 := by rw [Nat.shiftLeft_eq]
    rw [this, Nat.shiftLeft_add_eq_or_of_lt (by omega)]
  rw [h]

/-- Bytes that stand in memory. -/
def BytesAt (w : World) (b off n : Nat) (f : Nat → Nat) : Prop := ∀ i, i < n → w.cell? ⟨b, off + i, none⟩ = some (.int .u8 (f i : Int)) ∧ f i ≤ 255
theorem BytesAt.chg {w w' : World} {b off n : Nat} {f : Nat → Nat} {L : List Nat} (h : BytesAt w b off n f) (c : Chg L w w') (hb : b ∉ L) : BytesAt w' b off n f := fun i hi => by
  obtain ⟨h1, h2⟩ := h i hi
  exact ⟨(c.cell (p := ⟨b, off + i, none⟩) (World.block_lt_of_cell? w _ h1) hb).trans h1, h2⟩
theorem BytesAt.sub {w : World} {b off n : Nat} {f : Nat → Nat} (h : BytesAt w b off n f) {a m : Nat} (hm : a + m ≤ n) : BytesAt w b (off + a) m (fun i => f (a + i)) := fun i hi => by
  have := h (a + i) (by omega)
  rw [← Nat.add_assoc] at this
  exact this
theorem BytesAt.of_block {w : World} {b N : Nat} {f : Nat → Nat} (h : w.heap[b]? = some (.cells (u8s N f) 5 (0, 0))) (hf : ∀ i, i < N → f i ≤ 255) {off n : Nat} (hn : off + n ≤ N) : BytesAt w b off n (fun i => f (off + i)) := fun i hi =>
  ⟨(cell_of_block h _).trans (u8s_get (by omega)), hf _ (by omega)⟩

set_option maxRecDepth 20000 in
set_option maxHeartbeats 1000000 in
theorem get_num {w : World} {b off len cap : Nat} {f : Nat → Nat} (hb : BytesAt w b off len f) (hcap : len ≤ cap) (hN : cap ≤ 9223372036854775807) (hlen : len ≤ 9007199254740992) (at' size : Nat) (h1 : 1 ≤ size) (h2 : size ≤ 8) (hat : at' + size ≤ len) :
    Calls Try.prog 29 #[.slice (some ⟨b, off, none⟩) len cap, .int .i64 (at' : Int), .int .i64 (size : Int)] w fun e w' => e = .returned (.tuple #[.int .u64 (num f at' size : Int), .bool true]) ∧ w = w' := by
  have HB := Lib.hid hb
  clear hb
  have a0 : (0 : Int) ≤ (at' : Int) := by omega
  have a1 : (at' : Int) ≤ (at' : Int) + (size : Int) := by omega
  have a2 : (at' : Int) + (size : Int) ≤ (cap : Int) := by omega
  have es : at' + size - at' = size := by omega
  go_enter Try.func29, Try.ntmps29
  go_wp2_with fail
  refine (within_yes len at' size _ h1 h2 hat (by omega)).mono ?_
  rintro e w' ⟨rfl, rfl⟩
  go_wp2_with fail
  go_loop [8, 24] (fun s i => ∃ k : Nat, k ≤ size ∧ i = .int .i64 (k : Int) ∧ s = .int .u64 (num f at' k : Int)) (fun _ i => size - (intOf i).toNat)
  case atStart => exact ⟨0, Nat.zero_le _, rfl, rfl⟩
  case round =>
    obtain ⟨k, hk, rfl, rfl⟩ := hrel
    by_cases hlk : k < size
    · obtain ⟨c, hf⟩ := HB.out (at' + k) (by omega)
      rw [← Nat.add_assoc] at c
      have i0 : (0 : Int) ≤ (k : Int) := by omega
      have i1 : (k : Int) < (size : Int) := by omega
      have E := Lib.hid (show num f at' (k + 1) = num f at' k * 256 + f (at' + k) from rfl)
      have hl : num f at' k < 256 ^ k := num_lt fun i hi => (HB.out (at' + i) (by omega)).2
      have hp : 256 ^ k ≤ 256 ^ 7 := Nat.pow_le_pow_right (by omega) (by omega)
      rw [show (256 : Nat) ^ 7 = 72057594037927936 by decide] at hp
      have O := Lib.hid (or_byte (num f at' k) (f (at' + k)) (by omega) hf)
      clear hl hp
      go_wp2_with fail
      go_round
      case rel => exact ⟨k + 1, by omega, by go_num, by rw [E.out, O.out]⟩
      case measure => simp [intOf]; omega
    · obtain rfl : k = size := by omega
      go_wp2_with fail
      go_ret2
      exact ⟨rfl, rfl⟩

/-! Sum -/
def sumB (f : Nat → Nat) : Nat → Nat
  | 0 => 1
  | k + 1 => (31 * sumB f k + f k + 7) % 4294967291
theorem sumB_lt (f : Nat → Nat) : ∀ k, sumB f k < 4294967291
  | 0 => by simp [sumB]
  | k + 1 => by unfold sumB; exact Nat.mod_lt _ (by omega)

set_option maxRecDepth 20000 in
set_option maxHeartbeats 1000000 in
theorem sum_at {w : World} {b off len cap : Nat} {f : Nat → Nat} (hb : BytesAt w b off len f) (hN : len ≤ 9007199254740992) :
    Calls Try.prog 35 #[.slice (some ⟨b, off, none⟩) len cap] w fun e w' => e = .returned (.int .u32 (sumB f len : Int)) ∧ w = w' := by
  have HB := Lib.hid hb
  clear hb
  go_enter Try.func35, Try.ntmps35
  go_wp2_with fail
  go_loop [3, 8] (fun s i => ∃ k : Nat, k ≤ len ∧ i = .int .i64 (k : Int) ∧ s = .int .u64 (sumB f k : Int)) (fun _ i => len - (intOf i).toNat)
  case atStart => exact ⟨0, Nat.zero_le _, rfl, rfl⟩
  case round =>
    obtain ⟨k, hk, rfl, rfl⟩ := hrel
    have hs := sumB_lt f k
    by_cases hlk : k < len
    · obtain ⟨c, hf⟩ := HB.out k hlk
      have i0 : (0 : Int) ≤ (k : Int) := by omega
      have i1 : (k : Int) < (len : Int) := by omega
      have E := Lib.hid (show sumB f (k + 1) = (31 * sumB f k + f k + 7) % 4294967291 from rfl)
      go_wp2_with fail
      go_round
      case rel => exact ⟨k + 1, by omega, by go_num, by rw [E.out]; congr 1⟩
      case measure => simp [intOf]; omega
    · obtain rfl : k = len := by omega
      go_wp2_with fail
      go_ret
      exact ⟨by congr 1, rfl⟩

end Go.Proofs.Ytjceoheiiohfcaa
