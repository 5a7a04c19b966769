/- Layer 10 in plain words: what is placed, one page after the other. No program in sight. -/
import Derived.Test.YtnhabpbdpjgiiaaPAllL
namespace Go.Proofs.Ytnhabpbdpjgiiaa
set_option linter.unusedVariables false

/-- How many pages of 61 numbers. -/
def pg (n : Nat) : Nat := (n + 60) / 61
def needN (n : Nat) : Nat := pg n + pg (pg n)
/-- One of those of the i-th page is so. -/
def anyIn (p : Nat → Bool) (n i : Nat) : Bool := (List.range 61).any fun j => decide (61 * i + j < n) && p (61 * i + j)
theorem anyIn_iff {p : Nat → Bool} {n i : Nat} : anyIn p n i = true ↔ ∃ b, 61 * i ≤ b ∧ b < 61 * i + 61 ∧ b < n ∧ p b = true := by
  unfold anyIn
  rw [List.any_eq_true]
  constructor
  · rintro ⟨j, hj, h⟩
    simp only [List.mem_range, Bool.and_eq_true, decide_eq_true_eq] at hj h
    exact ⟨61 * i + j, by omega, by omega, h.1, h.2⟩
  · rintro ⟨b, h1, h2, h3, h4⟩
    refine ⟨b - 61 * i, by simp; omega, ?_⟩
    rw [show 61 * i + (b - 61 * i) = b by omega]
    simp [h3, h4]
theorem anyIn_false {p : Nat → Bool} {n i : Nat} : anyIn p n i = false ↔ ∀ b, 61 * i ≤ b → b < 61 * i + 61 → b < n → p b = false := by
  rw [← Bool.not_eq_true, anyIn_iff]
  constructor
  · intro h b h1 h2 h3
    cases hp : p b with
    | false => rfl
    | true => exact absurd ⟨b, h1, h2, h3, hp⟩ h
  · rintro h ⟨b, h1, h2, h3, h4⟩
    rw [h b h1 h2 h3] at h4
    cases h4

/-- Pages under way: counts, the pick, how many pages of each kind, where they stand, which were placed. -/
structure PS where
  T : Tal
  K : Pk
  n : Nat → Nat
  a : Nat → Nat → Nat
  p : Nat → Nat → Bool

def PS.want (S : PS) (k i : Nat) : Bool := !S.p k i && (S.a k i == 0 || (if k = 1 then anyIn (S.p 0) (S.n 0) i else anyIn S.T.changed S.T.n i))
def upd2 {α : Type} (f : Nat → Nat → α) (k i : Nat) (v : α) : Nat → Nat → α := fun k' i' => if k' = k ∧ i' = i then v else f k' i'
theorem upd2_same {α : Type} (f : Nat → Nat → α) (k i : Nat) (v : α) : upd2 f k i v k i = v := by simp [upd2]
theorem upd2_other {α : Type} (f : Nat → Nat → α) {k i k' i' : Nat} (v : α) (h : ¬ (k' = k ∧ i' = i)) : upd2 f k i v k' i' = f k' i' := by unfold upd2; rw [if_neg h]

/-- Behind the old block's going down. -/
def PS.T1 (S : PS) (k i : Nat) : Tal := if S.a k i = 0 then S.T else down S.T (S.a k i : Int)
/-- The new block (0: there is none). -/
def PS.new (S : PS) (k i : Nat) : Nat := (takeR (S.T1 k i) S.K).getD 0
def PS.step (S : PS) (k i : Nat) : PS := ⟨takeT (S.T1 k i) S.K, takeK (S.T1 k i) S.K, S.n, upd2 S.a k i (S.new k i), upd2 S.p k i true⟩
def PS.next (S : PS) : Option (Nat × Nat) :=
  match firstFree (S.want 0) 0 (S.n 0) with
  | some i => some (0, i)
  | none => match firstFree (S.want 1) 0 (S.n 1) with | some i => some (1, i) | none => none
def PS.run : Nat → PS → PS
  | 0, S => S
  | f + 1, S => match S.next with | some (k, i) => PS.run f (S.step k i) | none => S
/-- How many pages were not placed yet. -/
def PS.left (S : PS) : Nat := cnt (S.n 0) (fun i => !S.p 0 i) + cnt (S.n 1) (fun i => !S.p 1 i)

theorem PS.next_some {S : PS} {k i : Nat} (h : S.next = some (k, i)) : k < 2 ∧ i < S.n k ∧ S.want k i = true := by
  unfold PS.next at h
  cases h0 : firstFree (S.want 0) 0 (S.n 0) with
  | some j =>
    rw [h0] at h
    simp only [Option.some.injEq, Prod.mk.injEq] at h
    obtain ⟨rfl, rfl⟩ := h
    have := firstFree_some h0
    exact ⟨by omega, by omega, this.2.2.1⟩
  | none =>
    rw [h0] at h
    simp only at h
    cases h1 : firstFree (S.want 1) 0 (S.n 1) with
    | some j =>
      rw [h1] at h
      simp only [Option.some.injEq, Prod.mk.injEq] at h
      obtain ⟨rfl, rfl⟩ := h
      have := firstFree_some h1
      exact ⟨by omega, by omega, this.2.2.1⟩
    | none => rw [h1] at h; cases h
theorem PS.next_none {S : PS} (h : S.next = none) : ∀ k i, k < 2 → i < S.n k → S.want k i = false := by
  unfold PS.next at h
  cases h0 : firstFree (S.want 0) 0 (S.n 0) with
  | some j => rw [h0] at h; cases h
  | none =>
    rw [h0] at h
    simp only at h
    cases h1 : firstFree (S.want 1) 0 (S.n 1) with
    | some j => rw [h1] at h; cases h
    | none =>
      intro k i hk hi
      have hk2 : k = 0 ∨ k = 1 := by omega
      rcases hk2 with rfl | rfl
      · exact firstFree_none h0 i (by omega) (by omega)
      · exact firstFree_none h1 i (by omega) (by omega)
theorem want_p {S : PS} {k i : Nat} (h : S.want k i = true) : S.p k i = false := by
  unfold PS.want at h
  simp only [Bool.and_eq_true, Bool.not_eq_true'] at h
  exact h.1
theorem PS.left_step {S : PS} {k i : Nat} (hk : k < 2) (hi : i < S.n k) (h : S.want k i = true) : (S.step k i).left + 1 = S.left := by
  have hp := want_p h
  have hk2 : k = 0 ∨ k = 1 := by omega
  unfold PS.left PS.step
  dsimp only
  rcases hk2 with rfl | rfl
  · have e1 : cnt (S.n 1) (fun j => !upd2 S.p 0 i true 1 j) = cnt (S.n 1) (fun j => !S.p 1 j) := cnt_congr fun j _ => by rw [upd2_other _ _ (by omega)]
    have e0 := cnt_upd (p := fun j => !S.p 0 j) (q := fun j => !upd2 S.p 0 i true 0 j) hi (fun j _ hj => by rw [upd2_other _ _ (by omega)])
    simp only [upd2_same, hp, Bool.not_true, Bool.not_false, if_true] at e0
    simp at e0
    omega
  · have e1 : cnt (S.n 0) (fun j => !upd2 S.p 1 i true 0 j) = cnt (S.n 0) (fun j => !S.p 0 j) := cnt_congr fun j _ => by rw [upd2_other _ _ (by omega)]
    have e0 := cnt_upd (p := fun j => !S.p 1 j) (q := fun j => !upd2 S.p 1 i true 1 j) hi (fun j _ hj => by rw [upd2_other _ _ (by omega)])
    simp only [upd2_same, hp, Bool.not_true, Bool.not_false, if_true] at e0
    simp at e0
    omega
theorem PS.left_pos {S : PS} {k i : Nat} (hk : k < 2) (hi : i < S.n k) (h : S.want k i = true) : 0 < S.left := by have := PS.left_step hk hi h; omega
theorem PS.run_none {S : PS} (h : S.next = none) : ∀ f, S.run f = S
  | 0 => rfl
  | f + 1 => by unfold PS.run; rw [h]
theorem PS.run_some {S : PS} {k i : Nat} (h : S.next = some (k, i)) : S.run S.left = (S.step k i).run (S.step k i).left := by
  have ⟨hk, hi, hw⟩ := PS.next_some h
  rw [← PS.left_step hk hi hw]
  show PS.run (_ + 1) S = _
  unfold PS.run
  rw [h]
  cases (S.step k i).left <;> rfl
/-- All is placed that wants it. -/
def PS.fin (S : PS) : PS := S.run S.left
theorem PS.fin_none {S : PS} (h : S.next = none) : S.fin = S := PS.run_none h _
theorem PS.fin_some {S : PS} {k i : Nat} (h : S.next = some (k, i)) : S.fin = (S.step k i).fin := PS.run_some h
/-- Whatever each step keeps. -/
theorem PS.fin_ind {Q : PS → Prop} (hs : ∀ S k i, Q S → k < 2 → i < S.n k → S.want k i = true → Q (S.step k i)) : ∀ (m : Nat) (S : PS), S.left ≤ m → Q S → Q S.fin ∧ S.fin.next = none := by
  intro m
  induction m with
  | zero =>
    intro S hl hq
    cases h : S.next with
    | none => rw [PS.fin_none h]; exact ⟨hq, h⟩
    | some ki => have ⟨a, b, c⟩ := PS.next_some h; have := PS.left_pos a b c; omega
  | succ m ih =>
    intro S hl hq
    cases h : S.next with
    | none => rw [PS.fin_none h]; exact ⟨hq, h⟩
    | some ki =>
      obtain ⟨k, i⟩ := ki
      have ⟨a, b, c⟩ := PS.next_some h
      have := PS.left_step a b c
      rw [PS.fin_some h]
      exact ih _ (by omega) (hs S k i hq a b c)

/-- A sheet that is right: as many pages as there have to be, each at a block of its own, that has a count, or nowhere. -/
structure ShOk (T : Tal) (n : Nat → Nat) (a : Nat → Nat → Nat) : Prop where
  n0 : n 0 = pg T.n
  n1 : n 1 = pg (pg T.n)
  has : ∀ k i, k < 2 → i < n k → a k i ≠ 0 → a k i < T.n ∧ T.now (a k i) ≠ 0
  apart : ∀ k i k' i', k < 2 → i < n k → k' < 2 → i' < n k' → a k i ≠ 0 → a k i = a k' i' → k = k' ∧ i = i'

theorem down_now {T : Tal} {b : Nat} (hb : b < T.n) (h : T.now b ≠ 0) : down T (b : Int) = T.set b (T.now b - 1) := by
  have e : hasB T (b : Int) = true := (hasB_iff T b).2 (by omega)
  unfold down downE
  simp [e, h]
theorem set_now (T : Tal) (b v i : Nat) : (T.set b v).now i = if i = b then v else T.now i := rfl

/-- One page is placed in a right sheet, where there is a block. -/
theorem step_some {S : PS} {k i b : Nat} (ht : takeR (S.T1 k i) S.K = some b) : (S.step k i).T = (S.T1 k i).set b 1 ∧ S.new k i = b := by
  unfold PS.step PS.new takeT
  rw [ht]
  exact ⟨rfl, rfl⟩
theorem T1_n (S : PS) (k i : Nat) : (S.T1 k i).n = S.T.n := by
  unfold PS.T1; split
  · rfl
  · exact down_n _ _
theorem T1_now {S : PS} {k i : Nat} (h : ShOk S.T S.n S.a) (hk : k < 2) (hi : i < S.n k) (x : Nat) : (S.T1 k i).now x = if x = S.a k i ∧ S.a k i ≠ 0 then S.T.now x - 1 else S.T.now x := by
  unfold PS.T1
  by_cases h0 : S.a k i = 0
  · rw [if_pos h0, if_neg (by rintro ⟨_, h⟩; exact h h0)]
  · have ⟨h1, h2⟩ := h.has k i hk hi h0
    rw [if_neg h0, down_now h1 h2, set_now]
    by_cases hx : x = S.a k i
    · rw [if_pos hx, if_pos ⟨hx, h0⟩, hx]
    · rw [if_neg hx, if_neg (fun h => hx h.1)]
theorem T1_kept {S : PS} {k i : Nat} (x : Nat) : (S.T1 k i).kept x = S.T.kept x := by
  unfold PS.T1 down
  split
  · rfl
  · split <;> rfl

theorem pg_pos {n : Nat} (h : 1 ≤ n) : 1 ≤ pg n := by unfold pg; omega
theorem pg_le {n : Nat} : pg n ≤ n := by unfold pg; omega

end Go.Proofs.Ytnhabpbdpjgiiaa
