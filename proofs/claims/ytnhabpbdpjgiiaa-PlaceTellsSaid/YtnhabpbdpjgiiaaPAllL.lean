/- Plain facts on room, for PickAll. -/
import Derived.Test.YtnhabpbdpjgiiaaPickP
namespace Go.Proofs.Ytnhabpbdpjgiiaa
open Go.RowKit
set_option linter.unusedVariables false
set_option linter.unusedSimpArgs false

theorem cnt_flat {p : Nat → Bool} {a : Nat} : ∀ {b : Nat}, a ≤ b → (∀ i, a ≤ i → i < b → p i = false) → cnt b p = cnt a p
  | 0, h, _ => by obtain rfl : a = 0 := by omega
                  rfl
  | b + 1, h, hp => by
    by_cases e : a = b + 1
    · subst e; rfl
    · rw [cnt_step, hp b (by omega) (by omega), cnt_flat (b := b) (by omega) (fun i h1 h2 => hp i h1 (by omega))]
      rfl

theorem takeR_none_free {T : Tal} {K : Pk} (hf : K.first ≤ K.next) (hn : K.next ≤ T.n) (h : takeR T K = none) : ∀ i, K.first ≤ i → i < T.n → T.free i = false := by
  unfold takeR at h
  split at h
  · cases h
  · rename_i h0
    intro i h1 h2
    by_cases e : K.next ≤ i
    · exact firstFree_none h0 i e (by omega)
    · exact firstFree_none h i h1 (by omega)

theorem room_none {T : Tal} {K : Pk} (hf : K.first ≤ K.next) (hn : K.next ≤ T.n) (h : takeR T K = none) : roomI T K.first = 0 := by
  unfold roomI Tal.frees
  rw [cnt_flat (a := K.first) (b := T.n) (by omega) (takeR_none_free hf hn h)]
  omega

theorem room_some {T : Tal} {f b : Nat} (hf : f ≤ b) (hb : b < T.n) (h : T.free b = true) : roomI (T.set b 1) f = roomI T f - 1 := by
  have h1 := frees_set T 1 hb
  have h2 : (T.set b 1).free b = false := by simp [Tal.free, Tal.set]
  rw [h, h2] at h1
  have h3 : cnt f (T.set b 1).free = cnt f T.free := cnt_congr fun i hi => by
    have : i ≠ b := by omega
    simp [Tal.free, Tal.set, this]
  unfold roomI
  rw [h3]
  simp at h1
  omega

theorem room_pos {T : Tal} {f b : Nat} (hf : f ≤ b) (hb : b < T.n) (h : T.free b = true) : 0 < roomI T f := by
  have h1 := room_some hf hb h
  have h2 := roomI_bd (T := T.set b 1) (f := f) (by show f ≤ T.n; omega)
  omega

/-- A block that is taken is free no more, and all others are as they were. -/
theorem set_free {T : Tal} {b i : Nat} : (T.set b 1).free i = (T.free i && decide (i ≠ b)) := by
  by_cases h : i = b
  · subst h; simp [Tal.free, Tal.set]
  · simp [Tal.free, Tal.set, h]

def bools (n : Nat) (f : Nat → Bool) : Array Value := Array.ofFn (n := n) fun i => .bool (f i)
theorem bools_get {n : Nat} {f : Nat → Bool} {i : Nat} (h : i < n) : (bools n f)[i]? = some (.bool (f i)) := by
  simp [bools, h]
theorem bools_set {n : Nat} {f : Nat → Bool} {i : Nat} {v : Bool} (h : i < n) : (bools n f).setIfInBounds i (.bool v) = bools n (fun j => if j = i then v else f j) := by
  apply Array.ext_getElem?
  intro j
  by_cases hj : j < n
  · rw [bools_get hj, Array.getElem?_setIfInBounds]
    by_cases e : j = i
    · subst e; simp [bools, h]
    · rw [if_neg (fun q => e q.symm), bools_get hj]; simp [e]
  · simp [bools, hj]
theorem zrow_bools (n : Nat) : zrow n (.bool false) = bools n (fun _ => false) := by
  apply Array.ext
  · simp [zrow, bools]
  · intro i h1 h2
    simp [zrow, bools]

/-- While there is room Take hands out a block that was free. -/
theorem all_take {w : World} {p t bc bk : Nat} {K : Pk} {T : Tal} (h : PT w p t bc bk K T) (hr : 0 < roomI T K.first) :
    ∃ b, K.first ≤ b ∧ b < T.n ∧ T.free b = true ∧ roomI (T.set b 1) K.first = roomI T K.first - 1 ∧ (takeK T K).first = K.first ∧
    Calls Try.prog 13 #[.pointer (some ⟨p, 0, none⟩)] w fun e w' => e = .returned (.tuple #[.int .i64 (b : Int), .int .i64 0]) ∧ PT w' p t bc bk (takeK T K) (T.set b 1) ∧ Chg [p, t, bc, bk] w w' := by
  cases hk : takeR T K with
  | none => have := room_none h.f h.n hk; omega
  | some b =>
    obtain ⟨h1, h2, h3⟩ := takeR_spec h.f h.n hk
    refine ⟨b, h1, h2, h3, room_some h1 h2 h3, (takeK_bd h.f h.n).2.2.2, h.take.mono fun e w' ⟨he, hp, hc⟩ => ⟨by rw [he]; simp [takeB, takeE, hk], ?_, hc⟩⟩
    have e1 : takeT T K = T.set b 1 := by simp [takeT, hk]
    rw [e1] at hp
    exact hp
theorem all_full {w : World} {p t bc bk : Nat} {K : Pk} {T : Tal} (h : PT w p t bc bk K T) (hr : roomI T K.first = 0) :
    Calls Try.prog 13 #[.pointer (some ⟨p, 0, none⟩)] w fun e w' => e = .returned (.tuple #[.int .i64 0, .int .i64 90]) ∧ PT w' p t bc bk K T ∧ Chg [p, t, bc, bk] w w' := by
  have hk : takeR T K = none := by
    cases hk : takeR T K with
    | none => rfl
    | some b =>
      obtain ⟨h1, h2, h3⟩ := takeR_spec h.f h.n hk
      have := room_pos h1 h2 h3
      omega
  refine h.take.mono fun e w' ⟨he, hp, hc⟩ => ⟨by rw [he]; simp [takeB, takeE, hk], ?_, hc⟩
  have e1 : takeT T K = T := by simp [takeT, hk]
  have e2 : takeK T K = K := by simp [takeK, hk]
  rw [e1, e2] at hp
  exact hp
theorem took_get {w : World} {t bc bk b : Nat} {T : Tal} (hb : b < T.n) (h : TallyAt w t bc bk (T.set b 1)) :
    Calls Try.prog 24 #[.pointer (some ⟨t, 0, none⟩), .int .i64 (b : Int)] w fun e w' => e = .returned (.int .i64 1) ∧ w = w' := by
  have := get_at h (b : Int)
  have hh : hasB (T.set b 1) (b : Int) = true := (hasB_iff _ _).2 ⟨by omega, by show (b : Int) < (T.n : Int); omega⟩
  have e : getV (T.set b 1) (b : Int) = 1 := by
    unfold getV
    rw [if_pos hh]
    simp [Tal.set]
  rw [e] at this
  exact this
theorem took_free {w : World} {t bc bk b : Nat} {T : Tal} (h : TallyAt w t bc bk (T.set b 1)) :
    Calls Try.prog 35 #[.pointer (some ⟨t, 0, none⟩), .int .i64 (b : Int)] w fun e w' => e = .returned (.bool false) ∧ w = w' := by
  have := free_at h (b : Int)
  have e : freeB (T.set b 1) (b : Int) = false := by simp [freeB, Tal.free, Tal.set]
  rw [e] at this
  exact this

end Go.Proofs.Ytnhabpbdpjgiiaa
