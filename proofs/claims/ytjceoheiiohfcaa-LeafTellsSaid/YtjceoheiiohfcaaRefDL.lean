/- The reference of leaf: Decode: the plain part; rows of numbers of the call's own. -/
import Derived.Test.YtjceoheiiohfcaaRefO
import Derived.Deep.AppendLies
namespace Go.Proofs.Ytjceoheiiohfcaa
open Go.RowKit
set_option linter.unusedVariables false
set_option linter.unusedSimpArgs false

/-! bytes of the number that they make -/
theorem num_byte {g : Nat → Nat} {p : Nat} : ∀ {s : Nat} {i : Nat}, (∀ i, i < s → g (p + i) ≤ 255) → i < s → byteAt (num g p s) (s - 1 - i) = g (p + i)
  | 0, i, _, hi => by omega
  | s + 1, i, hg, hi => by
    have hs := hg s (by omega)
    show byteAt (num g p s * 256 + g (p + s)) (s + 1 - 1 - i) = g (p + i)
    by_cases e : i = s
    · subst e
      rw [show i + 1 - 1 - i = 0 by omega]
      unfold byteAt
      rw [Nat.pow_zero, Nat.div_one]
      omega
    · have ih := num_byte (g := g) (p := p) (s := s) (i := i) (fun j hj => hg j (by omega)) (by omega)
      rw [← ih, show s + 1 - 1 - i = (s - 1 - i) + 1 by omega]
      unfold byteAt
      rw [Nat.pow_succ, Nat.mul_comm (256 ^ (s - 1 - i)) 256, ← Nat.div_div_eq_div_mul]
      congr 2
      omega

/-- What the reference takes for a page. -/
def RDec (n : Nat) (f : Nat → Nat) : Prop :=
  n = 128 ∧ pageOK f ∧ (f 0 = 1 ∨ f 0 = 2) ∧ f 1 ≤ 7 ∧ (∀ i, 1 + 16 * f 1 ≤ i → i < 123 → f (1 + i) = 0) ∧ rightB (decide (f 0 = 1)) (f 1) (f 1) (pkey f) (pval f) = true

theorem rdec_iff {n : Nat} {f : Nat → Nat} (hf : n = 128 → ∀ i, i < 128 → f i ≤ 255) : RDec n f ↔ decB n f = true := by
  unfold decB RDec
  simp only [Bool.and_eq_true, decide_eq_true_eq]
  constructor
  · rintro ⟨h1, h2, h3, h4, h5, h6⟩
    have hf := hf h1
    have low : ∀ i, i < 124 → pageF (decide (f 0 = 1)) (f 1) (pkey f) (pval f) i = f i := fun i h0 => by
      unfold pageF
      rw [sealP_low _ _ _ h0]
      unfold preP
      by_cases e0 : i = 0
      · subst e0
        rw [if_pos rfl]
        rcases h3 with e | e
        · rw [e]; rfl
        · rw [e]; rfl
      · rw [if_neg e0, if_pos (by omega)]
        unfold bodyF
        by_cases e1 : i - 1 = 0
        · rw [if_pos e1, show i = 1 by omega]
        · rw [if_neg e1]
          by_cases e2 : i - 1 < 1 + 16 * f 1
          · rw [if_pos e2]
            by_cases e3 : (i - 1 - 1) % 16 < 8
            · rw [if_pos e3]
              unfold pkey keyF
              rw [if_pos (by omega)]
              have := num_byte (g := fun i => f (1 + i)) (p := 1 + 16 * ((i - 1 - 1) / 16)) (s := 8) (i := (i - 1 - 1) % 16) (fun j hj => hf _ (by omega)) e3
              rw [show 7 - (i - 1 - 1) % 16 = 8 - 1 - (i - 1 - 1) % 16 by omega, this]
              congr 1
              omega
            · rw [if_neg e3]
              unfold pval valF
              rw [if_pos (by omega)]
              have := num_byte (g := fun i => f (1 + i)) (p := 1 + 16 * ((i - 1 - 1) / 16) + 8) (s := 8) (i := (i - 1 - 1) % 16 - 8) (fun j hj => hf _ (by omega)) (by omega)
              rw [show 15 - (i - 1 - 1) % 16 = 8 - 1 - ((i - 1 - 1) % 16 - 8) by omega, this]
              congr 1
              omega
          · rw [if_neg e2]
            have := h5 (i - 1) (by omega) (by omega)
            rw [show 1 + (i - 1) = i by omega] at this
            exact this.symm
    refine ⟨⟨h1, h2, h3, h4⟩, h6, eqF_iff.2 ⟨rfl, fun i hi => ?_⟩⟩
    by_cases h0 : i < 124
    · exact low i h0
    · have es : sumB (preP (kindOf (decide (f 0 = 1))) 123 (bodyF (f 1) (pkey f) (pval f) (f 1))) 124 = sumB f 124 := sumB_congr fun j hj => by
        rw [← sealP_low _ _ _ hj]
        exact low j hj
      unfold pageF sealP putF
      rw [if_pos (by omega), es, ← h2]
      have := num_byte (g := f) (p := 124) (s := 4) (i := i - 124) (fun j hj => hf _ (by omega)) (by omega)
      have e : 124 + 4 - 1 - i = 4 - 1 - (i - 124) := by omega
      have e2 : 124 + (i - 124) = i := by omega
      rw [e, this, e2]
  · rintro ⟨⟨h1, h2, h3, h4⟩, h6, h7⟩
    refine ⟨h1, h2, h3, h4, fun i hi hi2 => ?_, h6⟩
    have := (eqF_iff.1 h7).2 (1 + i) (by omega)
    rw [page_low _ _ _ _ hi2] at this
    rw [← this]
    exact bodyF_zero i hi

/-! rows of numbers of the call's own -/
def OwnK (w : World) (base : Nat) (v : Value) (n : Nat) (F : Nat → Nat) : Prop := w.ownsRow base 43 1 v n ((List.range n).map fun i => Value.int .u64 (F i : Int))
theorem OwnK.nil (w : World) (base : Nat) (F : Nat → Nat) : OwnK w base (.slice none 0 0) 0 F := ⟨rfl, .inl ⟨rfl, rfl⟩⟩
theorem OwnK.keep {L : List Nat} {w w' : World} {base : Nat} {v : Value} {n : Nat} {F : Nat → Nat} (h : OwnK w base v n F) (c : Chg L w w') (hL : ∀ g, v.ownBlock = some g → g ∉ L) : OwnK w' base v n F := by
  refine ⟨h.1, ?_⟩
  rcases h.2 with h | ⟨g, cap, cur, h1, h2, h3, h4⟩
  · exact .inl h
  · exact .inr ⟨g, cap, cur, h1, h2, (c.block g (heap_lt h3) (hL g (by rw [h1]; rfl))).trans h3, h4⟩
theorem OwnK.congr {w : World} {base : Nat} {v : Value} {n : Nat} {F G : Nat → Nat} (h : OwnK w base v n F) (e : ∀ i, i < n → F i = G i) : OwnK w base v n G := by
  unfold OwnK at *
  have : ((List.range n).map fun i => Value.int .u64 (F i : Int)) = (List.range n).map fun i => Value.int .u64 (G i : Int) := List.map_congr_left fun i hi => by rw [e i (by simpa using hi)]
  rwa [this] at h
theorem OwnK.nums {w : World} {base : Nat} {v : Value} {n : Nat} {F : Nat → Nat} (h : OwnK w base v n F) (hF : ∀ i, i < n → F i < 18446744073709551616) : NumsIn [] w v n F := by
  rcases h.2 with ⟨rfl, rfl⟩ | ⟨g, cap, cur, h1, h2, h3, h4, h5, h6, h7⟩
  · exact .inl ⟨⟨none, 0, rfl, Nat.zero_le _, fun _ => rfl⟩, rfl⟩
  · refine .inr ⟨g, 0, cap, h1, h4, h5, heap_lt h3, by simp, fun k hk => ⟨?_, hF k hk⟩⟩
    rw [Nat.zero_add, cell_of_block h3]
    have := congrArg (fun l => l[k]?) h7
    rw [Nat.mul_one] at this
    simp only [List.getElem?_take, if_pos hk, List.getElem?_map, List.getElem?_range hk, Option.map_some, Array.getElem?_toList] at this
    exact this
theorem OwnK.block {w : World} {base : Nat} {v : Value} {n : Nat} {F : Nat → Nat} (h : OwnK w base v n F) {g : Nat} (e : v.ownBlock = some g) : base ≤ g ∧ g < w.heap.size := World.ownsRow.lt h g e
theorem snocK (F : Nat → Nat) (n x : Nat) : ((List.range n).map fun i => Value.int .u64 (F i : Int)) ++ [Value.int .u64 (x : Int)] = (List.range (n + 1)).map fun i => Value.int .u64 ((if i < n then F i else x : Nat) : Int) := by
  rw [List.range_succ, List.map_append]
  congr 1
  · apply List.map_congr_left
    intro i hi
    rw [if_pos (by simpa using hi)]
  · simp

end Go.Proofs.Ytjceoheiiohfcaa
