/- What a page tells of the node whose page it is. No program in sight. -/
import Derived.Test.YtjceoheiiohfcaaDec4
namespace Go.Proofs.Ytjceoheiiohfcaa
open Go.RowKit
set_option linter.unusedVariables false
set_option linter.unusedSimpArgs false

theorem num_bytes {g : Nat → Nat} {p v : Nat} : ∀ {k : Nat} (s : Nat), k ≤ s → (∀ i, i < s → g (p + i) = byteAt v (s - 1 - i)) → v < 256 ^ s → num g p k = v / 256 ^ (s - k)
  | 0, s, _, _, hv => by
    unfold num
    rw [Nat.sub_zero, Nat.div_eq_of_lt hv]
  | k + 1, s, hk, hg, hv => by
    unfold num
    rw [num_bytes s (by omega) hg hv, hg k (by omega)]
    unfold byteAt
    have e : s - k = (s - (k + 1)) + 1 := by omega
    have e2 : s - 1 - k = s - (k + 1) := by omega
    rw [e, e2, Nat.pow_succ, ← Nat.div_div_eq_div_mul]
    omega
theorem num_all {g : Nat → Nat} {p v s : Nat} (hg : ∀ i, i < s → g (p + i) = byteAt v (s - 1 - i)) (hv : v < 256 ^ s) : num g p s = v := by
  rw [num_bytes s (Nat.le_refl _) hg hv, Nat.sub_self, Nat.pow_zero, Nat.div_one]
theorem sumB_congr {f g : Nat → Nat} : ∀ {k : Nat}, (∀ i, i < k → f i = g i) → sumB f k = sumB g k
  | 0, _ => rfl
  | k + 1, h => by unfold sumB; rw [sumB_congr (k := k) fun i hi => h i (by omega), h k (by omega)]
theorem num_congr {f g : Nat → Nat} {p : Nat} : ∀ {k : Nat}, (∀ i, i < k → f (p + i) = g (p + i)) → num f p k = num g p k
  | 0, _ => rfl
  | k + 1, h => by unfold num; rw [num_congr (k := k) fun i hi => h i (by omega), h k (by omega)]

theorem sealP_low (kind n : Nat) (f : Nat → Nat) {i : Nat} (h : i < 124) : sealP kind n f i = preP kind n f i := by
  unfold sealP putF
  rw [if_neg (by omega)]
theorem seal_ok (kind n : Nat) (f : Nat → Nat) : pageOK (sealP kind n f) := by
  unfold pageOK
  rw [show sumB (sealP kind n f) 124 = sumB (preP kind n f) 124 from sumB_congr fun i hi => sealP_low kind n f (by omega)]
  have hlt := sumB_lt (preP kind n f) 124
  refine num_all (fun i hi => ?_) (by rw [show (256 : Nat) ^ 4 = 4294967296 by decide]; omega)
  unfold sealP putF
  rw [if_pos (by omega)]
  congr 1 <;> omega
theorem page_low (leaf : Bool) (n : Nat) (keys vals : Nat → Nat) {i : Nat} (h : i < 123) : pageF leaf n keys vals (1 + i) = bodyF n keys vals n i := by
  unfold pageF
  rw [sealP_low _ _ _ (by omega)]
  unfold preP
  rw [if_neg (by omega), if_pos (by omega)]
  congr 1 <;> omega
theorem page_kind (leaf : Bool) (n : Nat) (keys vals : Nat → Nat) : pageF leaf n keys vals 0 = kindOf leaf := by
  unfold pageF
  rw [sealP_low _ _ _ (by omega)]
  unfold preP
  rw [if_pos rfl]
theorem page_many (leaf : Bool) (n : Nat) (keys vals : Nat → Nat) : pageF leaf n keys vals 1 = n := by
  have := page_low leaf n keys vals (i := 0) (by omega)
  rw [this]
  unfold bodyF
  rw [if_pos rfl]
theorem kindOf_eq (leaf : Bool) : decide (kindOf leaf = 1) = leaf := by cases leaf <;> rfl
section
variable {leaf : Bool} {n : Nat} {keys vals : Nat → Nat} (hn : n ≤ 7)
include hn
theorem pkey_page (hk : ∀ i, i < n → keys i < 18446744073709551616) {j : Nat} (hj : j < n) : pkey (pageF leaf n keys vals) j = keys j := by
  unfold pkey keyF
  rw [page_many, if_pos hj]
  refine num_all (fun i hi => ?_) (by rw [show (256 : Nat) ^ 8 = 18446744073709551616 by decide]; exact hk j hj)
  rw [page_low _ _ _ _ (by omega)]
  unfold bodyF
  rw [if_neg (by omega), if_pos (by omega), show (1 + 16 * j + i - 1) / 16 = j by omega, show (1 + 16 * j + i - 1) % 16 = i by omega, if_pos (by omega)]
theorem pval_page (hv : ∀ i, i < n → vals i < 18446744073709551616) {j : Nat} (hj : j < n) : pval (pageF leaf n keys vals) j = vals j := by
  unfold pval valF
  rw [page_many, if_pos hj]
  refine num_all (fun i hi => ?_) (by rw [show (256 : Nat) ^ 8 = 18446744073709551616 by decide]; exact hv j hj)
  rw [page_low _ _ _ _ (by omega)]
  unfold bodyF
  rw [if_neg (by omega), if_pos (by omega), show (1 + 16 * j + 8 + i - 1) / 16 = j by omega, show (1 + 16 * j + 8 + i - 1) % 16 = 8 + i by omega, if_neg (by omega)]
  congr 1 <;> omega
end

theorem kidsB_congr {f g : Nat → Nat} {n : Nat} (h : ∀ i, i < n → f i = g i) : kidsB f n = kidsB g n := by
  refine kidsB_eq ?_
  rw [kidsB_iff]
  unfold Good
  constructor
  · rintro ⟨a, b, c⟩
    exact ⟨a, fun i hi => by rw [← h i hi]; exact b i hi, fun i j hij hj => by rw [← h i (by omega), ← h j hj]; exact c i j hij hj⟩
  · rintro ⟨a, b, c⟩
    exact ⟨a, fun i hi => by rw [h i hi]; exact b i hi, fun i j hij hj => by rw [h i (by omega), h j hj]; exact c i j hij hj⟩
theorem ascB_congr {f g : Nat → Nat} {n : Nat} (h : ∀ i, i < n → f i = g i) : ascB f n = ascB g n := by
  rw [Bool.eq_iff_iff, ascB_iff, ascB_iff]
  unfold ascTo
  constructor
  · intro a i h1 h2
    rw [← h i h2, ← h (i - 1) (by omega)]; exact a i h1 h2
  · intro a i h1 h2
    rw [h i h2, h (i - 1) (by omega)]; exact a i h1 h2
theorem rightB_congr {leaf : Bool} {n m : Nat} {keys vals keys' vals' : Nat → Nat} (hk : ∀ i, i < n → keys i = keys' i) (hv : ∀ i, i < m → vals i = vals' i) : rightB leaf n m keys vals = rightB leaf n m keys' vals' := by
  unfold rightB
  rw [kidsB_congr hv, ascB_congr hk]
theorem bodyF_congr {n : Nat} {keys vals keys' vals' : Nat → Nat} (hk : ∀ i, i < n → keys i = keys' i) (hv : ∀ i, i < n → vals i = vals' i) : bodyF n keys vals n = bodyF n keys' vals' n := by
  funext i
  unfold bodyF
  by_cases h0 : i = 0
  · rw [if_pos h0, if_pos h0]
  · rw [if_neg h0, if_neg h0]
    by_cases h1 : i < 1 + 16 * n
    · rw [if_pos h1, if_pos h1, hk _ (by omega), hv _ (by omega)]
    · rw [if_neg h1, if_neg h1]
theorem pageF_congr {leaf : Bool} {n : Nat} {keys vals keys' vals' : Nat → Nat} (hk : ∀ i, i < n → keys i = keys' i) (hv : ∀ i, i < n → vals i = vals' i) : pageF leaf n keys vals = pageF leaf n keys' vals' := by
  unfold pageF
  rw [bodyF_congr hk hv]
theorem rightB_bd {leaf : Bool} {n m : Nat} {keys vals : Nat → Nat} (h : rightB leaf n m keys vals = true) : n ≤ 7 ∧ m = n := by
  unfold rightB at h
  simp only [Bool.and_eq_true, decide_eq_true_eq] at h
  exact ⟨h.1, h.2.1⟩

/-- Is it a node's page? -/
def decB (n : Nat) (f : Nat → Nat) : Bool :=
  decide (n = 128 ∧ num f 124 4 = sumB f 124 ∧ (f 0 = 1 ∨ f 0 = 2) ∧ f 1 ≤ 7) && (rightB (decide (f 0 = 1)) (f 1) (f 1) (pkey f) (pval f) && eqF 128 128 (pageF (decide (f 0 = 1)) (f 1) (pkey f) (pval f)) f)

theorem decB_page {leaf : Bool} {n : Nat} {keys vals : Nat → Nat} (h : rightB leaf n n keys vals = true) (hk : ∀ i, i < n → keys i < 18446744073709551616) (hv : ∀ i, i < n → vals i < 18446744073709551616) :
    decB 128 (pageF leaf n keys vals) = true := by
  have hn := (rightB_bd h).1
  unfold decB
  rw [page_many, page_kind, kindOf_eq]
  have e1 : ∀ i, i < n → pkey (pageF leaf n keys vals) i = keys i := fun i hi => pkey_page hn hk hi
  have e2 : ∀ i, i < n → pval (pageF leaf n keys vals) i = vals i := fun i hi => pval_page hn hv hi
  rw [rightB_congr e1 e2, h, pageF_congr e1 e2]
  have hs := seal_ok (kindOf leaf) 123 (bodyF n keys vals n)
  have e : eqF 128 128 (pageF leaf n keys vals) (pageF leaf n keys vals) = true := eqF_iff.2 ⟨rfl, fun _ _ => rfl⟩
  rw [e]
  simp only [Bool.and_true, decide_eq_true_eq]
  exact ⟨trivial, hs, by cases leaf <;> simp [kindOf], hn⟩

/-- Do two nodes tell the same? -/
def eqN (l l' : Bool) (n n' m m' : Nat) (keys keys' vals vals' : Nat → Nat) : Bool := l == l' && (eqF n n' keys keys' && eqF m m' vals vals')

theorem page_inj {l l' : Bool} {n n' : Nat} {keys keys' vals vals' : Nat → Nat} (hn : n ≤ 7) (hn' : n' ≤ 7) (hk : ∀ i, i < n → keys i < 18446744073709551616) (hk' : ∀ i, i < n' → keys' i < 18446744073709551616)
    (hv : ∀ i, i < n → vals i < 18446744073709551616) (hv' : ∀ i, i < n' → vals' i < 18446744073709551616) :
    eqF 128 128 (pageF l n keys vals) (pageF l' n' keys' vals') = eqN l l' n n' n n' keys keys' vals vals' := by
  rw [Bool.eq_iff_iff, eqF_iff]
  unfold eqN
  rw [Bool.and_eq_true, Bool.and_eq_true, eqF_iff, eqF_iff, beq_iff_eq]
  constructor
  · rintro ⟨_, h⟩
    have h0 := h 0 (by omega)
    have h1 := h 1 (by omega)
    rw [page_kind, page_kind] at h0
    rw [page_many, page_many] at h1
    have hl : l = l' := by rw [← kindOf_eq l, ← kindOf_eq l', h0]
    subst h1 hl
    have pk : ∀ j, j < n → pkey (pageF l n keys vals) j = pkey (pageF l n keys' vals') j := fun j hj => by
      unfold pkey keyF
      rw [page_many, page_many]
      simp only [if_pos hj]
      exact num_congr fun i hi => h _ (by omega)
    have pv : ∀ j, j < n → pval (pageF l n keys vals) j = pval (pageF l n keys' vals') j := fun j hj => by
      unfold pval valF
      rw [page_many, page_many]
      simp only [if_pos hj]
      exact num_congr fun i hi => h _ (by omega)
    exact ⟨rfl, ⟨rfl, fun i hi => by rw [← pkey_page hn hk hi, ← pkey_page hn hk' hi]; exact pk i hi⟩, rfl, fun i hi => by rw [← pval_page hn hv hi, ← pval_page hn hv' hi]; exact pv i hi⟩
  · rintro ⟨rfl, ⟨rfl, e1⟩, _, e2⟩
    exact ⟨rfl, fun i _ => by rw [pageF_congr e1 e2]⟩

/-! leaf.Decode -/
theorem dec_at {w : World} {a : Option Addr} {n cap : Nat} {f : Nat → Nat} (h : BytesIn w a n cap f) : Calls Try.prog 14 #[.slice a n cap] w (DecEnd w (decide (f 0 = 1)) f (decB n f)) := by
  by_cases hn : n = 128
  · subst hn
    obtain ⟨h1, h2, h3, h4⟩ := h
    cases a with
    | none => have := (h3 rfl).1; omega
    | some q =>
      obtain ⟨b, off, rfl, hb⟩ := h4 q rfl (by omega)
      have hN : cap ≤ 9223372036854775807 := by unfold maxLen at h2; omega
      by_cases hp : pageOK f
      · by_cases hk : f 0 = 1 ∨ f 0 = 2
        · by_cases hm : f 1 ≤ 7
          · have e : decide (128 = 128 ∧ num f 124 4 = sumB f 124 ∧ (f 0 = 1 ∨ f 0 = 2) ∧ f 1 ≤ 7) = true := by simp only [decide_eq_true_eq]; exact ⟨trivial, hp, hk, hm⟩
            unfold decB
            rw [e, Bool.true_and]
            rcases hk with hk | hk
            · have e2 : decide (f 0 = 1) = true := by simp [hk]
              rw [e2]
              exact dec_leaf hb h1 hN hp (by rw [hk]; rfl) hm
            · have e2 : decide (f 0 = 1) = false := by simp [hk]
              rw [e2]
              exact dec_inner hb h1 hN hp (by rw [hk]; rfl) hm
          · exact (dec_many hb h1 hN hp hk (by omega)).mono fun _ _ r => dec_neg (by unfold decB; simp [hm]) r
        · exact (dec_kind hb h1 hN hp (by omega)).mono fun _ _ r => dec_neg (by unfold decB; simp [hk]) r
      · exact (dec_sum hb h1 hN hp).mono fun _ _ r => dec_neg (by unfold decB; unfold pageOK at hp; simp [hp]) r
  · exact (dec_len hn).mono fun _ _ r => dec_neg (by unfold decB; simp [hn]) r

end Go.Proofs.Ytjceoheiiohfcaa
