/- Plain laws on maps as read: two maps are equal just if they have the same keys and, at each, elements that are alike. -/
import Derived.Test.YtbejcmbdaoakbaaFr
import Derived.Lib.SlMapEqual
import Derived.Maps.Ext
namespace Go.Proofs.Ytbejcmbdaoakbaa
open Go.Maps

theorem len_le_of_sub {α : Type} : ∀ (l1 l2 : List α), l1.Pairwise (· ≠ ·) → (∀ x ∈ l1, x ∈ l2) → l1.length ≤ l2.length
  | [], _, _, _ => Nat.zero_le _
  | a :: r, l2, hp, hs => by
    obtain ⟨h1, h2⟩ := List.pairwise_cons.1 hp
    obtain ⟨s, t, rfl⟩ := List.append_of_mem (hs a (by simp))
    have := len_le_of_sub r (s ++ t) h2 (fun x hx => by
      have hm := hs x (by simp [hx])
      have hne := h1 x hx
      simp only [List.mem_append, List.mem_cons] at hm ⊢
      rcases hm with h | h | h
      · exact .inl h
      · exact absurd h.symm hne
      · exact .inr h)
    simp only [List.length_append, List.length_cons] at this ⊢
    omega

theorem sub_of_len {α : Type} : ∀ (l1 l2 : List α), l1.Pairwise (· ≠ ·) → (∀ x ∈ l1, x ∈ l2) → l1.length = l2.length → ∀ x ∈ l2, x ∈ l1
  | [], l2, _, _, hl, x, hx => by
    have : l2 = [] := List.eq_nil_of_length_eq_zero hl.symm
    rw [this] at hx; cases hx
  | a :: r, l2, hp, hs, hl, x, hx => by
    obtain ⟨h1, h2⟩ := List.pairwise_cons.1 hp
    obtain ⟨s, t, rfl⟩ := List.append_of_mem (hs a (by simp))
    have ih := sub_of_len r (s ++ t) h2 (fun x hx => by
      have hm := hs x (by simp [hx])
      have hne := h1 x hx
      simp only [List.mem_append, List.mem_cons] at hm ⊢
      rcases hm with h | h | h
      · exact .inl h
      · exact absurd h.symm hne
      · exact .inr h) (by simp only [List.length_append, List.length_cons] at hl ⊢; omega)
    simp only [List.mem_append, List.mem_cons] at hx
    rcases hx with h | h | h
    · exact .tail _ (ih x (by simp [h]))
    · subst h; exact .head _
    · exact .tail _ (ih x (by simp [h]))

section
variable {H : Type}

theorem has_mem {es : List (Lit × DataW H)} {k : Lit} (hk : ∀ p ∈ es, WideAt.IsKeyLit p.1) : has (.map es) k = true ↔ k ∈ es.map Prod.fst := by
  constructor
  · intro h
    obtain ⟨p, hp, hs⟩ := List.any_eq_true.1 (show es.any (fun p => p.1.sameKey k) = true from h)
    exact List.mem_map.2 ⟨p, hp, WideAt.sameKey_eq hs⟩
  · intro h
    obtain ⟨p, hp, rfl⟩ := List.mem_map.1 h
    exact List.any_eq_true.2 ⟨p, hp, WideAt.sameKey_self (hk p hp)⟩

theorem Canon.key {D : DataW H} (c : Canon D) {k : Lit} (h : has D k = true) : WideAt.IsKeyLit k := by
  obtain ⟨es, rfl, s, hk⟩ := c
  obtain ⟨p, hp, rfl⟩ := List.mem_map.1 ((has_mem hk).1 h)
  exact hk p hp

theorem keys_apart {es : List (Lit × DataW H)} (s : es.Pairwise (fun p q => p.1.before q.1 = true)) : (es.map Prod.fst).Pairwise (· ≠ ·) :=
  List.pairwise_map.2 (apart_of_rising s)

/-- As many entries, if the same keys. -/
theorem size_eq_of_has {H' : Type} {D1 : DataW H} {D2 : DataW H'} (c1 : Canon D1) (c2 : Canon D2) (h : ∀ k, has D1 k = has D2 k) : size D1 = size D2 := by
  obtain ⟨es1, rfl, s1, k1⟩ := c1
  obtain ⟨es2, rfl, s2, k2⟩ := c2
  have a := len_le_of_sub (es1.map Prod.fst) (es2.map Prod.fst) (keys_apart s1) (fun x hx => (has_mem k2).1 (by rw [← h]; exact (has_mem k1).2 hx))
  have b := len_le_of_sub (es2.map Prod.fst) (es1.map Prod.fst) (keys_apart s2) (fun x hx => (has_mem k1).1 (by rw [h]; exact (has_mem k2).2 hx))
  simp only [List.length_map] at a b
  show es1.length = es2.length
  omega

theorem equalD_iff {eqd : DataW H → DataW H → Bool} {D1 D2 : DataW H} (c1 : Canon D1) (c2 : Canon D2) :
    Lib.equalFuncD eqd D1 D2 = true ↔ (∀ k, has D1 k = has D2 k) ∧ ∀ k, has D1 k = true → eqd (D1.atKey k .nil) (D2.atKey k .nil) = true := by
  have c1' := c1
  have c2' := c2
  obtain ⟨es1, rfl, s1, k1⟩ := c1
  obtain ⟨es2, rfl, s2, k2⟩ := c2
  have hat : ∀ p ∈ es1, (DataW.map es1).atKey p.1 .nil = p.2 := fun p hp => WideAt.atKey_mem .nil (k1 p hp) (apart_of_rising s1) hp
  constructor
  · intro h
    unfold Lib.equalFuncD at h
    simp only [Bool.and_eq_true, decide_eq_true_eq, Lib.entriesD, List.all_eq_true, Lib.goodD] at h
    obtain ⟨hsz, hall⟩ := h
    have hsub : ∀ x ∈ es1.map Prod.fst, x ∈ es2.map Prod.fst := fun x hx => by
      obtain ⟨p, hp, rfl⟩ := List.mem_map.1 hx
      exact (has_mem k2).1 (hall p hp).1
    have hback := sub_of_len _ _ (keys_apart s1) hsub (by simp only [List.length_map]; exact hsz)
    refine ⟨fun k => ?_, fun k hk => ?_⟩
    · rw [Bool.eq_iff_iff, has_mem k1, has_mem k2]
      exact ⟨hsub k, hback k⟩
    · obtain ⟨p, hp, rfl⟩ := List.mem_map.1 ((has_mem k1).1 hk)
      rw [hat p hp]
      exact (hall p hp).2
  · rintro ⟨hh, he⟩
    unfold Lib.equalFuncD
    simp only [Bool.and_eq_true, decide_eq_true_eq, Lib.entriesD, List.all_eq_true, Lib.goodD]
    refine ⟨size_eq_of_has c1' c2' hh, fun p hp => ?_⟩
    have hk1 : has (DataW.map es1) p.1 = true := (has_mem k1).2 (List.mem_map.2 ⟨p, hp, rfl⟩)
    refine ⟨by rw [← hh]; exact hk1, ?_⟩
    have := he p.1 hk1
    rw [hat p hp] at this
    exact this
end

/-- Equality on data, decided by reason alone. -/
noncomputable def deq {H : Type} (x y : DataW H) : Bool := @decide (x = y) (Classical.propDecidable _)
theorem deq_iff {H : Type} {x y : DataW H} : deq x y = true ↔ x = y := by
  unfold deq
  exact @decide_eq_true_iff _ (Classical.propDecidable _)

/-- Maps of the same reading are equal just if they are one. -/
theorem equalD_deq {H : Type} {D1 D2 : DataW H} (c1 : Canon D1) (c2 : Canon D2) : Lib.equalFuncD deq D1 D2 = deq D1 D2 := by
  rw [Bool.eq_iff_iff, deq_iff, equalD_iff c1 c2]
  constructor
  · rintro ⟨hh, he⟩
    exact Maps.ext c1 c2 hh (fun k z hk => by
      have := deq_iff.1 (he k hk)
      rw [Maps.atKey_indep hk z .nil, Maps.atKey_indep (by rw [← hh]; exact hk) z .nil]
      exact this)
  · rintro rfl
    exact ⟨fun _ => rfl, fun k _ => deq_iff.2 rfl⟩

end Go.Proofs.Ytbejcmbdaoakbaa
