/- Lists of items in memory; layer 13's reference: Get, Items, Height; Same. -/
import Derived.Test.YtkhcaclndepgbaaGreatZe26
import Derived.Deep.LoopGhost
import Derived.Deep.RegionHeld3
import Derived.BigRegion
set_option linter.unusedVariables false
set_option linter.unusedSimpArgs false
set_option maxRecDepth 100000
set_option maxHeartbeats 20000000
namespace Go.Proofs.YtkhcaclndepgbaaGreat
open Go.RowKit
def itVs (l : List (Nat × Nat)) : List Value := l.flatMap fun p => [.int .u64 (p.1 : Int), .int .u64 (p.2 : Int)]
theorem itVs_len : ∀ l : List (Nat × Nat), (itVs l).length = l.length * 2
 | [] => rfl
 | p :: r => by
  have := itVs_len r
  show ([Value.int .u64 (p.1 : Int), .int .u64 (p.2 : Int)] ++ itVs r).length = _
  rw [List.length_append, this, List.length_cons]
  simp; omega
theorem itVs_app (l m : List (Nat × Nat)) : itVs (l ++ m) = itVs l ++ itVs m := List.flatMap_append
theorem itVs_cons (p : Nat × Nat) (r : List (Nat × Nat)) : itVs (p :: r) = .int .u64 (p.1 : Int) :: .int .u64 (p.2 : Int) :: itVs r := rfl
theorem itVs_get : ∀ (l : List (Nat × Nat)) (i : Nat), i < l.length → (itVs l)[i * 2]? = some (.int .u64 ((l.getD i (0, 0)).1 : Int)) ∧ (itVs l)[i * 2 + 1]? = some (.int .u64 ((l.getD i (0, 0)).2 : Int))
 | [], i, h => by simp at h
 | p :: r, 0, _ => by rw [itVs_cons]; exact ⟨rfl, rfl⟩
 | p :: r, i + 1, h => by
  have := itVs_get r i (by simpa using h)
  rw [itVs_cons, show (i + 1) * 2 = i * 2 + 1 + 1 by omega, show i * 2 + 1 + 1 + 1 = (i * 2 + 1) + 1 + 1 by omega, List.getElem?_cons_succ, List.getElem?_cons_succ, List.getElem?_cons_succ, List.getElem?_cons_succ, List.getD_cons_succ]
  exact this
theorem itVs_one {l : List (Nat × Nat)} : ∀ u, u ∈ itVs l → u.oneCell' = true := by
 intro u hu
 unfold itVs at hu
 obtain ⟨p, _, hp⟩ := List.mem_flatMap.1 hu
 simp only [List.mem_cons, List.not_mem_nil, or_false] at hp
 rcases hp with rfl | rfl <;> rfl
def It64 (l : List (Nat × Nat)) : Prop := ∀ p, p ∈ l → p.1 < 18446744073709551616 ∧ p.2 < 18446744073709551616
theorem It64.getD {l : List (Nat × Nat)} (h : It64 l) (i : Nat) : (l.getD i (0, 0)).1 < 18446744073709551616 ∧ (l.getD i (0, 0)).2 < 18446744073709551616 := by
 by_cases hi : i < l.length
 ·rw [List.getD_eq_getElem?_getD, List.getElem?_eq_getElem hi]
  exact h _ (List.getElem_mem hi)
 ·rw [List.getD_eq_getElem?_getD, List.getElem?_eq_none (by omega)]
  exact ⟨by decide, by decide⟩
structure ItemsIn (A : List Nat) (w : World) (v : Value) (l : List (Nat × Nat)) : Prop where
 e : ∃ a c, v = .slice a l.length c ∧ l.length ≤ c ∧ c ≤ maxLen ∧ (0 < l.length → ∃ b o, a = some ⟨b, o, none⟩ ∧ b < w.heap.size ∧ b ∉ A ∧ ∀ j, j < l.length * 2 → w.cell? ⟨b, o + j, none⟩ = (itVs l)[j]?)
 u : It64 l
section
variable {A : List Nat} {w w' : World} {v : Value} {l : List (Nat × Nat)}
theorem ItemsIn.chg {L : List Nat} (h : ItemsIn A w v l) (c : Chg L w w') (hL : ∀ k, k ∈ L → k ∈ A ∨ w.heap.size ≤ k) : ItemsIn A w' v l := by
 obtain ⟨⟨a, cp, rfl, h1, h2, h3⟩, hu⟩ := h
 refine ⟨⟨a, cp, rfl, h1, h2, fun h0 => ?_⟩, hu⟩
 obtain ⟨b, o, rfl, hb, hA, hc⟩ := h3 h0
 refine ⟨b, o, rfl, Nat.lt_of_lt_of_le hb c.size, hA, fun j hj => (c.cell (p := ⟨b, o + j, none⟩) hb (fun hm => ?_)).trans (hc j hj)⟩
 rcases hL _ hm with q | q
 ·exact hA q
 ·have : b < w.heap.size := hb
  change w.heap.size ≤ b at q
  omega
theorem ItemsIn.more {A' : List Nat} (h : ItemsIn A w v l) (hL : ∀ k, k ∈ A' → k ∈ A ∨ w.heap.size ≤ k) : ItemsIn A' w v l := by
 obtain ⟨⟨a, cp, rfl, h1, h2, h3⟩, hu⟩ := h
 refine ⟨⟨a, cp, rfl, h1, h2, fun h0 => ?_⟩, hu⟩
 obtain ⟨b, o, rfl, hb, hA, hc⟩ := h3 h0
 refine ⟨b, o, rfl, hb, fun hm => ?_, hc⟩
 rcases hL _ hm with q | q
 ·exact hA q
 ·omega
theorem ItemsIn.len (h : ItemsIn A w v l) : ∃ a c, v = .slice a l.length c ∧ l.length ≤ c ∧ c ≤ 9223372036854775807 := by
 obtain ⟨⟨a, cp, rfl, h1, h2, h3⟩, hu⟩ := h
 exact ⟨a, cp, rfl, h1, by unfold maxLen at h2; omega⟩
theorem ItemsIn.get {a : Option Addr} {n c : Nat} (h : ItemsIn A w (.slice a n c) l) {i : Nat} (hi : i < l.length) : ∃ b o, a = some ⟨b, o, none⟩ ∧ b < w.heap.size ∧ b ∉ A ∧ w.cell? ⟨b, o + i * 2, none⟩ = some (.int .u64 ((l.getD i (0, 0)).1 : Int)) ∧ w.cell? ⟨b, o + i * 2 + 1, none⟩ = some (.int .u64 ((l.getD i (0, 0)).2 : Int)) := by
 obtain ⟨⟨a, cp, e, h1, h2, h3⟩, hu⟩ := h
 injection e with e1 e2 e3
 subst e1
 obtain ⟨b, o, rfl, hb, hA, hc⟩ := h3 (by omega)
 have := itVs_get l i hi
 refine ⟨b, o, rfl, hb, hA, ?_, ?_⟩
 ·rw [hc _ (by omega)]; exact this.1
 ·rw [Nat.add_assoc, hc _ (by omega)]; exact this.2
theorem ItemsIn.of_own {base : Nat} (h : w.ownsRow base 104 2 v l.length (itVs l)) (hu : It64 l) (hA : ∀ g, v.ownBlock = some g → g ∉ A) : ItemsIn A w v l := by
 refine ⟨?_, hu⟩
 by_cases h0 : 0 < l.length
 ·obtain ⟨g, c, rfl, h1, h2, h3, h4, h5⟩ := ownRow_cells h h0
  exact ⟨_, c, rfl, h1, h2, fun _ => ⟨g, 0, rfl, h4, hA g rfl, fun j hj => by rw [Nat.zero_add]; exact h5 j hj⟩⟩
 ·obtain ⟨a, c, rfl, h1, h2⟩ := ownRow_slice h
  exact ⟨a, c, rfl, h1, h2, fun q => absurd q h0⟩
theorem ItemsIn.src (h : ItemsIn A w v l) (h0 : 0 < l.length) : AppSrc w 2 v l.length (itVs l) := by
 obtain ⟨⟨a, cp, rfl, h1, h2, h3⟩, hu⟩ := h
 obtain ⟨b, o, rfl, hb, hA, hc⟩ := h3 h0
 refine ⟨itVs_len l, itVs_one, .inl ⟨b, o, cp, rfl, hb, fun j u hu => ?_⟩⟩
 rw [hc j (by have := (List.getElem?_eq_some_iff.1 hu).1; rw [itVs_len] at this; exact this), hu]
end
theorem infoItem : (Tryz.prog.info? 104).map (fun i => (i.zero, i.size, i.bytes)) = some (some (.agg #[.int .u64 0, .int .u64 0]), 2, 16) := by kernel_rfl
def lookP (l : List (Nat × Nat)) (key : Nat) : Nat × Bool := match l.find? (fun p => p.1 == key) with
 | some p => (p.2, true)
 | none => (0, false)
theorem look_take {l : List (Nat × Nat)} {key i : Nat} (hi : i < l.length) (h : ∀ j, j < i → (l.getD j (0, 0)).1 ≠ key) (he : (l.getD i (0, 0)).1 = key) : lookP l key = ((l.getD i (0, 0)).2, true) := by
 have e : l.find? (fun p => p.1 == key) = some (l.getD i (0, 0)) := by
  rw [List.getD_eq_getElem?_getD, List.getElem?_eq_getElem hi] at he ⊢
  rw [List.find?_eq_some_iff_getElem]
  refine ⟨by simpa using he, i, hi, rfl, fun j hj => ?_⟩
  have := h j hj
  rw [List.getD_eq_getElem?_getD, List.getElem?_eq_getElem (by omega)] at this
  simpa using this
 unfold lookP
 rw [e]
theorem look_none {l : List (Nat × Nat)} {key : Nat} (h : ∀ j, j < l.length → (l.getD j (0, 0)).1 ≠ key) : lookP l key = (0, false) := by
 have e : l.find? (fun p => p.1 == key) = none := by
  rw [List.find?_eq_none]
  intro p hp
  obtain ⟨j, hj, rfl⟩ := List.mem_iff_getElem.1 hp
  have := h j hj
  rw [List.getD_eq_getElem?_getD, List.getElem?_eq_getElem hj] at this
  simpa using this
 unfold lookP
 rw [e]
theorem r13Get_at {A : List Nat} {w : World} {v : Value} {l : List (Nat × Nat)} (h : ItemsIn A w v l) (hl : l.length ≤ 1000000) (key : Nat) :
  Calls Tryz.prog 54 #[v, .int .u64 (key : Int)] w fun e w' => e = .returned (.tuple #[.int .u64 ((lookP l key).1 : Int), .bool (lookP l key).2]) ∧ w = w' := by
 obtain ⟨a, c, rfl, h1, h2⟩ := h.len
 have H := Lib.hid h
 clear h
 go_enter Tryz.func54, Tryz.ntmps54
 go_wp2_with fail
 go_loopw [6] (fun s wr => ∃ i : Nat, s = .int .i64 (i : Int) ∧ i ≤ l.length ∧ (∀ j, j < i → (l.getD j (0, 0)).1 ≠ key) ∧ w = wr) (fun s _ => l.length - (intOf s).toNat)
 case atStart => exact ⟨0, rfl, Nat.zero_le _, fun j hj => by omega, rfl⟩
 case round =>
  obtain ⟨i, rfl, hi, hno, rfl⟩ := hrel
  have HNO := Lib.hid hno
  clear hno
  by_cases hil : i < l.length
  ·obtain ⟨b, o, rfl, hb, _, c0, c1⟩ := H.out.get hil
   obtain ⟨x, hx⟩ : ∃ x, x = l.getD i (0, 0) := ⟨_, rfl⟩
   rw [← hx] at c0 c1
   have HX := Lib.hid hx
   clear hx
   obtain ⟨n, hn⟩ : ∃ n, n = l.length := ⟨_, rfl⟩
   rw [← hn] at hil h1 ⊢
   have i1 : (i : Int) < (n : Int) := by omega
   by_cases he : x.1 = key
   ·have e := look_take (by omega) HNO.out (by rw [← HX.out]; exact he)
    rw [← HX.out] at e
    have HE := Lib.hid e
    subst he
    clear e
    go_wp2_with fail
    go_ret2
    exact ⟨by rw [HE.out]; rfl, rfl⟩
   ·have i2 : ¬ ((x.1 : Int) = (key : Int)) := by omega
    have HE := Lib.hid he
    clear he
    go_wp2_with fail
    go_roundw
    case rel =>
     refine ⟨i + 1, by go_num, by omega, fun j hj => ?_, trivial⟩
     by_cases e : j = i
     ·subst e; rw [← HX.out]; exact HE.out
     ·exact HNO.out j (by omega)
    case measure => simp [intOf]; omega
  ·obtain rfl : i = l.length := by omega
   have e := look_none HNO.out
   have HE := Lib.hid e
   clear e
   go_wp2_with fail
   go_ret2
   exact ⟨by rw [HE.out]; rfl, rfl⟩
theorem same13_at {A A' : List Nat} {w : World} {v u : Value} {l m : List (Nat × Nat)} (h : ItemsIn A w v l) (k : ItemsIn A' w u m) (hl : l.length ≤ 1000000) :
  Calls Tryz.prog 57 #[v, u] w fun e w' => e = .returned (.bool (decide (l = m))) ∧ Chg [] w w' := by
 obtain ⟨a, c, rfl, h1, h2⟩ := h.len
 obtain ⟨a2, c2, rfl, k1, k2⟩ := k.len
 have H := Lib.hid (And.intro h k)
 clear h k
 by_cases hlm : l.length = m.length
 case neg =>
  have i1 : ¬ ((l.length : Int) = (m.length : Int)) := by omega
  have e : decide (l = m) = false := decide_eq_false fun q => hlm (by rw [q])
  have HE := Lib.hid e
  clear e hlm
  go_enter Tryz.func57, Tryz.ntmps57
  go_wp2_with fail
  go_ret
  exact ⟨by rw [HE.out]; simp [i1], Chg.refl _ _⟩
 have HLM := Lib.hid hlm
 obtain ⟨n, hn⟩ : ∃ n, n = l.length := ⟨_, rfl⟩
 have hn2 : m.length = n := by omega
 rw [hn2] at k1 H ⊢
 rw [← hn] at h1 H ⊢
 have HN := Lib.hid (And.intro hn hn2)
 have hl : n ≤ 1000000 := by omega
 clear hlm hn hn2
 go_enter Tryz.func57, Tryz.ntmps57
 go_wp2_with fail
 go_loopw [13] (fun s wr => ∃ i : Nat, s = .int .i64 (i : Int) ∧ i ≤ n ∧ (∀ j, j < i → l.getD j (0, 0) = m.getD j (0, 0)) ∧ Chg [] w wr) (fun s _ => n - (intOf s).toNat)
 case atStart => exact ⟨0, rfl, Nat.zero_le _, fun j hj => by omega, Chg.refl _ _⟩
 case round =>
  obtain ⟨i, rfl, hi, heq, hC⟩ := hrel
  have HQ := Lib.hid heq
  have HC := Lib.hid hC
  have H1 := H.out.1.chg hC (by simp)
  have H2 := H.out.2.chg hC (by simp)
  clear heq hC
  by_cases hil : i < n
  ·obtain ⟨b, o, rfl, hb, _, c0, c1⟩ := H1.get (i := i) (by rw [← HN.out.1]; exact hil)
   obtain ⟨b', o', rfl, hb', _, d0, d1⟩ := H2.get (i := i) (by rw [HN.out.2]; exact hil)
   obtain ⟨x, hx⟩ : ∃ x, x = l.getD i (0, 0) := ⟨_, rfl⟩
   obtain ⟨y, hy⟩ : ∃ y, y = m.getD i (0, 0) := ⟨_, rfl⟩
   rw [← hx] at c0 c1
   rw [← hy] at d0 d1
   have HX := Lib.hid (And.intro hx hy)
   clear hx hy H1 H2
   have i1 : (i : Int) < (n : Int) := by omega
   by_cases he : x = y
   ·subst he
    have HE := Lib.hid (HX.out.1.symm.trans HX.out.2)
    go_wp2_with fail
    go_region
    all_goals
     go_wp2_with fail
     go_roundw
     case rel =>
      refine ⟨i + 1, by go_num, by omega, fun j hj => ?_, HC.out.drew⟩
      by_cases e : j = i
      ·subst e; exact HE.out
      ·exact HQ.out j (by omega)
     case measure => simp [intOf]; omega
   ·have e : decide (l = m) = false := decide_eq_false fun q => he (by rw [HX.out.1, HX.out.2, q])
    have HE := Lib.hid e
    have hor : ¬ ((x.1 : Int) = (y.1 : Int)) ∨ ((x.1 : Int) = (y.1 : Int) ∧ ¬ ((x.2 : Int) = (y.2 : Int))) := by
     by_cases q : x.1 = y.1
     ·exact .inr ⟨by omega, fun q2 => he (Prod.ext q (by omega))⟩
     ·exact .inl (by omega)
    clear e he
    go_wp2_with fail
    rcases hor with i2 | ⟨i2, i3⟩
    all_goals
     go_region
     go_wp2_with fail
     go_ret
     exact ⟨by rw [HE.out]; rfl, HC.out.drew⟩
  ·obtain rfl : i = n := by omega
   have e : decide (l = m) = true := decide_eq_true (List.ext_getElem (by rw [← HN.out.1, HN.out.2]) fun j h1 h2 => by
    have := HQ.out j (by rw [HN.out.1]; exact h1)
    rw [List.getD_eq_getElem?_getD, List.getD_eq_getElem?_getD, List.getElem?_eq_getElem h1, List.getElem?_eq_getElem h2] at this
    exact this)
   have HE := Lib.hid e
   clear e
   go_wp2_with fail
   go_ret
   exact ⟨by rw [HE.out]; rfl, HC.out⟩
def itemsR (lo hi : Nat) (most : Int) : List (Nat × Nat) → List (Nat × Nat) → List (Nat × Nat)
 | [], acc => acc
 | p :: r, acc => if (acc.length : Int) < most then itemsR lo hi most r (if lo ≤ p.1 ∧ p.1 ≤ hi then acc ++ [p] else acc) else acc
theorem itemsR_is (lo hi : Nat) (most : Int) : ∀ (l acc : List (Nat × Nat)), (acc.length : Int) ≤ max most 0 → itemsR lo hi most l acc = (acc ++ l.filter fun p => decide (lo ≤ p.1) && decide (p.1 ≤ hi)).take (max most 0).toNat
 | [], acc, h => by
  show acc = _
  rw [List.filter_nil, List.append_nil, List.take_of_length_le (by omega)]
 | p :: r, acc, h => by
  unfold itemsR
  by_cases h1 : (acc.length : Int) < most
  ·rw [if_pos h1, List.filter_cons]
   by_cases h2 : lo ≤ p.1 ∧ p.1 ≤ hi
   ·rw [if_pos h2, if_pos (by simp [h2]), itemsR_is lo hi most r _ (by rw [List.length_append]; simp; omega), List.append_assoc]
    rfl
   ·rw [if_neg h2, if_neg (by simp; omega), itemsR_is lo hi most r _ h]
  ·rw [if_neg h1, List.take_append_of_le_length (by omega), List.take_of_length_le (by omega)]
theorem r13Items_at {A : List Nat} {w : World} {v : Value} {l : List (Nat × Nat)} (h : ItemsIn A w v l) (hl : l.length ≤ 1000000) (lo hi : Nat) (most : Int) :
  Calls Tryz.prog 58 #[v, .int .u64 (lo : Int), .int .u64 (hi : Int), .int .i64 most] w fun e w' => ∃ u, e = .returned u ∧ w'.ownsRow w.heap.size 104 2 u (itemsR lo hi most l []).length (itVs (itemsR lo hi most l [])) ∧ Chg [] w w' := by
 obtain ⟨a, c, rfl, h1, h2⟩ := h.len
 have H := Lib.hid h
 obtain ⟨R, hR⟩ : ∃ R, R = itemsR lo hi most l [] := ⟨_, rfl⟩
 rw [← hR]
 have HR := Lib.hid hR
 clear h hR
 go_enter Tryz.func58, Tryz.ntmps58
 go_wp2_with fail
 go_loopw [9, 10] (fun s t wr => ∃ (i : Nat) (acc : List (Nat × Nat)), t = .int .i64 (i : Int) ∧ i ≤ l.length ∧ acc.length ≤ i ∧ Hid (itemsR lo hi most (l.drop i) acc = R ∧ wr.ownsRow w.heap.size 104 2 s acc.length (itVs acc) ∧ Chg [] w wr)) (fun _ t _ => l.length - (intOf t).toNat)
 case atStart => exact ⟨0, [], rfl, Nat.zero_le _, Nat.le_refl _, Lib.hid ⟨HR.out.symm, ⟨rfl, .inl ⟨rfl, rfl⟩⟩, Chg.refl _ _⟩⟩
 case round =>
  obtain ⟨i, acc, rfl, hi', hacc, HX⟩ := hrel
  have hown := HX.out.2.1
  obtain ⟨sa, sc, rfl, s1, s2⟩ := ownRow_slice hown
  have HO := Lib.hid hown
  clear hown
  obtain ⟨n, hn⟩ : ∃ n, n = l.length := ⟨_, rfl⟩
  obtain ⟨m, hm⟩ : ∃ m, m = acc.length := ⟨_, rfl⟩
  rw [← hn] at h1 hl hi' H ⊢
  rw [← hm] at s1 hacc HO ⊢
  have HN := Lib.hid (And.intro hn hm)
  clear hn hm
  by_cases hil : i < n
  ·have i1 : (i : Int) < (n : Int) := by omega
   have hdr : l.drop i = l.getD i (0, 0) :: l.drop (i + 1) := by
    rw [List.getD_eq_getElem?_getD, List.getElem?_eq_getElem (by have := HN.out.1; omega)]
    exact List.drop_eq_getElem_cons _
   have hstep := HX.out.1
   rw [hdr, itemsR, ← HN.out.2] at hstep
   by_cases hmo : (m : Int) < most
   ·rw [if_pos hmo] at hstep
    obtain ⟨b, o, rfl, hb, hbA, c0, c1⟩ := (H.out.chg HX.out.2.2 (by simp)).get (i := i) (by have := HN.out.1; omega)
    obtain ⟨x, hx⟩ : ∃ x, x = l.getD i (0, 0) := ⟨_, rfl⟩
    rw [← hx] at c0 c1 hstep
    have HS := Lib.hid hstep
    clear hstep hdr hx
    by_cases hin : lo ≤ x.1 ∧ x.1 ≤ hi
    ·have i2 : (lo : Int) ≤ (x.1 : Int) := by omega
     have i3 : (x.1 : Int) ≤ (hi : Int) := by omega
     have HS2 := HS.out
     rw [if_pos hin] at HS2
     have HS3 := Lib.hid HS2
     have hcw := HX.out.2.2.size
     clear HS2 HS
     go_upto_region 6 with fail
     have hnb := new_block wr (.cells #[.int .u64 (x.1 : Int), .int .u64 (x.2 : Int)] 104)
     have hcb := (Chg.refl [] wr).alloc (.cells #[.int .u64 (x.1 : Int), .int .u64 (x.2 : Int)] 104)
     have H4 := Lib.hid (And.intro (ownRow_chg HO.out hcb (by simp)) (And.intro hnb (And.intro (HX.out.2.2.trans hcb) (Nat.le_trans hcw hcb.size))))
     clear hnb hcb
     go_wp2_with (at_builtin; refine wpList_app rfl _ _ 83 rfl rfl (base := w.heap.size) (size := 2) (n := m) (m := 1) (xs := itVs acc) (news := [.int .u64 (x.1 : Int), .int .u64 (x.2 : Int)]) Tryz.underlying83 infoItem rfl (by omega) (by omega) rfl rfl H4.out.1 (AppSrc.blk H4.out.2.1 rfl (fun u hu => by simp at hu; rcases hu with rfl | rfl <;> rfl)) (by omega) H4.out.2.2.2 ?_; intro v' w5 hown5 hg5 ho5; have H5 := Lib.hid (And.intro hown5 (And.intro hg5 ho5)); clear hown5 hg5 ho5)
     go_roundw
     case rel =>
      refine ⟨i + 1, acc ++ [x], by go_num, by omega, by rw [List.length_append, ← HN.out.2]; simp; omega, Lib.hid ⟨HS3.out, ?_, ?_⟩⟩
      ·rw [List.length_append, itVs_app, ← HN.out.2]
       exact H5.out.1
      ·exact H4.out.2.2.1.grown H5.out.2.1 (fun k hk => .inr (HO.out.lt k hk).1)
     case measure => simp [intOf]; omega
    ·have HS2 := HS.out
     rw [if_neg hin] at HS2
     have HS3 := Lib.hid HS2
     have hor : ¬ ((lo : Int) ≤ (x.1 : Int)) ∨ ((lo : Int) ≤ (x.1 : Int) ∧ ¬ ((x.1 : Int) ≤ (hi : Int))) := by omega
     clear HS2 HS hin
     rcases hor with i2 | ⟨i2, i3⟩
     all_goals
      go_wp2_with fail
      go_roundw
      case rel => exact ⟨i + 1, acc, by go_num, by omega, by rw [← HN.out.2]; omega, Lib.hid ⟨HS3.out, by rw [← HN.out.2]; exact HO.out, HX.out.2.2⟩⟩
      case measure => simp [intOf]; omega
   ·rw [if_neg hmo] at hstep
    have HS := Lib.hid hstep
    clear hstep hdr
    go_wp2_with fail
    go_ret
    refine ⟨_, rfl, ?_, HX.out.2.2⟩
    rw [← HS.out, ← HN.out.2]
    exact HO.out
  ·obtain rfl : i = n := by omega
   have hstep := HX.out.1
   rw [List.drop_of_length_le (by have := HN.out.1; omega)] at hstep
   have HS := Lib.hid (show acc = R from hstep)
   clear hstep
   go_wp2_with fail
   go_ret
   refine ⟨_, rfl, ?_, HX.out.2.2⟩
   rw [← HS.out, ← HN.out.2]
   exact HO.out
def highN : Nat → Nat → Nat
 | 0, _ => 0
 | f + 1, n => if 7 < n then highN f ((n + 6) / 7) + 1 else 1
def highR (n : Nat) : Nat := if n = 0 then 0 else highN 10 n
theorem r13Height_at {n : Nat} (hn : n ≤ 1000000) (w : World) : Calls Tryz.prog 59 #[.int .i64 (n : Int)] w fun e w' => e = .returned (.int .i64 (highR n : Int)) ∧ w = w' := by
 unfold highR
 by_cases h0 : n = 0
 ·subst h0
  go_enter Tryz.func59, Tryz.ntmps59
  go_wp2_with fail
  go_ret
  exact ⟨rfl, rfl⟩
 rw [if_neg h0]
 have hhi : ∀ f n, highN f n ≤ f := fun f => by
  induction f with
  | zero => intro n; exact Nat.le_refl _
  | succ f ih =>
   intro n
   unfold highN
   split
   ·have := ih ((n + 6) / 7)
    omega
   ·omega
 obtain ⟨R, hR⟩ : ∃ R, R = highN 10 n := ⟨_, rfl⟩
 rw [← hR]
 have HR := Lib.hid hR
 have i0 : ¬ (n : Int) = 0 := by omega
 have hRle : R ≤ 10 := by rw [hR]; exact hhi _ _
 clear hR hhi
 go_enter Tryz.func59, Tryz.ntmps59
 go_wp2_with fail
 go_loopw [0, 3] (fun s t wr => ∃ (m k f : Nat), s = .int .i64 (m : Int) ∧ t = .int .i64 (k : Int) ∧ 1 ≤ k ∧ k + f = 10 ∧ m ≤ 7 ^ f ∧ m ≤ 1000000 ∧ k - 1 + highN (f + 1) m = R ∧ w = wr) (fun s _ _ => (intOf s).toNat)
 case atStart => exact ⟨n, 1, 9, rfl, rfl, by omega, rfl, by omega, hn, by rw [HR.out]; show 1 - 1 + highN 10 n = highN 10 n; omega, rfl⟩
 case round =>
  obtain ⟨m, k, f, rfl, rfl, hk, hkf, hmf, hm, hR, rfl⟩ := hrel
  have HF := Lib.hid (And.intro hmf hR)
  clear hmf hR
  by_cases h7 : 7 < m
  ·have i1 : (7 : Int) < (m : Int) := by omega
   have e1 : ((m : Int) + 6).tdiv 7 = (((m + 6) / 7 : Nat) : Int) := by rw [Int.tdiv_eq_ediv_of_nonneg (by omega)]; omega
   obtain ⟨f', rfl⟩ : ∃ f', f = f' + 1 := by
    cases f with
    | zero => have := HF.out.1; simp at this; omega
    | succ f => exact ⟨f, rfl⟩
   go_wp2_with fail
   go_roundw
   case rel =>
    have h1 := HF.out.1
    have h2 := HF.out.2
    rw [Nat.pow_succ] at h1
    unfold highN at h2
    rw [if_pos h7] at h2
    exact ⟨(m + 6) / 7, k + 1, f', by go_num, by go_num, by omega, by omega, by omega, by omega, by omega, trivial⟩
   case measure => simp [intOf]; omega
  ·have i1 : ¬ (7 : Int) < (m : Int) := by omega
   go_wp2_with fail
   go_ret
   have h2 := HF.out.2
   unfold highN at h2
   rw [if_neg h7] at h2
   have : k = R := by omega
   exact ⟨by rw [← this]; rfl, rfl⟩
end Go.Proofs.YtkhcaclndepgbaaGreat
