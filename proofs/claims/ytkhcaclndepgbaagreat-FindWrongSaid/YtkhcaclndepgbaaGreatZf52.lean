/- catchmentlaw13.FindWrong in plain words. · catchmentlaw13.FindWrong: the walk. · The statement 'FindWrong': the Go function returns true at every input, and leaves what came in as it was. No condition. -/
import Derived.Test.YtkhcaclndepgbaaGreatZf51
import Derived.Test.YtkhcaclndepgbaaGreatZf48
import Derived.Deep.LoopGhost
import Derived.BigQuiet
import Derived.Test.YtkhcaclndepgbaaGreatRows
import Derived.WalkKit
import Derived.ProofKit
import Derived.OpenShut
import Derived.ShutString
import Derived.ChangeOld
import Derived.Below
import Derived.SizedLaws
set_option linter.unusedVariables false
set_option linter.unusedSimpArgs false
set_option maxRecDepth 100000
set_option maxHeartbeats 20000000
namespace Go.Proofs.YtkhcaclndepgbaaGreat
structure Two13 (B : Bs) (x : Nat) (d : Nd) : Prop where
 ok : B.Ok
 node : B.nodeI (x : Int) = some d
 leaf : d.leaf = false
 n : 2 ≤ d.n ∧ d.n ≤ 7
 bd : 2 ≤ x ∧ x < B.T.n
 kid : ∀ i, i < d.n → 2 ≤ d.v i ∧ d.v i < B.T.n ∧ d.v i ≠ x ∧ ∃ e, B.nodeI (d.v i : Int) = some e ∧ e.leaf = true ∧ 3 ≤ e.n ∧ ∀ j, j < e.n → d.k i ≤ e.k j
 apart : ∀ i j, i < j → j < d.n → d.v i ≠ d.v j
 asc : ascTo d.k d.n
 k64 : ∀ i, i < d.n → d.k i < 18446744073709551616
 fr : (B.fr x).isSome = true
theorem highN_two {n : Nat} (h8 : 8 ≤ n) (h49 : n ≤ 49) : highR n = 2 := by
 unfold highR
 rw [if_neg (by omega), highN, if_pos (by omega), highN, if_neg (by omega)]
theorem bldP_put : ∀ (f k : Nat) (l : List (Nat × Nat)) (B B' : Bs) (x : Nat), (B', x) = bldP f k l B → (x = 0 ∨ ∃ (B2 : Bs) (g : Nat → Nat), B' = B2.put g ∧ x = B2.at_)
 | 0, k, l, B, B', x, h => by
  rw [bldP] at h
  injection h with _ h
  exact .inl h
 | f + 1, k, l, B, B', x, h => by
  rw [bldP] at h
  split at h
  ·rw [lvlP_succ] at h
   injection h with h1 h2
   exact .inr ⟨_, _, h1, h2⟩
  ·exact bldP_put f (k + 1) _ _ _ _ h
theorem two_of {B : Bs} {N G x : Nat} {items : List (Nat × Nat)} (hg : Good N G B) (T : TreeOf B (x : Int) items) (hh : heightP B 8 (x : Int) = (highR items.length, 0)) (h8 : 8 ≤ items.length) (h49 : items.length ≤ 49) (hP : (B, x) = bldP 8 0 items (Bs.fmt N)) : ∃ d, Two13 B x d := by
 rcases T with ⟨_, rfl⟩ | ⟨h, T, hh8⟩
 ·simp at h8
 ·have e := T.height hg.ok hh8
  rw [hh, highN_two h8 h49] at e
  injection e with e _
  obtain rfl : h = 1 := by omega
  have hTn : B.T.n ≤ 4096 := hg.ok.n.2
  obtain ⟨d, I⟩ := right_inner T.right
  obtain ⟨dok, x2, xN⟩ := hg.ok.node_ok I.node
  have hk := (kidsB_iff _ _).1 (dok.kids I.leaf)
  refine ⟨d, hg.ok, I.node, I.leaf, ⟨I.least, dok.n⟩, ⟨by omega, by omega⟩, fun i hi => ?_, hk.2.2, dok.asc, dok.k, ?_⟩
  ·have hb := I.kid i hi
   obtain ⟨e, e1, e2, e3, _, e5⟩ := right_leaf (I.right i hi)
   refine ⟨hb.1, hb.2, fun q => ?_, e, e1, e2, e3, fun j hj => (e5 j hj).1⟩
   rw [q, I.node] at e1
   have := Option.some.inj e1
   rw [← this, I.leaf] at e2
   cases e2
  ·rcases bldP_put _ _ _ _ _ _ hP with h0 | ⟨B2, g, hB, hx⟩
   ·omega
   ·rw [hB, hx]
    show (if B2.at_ = B2.at_ then some g else B2.fr B2.at_).isSome = true
    rw [if_pos rfl]; rfl
inductive Spoil (d : Nd) (x N n : Nat) (v : Nat → Nat) (i : Nat) : Prop where
 | swap (hn : n = d.n) (h : ∀ j, j < n → v j = if j = i then d.v 0 else if j = 0 then d.v i else d.v j) : Spoil d x N n v i
 | self (hn : n = d.n) (h : ∀ j, j < n → v j = if j = i then x else d.v j) : Spoil d x N n v i
 | one (hn : n = d.n) (h : ∀ j, j < n → v j = if j = i then 1 else d.v j) : Spoil d x N n v i
 | far (hn : n = d.n) (h : ∀ j, j < n → v j = if j = i then N else d.v j) : Spoil d x N n v i
 | few (hn : n = 1) (h : v 0 = d.v 0) : Spoil d x N n v i
theorem spoil_right {B : Bs} {x n i : Nat} {d : Nd} {v : Nat → Nat} (T : Two13 B x d) (hi : 1 ≤ i ∧ i < d.n) (hN : B.T.n = 200) (S : Spoil d x 200 n v i) : rightB false n n d.k v = true ∧ 1 ≤ n ∧ n ≤ 7 ∧ n ≤ d.n := by
 have hn := T.n
 have goal : ∀ m, m ≤ d.n → 1 ≤ m → (∀ j, j < m → 1 ≤ v j ∧ v j ≤ 4095) → (∀ a b, a < b → b < m → v a ≠ v b) → rightB false m m d.k v = true := fun m hm h1 ha hb => by
  unfold rightB
  rw [decide_eq_true (show m ≤ 7 by omega), decide_eq_true rfl, (ascB_iff _ _).2 (fun j h0 hj => T.asc j h0 (by omega)), (kidsB_iff _ _).2 ⟨h1, fun j hj => ⟨by have := (ha j hj).1; omega, by have := (ha j hj).2; omega⟩, hb⟩]
  rfl
 have hk := fun j (hj : j < d.n) => T.kid j hj
 cases S with
 | few h1 h2 =>
  subst h1
  exact ⟨goal 1 (by omega) (by omega) (fun j hj => by obtain rfl : j = 0 := (by omega); have := hk 0 (by omega); rw [h2]; omega) (fun a b _ _ => by omega), by omega, by omega, by omega⟩
 | swap h1 h2 =>
  subst h1
  refine ⟨goal d.n (Nat.le_refl _) (by omega) (fun j hj => ?_) (fun a b hab hb => ?_), by omega, by omega, by omega⟩
  ·rw [h2 j hj]
   have k0 := hk 0 (by omega); have k1 := hk i hi.2; have k2 := hk j hj
   split
   ·omega
   ·split <;> omega
  ·rw [h2 a (by omega), h2 b hb]
   have ap : ∀ p q, p ≠ q → p < d.n → q < d.n → d.v p ≠ d.v q := fun p q hpq hp hq e => by
    rcases Nat.lt_or_gt_of_ne hpq with h | h
    ·exact T.apart p q h hq e
    ·exact T.apart q p h hp e.symm
   by_cases e1 : a = i
   ·rw [if_pos e1, if_neg (by omega), if_neg (by omega)]; exact ap _ _ (by omega) (by omega) hb
   ·rw [if_neg e1]
    by_cases e2 : a = 0
    ·rw [if_pos e2]
     by_cases e3 : b = i
     ·rw [if_pos e3]; exact ap _ _ (by omega) hi.2 (by omega)
     ·rw [if_neg e3, if_neg (by omega)]; exact ap _ _ (by omega) hi.2 hb
    ·rw [if_neg e2]
     by_cases e3 : b = i
     ·rw [if_pos e3]; exact ap _ _ (by omega) (by omega) (by omega)
     ·rw [if_neg e3, if_neg (by omega)]; exact ap _ _ (by omega) (by omega) hb
 | self h1 h2 =>
  subst h1
  refine ⟨goal d.n (Nat.le_refl _) (by omega) (fun j hj => ?_) (fun a b hab hb => ?_), by omega, by omega, by omega⟩
  ·rw [h2 j hj]
   have k2 := hk j hj; have := T.bd
   split <;> omega
  ·rw [h2 a (by omega), h2 b hb]
   have ka := (hk a (by omega)).2.2.1; have kb := (hk b hb).2.2.1; have kab := T.apart a b hab hb
   split
   ·rw [if_neg (by omega)]; exact fun e => kb e.symm
   ·split
    ·exact ka
    ·exact kab
 | one h1 h2 =>
  subst h1
  refine ⟨goal d.n (Nat.le_refl _) (by omega) (fun j hj => ?_) (fun a b hab hb => ?_), by omega, by omega, by omega⟩
  ·rw [h2 j hj]
   have k2 := hk j hj
   split <;> omega
  ·rw [h2 a (by omega), h2 b hb]
   have ka := hk a (by omega); have kb := hk b hb; have kab := T.apart a b hab hb
   split
   ·rw [if_neg (by omega)]; omega
   ·split
    ·omega
    ·exact kab
 | far h1 h2 =>
  subst h1
  refine ⟨goal d.n (Nat.le_refl _) (by omega) (fun j hj => ?_) (fun a b hab hb => ?_), by omega, by omega, by omega⟩
  ·rw [h2 j hj]
   have k2 := hk j hj
   split <;> omega
  ·rw [h2 a (by omega), h2 b hb]
   have ka := hk a (by omega); have kb := hk b hb; have kab := T.apart a b hab hb
   split
   ·rw [if_neg (by omega)]; omega
   ·split
    ·omega
    ·exact kab
theorem spoil_v64 {B : Bs} {x n i : Nat} {d : Nd} {v : Nat → Nat} (T : Two13 B x d) (hi : 1 ≤ i ∧ i < d.n) (hN : B.T.n = 200) (S : Spoil d x 200 n v i) : ∀ j, j < n → v j < 18446744073709551616 := by
 have hk := fun j (hj : j < d.n) => T.kid j hj
 have hx := T.bd
 intro j hj
 cases S with
 | few h1 h2 => obtain rfl : j = 0 := (by omega); have := hk 0 (by omega); rw [h2]; omega
 | swap h1 h2 =>
  rw [h2 j hj]; have k0 := hk 0 (by omega); have k1 := hk i hi.2; have k2 := hk j (by omega)
  split
  ·omega
  ·split <;> omega
 | self h1 h2 => rw [h2 j hj]; have k2 := hk j (by omega); split <;> omega
 | one h1 h2 => rw [h2 j hj]; have k2 := hk j (by omega); split <;> omega
 | far h1 h2 => rw [h2 j hj]; have k2 := hk j (by omega); split <;> omega
theorem over_node {B : Bs} {x : Nat} {f : Nat → Nat} (h2 : 2 ≤ x) (hN : x < B.T.n) : (B.over x f).nodeI (x : Int) = decN f ∧ ∀ y : Nat, y ≠ x → (B.over x f).nodeI (y : Int) = B.nodeI (y : Int) := by
 constructor
 ·unfold Bs.nodeI
  rw [if_pos (inI_iff.2 ⟨by omega, by show (x : Int) < (B.T.n : Int); omega⟩), Int.toNat_natCast]
  congr 1
  unfold Bs.read Bs.over
  simp
 ·intro y hy
  unfold Bs.nodeI
  have : (B.over x f).inI (y : Int) = B.inI (y : Int) := rfl
  rw [this]
  congr 1
  rw [Int.toNat_natCast]
  congr 1
  unfold Bs.read Bs.over
  simp [hy]
theorem spoil_no {B : Bs} {x n i : Nat} {d : Nd} {v : Nat → Nat} (T : Two13 B x d) (hi : 1 ≤ i ∧ i < d.n) (hN : B.T.n = 200) (S : Spoil d x 200 n v i) : rightT (B.over x (pageF false n d.k v)) (x : Int) = false := by
 obtain ⟨hr, n1, n7, nd⟩ := spoil_right T hi hN S
 obtain ⟨e, he, el, en, ek, ev⟩ := decN_page hr (fun j hj => T.k64 j (by omega)) (spoil_v64 T hi hN S)
 obtain ⟨ox, oy⟩ := over_node (f := pageF false n d.k v) T.bd.1 T.bd.2
 rw [he] at ox
 have hN2 : (B.over x (pageF false n d.k v)).T.n = 200 := hN
 generalize B.over x (pageF false n d.k v) = B2 at ox oy hN2 ⊢
 cases hq : rightT B2 (x : Int) with
 | false => rfl
 | true =>
  exfalso
  have hx := T.bd
  unfold rightT at hq
  rw [show ((x : Int) == 0) = false by rw [beq_eq_false_iff_ne]; omega, Bool.false_or, Bool.and_eq_true] at hq
  have hr2 := hq.2
  obtain ⟨H, hH⟩ : ∃ H, H = (heightP B2 8 (x : Int)).1 := ⟨_, rfl⟩
  rw [← hH] at hr2
  clear hq hH hr he
  cases hh : H - 1 with
  | zero =>
   rw [hh] at hr2
   obtain ⟨e', e1, e2, -⟩ := right_leaf hr2
   rw [ox] at e1
   have e1 := Option.some.inj e1
   rw [← e1, el] at e2
   cases e2
  | succ h =>
   rw [hh, if_pos (show 1 < H by omega)] at hr2
   obtain ⟨e', I⟩ := right_inner hr2
   have e1 := I.node
   rw [ox] at e1
   obtain rfl := Option.some.inj e1
   have hle := I.least
   have hkd := I.kid
   have hrt := I.right
   have hk := fun j (hj : j < d.n) => T.kid j hj
   rw [en] at hle
   have leaf0 : ∀ j, j < n → ∀ p, p < d.n → v j = d.v p → h = 0 ∧ ∃ q, B2.nodeI (v j : Int) = some q ∧ 3 ≤ q.n ∧ (∀ m, m < q.n → d.k p ≤ q.k m) ∧ ∀ m, m < q.n → q.k m ≤ e.hi 18446744073709551615 j := fun j hj p hp hv => by
    have r := hrt j (by rw [en]; exact hj)
    rw [ev j hj, hv] at r
    obtain ⟨k1, k2, k3, q, q1, q2, q3, q4⟩ := hk p hp
    have q1' := (oy (d.v p) k3).trans q1
    cases h with
    | zero =>
     obtain ⟨q', a1, a2, a3, a4, a5⟩ := right_leaf r
     rw [q1'] at a1
     obtain rfl := Option.some.inj a1
     exact ⟨rfl, q, by rw [hv]; exact q1', q3, q4, fun m hm => (a5 m hm).2⟩
    | succ h =>
     obtain ⟨q', J⟩ := right_inner r
     have a1 := J.node
     rw [q1'] at a1
     obtain rfl := Option.some.inj a1
     rw [J.leaf] at q2
     cases q2
   cases S with
   | few h1 h2 => omega
   | swap h1 h2 =>
    subst h1
    have hv0 : v 0 = d.v i := by rw [h2 0 (by omega), if_neg (by omega), if_pos rfl]
    obtain ⟨-, q, -, q3, q4, q5⟩ := leaf0 0 (by omega) i hi.2 hv0
    have a := q4 0 (by omega)
    have b := q5 0 (by omega)
    unfold Nd.hi at b
    rw [en, if_pos (by omega), ek 1 (by omega)] at b
    have c : d.k 1 ≤ d.k i := by
     by_cases e1 : i = 1
     ·rw [e1]; exact Nat.le_refl _
     ·exact Nat.le_of_lt (asc_lt T.asc (by omega) hi.2)
    have c0 := asc_lt T.asc (i := 0) (j := 1) (by omega) (by omega)
    omega
   | self h1 h2 =>
    subst h1
    have hv0 : v 0 = d.v 0 := by rw [h2 0 (by omega), if_neg (by omega)]
    obtain ⟨h0, -⟩ := leaf0 0 (by omega) 0 (by omega) hv0
    subst h0
    have r := hrt i (by rw [en]; exact hi.2)
    rw [ev i hi.2, h2 i hi.2, if_pos rfl] at r
    obtain ⟨q', a1, a2, -⟩ := right_leaf r
    rw [ox] at a1
    obtain rfl := Option.some.inj a1
    rw [el] at a2
    cases a2
   | one h1 h2 =>
    subst h1
    have r := hkd i (by rw [en]; exact hi.2)
    rw [ev i hi.2, h2 i hi.2, if_pos rfl] at r
    omega
   | far h1 h2 =>
    subst h1
    have r := hkd i (by rw [en]; exact hi.2)
    rw [ev i hi.2, h2 i hi.2, if_pos rfl] at r
    omega
end Go.Proofs.YtkhcaclndepgbaaGreat
namespace Go.Proofs.YtkhcaclndepgbaaGreat
open Go.RowKit
structure Wr (w1 wr : World) (nb kb vb : Nat) (d : Nd) (n : Nat) (v : Nat → Nat) : Prop where
 c : Chg [] w1 wr
 box : wr.heap[nb]? = some (.cells #[.bool false, .slice (some ⟨kb, 0, none⟩) n d.n, .slice (some ⟨vb, 0, none⟩) n d.n] 107 (0, 0))
 k : Row64 wr kb d.n d.k
 v : ∃ u, Row64 wr vb d.n u ∧ ∀ j, j < n → u j = v j
 ne : kb ≠ vb ∧ kb ≠ nb ∧ vb ≠ nb ∧ w1.heap.size ≤ kb ∧ w1.heap.size ≤ vb ∧ w1.heap.size ≤ nb
theorem Row64.chg0 {w w' : World} {g n : Nat} {f : Nat → Nat} (h : Row64 w g n f) (c : Chg [] w w') : Row64 w' g n f :=
 ⟨fun j hj => by rw [c.cell (p := ⟨g, 0 + j, none⟩) h.lt (by simp)]; exact h.nums j hj, by obtain ⟨cur, k⟩ := h.blk; exact ⟨cur, (c.block _ (heap_lt k) (by simp)).trans k⟩⟩
theorem Wr.chg {w1 wr w' : World} {nb kb vb : Nat} {d : Nd} {n : Nat} {v : Nat → Nat} (h : Wr w1 wr nb kb vb d n v) (c : Chg [] wr w') : Wr w1 w' nb kb vb d n v :=
 ⟨h.c.trans c, (c.block _ (heap_lt h.box) (by simp)).trans h.box, h.k.chg0 c, by obtain ⟨u, h1, h2⟩ := h.v; exact ⟨u, h1.chg0 c, h2⟩, h.ne⟩
theorem Wr.vals {w1 wr : World} {nb kb vb : Nat} {d : Nd} {n j : Nat} {v : Nat → Nat} (h : Wr w1 wr nb kb vb d n v) (hn : n = d.n) (hj : j < n) : wr.cell? ⟨vb, j, none⟩ = some (.int .u64 (v j : Int)) := by
 obtain ⟨u, h1, h2⟩ := h.v
 rw [← h2 j hj]
 exact h1.cell (by rw [← hn]; exact hj)
theorem Wr.set {w1 wr : World} {nb kb vb : Nat} {d : Nd} {n j x : Nat} {v : Nat → Nat} (h : Wr w1 wr nb kb vb d n v) (hj : j < d.n) (hx : x < 18446744073709551616) : Wr w1 (wr.setCell ⟨vb, j, none⟩ (.int .u64 (x : Int))) nb kb vb d n (fun m => if m = j then x else v m) := by
 have c : Chg [vb] wr (wr.setCell ⟨vb, j, none⟩ (.int .u64 (x : Int))) := (Chg.refl [vb] wr).setCell (.inl (by simp)) _
 obtain ⟨u, h1, h2⟩ := h.v
 obtain ⟨e1, e2, e3, e4, e5, e6⟩ := h.ne
 refine ⟨h.c.setCell (.inr e5) _, (c.block _ (heap_lt h.box) (by simp; exact fun e => e3 e.symm)).trans h.box, ⟨fun m hm => ?_, ?_⟩, ⟨fun m => if m = j then x else u m, ⟨fun m hm => ?_, ?_⟩, fun m hm => ?_⟩, h.ne⟩
 ·rw [c.cell (p := ⟨kb, 0 + m, none⟩) h.k.lt (by simp; exact e1)]; exact h.k.nums m hm
 ·obtain ⟨cur, k⟩ := h.k.blk; exact ⟨cur, (c.block _ (heap_lt k) (by simp; exact e1)).trans k⟩
 ·have hc := h1.cell hj
  by_cases e : m = j
  ·subst e
   rw [if_pos rfl, Nat.zero_add]
   exact ⟨World.cell?_setCell_same _ _ _ hc, hx⟩
  ·rw [if_neg e]
   refine ⟨?_, (h1.nums m hm).2⟩
   rw [World.cell?_setCell_other _ _ _ _ (fun q => by injection q with _ q _; omega)]
   exact (h1.nums m hm).1
 ·obtain ⟨cur, k⟩ := h1.blk
  exact ⟨_, setCell_block k j _⟩
 ·show (if m = j then x else u m) = if m = j then x else v m
  split
  ·rfl
  ·exact h2 m hm
theorem Wr.fro {w1 wr : World} {nb kb vb : Nat} {d : Nd} {n : Nat} {v : Nat → Nat} (h : Wr w1 wr nb kb vb d n v) (j : Nat) : wr.frozen? ⟨vb, j, none⟩ = false := by
 obtain ⟨u, h1, h2⟩ := h.v
 obtain ⟨cur, k⟩ := h1.blk
 exact frozen_of_block k j
theorem Wr.few {w1 wr : World} {nb kb vb : Nat} {d : Nd} {n : Nat} {v : Nat → Nat} (h : Wr w1 wr nb kb vb d n v) (h1 : 1 ≤ n) : Wr w1 ((wr.setCell ⟨nb, 1, none⟩ (.slice (some ⟨kb, 0, none⟩) 1 d.n)).setCell ⟨nb, 2, none⟩ (.slice (some ⟨vb, 0, none⟩) 1 d.n)) nb kb vb d 1 v := by
 have c : Chg [nb] wr ((wr.setCell ⟨nb, 1, none⟩ (.slice (some ⟨kb, 0, none⟩) 1 d.n)).setCell ⟨nb, 2, none⟩ (.slice (some ⟨vb, 0, none⟩) 1 d.n)) := ((Chg.refl [nb] wr).setCell (.inl (by simp)) _).setCell (.inl (by simp)) _
 obtain ⟨u, h2, h3⟩ := h.v
 obtain ⟨e1, e2, e3, e4, e5, e6⟩ := h.ne
 refine ⟨(h.c.setCell (.inr e6) _).setCell (.inr e6) _, setCell_block (setCell_block h.box 1 _) 2 _, ⟨fun m hm => ?_, ?_⟩, ⟨u, ⟨fun m hm => ?_, ?_⟩, fun m hm => h3 m (by omega)⟩, h.ne⟩
 ·rw [c.cell (p := ⟨kb, 0 + m, none⟩) h.k.lt (by simp; exact e2)]; exact h.k.nums m hm
 ·obtain ⟨cur, k⟩ := h.k.blk; exact ⟨cur, (c.block _ (heap_lt k) (by simp; exact e2)).trans k⟩
 ·rw [c.cell (p := ⟨vb, 0 + m, none⟩) h2.lt (by simp; exact e3)]; exact h2.nums m hm
 ·obtain ⟨cur, k⟩ := h2.blk; exact ⟨cur, (c.block _ (heap_lt k) (by simp; exact e3)).trans k⟩
theorem tmod_idx {z m j : Nat} (hz : z ≤ 255) (hj : j = z % m) : (z : Int).tmod (m : Int) = (j : Int) := by
 have e2 : (z : Int).tmod (m : Int) = (z : Int) % (m : Int) := Int.tmod_eq_emod_of_nonneg (Int.natCast_nonneg z)
 have e3 : (z : Int) % (m : Int) = (j : Int) := by
  subst hj
  exact (Int.natCast_emod z m).symm
 exact e2.trans e3
theorem findWrong_walk (a0 : Option Addr) (len0 cap0 : Nat) (l : List (Nat × Nat)) (x1 x2 : Int) (w : World)
  (h0 : ItemsIn [] w (.slice a0 len0 cap0) l) (h1 : (Lit.int .u8 x1).wf = true) (h2 : (Lit.int .u8 x2).wf = true) (hreach : len0 * 16 ≤ 140737488351232) :
  Calls Tryz.prog 10 #[.slice a0 len0 cap0, .int .u8 x1, .int .u8 x2] w fun e w' => e = .returned (.bool true) ∧ Below w.heap.size w w' := by
 obtain ⟨a, c, e, hc1, hc2⟩ := h0.len
 injection e with e1 e2 e3
 subst e1; subst e3
 obtain ⟨how, rfl, hhow⟩ : ∃ y : Nat, x1 = (y : Int) ∧ y ≤ 255 := by
  have := bd_u8 h1
  exact ⟨x1.toNat, by omega, by omega⟩
 obtain ⟨at3, rfl, hat3⟩ : ∃ y : Nat, x2 = (y : Int) ∧ y ≤ 255 := by
  have := bd_u8 h2
  exact ⟨x2.toNat, by omega, by omega⟩
 have HAW := Lib.hid awake13_at
 have H0 := Lib.hid h0
 have HL := Lib.hid e2
 have cR := rising13_at h0 (by rw [← e2]; omega)
 rw [← e2] at hc1
 clear h0 h1 h2 e2
 go_enter Tryz.func10, Tryz.ntmps10
 go_wp2_with fail
 refine cR.mono ?_
 clear cR
 rintro e w1 ⟨u, rfl, hown, hc⟩
 obtain ⟨r1, r2, r3, -, -⟩ := ris_all H0.out.u
 rw [← HL.out] at r3
 obtain ⟨ua, uc, rfl, u1, u2⟩ := ownRow_slice hown
 obtain ⟨R, hR⟩ : ∃ R, R = risL l := ⟨_, rfl⟩
 rw [← hR] at hown r1 r2 r3 u1 ⊢
 obtain ⟨m, hm⟩ : ∃ m, m = R.length := ⟨_, rfl⟩
 rw [← hm] at hown r3 u1 ⊢
 have H1 : Hid (w1.ownsRow w.heap.size 104 2 (.slice ua m uc) m (itVs R) ∧ Chg [] w w1 ∧ m = R.length ∧ R = risL l ∧ Asc R ∧ It64 R) := Lib.hid ⟨hown, hc, hm, hR, r1, r2⟩
 clear hown hc hm hR r1 r2
 by_cases hbig : 200 < len0
 ·have cM := made13_no (w := w1) (a := a0) hbig hc2 hc1
  go_wp2_with fail
  refine cM.mono ?_
  clear cM
  rintro e w2 ⟨rfl, hc⟩
  have HC := Lib.hid (H1.out.2.1.trans hc)
  clear hc
  have cA := HAW.out w2
  go_wp2_with fail
  refine cA.mono ?_
  clear cA
  rintro e w3 ⟨rfl, hc⟩
  have HC2 := Lib.hid (HC.out.trans hc)
  clear hc
  go_wp2_with fail
  go_ret
  exact ⟨rfl, HC2.out.below (by simp)⟩
 ·have cM := made13_at (H0.out.chg H1.out.2.1 (by simp)) (by rw [← HL.out]; omega)
  rw [← H1.out.2.2.2.1] at cM
  go_wp2_with fail
  refine cM.mono ?_
  clear cM
  rintro e w2 ⟨M, rt, B, rfl, q1, q2, q3, q4, q5, q6, -, q8⟩
  have hwf : (Lit.int .i64 (rt : Int)).wf = true := WalkArith.wf_i64 (by have := q3.bd q2.ok; omega)
  by_cases hsz : m < 8 ∨ 49 < m
  ·have HC := Lib.hid (H1.out.2.1.trans q5)
   clear q1 q2 q3 q4 q5 q6 q8 hwf
   have cA := HAW.out w2
   have hor : (m < 8) ∨ (¬ m < 8 ∧ 49 < m) := by omega
   clear hsz
   rcases hor with i1 | ⟨i1, i2⟩
   all_goals
    go_wp2_with fail
    refine cA.mono ?_
    clear cA
    rintro e w3 ⟨rfl, hc⟩
    have HC2 := Lib.hid (HC.out.trans hc)
    clear hc
    go_wp2_with fail
    go_ret
    exact ⟨rfl, HC2.out.below (by simp)⟩
  ·obtain ⟨i1, i2⟩ : 8 ≤ m ∧ m ≤ 49 := by omega
   obtain ⟨d, T⟩ := two_of q2 q3 q4 (by rw [← H1.out.2.2.1]; exact i1) (by rw [← H1.out.2.2.1]; exact i2) (q6 (by intro e; have := H1.out.2.2.1; rw [e] at this; simp at this; omega))
   have cN := q1.cNode (rt : Int)
   have HF := Lib.hid (And.intro q1 (And.intro q2 (And.intro q3 (And.intro hwf (And.intro (H1.out.2.1.trans q5) T)))))
   have HB2 : Hid (∀ q, q ∈ M.L → w.heap.size ≤ q) := Lib.hid (fun q hq => Nat.le_trans H1.out.2.1.size (q8 q hq))
   have HRW : Hid (∀ wz, Chg M.L w2 wz → wz.ownsRow w.heap.size 104 2 (.slice ua m uc) m (itVs R)) := Lib.hid fun wz hz => ownRow_chg (ownRow_chg H1.out.1 q5 (by simp)) hz (fun q hq hm => by have h1 := (H1.out.1.lt q hq).2; have h2 := q8 q hm; omega)
   clear q1 q2 q3 q4 q5 q6 q8 hwf T hsz
   go_wp2_with fail
   refine cN.mono ?_
   clear cN
   rintro e w3 (⟨d', kb, vb, hd, rfl, hkb, hvb, hne, hrk, hrv, hc3⟩ | ⟨hd, -⟩)
   ·rw [HF.out.2.2.2.2.2.node] at hd
    obtain rfl := Option.some.inj hd
    have hleaf := HF.out.2.2.2.2.2.leaf
    have hdn := HF.out.2.2.2.2.2.n
    rw [hleaf]
    clear hd
    have hb3 := (Chg.refl [] w3).alloc (.cells #[.bool false, .slice (some ⟨kb, 0, none⟩) d.n d.n, .slice (some ⟨vb, 0, none⟩) d.n d.n] 107)
    have hbx := new_block w3 (.cells #[.bool false, .slice (some ⟨kb, 0, none⟩) d.n d.n, .slice (some ⟨vb, 0, none⟩) d.n d.n] 107)
    go_upto_region 6 with fail
    generalize w3.alloc (.cells #[.bool false, .slice (some ⟨kb, 0, none⟩) d.n d.n, .slice (some ⟨vb, 0, none⟩) d.n d.n] 107) = w4 at hb3 hbx ⊢
    obtain ⟨nb, hnb⟩ : ∃ nb, nb = w3.heap.size := ⟨_, rfl⟩
    rw [← hnb] at hbx ⊢
    have HW : Hid (Wr w2 w4 nb kb vb d d.n d.v) := Lib.hid ⟨hc3.trans hb3, hbx, ⟨fun j hj => by rw [hb3.cell (p := ⟨kb, 0 + j, none⟩) hrk.lt (by simp)]; exact hrk.nums j hj, by obtain ⟨cur, h⟩ := hrk.blk; exact ⟨cur, (hb3.block _ (heap_lt h) (by simp)).trans h⟩⟩, ⟨d.v, ⟨fun j hj => by rw [hb3.cell (p := ⟨vb, 0 + j, none⟩) hrv.lt (by simp)]; exact hrv.nums j hj, by obtain ⟨cur, h⟩ := hrv.blk; exact ⟨cur, (hb3.block _ (heap_lt h) (by simp)).trans h⟩⟩, fun j _ => rfl⟩, hne, by have := hrk.lt; omega, by have := hrv.lt; omega, hkb, hvb, by rw [hnb]; exact hc3.size⟩
    have cRt := fdRight_at (HF.out.1.chg HW.out.c (by simp)) (rt : Int) HF.out.2.2.2.1
    rw [HF.out.2.2.1.right HF.out.2.1.ok] at cRt
    have z0 := cell_of_block hbx 0
    have z1 := cell_of_block hbx 1
    have z2 := cell_of_block hbx 2
    simp only [List.getElem?_toArray, List.getElem?_cons_zero, List.getElem?_cons_succ] at z0 z1 z2
    obtain ⟨q, hq⟩ : ∃ q, q = d.n := ⟨_, rfl⟩
    have HQ := Lib.hid hq
    rw [← hq] at z1 z2 hdn ⊢
    have hq2 : ¬ (q : Int) < 2 := by omega
    clear hb3 hbx hnb hrk hrv hc3 hq
    go_wp2_with fail
    refine cRt.mono ?_
    clear cRt
    rintro e w5 ⟨rfl, hc5⟩
    have HW5 := Lib.hid (HW.out.chg hc5)
    have b5 := HW5.out.box
    have y0 := cell_of_block b5 0
    have y1 := cell_of_block b5 1
    have y2 := cell_of_block b5 2
    simp only [List.getElem?_toArray, List.getElem?_cons_zero, List.getElem?_cons_succ] at y0 y1 y2
    obtain ⟨q1, hq1⟩ : ∃ q1, q = q1 + 1 := ⟨q - 1, by omega⟩
    obtain ⟨j, hj⟩ : ∃ j, j = at3 % q1 := ⟨_, rfl⟩
    have hj1 : j < q1 := by rw [hj]; exact Nat.mod_lt _ (by omega)
    have e1 : (q : Int) - 1 = (q1 : Int) := by omega
    have e2 := tmod_idx hat3 hj
    have e2' : (at3 : Int) % (q1 : Int) = (j : Int) := by rw [hj]; exact (Int.natCast_emod at3 q1).symm
    obtain ⟨h5, hh5⟩ : ∃ h5, h5 = how % 5 := ⟨_, rfl⟩
    have e3 : (how : Int) % 5 = (h5 : Int) := by omega
    have e4 : (how : Int).tmod 5 = (h5 : Int) := by rw [Int.tmod_eq_emod_of_nonneg (by omega)]; exact e3
    have hh : h5 < 5 := by omega
    have q10 : ¬ (q1 : Int) = 0 := by omega
    have HJ := Lib.hid (And.intro hj (And.intro hh5 hq1))
    rw [← HQ.out] at y1 y2
    clear hc5 b5 hj hh5
    go_upto_region 9 with fail
    subst hq1
    have HD := Lib.hid (show d.n = q1 + 1 from HQ.out.symm)
    obtain ⟨i, hi⟩ : ∃ i, i = 1 + j := ⟨_, rfl⟩
    have hii : 1 ≤ i ∧ i < q1 + 1 := by omega
    have ei : (1 : Int) + (j : Int) = (i : Int) := by omega
    have ik : (i : Int) < (q1 : Int) + 1 := by omega
    have HI := Lib.hid hi
    clear hi
    go_upto_block 0 with fail
    rw [ei]
    clear ei e1 e2 e2' e3 e4
    go_cut [] from 81 to 121 (fun wx => ∃ (n : Nat) (v : Nat → Nat), Hid (Wr w2 wx nb kb vb d n v ∧ Spoil d rt 200 n v i))
    case first =>
     have hcases : h5 = 0 ∨ h5 = 1 ∨ h5 = 2 ∨ h5 = 3 ∨ h5 = 4 := by omega
     have hin : i < d.n := by rw [HD.out]; exact hii.2
     have vi := HW5.out.vals rfl hin
     have v0 := HW5.out.vals rfl (j := 0) (by omega)
     have fi := HW5.out.fro i
     have f0 := HW5.out.fro 0
     rcases hcases with rfl | rfl | rfl | rfl | rfl
     ·rw [show ((0 : Nat) : Int) = 0 from rfl] at *
      go_upto_region 12 with fail
      obtain ⟨di, hdi⟩ : ∃ z, z = d.v i := ⟨_, rfl⟩
      obtain ⟨d0, hd0⟩ : ∃ z, z = d.v 0 := ⟨_, rfl⟩
      have hq64 : di < 18446744073709551616 ∧ d0 < 18446744073709551616 := by
       have a1 := HF.out.2.2.2.2.2.kid i hin
       have a2 := HF.out.2.2.2.2.2.kid 0 (by omega)
       have a3 := HF.out.2.1.ok.n.2
       omega
      rw [← hdi] at vi
      rw [← hd0] at v0
      have HDD := Lib.hid (And.intro hdi (And.intro hd0 hq64))
      have i00 : (0 : Int) < (q1 : Int) + 1 := by omega
      have hcl : ∀ wz, Chg [] w5 wz → wz.cell? ⟨nb, 2, none⟩ = some (.slice (some ⟨vb, 0, none⟩) (q1 + 1) (q1 + 1)) ∧ wz.cell? ⟨vb, i, none⟩ = some (.int .u64 (di : Int)) ∧ wz.cell? ⟨vb, 0, none⟩ = some (.int .u64 (d0 : Int)) := fun wz hz => by
       have hw := HW5.out.chg hz
       have hb := hw.box
       rw [HD.out] at hb
       exact ⟨(cell_of_block hb 2).trans rfl, by rw [HDD.out.1]; exact hw.vals rfl hin, by rw [HDD.out.2.1]; exact hw.vals rfl (by omega)⟩
      have HCL := Lib.hid hcl
      clear hcl hdi hd0 hq64 y0 y1 y2 vi v0 fi f0
      refine wp_region_brk [15, 17] (fun wz => Chg [] w5 wz) (by kernel_rfl) (by exact (Chg.refl [] w5).drew) (fun hHeld => ?_)
      have HW6 := Lib.hid (HW5.out.chg (Chg.refl [] w5).drew)
      have HC6 := Lib.hid (HCL.out _ (Chg.refl [] w5).drew)
      have HCC := Lib.hid (Chg.refl [] w5).drew
      generalize w5.drew = w6 at HW6 HC6 HCC hHeld ⊢
      refine wpAnyB_pure (i := 0) (oi := ?_) (v := ?_) ?_ (by kernel_rfl) (by kernel_rfl) (by kernel_rfl) (by kernel_rfl) (by kernel_rfl) ?_ (Or.inl ⟨?_, ?_⟩) hHeld (fun hHeld2 => ?_)
      rotate_left 2
      ·(simp only [tA1, tA2, tA3]; rfl)
      ·exact fun _ _ _ h => h
      ·rfl
      ·(intro w _; go_simp; first | done | with_reducible rfl)
      clear hHeld; have hHeld := hHeld2; clear hHeld2
      try simp only [Act.put, sA1, sA2, sA3]
      refine wpAnyB_pure (i := 2) (oi := ?_) (v := ?_) ?_ (by kernel_rfl) (by kernel_rfl) (by kernel_rfl) (by kernel_rfl) (by kernel_rfl) ?_ (Or.inl ⟨?_, ?_⟩) hHeld (fun hHeld2 => ?_)
      rotate_left 2
      ·(simp only [tA1, tA2, tA3]; rfl)
      ·exact fun _ _ _ h => h
      ·rfl
      ·(intro w _; go_simp; first | done | with_reducible rfl)
      clear hHeld; have hHeld := hHeld2; clear hHeld2
      try simp only [Act.put, sA1, sA2, sA3]
      refine wpAnyB_pure (i := 3) (oi := ?_) (v := ?_) ?_ (by kernel_rfl) (by kernel_rfl) (by kernel_rfl) (by kernel_rfl) (by kernel_rfl) ?_ (Or.inl ⟨?_, ?_⟩) hHeld (fun hHeld2 => ?_)
      rotate_left 2
      ·(simp only [tA1, tA2, tA3]; rfl)
      ·exact fun _ _ _ h => h
      ·rfl
      ·(intro w _; go_simp; first | done | with_reducible rfl)
      clear hHeld; have hHeld := hHeld2; clear hHeld2
      try simp only [Act.put, sA1, sA2, sA3]
      refine wpAnyB_pure (i := 5) (oi := ?_) (v := ?_) ?_ (by kernel_rfl) (by kernel_rfl) (by kernel_rfl) (by kernel_rfl) (by kernel_rfl) ?_ (Or.inl ⟨?_, ?_⟩) hHeld (fun hHeld2 => ?_)
      rotate_left 2
      ·(simp only [tA1, tA2, tA3]; rfl)
      ·exact fun _ _ _ h => h
      ·rfl
      ·(intro w _; go_simp; first | done | with_reducible rfl)
      clear hHeld; have hHeld := hHeld2; clear hHeld2
      try simp only [Act.put, sA1, sA2, sA3]
      refine wpAnyB_pure (i := 9) (oi := ?_) (v := ?_) ?_ (by kernel_rfl) (by kernel_rfl) (by kernel_rfl) (by kernel_rfl) (by kernel_rfl) ?_ (Or.inl ⟨?_, ?_⟩) hHeld (fun hHeld2 => ?_)
      rotate_left 2
      ·(simp only [tA1, tA2, tA3]; rfl)
      ·exact fun _ _ _ h => h
      ·rfl
      ·(intro w _; go_simp; first | done | with_reducible rfl)
      clear hHeld; have hHeld := hHeld2; clear hHeld2
      try simp only [Act.put, sA1, sA2, sA3]
      refine wpAnyB_pure (i := 11) (oi := ?_) (v := ?_) ?_ (by kernel_rfl) (by kernel_rfl) (by kernel_rfl) (by kernel_rfl) (by kernel_rfl) ?_ (Or.inl ⟨?_, ?_⟩) hHeld (fun hHeld2 => ?_)
      rotate_left 2
      ·(simp only [tA1, tA2, tA3]; rfl)
      ·exact fun _ _ _ h => h
      ·rfl
      ·(intro w _; go_simp; first | done | with_reducible rfl)
      clear hHeld; have hHeld := hHeld2; clear hHeld2
      try simp only [Act.put, sA1, sA2, sA3]
      refine wpAnyB_load (i := 1) (oi := ?_) (v := ?_) ?_ (by kernel_rfl) (by kernel_rfl) (by kernel_rfl) (by kernel_rfl) (by kernel_rfl) ?_ (Or.inl ⟨?_, ?_⟩) hHeld (fun hHeld2 => ?_)
      rotate_left 2
      ·(simp only [tA1, tA2, tA3]; rfl)
      ·exact fun _ _ _ h => h
      ·rfl
      ·(intro w hSw; obtain ⟨k1, k2, k3⟩ := HCL.out w hSw; go_simp; first | done | with_reducible rfl)
      clear hHeld; have hHeld := hHeld2; clear hHeld2
      try simp only [Act.put, sA1, sA2, sA3]
      refine wpAnyB_load (i := 6) (oi := ?_) (v := ?_) ?_ (by kernel_rfl) (by kernel_rfl) (by kernel_rfl) (by kernel_rfl) (by kernel_rfl) ?_ (Or.inl ⟨?_, ?_⟩) hHeld (fun hHeld2 => ?_)
      rotate_left 2
      ·(simp only [tA1, tA2, tA3]; rfl)
      ·exact fun _ _ _ h => h
      ·rfl
      ·(intro w hSw; obtain ⟨k1, k2, k3⟩ := HCL.out w hSw; go_simp; first | done | with_reducible rfl)
      clear hHeld; have hHeld := hHeld2; clear hHeld2
      try simp only [Act.put, sA1, sA2, sA3]
      refine wpAnyB_load (i := 10) (oi := ?_) (v := ?_) ?_ (by kernel_rfl) (by kernel_rfl) (by kernel_rfl) (by kernel_rfl) (by kernel_rfl) ?_ (Or.inl ⟨?_, ?_⟩) hHeld (fun hHeld2 => ?_)
      rotate_left 2
      ·(simp only [tA1, tA2, tA3]; rfl)
      ·exact fun _ _ _ h => h
      ·rfl
      ·(intro w hSw; obtain ⟨k1, k2, k3⟩ := HCL.out w hSw; go_simp; first | done | with_reducible rfl)
      clear hHeld; have hHeld := hHeld2; clear hHeld2
      try simp only [Act.put, sA1, sA2, sA3]
      refine wpAnyB_pure (i := 7) (oi := ?_) (v := ?_) ?_ (by kernel_rfl) (by kernel_rfl) (by kernel_rfl) (by kernel_rfl) (by kernel_rfl) ?_ (Or.inl ⟨?_, ?_⟩) hHeld (fun hHeld2 => ?_)
      rotate_left 2
      ·(simp only [tA1, tA2, tA3]; rfl)
      ·exact fun _ _ _ h => h
      ·rfl
      ·(intro w _; go_simp; first | done | with_reducible rfl)
      clear hHeld; have hHeld := hHeld2; clear hHeld2
      try simp only [Act.put, sA1, sA2, sA3]
      refine wpAnyB_pure (i := 12) (oi := ?_) (v := ?_) ?_ (by kernel_rfl) (by kernel_rfl) (by kernel_rfl) (by kernel_rfl) (by kernel_rfl) ?_ (Or.inl ⟨?_, ?_⟩) hHeld (fun hHeld2 => ?_)
      rotate_left 2
      ·(simp only [tA1, tA2, tA3]; rfl)
      ·exact fun _ _ _ h => h
      ·rfl
      ·(intro w _; go_simp; first | done | with_reducible rfl)
      clear hHeld; have hHeld := hHeld2; clear hHeld2
      try simp only [Act.put, sA1, sA2, sA3]
      refine wpAnyB_load (i := 8) (oi := ?_) (v := ?_) ?_ (by kernel_rfl) (by kernel_rfl) (by kernel_rfl) (by kernel_rfl) (by kernel_rfl) ?_ (Or.inl ⟨?_, ?_⟩) hHeld (fun hHeld2 => ?_)
      rotate_left 2
      ·(simp only [tA1, tA2, tA3]; rfl)
      ·exact fun _ _ _ h => h
      ·rfl
      ·(intro w hSw; obtain ⟨k1, k2, k3⟩ := HCL.out w hSw; go_simp; first | done | with_reducible rfl)
      clear hHeld; have hHeld := hHeld2; clear hHeld2
      try simp only [Act.put, sA1, sA2, sA3]
      refine wpAnyB_load (i := 13) (oi := ?_) (v := ?_) ?_ (by kernel_rfl) (by kernel_rfl) (by kernel_rfl) (by kernel_rfl) (by kernel_rfl) ?_ (Or.inl ⟨?_, ?_⟩) hHeld (fun hHeld2 => ?_)
      rotate_left 2
      ·(simp only [tA1, tA2, tA3]; rfl)
      ·exact fun _ _ _ h => h
      ·rfl
      ·(intro w hSw; obtain ⟨k1, k2, k3⟩ := HCL.out w hSw; go_simp; first | done | with_reducible rfl)
      clear hHeld; have hHeld := hHeld2; clear hHeld2
      try simp only [Act.put, sA1, sA2, sA3]
      refine wpAnyB_pure (i := 14) (oi := ?_) (v := ?_) ?_ (by kernel_rfl) (by kernel_rfl) (by kernel_rfl) (by kernel_rfl) (by kernel_rfl) ?_ (Or.inl ⟨?_, ?_⟩) hHeld (fun hHeld2 => ?_)
      rotate_left 2
      ·(simp only [tA1, tA2, tA3]; rfl)
      ·exact fun _ _ _ h => h
      ·rfl
      ·(intro w _; go_simp; first | done | with_reducible rfl)
      clear hHeld; have hHeld := hHeld2; clear hHeld2
      try simp only [Act.put, sA1, sA2, sA3]
      have HS7 := Lib.hid (HW6.out.set (j := i) (x := d0) hin HDD.out.2.2.2)
      obtain ⟨k1, k2, k3⟩ := HC6.out
      have g1 := HW6.out.fro i
      refine wpAnyB_ready (rs := [4, 15]) (by kernel_rfl) (by simp) ?_
      refine AllReadyB.cons (o := ?_) ?_ (fun K hK => ?_) ?_ (of_decide_eq_true (by kernel_rfl))
      rotate_left 1
      ·(simp only [tA1, tA2, tA3]; rfl)
      ·(go_simp)
       refine hK.out _ _ ?_ (fun hHeld => ?_)
       ·exact fun _ _ => HCC.out
       clear hK K
       try simp only [Act.put, sA1, sA2, sA3]
       refine wpAnyB_ready (rs := [15]) (by kernel_rfl) (by simp) ?_
       refine AllReadyB.cons (o := ?_) ?_ (fun K hK => ?_) AllReadyB.nil (of_decide_eq_true (by kernel_rfl))
       rotate_left 1
       ·(simp only [tA1, tA2, tA3]; rfl)
       (go_simp)
       refine hK.out _ _ ?_ (fun hHeld => ?_)
       ·exact fun h => absurd h (by decide)
       clear hK K
       try simp only [Act.put, sA1, sA2, sA3]
       clear k2 k3 g1
       generalize w6.setCell ⟨vb, i, none⟩ (.int .u64 (d0 : Int)) = w7 at HS7 hHeld ⊢
       have m1 := HS7.out.vals rfl (j := 0) (by omega)
       have m2 := HS7.out.fro 0
       refine wpAnyB_pure (i := 16) (oi := ?_) (v := ?_) ?_ (by kernel_rfl) (by kernel_rfl) (by kernel_rfl) (by kernel_rfl) (by kernel_rfl) ?_ (Or.inl ⟨?_, ?_⟩) hHeld (fun hHeld2 => ?_)
       rotate_left 2
       ·(simp only [tA1, tA2, tA3]; rfl)
       ·exact fun _ _ _ h => h
       ·rfl
       ·(intro w _; go_simp; first | done | with_reducible rfl)
       clear hHeld; have hHeld := hHeld2; clear hHeld2
       try simp only [Act.put, sA1, sA2, sA3]
       refine wpAnyB_ready (rs := [17]) (by kernel_rfl) (by simp) ?_
       refine AllReadyB.cons (o := ?_) ?_ (fun K hK => ?_) AllReadyB.nil (of_decide_eq_true (by kernel_rfl))
       rotate_left 1
       ·(simp only [tA1, tA2, tA3]; rfl)
       (go_simp)
       refine hK.out _ _ ?_ (fun hHeld => ?_)
       ·exact fun h => absurd h (by decide)
       clear hK K
       try simp only [Act.put, sA1, sA2, sA3]
       clear m1 m2 k1
       refine wpAnyB_done (by kernel_rfl) ?_ _
       have HS8 := Lib.hid (HS7.out.set (j := 0) (x := di) (by omega) HDD.out.2.2.1)
       generalize w7.setCell ⟨vb, 0, none⟩ (.int .u64 (di : Int)) = w8 at HS8 ⊢
       go_wp2_with fail
       go_meet
       exact ⟨_, _, Lib.hid ⟨HS8.out, .swap rfl fun m hm => by
        rw [HDD.out.1, HDD.out.2.1]
        by_cases e : m = 0
        ·subst e; rw [if_pos rfl, if_neg (by omega), if_pos rfl]
        ·rw [if_neg e, if_neg e]⟩⟩
      refine AllReadyB.cons (o := ?_) ?_ (fun K hK => ?_) AllReadyB.nil (of_decide_eq_true (by kernel_rfl))
      rotate_left 1
      ·(simp only [tA1, tA2, tA3]; rfl)
      ·(go_simp)
       refine hK.out _ _ ?_ (fun hHeld => ?_)
       ·exact fun h => absurd h (by decide)
       clear hK K
       try simp only [Act.put, sA1, sA2, sA3]
       clear k2 k3 g1 k1
       generalize w6.setCell ⟨vb, i, none⟩ (.int .u64 (d0 : Int)) = w7 at HS7 hHeld ⊢
       have hb7 := HS7.out.box
       rw [HD.out] at hb7
       have k1 := (cell_of_block hb7 2).trans rfl
       have m1 := HS7.out.vals rfl (j := 0) (by omega)
       have m2 := HS7.out.fro 0
       refine wpAnyB_ready (rs := [4]) (by kernel_rfl) (by simp) ?_
       refine AllReadyB.cons (o := ?_) ?_ (fun K hK => ?_) AllReadyB.nil (of_decide_eq_true (by kernel_rfl))
       rotate_left 1
       ·(simp only [tA1, tA2, tA3]; rfl)
       (go_simp)
       refine hK.out _ _ ?_ (fun hHeld => ?_)
       ·exact fun _ h => absurd h (by decide)
       clear hK K
       try simp only [Act.put, sA1, sA2, sA3]
       refine wpAnyB_pure (i := 16) (oi := ?_) (v := ?_) ?_ (by kernel_rfl) (by kernel_rfl) (by kernel_rfl) (by kernel_rfl) (by kernel_rfl) ?_ (Or.inl ⟨?_, ?_⟩) hHeld (fun hHeld2 => ?_)
       rotate_left 2
       ·(simp only [tA1, tA2, tA3]; rfl)
       ·exact fun _ _ _ h => h
       ·rfl
       ·(intro w _; go_simp; first | done | with_reducible rfl)
       clear hHeld; have hHeld := hHeld2; clear hHeld2
       try simp only [Act.put, sA1, sA2, sA3]
       refine wpAnyB_ready (rs := [17]) (by kernel_rfl) (by simp) ?_
       refine AllReadyB.cons (o := ?_) ?_ (fun K hK => ?_) AllReadyB.nil (of_decide_eq_true (by kernel_rfl))
       rotate_left 1
       ·(simp only [tA1, tA2, tA3]; rfl)
       (go_simp)
       refine hK.out _ _ ?_ (fun hHeld => ?_)
       ·exact fun h => absurd h (by decide)
       clear hK K
       try simp only [Act.put, sA1, sA2, sA3]
       clear m1 m2 k1 hb7
       refine wpAnyB_done (by kernel_rfl) ?_ _
       have HS8 := Lib.hid (HS7.out.set (j := 0) (x := di) (by omega) HDD.out.2.2.1)
       generalize w7.setCell ⟨vb, 0, none⟩ (.int .u64 (di : Int)) = w8 at HS8 ⊢
       go_wp2_with fail
       go_meet
       exact ⟨_, _, Lib.hid ⟨HS8.out, .swap rfl fun m hm => by
        rw [HDD.out.1, HDD.out.2.1]
        by_cases e : m = 0
        ·subst e; rw [if_pos rfl, if_neg (by omega), if_pos rfl]
        ·rw [if_neg e, if_neg e]⟩⟩
     ·rw [show ((1 : Nat) : Int) = 1 from rfl] at *
      have ert : IntKind.u64.wrap (rt : Int) = (rt : Int) := IntWalk.u64_in _ (by have := HF.out.2.2.1.bd HF.out.2.1.ok; omega)
      have hrt : rt < 18446744073709551616 := by have := HF.out.2.2.1.bd HF.out.2.1.ok; omega
      clear v0 f0
      go_wp2_with fail
      go_meet
      exact ⟨_, _, Lib.hid ⟨HW5.out.set hin hrt, .self rfl fun m _ => rfl⟩⟩
     ·rw [show ((2 : Nat) : Int) = 2 from rfl] at *
      clear v0 f0
      go_wp2_with fail
      go_meet
      exact ⟨_, _, Lib.hid ⟨HW5.out.set (x := 1) hin (by omega), .one rfl fun m _ => rfl⟩⟩
     ·rw [show ((3 : Nat) : Int) = 3 from rfl] at *
      go_upto_region 18 with fail
      have cb := fun wz (hz : Chg [] w5 wz) => (HF.out.1.chg (HW5.out.c.trans hz) (by simp)).cBlocks
      rw [HF.out.2.1.n] at cb
      change ∀ wz, Chg [] w5 wz → Calls _ _ _ wz fun e w' => e = .returned (.int .i64 200) ∧ wz = w' at cb
      have hcl : ∀ wz, Chg [] w5 wz → wz.cell? ⟨nb, 2, none⟩ = some (.slice (some ⟨vb, 0, none⟩) (q1 + 1) (q1 + 1)) := fun wz hz => by
       have hb := (HW5.out.chg hz).box
       rw [HD.out] at hb
       exact (cell_of_block hb 2).trans rfl
      have HCL := Lib.hid hcl
      have CB := Lib.hid cb
      clear hcl cb y0 y1 y2 vi v0 fi f0
      refine wp_region_brk [7] (fun wz => Chg [] w5 wz) (by kernel_rfl) (by exact (Chg.refl [] w5).drew) (fun hHeld => ?_)
      have HW6 := Lib.hid (HW5.out.chg (Chg.refl [] w5).drew)
      have HCC := Lib.hid (Chg.refl [] w5).drew
      generalize w5.drew = w6 at HW6 HCC hHeld ⊢
      refine wpAnyB_pure (i := 0) (oi := ?_) (v := ?_) ?_ (by kernel_rfl) (by kernel_rfl) (by kernel_rfl) (by kernel_rfl) (by kernel_rfl) ?_ (Or.inl ⟨?_, ?_⟩) hHeld (fun hHeld2 => ?_)
      rotate_left 2
      ·(simp only [tA1, tA2, tA3]; rfl)
      ·exact fun _ _ _ h => h
      ·rfl
      ·(intro w _; go_simp; first | done | with_reducible rfl)
      clear hHeld; have hHeld := hHeld2; clear hHeld2
      try simp only [Act.put, sA1, sA2, sA3]
      refine wpAnyB_pure (i := 2) (oi := ?_) (v := ?_) ?_ (by kernel_rfl) (by kernel_rfl) (by kernel_rfl) (by kernel_rfl) (by kernel_rfl) ?_ (Or.inl ⟨?_, ?_⟩) hHeld (fun hHeld2 => ?_)
      rotate_left 2
      ·(simp only [tA1, tA2, tA3]; rfl)
      ·exact fun _ _ _ h => h
      ·rfl
      ·(intro w _; go_simp; first | done | with_reducible rfl)
      clear hHeld; have hHeld := hHeld2; clear hHeld2
      try simp only [Act.put, sA1, sA2, sA3]
      refine wpAnyB_pure (i := 3) (oi := ?_) (v := ?_) ?_ (by kernel_rfl) (by kernel_rfl) (by kernel_rfl) (by kernel_rfl) (by kernel_rfl) ?_ (Or.inl ⟨?_, ?_⟩) hHeld (fun hHeld2 => ?_)
      rotate_left 2
      ·(simp only [tA1, tA2, tA3]; rfl)
      ·exact fun _ _ _ h => h
      ·rfl
      ·(intro w _; go_simp; first | done | with_reducible rfl)
      clear hHeld; have hHeld := hHeld2; clear hHeld2
      try simp only [Act.put, sA1, sA2, sA3]
      refine wpAnyB_load (i := 1) (oi := ?_) (v := ?_) ?_ (by kernel_rfl) (by kernel_rfl) (by kernel_rfl) (by kernel_rfl) (by kernel_rfl) ?_ (Or.inl ⟨?_, ?_⟩) hHeld (fun hHeld2 => ?_)
      rotate_left 2
      ·(simp only [tA1, tA2, tA3]; rfl)
      ·exact fun _ _ _ h => h
      ·rfl
      ·(intro w hSw; have k1 := HCL.out w hSw; go_simp; first | done | with_reducible rfl)
      clear hHeld; have hHeld := hHeld2; clear hHeld2
      try simp only [Act.put, sA1, sA2, sA3]
      refine wpAnyB_ready (rs := [4]) (by kernel_rfl) (by simp) ?_
      refine AllReadyB.cons (o := ?_) ?_ (fun K hK => ?_) AllReadyB.nil (of_decide_eq_true (by kernel_rfl))
      rotate_left 1
      ·(simp only [tA1, tA2, tA3]; rfl)
      (go_simp; refine (CB.out w6 HCC.out).mono ?_; rintro e w' ⟨rfl, rfl⟩)
      refine hK.out _ _ ?_ (fun hHeld => ?_)
      ·exact fun _ _ => HCC.out
      clear hK K
      try simp only [Act.put, sA1, sA2, sA3]
      refine wpAnyB_pure (i := 5) (oi := ?_) (v := ?_) ?_ (by kernel_rfl) (by kernel_rfl) (by kernel_rfl) (by kernel_rfl) (by kernel_rfl) ?_ (Or.inl ⟨?_, ?_⟩) hHeld (fun hHeld2 => ?_)
      rotate_left 2
      ·(simp only [tA1, tA2, tA3]; rfl)
      ·exact fun _ _ _ h => h
      ·rfl
      ·(intro w _; go_simp; first | done | with_reducible rfl)
      clear hHeld; have hHeld := hHeld2; clear hHeld2
      try simp only [Act.put, sA1, sA2, sA3]
      refine wpAnyB_pure (i := 6) (oi := ?_) (v := ?_) ?_ (by kernel_rfl) (by kernel_rfl) (by kernel_rfl) (by kernel_rfl) (by kernel_rfl) ?_ (Or.inl ⟨?_, ?_⟩) hHeld (fun hHeld2 => ?_)
      rotate_left 2
      ·(simp only [tA1, tA2, tA3]; rfl)
      ·exact fun _ _ _ h => h
      ·rfl
      ·(intro w _; go_simp; first | done | with_reducible rfl)
      clear hHeld; have hHeld := hHeld2; clear hHeld2
      try simp only [Act.put, sA1, sA2, sA3]
      have g1 := HW6.out.fro i
      have g2 := HW6.out.vals rfl hin
      refine wpAnyB_ready (rs := [7]) (by kernel_rfl) (by simp) ?_
      refine AllReadyB.cons (o := ?_) ?_ (fun K hK => ?_) AllReadyB.nil (of_decide_eq_true (by kernel_rfl))
      rotate_left 1
      ·(simp only [tA1, tA2, tA3]; rfl)
      (go_simp)
      refine hK.out _ _ ?_ (fun hHeld => ?_)
      ·exact fun h => absurd h (by decide)
      clear hK K
      try simp only [Act.put, sA1, sA2, sA3]
      refine wpAnyB_done (by kernel_rfl) ?_ _
      rw [show IntKind.u64.wrap 200 = 200 from rfl]
      have HS8 := Lib.hid (HW6.out.set (j := i) (x := 200) hin (by omega))
      clear g1 g2
      change Hid (Wr w2 (w6.setCell ⟨vb, i, none⟩ (.int .u64 200)) nb kb vb d d.n _) at HS8
      generalize w6.setCell ⟨vb, i, none⟩ (.int .u64 200) = w8 at HS8 ⊢
      go_wp2_with fail
      go_meet
      exact ⟨_, _, Lib.hid ⟨HS8.out, .far rfl fun m _ => rfl⟩⟩
     ·rw [show ((4 : Nat) : Int) = 4 from rfl] at *
      go_upto_region 10 with fail
      have hcl : ∀ wz, Chg [] w5 wz → wz.cell? ⟨nb, 1, none⟩ = some (.slice (some ⟨kb, 0, none⟩) (q1 + 1) (q1 + 1)) ∧ wz.cell? ⟨nb, 2, none⟩ = some (.slice (some ⟨vb, 0, none⟩) (q1 + 1) (q1 + 1)) := fun wz hz => by
       have hb := (HW5.out.chg hz).box
       rw [HD.out] at hb
       exact ⟨(cell_of_block hb 1).trans rfl, (cell_of_block hb 2).trans rfl⟩
      have HCL := Lib.hid hcl
      have i01 : (1 : Int) ≤ (q1 : Int) + 1 := by omega
      clear hcl y0 y1 y2 vi v0 fi f0
      refine wp_region_brk [7, 9] (fun wz => Chg [] w5 wz) (by kernel_rfl) (by exact (Chg.refl [] w5).drew) (fun hHeld => ?_)
      have HW6 := Lib.hid (HW5.out.chg (Chg.refl [] w5).drew)
      generalize w5.drew = w6 at HW6 hHeld ⊢
      refine wpAnyB_pure (i := 0) (oi := ?_) (v := ?_) ?_ (by kernel_rfl) (by kernel_rfl) (by kernel_rfl) (by kernel_rfl) (by kernel_rfl) ?_ (Or.inl ⟨?_, ?_⟩) hHeld (fun hHeld2 => ?_)
      rotate_left 2
      ·(simp only [tA1, tA2, tA3]; rfl)
      ·exact fun _ _ _ h => h
      ·rfl
      ·(intro w _; go_simp; first | done | with_reducible rfl)
      clear hHeld; have hHeld := hHeld2; clear hHeld2
      try simp only [Act.put, sA1, sA2, sA3]
      refine wpAnyB_pure (i := 3) (oi := ?_) (v := ?_) ?_ (by kernel_rfl) (by kernel_rfl) (by kernel_rfl) (by kernel_rfl) (by kernel_rfl) ?_ (Or.inl ⟨?_, ?_⟩) hHeld (fun hHeld2 => ?_)
      rotate_left 2
      ·(simp only [tA1, tA2, tA3]; rfl)
      ·exact fun _ _ _ h => h
      ·rfl
      ·(intro w _; go_simp; first | done | with_reducible rfl)
      clear hHeld; have hHeld := hHeld2; clear hHeld2
      try simp only [Act.put, sA1, sA2, sA3]
      refine wpAnyB_load (i := 1) (oi := ?_) (v := ?_) ?_ (by kernel_rfl) (by kernel_rfl) (by kernel_rfl) (by kernel_rfl) (by kernel_rfl) ?_ (Or.inl ⟨?_, ?_⟩) hHeld (fun hHeld2 => ?_)
      rotate_left 2
      ·(simp only [tA1, tA2, tA3]; rfl)
      ·exact fun _ _ _ h => h
      ·rfl
      ·(intro w hSw; obtain ⟨k1, k2⟩ := HCL.out w hSw; go_simp; first | done | with_reducible rfl)
      clear hHeld; have hHeld := hHeld2; clear hHeld2
      try simp only [Act.put, sA1, sA2, sA3]
      refine wpAnyB_load (i := 4) (oi := ?_) (v := ?_) ?_ (by kernel_rfl) (by kernel_rfl) (by kernel_rfl) (by kernel_rfl) (by kernel_rfl) ?_ (Or.inl ⟨?_, ?_⟩) hHeld (fun hHeld2 => ?_)
      rotate_left 2
      ·(simp only [tA1, tA2, tA3]; rfl)
      ·exact fun _ _ _ h => h
      ·rfl
      ·(intro w hSw; obtain ⟨k1, k2⟩ := HCL.out w hSw; go_simp; first | done | with_reducible rfl)
      clear hHeld; have hHeld := hHeld2; clear hHeld2
      try simp only [Act.put, sA1, sA2, sA3]
      refine wpAnyB_pure (i := 2) (oi := ?_) (v := ?_) ?_ (by kernel_rfl) (by kernel_rfl) (by kernel_rfl) (by kernel_rfl) (by kernel_rfl) ?_ (Or.inl ⟨?_, ?_⟩) hHeld (fun hHeld2 => ?_)
      rotate_left 2
      ·(simp only [tA1, tA2, tA3]; rfl)
      ·exact fun _ _ _ h => h
      ·rfl
      ·(intro w _; go_simp; first | done | with_reducible rfl)
      clear hHeld; have hHeld := hHeld2; clear hHeld2
      try simp only [Act.put, sA1, sA2, sA3]
      refine wpAnyB_pure (i := 5) (oi := ?_) (v := ?_) ?_ (by kernel_rfl) (by kernel_rfl) (by kernel_rfl) (by kernel_rfl) (by kernel_rfl) ?_ (Or.inl ⟨?_, ?_⟩) hHeld (fun hHeld2 => ?_)
      rotate_left 2
      ·(simp only [tA1, tA2, tA3]; rfl)
      ·exact fun _ _ _ h => h
      ·rfl
      ·(intro w _; go_simp; first | done | with_reducible rfl)
      clear hHeld; have hHeld := hHeld2; clear hHeld2
      try simp only [Act.put, sA1, sA2, sA3]
      refine wpAnyB_pure (i := 6) (oi := ?_) (v := ?_) ?_ (by kernel_rfl) (by kernel_rfl) (by kernel_rfl) (by kernel_rfl) (by kernel_rfl) ?_ (Or.inl ⟨?_, ?_⟩) hHeld (fun hHeld2 => ?_)
      rotate_left 2
      ·(simp only [tA1, tA2, tA3]; rfl)
      ·exact fun _ _ _ h => h
      ·rfl
      ·(intro w _; go_simp; first | done | with_reducible rfl)
      clear hHeld; have hHeld := hHeld2; clear hHeld2
      try simp only [Act.put, sA1, sA2, sA3]
      have hb6 := HW6.out.box
      rw [HD.out] at hb6
      have g1 := frozen_of_block hb6 1
      have k1 := (cell_of_block hb6 1).trans rfl
      refine wpAnyB_ready (rs := [7]) (by kernel_rfl) (by simp) ?_
      refine AllReadyB.cons (o := ?_) ?_ (fun K hK => ?_) AllReadyB.nil (of_decide_eq_true (by kernel_rfl))
      rotate_left 1
      ·(simp only [tA1, tA2, tA3]; rfl)
      (go_simp)
      refine hK.out _ _ ?_ (fun hHeld => ?_)
      ·exact fun h => absurd h (by decide)
      clear hK K
      try simp only [Act.put, sA1, sA2, sA3]
      have hb7 := setCell_block hb6 1 (.slice (some ⟨kb, 0, none⟩) 1 (q1 + 1))
      have g2 := frozen_of_block hb7 2
      have k2 := (cell_of_block hb7 2).trans rfl
      refine wpAnyB_pure (i := 8) (oi := ?_) (v := ?_) ?_ (by kernel_rfl) (by kernel_rfl) (by kernel_rfl) (by kernel_rfl) (by kernel_rfl) ?_ (Or.inl ⟨?_, ?_⟩) hHeld (fun hHeld2 => ?_)
      rotate_left 2
      ·(simp only [tA1, tA2, tA3]; rfl)
      ·exact fun _ _ _ h => h
      ·rfl
      ·(intro w _; go_simp; first | done | with_reducible rfl)
      clear hHeld; have hHeld := hHeld2; clear hHeld2
      try simp only [Act.put, sA1, sA2, sA3]
      refine wpAnyB_ready (rs := [9]) (by kernel_rfl) (by simp) ?_
      refine AllReadyB.cons (o := ?_) ?_ (fun K hK => ?_) AllReadyB.nil (of_decide_eq_true (by kernel_rfl))
      rotate_left 1
      ·(simp only [tA1, tA2, tA3]; rfl)
      (go_simp)
      refine hK.out _ _ ?_ (fun hHeld => ?_)
      ·exact fun h => absurd h (by decide)
      clear hK K
      try simp only [Act.put, sA1, sA2, sA3]
      refine wpAnyB_done (by kernel_rfl) ?_ _
      have HS8 := Lib.hid (HW6.out.few (by omega))
      rw [HD.out] at HS8
      clear hb6 g1 k1 hb7 g2 k2
      generalize (w6.setCell ⟨nb, 1, none⟩ (.slice (some ⟨kb, 0, none⟩) 1 (q1 + 1))).setCell ⟨nb, 2, none⟩ (.slice (some ⟨vb, 0, none⟩) 1 (q1 + 1)) = w8 at HS8 ⊢
      go_wp2_with fail
      go_meet
      exact ⟨_, _, Lib.hid ⟨HS8.out, .few rfl rfl⟩⟩
    case rest =>
     obtain ⟨n, v, HV⟩ := hcut
     have T := HF.out.2.2.2.2.2
     have hin : 1 ≤ i ∧ i < d.n := ⟨hii.1, by rw [HD.out]; exact hii.2⟩
     obtain ⟨sr, sn1, sn7, snd⟩ := spoil_right T hin HF.out.2.1.n HV.out.2
     have hv64 := spoil_v64 T hin HF.out.2.1.n HV.out.2
     have hno := spoil_no T hin HF.out.2.1.n HV.out.2
     have hnk : NumsIn [] wc (.slice (some ⟨kb, 0, none⟩) n (q1 + 1)) n d.k := .inr ⟨kb, 0, q1 + 1, rfl, by have := HD.out; omega, by unfold maxLen; omega, HV.out.1.k.lt, by simp, fun m hm => by rw [Nat.zero_add]; exact ⟨HV.out.1.k.cell (by omega), T.k64 m (by omega)⟩⟩
     have hnv : NumsIn [] wc (.slice (some ⟨vb, 0, none⟩) n (q1 + 1)) n v := by
      obtain ⟨uu, h1, h2⟩ := HV.out.1.v
      exact .inr ⟨vb, 0, q1 + 1, rfl, by have := HD.out; omega, by unfold maxLen; omega, h1.lt, by simp, fun m hm => by
       rw [Nat.zero_add, ← h2 m hm]
       exact ⟨h1.cell (by omega), by rw [h2 m hm]; exact hv64 m hm⟩⟩
     have cE := enc_ok hnk hnv sr
     have hbx := HV.out.1.box
     rw [HD.out] at hbx
     have z0 := cell_of_block hbx 0
     have z1 := cell_of_block hbx 1
     have z2 := cell_of_block hbx 2
     simp only [List.getElem?_toArray, List.getElem?_cons_zero, List.getElem?_cons_succ] at z0 z1 z2
     have HNO := Lib.hid hno
     have HSR := Lib.hid (And.intro sr sn7)
     have CE := Lib.hid cE
     clear hnk hnv sr hv64 hno hbx cE y0 y1 y2
     go_wp2_with fail
     refine CE.out.mono ?_
     clear CE z0 z1 z2
     rintro e w9 ⟨g, rfl, hg, hgb, hc9⟩
     have hw9 := HV.out.1.c.trans hc9
     have cO := bOver_at (c := 128) (HF.out.1.chg hw9 (by simp)) (fun q hq => by cases hq) (k := g) (o := 0) (f := pageF false n d.k v) (fun m hm => ⟨by rw [Nat.zero_add, cell_of_block hgb, u8s_get hm], sealP_le (by decide) (fun j _ => bodyF_le _ _ _ j (by have := HSR.out.2; omega)) m⟩) T.bd.2 T.fr
     have HW9 := Lib.hid hw9
     have HB9 : Hid (Chg [] w w9) := Lib.hid (HF.out.2.2.2.2.1.trans hw9)
     have hT : Two13 B rt d := T
     have HO := Lib.hid cO
     clear hg hgb hc9 hw9 cO T
     go_wp2_with fail
     refine HO.out.mono ?_
     clear HO
     rintro e w10 ⟨rfl, hb10, hc10⟩
     have hw10 : Chg [] w w10 := HB9.out.then hc10 (fun q hq => .inr (HB2.out q hq))
     have cR := fdRight_at hb10 (rt : Int) HF.out.2.2.2.1
     rw [HNO.out] at cR
     have H10 := Lib.hid (And.intro hb10 (And.intro hw10 hc10))
     clear hb10 hw10 hc10
     go_wp2_with fail
     refine cR.mono ?_
     clear cR
     rintro e w11 ⟨rfl, hc11⟩
     have hrow := HRW.out w11 ((HW9.out.mono (by simp)).trans (H10.out.2.2.trans (hc11.mono (by simp))))
     have HB11 := Lib.hid (And.intro (H10.out.1.chg hc11 (by simp)) (And.intro (H10.out.2.1.trans hc11) hrow))
     clear hc11 hrow
     obtain ⟨B2, hB2⟩ : ∃ z, z = B.over rt (pageF false n d.k v) := ⟨_, rfl⟩
     rw [← hB2] at HB11
     go_wp2_with fail
     go_loopg [143] m (fun gg s wr => ∃ j : Nat, j ≤ m ∧ gg = m - j ∧ s = .int .i64 (j : Int) ∧ Hid (Chg [] w11 wr))
     case atStart => exact ⟨0, Nat.zero_le _, rfl, rfl, Lib.hid (Chg.refl _ _)⟩
     case round =>
      obtain ⟨t, ht, hgg, rfl, HC5⟩ := hrel
      have HGG := Lib.hid hgg
      clear hgg
      by_cases htm : t < m
      ·have j1 : (t : Int) < (m : Int) := by omega
       obtain ⟨g2, c2, e4, _, _, _, g2lt, g2c⟩ := ownRow_cells (ownRow_chg HB11.out.2.2 HC5.out (by simp)) (by omega)
       injection e4 with e4 _ e5
       subst e4; subst e5
       have hg := itVs_get R t (by rw [← H1.out.2.2.1]; exact htm)
       have c0 := (g2c (t * 2) (by omega)).trans hg.1
       have c1 := (g2c (t * 2 + 1) (by omega)).trans hg.2
       obtain ⟨pk, hpk⟩ : ∃ z, z = (R.getD t (0, 0)).1 := ⟨_, rfl⟩
       obtain ⟨pv, hpv⟩ : ∃ z, z = (R.getD t (0, 0)).2 := ⟨_, rfl⟩
       rw [← hpk] at c0
       rw [← hpv] at c1
       have hp64 : pk < 18446744073709551616 := by rw [hpk]; exact (H1.out.2.2.2.2.2.getD t).1
       have hb1 := (Chg.refl [] wr).alloc (.cells #[.int .u64 (pk : Int), .int .u64 (pv : Int)] 104)
       have hbx := new_block wr (.cells #[.int .u64 (pk : Int), .int .u64 (pv : Int)] 104)
       clear g2c hg hpk hpv
       go_upto_region 25 with fail
       generalize wr.alloc (.cells #[.int .u64 (pk : Int), .int .u64 (pv : Int)] 104) = w12 at hb1 hbx ⊢
       obtain ⟨xb, hxb⟩ : ∃ xb, xb = wr.heap.size := ⟨_, rfl⟩
       rw [← hxb] at hbx ⊢
       have cG := fGet_at ((HB11.out.1.chg HC5.out (by simp)).chg hb1 (by simp)) (rt : Int) HF.out.2.2.2.1 pk hp64
       have HC6 := Lib.hid (HC5.out.trans hb1)
       have y0 := (cell_of_block hbx 0).trans rfl
       obtain ⟨gp, hgp⟩ : ∃ z, z = getP B2 pk 8 (rt : Int) := ⟨_, rfl⟩
       rw [← hgp] at cG
       clear hb1 hbx hxb c0 c1 hgp
       go_wp2_with fail
       refine cG.mono ?_
       clear cG y0
       rintro e w13 ⟨rfl, hc13⟩
       have HC7 := Lib.hid (HC6.out.trans hc13)
       clear hc13
       go_wp2_with fail
       go_roundg (m - (t + 1))
       case measure => have := HGG.out; omega
       case rel => exact ⟨t + 1, htm, rfl, by go_num, HC7⟩
      ·obtain rfl : t = m := by omega
       have j1 : ¬ (t : Int) < (t : Int) := by omega
       have cW := fdWalk_at (HB11.out.1.chg HC5.out (by simp)) (y := (rt : Int)) (lo := 0) (hi := 18446744073709551615) (most := 100) (by omega) (by omega) (by omega) (.inr (by omega)) rfl
       change Calls _ _ #[_, _, .int .u64 0, .int .u64 18446744073709551615, _] wr _ at cW
       obtain ⟨RW, hRW⟩ : ∃ z, z = (if (100 : Int) < 1 then (([], 0) : List (Nat × Nat) × Int) else walkR (walkL B2 0 18446744073709551615 (rt : Int)) (100 : Int).toNat []) := ⟨_, rfl⟩
       rw [← hRW] at cW
       clear hRW
       go_wp2_with fail
       refine cW.mono ?_
       clear cW
       rintro e w12 ⟨v12, rfl, hown12, hc12⟩
       obtain ⟨s12, t12, rfl, _, _⟩ := ownRow_slice hown12
       have cH := fHeight_at ((HB11.out.1.chg HC5.out (by simp)).chg hc12 (by simp)) (rt : Int) HF.out.2.2.2.1
       obtain ⟨hp, hhp⟩ : ∃ z, z = heightP B2 8 (rt : Int) := ⟨_, rfl⟩
       rw [← hhp] at cH
       have HC12 := Lib.hid (HC5.out.trans hc12)
       clear hown12 hc12 hhp
       go_wp2_with fail
       refine cH.mono ?_
       clear cH
       rintro e w13 ⟨rfl, hc13⟩
       have HC13 := Lib.hid (HC12.out.trans hc13)
       clear hc13
       have cA := HAW.out w13
       go_wp2_with fail
       refine cA.mono ?_
       clear cA
       rintro e w14 ⟨rfl, hc14⟩
       have HC14 := Lib.hid ((HB11.out.2.1.trans HC13.out).trans hc14)
       clear hc14
       go_wp2_with fail
       go_ret
       exact ⟨rfl, HC14.out.below (by simp)⟩
   ·rw [HF.out.2.2.2.2.2.node] at hd; cases hd
end Go.Proofs.YtkhcaclndepgbaaGreat
namespace Go.Proofs.YtkhcaclndepgbaaGreat.findWrong
open Go.ChangeShapes Go.WideShapes Go.ChangeAt Go.RowKit
open Go.ChangeMaps (open_string shut_string)
theorem own : ownKnob Tryz.prog.godebug = none := by kernel_rfl
theorem bytesR : Tryz.prog.bytesOf 104 = 16 := by kernel_rfl
theorem laidOut : laidOutB Tryz.prog = true := by kernel_rfl
theorem lifted (os : Os) (started : os.Started) (H : Type) (enc : TypeId × Value → H) :
  ReturnsInHanded {} Tryz.checked os 10 .any (Rows.findWrongSpec.pre6 enc Tryz.prog Tryz.f10 Rows.findWrongRow.domain false) (Rows.findWrongSpec.post enc Tryz.prog Tryz.f10 false true false false) := by
 refine returnsInHanded_of_change_sized (C := Tryz.checked) own started (by kernel_rfl) Tryz.func10
  (ChangeSpec.witness6 (enc := enc) (C := Tryz.checked) false ⟨#[], #[.slice none 0 0, .int .u8 0, .int .u8 0], []⟩ 8 (by kernel_rfl) (by kernel_rfl) (by kernel_rfl) (by kernel_rfl)) ?_
 intro W base args ds gs before hval0 hW hcnd hsz0 _
 have hsz : (DataW.weightsEach Tryz.prog (Tryz.f10.params.toList ++ Rows.findWrongSpec.plain.varTypes Tryz.prog) (ds ++ gs)).all (· ≤ reachBytes) = true := hsz0
 clear hsz0
 have hval : ∀ (j : Nat) t v, Tryz.f10.params[j]? = some t → args[j]? = some v → Value.okWide Tryz.prog W .any base t v := hval0
 have hW' := hW
 obtain ⟨p, q, hA0, hV, rfl, hfz, hnd⟩ := hW
 have hA : DataW.TrodAll enc Tryz.prog W 0 (fun _ => true) true Tryz.f10.params.toList args.toList ds p := hA0
 rw [Tryz.params10] at hA hval hsz
 obtain ⟨v0, vr0, d0, ds0, p0, q0, hargs, rfl, rfl, h0, r0⟩ := trodAll_cons hA
 obtain ⟨v1, vr1, d1, ds1, p1, q1, rfl, rfl, rfl, h1, r1⟩ := trodAll_cons r0
 obtain ⟨v2, vr2, d2, ds2, p2, q2, rfl, rfl, rfl, h2, r2⟩ := trodAll_cons r1
 obtain ⟨rfl, rfl, rfl⟩ := trodAll_nil r2
 obtain rfl : args = #[v0, v1, v2] := by cases args; simp_all
 obtain ⟨rfl, rfl⟩ := trodVars_none hV
 obtain ⟨a0, len0, cap0, rfl⟩ := okWide_slice Tryz.underlying83 (hval 0 83 v0 rfl rfl)
 have k0 := h0
 have lt0 : ∀ x ∈ p0, x.block < W.heap.size := by obtain ⟨m, hm⟩ := k0; exact DataW.trod_lt m _ _ _ hm
 obtain ⟨z0, w0⟩ := open_items h0
 obtain ⟨a1, rfl, rfl, rfl, w1⟩ := open_int Tryz.underlying5 (hval 1 5 v1 rfl rfl) h1
 obtain ⟨a2, rfl, rfl, rfl, w2⟩ := open_int Tryz.underlying5 (hval 2 5 v2 rfl rfl) h2
 clear hA0 hval0
 have hreach : len0 * 16 ≤ 140737488351232 := by
  rcases items_len k0 with h | ⟨el, sp, hd, hle⟩
  ·rw [h]; omega
  ·have := sized_slice hsz (j := 0) (t := 83) (e := 104) (elems := el) (spare := sp) rfl (by rw [hd]; rfl) Tryz.underlying83
   rw [bytesR] at this
   simp only [reachBytes] at this
   omega
 refine (findWrong_walk a0 len0 cap0 z0 a1 a2 W w0 w1 w2 hreach).mono fun e W' ⟨he, bel⟩ => ?_
 subst he
 exact ⟨_, rfl, _, _, _, [], _, [], hW', trodAll_mk1 (shut_bool Tryz.underlying4 _), (trodAll_cons_mk (Below.trod laidOut (by kernel_rfl) (of_decide_eq_true (by kernel_rfl)) k0 bel lt0) (trodAll_cons_mk (shut_int Tryz.underlying5 w1) (trodAll_cons_mk (shut_int Tryz.underlying5 w2) trodAll_mk0))), rfl, bel.frame _, fun h => by cases h⟩
end Go.Proofs.YtkhcaclndepgbaaGreat.findWrong
