/- Layer 10: pages under way in memory; has a page to be placed? -/
import Derived.Test.YtkhcaclndepgbaaGreatZf18
set_option linter.unusedVariables false
set_option linter.unusedSimpArgs false
set_option maxRecDepth 100000
set_option maxHeartbeats 20000000
namespace Go.Proofs.YtkhcaclndepgbaaGreat
open Go.RowKit
structure ShAt (w : World) (x p t bc bk : Nat) (g h c : Nat → Nat) (S : PS) : Prop where
 pt : PT w p t bc bk S.K S.T
 top : w.heap[x]? = some (.cells #[.pointer (some ⟨t, 0, none⟩), .pointer (some ⟨p, 0, none⟩), .slice (some ⟨g 0, 0, none⟩) (S.n 0) (c 0), .slice (some ⟨g 1, 0, none⟩) (S.n 1) (c 1), .slice (some ⟨h 0, 0, none⟩) (S.n 0) (S.n 0), .slice (some ⟨h 1, 0, none⟩) (S.n 1) (S.n 1)] 222 (0, 0))
 ats : ∀ k, k < 2 → ∃ cur, w.heap[g k]? = some (.cells cur 3 (0, 0)) ∧ cur.size = c k ∧ S.n k ≤ c k ∧ c k ≤ maxLen ∧ ∀ i, i < S.n k → cur[i]? = some (.int .i64 (S.a k i : Int))
 pls : ∀ k, k < 2 → w.heap[h k]? = some (.cells (bools (S.n k) (S.p k)) 4 (0, 0))
 nd : [x, g 0, g 1, h 0, h 1, p, t, bc, bk].Nodup
 n0 : S.n 0 = pg S.T.n
 n1 : S.n 1 = pg (pg S.T.n)
namespace ShAt
variable {w : World} {x p t bc bk : Nat} {g h c : Nat → Nat} {S : PS}
theorem chg {w' : World} {L : List Nat} (H : ShAt w x p t bc bk g h c S) (C : Chg L w w') (hd : ∀ b, b ∈ [x, g 0, g 1, h 0, h 1, p, t, bc, bk] → b ∉ L) : ShAt w' x p t bc bk g h c S := by
 have m : ∀ b, b ∈ [x, g 0, g 1, h 0, h 1, p, t, bc, bk] → b ∉ L := hd
 refine ⟨H.pt.chg C (m p (by simp)) (m t (by simp)) (m bc (by simp)) (m bk (by simp)), (C.block x (heap_lt H.top) (m x (by simp))).trans H.top, fun k hk => ?_, fun k hk => ?_, H.nd, H.n0, H.n1⟩
 ·obtain ⟨cur, h1, h2⟩ := H.ats k hk
  have hk2 : k = 0 ∨ k = 1 := by omega
  refine ⟨cur, (C.block (g k) (heap_lt h1) (m (g k) ?_)).trans h1, h2⟩
  rcases hk2 with rfl | rfl <;> simp
 ·have h1 := H.pls k hk
  have hk2 : k = 0 ∨ k = 1 := by omega
  refine (C.block (h k) (heap_lt h1) (m (h k) ?_)).trans h1
  rcases hk2 with rfl | rfl <;> simp
theorem atc (H : ShAt w x p t bc bk g h c S) {k i : Nat} (hk : k < 2) (hi : i < S.n k) : w.cell? ⟨g k, i, none⟩ = some (.int .i64 (S.a k i : Int)) := by
 obtain ⟨cur, h1, h2, h3, h4, h5⟩ := H.ats k hk
 rw [cell_of_block h1]; exact h5 i hi
theorem atcap (H : ShAt w x p t bc bk g h c S) {k : Nat} (hk : k < 2) : S.n k ≤ c k ∧ c k ≤ maxLen := by
 obtain ⟨cur, h1, h2, h3, h4, h5⟩ := H.ats k hk
 exact ⟨h3, h4⟩
theorem plc (H : ShAt w x p t bc bk g h c S) {k i : Nat} (hk : k < 2) (hi : i < S.n k) : w.cell? ⟨h k, i, none⟩ = some (.bool (S.p k i)) := by
 rw [cell_of_block (H.pls k hk)]; exact bools_get hi
theorem nle (H : ShAt w x p t bc bk g h c S) {k : Nat} (hk : k < 2) : 1 ≤ S.n k ∧ S.n k ≤ 4096 := by
 have a1 := H.pt.ht.n1
 have a2 := H.pt.ht.n2
 have p1 := pg_pos a1
 have p2 := pg_le (n := S.T.n)
 have p3 := pg_pos p1
 have p4 := pg_le (n := pg S.T.n)
 have hk2 : k = 0 ∨ k = 1 := by omega
 rcases hk2 with rfl | rfl
 ·rw [H.n0]; omega
 ·rw [H.n1]; omega
end ShAt
theorem chgs_get {T : Tal} {k : Nat} (hk : k < (chgs T).length) : (chgs T).getD k 0 ∈ chgs T := by
 rw [List.getD_eq_getElem?_getD, List.getElem?_eq_getElem hk]
 exact List.getElem_mem _
theorem any_yes {T : Tal} {i k : Nat} (h1 : k < (chgs T).length) (h2 : (chgs T).getD k 0 = 61 * i) : anyIn T.changed T.n i = true := by
 have hm := mem_chgs.1 (chgs_get h1)
 rw [h2] at hm
 exact anyIn_iff.2 ⟨61 * i, by omega, by omega, hm.1, hm.2⟩
theorem any_in {T : Tal} {i k : Nat} (h1 : k < (chgs T).length) (h2 : 61 * i ≤ (chgs T).getD k 0) (h3 : (chgs T).getD k 0 < 61 * i + 61) : anyIn T.changed T.n i = true := by
 have hm := mem_chgs.1 (chgs_get h1)
 exact anyIn_iff.2 ⟨_, h2, h3, hm.1, hm.2⟩
theorem any_not {T : Tal} {i k : Nat} (hlo : ∀ j, j < k → (chgs T).getD j 0 < 61 * i) (h : k < (chgs T).length → 61 * i + 61 ≤ (chgs T).getD k 0) : anyIn T.changed T.n i = false := by
 cases ha : anyIn T.changed T.n i with
 | false => rfl
 | true =>
  obtain ⟨b, h1, h2, h3, h4⟩ := anyIn_iff.1 ha
  obtain ⟨j, hj, rfl⟩ := List.getElem_of_mem (mem_chgs.2 ⟨h3, h4⟩)
  have e : (chgs T).getD j 0 = (chgs T)[j] := by rw [List.getD_eq_getElem?_getD, List.getElem?_eq_getElem hj]; rfl
  by_cases hjk : j < k
  ·have := hlo j hjk; omega
  ·have h5 := h (by omega)
   have : (chgs T).getD k 0 ≤ (chgs T).getD j 0 := by
    by_cases e2 : k = j
    ·rw [e2]; exact Nat.le_refl _
    ·have := List.pairwise_iff_getElem.1 (chgs_pairwise T) k j (by omega) hj (by omega)
     rw [e, List.getD_eq_getElem?_getD, List.getElem?_eq_getElem (by omega)]
     exact Nat.le_of_lt this
   omega
theorem wants_p {w : World} {x p t bc bk : Nat} {g h c : Nat → Nat} {S : PS} {k i : Nat} (H : ShAt w x p t bc bk g h c S) (hk : k < 2) (hi : i < S.n k) (hp : S.p k i = true ∨ S.a k i = 0) :
  Calls Tryz.prog 134 #[.pointer (some ⟨x, 0, none⟩), .int .i64 (k : Int), .int .i64 (i : Int)] w fun e w' => e = .returned (.bool (S.want k i)) ∧ w = w' := by
 have top := H.top
 have ac := H.atc hk hi
 have pc := H.plc hk hi
 have ca := H.atcap hk
 have nl := H.nle hk
 have x0 := cell_of_block top 0
 have x1 := cell_of_block top 1
 have x2 := cell_of_block top 2
 have x3 := cell_of_block top 3
 have x4 := cell_of_block top 4
 have x5 := cell_of_block top 5
 simp only [List.getElem?_toArray, List.getElem?_cons_zero, List.getElem?_cons_succ] at x0 x1 x2 x3 x4 x5
 clear top
 have hw : S.want k i = !S.p k i := by
  unfold PS.want
  rcases hp with hp | hp
  ·simp [hp]
  ·simp [hp]
 rw [hw]
 have i0 : (0 : Int) ≤ (i : Int) := by omega
 have i1 : (i : Int) < (S.n k : Int) := by omega
 have hk2 : k = 0 ∨ k = 1 := by omega
 rcases hk2 with rfl | rfl
 all_goals
  cases hpp : S.p _ i with
  | true =>
   rw [hpp] at pc
   go_enter Tryz.func134, Tryz.ntmps134
   go_wp2_with fail
   go_ret
   exact ⟨rfl, rfl⟩
  | false =>
   rw [hpp] at pc
   have ha := hp.resolve_left (by rw [hpp]; decide)
   rw [ha] at ac
   rw [show (((0 : Nat)) : Int) = 0 from rfl] at ac
   go_enter Tryz.func134, Tryz.ntmps134
   go_wp2_with fail
   go_ret
   exact ⟨rfl, rfl⟩
theorem wants_1 {w : World} {x p t bc bk : Nat} {g h c : Nat → Nat} {S : PS} {i : Nat} (H : ShAt w x p t bc bk g h c S) (hi : i < S.n 1) (hp : S.p 1 i = false) (ha : S.a 1 i ≠ 0) :
  Calls Tryz.prog 134 #[.pointer (some ⟨x, 0, none⟩), .int .i64 1, .int .i64 (i : Int)] w fun e w' => e = .returned (.bool (S.want 1 i)) ∧ Chg [] w w' := by
 have top := H.top
 have ac := H.atc (k := 1) (by omega) hi
 have pc := H.plc (k := 1) (by omega) hi
 have ca := H.atcap (k := 1) (by omega)
 have nl := H.nle (k := 1) (by omega)
 have nl0 := H.nle (k := 0) (by omega)
 have x0 := cell_of_block top 0
 have x1 := cell_of_block top 1
 have x2 := cell_of_block top 2
 have x3 := cell_of_block top 3
 have x4 := cell_of_block top 4
 have x5 := cell_of_block top 5
 simp only [List.getElem?_toArray, List.getElem?_cons_zero, List.getElem?_cons_succ] at x0 x1 x2 x3 x4 x5
 clear top
 rw [hp] at pc
 have ha' : ¬ (S.a 1 i : Int) = 0 := by omega
 have i0 : (0 : Int) ≤ (i : Int) := by omega
 have i1 : (i : Int) < (S.n 1 : Int) := by omega
 have hin : 61 * i < S.n 0 := by
  have := H.n0
  have h2 := H.n1
  rw [← this] at h2
  unfold pg at h2
  omega
 have hc := contains_at (w := w) (b := h 0) (o := 61 * i) (n := min (61 * i + 61) (S.n 0) - 61 * i) (cap := S.n 0 - 61 * i) (p := fun j => S.p 0 (61 * i + j)) (by omega) (by omega) (by unfold maxLen; omega) (fun j hj => H.plc (k := 0) (by omega) (by omega))
 have HC := Lib.hid hc
 clear hc
 have hw : ∀ r : Bool, (r = true ↔ ∃ j, j < min (61 * i + 61) (S.n 0) - 61 * i ∧ S.p 0 (61 * i + j) = true) → r = S.want 1 i := by
  intro r hr
  have e : S.want 1 i = anyIn (S.p 0) (S.n 0) i := by unfold PS.want; simp [hp, ha]
  rw [e, Bool.eq_iff_iff, hr, anyIn_iff]
  constructor
  ·rintro ⟨j, hj, h⟩; exact ⟨61 * i + j, by omega, by omega, by omega, h⟩
  ·rintro ⟨b, h1, h2, h3, h4⟩; exact ⟨b - 61 * i, by omega, by rw [show 61 * i + (b - 61 * i) = b by omega]; exact h4⟩
 have HW := Lib.hid hw
 clear hw
 have hmi : min (((i : Int) + 1) * 61) (S.n 0 : Int) = ((min (61 * i + 61) (S.n 0) : Nat) : Int) := by omega
 have e1 : (i : Int) * 61 = ((61 * i : Nat) : Int) := by omega
 go_enter Tryz.func134, Tryz.ntmps134
 go_wp2_with fail
 refine HC.out.mono ?_
 rintro e w' ⟨⟨r, rfl, hr⟩, rfl⟩
 obtain rfl := HW.out r hr
 clear hr
 go_wp2_with fail
 go_ret
 exact ⟨rfl, Chg.refl _ _⟩
theorem wants_0 {w : World} {x p t bc bk : Nat} {g h c : Nat → Nat} {S : PS} {i : Nat} (H : ShAt w x p t bc bk g h c S) (hi : i < S.n 0) (hp : S.p 0 i = false) (ha : S.a 0 i ≠ 0) :
  Calls Tryz.prog 134 #[.pointer (some ⟨x, 0, none⟩), .int .i64 0, .int .i64 (i : Int)] w fun e w' => e = .returned (.bool (S.want 0 i)) ∧ Chg [] w w' := by
 have top := H.top
 have ac := H.atc (k := 0) (by omega) hi
 have pc := H.plc (k := 0) (by omega) hi
 have ca := H.atcap (k := 0) (by omega)
 have nl := H.nle (k := 0) (by omega)
 have HT := Lib.hid H.pt.ht
 have hx := heap_lt top
 have HX := Lib.hid top
 have x0 := cell_of_block top 0
 have x1 := cell_of_block top 1
 have x2 := cell_of_block top 2
 have x3 := cell_of_block top 3
 have x4 := cell_of_block top 4
 have x5 := cell_of_block top 5
 simp only [List.getElem?_toArray, List.getElem?_cons_zero, List.getElem?_cons_succ] at x0 x1 x2 x3 x4 x5
 clear top
 rw [hp] at pc
 have ha' : ¬ (S.a 0 i : Int) = 0 := by omega
 have i0 : (0 : Int) ≤ (i : Int) := by omega
 have i1 : (i : Int) < (S.n 0 : Int) := by omega
 have e : S.want 0 i = anyIn S.T.changed S.T.n i := by unfold PS.want; simp [hp, ha]
 rw [e]
 clear e
 have hcl : (chgs S.T).length ≤ 4096 := Nat.le_trans (List.length_filter_le _ _) (by simp; exact H.pt.ht.n2)
 go_enter Tryz.func134, Tryz.ntmps134
 go_wp2_with fail
 refine (changed_at HT.out).mono ?_
 rintro e w1 ⟨v, rfl, hown, hB⟩
 have HS := Lib.hid (SlI.of_own hown)
 have HC := Lib.hid (Chg.of_below (L := []) hB)
 clear hown hB
 have cB := bin_at HS.out (chgs_pairwise S.T) hcl (61 * i) (by omega)
 rw [show ((61 * i : Nat) : Int) = (i : Int) * 61 by omega] at cB
 have HT1 := Lib.hid (HT.out.chg HC.out (by simp) (by simp) (by simp))
 have y0 := (HC.out.cell (p := ⟨x, 0, none⟩) hx (by simp)).trans x0
 clear x0 x1 x2 x3 x4 x5 ac pc
 go_wp2_with fail
 refine cB.mono ?_
 clear cB
 rintro e w2 ⟨k, b, rfl, hk, hlo, hhi, hb, rfl⟩
 have HLO := Lib.hid hlo
 have HHI := Lib.hid hhi
 have HBB := Lib.hid hb
 clear hlo hhi hb
 cases b with
 | true =>
  have HZ := Lib.hid (any_yes (HBB.out.1 rfl).1 (HBB.out.1 rfl).2)
  go_wp2_with fail
  go_ret
  exact ⟨by rw [HZ.out] <;> rfl, HC.out⟩
 | false =>
  go_wp2_with fail
  refine (changed_at HT1.out).mono ?_
  rintro e w3 ⟨v2, rfl, hown, hB⟩
  have hS2 := SlI.of_own hown
  have HC2 := Lib.hid (HC.out.trans (Chg.of_below (L := []) hB))
  clear hown hB
  obtain ⟨a, cp, rfl⟩ := hS2.len
  by_cases hkl : k < (chgs S.T).length
  ·have hcell : ∃ gg, a = some ⟨gg, 0, none⟩ ∧ (chgs S.T).length ≤ cp ∧ w3.cell? ⟨gg, k, none⟩ = some (.int .i64 (((chgs S.T).getD k 0 : Nat) : Int)) := by
    rcases hS2 with ⟨h1, h2⟩ | ⟨gg, cap, h1, h2, h3, h4, h5⟩
    ·rw [h2] at hkl; simp at hkl
    ·injection h1 with h1 _ h6
     exact ⟨gg, h1, by rw [h6]; exact h2, h5 k hkl⟩
   obtain ⟨gg, rfl, hcp, hcell⟩ := hcell
   have h61 := HHI.out k (Nat.le_refl _) hkl
   obtain ⟨y, hy⟩ : ∃ y, y = (chgs S.T).getD k 0 := ⟨_, rfl⟩
   rw [← hy] at hcell h61
   have HY := Lib.hid hy
   clear hy hS2
   by_cases hlt : y < 61 * i + 61
   ·have i2 : (y : Int) < ((i : Int) + 1) * 61 := by omega
    go_wp2_with fail
    go_ret
    exact ⟨by rw [any_in hkl (by rw [← HY.out]; exact h61) (by rw [← HY.out]; exact hlt)] <;> rfl, HC2.out⟩
   ·have i2 : ¬ (y : Int) < ((i : Int) + 1) * 61 := by omega
    go_wp2_with fail
    go_ret
    exact ⟨by rw [any_not HLO.out (fun _ => by rw [← HY.out]; omega)]; simp; omega, HC2.out⟩
  ·obtain rfl : k = (chgs S.T).length := by omega
   clear hS2
   go_wp2_with fail
   go_ret
   exact ⟨by rw [any_not HLO.out (fun h => absurd h (Nat.lt_irrefl _))] <;> rfl, HC2.out⟩
theorem wants_at {w : World} {x p t bc bk : Nat} {g h c : Nat → Nat} {S : PS} {k i : Nat} (H : ShAt w x p t bc bk g h c S) (hk : k < 2) (hi : i < S.n k) :
  Calls Tryz.prog 134 #[.pointer (some ⟨x, 0, none⟩), .int .i64 (k : Int), .int .i64 (i : Int)] w fun e w' => e = .returned (.bool (S.want k i)) ∧ Chg [] w w' := by
 by_cases hq : S.p k i = true ∨ S.a k i = 0
 ·exact (wants_p H hk hi hq).mono fun e w' ⟨h1, h2⟩ => ⟨h1, by rw [← h2]; exact Chg.refl _ _⟩
 ·have h1 : S.p k i = false := by cases hpp : S.p k i with | false => rfl | true => exact absurd (.inl hpp) hq
  have h2 : S.a k i ≠ 0 := fun h => hq (.inr h)
  have hk2 : k = 0 ∨ k = 1 := by omega
  rcases hk2 with rfl | rfl
  ·exact wants_0 H hi h1 h2
  ·exact wants_1 H hi h1 h2
end Go.Proofs.YtkhcaclndepgbaaGreat
