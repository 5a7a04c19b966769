/- Layer 10 in plain words: what is placed, one page after the other. No program in sight. · Which blocks have changed, as a list: plain facts. · tally.Changed: the changed blocks, rising, in a slice of its own. · One block's count up and down: contracts for TallyMost. · tally.Back, and Changed in a handier form; what is done to a tally. · What the reference's tally leans on. -/
import Derived.Test.YtkhcaclndepgbaaGreatZf15
import Derived.Test.YtkhcaclndepgbaaGreatZf12
import Derived.Lib.SlKeysI
import Derived.Test.YtkhcaclndepgbaaGreatIt
import Derived.Test.YtkhcaclndepgbaaGreatZf13
import Derived.Test.YtkhcaclndepgbaaGreatZf01
import Derived.Test.YtkhcaclndepgbaaGreatZf14
import Derived.Deep.DeepCutAuto
import Derived.Deep.CutBlock
import Derived.Deep.LoopGhost
set_option linter.unusedVariables false
set_option linter.unusedSimpArgs false
set_option maxRecDepth 100000
set_option maxHeartbeats 20000000
namespace Go.Proofs.YtkhcaclndepgbaaGreat
def pg (n : Nat) : Nat := (n + 60) / 61
def needN (n : Nat) : Nat := pg n + pg (pg n)
def anyIn (p : Nat → Bool) (n i : Nat) : Bool := (List.range 61).any fun j => decide (61 * i + j < n) && p (61 * i + j)
theorem anyIn_iff {p : Nat → Bool} {n i : Nat} : anyIn p n i = true ↔ ∃ b, 61 * i ≤ b ∧ b < 61 * i + 61 ∧ b < n ∧ p b = true := by
 unfold anyIn
 rw [List.any_eq_true]
 constructor
 ·rintro ⟨j, hj, h⟩
  simp only [List.mem_range, Bool.and_eq_true, decide_eq_true_eq] at hj h
  exact ⟨61 * i + j, by omega, by omega, h.1, h.2⟩
 ·rintro ⟨b, h1, h2, h3, h4⟩
  refine ⟨b - 61 * i, by simp; omega, ?_⟩
  rw [show 61 * i + (b - 61 * i) = b by omega]
  simp [h3, h4]
structure PS where
 T : Tal
 K : Pk
 n : Nat → Nat
 a : Nat → Nat → Nat
 p : Nat → Nat → Bool
def PS.want (S : PS) (k i : Nat) : Bool := !S.p k i && (S.a k i == 0 || (if k = 1 then anyIn (S.p 0) (S.n 0) i else anyIn S.T.changed S.T.n i))
def upd2 {α : Type} (f : Nat → Nat → α) (k i : Nat) (v : α) : Nat → Nat → α := fun k' i' => if k' = k ∧ i' = i then v else f k' i'
theorem upd2_same {α : Type} (f : Nat → Nat → α) (k i : Nat) (v : α) : upd2 f k i v k i = v := by simp [upd2]
theorem upd2_other {α : Type} (f : Nat → Nat → α) {k i k' i' : Nat} (v : α) (h : ¬ (k' = k ∧ i' = i)) : upd2 f k i v k' i' = f k' i' := by unfold upd2; rw [if_neg h]
def PS.T1 (S : PS) (k i : Nat) : Tal := if S.a k i = 0 then S.T else down S.T (S.a k i : Int)
def PS.new (S : PS) (k i : Nat) : Nat := (takeR (S.T1 k i) S.K).getD 0
def PS.step (S : PS) (k i : Nat) : PS := ⟨takeT (S.T1 k i) S.K, takeK (S.T1 k i) S.K, S.n, upd2 S.a k i (S.new k i), upd2 S.p k i true⟩
def PS.next (S : PS) : Option (Nat × Nat) :=
 match firstFree (S.want 0) 0 (S.n 0) with
 | some i => some (0, i)
 | none => match firstFree (S.want 1) 0 (S.n 1) with | some i => some (1, i) | none => none
def PS.run : Nat → PS → PS
 | 0, S => S
 | f + 1, S => match S.next with | some (k, i) => PS.run f (S.step k i) | none => S
def PS.left (S : PS) : Nat := cnt (S.n 0) (fun i => !S.p 0 i) + cnt (S.n 1) (fun i => !S.p 1 i)
theorem PS.next_some {S : PS} {k i : Nat} (h : S.next = some (k, i)) : k < 2 ∧ i < S.n k ∧ S.want k i = true := by
 unfold PS.next at h
 cases h0 : firstFree (S.want 0) 0 (S.n 0) with
 | some j =>
  rw [h0] at h
  simp only [Option.some.injEq, Prod.mk.injEq] at h
  obtain ⟨rfl, rfl⟩ := h
  have := firstFree_some h0
  exact ⟨by omega, by omega, this.2.2.1⟩
 | none =>
  rw [h0] at h
  simp only at h
  cases h1 : firstFree (S.want 1) 0 (S.n 1) with
  | some j =>
   rw [h1] at h
   simp only [Option.some.injEq, Prod.mk.injEq] at h
   obtain ⟨rfl, rfl⟩ := h
   have := firstFree_some h1
   exact ⟨by omega, by omega, this.2.2.1⟩
  | none => rw [h1] at h; cases h
theorem PS.next_none {S : PS} (h : S.next = none) : ∀ k i, k < 2 → i < S.n k → S.want k i = false := by
 unfold PS.next at h
 cases h0 : firstFree (S.want 0) 0 (S.n 0) with
 | some j => rw [h0] at h; cases h
 | none =>
  rw [h0] at h
  simp only at h
  cases h1 : firstFree (S.want 1) 0 (S.n 1) with
  | some j => rw [h1] at h; cases h
  | none =>
   intro k i hk hi
   have hk2 : k = 0 ∨ k = 1 := by omega
   rcases hk2 with rfl | rfl
   ·exact firstFree_none h0 i (by omega) (by omega)
   ·exact firstFree_none h1 i (by omega) (by omega)
theorem want_p {S : PS} {k i : Nat} (h : S.want k i = true) : S.p k i = false := by
 unfold PS.want at h
 simp only [Bool.and_eq_true, Bool.not_eq_true'] at h
 exact h.1
theorem PS.left_step {S : PS} {k i : Nat} (hk : k < 2) (hi : i < S.n k) (h : S.want k i = true) : (S.step k i).left + 1 = S.left := by
 have hp := want_p h
 have hk2 : k = 0 ∨ k = 1 := by omega
 unfold PS.left PS.step
 dsimp only
 rcases hk2 with rfl | rfl
 ·have e1 : cnt (S.n 1) (fun j => !upd2 S.p 0 i true 1 j) = cnt (S.n 1) (fun j => !S.p 1 j) := cnt_congr fun j _ => by rw [upd2_other _ _ (by omega)]
  have e0 := cnt_upd (p := fun j => !S.p 0 j) (q := fun j => !upd2 S.p 0 i true 0 j) hi (fun j _ hj => by rw [upd2_other _ _ (by omega)])
  simp only [upd2_same, hp, Bool.not_true, Bool.not_false, if_true] at e0
  simp at e0
  omega
 ·have e1 : cnt (S.n 0) (fun j => !upd2 S.p 1 i true 0 j) = cnt (S.n 0) (fun j => !S.p 0 j) := cnt_congr fun j _ => by rw [upd2_other _ _ (by omega)]
  have e0 := cnt_upd (p := fun j => !S.p 1 j) (q := fun j => !upd2 S.p 1 i true 1 j) hi (fun j _ hj => by rw [upd2_other _ _ (by omega)])
  simp only [upd2_same, hp, Bool.not_true, Bool.not_false, if_true] at e0
  simp at e0
  omega
theorem PS.left_pos {S : PS} {k i : Nat} (hk : k < 2) (hi : i < S.n k) (h : S.want k i = true) : 0 < S.left := by have := PS.left_step hk hi h; omega
theorem PS.run_none {S : PS} (h : S.next = none) : ∀ f, S.run f = S
 | 0 => rfl
 | f + 1 => by unfold PS.run; rw [h]
theorem PS.run_some {S : PS} {k i : Nat} (h : S.next = some (k, i)) : S.run S.left = (S.step k i).run (S.step k i).left := by
 have ⟨hk, hi, hw⟩ := PS.next_some h
 rw [← PS.left_step hk hi hw]
 show PS.run (_ + 1) S = _
 unfold PS.run
 rw [h]
 cases (S.step k i).left <;> rfl
def PS.fin (S : PS) : PS := S.run S.left
theorem PS.fin_none {S : PS} (h : S.next = none) : S.fin = S := PS.run_none h _
theorem PS.fin_some {S : PS} {k i : Nat} (h : S.next = some (k, i)) : S.fin = (S.step k i).fin := PS.run_some h
theorem PS.fin_ind {Q : PS → Prop} (hs : ∀ S k i, Q S → k < 2 → i < S.n k → S.want k i = true → Q (S.step k i)) : ∀ (m : Nat) (S : PS), S.left ≤ m → Q S → Q S.fin ∧ S.fin.next = none := by
 intro m
 induction m with
 | zero =>
  intro S hl hq
  cases h : S.next with
  | none => rw [PS.fin_none h]; exact ⟨hq, h⟩
  | some ki => have ⟨a, b, c⟩ := PS.next_some h; have := PS.left_pos a b c; omega
 | succ m ih =>
  intro S hl hq
  cases h : S.next with
  | none => rw [PS.fin_none h]; exact ⟨hq, h⟩
  | some ki =>
   obtain ⟨k, i⟩ := ki
   have ⟨a, b, c⟩ := PS.next_some h
   have := PS.left_step a b c
   rw [PS.fin_some h]
   exact ih _ (by omega) (hs S k i hq a b c)
structure ShOk (T : Tal) (n : Nat → Nat) (a : Nat → Nat → Nat) : Prop where
 n0 : n 0 = pg T.n
 n1 : n 1 = pg (pg T.n)
 has : ∀ k i, k < 2 → i < n k → a k i ≠ 0 → a k i < T.n ∧ T.now (a k i) ≠ 0
 apart : ∀ k i k' i', k < 2 → i < n k → k' < 2 → i' < n k' → a k i ≠ 0 → a k i = a k' i' → k = k' ∧ i = i'
theorem down_now {T : Tal} {b : Nat} (hb : b < T.n) (h : T.now b ≠ 0) : down T (b : Int) = T.set b (T.now b - 1) := by
 have e : hasB T (b : Int) = true := (hasB_iff T b).2 (by omega)
 unfold down downE
 simp [e, h]
theorem set_now (T : Tal) (b v i : Nat) : (T.set b v).now i = if i = b then v else T.now i := rfl
theorem step_some {S : PS} {k i b : Nat} (ht : takeR (S.T1 k i) S.K = some b) : (S.step k i).T = (S.T1 k i).set b 1 ∧ S.new k i = b := by
 unfold PS.step PS.new takeT
 rw [ht]
 exact ⟨rfl, rfl⟩
theorem T1_n (S : PS) (k i : Nat) : (S.T1 k i).n = S.T.n := by
 unfold PS.T1; split
 ·rfl
 ·exact down_n _ _
theorem T1_now {S : PS} {k i : Nat} (h : ShOk S.T S.n S.a) (hk : k < 2) (hi : i < S.n k) (x : Nat) : (S.T1 k i).now x = if x = S.a k i ∧ S.a k i ≠ 0 then S.T.now x - 1 else S.T.now x := by
 unfold PS.T1
 by_cases h0 : S.a k i = 0
 ·rw [if_pos h0, if_neg (by rintro ⟨_, h⟩; exact h h0)]
 ·have ⟨h1, h2⟩ := h.has k i hk hi h0
  rw [if_neg h0, down_now h1 h2, set_now]
  by_cases hx : x = S.a k i
  ·rw [if_pos hx, if_pos ⟨hx, h0⟩, hx]
  ·rw [if_neg hx, if_neg (fun h => hx h.1)]
theorem T1_kept {S : PS} {k i : Nat} (x : Nat) : (S.T1 k i).kept x = S.T.kept x := by
 unfold PS.T1 down
 split
 ·rfl
 ·split <;> rfl
theorem pg_pos {n : Nat} (h : 1 ≤ n) : 1 ≤ pg n := by unfold pg; omega
theorem pg_le {n : Nat} : pg n ≤ n := by unfold pg; omega
end Go.Proofs.YtkhcaclndepgbaaGreat
namespace Go.Proofs.YtkhcaclndepgbaaGreat
open Go.RowKit Go.Maps
def chgs (T : Tal) : List Nat := (List.range T.n).filter T.changed
theorem mem_chgs {T : Tal} {b : Nat} : b ∈ chgs T ↔ b < T.n ∧ T.changed b = true := by
 simp [chgs]
theorem chgs_pairwise (T : Tal) : (chgs T).Pairwise (· < ·) := List.Pairwise.filter _ List.pairwise_lt_range
theorem chgs_perm {P : Program} {w : World} {kt et bk : Nat} {T : Tal} {D : DataW Unit} (hown : w.ownsMap P kt (plainElem P et) bk (Maps.size D) D) (hkt : P.underlying kt = some (.int .i64))
  (h3 : ∀ l, Maps.has D l = true → ∃ k, k < T.n ∧ l = .int .i64 (k : Int) ∧ (T.keptAt k).isSome = true)
  (h4 : ∀ k v, k < T.n → T.keptAt k = some v → Maps.has D (.int .i64 (k : Int)) = true ∧ ∀ z, D.atKey (.int .i64 (k : Int)) z = .lit (.int .u16 (v : Int))) :
  ((chgs T).map (fun b : Nat => (b : Int))).Perm (intKeys D) := by
 obtain ⟨es, rfl, hp, hkeys⟩ := hown.entries (int_keyed hkt)
 refine perm_intKeys hp ?_ ?_ ?_
 ·intro p hpm
  have hh : Maps.has (.map es) p.1 = true := by
   rw [has_eq, List.any_eq_true]
   exact ⟨p, hpm, WideAt.sameKey_self (hkeys p hpm)⟩
  obtain ⟨k, _, hl, _⟩ := h3 _ hh
  exact ⟨_, hl⟩
 ·rw [List.Nodup, List.pairwise_map]
  exact (chgs_pairwise T).imp (fun {a b} h e => by omega)
 ·intro x
  constructor
  ·intro hx
   obtain ⟨b, hb, rfl⟩ := List.mem_map.1 hx
   obtain ⟨h1, h2⟩ := mem_chgs.1 hb
   have : T.keptAt b = some (T.kept b) := by
    simp [Tal.changed] at h2
    simp [Tal.keptAt, h2]
   exact (h4 b _ h1 this).1
  ·intro hx
   obtain ⟨k, hk, hl, hs⟩ := h3 _ hx
   injection hl with _ hl
   rw [hl]
   refine List.mem_map.2 ⟨k, mem_chgs.2 ⟨hk, ?_⟩, rfl⟩
   unfold Tal.keptAt at hs
   unfold Tal.changed
   by_cases e : T.now k = T.kept k
   ·rw [if_pos e] at hs; cases hs
   ·simp [e]
theorem chgs_sorted (T : Tal) {ss : List Int} (h : ss.Perm ((chgs T).map (fun b : Nat => (b : Int)))) : ss.mergeSort (fun x y => decide (x ≤ y)) = (chgs T).map (fun b : Nat => (b : Int)) := by
 have e := mergeSort_of_perm_i h
 have s : ((chgs T).map (fun b : Nat => (b : Int))).mergeSort leI = (chgs T).map (fun b : Nat => (b : Int)) := by
  refine List.mergeSort_of_pairwise ?_
  rw [List.pairwise_map]
  exact (chgs_pairwise T).imp (fun {a b} h => by simp [leI]; omega)
 exact e.trans s
end Go.Proofs.YtkhcaclndepgbaaGreat
namespace Go.Proofs.YtkhcaclndepgbaaGreat
open Go.RowKit Go.Maps Go.Sort Go.Shelf
theorem sortsA (m : Nat) : AnyZI.SortsIn Tryz.prog Tryz.sortedA_ren Fence.wide m :=
  ⟨fun blk off cap ss W hH hblk hsz => callsIn_wide.2 (AnyM.slices_Sort_int Tryz.sortA blk off cap ss W hH hblk hsz),
   fun p cap W => callsIn_wide.2 (AnyM.slices_Sort_int_none Tryz.sortA p cap W)⟩
def intVs (l : List Nat) : List Value := l.map (fun b : Nat => .int .i64 (b : Int))
theorem changed_at {w : World} {t bc bk : Nat} {T : Tal} (h : TallyAt w t bc bk T) :
  Calls Tryz.prog 79 #[.pointer (some ⟨t, 0, none⟩)] w fun e w' => ∃ v, e = .returned v ∧
   w'.ownsRow w.heap.size 3 1 v (chgs T).length (intVs (chgs T)) ∧ Below w.heap.size w w' := by
 obtain ⟨D, hown, h2, h3, h4⟩ := h.map
 have hperm := chgs_perm hown Tryz.underlying3 h3 h4
 have hsz : Maps.size D ≤ 4096 := by rw [h2]; exact Nat.le_trans (cnt_le _ _) h.n2
 have hmax : Maps.size D ≤ maxLen := by unfold maxLen; omega
 have hbytes : Maps.size D * 8 ≤ 140737488355328 := by omega
 have hbl := hown.lt
 have c1 := h.c1
 have HP := Lib.hid hperm
 clear hperm h3 h4 h2
 refine (callsIn_wide (n := 6)).1 ?_
 have hseq : SeqGives Fence.wide 2 Tryz.prog 167 #[.pointer (some ⟨w.heap.size, 0, none⟩)] encZ (fun ss => ss.Perm (intKeys D)) (Maps.size D) (w.alloc (.cells #[.map (some bk)] 213)) :=
  AnyZI.keys_gives (ρ := Tryz.keysA_ren) { Tryz.keysA with } Fence.wide _ trivial rfl (by omega) w.heap.size bk (Maps.size D) D _ (by simp) (by simp) (by
   obtain ⟨es, clock, hb, Ft, hs, hD⟩ := hown
   exact ⟨es, clock, (Below.heap_alloc _ _ bk hbl).trans hb, Ft, hs, hD⟩)
 have cK : ∀ mb W, CallsIn Fence.wide 5 Tryz.prog 131 #[.map mb] W fun e w' => e = .returned (.func (.func 167) #[] #[.pointer (some ⟨W.heap.size, 0, none⟩)]) ∧ w' = W.alloc (.cells #[.map mb] 213) := fun mb W => AnyZI.keys_in Tryz.keysA Fence.wide 5 trivial rfl mb W
 have cS := AnyZI.sorted_in Tryz.sortedA Fence.wide 5 trivial trivial trivial trivial rfl (by omega) (sortsA _) (enters_of Tryz.func138 (by kernel_rfl) rfl) 167 #[.pointer (some ⟨w.heap.size, 0, none⟩)] trivial (enters_of Tryz.func167 (by kernel_rfl) rfl) _ _ hmax hbytes _ hseq
 change CallsIn _ _ Tryz.prog 82 _ _ _ at cS
 have hfK : Fence.wide.fn 131 := trivial
 have hfS : Fence.wide.fn 82 := trivial
 refine callsIn_of_wp Tryz.func79 rfl trivial ?_ rfl
 simp only [Tryz.ntmps79, List.size_toArray, List.length_cons, List.length_nil, Nat.reduceAdd, Nat.reduceSub, Array.replicate_succ, Array.replicate_zero, List.push_toArray, List.append_toArray, List.nil_append, List.cons_append]
 gi_wp2_with (first
  | (gi_at_call 131; refine (cK _ _).mono ?_; rintro e w' ⟨rfl, rfl⟩)
  | (gi_at_call 82; refine cS.mono ?_; rintro e w' ⟨v, ss, rfl, hS, hrow, hnil, hb⟩))
 go_ret
 have hs := chgs_sorted T (ss := ss) (hS.trans HP.out.symm)
 have hl : ss.length = (chgs T).length := by
  have := (hS.trans HP.out.symm).length_eq
  simpa using this
 have hm : (ss.mergeSort (fun x y => decide (x ≤ y))).map encZ = intVs (chgs T) := by
  rw [hs]; simp [intVs, encZ]
 have hrow' := ownsRow_base_a (base' := w.heap.size) hrow (by simp)
 rw [hl] at hrow'
 refine ⟨v, rfl, ?_, ((Below.refl _ w).alloc (Nat.le_refl _) _).trans (hb.mono (by simp))⟩
 rw [← hm]
 exact hrow'
end Go.Proofs.YtkhcaclndepgbaaGreat
namespace Go.Proofs.YtkhcaclndepgbaaGreat
open Go.RowKit
end Go.Proofs.YtkhcaclndepgbaaGreat
namespace Go.Proofs.YtkhcaclndepgbaaGreat
open Go.RowKit
def SlI (w : World) (v : Value) (l : List Nat) : Prop :=
 (v = .slice none 0 0 ∧ l = []) ∨ ∃ g cap, v = .slice (some ⟨g, 0, none⟩) l.length cap ∧ l.length ≤ cap ∧ cap ≤ maxLen ∧ g < w.heap.size ∧ ∀ i, i < l.length → w.cell? ⟨g, i, none⟩ = some (.int .i64 ((l.getD i 0 : Nat) : Int))
theorem SlI.of_own {w : World} {base T : Nat} {v : Value} {l : List Nat} (h : w.ownsRow base T 1 v l.length (intVs l)) : SlI w v l := by
 rcases h.2 with ⟨rfl, hl⟩ | ⟨g, cap, cur, rfl, hb, hg, h1, h2, h3, h4⟩
 ·exact .inl ⟨rfl, List.eq_nil_of_length_eq_zero hl⟩
 ·refine .inr ⟨g, cap, rfl, h1, h2, heap_lt hg, fun i hi => ?_⟩
  rw [cell_of_block hg]
  have : (cur.toList.take (l.length * 1))[i]? = (intVs l)[i]? := by rw [h4]
  rw [List.getElem?_take, if_pos (by omega)] at this
  rw [← Array.getElem?_toList, this]
  simp [intVs, List.getElem?_map, List.getD_eq_getElem?_getD, List.getElem?_eq_getElem hi]
theorem SlI.len {w : World} {v : Value} {l : List Nat} (h : SlI w v l) : ∃ a cap, v = .slice a l.length cap := by
 rcases h with ⟨rfl, rfl⟩ | ⟨g, cap, rfl, _⟩
 ·exact ⟨none, 0, rfl⟩
 ·exact ⟨_, _, rfl⟩
theorem SlI.chg {w w' : World} {v : Value} {l : List Nat} {L : List Nat} (h : SlI w v l) (c : Chg L w w') (hv : ∀ g, v.ownBlock = some g → g ∉ L) : SlI w' v l := by
 rcases h with h | ⟨g, cap, rfl, h1, h2, h3, h4⟩
 ·exact .inl h
 ·exact .inr ⟨g, cap, rfl, h1, h2, Nat.lt_of_lt_of_le h3 c.size, fun i hi => (c.cell (p := ⟨g, i, none⟩) h3 (hv g rfl)).trans (h4 i hi)⟩
theorem ownBlock_new {w : World} {base T n : Nat} {v : Value} {xs : List Value} (h : w.ownsRow base T 1 v n xs) : ∀ g, v.ownBlock = some g → base ≤ g ∧ g < w.heap.size := h.lt
def backTo (T : Tal) (l : List Nat) : Tal := { T with now := fun b => if b ∈ l then T.kept b else T.now b }
theorem backTo_nil (T : Tal) : backTo T [] = T := by
 unfold backTo; simp
theorem backTo_snoc (T : Tal) (l : List Nat) (b : Nat) : (backTo T l).set b (T.kept b) = backTo T (l ++ [b]) := by
 unfold backTo Tal.set
 congr 1
 funext j
 simp only [List.mem_append, List.mem_singleton]
 by_cases e : j = b
 ·subst e; simp
 ·simp [e]
theorem backTo_all {T : Tal} : ∀ b, b < T.n → (backTo T (chgs T)).now b = T.kept b := by
 intro b hb
 unfold backTo
 simp only
 split
 ·rfl
 ·rename_i h
  have : ¬ T.changed b = true := fun hc => h (mem_chgs.2 ⟨hb, hc⟩)
  simpa [Tal.changed] using this
theorem TallyAt.congr {w : World} {t bc bk : Nat} {T T' : Tal} (h : TallyAt w t bc bk T) (hn : T'.n = T.n) (h1 : ∀ b, b < T.n → T'.now b = T.now b) (h2 : ∀ b, b < T.n → T'.kept b = T.kept b) : TallyAt w t bc bk T' := by
 have ef : T'.frees = T.frees := by
  unfold Tal.frees; rw [hn]
  exact cnt_congr fun i hi => by simp [Tal.free, h1 i hi, h2 i hi]
 have ew : T'.waits = T.waits := by
  unfold Tal.waits; rw [hn]
  exact cnt_congr fun i hi => by simp [Tal.waitB, h1 i hi, h2 i hi]
 have ec : u16s T'.n T'.now = u16s T.n T.now := by
  rw [hn]
  unfold u16s
  congr 1
  funext i
  rw [h1 i i.2]
 refine ⟨by rw [hn]; exact h.n1, by rw [hn]; exact h.n2, fun i hi => by rw [hn] at hi; rw [h1 i hi]; exact h.now i hi, fun i hi => by rw [hn] at hi; rw [h2 i hi]; exact h.kept i hi, by rw [hn, ef, ew]; exact h.top, by rw [ec]; exact h.cs, ?_, h.ne⟩
 rw [hn]
 exact h.map.congr fun i hi => by simp [Tal.keptAt, h1 i hi, h2 i hi]
theorem getD_take_succ {l : List Nat} {i : Nat} (h : i < l.length) : l.take (i + 1) = l.take i ++ [l.getD i 0] := by
 rw [List.take_succ_eq_append_getElem h, List.getD_eq_getElem?_getD, List.getElem?_eq_getElem h]; rfl
theorem back_at {w : World} {t bc bk : Nat} {T : Tal} (h : TallyAt w t bc bk T) :
  Calls Tryz.prog 97 #[.pointer (some ⟨t, 0, none⟩)] w fun e w' => e = .returned (.tuple #[]) ∧ TallyAt w' t bc bk T.back ∧ Chg [t, bc, bk] w w' := by
 go_enter Tryz.func97, Tryz.ntmps97
 go_wp2_with fail
 refine (changed_at h).mono ?_
 rintro e w1 ⟨v, rfl, hrow, hb1⟩
 have hS := SlI.of_own hrow
 have hC : Chg [] w w1 := Chg.of_below hb1
 have hT1 := h.chg hC (by simp) (by simp) (by simp)
 have hvb := ownBlock_new hrow
 have hlen : (chgs T).length ≤ 4096 := Nat.le_trans (by
  have := List.length_filter_le T.changed (List.range T.n)
  simpa [chgs] using this) h.n2
 obtain ⟨a, cap, rfl⟩ := hS.len
 have HC := Lib.hid hC
 have HS := Lib.hid hS
 have Hvb := Lib.hid hvb
 clear hC hS hvb hrow hb1
 go_wp2_with fail
 go_loopw [7] (fun s wr => ∃ i : Nat, i ≤ (chgs T).length ∧ s = .int .i64 (i : Int) ∧ TallyAt wr t bc bk (backTo T ((chgs T).take i)) ∧ SlI wr (.slice a (chgs T).length cap) (chgs T) ∧ Chg [t, bc, bk] w wr) (fun s _ => (chgs T).length - (intOf s).toNat)
 case atStart => exact ⟨0, Nat.zero_le _, rfl, by rw [List.take_zero, backTo_nil]; exact hT1, HS.out, HC.out.mono (by simp)⟩
 case round =>
  obtain ⟨i, hi, rfl, hTr, hSr, hCr⟩ := hrel
  have HCr := Lib.hid hCr
  have HSr := Lib.hid hSr
  clear hCr hSr hT1
  by_cases hlt : i < (chgs T).length
  ·obtain ⟨b, hb⟩ : ∃ b, (chgs T).getD i 0 = b := ⟨_, rfl⟩
   have hmem : b ∈ chgs T := by
    rw [← hb, List.getD_eq_getElem?_getD, List.getElem?_eq_getElem hlt]
    exact List.getElem_mem hlt
   obtain ⟨hbn, hbc⟩ := mem_chgs.1 hmem
   have hcell : ∃ g, a = some ⟨g, 0, none⟩ ∧ wr.cell? ⟨g, i, none⟩ = some (.int .i64 (b : Int)) := by
    rcases HSr.out with ⟨hv, hl⟩ | ⟨g, cap', hv, _, _, _, hc⟩
    ·rw [hl] at hlt; simp at hlt
    ·injection hv with hv
     exact ⟨g, hv, by rw [hc i hlt, hb]⟩
   obtain ⟨g, rfl, hcell⟩ := hcell
   have hnot : b ∉ (chgs T).take i := by
    intro hm
    obtain ⟨j, hj, e⟩ := List.mem_iff_getElem.1 hm
    have hj' : j < i := by simp at hj; omega
    have hp := List.pairwise_iff_getElem.1 (chgs_pairwise T) j i (by omega) hlt hj'
    rw [List.getElem_take] at e
    rw [List.getD_eq_getElem?_getD, List.getElem?_eq_getElem hlt] at hb
    simp at hb
    omega
   have c1 := hTr.c1
   have hkb : T.kept b ≤ 65535 := h.kept b hbn
   have hl := (hTr.map.look (t := 213) Tryz.underlying3 Tryz.underlying33 Tryz.underlying213 (zeroU16 wr) hbn h.n2).2
   have hka : (backTo T ((chgs T).take i)).keptAt b = some (T.kept b) := by
    have hne : T.now b ≠ T.kept b := by simpa [Tal.changed] using hbc
    simp [Tal.keptAt, backTo, hnot, hne]
   rw [hka] at hl
   simp only [Option.getD_some] at hl
   have hst := getD_take_succ hlt
   rw [hb] at hst
   have Hst := Lib.hid hst
   clear hka hst hb hnot hmem hbc
   go_wp2_with fail
   refine (set_at hTr b (T.kept b) hbn hkb).mono ?_
   rintro e w2 ⟨rfl, hT2, hC2⟩
   rw [backTo_snoc, ← Hst.out] at hT2
   have HC2 := Lib.hid (HCr.out.trans hC2)
   have HS2 := Lib.hid (HSr.out.chg hC2 (fun g' hg' => by
    have := Hvb.out g' hg'
    have m1 := h.lt0
    have m2 := h.lt1
    have m3 := h.lt2
    simp
    omega))
   clear hC2 hl
   go_wp2_with fail
   go_roundw
   case rel => exact ⟨i + 1, by omega, by go_num, hT2, HS2.out, HC2.out⟩
   case measure => simp [intOf]; omega
  ·obtain rfl : i = (chgs T).length := by omega
   go_wp2_with fail
   go_end0
   refine ⟨rfl, ?_, HCr.out⟩
   rw [List.take_length] at hTr
   exact hTr.congr rfl (fun b hb => (backTo_all (T := T) b hb).symm) (fun b hb => rfl)
end Go.Proofs.YtkhcaclndepgbaaGreat
namespace Go.Proofs.YtkhcaclndepgbaaGreat
open Go.RowKit
theorem infoInt8 : (Tryz.prog.info? 3).map (fun i => (i.zero, i.size, i.bytes)) = some (some (.int .i64 0), 1, 8) := by kernel_rfl
theorem getV_nat {T : Tal} {k : Nat} (hk : k < T.n) : getV T (k : Int) = T.now k := by
 have : hasB T (k : Int) = true := (hasB_iff T k).2 (by omega)
 simp [getV, this]
end Go.Proofs.YtkhcaclndepgbaaGreat
