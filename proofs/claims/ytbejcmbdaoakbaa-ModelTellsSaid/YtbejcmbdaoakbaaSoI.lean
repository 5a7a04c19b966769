/- slices.Sort at uint64, whole; maps.Keys at uint64 keys; slices.AppendSeq, Collect, Sorted at uint64: the keys of a map, rising. -/
import Derived.Test.YtbejcmbdaoakbaaSoH
import Derived.Test.YtbejcmbdaoakbaaMd
import Derived.Shelf.SlIterI.Nil
namespace Go.Proofs.Ytbejcmbdaoakbaa
open Go.RowKit Go.Sort Go.Maps Go.Shelf
set_option linter.unusedVariables false
set_option linter.unusedSimpArgs false

/-! ### slices.Sort -/
def SrtPost (w : World) (g N : Nat) (d : Array Int) (e : Ending) (w' : World) : Prop :=
  e = .returned (.tuple #[]) ∧ RowD w' g N (pdq ltInt d 0 N (bitsLen N) true true) ∧ Chg [g] w w'
set_option maxRecDepth 20000 in
set_option maxHeartbeats 2000000 in
theorem soSort_at {w : World} {g N c : Nat} {d : Array Int} (h : RowD w g N d) (hN : N < 1152921504606846976) (hc : N ≤ c) :
    Calls Try.prog 57 #[.slice (some ⟨g, 0, none⟩) N c] w (SrtPost w g N d) := by
  have c1 := soLen N w (by omega)
  have hb : bitsLen N ≤ 62 := (bitsLen_le_iff N 62).2 (by omega)
  obtain ⟨l, hl⟩ : ∃ l, l = bitsLen N := ⟨_, rfl⟩
  have c2 := soPdq_at hN hc (N + 1) 0 N l d w (by omega) h (Nat.zero_le _) (Nat.le_refl _) (by omega) (.inl rfl)
  rw [show (((0 : Nat)) : Int) = 0 from rfl] at c2
  rw [← hl] at c1
  have C1 := Lib.hid c1
  have C2 := Lib.hid c2
  have Hl := Lib.hid hl
  clear c1 c2 hl h
  go_enter Try.func57, Try.ntmps57
  go_wp2_with fail
  refine C1.out.mono ?_
  rintro e w' ⟨rfl, rfl⟩
  go_wp2_with fail
  refine C2.out.mono ?_
  rintro e w1 ⟨rfl, hR, hC⟩
  have HF := Lib.hid (And.intro hR hC)
  clear hR hC
  go_wp2_with fail
  go_end0
  exact ⟨rfl, by rw [← Hl.out]; exact HF.out.1, HF.out.2⟩

set_option maxRecDepth 20000 in
set_option maxHeartbeats 1000000 in
theorem soIns_nil (w : World) : Calls Try.prog 65 #[.slice none 0 0, .int .i64 0, .int .i64 0] w fun e w' => e = .returned (.tuple #[]) ∧ w = w' := by
  go_enter Try.func65, Try.ntmps65
  go_wp2_with fail
  refine wp_loop_rounds 1 ?_
  rw [rounds_succ]
  go_wp2_with fail
  go_end0
  exact ⟨rfl, rfl⟩
set_option maxRecDepth 20000 in
set_option maxHeartbeats 1000000 in
theorem soPdq_nil (l : Int) (w : World) : Calls Try.prog 63 #[.slice none 0 0, .int .i64 0, .int .i64 0, .int .i64 l] w fun e w' => e = .returned (.tuple #[]) ∧ w = w' := by
  go_enter Try.func63, Try.ntmps63
  go_wp2_with fail
  refine wp_loop_rounds 1 ?_
  rw [rounds_succ]
  go_wp2_with fail
  refine (soIns_nil _).mono ?_
  rintro e w1 ⟨rfl, rfl⟩
  go_wp2_with fail
  exact bodyPost_ret (v := .tuple #[]) (by simp [results, Try.results63, go_sem]) rfl ⟨rfl, rfl⟩
set_option maxRecDepth 20000 in
set_option maxHeartbeats 1000000 in
theorem soSort_nil (w : World) : Calls Try.prog 57 #[.slice none 0 0] w fun e w' => e = .returned (.tuple #[]) ∧ w = w' := by
  have c1 := soLen 0 w (by omega)
  rw [show (((0 : Nat)) : Int) = 0 from rfl, show ((bitsLen 0 : Nat) : Int) = 0 from rfl] at c1
  have C1 := Lib.hid c1
  clear c1
  go_enter Try.func57, Try.ntmps57
  go_wp2_with fail
  refine C1.out.mono ?_
  rintro e w' ⟨rfl, rfl⟩
  go_wp2_with fail
  refine (soPdq_nil _ _).mono ?_
  rintro e w1 ⟨rfl, rfl⟩
  go_wp2_with fail
  go_end0
  exact ⟨rfl, rfl⟩

/-! ### a uint64 as a value, and as a key -/
abbrev eU : Nat → Value := fun n => .int .u64 (n : Int)
theorem eU_inj {x y : Nat} (h : eU x = eU y) : x = y := by simp only [Value.int.injEq, true_and] at h; omega
theorem keyOf_U {key : Value} {kl : Lit} (h : keyOf Try.prog 23 key = some kl) : ∃ x : Nat, key = eU x ∧ kl = kU x ∧ x < 18446744073709551616 := by
  cases key <;> simp [keyOf, Try.underlying23, mapKey] at h
  rename_i q a
  obtain ⟨⟨rfl, hw⟩, rfl⟩ := h
  have hb : 0 ≤ a ∧ a < 18446744073709551616 := by
    simp [Lit.wf, IntKind.wrap_u64] at hw
    have e1 : IntKind.u64.min = 0 := rfl
    have e2 : IntKind.u64.max = 18446744073709551615 := rfl
    omega
  exact ⟨a.toNat, by show Value.int .u64 a = .int .u64 (a.toNat : Int); rw [Int.toNat_of_nonneg hb.1], by show Lit.int .u64 a = .int .u64 (a.toNat : Int); rw [Int.toNat_of_nonneg hb.1], by omega⟩

/-- The keys that have come: none twice; those that the map has and that are no longer to come. -/
def CollU {H : Type} (D0 : DataW H) (left : Lit → Bool) (ss : List Nat) : Prop := ss.Nodup ∧ ∀ x, x ∈ ss ↔ (has D0 (kU x) = true ∧ left (kU x) = false)
theorem CollU.start {H : Type} (D0 : DataW H) : CollU D0 (has D0) [] := ⟨List.nodup_nil, fun x => by cases has D0 (kU x) <;> simp⟩
theorem CollU.step {H : Type} {D0 : DataW H} {left : Lit → Bool} {ss : List Nat} (h : CollU D0 left ss) {x : Nat} {y : DataW H} (hlk : left (kU x) = true) (hat : ∀ zd, D0.atKey (kU x) zd = y) : CollU D0 (fun z => left z && !z.sameKey (kU x)) (ss ++ [x]) := by
  have hhas : has D0 (kU x) = true := has_true_of_atKey hat
  have hnew : x ∉ ss := fun hx => by have := ((h.2 x).1 hx).2; rw [hlk] at this; cases this
  refine ⟨List.nodup_append.2 ⟨h.1, by simp, fun a ha b hb => by simp at hb; subst hb; exact fun e => hnew (e ▸ ha)⟩, fun y => ?_⟩
  by_cases hy : y = x
  · subst hy; simp [hhas, WideAt.sameKey_self (kU_is y)]
  · have hne : (kU y).sameKey (kU x) = false := sameKey_ne (fun e => hy (kU_inj e))
    simp [h.2 y, hy, hne]
/-- All keys of a map, in some order. -/
def KeysU {H : Type} (D0 : DataW H) (ss : List Nat) : Prop := ss.Nodup ∧ ∀ x, x ∈ ss ↔ has D0 (kU x) = true
theorem CollU.keys {H : Type} {D0 : DataW H} {left : Lit → Bool} {ss : List Nat} (h : CollU D0 left ss) (hl : ∀ kl, left kl = false) : KeysU D0 ss := ⟨h.1, fun x => by rw [h.2 x, hl]; simp⟩
theorem KeysU.lt {H : Type} {D0 : DataW H} {R : Value → Option (DataW H × List MemPlace)} {w : World} {b n : Nat} {ss : List Nat} (h : KeysU D0 ss) (hown : w.ownsMap Try.prog 23 R b n D0) : ∀ x, x ∈ ss → x < 18446744073709551616 := fun x hx => by
  obtain ⟨v, hv⟩ := own_key hown KU ((h.2 x).1 hx)
  obtain ⟨y, _, hy, hlt⟩ := keyOf_U hv
  obtain rfl := kU_inj hy
  exact hlt

/-! ### maps.Keys: Vols -/
set_option maxRecDepth 100000 in
set_option maxHeartbeats 1000000 in
theorem keysNVols {H : Type} (n : Nat) (hn : 1 ≤ n) (l Bm b nn : Nat) (D0 : DataW H) {R : Value → Option (DataW H × List MemPlace)} (J : List Nat → World → Prop)
    (hY : ∀ pre x W, J pre W → pre.length < Maps.size D0 → YieldAt Fence.wide (n - 1) Try.prog l #[eU x] W fun e W' => e = .returned (.bool true) ∧ J (pre ++ [x]) W' ∧ KeepsWalks W W')
    (W : World) (hJ : AbidesFrom W.heap.size J) (hm : W.cell? ⟨Bm, 0, none⟩ = some (.map (some b))) (hown : W.ownsMap Try.prog 23 R b nn D0) (h0 : J [] W) :
    CallsIn Fence.wide n Try.prog 58 #[.func (.yield l) #[] #[], .pointer (some ⟨Bm, 0, none⟩)] W fun e W' => (∃ v, e = .returned v) ∧ ∃ ss : List Nat, KeysU D0 ss ∧ J ss W' := by
  refine callsIn_of_wp Try.func58 rfl trivial ?_ rfl
  simp only [Try.ntmps58, List.size_toArray, List.length_cons, List.length_nil, Nat.reduceAdd, Nat.reduceSub, Array.replicate_succ, Array.replicate_zero, List.push_toArray, List.append_toArray, List.nil_append, List.cons_append]
  gi_wp2_with (first
    | (gi_at_range; refine wpListIn_range_own _ rfl _ 62 rfl 23 68 KU Try.underlying62 _ b nn _ rfl hown ?_; intro w0 hrg0 hg0 hs0)
    | gi_in)
  go_frame
  gi_loopw [3] (fun _ wr => ∃ (left : Lit → Bool) (cnt : Nat) (ss : List Nat), wr.ranges Try.prog 23 R b W.heap.size nn D0 left cnt ∧ ss.length + cnt ≤ Maps.size D0 ∧ CollU D0 left ss ∧ J ss wr)
    (fun _ wr => wr.rangeLeft b W.heap.size)
  case atStart =>
    exact ⟨_, _, [], hrg0, by simp, CollU.start D0, hJ [] W w0 none h0 hg0 (fun r e => by cases e)⟩
  case round =>
    obtain ⟨left, cnt, ss, hrg, hcs, hC, hJs⟩ := hrel
    gi_wp2_with (first
      | (gi_at_next; refine wpListIn_next_ranges _ rfl _ rfl 23 KU R eU id (fun key kl hk => by obtain ⟨x, hx, _⟩ := keyOf_U hk; exact ⟨x, hx⟩) (fun v _ _ => ⟨v, rfl⟩) b W.heap.size nn _ _ _ rfl hrg ?_ ?_)
      | gi_in)
    · intro hc0 hl0
      gi_wp2
      go_end0
      exact ⟨⟨_, rfl⟩, ss, hC.keys hl0, hJs⟩
    · intro x c kl yd yp w2 cnt2 hkey hlk hv hat hrg2 hlt hg2 hs2 hen
      obtain ⟨x', ex, rfl, _⟩ := keyOf_U hkey
      obtain rfl : x = x' := eU_inj ex
      have hJ2 : J ss w2 := hJ ss wr w2 (some W.heap.size) hJs hg2 (fun r e => by cases e; exact ⟨Nat.le_refl _, hrg.iter_walk⟩)
      obtain ⟨fn, tmps, assign, body, hy, hR⟩ := hY ss x w2 hJ2 (by omega)
      clear hs2
      gi_wp2
      refine hR.mono ?_
      rintro e W3 ⟨rfl, hJ3, hk3⟩
      gi_wp2
      have hrg3 := hrg2.of_walks hk3
      go_roundw
      case rel => exact ⟨_, cnt2, ss ++ [x], hrg3, by simp; omega, hC.step hlk hat, hJ3⟩
      case measure => rw [hrg3.left_eq, hrg.left_eq]; exact hlt

theorem keysGVols {H : Type} (n : Nat) (hn : 1 ≤ n) (Bm b nn : Nat) (D0 : DataW H) {R : Value → Option (DataW H × List MemPlace)} (w : World) (hBm : Bm < w.heap.size)
    (hm : w.cell? ⟨Bm, 0, none⟩ = some (.map (some b))) (hown : w.ownsMap Try.prog 23 R b nn D0) :
    SeqGives Fence.wide n Try.prog 58 #[.pointer (some ⟨Bm, 0, none⟩)] eU (KeysU D0) (Maps.size D0) w := fun l J W hW hJ hY h0 => by
  have hown' : W.ownsMap Try.prog 23 R b nn D0 := by
    have hbl := hown.lt
    obtain ⟨es, clock, hb, Ft, hs, hD⟩ := hown
    exact ⟨es, clock, (hW.block b hbl).trans hb, Ft, hs, hD⟩
  exact keysNVols n hn l Bm b nn D0 J hY W hJ ((hW.cell (p := ⟨Bm, 0, none⟩) hBm).trans hm) hown' h0

set_option maxRecDepth 100000 in
set_option maxHeartbeats 1000000 in
theorem keysNilVols (n : Nat) (l Bm : Nat) (J : List Nat → World → Prop) (W : World) (hJ : AbidesFrom W.heap.size J) (hm : W.cell? ⟨Bm, 0, none⟩ = some (.map none)) (h0 : J [] W) :
    CallsIn Fence.wide n Try.prog 58 #[.func (.yield l) #[] #[], .pointer (some ⟨Bm, 0, none⟩)] W fun e W' => (∃ v, e = .returned v) ∧ ∃ ss : List Nat, ss = [] ∧ J ss W' := by
  refine callsIn_of_wp Try.func58 rfl trivial ?_ rfl
  simp only [Try.ntmps58, List.size_toArray, List.length_cons, List.length_nil, Nat.reduceAdd, Nat.reduceSub, Array.replicate_succ, Array.replicate_zero, List.push_toArray, List.append_toArray, List.nil_append, List.cons_append]
  have hrg := run_range_nilMap (P := Try.prog) W 62 23 68 Try.underlying62
  have hnx : ∀ ty, (Instr.next (.pointer (some ⟨W.heap.size, 0, none⟩)) false ty).run Try.prog (W.alloc (.mapIter none 0 #[] 0)) = _ := fun ty => run_next_nilMap _ ty 0 0 #[]
  gi_wp2
  refine wpIn_loop_rounds 1 ?_
  rw [roundsIn_succ]
  gi_wp2
  go_end0
  exact ⟨⟨_, rfl⟩, [], rfl, hJ [] W _ none h0 (World.grownBy_alloc W _ none) (fun r e => by cases e)⟩

theorem keysGNilVols (n : Nat) (Bm : Nat) (w : World) (hBm : Bm < w.heap.size) (hm : w.cell? ⟨Bm, 0, none⟩ = some (.map none)) :
    SeqGives Fence.wide n Try.prog 58 #[.pointer (some ⟨Bm, 0, none⟩)] eU (fun ss : List Nat => ss = []) 0 w := fun l J W hW hJ _ h0 =>
  keysNilVols n l Bm J W hJ ((hW.cell (p := ⟨Bm, 0, none⟩) hBm).trans hm) h0

set_option maxHeartbeats 1000000 in
theorem keysVols_at (n : Nat) (mb : Option Nat) (w : World) :
    CallsIn Fence.wide n Try.prog 43 #[.map mb] w fun e w' => e = .returned (.func (.func 58) #[] #[.pointer (some ⟨w.heap.size, 0, none⟩)]) ∧ w' = w.alloc (.cells #[.map mb] 62) := by
  refine callsIn_of_wp Try.func43 rfl trivial ?_ rfl
  simp only [Try.ntmps43, List.size_toArray, List.length_cons, List.length_nil, Nat.reduceAdd, Nat.reduceSub, Array.replicate_succ, Array.replicate_zero, List.push_toArray, List.append_toArray, List.nil_append, List.cons_append]
  gi_wp2
  go_ret
  exact ⟨rfl, rfl⟩

/-! ### maps.Keys: Blk -/
set_option maxRecDepth 100000 in
set_option maxHeartbeats 1000000 in
theorem keysNBlk {H : Type} (n : Nat) (hn : 1 ≤ n) (l Bm b nn : Nat) (D0 : DataW H) {R : Value → Option (DataW H × List MemPlace)} (J : List Nat → World → Prop)
    (hY : ∀ pre x W, J pre W → pre.length < Maps.size D0 → YieldAt Fence.wide (n - 1) Try.prog l #[eU x] W fun e W' => e = .returned (.bool true) ∧ J (pre ++ [x]) W' ∧ KeepsWalks W W')
    (W : World) (hJ : AbidesFrom W.heap.size J) (hm : W.cell? ⟨Bm, 0, none⟩ = some (.map (some b))) (hown : W.ownsMap Try.prog 23 R b nn D0) (h0 : J [] W) :
    CallsIn Fence.wide n Try.prog 59 #[.func (.yield l) #[] #[], .pointer (some ⟨Bm, 0, none⟩)] W fun e W' => (∃ v, e = .returned v) ∧ ∃ ss : List Nat, KeysU D0 ss ∧ J ss W' := by
  refine callsIn_of_wp Try.func59 rfl trivial ?_ rfl
  simp only [Try.ntmps59, List.size_toArray, List.length_cons, List.length_nil, Nat.reduceAdd, Nat.reduceSub, Array.replicate_succ, Array.replicate_zero, List.push_toArray, List.append_toArray, List.nil_append, List.cons_append]
  gi_wp2_with (first
    | (gi_at_range; refine wpListIn_range_own _ rfl _ 68 rfl 23 71 KU Try.underlying68 _ b nn _ rfl hown ?_; intro w0 hrg0 hg0 hs0)
    | gi_in)
  go_frame
  gi_loopw [3] (fun _ wr => ∃ (left : Lit → Bool) (cnt : Nat) (ss : List Nat), wr.ranges Try.prog 23 R b W.heap.size nn D0 left cnt ∧ ss.length + cnt ≤ Maps.size D0 ∧ CollU D0 left ss ∧ J ss wr)
    (fun _ wr => wr.rangeLeft b W.heap.size)
  case atStart =>
    exact ⟨_, _, [], hrg0, by simp, CollU.start D0, hJ [] W w0 none h0 hg0 (fun r e => by cases e)⟩
  case round =>
    obtain ⟨left, cnt, ss, hrg, hcs, hC, hJs⟩ := hrel
    gi_wp2_with (first
      | (gi_at_next; refine wpListIn_next_ranges _ rfl _ rfl 23 KU R eU id (fun key kl hk => by obtain ⟨x, hx, _⟩ := keyOf_U hk; exact ⟨x, hx⟩) (fun v _ _ => ⟨v, rfl⟩) b W.heap.size nn _ _ _ rfl hrg ?_ ?_)
      | gi_in)
    · intro hc0 hl0
      gi_wp2
      go_end0
      exact ⟨⟨_, rfl⟩, ss, hC.keys hl0, hJs⟩
    · intro x c kl yd yp w2 cnt2 hkey hlk hv hat hrg2 hlt hg2 hs2 hen
      obtain ⟨x', ex, rfl, _⟩ := keyOf_U hkey
      obtain rfl : x = x' := eU_inj ex
      have hJ2 : J ss w2 := hJ ss wr w2 (some W.heap.size) hJs hg2 (fun r e => by cases e; exact ⟨Nat.le_refl _, hrg.iter_walk⟩)
      obtain ⟨fn, tmps, assign, body, hy, hR⟩ := hY ss x w2 hJ2 (by omega)
      clear hs2
      gi_wp2
      refine hR.mono ?_
      rintro e W3 ⟨rfl, hJ3, hk3⟩
      gi_wp2
      have hrg3 := hrg2.of_walks hk3
      go_roundw
      case rel => exact ⟨_, cnt2, ss ++ [x], hrg3, by simp; omega, hC.step hlk hat, hJ3⟩
      case measure => rw [hrg3.left_eq, hrg.left_eq]; exact hlt

theorem keysGBlk {H : Type} (n : Nat) (hn : 1 ≤ n) (Bm b nn : Nat) (D0 : DataW H) {R : Value → Option (DataW H × List MemPlace)} (w : World) (hBm : Bm < w.heap.size)
    (hm : w.cell? ⟨Bm, 0, none⟩ = some (.map (some b))) (hown : w.ownsMap Try.prog 23 R b nn D0) :
    SeqGives Fence.wide n Try.prog 59 #[.pointer (some ⟨Bm, 0, none⟩)] eU (KeysU D0) (Maps.size D0) w := fun l J W hW hJ hY h0 => by
  have hown' : W.ownsMap Try.prog 23 R b nn D0 := by
    have hbl := hown.lt
    obtain ⟨es, clock, hb, Ft, hs, hD⟩ := hown
    exact ⟨es, clock, (hW.block b hbl).trans hb, Ft, hs, hD⟩
  exact keysNBlk n hn l Bm b nn D0 J hY W hJ ((hW.cell (p := ⟨Bm, 0, none⟩) hBm).trans hm) hown' h0

set_option maxRecDepth 100000 in
set_option maxHeartbeats 1000000 in
theorem keysNilBlk (n : Nat) (l Bm : Nat) (J : List Nat → World → Prop) (W : World) (hJ : AbidesFrom W.heap.size J) (hm : W.cell? ⟨Bm, 0, none⟩ = some (.map none)) (h0 : J [] W) :
    CallsIn Fence.wide n Try.prog 59 #[.func (.yield l) #[] #[], .pointer (some ⟨Bm, 0, none⟩)] W fun e W' => (∃ v, e = .returned v) ∧ ∃ ss : List Nat, ss = [] ∧ J ss W' := by
  refine callsIn_of_wp Try.func59 rfl trivial ?_ rfl
  simp only [Try.ntmps59, List.size_toArray, List.length_cons, List.length_nil, Nat.reduceAdd, Nat.reduceSub, Array.replicate_succ, Array.replicate_zero, List.push_toArray, List.append_toArray, List.nil_append, List.cons_append]
  have hrg := run_range_nilMap (P := Try.prog) W 68 23 71 Try.underlying68
  have hnx : ∀ ty, (Instr.next (.pointer (some ⟨W.heap.size, 0, none⟩)) false ty).run Try.prog (W.alloc (.mapIter none 0 #[] 0)) = _ := fun ty => run_next_nilMap _ ty 0 0 #[]
  gi_wp2
  refine wpIn_loop_rounds 1 ?_
  rw [roundsIn_succ]
  gi_wp2
  go_end0
  exact ⟨⟨_, rfl⟩, [], rfl, hJ [] W _ none h0 (World.grownBy_alloc W _ none) (fun r e => by cases e)⟩

theorem keysGNilBlk (n : Nat) (Bm : Nat) (w : World) (hBm : Bm < w.heap.size) (hm : w.cell? ⟨Bm, 0, none⟩ = some (.map none)) :
    SeqGives Fence.wide n Try.prog 59 #[.pointer (some ⟨Bm, 0, none⟩)] eU (fun ss : List Nat => ss = []) 0 w := fun l J W hW hJ _ h0 =>
  keysNilBlk n l Bm J W hJ ((hW.cell (p := ⟨Bm, 0, none⟩) hBm).trans hm) h0

set_option maxHeartbeats 1000000 in
theorem keysBlk_at (n : Nat) (mb : Option Nat) (w : World) :
    CallsIn Fence.wide n Try.prog 44 #[.map mb] w fun e w' => e = .returned (.func (.func 59) #[] #[.pointer (some ⟨w.heap.size, 0, none⟩)]) ∧ w' = w.alloc (.cells #[.map mb] 68) := by
  refine callsIn_of_wp Try.func44 rfl trivial ?_ rfl
  simp only [Try.ntmps44, List.size_toArray, List.length_cons, List.length_nil, Nat.reduceAdd, Nat.reduceSub, Array.replicate_succ, Array.replicate_zero, List.push_toArray, List.append_toArray, List.nil_append, List.cons_append]
  gi_wp2
  go_ret
  exact ⟨rfl, rfl⟩

end Go.Proofs.Ytbejcmbdaoakbaa
