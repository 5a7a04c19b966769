/- catchmentlaw13.FindWalks in plain words. · catchmentlaw13.FindWalks: the walk. · The statement 'FindWalks': the Go function returns true at every input, and leaves what came in as it was. No condition. -/
import Derived.Test.YtkhcaclndepgbaaGreatZh51
import Derived.Deep.LoopGhost
import Derived.BigQuiet
import Derived.Laws.BitsAllLaws
import Derived.Maps.AppendAt
import Derived.Test.YtkhcaclndepgbaaGreatRows
import Derived.WalkKit
import Derived.ProofKit
import Derived.OpenShut
import Derived.ShutString
import Derived.ChangeOld
import Derived.Below
set_option linter.unusedVariables false
set_option linter.unusedSimpArgs false
set_option maxRecDepth 100000
set_option maxHeartbeats 20000000
namespace Go.Proofs.YtkhcaclndepgbaaGreat
def rng (l : List (Nat × Nat)) (lo hi : Nat) : List (Nat × Nat) := l.filter fun p => decide (lo ≤ p.1) && decide (p.1 ≤ hi)
theorem mem_rng {l : List (Nat × Nat)} {lo hi : Nat} {p : Nat × Nat} : p ∈ rng l lo hi ↔ p ∈ l ∧ lo ≤ p.1 ∧ p.1 ≤ hi := by
 unfold rng
 rw [List.mem_filter, Bool.and_eq_true, decide_eq_true_eq, decide_eq_true_eq]
theorem rng_asc {l : List (Nat × Nat)} (ha : Asc l) (lo hi : Nat) : Asc (rng l lo hi) := ha.filter _
theorem rng_len (l : List (Nat × Nat)) (lo hi : Nat) : (rng l lo hi).length ≤ l.length := List.length_filter_le _ _
theorem rng_u {l : List (Nat × Nat)} (h : It64 l) (lo hi : Nat) : It64 (rng l lo hi) := fun p hp => h p (mem_rng.1 hp).1
theorem rng_two {lo mid hi : Nat} (h1 : lo ≤ mid) (h2 : mid < hi) : ∀ {l : List (Nat × Nat)}, Asc l → rng l lo mid ++ rng l (mid + 1) hi = rng l lo hi
 | [], _ => rfl
 | p :: r, ha => by
  obtain ⟨hp, hr⟩ := List.pairwise_cons.1 ha
  have ih := rng_two h1 h2 hr
  by_cases a : p.1 < lo
  ·have e1 : rng (p :: r) lo mid = rng r lo mid := by unfold rng; rw [List.filter_cons_of_neg]; simp; omega
   have e2 : rng (p :: r) (mid + 1) hi = rng r (mid + 1) hi := by unfold rng; rw [List.filter_cons_of_neg]; simp; omega
   have e3 : rng (p :: r) lo hi = rng r lo hi := by unfold rng; rw [List.filter_cons_of_neg]; simp; omega
   rw [e1, e2, e3, ih]
  ·by_cases b : p.1 ≤ mid
   ·have e1 : rng (p :: r) lo mid = p :: rng r lo mid := by unfold rng; rw [List.filter_cons_of_pos]; simp; omega
    have e2 : rng (p :: r) (mid + 1) hi = rng r (mid + 1) hi := by unfold rng; rw [List.filter_cons_of_neg]; simp; omega
    have e3 : rng (p :: r) lo hi = p :: rng r lo hi := by unfold rng; rw [List.filter_cons_of_pos]; simp; omega
    rw [e1, e2, e3, List.cons_append, ih]
   ·have e0 : rng (p :: r) lo mid = [] := by
     unfold rng
     rw [List.filter_eq_nil_iff]
     intro q hq
     rcases List.mem_cons.1 hq with rfl | hq
     ·simp; omega
     ·have := hp q hq
      simp; omega
    rw [e0, List.nil_append]
    unfold rng
    refine List.filter_congr fun q hq => ?_
    rcases List.mem_cons.1 hq with rfl | hq
    ·by_cases c : q.1 ≤ hi <;> simp [c] <;> omega
    ·have := hp q hq
     by_cases c : q.1 ≤ hi <;> simp [c] <;> omega
theorem look_mem {l : List (Nat × Nat)} (ha : Asc l) {p : Nat × Nat} (hp : p ∈ l) : lookP l p.1 = (p.2, true) := by
 obtain ⟨i, hi, e⟩ := List.getElem_of_mem hp
 have hk : (l.getD i (0, 0)) = p := by rw [getD_lt hi, e]
 rw [look_take hi (fun j hj q => by
  have := ha.lt hj hi
  unfold kOf at this
  rw [hk] at this
  omega) (by rw [hk]), hk]
theorem look_true {l : List (Nat × Nat)} {key v : Nat} (h : lookP l key = (v, true)) : (key, v) ∈ l := by
 unfold lookP at h
 cases hf : l.find? (fun p => p.1 == key) with
 | none => rw [hf] at h; cases h
 | some p =>
  rw [hf] at h
  have h1 := List.mem_of_find?_eq_some hf
  have h2 := List.find?_some hf
  simp only [beq_iff_eq] at h2
  injection h with h
  rw [← h2, ← h]
  exact h1
theorem look_false {l : List (Nat × Nat)} {key v : Nat} (h : lookP l key = (v, false)) : v = 0 ∧ ∀ p, p ∈ l → p.1 ≠ key := by
 unfold lookP at h
 cases hf : l.find? (fun p => p.1 == key) with
 | none =>
  rw [hf] at h
  injection h with h
  refine ⟨h.symm, fun p hp e => ?_⟩
  have := List.find?_eq_none.1 hf p hp
  simp [e] at this
 | some p => rw [hf] at h; cases h
theorem rng_last {l : List (Nat × Nat)} (ha : Asc l) {lo mid v : Nat} (h1 : lo ≤ mid) (h : lookP l mid = (v, true)) : 0 < (rng l lo mid).length ∧ (rng l lo mid).getD ((rng l lo mid).length - 1) (0, 0) = (mid, v) := by
 have hm : (mid, v) ∈ rng l lo mid := mem_rng.2 ⟨look_true h, h1, Nat.le_refl _⟩
 have h0 : 0 < (rng l lo mid).length := List.length_pos_of_mem hm
 refine ⟨h0, ?_⟩
 obtain ⟨i, hi, e⟩ := List.getElem_of_mem hm
 by_cases hl : i = (rng l lo mid).length - 1
 ·rw [← hl, getD_lt hi, e]
 ·exfalso
  have h2 := (rng_asc ha lo mid).lt (i := i) (j := (rng l lo mid).length - 1) (by omega) (by omega)
  unfold kOf at h2
  rw [getD_lt hi, e, getD_lt (by omega)] at h2
  have h3 := (mem_rng.1 (List.getElem_mem (l := rng l lo mid) (n := (rng l lo mid).length - 1) (by omega))).2.2
  simp only at h2
  omega
theorem rng_last_no {l : List (Nat × Nat)} {lo mid v : Nat} (h : lookP l mid = (v, false)) (h0 : 0 < (rng l lo mid).length) : ((rng l lo mid).getD ((rng l lo mid).length - 1) (0, 0)).1 ≠ mid := by
 rw [getD_lt (by omega)]
 exact (look_false h).2 _ (mem_rng.1 (List.getElem_mem (l := rng l lo mid) (n := (rng l lo mid).length - 1) (by omega))).1
theorem xor_mid (a b c : Nat) : (((a ^^^ b) ^^^ c) ^^^ a) ^^^ c = b := by
 apply Nat.eq_of_testBit_eq
 intro i
 simp only [Nat.testBit_xor]
 cases a.testBit i <;> cases b.testBit i <;> cases c.testBit i <;> rfl
theorem xor_perm1 (a b c : Nat) : (a ^^^ b) ^^^ c = (b ^^^ a) ^^^ c := by rw [Nat.xor_comm a b]
theorem xor_perm2 (a b c : Nat) : (a ^^^ b) ^^^ c = (a ^^^ c) ^^^ b := by rw [Nat.xor_assoc, Nat.xor_comm b c, ← Nat.xor_assoc]
theorem mid_is {x y z lo hi : Nat} (hlo : lo ≤ x ∧ lo ≤ y ∧ lo ≤ z ∧ (lo = x ∨ lo = y ∨ lo = z)) (hhi : x ≤ hi ∧ y ≤ hi ∧ z ≤ hi ∧ (hi = x ∨ hi = y ∨ hi = z)) : lo ≤ (((x ^^^ y) ^^^ z) ^^^ lo) ^^^ hi ∧ (((x ^^^ y) ^^^ z) ^^^ lo) ^^^ hi ≤ hi := by
 have key : ∃ m, lo ≤ m ∧ m ≤ hi ∧ (x ^^^ y) ^^^ z = (lo ^^^ m) ^^^ hi := by
  obtain ⟨a1, a2, a3, a4⟩ := hlo
  obtain ⟨b1, b2, b3, b4⟩ := hhi
  rcases a4 with e1 | e1 | e1 <;> rcases b4 with e2 | e2 | e2
  ·exact ⟨lo, Nat.le_refl _, by omega, by rw [show x = lo by omega, show y = lo by omega, show z = lo by omega, show hi = lo by omega]⟩
  ·exact ⟨z, by omega, by omega, by rw [e1, e2]; exact xor_perm2 _ _ _⟩
  ·exact ⟨y, by omega, by omega, by rw [e1, e2]⟩
  ·exact ⟨z, by omega, by omega, by rw [e1, e2]; rw [xor_perm1, xor_perm2]⟩
  ·exact ⟨lo, Nat.le_refl _, by omega, by rw [show x = lo by omega, show y = lo by omega, show z = lo by omega, show hi = lo by omega]⟩
  ·exact ⟨x, by omega, by omega, by rw [e1, e2]; exact xor_perm1 _ _ _⟩
  ·exact ⟨y, by omega, by omega, by rw [e1, e2]; rw [xor_perm2, xor_perm1, xor_perm2]⟩
  ·exact ⟨x, by omega, by omega, by rw [e1, e2]; rw [xor_perm2, xor_perm1]⟩
  ·exact ⟨lo, Nat.le_refl _, by omega, by rw [show x = lo by omega, show y = lo by omega, show z = lo by omega, show hi = lo by omega]⟩
 obtain ⟨m, h1, h2, h3⟩ := key
 rw [h3, xor_mid]
 exact ⟨h1, h2⟩
end Go.Proofs.YtkhcaclndepgbaaGreat
namespace Go.Proofs.YtkhcaclndepgbaaGreat
open Go.RowKit
theorem xor_lt64 {a b : Nat} (ha : a < 18446744073709551616) (hb : b < 18446744073709551616) : a ^^^ b < 18446744073709551616 := Nat.xor_lt_two_pow (n := 64) ha hb
theorem bits4 {x y z lo hi : Nat} (hx : x < 18446744073709551616) (hy : y < 18446744073709551616) (hz : z < 18446744073709551616) (hlo : lo < 18446744073709551616) (hhi : hi < 18446744073709551616) :
  bits BinOp.xor IntKind.u64 (bits BinOp.xor IntKind.u64 (bits BinOp.xor IntKind.u64 (bits BinOp.xor IntKind.u64 (x : Int) (y : Int)) (z : Int)) (lo : Int)) (hi : Int) = (((((x ^^^ y) ^^^ z) ^^^ lo) ^^^ hi : Nat) : Int) := by
 rw [u64_xor_nat x y hx hy, u64_xor_nat _ z (xor_lt64 hx hy) hz, u64_xor_nat _ lo (xor_lt64 (xor_lt64 hx hy) hz) hlo, u64_xor_nat _ hi (xor_lt64 (xor_lt64 (xor_lt64 hx hy) hz) hlo) hhi]
theorem run_app_keep {w : World} {base size n m bytes g cap : Nat} {t e : TypeId} {z x : Value} {xs news : List Value} (ht : Tryz.prog.underlying t = some (.slice e)) (hinfo : (Tryz.prog.info? e).map (fun i => (i.zero, i.size, i.bytes)) = some (some z, size, bytes)) (hzs : z.cells.size = size) (hsz : 0 < size) (hby : bytes ≤ 1000)
  (hown : w.ownsRow base e size (.slice (some ⟨g, 0, none⟩) n cap) n xs) (hs : AppSrc w size x m news) (hnm : n + m ≤ 3000000) (hbase : base ≤ w.heap.size) :
  ∃ v' w', (Builtin.append_ #[t, t] t #[.slice (some ⟨g, 0, none⟩) n cap, x]).run Tryz.prog w = .ok v' w' ∧ w'.ownsRow base e size v' (n + m) (xs ++ news) ∧ Chg [g] w w' ∧ (∀ j, j < n * size → w'.cell? ⟨g, j, none⟩ = xs[j]?) := by
 obtain ⟨i, hi, hz, rfl, rfl⟩ := info_parts hinfo
 obtain ⟨s1, s2, s3⟩ := hs
 have hown0 := hown
 rcases s3 with ⟨gs, o, c, rfl, hgs, hc⟩ | ⟨c, rfl, rfl⟩
 ·have hlen : (xs ++ news).length = (n + m) * i.size := by rw [List.length_append, hown.1, s1, Nat.add_mul]
  have hnews : ∀ j u, news[j]? = some u → w.cell? ((⟨gs, o, none⟩ : Addr).add j) = some u := fun j u hu => by
   have e : Addr.add ⟨gs, o, none⟩ j = ⟨gs, o + j, none⟩ := by unfold Addr.add; split <;> simp [*]
   rw [e]; exact hc j u hu
  have hbytes : (n + m) * i.bytes ≤ 140737488355328 := by
   have : (n + m) * i.bytes ≤ 3000000 * 1000 := Nat.mul_le_mul hnm hby
   omega
  obtain ⟨v', w', hr, ho, hgr, _, hob⟩ := run_append_own_at (P := Tryz.prog) w base t t e i z i.size i.bytes ht hi hz rfl rfl hzs hsz _ n xs hown ⟨gs, o, none⟩ m c news s1 hnews s2 (by unfold maxLen; omega) hbytes hbase
  refine ⟨v', w', hr, ho, (Chg.refl [g] w).grown hgr (fun q hq => .inl (by have : g = q := Option.some.inj hq; simp [this])), ?_⟩
  rcases hob with hob | hob
  ·intro j hj
   by_cases h0 : n + m = 0
   ·obtain rfl : n = 0 := by omega
    omega
   ·obtain ⟨g', c', e', _, _, _, _, hcells⟩ := ownRow_cells ho (by omega)
    rw [e'] at hob
    obtain rfl : g' = g := Option.some.inj hob
    rw [hcells j (by rw [Nat.add_mul]; omega), List.getElem?_append_left (by rw [hown.1]; exact hj)]
  ·intro j hj
   rcases hown.2 with ⟨q, _⟩ | ⟨g2, cap2, cur, q, hbg, hg, hnc, hcm, hcs, htake⟩
   ·cases q
   ·injection q with q1 q2 q3
    injection q1 with q1
    injection q1 with q1
    subst q1; subst q3
    have hold : w.cell? ⟨g, j, none⟩ = xs[j]? := by
     rw [cell_of_block hg, ← htake, List.getElem?_take_of_lt hj, Array.getElem?_toList]
    by_cases hroom : n + m ≤ cap
    ·have hfit : n * i.size + news.length ≤ cur.size := by rw [s1, hcs, ← Nat.add_mul]; exact Nat.mul_le_mul_right _ hroom
     have hr2 := run_append_room (P := Tryz.prog) w t t e i ht hi g n cap cur hg ⟨gs, o, none⟩ m c news s1 hnews s2 hroom hfit
     rw [hr] at hr2
     injection hr2 with hv _
     rw [hv] at hob
     have h1 : g = w.heap.size := Option.some.inj hob
     have h2 := heap_lt hg
     omega
    ·have holds : ∀ j u, xs[j]? = some u → w.cell? ((⟨g, 0, none⟩ : Addr).add j) = some u := hown0.cells (g := g) rfl
     have hr2 := run_append_grow (P := Tryz.prog) w t t e i z ht hi hz ⟨g, 0, none⟩ n cap xs hown.1 holds ⟨gs, o, none⟩ m c news s1 hnews (by omega) (by omega) (growslice_fits (by omega) hbytes)
     rw [hr] at hr2
     injection hr2 with _ hw
     rw [hw]
     have hc2 := (((Chg.refl [] w).drew).alloc (.cells (xs.toArray ++ news.toArray ++ Builtin.zeroCells z.cells (grownCap w (n + m) cap e - (n + m))) e))
     exact (hc2.cell (p := ⟨g, j, none⟩) (heap_lt hg) (by simp)).trans hold
 ·have hn : news = [] := List.eq_nil_of_length_eq_zero (by simpa using s1)
  subst hn
  refine ⟨_, w, run_append_nothing w t t t e i ht hi _ n cap (by
   obtain ⟨a, k, hv, hk, _⟩ := ownRow_slice hown
   injection hv with _ _ hv; omega) _ (Src.ofNil w ht c), by rw [List.append_nil]; exact hown, Chg.refl _ _, fun j hj => ?_⟩
  obtain ⟨g', c', e', _, _, _, _, hcells⟩ := ownRow_cells hown (by
   by_cases q : n = 0
   ·subst q; omega
   ·omega)
  injection e' with e1 _ _
  injection e1 with e1
  injection e1 with e1
  subst e1
  exact hcells j hj
theorem wpList_appRun {ops : Array Oper} {rest : List Oper} {o : Oper} {a : Act} {w w' : World} {v' v x : Value} {Q : Exit → Act → World → Prop} (hw : Region.wanted o (yielded ops a.tmps) = true) (s y : Operand) (t : TypeId)
  (hop : o.op = .call { callee := .builtin .append, args := #[s, y], argTypes := #[t, t] }) (hty : o.type = t) (hrun : (Builtin.append_ #[t, t] t #[v, x]).run Tryz.prog w = .ok v' w') (hs : a.eval s = v) (hx : a.eval y = x)
  (h : wpList Tryz.prog ops Q rest (a.put o.dst v') w') : wpList Tryz.prog ops Q (o :: rest) a w := by
 refine wpList_step fun K hK => ?_
 rw [if_pos hw]
 unfold Oper.wp
 simp [execOp, hop, resolve, invoke, builtin, hs, hx, hty, hrun, Result.andThen]
 exact hK _ _ h
theorem walk200 {w : World} {M : Bm} {F : List Nat} {B : Bs} {R : List (Nat × Nat)} {rt : Int} (hb : BaseAt w M F B) (ok : B.Ok) (T : TreeOf B rt R) (hR : R.length ≤ 200) {lo hi : Nat} (hlo : lo < 18446744073709551616) (hhi : hi < 18446744073709551616) {most : Int} (hmo : 0 ≤ most ∧ most ≤ 9223372036854775807) :
  Calls Tryz.prog 55 #[.pointer (some ⟨M.b, 0, none⟩), .int .i64 rt, .int .u64 (lo : Int), .int .u64 (hi : Int), .int .i64 most] w fun e w' => ∃ v, e = .returned (.tuple #[v, .int .i64 0]) ∧ w'.ownsRow w.heap.size 104 2 v ((rng R lo hi).take most.toNat).length (itVs ((rng R lo hi).take most.toNat)) ∧ Chg [] w w' := by
 have cW := fdWalk_at hb (y := rt) hlo hhi (most := most) (by omega) (.inl (by
  rw [T.walk ok, List.length_map]
  have := rng_len R lo hi
  unfold rng at this
  omega)) rfl
 rw [T.walkR ok lo hi most, show (max most 0).toNat = most.toNat by omega] at cW
 exact cW
theorem walk200_all {w : World} {M : Bm} {F : List Nat} {B : Bs} {R : List (Nat × Nat)} {rt : Int} (hb : BaseAt w M F B) (ok : B.Ok) (T : TreeOf B rt R) (hR : R.length ≤ 200) {lo hi : Nat} (hlo : lo < 18446744073709551616) (hhi : hi < 18446744073709551616) :
  Calls Tryz.prog 55 #[.pointer (some ⟨M.b, 0, none⟩), .int .i64 rt, .int .u64 (lo : Int), .int .u64 (hi : Int), .int .i64 1000] w fun e w' => ∃ v, e = .returned (.tuple #[v, .int .i64 0]) ∧ w'.ownsRow w.heap.size 104 2 v (rng R lo hi).length (itVs (rng R lo hi)) ∧ Chg [] w w' := by
 have := walk200 hb ok T hR hlo hhi (most := 1000) (by omega)
 rw [List.take_of_length_le (by have := rng_len R lo hi; show _ ≤ 1000; omega)] at this
 exact this
theorem items_pre {w : World} {base c k n : Nat} {a : Option Addr} {L : List (Nat × Nat)} (h : w.ownsRow base 104 2 (.slice a k c) k (itVs L)) (hk : k = L.length) (hu : It64 L) (hn : n ≤ k) : ItemsIn [] w (.slice a n c) (L.take n) := by
 have I : ItemsIn [] w (.slice a L.length c) L := ItemsIn.of_own (by rw [← hk]; rw [← hk] at *; exact h) hu (fun _ _ => by simp)
 obtain ⟨⟨a', c', e, h1, h2, h3⟩, -⟩ := I
 injection e with e1 e2 e3
 subst e1; subst e3
 have hl : (L.take n).length = n := by rw [List.length_take]; omega
 refine ⟨⟨a, c, by rw [hl], by rw [hl]; omega, h2, fun h0 => ?_⟩, fun p hp => hu p (List.mem_of_mem_take hp)⟩
 rw [hl] at h0
 obtain ⟨b, o, rfl, hb, hA, hc⟩ := h3 (by omega)
 refine ⟨b, o, rfl, hb, hA, fun j hj => ?_⟩
 rw [hl] at hj
 rw [hc j (by omega), itVs_take, List.getElem?_take_of_lt (by omega)]
structure Fw6 (w1 w3 wr : World) (s2 s4 : Option Addr) (t2 k k4 : Nat) (AL ON : List (Nat × Nat)) : Prop where
 c : Chg [] w1 wr
 a : wr.ownsRow w1.heap.size 104 2 (.slice s2 k t2) k (itVs AL)
 o : 0 < k4 → ∃ g, s4 = some ⟨g, 0, none⟩ ∧ g < wr.heap.size ∧ w3.heap.size ≤ g ∧ ∀ j, j < k4 * 2 → wr.cell? ⟨g, j, none⟩ = (itVs ON)[j]?
theorem Fw6.chg {w1 w3 wr w' : World} {s2 s4 : Option Addr} {t2 k k4 : Nat} {AL ON : List (Nat × Nat)} (h : Fw6 w1 w3 wr s2 s4 t2 k k4 AL ON) (c : Chg [] wr w') : Fw6 w1 w3 w' s2 s4 t2 k k4 AL ON :=
 ⟨h.c.trans c, ownRow_chg h.a c (by simp), fun h0 => by
  obtain ⟨g, e, h1, h2, h3⟩ := h.o h0
  exact ⟨g, e, Nat.lt_of_lt_of_le h1 c.size, h2, fun j hj => (c.cell (p := ⟨g, j, none⟩) h1 (by simp)).trans (h3 j hj)⟩⟩
theorem findWalks_walk (a0 : Option Addr) (len0 cap0 : Nat) (l : List (Nat × Nat)) (x1 x2 x3 x4 : Int) (w : World)
  (h0 : ItemsIn [] w (.slice a0 len0 cap0) l) (h1 : (Lit.int .u64 x1).wf = true) (h2 : (Lit.int .u64 x2).wf = true) (h3 : (Lit.int .u64 x3).wf = true) (h4 : (Lit.int .u8 x4).wf = true) :
  Calls Tryz.prog 8 #[.slice a0 len0 cap0, .int .u64 x1, .int .u64 x2, .int .u64 x3, .int .u8 x4] w fun e w' => e = .returned (.bool true) ∧ Below w.heap.size w w' := by
 obtain ⟨a, c, e, hc1, hc2⟩ := h0.len
 injection e with e1 e2 e3
 subst e1; subst e3
 obtain ⟨x, rfl, hx⟩ : ∃ y : Nat, x1 = (y : Int) ∧ y < 18446744073709551616 := by
  have := bd_u64 h1
  exact ⟨x1.toNat, by omega, by omega⟩
 obtain ⟨y, rfl, hy⟩ : ∃ y : Nat, x2 = (y : Int) ∧ y < 18446744073709551616 := by
  have := bd_u64 h2
  exact ⟨x2.toNat, by omega, by omega⟩
 obtain ⟨z, rfl, hz⟩ : ∃ y : Nat, x3 = (y : Int) ∧ y < 18446744073709551616 := by
  have := bd_u64 h3
  exact ⟨x3.toNat, by omega, by omega⟩
 obtain ⟨most, rfl, hmost⟩ : ∃ y : Nat, x4 = (y : Int) ∧ y ≤ 255 := by
  have := bd_u8 h4
  exact ⟨x4.toNat, by omega, by omega⟩
 have HAW := Lib.hid awake13_at
 have H0 := Lib.hid h0
 have HL := Lib.hid e2
 rw [← e2] at hc1
 clear h0 h1 h2 h3 h4 e2
 by_cases hbig : 200 < len0
 ·have i1 : (200 : Int) < (len0 : Int) := by omega
  have cM := made13_no (w := w) (a := a0) hbig hc2 hc1
  go_enter Tryz.func8, Tryz.ntmps8
  go_wp2_with fail
  refine cM.mono ?_
  clear cM
  rintro e w1 ⟨rfl, hc⟩
  have HC := Lib.hid hc
  clear hc
  have cA := HAW.out w1
  go_wp2_with fail
  refine cA.mono ?_
  clear cA
  rintro e w2 ⟨rfl, hc⟩
  have HC2 := Lib.hid (HC.out.trans hc)
  clear hc
  go_wp2_with fail
  go_ret
  exact ⟨rfl, HC2.out.below (by simp)⟩
 ·have cM := made13_at H0.out (by rw [← HL.out]; omega)
  go_enter Tryz.func8, Tryz.ntmps8
  go_wp2_with fail
  refine cM.mono ?_
  clear cM
  rintro e w1 ⟨M, rt, B, rfl, q1, q2, q3, q4, q5, -, -⟩
  obtain ⟨r1, r2, r3, -, -⟩ := ris_all H0.out.u
  rw [← HL.out] at r3
  obtain ⟨R, hR⟩ : ∃ R, R = risL l := ⟨_, rfl⟩
  rw [← hR] at q3 q4 r1 r2 r3
  have hwf : (Lit.int .i64 (rt : Int)).wf = true := WalkArith.wf_i64 (by have := q3.bd q2.ok; omega)
  have HF := Lib.hid (And.intro q1 (And.intro q2.ok (And.intro q3 (And.intro hwf (And.intro r1 (And.intro r2 (And.intro r3 q5)))))))
  clear q1 q2 q3 q4 q5 r1 r2 r3 hR hwf
  go_upto_region 6 with fail
  obtain ⟨lo, elo, plo⟩ : ∃ lo : Nat, (if (z : Int) < (if y < x then (y : Int) else (x : Int)) then (z : Int) else if y < x then (y : Int) else (x : Int)) = (lo : Int) ∧ (lo ≤ x ∧ lo ≤ y ∧ lo ≤ z ∧ (lo = x ∨ lo = y ∨ lo = z)) := by
   refine ⟨min z (min x y), ?_, by omega⟩
   split <;> split at * <;> omega
  obtain ⟨hi, ehi, phi⟩ : ∃ hi : Nat, (if (if x < y then (y : Int) else (x : Int)) < (z : Int) then (z : Int) else if x < y then (y : Int) else (x : Int)) = (hi : Int) ∧ (x ≤ hi ∧ y ≤ hi ∧ z ≤ hi ∧ (hi = x ∨ hi = y ∨ hi = z)) := by
   refine ⟨max z (max x y), ?_, by omega⟩
   split <;> split at * <;> omega
  rw [elo, ehi, bits4 hx hy hz (by omega) (by omega)]
  have hm := mid_is plo phi
  obtain ⟨mid, hmid⟩ : ∃ m, m = (((x ^^^ y) ^^^ z) ^^^ lo) ^^^ hi := ⟨_, rfl⟩
  rw [← hmid] at hm ⊢
  have hlo : lo < 18446744073709551616 := by omega
  have hhi : hi < 18446744073709551616 := by omega
  clear elo ehi plo phi hmid hx hy hz
  have hR2 : R.length ≤ 200 := by have := HF.out.2.2.2.2.2.2.1; omega
  have HR2 := Lib.hid hR2
  have cW := walk200_all HF.out.1 HF.out.2.1 HF.out.2.2.1 hR2 hlo hhi
  obtain ⟨AL, hAL⟩ : ∃ L, L = rng R lo hi := ⟨_, rfl⟩
  obtain ⟨k, hk⟩ : ∃ k, k = AL.length := ⟨_, rfl⟩
  have hk2 : k ≤ 200 := by rw [hk, hAL]; have := rng_len R lo hi; omega
  rw [← hAL, ← hk] at cW
  have HAL := Lib.hid (And.intro hAL hk)
  have HAU := Lib.hid (show It64 AL by rw [hAL]; exact rng_u HF.out.2.2.2.2.2.1 lo hi)
  clear hAL hk hR2
  go_wp2_with fail
  refine cW.mono ?_
  clear cW
  rintro e w2 ⟨v2, rfl, hown2, hc2'⟩
  obtain ⟨s2, t2, rfl, st2, st2'⟩ := ownRow_slice hown2
  have H2 := Lib.hid (And.intro hown2 hc2')
  have cW := walk200 (HF.out.1.chg hc2' (by simp)) HF.out.2.1 HF.out.2.2.1 HR2.out hlo hhi (most := (most : Int)) (by omega)
  rw [← HAL.out.1, Int.toNat_natCast] at cW
  obtain ⟨k3, hk3⟩ : ∃ k, k = (AL.take most).length := ⟨_, rfl⟩
  rw [← hk3] at cW
  have HK3 := Lib.hid hk3
  clear hown2 hc2' hk3
  go_wp2_with fail
  refine cW.mono ?_
  clear cW
  rintro e w3 ⟨v3, rfl, hown3, hc3'⟩
  obtain ⟨s3, t3, rfl, st3, st3'⟩ := ownRow_slice hown3
  have H3 := Lib.hid (And.intro hown3 (H2.out.2.trans hc3'))
  have H32 := Lib.hid (ownRow_chg H2.out.1 hc3' (by simp))
  have cW := walk200_all ((HF.out.1.chg H2.out.2 (by simp)).chg hc3' (by simp)) HF.out.2.1 HF.out.2.2.1 HR2.out hlo (hi := mid) (by omega)
  obtain ⟨ON, hON⟩ : ∃ L, L = rng R lo mid := ⟨_, rfl⟩
  obtain ⟨k4, hk4⟩ : ∃ k, k = ON.length := ⟨_, rfl⟩
  have hk42 : k4 ≤ 200 := by rw [hk4, hON]; have := rng_len R lo mid; have := HR2.out; omega
  rw [← hON, ← hk4] at cW
  have HON := Lib.hid (And.intro hON hk4)
  clear hown3 hc3' hON hk4
  go_wp2_with fail
  refine cW.mono ?_
  clear cW
  rintro e w4 ⟨v4, rfl, hown4, hc4'⟩
  obtain ⟨s4, t4, rfl, st4, st4'⟩ := ownRow_slice hown4
  have H3s := Lib.hid (show w3.heap.size ≤ w4.heap.size from hc4'.size)
  have H13 := Lib.hid H3.out.2.size
  have HS2 := Lib.hid (fun q hq => (H32.out.lt q hq).2)
  have H4 := Lib.hid (And.intro hown4 (And.intro (H3.out.2.trans hc4') (And.intro (ownRow_chg H3.out.1 hc4' (by simp)) (ownRow_chg H32.out hc4' (by simp)))))
  clear hown4 hc4' H3 H32 H2
  go_upto_region 9 with fail
  go_cut [105] from 84 to 105 (fun s wx => s = .bool false ∧ Hid (Chg [] w4 wx))
  case first =>
   have cS := same13_at (A := []) (A' := []) (ItemsIn.of_own (l := AL.take most) (by rw [← HK3.out]; exact H4.out.2.2.1) (fun p hp => HAU.out p (List.mem_of_mem_take hp)) (fun _ _ => by simp)) (items_pre H4.out.2.2.2 HAL.out.2 HAU.out (n := min k most) (by omega)) (by have := HK3.out; rw [List.length_take] at this; have := HAL.out.2; rw [List.length_take]; omega)
   have heq : AL.take most = AL.take (min k most) := by
    by_cases q : most ≤ k
    ·rw [Nat.min_eq_right q]
    ·rw [Nat.min_eq_left (by omega), List.take_of_length_le (by rw [← HAL.out.2]; omega), List.take_of_length_le (by rw [← HAL.out.2]; exact Nat.le_refl _)]
   rw [decide_eq_true heq] at cS
   go_wp2_with fail
   rw [show (min (k : Int) (most : Int)).toNat = min k most by omega]
   refine cS.mono ?_
   clear cS
   rintro e w5 ⟨rfl, hc5⟩
   have HC5 := Lib.hid hc5
   clear hc5
   go_wp2_with fail
   go_meet
   exact ⟨rfl, HC5⟩
  case rest =>
   obtain ⟨rfl, hwc⟩ := hcut
   have H5 : Hid (wc.ownsRow w1.heap.size 104 2 (.slice s2 k t2) k (itVs AL) ∧ wc.ownsRow w3.heap.size 104 2 (.slice s4 k4 t4) k4 (itVs ON) ∧ Chg [] w1 wc) := Lib.hid ⟨ownRow_chg H4.out.2.2.2 hwc.out (by simp), ownRow_chg H4.out.1 hwc.out (by simp), H4.out.2.1.trans hwc.out⟩
   have HO5 : Hid (0 < k4 → ∃ g, s4 = some ⟨g, 0, none⟩ ∧ g < wc.heap.size ∧ w3.heap.size ≤ g ∧ ∀ j, j < k4 * 2 → wc.cell? ⟨g, j, none⟩ = (itVs ON)[j]?) := Lib.hid fun h0 => by
    obtain ⟨g, c', e, _, _, hg, hlt, hc⟩ := ownRow_cells H5.out.2.1 h0
    injection e with e _ _
    exact ⟨g, e, hlt, hg, hc⟩
   go_upto_region 11 with fail
   have H6 : Hid (Fw6 w1 w3 wc s2 s4 t2 k k4 AL ON) := Lib.hid ⟨H5.out.2.2, H5.out.1, HO5.out⟩
   by_cases hmh : mid < hi
   case' pos =>
    have i2 : (mid : Int) < (hi : Int) := by omega
    have cW := walk200_all (HF.out.1.chg H5.out.2.2 (by simp)) HF.out.2.1 HF.out.2.2.1 HR2.out (lo := mid + 1) (hi := hi) (by omega) hhi
    obtain ⟨TW, hTW⟩ : ∃ L, L = rng R (mid + 1) hi := ⟨_, rfl⟩
    obtain ⟨k6, hk6⟩ : ∃ k, k = TW.length := ⟨_, rfl⟩
    have hk62 : k6 ≤ 200 := by rw [hk6, hTW]; have := rng_len R (mid + 1) hi; have := HR2.out; omega
    rw [← hTW, ← hk6, show (((mid + 1 : Nat)) : Int) = (mid : Int) + 1 from rfl] at cW
    have hsum : ON ++ TW = AL := by rw [HON.out.1, hTW, HAL.out.1]; exact rng_two hm.1 hmh HF.out.2.2.2.2.1
    have HTW := Lib.hid (And.intro hTW (And.intro hk6 hsum))
    clear hTW hk6 hsum
    go_wp2_with fail
    refine cW.mono ?_
    clear cW
    rintro e w6 ⟨v6, rfl, hown6, hc6'⟩
    obtain ⟨s6, t6, rfl, st6, st6'⟩ := ownRow_slice hown6
    have hown1 := ownRow_chg H5.out.2.1 hc6' (by simp)
    have hal := ownRow_chg H5.out.1 hc6' (by simp)
    have happ : ∃ v' w', (Builtin.append_ #[83, 83] 83 #[.slice s4 k4 t4, .slice s6 k6 t6]).run Tryz.prog w6 = .ok v' w' ∧ w'.ownsRow w3.heap.size 104 2 v' (k4 + k6) (itVs ON ++ itVs TW) ∧ Fw6 w1 w3 w' s2 s4 t2 k k4 AL ON := by
     have hsz6 : w3.heap.size ≤ w6.heap.size := Nat.le_trans H3s.out (Nat.le_trans hwc.out.size hc6'.size)
     by_cases h0 : 0 < k4
     ·obtain ⟨g, hs4, hlt, hge, hcells⟩ := HO5.out h0
      subst hs4
      obtain ⟨v', w', hrun, ho, hch, hkeep⟩ := run_app_keep (bytes := 16) Tryz.underlying83 infoItem rfl (by omega) (by omega) hown1 (AppSrc.own hown6 itVs_one) (by omega) hsz6
      have hal' := ownRow_chg hal hch (fun q hq hm => by have h1 := HS2.out q hq; simp at hm; omega)
      exact ⟨v', w', hrun, ho, ⟨(H5.out.2.2.trans hc6').then hch (fun q hq => .inr (by rw [List.mem_singleton] at hq; rw [hq]; exact Nat.le_trans H13.out hge)), hal', fun _ => ⟨g, rfl, Nat.lt_of_lt_of_le hlt (Nat.le_trans hc6'.size hch.size), hge, hkeep⟩⟩⟩
     ·obtain ⟨v', w', hrun, ho, hg, hob⟩ := run_app (bytes := 16) Tryz.underlying83 infoItem rfl (by omega) (by omega) hown1 (AppSrc.own hown6 itVs_one) (by omega) hsz6
      have hch : Chg (ownL (.slice s4 k4 t4)) w6 w' := (Chg.refl _ w6).grown hg (fun q hq => .inl (mem_ownL.2 hq))
      have hal' := ownRow_chg hal hch (fun q hq hm => by have h1 := HS2.out q hq; have h2 := (hown1.lt q (mem_ownL.1 hm)).1; omega)
      exact ⟨v', w', hrun, ho, ⟨(H5.out.2.2.trans hc6').then hch (fun q hq => .inr (Nat.le_trans H13.out (hown1.lt q (mem_ownL.1 hq)).1)), hal', fun q => absurd q h0⟩⟩
    obtain ⟨v', w', hrun, ho, hfw⟩ := happ
    have cS := same13_at (A := []) (A' := []) (ItemsIn.of_own (l := ON ++ TW) (by rw [List.length_append, ← HON.out.2, ← HTW.out.2.1, itVs_app]; exact ho) (by rw [HTW.out.2.2]; exact HAU.out) (fun _ _ => by simp)) (ItemsIn.of_own (l := AL) (by rw [← HAL.out.2]; exact hfw.a) HAU.out (fun _ _ => by simp)) (by rw [HTW.out.2.2, ← HAL.out.2]; omega)
    rw [decide_eq_true HTW.out.2.2] at cS
    obtain ⟨sv, tv, rfl, _, _⟩ := ownRow_slice ho
    have HFW := Lib.hid hfw
    have CS := Lib.hid cS
    have HRUN := Lib.hid hrun
    clear hown6 hc6' hown1 hal ho hfw cS hrun
    go_wp2_with (at_builtin; refine wpList_appRun (by rfl) (.tmp 121) (.tmp 122) 83 rfl rfl HRUN.out rfl rfl ?_)
    refine CS.out.mono ?_
    clear CS
    rintro e w8 ⟨rfl, hc8⟩
    have HFW := Lib.hid (HFW.out.chg hc8)
    clear hc8
    go_upto_region 15 with fail
   case' neg =>
    have i2 : ¬ (mid : Int) < (hi : Int) := by omega
    go_upto_region 15 with fail
    have HFW := H6
   all_goals
    have HNX : Hid (∀ wz, Chg [] w1 wz → BaseAt wz M [] B) := Lib.hid fun wz hz => HF.out.1.chg hz (by simp)
    clear H6 HO5
    go_wp2_with fail
    go_loopg [130] k (fun gg s wr => ∃ j : Nat, j ≤ k ∧ gg = k - j ∧ s = .int .i64 (j : Int) ∧ Hid (Fw6 w1 w3 wr s2 s4 t2 k k4 AL ON))
    case atStart => exact ⟨0, Nat.zero_le _, rfl, rfl, HFW⟩
    case round =>
     obtain ⟨j, hj, hgg, rfl, HFR⟩ := hrel
     have HGG := Lib.hid hgg
     clear hgg HFW
     by_cases hjk : j < k
     ·have j1 : (j : Int) < (k : Int) := by omega
      obtain ⟨g2, c2, e4, _, _, _, g2lt, g2c⟩ := ownRow_cells HFR.out.a (by omega)
      injection e4 with e4 _ e5
      subst e5
      have HG2 : Hid (∀ i, i < k → wr.cell? ⟨g2, i * 2, none⟩ = some (.int .u64 (kOf AL i : Int)) ∧ wr.cell? ⟨g2, i * 2 + 1, none⟩ = some (.int .u64 (vOf AL i : Int))) := Lib.hid fun i hi => by
       have := itVs_get AL i (by rw [← HAL.out.2]; exact hi)
       exact ⟨(g2c (i * 2) (by omega)).trans this.1, (g2c (i * 2 + 1) (by omega)).trans this.2⟩
      obtain ⟨pk, hpk⟩ : ∃ z, z = kOf AL j := ⟨_, rfl⟩
      obtain ⟨pv, hpv⟩ : ∃ z, z = vOf AL j := ⟨_, rfl⟩
      obtain ⟨c0, c1⟩ := HG2.out j hjk
      rw [← hpk] at c0
      rw [← hpv] at c1
      have hmem : (pk, pv) ∈ rng R lo hi := by
       rw [← HAL.out.1, hpk, hpv]
       unfold kOf vOf
       rw [getD_lt (by rw [← HAL.out.2]; exact hjk)]
       exact List.getElem_mem _
      obtain ⟨m1, m2, m3⟩ := mem_rng.1 hmem
      have hpk64 := (HF.out.2.2.2.2.2.1 _ m1).1
      have cG := fun wz (hz : Chg [] w1 wz) => fGet_at (HNX.out wz hz) (rt : Int) HF.out.2.2.2.1 pk hpk64
      rw [HF.out.2.2.1.get HF.out.2.1 HF.out.2.2.2.2.1 pk, look_mem HF.out.2.2.2.2.1 m1] at cG
      have d1 : decide ((pk : Int) < (lo : Int)) = false := by simp; exact m2
      have d1' : ¬ (pk : Int) < (lo : Int) := by simp; exact m2
      have d2 : decide ((hi : Int) < (pk : Int)) = false := by simp; exact m3
      have d2' : ¬ (hi : Int) < (pk : Int) := by simp; exact m3
      have d1n : decide (pk < lo) = false := by simp; exact m2
      have d2n : decide (hi < pk) = false := by simp; exact m3
      have HPK := Lib.hid (And.intro hpk hpv)
      have CG := Lib.hid cG
      have hb1 := (Chg.refl [] wr).alloc (.cells #[.int .u64 (pk : Int), .int .u64 (pv : Int)] 104)
      have hbx := new_block wr (.cells #[.int .u64 (pk : Int), .int .u64 (pv : Int)] 104)
      have HFR2 := Lib.hid (HFR.out.chg hb1)
      have HG3 : Hid (∀ wz, Chg [] (wr.alloc (.cells #[.int .u64 (pk : Int), .int .u64 (pv : Int)] 104)) wz → wz.cell? ⟨wr.heap.size, 0, none⟩ = some (.int .u64 (pk : Int)) ∧ wz.cell? ⟨wr.heap.size, 1, none⟩ = some (.int .u64 (pv : Int)) ∧ ∀ i, i < k → wz.cell? ⟨g2, i * 2, none⟩ = some (.int .u64 (kOf AL i : Int))) := Lib.hid fun wz hz => by
       have hb := (hz.block wr.heap.size (heap_lt hbx) (by simp)).trans hbx
       exact ⟨(cell_of_block hb 0).trans rfl, (cell_of_block hb 1).trans rfl, fun i hi => ((hb1.trans hz).cell (p := ⟨g2, i * 2, none⟩) g2lt (by simp)).trans (HG2.out i hi).1⟩
      subst e4
      clear g2c hpk hpv hmem m1 m2 m3 cG
      go_upto_region 18 with fail
      clear c0 c1
      generalize wr.alloc (.cells #[.int .u64 (pk : Int), .int .u64 (pv : Int)] 104) = w9 at hb1 hbx HFR2 HG3 ⊢
      obtain ⟨xb, hxb⟩ : ∃ xb, xb = wr.heap.size := ⟨_, rfl⟩
      rw [← hxb] at hbx HG3 ⊢
      have cG := CG.out w9 HFR2.out.c
      have y0 := (HG3.out w9 (Chg.refl _ _)).1
      clear hb1 hbx hxb CG
      go_wp2_with fail
      refine cG.mono ?_
      clear cG y0
      rintro e w10 ⟨rfl, hc10⟩
      obtain ⟨y0, y1, yg⟩ := HG3.out w10 hc10
      have HFR3 := Lib.hid (HFR2.out.chg hc10)
      clear hc10
      by_cases h0 : j = 0
      ·subst h0
       have d3 : decide ((0 : Int) < ((0 : Nat) : Int)) = false := by simp
       have d3' : ¬ (0 : Int) < ((0 : Nat) : Int) := by simp
       clear yg
       rw [show ((0 : Nat) : Int) = 0 from rfl] at *
       go_upto_region 19 with fail
       go_quiet (fail)
       go_wp2_with fail
       go_roundg (k - 1)
       case measure => have := HGG.out; omega
       case rel => exact ⟨1, by omega, rfl, by go_num, Lib.hid (HFR3.out.chg ((Chg.refl [] w10).drewN _))⟩
      ·obtain ⟨i3, rfl⟩ : ∃ i3, j = i3 + 1 := ⟨j - 1, by omega⟩
       have yq := yg i3 (by omega)
       obtain ⟨pq, hpq⟩ : ∃ z, z = kOf AL i3 := ⟨_, rfl⟩
       rw [← hpq] at yq
       have hlt : pq < pk := by
        rw [hpq, HPK.out.1, HAL.out.1]
        exact (rng_asc HF.out.2.2.2.2.1 lo hi).lt (by omega) (by rw [← HAL.out.1, ← HAL.out.2]; exact hjk)
       have d3 : decide ((0 : Int) < ((i3 + 1 : Nat) : Int)) = true := by rw [decide_eq_true_eq]; omega
       have d3' : (0 : Int) < ((i3 + 1 : Nat) : Int) := by omega
       have e7 : (((i3 + 1 : Nat) : Int) - 1) = (i3 : Int) := by omega
       have i3k : (i3 : Int) < (k : Int) := by omega
       have d4 : decide ((pk : Int) ≤ (pq : Int)) = false := by simp; omega
       have d4' : ¬ (pk : Int) ≤ (pq : Int) := by omega
       have d4n : decide (pk ≤ pq) = false := by simp; omega
       clear yg hpq hlt
       go_upto_region 19 with fail
       go_quiet (fail)
       go_wp2_with fail
       go_roundg (k - (i3 + 1 + 1))
       case measure => have := HGG.out; omega
       case rel => exact ⟨i3 + 1 + 1, hjk, rfl, by go_num, Lib.hid (HFR3.out.chg ((Chg.refl [] w10).drewN _))⟩
     ·obtain rfl : j = k := by omega
      have j1 : ¬ (j : Int) < (j : Int) := by omega
      have hmid64 : mid < 18446744073709551616 := by omega
      have cG := fGet_at (HNX.out wr HFR.out.c) (rt : Int) HF.out.2.2.2.1 mid hmid64
      rw [HF.out.2.2.1.get HF.out.2.1 HF.out.2.2.2.2.1 mid] at cG
      obtain ⟨v, b, hvb⟩ : ∃ v b, lookP R mid = (v, b) := ⟨_, _, rfl⟩
      rw [hvb] at cG
      have HVB := Lib.hid hvb
      clear hvb
      go_wp2_with fail
      refine cG.mono ?_
      clear cG
      rintro e w10 ⟨rfl, hc10⟩
      have HFS := Lib.hid (HFR.out.chg hc10)
      have cA := HAW.out w10
      have hlast : (b = true → 0 < k4 ∧ kOf ON (k4 - 1) = mid ∧ vOf ON (k4 - 1) = v) ∧ (b = false → v = 0 ∧ (0 < k4 → kOf ON (k4 - 1) ≠ mid)) := by
       constructor
       ·rintro rfl
        have := rng_last HF.out.2.2.2.2.1 hm.1 HVB.out
        rw [← HON.out.1, ← HON.out.2] at this
        unfold kOf vOf
        rw [this.2]
        exact ⟨this.1, rfl, rfl⟩
       ·rintro rfl
        refine ⟨(look_false HVB.out).1, fun h0 => ?_⟩
        have := rng_last_no (lo := lo) HVB.out (by rw [← HON.out.1, ← HON.out.2]; exact h0)
        rw [← HON.out.1, ← HON.out.2] at this
        exact this
      have hcells : 0 < k4 → ∃ g, s4 = some ⟨g, 0, none⟩ ∧ w10.cell? ⟨g, (k4 - 1) * 2, none⟩ = some (.int .u64 (kOf ON (k4 - 1) : Int)) ∧ w10.cell? ⟨g, (k4 - 1) * 2 + 1, none⟩ = some (.int .u64 (vOf ON (k4 - 1) : Int)) := fun h0 => by
       obtain ⟨g, e, h1, _, h3⟩ := HFS.out.o h0
       have := itVs_get ON (k4 - 1) (by rw [← HON.out.2]; omega)
       exact ⟨g, e, (h3 _ (by omega)).trans this.1, (h3 _ (by omega)).trans this.2⟩
      clear hc10
      by_cases h0 : 0 < k4
      ·obtain ⟨k5, rfl⟩ : ∃ k5, k4 = k5 + 1 := ⟨k4 - 1, by omega⟩
       rw [Nat.add_sub_cancel] at hlast hcells
       obtain ⟨g, rfl, y0, y1⟩ := hcells h0
       obtain ⟨pq, hpq⟩ : ∃ z, z = kOf ON k5 := ⟨_, rfl⟩
       obtain ⟨pv, hpv⟩ : ∃ z, z = vOf ON k5 := ⟨_, rfl⟩
       rw [← hpq] at y0 hlast
       rw [← hpv] at y1 hlast
       have e7 : (((k5 + 1 : Nat) : Int) - 1) = (k5 : Int) := by omega
       have i5 : (k5 : Int) < (k5 : Int) + 1 := by omega
       clear hpq hpv hcells
       cases b with
       | true =>
        obtain ⟨-, rfl, rfl⟩ := hlast.1 rfl
        clear hlast
        go_wp2_with (refine cA.mono ?_; clear cA; rintro e w11 ⟨rfl, hc11⟩; have HC11 := Lib.hid (HFS.out.c.trans hc11); clear hc11)
        go_ret
        exact ⟨rfl, (HF.out.2.2.2.2.2.2.2.trans HC11.out).below (by simp)⟩
       | false =>
        obtain ⟨rfl, hne⟩ := hlast.2 rfl
        have hne := hne h0
        have hne2 : ((pq : Int) == (mid : Int)) = false := by rw [beq_eq_false_iff_ne]; intro e; exact hne (by omega)
        clear hlast hne
        go_wp2_with (refine cA.mono ?_; clear cA; rintro e w11 ⟨rfl, hc11⟩; have HC11 := Lib.hid (HFS.out.c.trans hc11); clear hc11)
        go_ret
        exact ⟨rfl, (HF.out.2.2.2.2.2.2.2.trans HC11.out).below (by simp)⟩
      ·obtain rfl : k4 = 0 := by omega
       cases b with
       | true => exact absurd (hlast.1 rfl).1 h0
       | false =>
        obtain ⟨rfl, -⟩ := hlast.2 rfl
        clear hlast hcells
        go_wp2_with (refine cA.mono ?_; clear cA; rintro e w11 ⟨rfl, hc11⟩; have HC11 := Lib.hid (HFS.out.c.trans hc11); clear hc11)
        go_ret
        exact ⟨rfl, (HF.out.2.2.2.2.2.2.2.trans HC11.out).below (by simp)⟩
end Go.Proofs.YtkhcaclndepgbaaGreat
namespace Go.Proofs.YtkhcaclndepgbaaGreat.findWalks
open Go.ChangeShapes Go.WideShapes Go.ChangeAt Go.RowKit
open Go.ChangeMaps (open_string shut_string)
theorem own : ownKnob Tryz.prog.godebug = none := by kernel_rfl
theorem laidOut : laidOutB Tryz.prog = true := by kernel_rfl
theorem lifted (os : Os) (started : os.Started) (H : Type) (enc : TypeId × Value → H) :
  ReturnsInHanded {} Tryz.checked os 8 .any (Rows.findWalksSpec.pre6 enc Tryz.prog Tryz.f8 Rows.findWalksRow.domain false) (Rows.findWalksSpec.post enc Tryz.prog Tryz.f8 false true false false) := by
 refine returnsInHanded_of_change (C := Tryz.checked) own started (by kernel_rfl) Tryz.func8
  (ChangeSpec.witness6 (enc := enc) (C := Tryz.checked) false ⟨#[], #[.slice none 0 0, .int .u64 0, .int .u64 0, .int .u64 0, .int .u8 0], []⟩ 8 (by kernel_rfl) (by kernel_rfl) (by kernel_rfl) (by kernel_rfl)) ?_
 intro W base args ds gs before hval0 hW hcnd _
 have hval : ∀ (j : Nat) t v, Tryz.f8.params[j]? = some t → args[j]? = some v → Value.okWide Tryz.prog W .any base t v := hval0
 have hW' := hW
 obtain ⟨p, q, hA0, hV, rfl, hfz, hnd⟩ := hW
 have hA : DataW.TrodAll enc Tryz.prog W 0 (fun _ => true) true Tryz.f8.params.toList args.toList ds p := hA0
 rw [Tryz.params8] at hA hval
 obtain ⟨v0, vr0, d0, ds0, p0, q0, hargs, rfl, rfl, h0, r0⟩ := trodAll_cons hA
 obtain ⟨v1, vr1, d1, ds1, p1, q1, rfl, rfl, rfl, h1, r1⟩ := trodAll_cons r0
 obtain ⟨v2, vr2, d2, ds2, p2, q2, rfl, rfl, rfl, h2, r2⟩ := trodAll_cons r1
 obtain ⟨v3, vr3, d3, ds3, p3, q3, rfl, rfl, rfl, h3, r3⟩ := trodAll_cons r2
 obtain ⟨v4, vr4, d4, ds4, p4, q4, rfl, rfl, rfl, h4, r4⟩ := trodAll_cons r3
 obtain ⟨rfl, rfl, rfl⟩ := trodAll_nil r4
 obtain rfl : args = #[v0, v1, v2, v3, v4] := by cases args; simp_all
 obtain ⟨rfl, rfl⟩ := trodVars_none hV
 obtain ⟨a0, len0, cap0, rfl⟩ := okWide_slice Tryz.underlying83 (hval 0 83 v0 rfl rfl)
 have k0 := h0
 have lt0 : ∀ x ∈ p0, x.block < W.heap.size := by obtain ⟨m, hm⟩ := k0; exact DataW.trod_lt m _ _ _ hm
 obtain ⟨z0, w0⟩ := open_items h0
 obtain ⟨a1, rfl, rfl, rfl, w1⟩ := open_int Tryz.underlying44 (hval 1 44 v1 rfl rfl) h1
 obtain ⟨a2, rfl, rfl, rfl, w2⟩ := open_int Tryz.underlying44 (hval 2 44 v2 rfl rfl) h2
 obtain ⟨a3, rfl, rfl, rfl, w3⟩ := open_int Tryz.underlying44 (hval 3 44 v3 rfl rfl) h3
 obtain ⟨a4, rfl, rfl, rfl, w4⟩ := open_int Tryz.underlying5 (hval 4 5 v4 rfl rfl) h4
 clear hA0 hval0
 refine (findWalks_walk a0 len0 cap0 z0 a1 a2 a3 a4 W w0 w1 w2 w3 w4).mono fun e W' ⟨he, bel⟩ => ?_
 subst he
 exact ⟨_, rfl, _, _, _, [], _, [], hW', trodAll_mk1 (shut_bool Tryz.underlying4 _), (trodAll_cons_mk (Below.trod laidOut (by kernel_rfl) (of_decide_eq_true (by kernel_rfl)) k0 bel lt0) (trodAll_cons_mk (shut_int Tryz.underlying44 w1) (trodAll_cons_mk (shut_int Tryz.underlying44 w2) (trodAll_cons_mk (shut_int Tryz.underlying44 w3) (trodAll_cons_mk (shut_int Tryz.underlying5 w4) trodAll_mk0))))), rfl, bel.frame _, fun h => by cases h⟩
end Go.Proofs.YtkhcaclndepgbaaGreat.findWalks
