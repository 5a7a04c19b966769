/- Layer 11's statements in plain words: what a commit does not write; what a base is behind Back. · Layer 11's statements: a base and a state that tells of it, as operations, commits and questions go on. · What a walk is told of a slice of integers that came in; bounds out of 'wf'. · More on slices of integers that came in. · A slice of layer 11's operations that came in. -/
import Derived.Test.YtkhcaclndepgbaaGreatZd43
import Derived.Test.YtkhcaclndepgbaaGreatZd44
import Derived.Test.YtkhcaclndepgbaaGreatZd01
import Derived.OpenShut
import Derived.Deep.SlicePairs
import Derived.Test.YtkhcaclndepgbaaGreatProg
import Derived.ProofKit
import Derived.ChangeArms
import Derived.Lib.SmallJoins
set_option linter.unusedVariables false
set_option linter.unusedSimpArgs false
set_option maxRecDepth 100000
set_option maxHeartbeats 20000000
namespace Go.Proofs.YtkhcaclndepgbaaGreat
open Go.RowKit
section
variable {N G : Nat} {B : Bs} {S : St}
theorem Good.never_ (h : Good N G B) {b : Nat} (hb : 2 ≤ b) (hk : B.T.kept b ≠ 0) : B.commit.D b = B.D b := by
 unfold Bs.commit
 split
 ·rfl
 ·exact h.ok.never h.hr hb hk
theorem Good.super_ (h : Good N G B) : B.commit.D (B.Kp.gen % 2) = B.D (B.Kp.gen % 2) := by
 unfold Bs.commit
 split
 ·rfl
 ·show fl (fl B.D B.wr) [(1 - B.Kp.gen % 2, pageS B.nextS)] (B.Kp.gen % 2) = _
  rw [fl_miss (fun x hx => by simp only [List.mem_singleton] at hx; subst hx; show 1 - B.Kp.gen % 2 ≠ B.Kp.gen % 2; omega)]
  exact fl_miss fun x hx => by have := (h.ok.wr_block h.hr x hx).1; omega
theorem row_roots {S T : Sup} (h : S.row = T.row) : (∀ i, i < 8 → S.roots i = T.roots i) ∧ (∀ i, i < 8 → S.marks i = T.marks i) := by
 have hc : ∀ i, i < 18 → S.cellV i = T.cellV i := fun i hi => by
  have h1 := congrArg (fun r => r[i]?) h
  simp only [Sup.row] at h1
  rw [fnRow_get hi, fnRow_get hi] at h1
  exact Option.some.inj h1
 refine ⟨fun i hi => ?_, fun i hi => ?_⟩
 ·have := hc (2 + i) (by omega)
  unfold Sup.cellV at this
  rw [if_neg (by omega), if_neg (by omega), if_pos (by omega), if_neg (by omega), if_neg (by omega), if_pos (by omega), show 2 + i - 2 = i from by omega] at this
  injection this with _ h2
  omega
 ·have := hc (10 + i) (by omega)
  unfold Sup.cellV at this
  rw [if_neg (by omega), if_neg (by omega), if_neg (by omega), if_neg (by omega), if_neg (by omega), if_neg (by omega), show 10 + i - 10 = i from by omega] at this
  injection this with _ h2
  omega
theorem StRel.back {B1 B2 : Bs} (r : StRel N B1 S) (c : Cm N G B B1) (k : KeptB B1 B2) :
  StRel N B2.back S ∧ B2.back.T.waits = 0 := by
 have hrr := row_roots c.same
 have hl : ∀ b, b < N → B2.back.live b = B1.live b := fun b hb => by
  rw [k.back b]
  show (B1.T.kept b != 0 && !pgB B1 b) = (B1.T.now b != 0 && !pgB B1 b)
  rw [c.kept b hb]
 refine ⟨⟨fun b hb => by rw [hl b hb]; exact r.live b hb, fun b hb h0 => ?_, fun b hb h0 i hi => ?_, fun i h1 h2 => ?_, fun i hi => ?_⟩, kept_waits fun b hb => rfl⟩
 ·show S.c b = B2.T.kept b
  rw [k.kept, c.kept b hb]
  exact r.now b hb h0
 ·show S.d b i = B2.D b i
  rw [k.D, r.d b hb h0 i hi]
  unfold Bs.read
  rw [c.fr b hb]; rfl
 ·show S.r i = B2.Kp.roots i
  rw [k.K, ← hrr.1 i h2]
  exact r.r i h1 h2
 ·show S.m i = B2.Kp.marks i
  rw [k.K, ← hrr.2 i hi]
  exact r.m i hi
theorem StRel.open_ {B2 : Bs} (r : StRel N B2.back S) : StRel N B2.back.open_ S := ⟨r.live, r.now, r.d, r.r, r.m⟩
theorem Good.open_ (g : Good N G B.back) : Good N G B.back.open_ := ⟨g.ok.open_ok, g.n, g.r, g.g⟩
theorem back_same : (B.back.commit) = B.back := by
 unfold Bs.commit
 rw [if_pos]
 refine ⟨?_, rfl⟩
 cases hc : chgs B.back.T with
 | nil => rfl
 | cons x l =>
  have : x ∈ chgs B.back.T := by rw [hc]; simp
  have := (mem_chgs.1 this).2
  simp [Tal.changed, Bs.back, Tal.back] at this
end
end Go.Proofs.YtkhcaclndepgbaaGreat
namespace Go.Proofs.YtkhcaclndepgbaaGreat
open Go.RowKit
structure Nv (w wr : World) (M : Bm) (F : List Nat) (N G K mc md : Nat) (S : St) (B : Bs) : Prop where
 b : BaseAt wr M F B
 f : ∀ q, q ∈ F → q < wr.heap.size
 g : Good N G B
 m : StAt wr N mc md S
 r : StRel N B S
 k : ∀ b, S.c b ≤ K
 ml : ∀ i, i < 8 → S.m i < 18446744073709551616
 c : Chg [] w wr
 nm : mc ∉ M.L ∧ md ∉ M.L
section
variable {w wr w' : World} {M : Bm} {F : List Nat} {N G K mc md : Nat} {S : St} {B : Bs}
theorem Nv.chg (h : Nv w wr M F N G K mc md S B) (c : Chg [] wr w') : Nv w w' M F N G K mc md S B :=
 { h with b := h.b.chg c (by simp), f := fun q hq => Nat.lt_of_lt_of_le (h.f q hq) c.size, m := h.m.chg c (by simp) (by simp), c := h.c.trans c }
theorem Nv.mono {G' K' : Nat} (h : Nv w wr M F N G K mc md S B) (hG : G ≤ G') (hK : K ≤ K') : Nv w wr M F N G' K' mc md S B :=
 { h with g := ⟨h.g.ok, h.g.n, h.g.r, Nat.le_trans h.g.g hG⟩, k := fun b => Nat.le_trans (h.k b) hK }
theorem Nv.alloc (h : Nv w wr M F N G K mc md S B) (o : Obj) : Nv w (wr.alloc o) M (wr.heap.size :: F) N G K mc md S B := by
 have c := (Chg.refl [] wr).alloc o
 refine { h with b := (h.b.new (Nat.le_refl _)).chg c (by simp), f := fun q hq => ?_, m := h.m.chg c (by simp) (by simp), c := h.c.trans c }
 rw [size_alloc']
 rcases List.mem_cons.1 hq with rfl | hq
 ·omega
 ·have := h.f q hq; omega
theorem Nv.store {x : Nat} (h : Nv w wr M F N G K mc md S B) (c : Chg [x] wr w') (hx : x ∈ F) (hw : w.heap.size ≤ x) (h1 : mc ≠ x) (h2 : md ≠ x) : Nv w w' M F N G K mc md S B :=
 { h with b := h.b.chg c (fun q hq => by simp only [List.mem_singleton] at hq; subst hq; exact hx), f := fun q hq => Nat.lt_of_lt_of_le (h.f q hq) c.size, m := h.m.chg c (by simp [h1]) (by simp [h2]), c := h.c.then c (fun q hq => by simp only [List.mem_singleton] at hq; subst hq; exact .inr hw) }
structure NvEnd (w wr : World) (M : Bm) (F : List Nat) (N G K : Nat) (B : Bs) (e : Ending) (w' : World) : Prop where
 out : ∃ mc md S B', e = .returned (.tuple #[.agg (fnRow 18 (S.v mc md)), .bool true]) ∧ Nv w w' M F N G K mc md S B' ∧ KeptB B B' ∧ wr.heap.size ≤ mc ∧ wr.heap.size ≤ md ∧ Chg M.L wr w'
theorem Nv.done (h : Nv w wr M F N G K mc md S B) (hM : ∀ q, q ∈ M.L → w.heap.size ≤ q) (hK : K < 1000) {d x : Nat} {a : Int} (hd : d ≤ 255) (hx : x ≤ 65535) (ha : -9223372036854775808 ≤ a ∧ a ≤ 9223372036854775807) :
  Calls Tryz.prog 41 #[.pointer (some ⟨M.b, 0, none⟩), .agg (fnRow 18 (S.v mc md)), .agg #[.int .u8 (d : Int), .int .i64 a, .int .u16 (x : Int)]] wr (NvEnd w wr M F N G (K + 1) B) := by
 refine (done11_at h.b h.f h.g h.m h.r h.k hK h.ml d x a hd hx ha).mono ?_
 rintro e w' ⟨mc', md', S', B', rfl, h1, h2, h3, h4, h5, h6, h7, h8, h9, h10⟩
 exact ⟨mc', md', S', B', rfl, { b := h4, f := fun q hq => Nat.lt_of_lt_of_le (h.f q hq) h10.size, g := h5, m := h1, r := h7, k := h8, ml := h9, c := h.c.then h10 (fun q hq => .inr (hM q hq)), nm := ⟨fun hm => by have := h.b.ltL hm; omega, fun hm => by have := h.b.ltL hm; omega⟩ }, h6, h2, h3, h10⟩
theorem Nv.commit (h : Nv w wr M F N G K mc md S B) (hM : ∀ q, q ∈ M.L → w.heap.size ≤ q) (hG : G < 9223372036854775808) :
  Calls Tryz.prog 19 #[.pointer (some ⟨M.b, 0, none⟩)] wr fun e w' => e = .returned (.int .i64 0) ∧ Nv w w' M F N (G + 1) K mc md S B.commit ∧ Chg M.L wr w' := by
 refine (bCommit_any h.b h.f h.g hG).mono ?_
 rintro e w' ⟨rfl, h1, h2⟩
 have hc := h.g.commit_ hG
 exact ⟨rfl, { b := h1, f := fun q hq => Nat.lt_of_lt_of_le (h.f q hq) h2.size, g := hc.good, m := h.m.chg h2 h.nm.1 h.nm.2, r := h.r.commit hc, k := h.k, ml := h.ml, c := h.c.then h2 (fun q hq => .inr (hM q hq)), nm := h.nm }, h2⟩
theorem Nv.is (h : Nv w wr M F N G K mc md S B) (hw : B.T.waits = 0) :
  Calls Tryz.prog 45 #[.agg (fnRow 18 (S.v mc md)), .pointer (some ⟨M.b, 0, none⟩)] wr fun e w' => e = .returned (.bool true) ∧ Chg [] wr w' := is11_at h.b h.g h.m h.r hw h.ml
end
def St.zero : St := ⟨fun _ => 0, fun _ _ => 0, fun _ => 0, fun _ => 0⟩
theorem built_none (m : Nat) : Tryz.prog.built 72 [(0, .map (some m)), (1, .map (some (m + 1)))] = some (fnRow 18 (St.zero.v m (m + 1))) := by kernel_rfl
theorem Nv.start {w w1 : World} {M : Bm} {N : Nat} (hN : 16 ≤ N ∧ N ≤ 4096) (h : BaseAt w1 M [] (Bs.fmt N)) (c : Chg [] w w1) : Nv w ((w1.alloc (.map #[] 0)).alloc (.map #[] 0)) M [] N 1 0 w1.heap.size (w1.heap.size + 1) St.zero (Bs.fmt N) := by
 obtain ⟨g, hl, hw⟩ := good_fmt hN
 have hc := ((Chg.refl [] w1).alloc (.map #[] 0)).alloc (.map #[] 0)
 have k0 := (KMapV.made (P := Tryz.prog) (kt := 3) (good := goodI) w1 N).chg ((Chg.refl [] (w1.alloc (.map #[] 0))).alloc (.map #[] 0)) (by simp)
 have k1 := KMapV.made (P := Tryz.prog) (kt := 3) (good := goodS) (w1.alloc (.map #[] 0)) N
 rw [size_alloc'] at k1
 refine { b := h.chg hc (by simp), f := noF _, g := g, m := ⟨k0, k1, by omega⟩, r := ⟨fun b _ => by rw [hl b]; simp [St.zero], fun b _ h0 => absurd rfl h0, fun b _ h0 => absurd rfl h0, fun i _ _ => ?_, fun i _ => ?_⟩, k := fun b => Nat.le_refl _, ml := fun i _ => by show 0 < _; omega, c := c.trans hc, nm := ⟨fun hm => by have := h.ltL hm; omega, fun hm => by have := h.ltL hm; omega⟩ }
 ·show 0 = (if i < 2 then _ else 0)
  rw [if_neg (by omega)]
 ·rfl
theorem Nv.copy {w wr w' : World} {M : Bm} {F : List Nat} {N G K mc md mc' md' : Nat} {S : St} {B : Bs} (h : Nv w wr M F N G K mc md S B) (c : Chg [] wr w') (hs : StAt w' N mc' md' S) (h1 : wr.heap.size ≤ mc') (h2 : wr.heap.size ≤ md') : Nv w w' M F N G K mc' md' S B :=
 { h.chg c with m := hs, nm := ⟨fun hm => by have := h.b.ltL hm; omega, fun hm => by have := h.b.ltL hm; omega⟩ }
theorem wpList_loadState {ops : Array Oper} {rest : List Oper} {op : Oper} {a : Act} {w : World} {Q : Exit → Act → World → Prop} (x : Operand) (ho : op.op = .load 72 x) (hw : Region.wanted op (yielded ops a.tmps) = true)
  (b : Nat) (hx : a.eval x = .pointer (some ⟨b, 0, none⟩)) {V : Nat → Value} (hb : w.heap[b]? = some (.cells (fnRow 18 V) 72 (0, 0)))
  (h : wpList Tryz.prog ops Q rest (a.put op.dst (.agg (fnRow 18 V))) w) : wpList Tryz.prog ops Q (op :: rest) a w := by
 unfold wpList
 rw [if_pos hw]
 exact .inl (wp_load_row 72 x ho b hx 72 (fnRow 18 V) (0, 0) _ hb Tryz.underlying72 rfl (by rw [infoState, fnRow_size]) h)
structure Nb (w wr : World) (M : Bm) (F : List Nat) (N G K sb mc md : Nat) (S : St) (B : Bs) : Prop where
 v : Nv w wr M F N G K mc md S B
 s : wr.heap[sb]? = some (.cells (fnRow 18 (S.v mc md)) 72 (0, 0))
 ne : sb ∈ F ∧ w.heap.size ≤ sb ∧ mc ≠ sb ∧ md ≠ sb
section
variable {w wr w' : World} {M : Bm} {F : List Nat} {N G K sb mc md : Nat} {S : St} {B : Bs}
theorem Nb.chg (h : Nb w wr M F N G K sb mc md S B) (c : Chg [] wr w') : Nb w w' M F N G K sb mc md S B := ⟨h.v.chg c, (c.block sb (heap_lt h.s) (by simp)).trans h.s, h.ne⟩
theorem Nb.mono {G' K' : Nat} (h : Nb w wr M F N G K sb mc md S B) (hG : G ≤ G') (hK : K ≤ K') : Nb w wr M F N G' K' sb mc md S B := ⟨h.v.mono hG hK, h.s, h.ne⟩
theorem Nb.stored {mc' md' : Nat} {S' : St} {V : Nat → Value} (h : Nv w wr M F N G K mc' md' S' B) (hs : sb ∈ F ∧ w.heap.size ≤ sb) (h1 : mc' ≠ sb) (h2 : md' ≠ sb) (hr : w'.heap[sb]? = some (.cells (fnRow 18 (laid V (S'.v mc' md') 0 18)) 72 (0, 0))) (c : Chg [sb] wr w') : Nb w w' M F N G K sb mc' md' S' B := by
 rw [laid_whole] at hr
 exact ⟨h.store c hs.1 hs.2 h1 h2, hr, hs.1, hs.2, h1, h2⟩
theorem Nb.box (h : Nb w wr M F N G K sb mc md S B) (c : Chg M.L wr w') : w'.heap[sb]? = some (.cells (fnRow 18 (S.v mc md)) 72 (0, 0)) := (c.block sb (heap_lt h.s) (h.v.b.notL h.ne.1)).trans h.s
end
end Go.Proofs.YtkhcaclndepgbaaGreat
namespace Go.Proofs.YtkhcaclndepgbaaGreat
open Go.RowKit
def IsRow (k : IntKind) (w : World) (a : Option Addr) (len cap : Nat) (zs : List Int) : Prop :=
 (a = none ∧ len = 0 ∧ cap = 0 ∧ zs = []) ∨
 ∃ x, a = some x ∧ len ≤ cap ∧ cap ≤ maxLen ∧ zs.length = cap ∧ (∀ i, i < zs.length → w.cell? (x.add i) = some (.int k (zs.getD i 0))) ∧ ∀ n ∈ zs, (Lit.int k n).wf = true
theorem bd_u8 {x : Int} (h : (Lit.int .u8 x).wf = true) : 0 ≤ x ∧ x ≤ 255 := by
 simp [Lit.wf, IntKind.min, IntKind.max, IntKind.signed, IntKind.bits] at h; exact h
theorem bd_u16 {x : Int} (h : (Lit.int .u16 x).wf = true) : 0 ≤ x ∧ x ≤ 65535 := by
 simp [Lit.wf, IntKind.min, IntKind.max, IntKind.signed, IntKind.bits] at h; exact h
theorem bd_i64 {x : Int} (h : (Lit.int .i64 x).wf = true) : -9223372036854775808 ≤ x ∧ x ≤ 9223372036854775807 := by
 simp [Lit.wf, IntKind.min, IntKind.max, IntKind.signed, IntKind.bits] at h; exact h
theorem bd_u64 {x : Int} (h : (Lit.int .u64 x).wf = true) : 0 ≤ x ∧ x ≤ 18446744073709551615 := by
 simp [Lit.wf, IntKind.min, IntKind.max, IntKind.signed, IntKind.bits] at h; exact h
end Go.Proofs.YtkhcaclndepgbaaGreat
namespace Go.Proofs.YtkhcaclndepgbaaGreat
open Go.RowKit
theorem IsRow.get {k : IntKind} {w : World} {a : Option Addr} {len cap : Nat} {zs : List Int} (h : IsRow k w a len cap zs) {i : Nat} (hi : i < len) :
  ∃ b off, a = some ⟨b, off, none⟩ ∧ b < w.heap.size ∧ w.cell? ⟨b, off + i, none⟩ = some (.int k (zs.getD i 0)) ∧ (Lit.int k (zs.getD i 0)).wf = true := by
 rcases h with ⟨_, rfl, _⟩ | ⟨⟨b, off, sp⟩, rfl, h1, h2, h3, h4, h5⟩
 ·omega
 ·have hil : i < zs.length := by omega
  have hspot : sp = none := by simpa [Addr.add] using World.cell?_spot (h4 0 (by omega))
  subst hspot
  have hc := h4 i hil
  have e : (⟨b, off, none⟩ : Addr).add i = ⟨b, off + i, none⟩ := by unfold Addr.add; split <;> simp_all
  rw [e] at hc
  refine ⟨b, off, rfl, World.block_lt_of_cell? w _ hc, hc, h5 _ ?_⟩
  rw [List.getD_eq_getElem?_getD, List.getElem?_eq_getElem hil]
  exact List.getElem_mem hil
theorem IsRow.cap_le {k : IntKind} {w : World} {a : Option Addr} {len cap : Nat} {zs : List Int} (h : IsRow k w a len cap zs) : len ≤ cap ∧ cap ≤ maxLen := by
 rcases h with ⟨_, rfl, rfl, _⟩ | ⟨_, _, h1, h2, _⟩
 ·exact ⟨Nat.le_refl _, Nat.zero_le _⟩
 ·exact ⟨h1, h2⟩
theorem IsRow.none_len {k : IntKind} {w : World} {len cap : Nat} {zs : List Int} (h : IsRow k w none len cap zs) : len = 0 ∧ cap = 0 := by
 rcases h with ⟨_, rfl, rfl, _⟩ | ⟨_, h, _⟩
 ·exact ⟨rfl, rfl⟩
 ·cases h
end Go.Proofs.YtkhcaclndepgbaaGreat
namespace Go.Proofs.YtkhcaclndepgbaaGreat
open Go.RowKit Go.Deep
open Go.WideShapes Go.ChangeShapes
theorem addr_add0 (b o i : Nat) : (⟨b, o, none⟩ : Addr).add i = ⟨b, o + i, none⟩ := by unfold Addr.add; split <;> simp_all
structure Op1 where
 code : Nat
 at' : Int
 n : Nat
structure Op1OK (o : Op1) : Prop where
 code : o.code ≤ 255
 at' : -9223372036854775808 ≤ o.at' ∧ o.at' ≤ 9223372036854775807
 n : o.n ≤ 65535
def Op1C (c : Nat → Option Value) (o : Op1) : Prop :=
 c 0 = some (.int .u8 (o.code : Int)) ∧ c 1 = some (.int .i64 o.at') ∧ c 2 = some (.int .u16 (o.n : Int)) ∧ Op1OK o
def IsOps1 (w : World) (a : Option Addr) (len cap : Nat) (z : Nat → Op1) : Prop :=
 len ≤ cap ∧ cap ≤ maxLen ∧ (a = none → len = 0 ∧ cap = 0) ∧
 ∀ i, i < len → ∃ b off, a = some ⟨b, off, none⟩ ∧ b < w.heap.size ∧ Op1C (fun j => w.cell? ⟨b, off + i * 3 + j, none⟩) (z i)
theorem op1_of_trod {H : Type} {enc : TypeId × Value → H} {W : World} {fuel : Nat} {cs : List Value} {x : DataW H × List MemPlace} (h : DataW.trod enc Tryz.prog W 0 (fun _ => true) true fuel 74 cs = some x) :
  ∃ v0 v1 v2, cs = [v0, v1, v2] ∧ ∃ o : Op1, v0 = .int .u8 (o.code : Int) ∧ v1 = .int .i64 o.at' ∧ v2 = .int .u16 (o.n : Int) ∧ Op1OK o := by
 obtain ⟨xs, k, _, hxy, hl, hxl, hf⟩ := DataW.trod_struct Tryz.underlying74 h
 have hC : Tryz.prog.cellsOf 74 = 3 := by kernel_rfl
 rw [hC] at hl
 match xs, hxl, cs, hl with
 | [y0, y1, y2], _, [v0, v1, v2], _ =>
  have c8 : Tryz.prog.cellsOf 5 = 1 := by kernel_rfl
  have ci : Tryz.prog.cellsOf 3 = 1 := by kernel_rfl
  have c16 : Tryz.prog.cellsOf 33 = 1 := by kernel_rfl
  have g0 := hf 0 _ rfl
  have g1 := hf 1 _ rfl
  have g2 := hf 2 _ rfl
  simp [c8, ci, c16] at g0 g1 g2
  obtain ⟨n0, e0, _, w0⟩ := DataW.trod_int Tryz.underlying5 g0
  obtain ⟨n1, e1, _, w1⟩ := DataW.trod_int Tryz.underlying3 g1
  obtain ⟨n2, e2, _, w2⟩ := DataW.trod_int Tryz.underlying33 g2
  simp only [List.cons.injEq, and_true] at e0 e1 e2
  have b0 := bd_u8 w0
  have b1 := bd_i64 w1
  have b2 := bd_u16 w2
  refine ⟨v0, v1, v2, rfl, ⟨n0.toNat, n1, n2.toNat⟩, ?_, e1, ?_, ⟨?_, b1, ?_⟩⟩
  ·rw [e0]; show _ = Value.int .u8 ((n0.toNat : Nat) : Int); rw [Int.toNat_of_nonneg b0.1]
  ·rw [e2]; show _ = Value.int .u16 ((n2.toNat : Nat) : Int); rw [Int.toNat_of_nonneg b2.1]
  ·show n0.toNat ≤ 255; omega
  ·show n2.toNat ≤ 65535; omega
theorem open_op11 {H : Type} {enc : TypeId × Value → H} {W : World} {a : Option Addr} {len cap : Nat} {d : DataW H} {p : List MemPlace}
  (h : DataW.Trod enc Tryz.prog W 0 (fun _ => true) true 67 (.slice a len cap) d p) : ∃ z, IsOps1 W a len cap z := by
 obtain ⟨fuel, hf⟩ := h
 have dz : Op1 := ⟨0, 0, 0⟩
 rcases open_slice Tryz.underlying67 hf with ⟨hcs, _⟩ | ⟨x, l, c, m, n, D, Pl, hcs, _, hl, hm, hmeq, _, hall⟩
 ·simp [Value.cells] at hcs
  obtain ⟨rfl, rfl, rfl⟩ := hcs
  exact ⟨fun _ => dz, Nat.le_refl _, Nat.zero_le _, fun _ => ⟨rfl, rfl⟩, fun i hi => by omega⟩
 ·simp [Value.cells] at hcs
  obtain ⟨rfl, rfl, rfl⟩ := hcs
  simp only [if_true] at hmeq
  subst hmeq
  have hC : Tryz.prog.cellsOf 74 = 3 := by kernel_rfl
  have hspot0 : 0 < len → x.spot = none := fun h0 => by
   obtain ⟨cs', h1, h2⟩ := hall 0 (by omega)
   rw [hC] at h1
   obtain ⟨_, hlen, hcell⟩ := World.cells?_some h1
   obtain ⟨v0, v1, v2, rfl, _⟩ := op1_of_trod h2
   have k0 := World.cell?_spot (hcell 0 (by omega))
   simpa [Addr.add] using k0
  have each : ∀ i, i < len → ∃ o : Op1, ∃ b off, (some x : Option Addr) = some ⟨b, off, none⟩ ∧ b < W.heap.size ∧ Op1C (fun j => W.cell? ⟨b, off + i * 3 + j, none⟩) o := by
   intro i hi
   obtain ⟨cs', h1, h2⟩ := hall i (by omega)
   rw [hC] at h1
   obtain ⟨_, hlen, hcell⟩ := World.cells?_some h1
   obtain ⟨v0, v1, v2, rfl, o, e0, e1, e2, hO⟩ := op1_of_trod h2
   obtain ⟨b, off, sp⟩ := x
   have hspot : sp = none := hspot0 (by omega)
   subst hspot
   have hk : ∀ j, j < 3 → W.cell? ⟨b, off + i * 3 + j, none⟩ = [v0, v1, v2][j]? := fun j hj => by
    have := hcell j (by omega)
    rw [addr_add0, addr_add0] at this
    exact this
   refine ⟨o, b, off, rfl, World.block_lt_of_cell? W ⟨b, off + i * 3 + 0, none⟩ (u := v0) (by rw [hk 0 (by omega)]; rfl), ?_, ?_, ?_, hO⟩
   ·show W.cell? ⟨b, off + i * 3 + 0, none⟩ = _; rw [hk 0 (by omega), ← e0]; rfl
   ·show W.cell? ⟨b, off + i * 3 + 1, none⟩ = _; rw [hk 1 (by omega), ← e1]; rfl
   ·show W.cell? ⟨b, off + i * 3 + 2, none⟩ = _; rw [hk 2 (by omega), ← e2]; rfl
  have hz : ∃ z : Nat → Op1, ∀ i, i < len → ∃ b off, (some x : Option Addr) = some ⟨b, off, none⟩ ∧ b < W.heap.size ∧ Op1C (fun j => W.cell? ⟨b, off + i * 3 + j, none⟩) (z i) := by
   classical
   refine ⟨fun i => if h : i < len then Classical.choose (each i h) else dz, fun i hi => ?_⟩
   have := Classical.choose_spec (each i hi)
   simpa [hi] using this
  obtain ⟨z, hz⟩ := hz
  exact ⟨z, hl, hm, (fun h => by cases h), hz⟩
theorem Op1C.chg {L : List Nat} {w w' : World} {b off i : Nat} {o : Op1} (h : Op1C (fun j => w.cell? ⟨b, off + i * 3 + j, none⟩) o) (c : Chg L w w') (hb : b < w.heap.size) (hL : b ∉ L) :
  Op1C (fun j => w'.cell? ⟨b, off + i * 3 + j, none⟩) o := by
 obtain ⟨e0, e1, e2, hO⟩ := h
 have hc : ∀ j v, w.cell? ⟨b, off + i * 3 + j, none⟩ = some v → w'.cell? ⟨b, off + i * 3 + j, none⟩ = some v := fun j v h => (c.cell (p := ⟨b, off + i * 3 + j, none⟩) hb hL).trans h
 exact ⟨hc _ _ e0, hc _ _ e1, hc _ _ e2, hO⟩
theorem IsOps1.get {w w' : World} {a : Option Addr} {len cap : Nat} {z : Nat → Op1} (h : IsOps1 w a len cap z) (c : Chg [] w w') {i : Nat} (hi : i < len) :
  ∃ b off, a = some ⟨b, off, none⟩ ∧ Op1C (fun j => w'.cell? ⟨b, off + i * 3 + j, none⟩) (z i) := by
 obtain ⟨b, off, e, hb, hc⟩ := h.2.2.2 i hi
 exact ⟨b, off, e, hc.chg c hb (by simp)⟩
end Go.Proofs.YtkhcaclndepgbaaGreat
