/- Operations that came in: one, and a slice of them. -/
import Derived.Test.YtbejcmbdaoakbaaMdZ
import Derived.Test.YtbejcmbdaoakbaaRow
import Derived.Deep.SlicePairs
import Derived.ProofKit
import Derived.ChangeArms
import Derived.Lib.SmallJoins
namespace Go.Proofs.Ytbejcmbdaoakbaa
open Go.RowKit Go.Maps
open Go.Deep
open Go.WideShapes Go.ChangeShapes
set_option linter.unusedVariables false

theorem addr_add0 (b o i : Nat) : (⟨b, o, none⟩ : Addr).add i = ⟨b, o + i, none⟩ := by unfold Addr.add; split <;> simp_all

theorem bytesIn_trodF {H : Type} {enc : TypeId × Value → H} {W : World} {fuel : Nat} {v : Value} {x : DataW H × List MemPlace} (h : DataW.trod enc Try.prog W 0 (fun _ => true) true fuel 24 [v] = some x) : ∃ a len cap f, v = .slice a len cap ∧ BytesIn W a len cap f := by
  rcases Go.ChangeShapes.open_ints Try.underlying24 Try.underlying5 (by kernel_rfl) h with ⟨hcs, _⟩ | ⟨a, l, c, zs, hcs, _, hl, hm, hz, _, hcell, hwz⟩
  · simp at hcs
    subst hcs
    exact ⟨none, 0, 0, fun _ => 0, rfl, Nat.le_refl _, Nat.zero_le _, fun _ => ⟨rfl, rfl⟩, fun b hb => by cases hb⟩
  · simp at hcs
    subst hcs
    simp only [if_true] at hz
    refine ⟨some a, l, c, fun i => (zs.getD i 0).toNat, rfl, hl, hm, (fun h => by cases h), fun q hq h0 => ?_⟩
    injection hq with hq
    subst hq
    obtain ⟨b, off, sp⟩ := a
    have hs0 := hcell 0 (by omega)
    have hspot : sp = none := by simpa [Addr.add] using World.cell?_spot hs0
    subst hspot
    refine ⟨b, off, rfl, fun i hi => ?_⟩
    have hc := hcell i (by omega)
    rw [addr_add0] at hc
    have hil : i < zs.length := by omega
    have hw := bd_u8 (hwz (zs.getD i 0) (by
      rw [List.getD_eq_getElem?_getD, List.getElem?_eq_getElem hil]
      exact List.getElem_mem hil))
    rw [hc, Int.toNat_of_nonneg hw.1]
    exact ⟨rfl, by dsimp only; omega⟩

/-- An operation's bounds. -/
structure OpOK (o : Opn) : Prop where
  code : o.code ≤ 255
  vol : o.vol < 18446744073709551616
  pl : o.pl < 18446744073709551616
  n : o.n < 18446744073709551616
  len : o.len ≤ 9223372036854775807
/-- .. and its five cells. -/
def OpCells (w : World) (c : Nat → Option Value) (o : Opn) : Prop :=
  ∃ a cap, c 0 = some (.int .u8 (o.code : Int)) ∧ c 1 = some (.int .u64 (o.vol : Int)) ∧ c 2 = some (.int .u64 (o.pl : Int)) ∧ c 3 = some (.int .u64 (o.n : Int)) ∧ c 4 = some (.slice a o.len cap) ∧ BytesIn w a o.len cap o.f ∧ OpOK o

/-- A slice of operations. -/
def IsOps (w : World) (a : Option Addr) (len cap : Nat) (z : Nat → Opn) : Prop :=
  len ≤ cap ∧ cap ≤ maxLen ∧ (a = none → len = 0 ∧ cap = 0) ∧
  ∀ i, i < len → ∃ b off, a = some ⟨b, off, none⟩ ∧ b < w.heap.size ∧ OpCells w (fun j => w.cell? ⟨b, off + i * 5 + j, none⟩) (z i)

theorem op_of_fields {H : Type} {enc : TypeId × Value → H} {W : World} {n : Nat} {v0 v1 v2 v3 v4 : Value} {y0 y1 y2 y3 y4 : DataW H × List MemPlace}
    (h0 : DataW.trod enc Try.prog W 0 (fun _ => true) true n 5 [v0] = some y0) (h1 : DataW.trod enc Try.prog W 0 (fun _ => true) true n 23 [v1] = some y1) (h2 : DataW.trod enc Try.prog W 0 (fun _ => true) true n 23 [v2] = some y2)
    (h3 : DataW.trod enc Try.prog W 0 (fun _ => true) true n 23 [v3] = some y3) (h4 : DataW.trod enc Try.prog W 0 (fun _ => true) true n 24 [v4] = some y4) :
    ∃ o : Opn, ∃ a cap, v0 = .int .u8 (o.code : Int) ∧ v1 = .int .u64 (o.vol : Int) ∧ v2 = .int .u64 (o.pl : Int) ∧ v3 = .int .u64 (o.n : Int) ∧ v4 = .slice a o.len cap ∧ BytesIn W a o.len cap o.f ∧ OpOK o := by
  obtain ⟨n0, e0, _, w0⟩ := DataW.trod_int Try.underlying5 h0
  obtain ⟨n1, e1, _, w1⟩ := DataW.trod_int Try.underlying23 h1
  obtain ⟨n2, e2, _, w2⟩ := DataW.trod_int Try.underlying23 h2
  obtain ⟨n3, e3, _, w3⟩ := DataW.trod_int Try.underlying23 h3
  obtain ⟨a, len, cap, f, e4, hB⟩ := bytesIn_trodF h4
  simp only [List.cons.injEq, and_true] at e0 e1 e2 e3
  have b0 := bd_u8 w0
  have b1 := bd_u64 w1
  have b2 := bd_u64 w2
  have b3 := bd_u64 w3
  have hl : len ≤ maxLen := Nat.le_trans hB.1 hB.2.1
  unfold maxLen at hl
  refine ⟨⟨n0.toNat, n1.toNat, n2.toNat, n3.toNat, len, f⟩, a, cap, ?_, ?_, ?_, ?_, e4, hB, ⟨?_, ?_, ?_, ?_, ?_⟩⟩
  · rw [e0]; show _ = Value.int .u8 ((n0.toNat : Nat) : Int); rw [Int.toNat_of_nonneg b0.1]
  · rw [e1]; show _ = Value.int .u64 ((n1.toNat : Nat) : Int); rw [Int.toNat_of_nonneg b1.1]
  · rw [e2]; show _ = Value.int .u64 ((n2.toNat : Nat) : Int); rw [Int.toNat_of_nonneg b2.1]
  · rw [e3]; show _ = Value.int .u64 ((n3.toNat : Nat) : Int); rw [Int.toNat_of_nonneg b3.1]
  · show n0.toNat ≤ 255; omega
  · show n1.toNat < _; omega
  · show n2.toNat < _; omega
  · show n3.toNat < _; omega
  · show len ≤ _; omega

set_option maxRecDepth 20000 in
theorem op_of_trod {H : Type} {enc : TypeId × Value → H} {W : World} {fuel : Nat} {cs : List Value} {x : DataW H × List MemPlace} (h : DataW.trod enc Try.prog W 0 (fun _ => true) true fuel 26 cs = some x) :
    ∃ v0 v1 v2 v3 v4, cs = [v0, v1, v2, v3, v4] ∧ ∃ o : Opn, ∃ a cap, v0 = .int .u8 (o.code : Int) ∧ v1 = .int .u64 (o.vol : Int) ∧ v2 = .int .u64 (o.pl : Int) ∧ v3 = .int .u64 (o.n : Int) ∧ v4 = .slice a o.len cap ∧ BytesIn W a o.len cap o.f ∧ OpOK o := by
  obtain ⟨xs, k, _, hxy, hl, hxl, hf⟩ := DataW.trod_struct Try.underlying26 h
  have hC : Try.prog.cellsOf 26 = 5 := by kernel_rfl
  rw [hC] at hl
  match xs, hxl, cs, hl with
  | [y0, y1, y2, y3, y4], _, [v0, v1, v2, v3, v4], _ =>
    have c8 : Try.prog.cellsOf 5 = 1 := by kernel_rfl
    have c64 : Try.prog.cellsOf 23 = 1 := by kernel_rfl
    have csl : Try.prog.cellsOf 24 = 1 := by kernel_rfl
    have g0 := hf 0 _ rfl
    have g1 := hf 1 _ rfl
    have g2 := hf 2 _ rfl
    have g3 := hf 3 _ rfl
    have g4 := hf 4 _ rfl
    simp [c8, c64, csl] at g0 g1 g2 g3 g4
    exact ⟨v0, v1, v2, v3, v4, rfl, op_of_fields g0 g1 g2 g3 g4⟩

/-- One operation, by value. -/
def IsOp (w : World) (v : Value) (o : Opn) : Prop := ∃ a cap, v = opV o.code o.vol o.pl o.n (.slice a o.len cap) ∧ BytesIn w a o.len cap o.f ∧ OpOK o

set_option maxRecDepth 20000 in
theorem open_op {H : Type} {enc : TypeId × Value → H} {W : World} {r : Reach} {b0 : Nat} {v : Value} {d : DataW H} {p : List MemPlace} (hv : Value.okWide Try.prog W r b0 26 v)
    (h : DataW.Trod enc Try.prog W 0 (fun _ => true) true 26 v d p) : ∃ o, IsOp W v o := by
  obtain ⟨cs, rfl, hsz⟩ := okWide_struct Try.underlying26 hv
  obtain ⟨fuel, hf⟩ := h
  obtain ⟨v0, v1, v2, v3, v4, e, o, a, cap, e0, e1, e2, e3, e4, hB, hO⟩ := op_of_trod hf
  refine ⟨o, a, cap, ?_, hB, hO⟩
  have : cs = #[v0, v1, v2, v3, v4] := by
    have e' : cs.toList = [v0, v1, v2, v3, v4] := e
    rw [← Array.toArray_toList (xs := cs), e']
  rw [this, e0, e1, e2, e3, e4]
  rfl

set_option maxRecDepth 20000 in
theorem open_ops24 {H : Type} {enc : TypeId × Value → H} {W : World} {a : Option Addr} {len cap : Nat} {d : DataW H} {p : List MemPlace}
    (h : DataW.Trod enc Try.prog W 0 (fun _ => true) true 22 (.slice a len cap) d p) : ∃ z, IsOps W a len cap z := by
  obtain ⟨fuel, hf⟩ := h
  have dz : Opn := ⟨0, 0, 0, 0, 0, fun _ => 0⟩
  rcases open_slice Try.underlying22 hf with ⟨hcs, _⟩ | ⟨x, l, c, m, n, D, Pl, hcs, _, hl, hm, hmeq, _, hall⟩
  · simp [Value.cells] at hcs
    obtain ⟨rfl, rfl, rfl⟩ := hcs
    exact ⟨fun _ => dz, Nat.le_refl _, Nat.zero_le _, fun _ => ⟨rfl, rfl⟩, fun i hi => by omega⟩
  · simp [Value.cells] at hcs
    obtain ⟨rfl, rfl, rfl⟩ := hcs
    simp only [if_true] at hmeq
    subst hmeq
    have hC : Try.prog.cellsOf 26 = 5 := by kernel_rfl
    have hspot0 : 0 < len → x.spot = none := fun h0 => by
      obtain ⟨cs', h1, h2⟩ := hall 0 (by omega)
      rw [hC] at h1
      obtain ⟨_, hlen, hcell⟩ := World.cells?_some h1
      obtain ⟨v0, v1, v2, v3, v4, rfl, _⟩ := op_of_trod h2
      have k0 := World.cell?_spot (hcell 0 (by omega))
      simpa [Addr.add] using k0
    have each : ∀ i, i < len → ∃ o : Opn, ∃ b off, (some x : Option Addr) = some ⟨b, off, none⟩ ∧ b < W.heap.size ∧ OpCells W (fun j => W.cell? ⟨b, off + i * 5 + j, none⟩) o := by
      intro i hi
      obtain ⟨cs', h1, h2⟩ := hall i (by omega)
      rw [hC] at h1
      obtain ⟨_, hlen, hcell⟩ := World.cells?_some h1
      obtain ⟨v0, v1, v2, v3, v4, rfl, o, da, dc, e0, e1, e2, e3, e4, hB, hO⟩ := op_of_trod h2
      obtain ⟨b, off, sp⟩ := x
      have hspot : sp = none := hspot0 (by omega)
      subst hspot
      have hk : ∀ j, j < 5 → W.cell? ⟨b, off + i * 5 + j, none⟩ = [v0, v1, v2, v3, v4][j]? := fun j hj => by
        have := hcell j (by omega)
        rw [addr_add0, addr_add0] at this
        exact this
      refine ⟨o, b, off, rfl, World.block_lt_of_cell? W ⟨b, off + i * 5 + 0, none⟩ (u := v0) (by rw [hk 0 (by omega)]; rfl), da, dc, ?_, ?_, ?_, ?_, ?_, hB, hO⟩
      · show W.cell? ⟨b, off + i * 5 + 0, none⟩ = _; rw [hk 0 (by omega), ← e0]; rfl
      · show W.cell? ⟨b, off + i * 5 + 1, none⟩ = _; rw [hk 1 (by omega), ← e1]; rfl
      · show W.cell? ⟨b, off + i * 5 + 2, none⟩ = _; rw [hk 2 (by omega), ← e2]; rfl
      · show W.cell? ⟨b, off + i * 5 + 3, none⟩ = _; rw [hk 3 (by omega), ← e3]; rfl
      · show W.cell? ⟨b, off + i * 5 + 4, none⟩ = _; rw [hk 4 (by omega), ← e4]; rfl
    have hz : ∃ z : Nat → Opn, ∀ i, i < len → ∃ b off, (some x : Option Addr) = some ⟨b, off, none⟩ ∧ b < W.heap.size ∧ OpCells W (fun j => W.cell? ⟨b, off + i * 5 + j, none⟩) (z i) := by
      classical
      refine ⟨fun i => if h : i < len then Classical.choose (each i h) else dz, fun i hi => ?_⟩
      have := Classical.choose_spec (each i hi)
      simpa [hi] using this
    obtain ⟨z, hz⟩ := hz
    exact ⟨z, hl, hm, (fun h => by cases h), hz⟩

theorem OpCells.chg {L : List Nat} {w w' : World} {b off i : Nat} {o : Opn} (h : OpCells w (fun j => w.cell? ⟨b, off + i * 5 + j, none⟩) o) (c : Chg L w w') (hb : b < w.heap.size) (hL : b ∉ L) (hd : ∀ x, x ∈ L → w.heap.size ≤ x) :
    OpCells w' (fun j => w'.cell? ⟨b, off + i * 5 + j, none⟩) o := by
  obtain ⟨a, cap, e0, e1, e2, e3, e4, hB, hO⟩ := h
  have hc : ∀ j v, w.cell? ⟨b, off + i * 5 + j, none⟩ = some v → w'.cell? ⟨b, off + i * 5 + j, none⟩ = some v := fun j v h => (c.cell (p := ⟨b, off + i * 5 + j, none⟩) hb hL).trans h
  refine ⟨a, cap, hc _ _ e0, hc _ _ e1, hc _ _ e2, hc _ _ e3, hc _ _ e4, hB.chg c (fun h0 q hq hm => ?_), hO⟩
  obtain ⟨k, o', rfl, hb'⟩ := hB.2.2.2 q hq h0
  have hk : k < w.heap.size := World.block_lt_of_cell? w ⟨k, o' + 0, none⟩ (hb' 0 h0).1
  have h2 : w.heap.size ≤ k := hd _ hm
  omega

end Go.Proofs.Ytbejcmbdaoakbaa
