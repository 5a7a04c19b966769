/- A slice of operations that came in (layer 10). -/
import Derived.Test.YtnhabpbdpjgiiaaRowB
import Derived.Deep.SlicePairs
import Derived.Test.YtnhabpbdpjgiiaaProg
import Derived.ProofKit
namespace Go.Proofs.Ytnhabpbdpjgiiaa
open Go.RowKit Go.Deep

/-- Operations that came in: what each is (its code, its number). -/
def IsOps (w : World) (a : Option Addr) (len cap : Nat) (z : Nat → Int × Int) : Prop :=
  len ≤ cap ∧ cap ≤ maxLen ∧ (a = none → len = 0 ∧ cap = 0) ∧
  ∀ i, i < len → ∃ b off, a = some ⟨b, off, none⟩ ∧ b < w.heap.size ∧ w.cell? ⟨b, off + i * 2, none⟩ = some (.int .u8 (z i).1) ∧ w.cell? ⟨b, off + i * 2 + 1, none⟩ = some (.int .i64 (z i).2) ∧
    (Lit.int .u8 (z i).1).wf = true ∧ (Lit.int .i64 (z i).2).wf = true

def litOf : Value → Int | .int _ n => n | _ => 0

theorem isOps_of {H : Type} {enc : TypeId × Value → H} {P : Program} {W : World} {t e f0 f1 : TypeId} {a : Option Addr} {len cap : Nat} {d : DataW H} {p : List MemPlace} {F0 F1 : Field}
    (ht : P.underlying t = some (.slice e)) (he : P.underlying e = some (.struct #[F0, F1])) (ce : P.cellsOf e = 2) (o0 : F0.offset = 0) (o1 : F1.offset = 1) (e0 : F0.type = f0) (e1 : F1.type = f1)
    (c0 : P.cellsOf f0 = 1) (c1 : P.cellsOf f1 = 1) (u0 : P.underlying f0 = some (.int .u8)) (u1 : P.underlying f1 = some (.int .i64))
    (h : DataW.Trod enc P W 0 (fun _ => true) true t (.slice a len cap) d p) : ∃ z, IsOps W a len cap z := by
  subst e0 e1
  obtain ⟨fuel, hf⟩ := h
  rcases open_slice_pairs ht he ce o0 o1 c0 c1 hf with ⟨hcs, _⟩ | ⟨x, l, c, m, n, V0, V1, D0, D1, P0, P1, hcs, _, hl, hm, hmeq, _, hall⟩
  · simp [Value.cells] at hcs
    obtain ⟨rfl, rfl, rfl⟩ := hcs
    exact ⟨fun _ => (0, 0), Nat.le_refl _, Nat.zero_le _, fun _ => ⟨rfl, rfl⟩, fun i hi => by omega⟩
  · simp [Value.cells] at hcs
    obtain ⟨rfl, rfl, rfl⟩ := hcs
    simp only [if_true] at hmeq
    subst hmeq
    refine ⟨fun i => (litOf (V0 i), litOf (V1 i)), hl, hm, (fun h => absurd h (by simp)), fun i hi => ?_⟩
    obtain ⟨h0, h1, t0, t1⟩ := hall i (by omega)
    obtain ⟨n0, hv0, _, w0⟩ := DataW.trod_int u0 t0
    obtain ⟨n1, hv1, _, w1⟩ := DataW.trod_int u1 t1
    simp only [List.cons.injEq, and_true] at hv0 hv1
    obtain ⟨b, off, sp⟩ := x
    have hs0 := (hall 0 (by omega)).1
    have hspot : sp = none := by simpa [Addr.add] using World.cell?_spot hs0
    subst hspot
    have e (k : Nat) : (⟨b, off, none⟩ : Addr).add k = ⟨b, off + k, none⟩ := by unfold Addr.add; split <;> simp_all
    rw [e] at h0 h1
    rw [hv0] at h0
    rw [hv1] at h1
    refine ⟨b, off, rfl, World.block_lt_of_cell? W _ h0, ?_, ?_, ?_, ?_⟩
    · show _ = some (Value.int .u8 (litOf (V0 i)))
      rw [h0, hv0]; rfl
    · show _ = some (Value.int .i64 (litOf (V1 i)))
      rw [show off + i * 2 + 1 = off + (i * 2 + 1) by omega, h1, hv1]; rfl
    · show (Lit.int .u8 (litOf (V0 i))).wf = true
      rw [hv0]; exact w0
    · show (Lit.int .i64 (litOf (V1 i))).wf = true
      rw [hv1]; exact w1

theorem open_op10 {H : Type} {enc : TypeId × Value → H} {W : World} {a : Option Addr} {len cap : Nat} {d : DataW H} {p : List MemPlace}
    (h : DataW.Trod enc Try.prog W 0 (fun _ => true) true 23 (.slice a len cap) d p) : ∃ z, IsOps W a len cap z :=
  isOps_of Try.underlying23 Try.underlying45 (by kernel_rfl) rfl rfl rfl rfl (by kernel_rfl) (by kernel_rfl) Try.underlying5 Try.underlying3 h

end Go.Proofs.Ytnhabpbdpjgiiaa
