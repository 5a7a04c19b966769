/- A node, bytes that came in. -/
import Derived.Test.YtjceoheiiohfcaaAwk3
import Derived.Test.YtjceoheiiohfcaaRow
import Derived.ProofKit
import Derived.ChangeArms
import Derived.Lib.SmallJoins
namespace Go.Proofs.Ytjceoheiiohfcaa
open Go.RowKit

theorem addr_add0 (b o i : Nat) : (⟨b, o, none⟩ : Addr).add i = ⟨b, o + i, none⟩ := by unfold Addr.add; split <;> simp_all

theorem numsIn_trod {H : Type} {enc : TypeId × Value → H} {W : World} {fuel : Nat} {v : Value} {x : DataW H × List MemPlace} (h : DataW.trod enc Try.prog W 0 (fun _ => true) true fuel 22 [v] = some x) : ∃ n f, NumsIn [] W v n f := by
  rcases Go.ChangeShapes.open_ints Try.underlying22 Try.underlying43 (by kernel_rfl) h with ⟨hcs, _⟩ | ⟨a, l, c, zs, hcs, _, hl, hm, hz, _, hcell, hwz⟩
  · simp at hcs
    subst hcs
    exact ⟨0, fun _ => 0, .inl ⟨⟨none, 0, rfl, Nat.zero_le _, fun _ => rfl⟩, rfl⟩⟩
  · simp at hcs
    subst hcs
    by_cases h0 : l = 0
    · subst h0
      exact ⟨0, fun _ => 0, .inl ⟨⟨_, c, rfl, hm, fun h => by cases h⟩, rfl⟩⟩
    · simp only [if_true] at hz
      obtain ⟨b, off, sp⟩ := a
      have hs0 := hcell 0 (by omega)
      have hspot : sp = none := by simpa [Addr.add] using World.cell?_spot hs0
      subst hspot
      rw [addr_add0] at hs0
      refine ⟨l, fun i => (zs.getD i 0).toNat, .inr ⟨b, off, c, rfl, hl, hm, World.block_lt_of_cell? W _ hs0, by simp, fun i hi => ?_⟩⟩
      have hc := hcell i (by omega)
      rw [addr_add0] at hc
      have hil : i < zs.length := by omega
      have hw := bd_u64 (hwz (zs.getD i 0) (by
        rw [List.getD_eq_getElem?_getD, List.getElem?_eq_getElem hil]
        exact List.getElem_mem hil))
      rw [hc, Int.toNat_of_nonneg hw.1]
      exact ⟨rfl, by dsimp only; omega⟩

theorem bytesIn_trod {H : Type} {enc : TypeId × Value → H} {W : World} {a : Option Addr} {len cap : Nat} {d : DataW H} {p : List MemPlace} (h : DataW.Trod enc Try.prog W 0 (fun _ => true) true 25 (.slice a len cap) d p) : ∃ f, BytesIn W a len cap f := by
  obtain ⟨fuel, h⟩ := h
  rcases Go.ChangeShapes.open_ints Try.underlying25 Try.underlying5 (by kernel_rfl) h with ⟨hcs, _⟩ | ⟨a, l, c, zs, hcs, _, hl, hm, hz, _, hcell, hwz⟩
  · simp [Value.cells] at hcs
    obtain ⟨rfl, rfl, rfl⟩ := hcs
    exact ⟨fun _ => 0, Nat.le_refl _, Nat.zero_le _, fun _ => ⟨rfl, rfl⟩, fun b hb => by cases hb⟩
  · simp [Value.cells] at hcs
    obtain ⟨rfl, rfl, rfl⟩ := hcs
    simp only [if_true] at hz
    refine ⟨fun i => (zs.getD i 0).toNat, hl, hm, (fun h => by cases h), fun q hq h0 => ?_⟩
    injection hq with hq
    subst hq
    obtain ⟨b, off, sp⟩ := a
    have hs0 := hcell 0 (by omega)
    have hspot : sp = none := by simpa [Addr.add] using World.cell?_spot hs0
    subst hspot
    refine ⟨b, off, rfl, fun i hi => ?_⟩
    have hc := hcell i (by omega)
    rw [addr_add0] at hc
    have hil : i < zs.length := by omega
    have hw := bd_u8 (hwz (zs.getD i 0) (by
      rw [List.getD_eq_getElem?_getD, List.getElem?_eq_getElem hil]
      exact List.getElem_mem hil))
    rw [hc, Int.toNat_of_nonneg hw.1]
    exact ⟨rfl, by dsimp only; omega⟩

/-- A node that came in. -/
def IsNode (w : World) (v : Value) (leaf : Bool) (nk nv : Nat) (keys vals : Nat → Nat) : Prop := ∃ vk vv, v = .agg #[.bool leaf, vk, vv] ∧ NumsIn [] w vk nk keys ∧ NumsIn [] w vv nv vals

theorem open_node {H : Type} {enc : TypeId × Value → H} {W : World} {r : Reach} {b0 : Nat} {v : Value} {d : DataW H} {p : List MemPlace} (hv : Value.okWide Try.prog W r b0 24 v)
    (h : DataW.Trod enc Try.prog W 0 (fun _ => true) true 24 v d p) : ∃ leaf nk nv keys vals, IsNode W v leaf nk nv keys vals := by
  obtain ⟨v0, v1, v2, y0, y1, y2, n, rfl, rfl, rfl, t0, t1, t2⟩ := Go.Joins.open_agg3 Try.underlying24 (by kernel_rfl) (by kernel_rfl) hv h
  obtain ⟨l, hl, _⟩ := DataW.trod_bool Try.underlying4 t0
  simp at hl
  subst hl
  obtain ⟨nk, keys, hk⟩ := numsIn_trod t1
  obtain ⟨nv, vals, hv⟩ := numsIn_trod t2
  exact ⟨l, nk, nv, keys, vals, _, _, rfl, hk, hv⟩

end Go.Proofs.Ytjceoheiiohfcaa
