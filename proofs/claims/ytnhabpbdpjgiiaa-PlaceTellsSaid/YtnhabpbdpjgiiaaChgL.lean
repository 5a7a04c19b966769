/- Which blocks have changed, as a list: plain facts. -/
import Derived.Test.YtnhabpbdpjgiiaaTal
import Derived.Lib.SlKeysI
namespace Go.Proofs.Ytnhabpbdpjgiiaa
open Go.RowKit Go.Maps

def chgs (T : Tal) : List Nat := (List.range T.n).filter T.changed

theorem mem_chgs {T : Tal} {b : Nat} : b ∈ chgs T ↔ b < T.n ∧ T.changed b = true := by
  simp [chgs]

theorem chgs_pairwise (T : Tal) : (chgs T).Pairwise (· < ·) := List.Pairwise.filter _ List.pairwise_lt_range

theorem chgs_perm {P : Program} {w : World} {kt et bk : Nat} {T : Tal} {D : DataW Unit} (hown : w.ownsMap P kt (plainElem P et) bk (Maps.size D) D) (hkt : P.underlying kt = some (.int .i64))
    (h3 : ∀ l, Maps.has D l = true → ∃ k, k < T.n ∧ l = .int .i64 (k : Int) ∧ (T.keptAt k).isSome = true)
    (h4 : ∀ k v, k < T.n → T.keptAt k = some v → Maps.has D (.int .i64 (k : Int)) = true ∧ ∀ z, D.atKey (.int .i64 (k : Int)) z = .lit (.int .u16 (v : Int))) :
    ((chgs T).map (fun b : Nat => (b : Int))).Perm (intKeys D) := by
  obtain ⟨es, rfl, hp, hkeys⟩ := hown.entries (int_keyed hkt)
  refine perm_intKeys hp ?_ ?_ ?_
  · intro p hpm
    have hh : Maps.has (.map es) p.1 = true := by
      rw [has_eq, List.any_eq_true]
      exact ⟨p, hpm, WideAt.sameKey_self (hkeys p hpm)⟩
    obtain ⟨k, _, hl, _⟩ := h3 _ hh
    exact ⟨_, hl⟩
  · rw [List.Nodup, List.pairwise_map]
    exact (chgs_pairwise T).imp (fun {a b} h e => by omega)
  · intro x
    constructor
    · intro hx
      obtain ⟨b, hb, rfl⟩ := List.mem_map.1 hx
      obtain ⟨h1, h2⟩ := mem_chgs.1 hb
      have : T.keptAt b = some (T.kept b) := by
        simp [Tal.changed] at h2
        simp [Tal.keptAt, h2]
      exact (h4 b _ h1 this).1
    · intro hx
      obtain ⟨k, hk, hl, hs⟩ := h3 _ hx
      injection hl with _ hl
      rw [hl]
      refine List.mem_map.2 ⟨k, mem_chgs.2 ⟨hk, ?_⟩, rfl⟩
      unfold Tal.keptAt at hs
      unfold Tal.changed
      by_cases e : T.now k = T.kept k
      · rw [if_pos e] at hs; cases hs
      · simp [e]

theorem chgs_sorted (T : Tal) {ss : List Int} (h : ss.Perm ((chgs T).map (fun b : Nat => (b : Int)))) : ss.mergeSort (fun x y => decide (x ≤ y)) = (chgs T).map (fun b : Nat => (b : Int)) := by
  have e := mergeSort_of_perm_i h
  have s : ((chgs T).map (fun b : Nat => (b : Int))).mergeSort leI = (chgs T).map (fun b : Nat => (b : Int)) := by
    refine List.mergeSort_of_pairwise ?_
    rw [List.pairwise_map]
    exact (chgs_pairwise T).imp (fun {a b} h => by simp [leI]; omega)
  exact e.trans s

end Go.Proofs.Ytnhabpbdpjgiiaa
