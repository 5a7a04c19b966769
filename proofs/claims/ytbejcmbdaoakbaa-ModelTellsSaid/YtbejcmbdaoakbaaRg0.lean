/- The reference of layer 24: how its lists lie in memory. -/
import Derived.Test.YtbejcmbdaoakbaaRgS
import Derived.Maps.AppendAt
namespace Go.Proofs.Ytbejcmbdaoakbaa
open Go.RowKit
set_option linter.unusedVariables false
set_option linter.unusedSimpArgs false

/-- A put, a volume: two cells each. -/
abbrev PutL := List (Nat × ByteArray)
def putCells : PutL → List Value
  | [] => []
  | p :: r => .int .u64 (p.1 : Int) :: .string p.2 :: putCells r
def volCells : List (Nat × Value) → List Value
  | [] => []
  | p :: r => .int .u64 (p.1 : Int) :: p.2 :: volCells r
theorem putCells_app (a b : PutL) : putCells (a ++ b) = putCells a ++ putCells b := by
  induction a with
  | nil => rfl
  | cons p r ih => simp [putCells, ih]
theorem volCells_app (a b : List (Nat × Value)) : volCells (a ++ b) = volCells a ++ volCells b := by
  induction a with
  | nil => rfl
  | cons p r ih => simp [volCells, ih]
theorem putCells_len (a : PutL) : (putCells a).length = a.length * 2 := by
  induction a with
  | nil => rfl
  | cons p r ih => simp [putCells, ih]; omega
theorem volCells_len (a : List (Nat × Value)) : (volCells a).length = a.length * 2 := by
  induction a with
  | nil => rfl
  | cons p r ih => simp [volCells, ih]; omega
theorem putCells_get (a : PutL) (i : Nat) (h : i < a.length) : (putCells a)[i * 2]? = some (.int .u64 ((a[i]!).1 : Int)) ∧ (putCells a)[i * 2 + 1]? = some (.string (a[i]!).2) := by
  induction a generalizing i with
  | nil => simp at h
  | cons p r ih =>
    cases i with
    | zero => exact ⟨rfl, rfl⟩
    | succ k =>
      have hk : k < r.length := by simpa using h
      have := ih k hk
      rw [show (k + 1) * 2 = k * 2 + 1 + 1 by omega, show k * 2 + 1 + 1 + 1 = (k * 2 + 1) + 1 + 1 by omega]
      simp only [putCells, List.getElem?_cons_succ, List.getElem!_cons_succ]
      exact this
theorem volCells_get (a : List (Nat × Value)) (i : Nat) (h : i < a.length) : (volCells a)[i * 2]? = some (.int .u64 ((a[i]!).1 : Int)) ∧ (volCells a)[i * 2 + 1]? = some (a[i]!).2 := by
  induction a generalizing i with
  | nil => simp at h
  | cons p r ih =>
    cases i with
    | zero => exact ⟨rfl, rfl⟩
    | succ k =>
      have hk : k < r.length := by simpa using h
      have := ih k hk
      rw [show (k + 1) * 2 = k * 2 + 1 + 1 by omega, show k * 2 + 1 + 1 + 1 = (k * 2 + 1) + 1 + 1 by omega]
      simp only [volCells, List.getElem?_cons_succ, List.getElem!_cons_succ]
      exact this

theorem infoP24 : (Try.prog.info? 89).map (fun i => (i.zero, i.size, i.bytes)) = some (some (.agg #[.int .u64 0, .string ⟨#[]⟩]), 2, 24) := by kernel_rfl
theorem infoV24 : (Try.prog.info? 52).map (fun i => (i.zero, i.size, i.bytes)) = some (some (.agg #[.int .u64 0, .slice none 0 0]), 2, 32) := by kernel_rfl

theorem ownRow_chg {w w' : World} {base n size : Nat} {e : TypeId} {v : Value} {xs : List Value} {L : List Nat} (h : w.ownsRow base e size v n xs) (c : Chg L w w') (hL : ∀ k, v.ownBlock = some k → k ∉ L) : w'.ownsRow base e size v n xs := by
  refine ⟨h.1, ?_⟩
  rcases h.2 with h' | ⟨g, cap, cur, rfl, hb, hg, r⟩
  · exact .inl h'
  · exact .inr ⟨g, cap, cur, rfl, hb, (c.block g (heap_lt hg) (hL g rfl)).trans hg, r⟩
theorem ownRow_block {w w' : World} {base n size : Nat} {e : TypeId} {v : Value} {xs : List Value} (h : w.ownsRow base e size v n xs) (c : ∀ k, v.ownBlock = some k → w'.heap[k]? = w.heap[k]?) : w'.ownsRow base e size v n xs := by
  refine ⟨h.1, ?_⟩
  rcases h.2 with h' | ⟨g, cap, cur, rfl, hb, hg, r⟩
  · exact .inl h'
  · exact .inr ⟨g, cap, cur, rfl, hb, (c g rfl).trans hg, r⟩
/-- A row that has something: where it lies. -/
theorem ownRow_cells {w : World} {base n : Nat} {e : TypeId} {v : Value} {xs : List Value} (h : w.ownsRow base e 2 v n xs) (hn : 0 < n) : ∃ g c, v = .slice (some ⟨g, 0, none⟩) n c ∧ n ≤ c ∧ c ≤ maxLen ∧ base ≤ g ∧ g < w.heap.size ∧ ∀ j, j < n * 2 → w.cell? ⟨g, j, none⟩ = xs[j]? := by
  rcases h.2 with ⟨_, h0⟩ | ⟨g, c, cur, rfl, hb, hg, r1, r2, r3, r4⟩
  · omega
  · refine ⟨g, c, rfl, r1, r2, hb, heap_lt hg, fun j hj => ?_⟩
    rw [cell_of_block hg, ← r4, List.getElem?_take_of_lt hj, Array.getElem?_toList]
theorem ownRow_slice {w : World} {base n size : Nat} {e : TypeId} {v : Value} {xs : List Value} (h : w.ownsRow base e size v n xs) : ∃ a c, v = .slice a n c ∧ n ≤ c ∧ c ≤ maxLen := by
  rcases h.2 with ⟨rfl, h0⟩ | ⟨g, c, cur, rfl, hb, hg, r1, r2, _⟩
  · exact ⟨none, 0, by rw [h0], by omega, by unfold maxLen; omega⟩
  · exact ⟨_, c, rfl, r1, r2⟩

structure RSt where
  size : Nat
  last : Nat
  vols : List (Nat × Value × PutL)
def volVs (l : List (Nat × Value × PutL)) : List (Nat × Value) := l.map fun x => (x.1, x.2.1)
/-- A list of puts, in one of the blocks L. -/
def PutsV (L : List Nat) (w : World) (v : Value) (ps : PutL) : Prop := w.ownsRow 0 89 2 v ps.length (putCells ps) ∧ (∀ g, v.ownBlock = some g → g ∈ L) ∧ ∀ q, q ∈ ps → q.1 < 18446744073709551616
theorem PutsV.chg {L L' : List Nat} {w w' : World} {v : Value} {ps : PutL} (h : PutsV L w v ps) (c : Chg L' w w') (hL : ∀ g, v.ownBlock = some g → g ∉ L') : PutsV L w' v ps := ⟨ownRow_chg h.1 c hL, h.2⟩
structure RefAt (L : List Nat) (B : Nat) (w : World) (p : Nat) (vv : Value) (R : RSt) : Prop where
  blk : w.heap[p]? = some (.cells #[.int .u64 (R.size : Int), .int .u64 (R.last : Int), vv] 44 (0, 0))
  vols : w.ownsRow 0 52 2 vv R.vols.length (volCells (volVs R.vols))
  vin : ∀ g, vv.ownBlock = some g → g ∈ L
  puts : ∀ x, x ∈ R.vols → PutsV L w x.2.1 x.2.2
  pin : p ∈ L
  lt : ∀ b, b ∈ L → b < w.heap.size
  size : R.size < 18446744073709551616
  last : R.last < 18446744073709551616
  ids : ∀ x, x ∈ R.vols → x.1 < 18446744073709551616
  bv : R.vols.length ≤ B
  bp : ∀ x, x ∈ R.vols → x.2.2.length ≤ B
theorem row_ne {w : World} {base n size p : Nat} {e : TypeId} {v : Value} {xs cs : List Value} {T : TypeId} {ps : Array Value} (h : w.ownsRow base e size v n xs) (hp : w.heap[p]? = some (.cells ps T (0, 0))) (hT : e ≠ T) : v.ownBlock ≠ some p := by
  rcases h.2 with ⟨rfl, _⟩ | ⟨g, c, cur, rfl, _, hg, _⟩
  · intro h; cases h
  · intro e'
    have : g = p := by simpa [Value.ownBlock] using e'
    subst this
    rw [hg] at hp
    injection hp with hp
    injection hp with _ hp
    exact hT hp
section
variable {L L' : List Nat} {B : Nat} {w w' : World} {p : Nat} {vv : Value} {R : RSt}
theorem RefAt.chg (h : RefAt L B w p vv R) (c : Chg L' w w') (hd : ∀ b, b ∈ L → b ∉ L') : RefAt L B w' p vv R :=
  { h with
    blk := (c.block p (heap_lt h.blk) (hd p h.pin)).trans h.blk
    vols := ownRow_chg h.vols c (fun g hg => hd g (h.vin g hg))
    puts := fun x hx => (h.puts x hx).chg c (fun g hg => hd g ((h.puts x hx).2.1 g hg))
    lt := fun b hb => Nat.lt_of_lt_of_le (h.lt b hb) c.size }
theorem RefAt.mono {B' : Nat} (h : RefAt L B w p vv R) (hB : B ≤ B') : RefAt L B' w p vv R := { h with bv := Nat.le_trans h.bv hB, bp := fun x hx => Nat.le_trans (h.bp x hx) hB }
theorem RefAt.cell (h : RefAt L B w p vv R) {i : Nat} (hi : i < R.vols.length) : ∃ g c, vv = .slice (some ⟨g, 0, none⟩) R.vols.length c ∧ R.vols.length ≤ c ∧ g ∈ L ∧ w.cell? ⟨g, i * 2, none⟩ = some (.int .u64 ((R.vols[i]!).1 : Int)) ∧ w.cell? ⟨g, i * 2 + 1, none⟩ = some (R.vols[i]!).2.1 := by
  obtain ⟨g, c, hv, hc, _, _, _, hcell⟩ := ownRow_cells h.vols (by omega)
  have hi' : i < (volVs R.vols).length := by simpa [volVs] using hi
  have hg := volCells_get (volVs R.vols) i hi'
  have e : (volVs R.vols)[i]! = ((R.vols[i]!).1, (R.vols[i]!).2.1) := by
    rw [getElem!_pos _ i hi', getElem!_pos _ i hi]
    simp [volVs]
  rw [e] at hg
  refine ⟨g, c, hv, hc, h.vin g (by rw [hv]; rfl), ?_, ?_⟩
  · rw [hcell _ (by omega)]; exact hg.1
  · rw [hcell _ (by omega)]; exact hg.2
end

/-! ### what a place has -/
def blockOf (ps : PutL) (x : Nat) : ByteArray := ps.foldl (fun a q => if q.1 = x then q.2 else a) ⟨#[]⟩
theorem blockOf_snoc (ps : PutL) (q : Nat × ByteArray) (x : Nat) : blockOf (ps ++ [q]) x = if q.1 = x then q.2 else blockOf ps x := by
  unfold blockOf; rw [List.foldl_append]; rfl
theorem blockOf_take (ps : PutL) (x k : Nat) (h : k < ps.length) : blockOf (ps.take (k + 1)) x = if (ps[k]!).1 = x then (ps[k]!).2 else blockOf (ps.take k) x := by
  rw [List.take_succ_eq_append_getElem h, blockOf_snoc, getElem!_pos ps k h]

set_option maxRecDepth 20000 in
set_option maxHeartbeats 2000000 in
theorem r24Block_at {L : List Nat} {w : World} {pv : Value} {ps : PutL} {id x : Nat} (h : PutsV L w pv ps) (hn : ps.length ≤ 1000000) :
    Calls Try.prog 38 #[.agg #[.int .u64 (id : Int), pv], .int .u64 (x : Int)] w fun e w' => e = .returned (.string (blockOf ps x)) ∧ Chg [] w w' := by
  obtain ⟨a, c, hpv, _, _⟩ := ownRow_slice h.1
  subst hpv
  obtain ⟨n, hn'⟩ : ∃ n, n = ps.length := ⟨_, rfl⟩
  have hn1 : n ≤ 1000000 := by omega
  have Hn := Lib.hid hn'
  have H := Lib.hid h
  rw [← hn']
  clear hn' hn h
  have hB := new_block w (.cells #[.int .u64 (id : Int), .slice a n c] 52)
  have hC : Chg [] w (w.alloc (.cells #[.int .u64 (id : Int), .slice a n c] 52)) := (Chg.refl [] w).alloc _
  go_enter Try.func38, Try.ntmps38
  go_upto_region 1 with fail
  generalize w.alloc (.cells #[.int .u64 (id : Int), .slice a n c] 52) = W at *
  have b0 := cell_of_block hB 0
  have b1 := cell_of_block hB 1
  simp only [List.getElem?_toArray, List.getElem?_cons_zero, List.getElem?_cons_succ] at b0 b1
  have HC := Lib.hid hC
  clear hB hC
  go_wp2_with fail
  go_loopg [5] n (fun k s wr => s = .int .i64 ((k : Int) - 1) ∧ k ≤ n ∧ Hid (wr = W ∧ blockOf (ps.take k) x = blockOf ps x))
  case atStart => exact ⟨rfl, Nat.le_refl _, ⟨rfl, by rw [Hn.out, List.take_length]⟩⟩
  case round =>
    obtain ⟨rfl, hk, hX⟩ := hrel
    obtain ⟨hwr, hE⟩ := hX.out
    subst hwr
    have HE := Lib.hid hE
    clear hE hX
    cases gk with
    | zero =>
      have HF : Hid (blockOf ps x = ⟨#[]⟩) := Lib.hid (by rw [← HE.out]; rfl)
      go_wp2_with fail
      go_ret
      exact ⟨by rw [HF.out]; rfl, HC.out⟩
    | succ k =>
      have hkl : k < ps.length := by have := Hn.out; omega
      obtain ⟨g, c', e1, _, _, _, hgl, hcell⟩ := ownRow_cells H.out.1 (by omega)
      injection e1 with e1a e1b e1c
      subst e1a
      have hg := putCells_get ps k hkl
      have c0 := (HC.out.cell (p := ⟨g, k * 2, none⟩) hgl (by simp)).trans ((hcell _ (by omega)).trans hg.1)
      have c1 := (HC.out.cell (p := ⟨g, k * 2 + 1, none⟩) hgl (by simp)).trans ((hcell _ (by omega)).trans hg.2)
      have ht := blockOf_take ps x k hkl
      rw [HE.out] at ht
      obtain ⟨q, hq⟩ : ∃ q, q = ps[k]! := ⟨_, rfl⟩
      rw [← hq] at c0 c1 ht
      obtain ⟨qa, qt⟩ := q
      have HT := Lib.hid ht
      have i1 : (k : Int) < (n : Int) := by have := Hn.out; omega
      clear hcell hg ht hq e1b e1c hkl
      by_cases hx : qa = x
      · have j1 : ((qa : Int) == (x : Int)) = true := by simp [hx]
        have HF : Hid (blockOf ps x = qt) := Lib.hid (by rw [HT.out, if_pos hx])
        have j2 : (qa == x) = true := by simp [hx]
        clear hx
        go_wp2_with fail
        go_ret
        exact ⟨by rw [HF.out]; rfl, HC.out⟩
      · have j1 : ((qa : Int) == (x : Int)) = false := by simp; omega
        have HF : Hid (blockOf ps x = blockOf (ps.take k) x) := Lib.hid (by rw [HT.out, if_neg hx])
        clear hx
        go_wp2_with fail
        go_roundg k
        case measure => omega
        case rel => exact ⟨by go_num, by omega, ⟨rfl, HF.out.symm⟩⟩

end Go.Proofs.Ytbejcmbdaoakbaa
