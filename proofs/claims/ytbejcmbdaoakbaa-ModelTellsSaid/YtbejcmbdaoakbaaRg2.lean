/- The reference of layer 24: what an append of it does. -/
import Derived.Test.YtbejcmbdaoakbaaRg1
import Derived.Deep.Upon
import Derived.Lib.AppendZeros
import Derived.Deep.RegionLawGrows
namespace Go.Proofs.Ytbejcmbdaoakbaa
open Go.RowKit
set_option linter.unusedVariables false
set_option linter.unusedSimpArgs false

/-- What is appended: m elements that lie in cells, or none of a nil slice. -/
def AppSrc (w : World) (size : Nat) (x : Value) (m : Nat) (news : List Value) : Prop :=
  news.length = m * size ∧ (∀ u, u ∈ news → u.oneCell' = true) ∧
  ((∃ g o c, x = .slice (some ⟨g, o, none⟩) m c ∧ g < w.heap.size ∧ ∀ j u, news[j]? = some u → w.cell? ⟨g, o + j, none⟩ = some u) ∨ (∃ c, x = .slice none 0 c ∧ m = 0))
theorem AppSrc.chg {L : List Nat} {w w' : World} {size m : Nat} {x : Value} {news : List Value} (h : AppSrc w size x m news) (c : Chg L w w') (hL : ∀ g, x.ownBlock = some g → g ∉ L) : AppSrc w' size x m news := by
  obtain ⟨h1, h2, h3⟩ := h
  refine ⟨h1, h2, ?_⟩
  rcases h3 with ⟨g, o, k, rfl, hg, hc⟩ | h3
  · exact .inl ⟨g, o, k, rfl, Nat.lt_of_lt_of_le hg c.size, fun j u hu => (c.cell (p := ⟨g, o + j, none⟩) hg (hL g rfl)).trans (hc j u hu)⟩
  · exact .inr h3
theorem AppSrc.own {w : World} {base size n : Nat} {e : TypeId} {v : Value} {xs : List Value} (h : w.ownsRow base e size v n xs) (h1 : ∀ u, u ∈ xs → u.oneCell' = true) : AppSrc w size v n xs := by
  refine ⟨h.1, h1, ?_⟩
  rcases h.2 with ⟨rfl, rfl⟩ | ⟨g, c, cur, rfl, hb, hg, r1, r2, r3, r4⟩
  · exact .inr ⟨0, rfl, rfl⟩
  · refine .inl ⟨g, 0, c, rfl, heap_lt hg, fun j u hu => ?_⟩
    have hj : j < n * size := by
      have := (List.getElem?_eq_some_iff.1 hu).1
      rw [h.1] at this; exact this
    rw [Nat.zero_add, cell_of_block hg, ← hu, ← r4, List.getElem?_take_of_lt hj, Array.getElem?_toList]
/-- A new block's elements. -/
theorem AppSrc.blk {w : World} {size m c b : Nat} {cs : Array Value} {e : TypeId} (h : w.heap[b]? = some (.cells cs e (0, 0))) (hn : cs.size = m * size) (h1 : ∀ u, u ∈ cs.toList → u.oneCell' = true) : AppSrc w size (.slice (some ⟨b, 0, none⟩) m c) m cs.toList := by
  refine ⟨by simpa using hn, h1, .inl ⟨b, 0, c, rfl, heap_lt h, fun j u hu => ?_⟩⟩
  rw [Nat.zero_add, cell_of_block h, ← hu, Array.getElem?_toList]

theorem run_app {w : World} {base size n m bytes : Nat} {t e : TypeId} {z v x : Value} {xs news : List Value} (ht : Try.prog.underlying t = some (.slice e)) (hinfo : (Try.prog.info? e).map (fun i => (i.zero, i.size, i.bytes)) = some (some z, size, bytes)) (hzs : z.cells.size = size) (hsz : 0 < size) (hby : bytes ≤ 32)
    (hown : w.ownsRow base e size v n xs) (hs : AppSrc w size x m news) (hnm : n + m ≤ 3000000) (hbase : base ≤ w.heap.size) :
    ∃ v' w', (Builtin.append_ #[t, t] t #[v, x]).run Try.prog w = .ok v' w' ∧ w'.ownsRow base e size v' (n + m) (xs ++ news) ∧ w.grownBy w' v.ownBlock := by
  obtain ⟨i, h1, h2, h3, h4⟩ := info_parts hinfo
  obtain ⟨s1, s2, s3⟩ := hs
  rcases s3 with ⟨g, o, c, rfl, hg, hc⟩ | ⟨c, rfl, rfl⟩
  · obtain ⟨v', w', hr, ho, hgr, _⟩ := run_append_own_at (P := Try.prog) w base t t e i z size bytes ht h1 h2 h3 h4 hzs hsz v n xs hown ⟨g, o, none⟩ m c news s1 (fun j u hu => by have e : Addr.add ⟨g, o, none⟩ j = ⟨g, o + j, none⟩ := (by unfold Addr.add; split <;> simp [*]); rw [e]; exact hc j u hu) s2 (by unfold maxLen; omega) (by
      have : (n + m) * bytes ≤ 3000000 * 32 := Nat.mul_le_mul hnm hby
      omega) hbase
    exact ⟨v', w', hr, ho, hgr⟩
  · have hn : news = [] := List.eq_nil_of_length_eq_zero (by simpa using s1)
    subst hn
    obtain ⟨a, k, hv, hk, _⟩ := ownRow_slice hown
    rw [hv]
    refine ⟨_, w, run_append_nothing w t t t e i ht h1 a n k hk _ (Src.ofNil w ht c), ?_, ⟨rfl, rfl, rfl, Nat.le_refl _, fun _ _ _ => rfl⟩⟩
    rw [List.append_nil, ← hv]
    exact hown

theorem step_app {ops : Array Oper} {o : Oper} {a : Act} {w : World} {K : Act → World → Prop} {Q : Exit → Act → World → Prop} {E : Prop} (hg : o.guard = none) (s x : Operand) (t : TypeId)
    (hop : o.op = .call { callee := .builtin .append, args := #[s, x], argTypes := #[t, t] }) (hty : o.type = t) {base size n m bytes : Nat} {e : TypeId} {z v xv : Value} {xs news : List Value}
    (ht : Try.prog.underlying t = some (.slice e)) (hinfo : (Try.prog.info? e).map (fun i => (i.zero, i.size, i.bytes)) = some (some z, size, bytes)) (hzs : z.cells.size = size) (hsz : 0 < size) (hby : bytes ≤ 32)
    (hs : a.eval s = v) (hx : a.eval x = xv) (hown : w.ownsRow base e size v n xs) (hsrc : AppSrc w size xv m news) (hnm : n + m ≤ 3000000) (hbase : base ≤ w.heap.size)
    (hK : ∀ v' w', w'.ownsRow base e size v' (n + m) (xs ++ news) → w.grownBy w' v.ownBlock → K (a.put o.dst v') w') :
    if Region.wanted o (yielded ops a.tmps) = true then Oper.wp Try.prog o a w K Q else E := by
  have hw : Region.wanted o (yielded ops a.tmps) = true := by simp [Region.wanted, hg]
  rw [if_pos hw]
  obtain ⟨v', w', hrun, r1, r2⟩ := run_app ht hinfo hzs hsz hby hown hsrc hnm hbase
  unfold Oper.wp
  simp [execOp, hop, resolve, invoke, builtin, hs, hx, hty, hrun, Result.andThen]
  exact hK _ _ r1 r2

theorem own_emptyG {w : World} {base size : Nat} {e : TypeId} (h : base ≤ w.heap.size) : (w.alloc (.cells #[] e)).ownsRow base e size (.slice (some ⟨w.heap.size, 0, none⟩) 0 0) 0 [] :=
  ⟨by simp, .inr ⟨w.heap.size, 0, #[], rfl, h, new_block w _, Nat.zero_le _, by unfold maxLen; omega, by simp, by simp⟩⟩

theorem putCells_one (l : PutL) : ∀ u, u ∈ putCells l → u.oneCell' = true := by
  induction l with
  | nil => intro u h; cases h
  | cons p r ih =>
    intro u h
    simp only [putCells, List.mem_cons] at h
    rcases h with rfl | rfl | h
    · rfl
    · rfl
    · exact ih u h
theorem volCells_one (l : List (Nat × Value)) (hl : ∀ x, x ∈ l → x.2.oneCell' = true) : ∀ u, u ∈ volCells l → u.oneCell' = true := by
  induction l with
  | nil => intro u h; cases h
  | cons p r ih =>
    intro u h
    simp only [volCells, List.mem_cons] at h
    rcases h with rfl | rfl | h
    · rfl
    · exact hl p (by simp)
    · exact ih (fun x hx => hl x (by simp [hx])) u h

structure RA where
  size : Nat
  last : Nat
  vols : List (Nat × PutL)
def absV (l : List (Nat × Value × PutL)) : List (Nat × PutL) := l.map fun x => (x.1, x.2.2)
def RSt.abs (R : RSt) : RA := ⟨R.size, R.last, absV R.vols⟩
def RefM (L : List Nat) (B : Nat) (w : World) (p : Nat) (M : RA) : Prop := ∃ vv R, RefAt L B w p vv R ∧ R.abs = M
section
variable {L L' : List Nat} {B B' : Nat} {w w' : World} {p : Nat} {M : RA}
theorem RefM.chg (h : RefM L B w p M) (c : Chg L' w w') (hd : ∀ b, b ∈ L → b ∉ L') : RefM L B w' p M := by
  obtain ⟨vv, R, h, e⟩ := h
  exact ⟨vv, R, h.chg c hd, e⟩
theorem RefM.mono (h : RefM L B w p M) (hB : B ≤ B') : RefM L B' w p M := by
  obtain ⟨vv, R, h, e⟩ := h
  exact ⟨vv, R, h.mono hB, e⟩
theorem RefM.lt (h : RefM L B w p M) : ∀ b, b ∈ L → b < w.heap.size := by
  obtain ⟨vv, R, h, e⟩ := h
  exact h.lt
theorem RefAt.heap_p {vv : Value} {R : RSt} (h : RefAt L B w p vv R) : p < w.heap.size := heap_lt h.blk
end
theorem volVs_one {L : List Nat} {B : Nat} {w : World} {p : Nat} {vv : Value} {R : RSt} (h : RefAt L B w p vv R) : ∀ u, u ∈ volCells (volVs R.vols) → u.oneCell' = true := by
  refine volCells_one _ fun x hx => ?_
  obtain ⟨y, hy, rfl⟩ := List.mem_map.1 hx
  obtain ⟨a, c, e, _⟩ := ownRow_slice (h.puts y hy).1
  simp only [e]
  rfl

/-- Two cells of a row anew. -/
theorem ownRow_set2 {w : World} {base n i g c : Nat} {e : TypeId} {l : List (Nat × Value)} {x : Nat} {y : Value} (h : w.ownsRow base e 2 (.slice (some ⟨g, 0, none⟩) n c) n (volCells l)) (hi : i < n) :
    ((w.setCell ⟨g, i * 2, none⟩ (.int .u64 (x : Int))).setCell ⟨g, i * 2 + 1, none⟩ y).ownsRow base e 2 (.slice (some ⟨g, 0, none⟩) n c) n (volCells (l.set i (x, y))) := by
  have hl : l.length = n := by have := h.1; rw [volCells_len] at this; omega
  refine ⟨by rw [volCells_len, List.length_set, hl], ?_⟩
  rcases h.2 with ⟨e1, _⟩ | ⟨g', c', cur, e1, hb, hg, r1, r2, r3, r4⟩
  · cases e1
  · injection e1 with e1 _ e3
    injection e1 with e1
    injection e1 with e1
    subst e1 e3
    have h1 := setCell_block hg (i * 2) (.int .u64 (x : Int))
    have h2 := setCell_block h1 (i * 2 + 1) y
    refine .inr ⟨g, c, _, rfl, hb, h2, r1, r2, by simp [r3], ?_⟩
    apply List.ext_getElem?
    have key : ∀ k, k < n → ((cur.setIfInBounds (i * 2) (.int .u64 (x : Int))).setIfInBounds (i * 2 + 1) y)[k * 2]? = (volCells (l.set i (x, y)))[k * 2]? ∧ ((cur.setIfInBounds (i * 2) (.int .u64 (x : Int))).setIfInBounds (i * 2 + 1) y)[k * 2 + 1]? = (volCells (l.set i (x, y)))[k * 2 + 1]? := by
      intro k hkn
      have hk : k < (l.set i (x, y)).length := by rw [List.length_set, hl]; exact hkn
      have hk' : k < l.length := by omega
      have hv := volCells_get (l.set i (x, y)) k hk
      have hv0 := volCells_get l k hk'
      rw [getElem!_pos (l.set i (x, y)) k hk] at hv
      rw [getElem!_pos l k hk'] at hv0
      have hcur : ∀ j, j < n * 2 → cur[j]? = (volCells l)[j]? := fun j hj => by rw [← r4, List.getElem?_take_of_lt hj, Array.getElem?_toList]
      by_cases hki : k = i
      · subst hki
        simp only [List.getElem_set_self] at hv
        rw [hv.1, hv.2]
        constructor
        · rw [Array.getElem?_setIfInBounds_ne (by omega), Array.getElem?_setIfInBounds_self_of_lt (by omega)]
        · rw [Array.getElem?_setIfInBounds_self_of_lt (by simp; omega)]
      · simp only [List.getElem_set_ne (Ne.symm hki)] at hv
        rw [hv.1, hv.2]
        constructor
        · rw [Array.getElem?_setIfInBounds_ne (by omega), Array.getElem?_setIfInBounds_ne (by omega), hcur _ (by omega)]; exact hv0.1
        · rw [Array.getElem?_setIfInBounds_ne (by omega), Array.getElem?_setIfInBounds_ne (by omega), hcur _ (by omega)]; exact hv0.2
    intro j
    by_cases hj : j < n * 2
    · rw [List.getElem?_take_of_lt hj, Array.getElem?_toList]
      rcases Nat.mod_two_eq_zero_or_one j with hm | hm
      · obtain ⟨k, rfl⟩ : ∃ k, j = k * 2 := ⟨j / 2, by omega⟩
        exact (key k (by omega)).1
      · obtain ⟨k, rfl⟩ : ∃ k, j = k * 2 + 1 := ⟨j / 2, by omega⟩
        exact (key k (by omega)).2
    · rw [List.getElem?_eq_none (by simp; omega), List.getElem?_eq_none (by rw [volCells_len, List.length_set]; omega)]

end Go.Proofs.Ytbejcmbdaoakbaa
