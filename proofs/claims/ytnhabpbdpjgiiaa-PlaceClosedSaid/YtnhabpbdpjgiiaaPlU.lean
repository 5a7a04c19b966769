/- Layer 10, PlaceClosed: what a round of the statement holds behind Place: pages that were placed are marked. -/
import Derived.Test.YtnhabpbdpjgiiaaPlQ
namespace Go.Proofs.Ytnhabpbdpjgiiaa
open Go.RowKit
set_option linter.unusedVariables false
set_option linter.unusedSimpArgs false

theorem getV_nat' {T : Tal} {b : Nat} (h : b < T.n) : getV T (b : Int) = (T.now b : Int) := by
  have : hasB T (b : Int) = true := (hasB_iff T b).2 (by omega)
  simp [getV, this]

/-- The statement's marks lie in block mb. -/
structure MvR (w wr : World) (xs p t bc bk sb mb : Nat) (F : PS) (A1 : Nat → Nat → Nat) (g1 c1 g2 c2 : Nat → Nat) (n : Nat → Nat) (z0 z1 : Value) (mv : Nat → Bool) : Prop where
  top : wr.heap[xs]? = some (.cells #[.pointer (some ⟨t, 0, none⟩), .pointer (some ⟨p, 0, none⟩), .slice (some ⟨g1 0, 0, none⟩) (n 0) (c1 0), .slice (some ⟨g1 1, 0, none⟩) (n 1) (c1 1)] 69 (0, 0))
  sc : wr.heap[sb]? = some (.cells #[.slice (some ⟨g2 0, 0, none⟩) (n 0) (c2 0), .slice (some ⟨g2 1, 0, none⟩) (n 1) (c2 1)] 42 (0, 0))
  so : ShV wr (.slice (some ⟨g1 0, 0, none⟩) (n 0) (c1 0)) (.slice (some ⟨g1 1, 0, none⟩) (n 1) (c1 1)) A1 n g1 c1
  sv : ShV wr (.slice (some ⟨g2 0, 0, none⟩) (n 0) (c2 0)) (.slice (some ⟨g2 1, 0, none⟩) (n 1) (c2 1)) F.a n g2 c2
  pt : PT wr p t bc bk F.K F.T
  zl : SlI wr z0 (yesTo (F.p 0) (n 0))
  ml : wr.heap[mb]? = some (.cells (bools 7 mv) 73 (0, 0))
  chg : Chg [] w wr
  mn : mb ∉ [xs, sb, g1 0, g1 1, g2 0, g2 1, p, t, bc, bk]
  mz : ∀ b, z0.ownBlock = some b → b ≠ mb
  mw : w.heap.size ≤ mb

theorem MvR.chgd {w wr wr' : World} {xs p t bc bk sb mb : Nat} {F : PS} {A1 : Nat → Nat → Nat} {g1 c1 g2 c2 : Nat → Nat} {n : Nat → Nat} {z0 z1 : Value} {mv : Nat → Bool} (h : MvR w wr xs p t bc bk sb mb F A1 g1 c1 g2 c2 n z0 z1 mv) (C : Chg [] wr wr') : MvR w wr' xs p t bc bk sb mb F A1 g1 c1 g2 c2 n z0 z1 mv :=
  ⟨(C.block _ (heap_lt h.top) (by simp)).trans h.top, (C.block _ (heap_lt h.sc) (by simp)).trans h.sc, h.so.chg C (by simp) (by simp), h.sv.chg C (by simp) (by simp), h.pt.chg C (by simp) (by simp) (by simp) (by simp), h.zl.chg C (by simp),
    (C.block _ (heap_lt h.ml) (by simp)).trans h.ml, h.chg.trans C, h.mn, h.mz, h.mw⟩
theorem MvR.mark {w wr : World} {xs p t bc bk sb mb : Nat} {F : PS} {A1 : Nat → Nat → Nat} {g1 c1 g2 c2 : Nat → Nat} {n : Nat → Nat} {z0 z1 : Value} {mv : Nat → Bool} (h : MvR w wr xs p t bc bk sb mb F A1 g1 c1 g2 c2 n z0 z1 mv) {i : Nat} (hi : i < 7) :
    MvR w (wr.setCell ⟨mb, i, none⟩ (.bool true)) xs p t bc bk sb mb F A1 g1 c1 g2 c2 n z0 z1 (fun j => if j = i then true else mv j) := by
  have C : Chg [mb] wr (wr.setCell ⟨mb, i, none⟩ (.bool true)) := (Chg.refl _ _).setCell (.inl (by simp)) _
  have hm := h.mn
  simp only [List.mem_cons, List.not_mem_nil, or_false, not_or] at hm
  obtain ⟨m1, m2, m3, m4, m5, m6, m7, m8, m9, m10⟩ := hm
  have e : ∀ {k : Nat}, ¬ mb = k → k ∉ [mb] := fun {k} q => by simp; exact fun r => q r.symm
  refine ⟨(C.block _ (heap_lt h.top) (e m1)).trans h.top, (C.block _ (heap_lt h.sc) (e m2)).trans h.sc, h.so.chg C (e m3) (e m4), h.sv.chg C (e m5) (e m6), h.pt.chg C (e m7) (e m8) (e m9) (e m10), h.zl.chg C (fun b hb => by have := h.mz b hb; simpa using this), ?_, h.chg.then C (fun k hk => by simp at hk; right; rw [hk]; exact h.mw), h.mn, h.mz, h.mw⟩
  rw [setCell_block h.ml i (.bool true), bools_set hi]
theorem MvR.cells {w wr : World} {xs p t bc bk sb mb : Nat} {F : PS} {A1 : Nat → Nat → Nat} {g1 c1 g2 c2 : Nat → Nat} {n : Nat → Nat} {z0 z1 : Value} {mv : Nat → Bool} (h : MvR w wr xs p t bc bk sb mb F A1 g1 c1 g2 c2 n z0 z1 mv) :
    wr.cell? ⟨xs, 0, none⟩ = some (.pointer (some ⟨t, 0, none⟩)) ∧ wr.cell? ⟨xs, 2, none⟩ = some (.slice (some ⟨g1 0, 0, none⟩) (n 0) (c1 0)) ∧ wr.cell? ⟨sb, 0, none⟩ = some (.slice (some ⟨g2 0, 0, none⟩) (n 0) (c2 0)) :=
  ⟨cell_of_block h.top 0, cell_of_block h.top 2, cell_of_block h.sc 0⟩

/-- The marks behind the first j of those that were placed. -/
def mvTo (l : List Nat) (j : Nat) (i : Nat) : Bool := decide (i ∈ l.take j)
theorem mvTo_zero (l : List Nat) : mvTo l 0 = fun _ => false := by funext i; simp [mvTo]
theorem mvTo_succ {l : List Nat} {j : Nat} (h : j < l.length) : (fun i => if i = l.getD j 0 then true else mvTo l j i) = mvTo l (j + 1) := by
  funext i
  unfold mvTo
  rw [List.take_succ_eq_append_getElem h]
  have e : l.getD j 0 = l[j] := by simp [List.getD_eq_getElem?_getD, List.getElem?_eq_getElem h]
  rw [e]
  by_cases hi : i = l[j]
  · subst hi; rw [if_pos rfl]; symm; rw [decide_eq_true_iff, List.mem_append]; right; simp
  · rw [if_neg hi, Bool.eq_iff_iff, decide_eq_true_iff, decide_eq_true_iff, List.mem_append]; simp [hi]
theorem mvTo_all {q : Nat → Bool} {k i : Nat} (hi : i < k) : mvTo (yesTo q k) (yesTo q k).length i = q i := by
  unfold mvTo
  rw [List.take_length, Bool.eq_iff_iff, decide_eq_true_eq, mem_yesTo]
  exact ⟨fun h => h.2, fun h => ⟨hi, h⟩⟩
theorem getD_mem {l : List Nat} {j : Nat} (h : j < l.length) : l.getD j 0 ∈ l := by
  have e : l.getD j 0 = l[j] := by simp [List.getD_eq_getElem?_getD, List.getElem?_eq_getElem h]
  rw [e]; exact List.getElem_mem h

/-- A second Place, with nothing changed since. -/
theorem plEnd_still {w W : World} {xs p t bc bk : Nat} {K : Pk} {T : Tal} {g c : Nat → Nat} {A : Nat → Nat → Nat} {n : Nat → Nat} {N sb : Nat} {v0 v1 : Value} {a2 a3 : Option Addr} {m2 m3 c2 c3 : Nat} {ev : Int} (H : StO w xs p t bc bk K T g c A n N) (hc : ∀ b, b < T.n → T.changed b = false)
    (h : PlEnd w W p t bc bk K T A n N sb v0 v1 (.slice a2 m2 c2) (.slice a3 m3 c3) ev) : StO W xs p t bc bk K T g c A n N ∧ Chg [p, t, bc, bk] w W ∧ (ev = 0 ∨ ev = 90) ∧ m2 = 0 ∧ m3 = 0 := by
  rcases h.q with ⟨_, rfl, h0, h1, hC⟩ | ⟨_, rfl, g2, cc, hs, hz0, hz1, hpt, hC, _⟩
  · injection h0 with _ h0
    injection h1 with _ h1
    exact ⟨H.chg hC, hC.mono (by simp), .inr rfl, h0, h1⟩
  · rw [start_still H.own hc] at hz0 hz1 hpt
    refine ⟨H.turn hpt H.own hC rfl rfl, hC, .inl rfl, ?_, ?_⟩
    · have := (SlI.get hz0).1
      rw [this]
      have : yesTo ((PS.start T K n A).p 0) (n 0) = [] := yesTo_nil.2 (by rintro ⟨i, _, hi⟩; cases hi)
      rw [this]; rfl
    · have := (SlI.get hz1).1
      rw [this]
      have : yesTo ((PS.start T K n A).p 1) (n 1) = [] := yesTo_nil.2 (by rintro ⟨i, _, hi⟩; cases hi)
      rw [this]; rfl
theorem keep_still (T : Tal) : ∀ b, b < T.keep.n → T.keep.changed b = false := fun b _ => by simp [Tal.changed, Tal.keep]

theorem bools7 : (#[Value.bool false, Value.bool false, Value.bool false, Value.bool false, Value.bool false, Value.bool false, Value.bool false] : Array Value) = bools 7 (fun _ => false) := rfl
theorem mv_start {w wc w5 : World} {xs p t bc bk sb : Nat} {F : PS} {A1 : Nat → Nat → Nat} {g1 c1 g2 c2 : Nat → Nat} {n : Nat → Nat} {z0 z1 : Value}
    (top : wc.heap[xs]? = some (.cells #[.pointer (some ⟨t, 0, none⟩), .pointer (some ⟨p, 0, none⟩), .slice (some ⟨g1 0, 0, none⟩) (n 0) (c1 0), .slice (some ⟨g1 1, 0, none⟩) (n 1) (c1 1)] 69 (0, 0)))
    (sc : wc.heap[sb]? = some (.cells #[.slice (some ⟨g2 0, 0, none⟩) (n 0) (c2 0), .slice (some ⟨g2 1, 0, none⟩) (n 1) (c2 1)] 42 (0, 0)))
    (so : ShV wc (.slice (some ⟨g1 0, 0, none⟩) (n 0) (c1 0)) (.slice (some ⟨g1 1, 0, none⟩) (n 1) (c1 1)) A1 n g1 c1) (sv : ShV wc (.slice (some ⟨g2 0, 0, none⟩) (n 0) (c2 0)) (.slice (some ⟨g2 1, 0, none⟩) (n 1) (c2 1)) F.a n g2 c2)
    (pt : PT wc p t bc bk F.K F.T) (zl : SlI wc z0 (yesTo (F.p 0) (n 0))) (chg : Chg [] w wc) (C5 : Chg [] wc w5) :
    MvR w (w5.alloc (.cells #[.bool false, .bool false, .bool false, .bool false, .bool false, .bool false, .bool false] 73)) xs p t bc bk sb w5.heap.size F A1 g1 c1 g2 c2 n z0 z1 (mvTo (yesTo (F.p 0) (n 0)) 0) := by
  have C := C5.alloc (.cells #[.bool false, .bool false, .bool false, .bool false, .bool false, .bool false, .bool false] 73)
  have hb := new_block w5 (.cells #[.bool false, .bool false, .bool false, .bool false, .bool false, .bool false, .bool false] 73)
  rw [bools7] at hb
  rw [mvTo_zero]
  have l1 := heap_lt top
  have l2 := heap_lt sc
  have l3 := (so.cap (k := 0) (by omega)).2
  have l4 := (so.cap (k := 1) (by omega)).2
  have l5 := (sv.cap (k := 0) (by omega)).2
  have l6 := (sv.cap (k := 1) (by omega)).2
  have l7 := pt.hp.lt
  have l8 := pt.ht.lt0
  have l9 := pt.ht.lt1
  have l10 := pt.ht.lt2
  have sz := C5.size
  have s0 := chg.size
  obtain ⟨a, c', _, hl⟩ := zl.form
  exact ⟨(C.block _ l1 (by simp)).trans top, (C.block _ l2 (by simp)).trans sc, so.chg C (by simp) (by simp), sv.chg C (by simp) (by simp), pt.chg C (by simp) (by simp) (by simp) (by simp), zl.chg C (by simp), hb, chg.trans C, by simp; omega, fun b hb => by have := hl b hb; omega, by omega⟩

/-- The statement keeps the new sheet. -/
theorem sto_next {w9 : World} {xs p t bc bk : Nat} {F : PS} {g1 c1 g2 c2 : Nat → Nat} {n : Nat → Nat} {N : Nat}
    (top : w9.heap[xs]? = some (.cells #[.pointer (some ⟨t, 0, none⟩), .pointer (some ⟨p, 0, none⟩), .slice (some ⟨g1 0, 0, none⟩) (n 0) (c1 0), .slice (some ⟨g1 1, 0, none⟩) (n 1) (c1 1)] 69 (0, 0)))
    (pt : PT w9 p t bc bk F.K F.T.keep) (sv : ShV w9 (.slice (some ⟨g2 0, 0, none⟩) (n 0) (c2 0)) (.slice (some ⟨g2 1, 0, none⟩) (n 1) (c2 1)) F.a n g2 c2) (ho : Own F.T.keep n F.a) (hf : F.K.first = 2) (hn : F.T.keep.n = N)
    (nd : ∀ b, b ∈ [xs, g2 0, g2 1] → b ∉ [p, t, bc, bk]) (hx : g2 0 ≠ xs ∧ g2 1 ≠ xs) :
    StO ((w9.setCell ⟨xs, 2, none⟩ (.slice (some ⟨g2 0, 0, none⟩) (n 0) (c2 0))).setCell ⟨xs, 3, none⟩ (.slice (some ⟨g2 1, 0, none⟩) (n 1) (c2 1))) xs p t bc bk F.K F.T.keep g2 c2 F.a n N ∧
    Chg [xs] w9 ((w9.setCell ⟨xs, 2, none⟩ (.slice (some ⟨g2 0, 0, none⟩) (n 0) (c2 0))).setCell ⟨xs, 3, none⟩ (.slice (some ⟨g2 1, 0, none⟩) (n 1) (c2 1))) := by
  have C : Chg [xs] w9 ((w9.setCell ⟨xs, 2, none⟩ (.slice (some ⟨g2 0, 0, none⟩) (n 0) (c2 0))).setCell ⟨xs, 3, none⟩ (.slice (some ⟨g2 1, 0, none⟩) (n 1) (c2 1))) := ((Chg.refl _ _).setCell (.inl (by simp)) _).setCell (.inl (by simp)) _
  have hb := setCell_block (setCell_block top 2 (.slice (some ⟨g2 0, 0, none⟩) (n 0) (c2 0))) 3 (.slice (some ⟨g2 1, 0, none⟩) (n 1) (c2 1))
  have hxs := nd xs (by simp)
  simp only [List.mem_cons, List.not_mem_nil, or_false, not_or] at hxs
  obtain ⟨m1, m2, m3, m4⟩ := hxs
  have e : ∀ {k : Nat}, ¬ xs = k → k ∉ [xs] := fun {k} q => by simp; exact fun r => q r.symm
  exact ⟨⟨⟨hb, pt.chg C (e m1) (e m2) (e m3) (e m4), sv.chg C (by simp; exact hx.1) (by simp; exact hx.2), ho.ok, nd⟩, ho, hf, hn⟩, C⟩

end Go.Proofs.Ytnhabpbdpjgiiaa
