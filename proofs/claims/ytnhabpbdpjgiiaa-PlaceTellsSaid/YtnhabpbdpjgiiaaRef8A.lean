/- The reference's tally: Add. -/
import Derived.Test.YtnhabpbdpjgiiaaRef8
import Derived.Deep.RegionLawGrows
import Derived.Deep.RegionHeld3
namespace Go.Proofs.Ytnhabpbdpjgiiaa
open Go.RowKit
set_option linter.unusedVariables false
set_option linter.unusedSimpArgs false

theorem RN.news {A : List Nat} {w W : World} {g cap n : Nat} {f : Nat → Nat} (h : ∀ i, i < n → w.cell? ⟨g, i, none⟩ = some (.int .i64 (f i : Int))) (hg : g < w.heap.size) (c : Chg [] w W) :
    ∀ j u, (List.map (fun i => Value.int .i64 (f i : Int)) (List.range n))[j]? = some u → W.cell? ((⟨g, 0, none⟩ : Addr).add j) = some u := by
  intro j u hj
  simp only [List.getElem?_map] at hj
  by_cases hlt : j < n
  · simp [hlt] at hj
    subst hj
    have e : (⟨g, 0, none⟩ : Addr).add j = ⟨g, j, none⟩ := by unfold Addr.add; split <;> simp_all
    rw [e]
    exact (c.cell (p := ⟨g, j, none⟩) hg (by simp)).trans (h j hlt)
  · simp [hlt] at hj

theorem app_some {w : World} {base e n : Nat} {v : Value} {xs : List Value} (h : w.ownsRow base e 1 v (0 + n) ([] ++ xs)) (hn : 0 < n) :
    ∃ g cap cur, v = .slice (some ⟨g, 0, none⟩) n cap ∧ base ≤ g ∧ w.heap[g]? = some (.cells cur e (0, 0)) ∧ n ≤ cap ∧ cap ≤ maxLen ∧ cur.size = cap * 1 ∧ cur.toList.take n = xs := by
  rcases h.2 with ⟨_, h0⟩ | ⟨g, cap, cur, h1, h2, h3, h4, h5, h6, h7⟩
  · omega
  · refine ⟨g, cap, cur, ?_, h2, h3, ?_, h5, h6, ?_⟩
    · rw [h1, Nat.zero_add]
    · omega
    · simpa using h7
theorem grow_cell {w w' : World} (h : w.grownBy w' none) : ∀ k o, k < w.heap.size → w'.cell? ⟨k, o, none⟩ = w.cell? ⟨k, o, none⟩ := fun k o hk => World.cell?_of_block (h.block k hk (by simp))
theorem grow_frozen {w w' : World} (h : w.grownBy w' none) : ∀ k o, k < w.heap.size → w'.frozen? ⟨k, o, none⟩ = w.frozen? ⟨k, o, none⟩ := fun k o hk => World.frozen?_of_block (h.block k hk (by simp))
theorem keep2 {w : World} {b o B : Nat} {x y v : Value} (h : w.cell? ⟨b, o, none⟩ = some v) (hb : b ≠ B) : ((w.setCell ⟨B, 0, none⟩ x).setCell ⟨B, 1, none⟩ y).cell? ⟨b, o, none⟩ = some v := by
  rw [World.cell?_setCell_other _ _ _ _ (by simp [hb]), World.cell?_setCell_other _ _ _ _ (by simp [hb])]
  exact h
structure AddMid (w W : World) (B g : Nat) (cur : Array Value) (x v2 : Value) : Prop where
  hB : W.heap[B]? = some (.cells #[x, v2] 33 (0, 0))
  hg : W.heap[g]? = some (.cells cur 3 (0, 0))
  hr : W.heap[w.heap.size + 1]? = some (.cells #[.slice none 0 0, .slice none 0 0] 33 (0, 0))
  b1 : w.heap.size + 2 ≤ B
  b2 : w.heap.size + 2 ≤ g
  ne : B ≠ g
  hc : Chg [] w W

theorem mid1 {w w2 wk w' : World} {o0 : Obj} {g : Nat} {cur : Array Value} {x v2 : Value} (e2 : w2 = (w.alloc o0).alloc (.cells #[.slice none 0 0, .slice none 0 0] 33)) (hk : Chg [] w2 wk) (hgrow : wk.grownBy w' none)
    (hg : w'.heap[g]? = some (.cells cur 3 (0, 0))) (hge : w.heap.size + 2 ≤ g) :
    AddMid w (w'.alloc (.cells #[x, v2] 33)) w'.heap.size g cur x v2 := by
  subst e2
  have hc1 : Chg [] ((w.alloc o0).alloc (.cells #[.slice none 0 0, .slice none 0 0] 33)) w' := hk.grown hgrow (by simp)
  have hs := hc1.size
  simp only [size_alloc'] at hs
  have hl := heap_lt hg
  refine ⟨new_block _ _, (Below.heap_alloc _ _ _ hl).trans hg, ?_, by omega, hge, by omega, ((((Chg.refl _ _).alloc _).alloc _).trans hc1).alloc _⟩
  rw [Below.heap_alloc _ _ _ (by omega)]
  exact (hc1.block _ (by simp) (by simp)).trans (new_block2 _ _ _)
theorem mid2 {w w2 wk w' : World} {o0 : Obj} {B g : Nat} {cur : Array Value} {x v2 : Value} (e2 : w2 = (w.alloc o0).alloc (.cells #[.slice none 0 0, .slice none 0 0] 33)) (hk : Chg [] w2 wk) (hgrow : wk.grownBy w' none)
    (hg : w'.heap[g]? = some (.cells cur 3 (0, 0))) (hge : wk.heap.size ≤ g) (hB : wk.heap[B]? = some (.cells #[.slice none 0 0, .slice none 0 0] 33 (0, 0))) (hBw : w.heap.size + 2 ≤ B) :
    AddMid w ((w'.setCell ⟨B, 0, none⟩ x).setCell ⟨B, 1, none⟩ v2) B g cur x v2 := by
  subst e2
  have hc1 : Chg [] ((w.alloc o0).alloc (.cells #[.slice none 0 0, .slice none 0 0] 33)) w' := hk.grown hgrow (by simp)
  have hs := hk.size
  simp only [size_alloc'] at hs
  have hl := heap_lt hg
  have hlB := heap_lt hB
  have hB' := (hgrow.block B hlB (by simp)).trans hB
  refine ⟨?_, ?_, ?_, hBw, by omega, by omega, ?_⟩
  · rw [setCell_block (setCell_block hB' 0 x) 1 v2]; rfl
  · rw [setCell_other _ _ (by omega), setCell_other _ _ (by omega)]; exact hg
  · rw [setCell_other _ _ (by omega), setCell_other _ _ (by omega)]
    exact (hc1.block _ (by simp) (by simp)).trans (new_block2 _ _ _)
  · exact ((((((Chg.refl _ _).alloc _).alloc _).trans hc1).setCell (.inr (by show w.heap.size ≤ B; omega)) _).setCell (.inr (by show w.heap.size ≤ B; omega)) _)
theorem take_get {cur : Array Value} {n b : Nat} {f : Nat → Nat} (h : cur.toList.take n = (List.range n).map fun i => .int .i64 (f i : Int)) (hb : b < n) : cur[b]? = some (.int .i64 (f b : Int)) := by
  have := congrArg (fun l => l[b]?) h
  simp only [List.getElem?_take, if_pos hb, List.getElem?_map, List.getElem?_range hb, Option.map_some, Array.getElem?_toList] at this
  exact this
theorem nb2 (w : World) (o0 r o o' : Obj) : ((((w.alloc o0).alloc r).alloc o).alloc o').heap[w.heap.size + 1 + 1 + 1]? = some o' := by
  have := new_block2 ((w.alloc o0).alloc r) o o'
  simpa only [size_alloc'] using this
theorem nb21 (w : World) (o0 r o o' : Obj) : ((((w.alloc o0).alloc r).alloc o).alloc o').heap[w.heap.size + 1 + 1]? = some o := by
  have := new_block21 ((w.alloc o0).alloc r) o o'
  simpa only [size_alloc'] using this
theorem drew_heap (w : World) : w.drew.heap = w.heap := rfl

theorem add_end {A : List Nat} {w W : World} {v1 v2 : Value} {T : Tal} {B g b cap : Nat} {x : Value} {cur : Array Value} {v : Nat} {y z : Value} (h : RefT A w v1 v2 T) (hA : ∀ k, k ∈ A → k < w.heap.size)
    (M : AddMid w W B g cur x v2) (hv : v ≤ 65535) (hcap : T.n ≤ cap) (hm : cap ≤ maxLen) (hcs : cur.size = cap * 1) (hcur : cur.toList.take T.n = (List.range T.n).map fun i => .int .i64 (T.now i : Int)) :
    RefT A (((W.setCell ⟨g, b, none⟩ (.int .i64 (v : Int))).setCell ⟨w.heap.size + 1, 0, none⟩ y).setCell ⟨w.heap.size + 1, 1, none⟩ z) (.slice (some ⟨g, 0, none⟩) T.n cap) v2 (T.set b v) ∧
      Chg [] w (((W.setCell ⟨g, b, none⟩ (.int .i64 (v : Int))).setCell ⟨w.heap.size + 1, 0, none⟩ y).setCell ⟨w.heap.size + 1, 1, none⟩ z) := by
  have b1 := M.b1
  have b2 := M.b2
  have hC : Chg [] w (((W.setCell ⟨g, b, none⟩ (.int .i64 (v : Int))).setCell ⟨w.heap.size + 1, 0, none⟩ y).setCell ⟨w.heap.size + 1, 1, none⟩ z) :=
    ((M.hc.setCell (.inr (by show w.heap.size ≤ g; omega)) _).setCell (.inr (by show w.heap.size ≤ w.heap.size + 1; omega)) _).setCell (.inr (by show w.heap.size ≤ w.heap.size + 1; omega)) _
  have h' := h.chg hC (by simp)
  have hg : (((W.setCell ⟨g, b, none⟩ (.int .i64 (v : Int))).setCell ⟨w.heap.size + 1, 0, none⟩ y).setCell ⟨w.heap.size + 1, 1, none⟩ z).heap[g]? = some (.cells (cur.setIfInBounds b (.int .i64 (v : Int))) 3 (0, 0)) := by
    rw [setCell_other _ _ (by omega), setCell_other _ _ (by omega), setCell_block M.hg]
  refine ⟨⟨h.n1, h.n2, ?_, h.b2, ?_, h'.kept⟩, hC⟩
  · intro i hi
    simp only [Tal.set]
    split
    · exact hv
    · exact h.b1 i hi
  · refine ⟨g, cap, rfl, hcap, hm, heap_lt hg, fun hm => by have := hA g hm; omega, fun i hi => ?_⟩
    have hi' : i < T.n := hi
    rw [cell_of_block hg, Array.getElem?_setIfInBounds]
    simp only [Tal.set]
    by_cases e : b = i
    · subst e
      rw [if_pos rfl, if_pos rfl, if_pos (by omega)]
    · rw [if_neg e, if_neg (fun q => e q.symm)]
      have := congrArg (fun l => l[i]?) hcur
      simp only [List.getElem?_take, if_pos hi', List.getElem?_map, List.getElem?_range hi', Option.map_some, Array.getElem?_toList] at this
      exact this

set_option maxRecDepth 20000 in
set_option maxHeartbeats 4000000 in
theorem r8add_yes {A : List Nat} {w : World} {v1 v2 : Value} {T : Tal} (h : RefT A w v1 v2 T) (hA : ∀ k, k ∈ A → k < w.heap.size) (b : Nat) (by' : Int) (hb : b < T.n) (hb1 : by' = 1 ∨ by' = -1) (h0 : 0 ≤ (T.now b : Int) + by') (h1 : (T.now b : Int) + by' ≤ 65535) :
    Calls Try.prog 16 #[.agg #[v1, v2], .int .i64 (b : Int), .int .i64 by'] w fun e w' => ∃ u1, e = .returned (.tuple #[.agg #[u1, v2], .int .i64 0]) ∧ RefT A w' u1 v2 (T.set b ((T.now b : Int) + by').toNat) ∧ Chg [] w w' := by
  have n1 := h.n1
  have n2 := h.n2
  have HR := Lib.hid h
  obtain ⟨g1, c1, rfl, a1, a2, a3, a4, a5⟩ := h.now
  obtain ⟨g2, c2, rfl, d1, d2, d3, d4, d5⟩ := h.kept
  have cb := a5 b hb
  have cb1 : ((w.alloc (.cells #[.slice (some ⟨g1, 0, none⟩) T.n c1, .slice (some ⟨g2, 0, none⟩) T.n c2] 33)).alloc (.cells #[.slice none 0 0, .slice none 0 0] 33)).cell? ⟨g1, b, none⟩ = some (.int .i64 (T.now b : Int)) :=
    ((((Chg.refl [] w).alloc _).alloc _).cell (p := ⟨g1, b, none⟩) a3 (by simp)).trans cb
  obtain ⟨i0, hi, hz0, hz1, hz2⟩ := info_parts infoInt8
  have HN := Lib.hid (fun W c => RN.news (W := W) (A := A) (cap := c1) a5 a3 c)
  have Hi := Lib.hid hi
  clear a5 d5 h cb
  obtain ⟨v, hv⟩ := Int.eq_ofNat_of_zero_le h0
  have hvb : v ≤ 65535 := by omega
  have Hv := Lib.hid hv
  clear hv
  go_enter Try.func16, Try.ntmps16
  go_wp2_with fail
  go_region_held3 (fun w' => w'.cell? ⟨w.heap.size, 0, none⟩ = some (.slice (some ⟨g1, 0, none⟩) T.n c1) ∧ w'.cell? ⟨w.heap.size, 1, none⟩ = some (.slice (some ⟨g2, 0, none⟩) T.n c2)) (first | go_keep | exact ⟨keep2 (by assumption) (by omega), keep2 (by assumption) (by omega)⟩)
    ((refine step_append_grows rfl (.tmp 33) (.tmp 35) 31 rfl 3 i0 (.int .i64 0) 1 8 Try.underlying31 Hi.out hz0 hz1 hz2 rfl (by decide) _ 0 0 [] (by simp [Act.eval, Act.put]; rfl) (by simp) rfl (by simp) ⟨g1, 0, none⟩ T.n c1 ((List.range T.n).map fun i => .int .i64 (T.now i : Int)) (by simp [Act.eval, Act.put]) (by simp) (HN.out _ (by repeat (first | exact Chg.refl _ _ | apply Chg.drew | apply Chg.alloc))) (by intro u hu; obtain ⟨a, _, rfl⟩ := List.mem_map.1 hu; rfl) (by omega) (by unfold maxLen; omega) (by omega) ?_; intro v' w' hown hgrow; obtain ⟨g, cap, cur, rfl, hg1, hg2, hg3, hg4, hg5, hg6⟩ := app_some hown (by omega); have hcl := grow_cell hgrow; have hfr := grow_frozen hgrow; have hsz := hgrow.size; simp only [drew_heap, size_alloc'] at hsz hg1; have z0 : w.heap.size < w'.heap.size := (by omega); have z1 : w.heap.size + 1 < w'.heap.size := (by omega); have hx0 : w'.cell? ⟨w.heap.size, 0, none⟩ = some (.slice (some ⟨g1, 0, none⟩) T.n c1) := (hcl _ _ (by simp only [drew_heap, size_alloc']; omega)).trans (by go_simp); have hx1 : w'.cell? ⟨w.heap.size, 1, none⟩ = some (.slice (some ⟨g2, 0, none⟩) T.n c2) := (hcl _ _ (by simp only [drew_heap, size_alloc']; omega)).trans (by go_simp); have HG := Lib.hid (And.intro hgrow hown); clear hgrow hown))
  · have M := mid1 (w := w) (x := .slice (some ⟨g, 0, none⟩) T.n cap) (v2 := .slice (some ⟨g2, 0, none⟩) T.n c2) rfl (by repeat (first | exact Chg.refl _ _ | apply Chg.drew | apply Chg.alloc)) HG.out.1 hg2 (by omega)
    generalize w'.alloc (.cells #[.slice (some ⟨g, 0, none⟩) T.n cap, .slice (some ⟨g2, 0, none⟩) T.n c2] 33) = W at M ⊢
    have q0 := cell_of_block M.hB 0
    have q1 := cell_of_block M.hB 1
    have r0 := cell_of_block M.hr 0
    have r1 := cell_of_block M.hr 1
    have f0 := frozen_of_block M.hr 0
    have f1 := frozen_of_block M.hr 1
    have fg := frozen_of_block M.hg b
    have cg := (cell_of_block M.hg b).trans (take_get hg6 hb)
    have mb1 := M.b1
    have mb2 := M.b2
    have mne := M.ne
    have mne2 := M.ne.symm
    have mne3 : ¬ g = w.heap.size + 1 := by omega
    have mne4 : ¬ w.heap.size + 1 = g := by omega
    have HM := Lib.hid M
    simp only [List.getElem?_toArray, List.getElem?_cons_zero, List.getElem?_cons_succ] at q0 q1 r0 r1
    have E := Lib.hid (add_end (b := b) (y := .slice (some ⟨g, 0, none⟩) T.n cap) (z := .slice (some ⟨g2, 0, none⟩) T.n c2) HR.out hA M hvb hg3 hg4 hg5 hg6)
    clear M hcl hfr hx0 hx1 hg6 hg2 HG
    go_wp2_with fail
    exact bodyPost_ret (v := .tuple #[.agg #[.slice (some ⟨g, 0, none⟩) T.n cap, .slice (some ⟨g2, 0, none⟩) T.n c2], .int .i64 0]) (by simp [results, Try.results16, go_sem, r0, r1, mne3, mne4]) rfl
      ⟨_, rfl, by rw [Hv.out, Int.toNat_natCast]; exact E.out.1, by rw [Hv.out]; exact E.out.2⟩
  · have M := mid2 (w := w) (x := .slice (some ⟨g, 0, none⟩) T.n cap) (v2 := .slice (some ⟨g2, 0, none⟩) T.n c2) rfl (by repeat (first | exact Chg.refl _ _ | apply Chg.drew | apply Chg.alloc)) HG.out.1 hg2 (by simp only [drew_heap, size_alloc']; omega) (nb2 _ _ _ _ _) (by omega)
    generalize (w'.setCell _ _).setCell _ _ = W at M ⊢
    have q0 := cell_of_block M.hB 0
    have q1 := cell_of_block M.hB 1
    have r0 := cell_of_block M.hr 0
    have r1 := cell_of_block M.hr 1
    have f0 := frozen_of_block M.hr 0
    have f1 := frozen_of_block M.hr 1
    have fg := frozen_of_block M.hg b
    have cg := (cell_of_block M.hg b).trans (take_get hg6 hb)
    have mb1 := M.b1
    have mb2 := M.b2
    have mne := M.ne
    have mne2 := M.ne.symm
    have mne3 : ¬ g = w.heap.size + 1 := by omega
    have mne4 : ¬ w.heap.size + 1 = g := by omega
    have HM := Lib.hid M
    simp only [List.getElem?_toArray, List.getElem?_cons_zero, List.getElem?_cons_succ] at q0 q1 r0 r1
    have E := Lib.hid (add_end (b := b) (y := .slice (some ⟨g, 0, none⟩) T.n cap) (z := .slice (some ⟨g2, 0, none⟩) T.n c2) HR.out hA M hvb hg3 hg4 hg5 hg6)
    clear M hcl hfr hx0 hx1 hg6 hg2 HG
    go_wp2_with fail
    exact bodyPost_ret (v := .tuple #[.agg #[.slice (some ⟨g, 0, none⟩) T.n cap, .slice (some ⟨g2, 0, none⟩) T.n c2], .int .i64 0]) (by simp [results, Try.results16, go_sem, r0, r1, mne3, mne4]) rfl
      ⟨_, rfl, by rw [Hv.out, Int.toNat_natCast]; exact E.out.1, by rw [Hv.out]; exact E.out.2⟩
  · have M := mid2 (w := w) (x := .slice (some ⟨g, 0, none⟩) T.n cap) (v2 := .slice (some ⟨g2, 0, none⟩) T.n c2) rfl (by repeat (first | exact Chg.refl _ _ | apply Chg.drew | apply Chg.alloc)) HG.out.1 hg2 (by simp only [drew_heap, size_alloc']; omega) (nb21 _ _ _ _ _) (by omega)
    generalize (w'.setCell _ _).setCell _ _ = W at M ⊢
    have q0 := cell_of_block M.hB 0
    have q1 := cell_of_block M.hB 1
    have r0 := cell_of_block M.hr 0
    have r1 := cell_of_block M.hr 1
    have f0 := frozen_of_block M.hr 0
    have f1 := frozen_of_block M.hr 1
    have fg := frozen_of_block M.hg b
    have cg := (cell_of_block M.hg b).trans (take_get hg6 hb)
    have mb1 := M.b1
    have mb2 := M.b2
    have mne := M.ne
    have mne2 := M.ne.symm
    have mne3 : ¬ g = w.heap.size + 1 := by omega
    have mne4 : ¬ w.heap.size + 1 = g := by omega
    have HM := Lib.hid M
    simp only [List.getElem?_toArray, List.getElem?_cons_zero, List.getElem?_cons_succ] at q0 q1 r0 r1
    have E := Lib.hid (add_end (b := b) (y := .slice (some ⟨g, 0, none⟩) T.n cap) (z := .slice (some ⟨g2, 0, none⟩) T.n c2) HR.out hA M hvb hg3 hg4 hg5 hg6)
    clear M hcl hfr hx0 hx1 hg6 hg2 HG
    go_wp2_with fail
    exact bodyPost_ret (v := .tuple #[.agg #[.slice (some ⟨g, 0, none⟩) T.n cap, .slice (some ⟨g2, 0, none⟩) T.n c2], .int .i64 0]) (by simp [results, Try.results16, go_sem, r0, r1, mne3, mne4]) rfl
      ⟨_, rfl, by rw [Hv.out, Int.toNat_natCast]; exact E.out.1, by rw [Hv.out]; exact E.out.2⟩

end Go.Proofs.Ytnhabpbdpjgiiaa
