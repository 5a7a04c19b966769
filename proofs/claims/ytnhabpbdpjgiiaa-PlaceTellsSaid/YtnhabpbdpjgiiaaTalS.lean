/- tally.set, Up, Down, Free, Keep. -/
import Derived.Test.YtnhabpbdpjgiiaaTalW
import Derived.RegionTactic
import Derived.StillTailTactics
namespace Go.Proofs.Ytnhabpbdpjgiiaa
open Go.RowKit

/-- What set leaves, out of what its steps left. -/
theorem set_close {w w1 w4 : World} {t bc bk : Nat} {T : Tal} (h : TallyAt w t bc bk T) {b v : Nat} (hb : b < T.n) (hv : v ≤ 65535) {L : List Nat}
    (hc1 : Chg L w w1) (hL : ∀ i, i ∈ L → i = t)
    (ht2 : w1.heap[t]? = some (.cells #[.slice (some ⟨bc, 0, none⟩) T.n T.n, .map (some bk), .int .i64 ((T.frees : Int) + (if T.now b = 0 ∧ T.kept b = 0 then -1 else 0) + (if v = 0 ∧ T.kept b = 0 then 1 else 0)), .int .i64 ((T.waits : Int) + (if T.now b = 0 ∧ T.kept b ≠ 0 then -1 else 0) + (if v = 0 ∧ T.kept b ≠ 0 then 1 else 0))] 78 (0, 0)))
    (hm : KMap Try.prog 3 22 w4 bk T.n (T.set b v).keptAt) (hg : (w1.setCell ⟨bc, b, none⟩ (.int .u16 (v : Int))).grownBy w4 (some bk)) :
    TallyAt w4 t bc bk (T.set b v) ∧ Chg [t, bc, bk] w w4 := by
  have lt0 := h.lt0
  have lt1 := h.lt1
  have lt2 := h.lt2
  have n1 := h.ne
  have n2 := h.ne1
  have n3 := h.ne2
  have hcs : w1.heap[bc]? = some (.cells (u16s T.n T.now) 22 (0, 0)) := (hc1.block _ lt1 (fun hi => n1 (hL _ hi).symm)).trans h.cs
  have e1 : (T.frees : Int) + (if T.now b = 0 ∧ T.kept b = 0 then -1 else 0) + (if v = 0 ∧ T.kept b = 0 then 1 else 0) = ((T.set b v).frees : Int) := by
    have := frees_set T v hb
    by_cases q1 : T.now b = 0 <;> by_cases q2 : v = 0 <;> by_cases q3 : T.kept b = 0 <;> simp [Tal.free, Tal.set, q1, q2, q3] at this ⊢ <;> omega
  have e2 : (T.waits : Int) + (if T.now b = 0 ∧ T.kept b ≠ 0 then -1 else 0) + (if v = 0 ∧ T.kept b ≠ 0 then 1 else 0) = ((T.set b v).waits : Int) := by
    have := waits_set T v hb
    by_cases q1 : T.now b = 0 <;> by_cases q2 : v = 0 <;> by_cases q3 : T.kept b = 0 <;> simp [Tal.waitB, Tal.set, q1, q2, q3] at this ⊢ <;> omega
  rw [e1, e2] at ht2
  have s0 : t < w1.heap.size := heap_lt ht2
  have s1 : bc < w1.heap.size := heap_lt hcs
  have b0 : w4.heap[t]? = w1.heap[t]? := by
    rw [hg.block t (by simpa [World.setCell] using s0) (by simp [n2]), setCell_other _ _ n1]
  have b1 : w4.heap[bc]? = some (.cells ((u16s T.n T.now).setIfInBounds b (.int .u16 (v : Int))) 22 (0, 0)) := by
    rw [hg.block bc (by simpa [World.setCell] using s1) (by simp [n3]), setCell_block hcs]
  refine ⟨⟨h.n1, h.n2, ?_, h.kept, b0.trans ht2, ?_, hm, n1⟩, ?_⟩
  · intro i hi
    simp only [Tal.set]
    split
    · exact hv
    · exact h.now i hi
  · rw [b1, u16s_set hb]; rfl
  · refine Chg.then (L' := [bc, bk]) (hc1.mono (fun i hi => by rw [hL i hi]; simp)) ?_ (by simp)
    exact Chg.trans ((Chg.refl _ _).setCell (.inl (by simp)) _) (Chg.grown (Chg.refl _ _) hg (by simp))

set_option maxRecDepth 20000 in
set_option maxHeartbeats 1000000 in
theorem set_at {w : World} {t bc bk : Nat} {T : Tal} (h : TallyAt w t bc bk T) (b v : Nat) (hb : b < T.n) (hv : v ≤ 65535) :
    Calls Try.prog 39 #[.pointer (some ⟨t, 0, none⟩), .int .i64 (b : Int), .int .u16 (v : Int)] w fun e w' => e = .returned (.tuple #[]) ∧ TallyAt w' t bc bk (T.set b v) ∧ Chg [t, bc, bk] w w' := by
  have n2 := h.n2
  have fl := h.frees_le
  have wl := h.waits_le
  have lt0 := h.lt0
  have lt1 := h.lt1
  have lt2 := h.lt2
  have ne0 := h.ne
  have ne1 := h.ne1
  have ne2 := h.ne2
  have hkb := h.kept b hb
  have hnb := h.now b hb
  have c0 := h.c0
  have cc := h.cc hb
  have hA : TallyAt (w.alloc (.cells #[.pointer (some ⟨t, 0, none⟩)] 24)) t bc bk T := h.chg ((Chg.refl [] w).alloc _) (by simp) (by simp) (by simp)
  have hcW : Chg [] w ((w.alloc (.cells #[.pointer (some ⟨t, 0, none⟩)] 24)).alloc (.cells #[.int .u16 (T.kept b : Int)] 22)) := ((Chg.refl [] w).alloc _).alloc _
  have hB := h.chg hcW (by simp) (by simp) (by simp)
  have HB := Lib.hid hB.top
  have hm0 := hB.map
  clear hB
  have x0 := new_block21 w (.cells #[.pointer (some ⟨t, 0, none⟩)] 24) (.cells #[.int .u16 (T.kept b : Int)] 22)
  have x1 := new_block2 w (.cells #[.pointer (some ⟨t, 0, none⟩)] 24) (.cells #[.int .u16 (T.kept b : Int)] 22)
  have X0 := Lib.hid x0
  have X1 := Lib.hid x1
  clear x0 x1
  by_cases hvk : v = T.kept b
  all_goals
    have Hvk := Lib.hid hvk
    first
      | (have hd : ((v : Int) == (T.kept b : Int)) = true := by simp [hvk])
      | (have hd : ((v : Int) == (T.kept b : Int)) = false := by simp; omega)
    clear hvk
    go_enter Try.func39, Try.ntmps39
    go_wp2_with fail
    refine (was_at hA b hb).mono ?_
    rintro e w' ⟨rfl, rfl⟩
    clear hA
    go_wp2_with fail
    refine (by_any (k := T.kept b) (f := T.frees) (g := T.waits) (s := .slice (some ⟨bc, 0, none⟩) T.n T.n) (m := .map (some bk)) (cell_of_block X1.out 0) (cell_of_block X0.out 0) HB.out (by omega) (by omega) (by omega) (by omega) (by omega) (by omega)).mono ?_
    rintro e w1 ⟨rfl, ht1, hc1⟩
    have X01 := Lib.hid ((hc1.block _ (by simp; omega) (by simp; omega)).trans X0.out)
    have X11 := Lib.hid ((hc1.block _ (by simp) (by simp; omega)).trans X1.out)
    have HT1 := Lib.hid ht1
    clear ht1
    go_wp2_with fail
    refine (by_any (k := T.kept b) (s := .slice (some ⟨bc, 0, none⟩) T.n T.n) (m := .map (some bk)) (cell_of_block X11.out 0) (cell_of_block X01.out 0) HT1.out (by omega) (by omega) (by split <;> omega) (by split <;> omega) (by split <;> omega) (by split <;> omega)).mono ?_
    rintro e w2 ⟨rfl, ht2, hc2⟩
    have X02 := (hc2.block _ (Nat.lt_of_lt_of_le (by simp; omega) hc1.size) (by simp; omega)).trans X01.out
    have X12 := (hc2.block _ (Nat.lt_of_lt_of_le (by simp) hc1.size) (by simp; omega)).trans X11.out
    have hc := ((hcW.mono (L' := [t]) (by simp)).trans hc1).trans hc2
    clear hc1 hc2
    have y0 := cell_of_block X02 0
    have y1 := cell_of_block X12 0
    have y2 := cell_of_block ht2 0
    have y3 := cell_of_block ht2 1
    have y4 := (hc.cell (p := ⟨bc, b, none⟩) lt1 (by simp; omega)).trans cc
    have y5 := (hc.frozen (p := ⟨bc, b, none⟩) lt1 (by simp; omega)).trans (h.cfz b)
    simp only [List.getElem?_toArray, List.getElem?_cons_zero, List.getElem?_cons_succ] at y0 y1 y2 y3
    have b0 := heap_lt X02
    have b1 := heap_lt X12
    have Ht2 := Lib.hid ht2
    have Hc := Lib.hid hc
    clear X02 X12 ht2 hc hcW HB X0 X1 X01 X11 HT1 cc c0
    have hm3 : KMap Try.prog 3 22 (w2.setCell ⟨bc, b, none⟩ (.int .u16 (v : Int))) bk T.n T.keptAt :=
      h.map.same ((setCell_other _ _ ne2.symm).trans (Hc.out.block _ lt2 (by simp; omega)))
    clear hm0
  · obtain ⟨w4, hrun, hK, hturn⟩ := hm3.del (t := 76) Try.underlying3 Try.underlying76 hb n2 0
    go_wp2_with fail
    go_end0
    refine ⟨rfl, set_close h hb hv Hc.out (by simp) Ht2.out (hK.congr fun i _ => ?_) hturn.grown⟩
    simp only [Tal.keptAt, Tal.set]
    split
    · rename_i e; subst e; rw [if_pos Hvk.out]
    · rfl
  · obtain ⟨w4, hrun, hK, hturn⟩ := KMap.put (w := (w2.setCell ⟨bc, b, none⟩ (.int .u16 (v : Int))).drew) (t := 76) hm3 Try.underlying3 Try.underlying22 Try.underlying76 hb n2 hkb
    go_wp2_with fail
    go_region
    go_wp2_with fail
    go_end0
    have hg := hturn.grown
    refine ⟨rfl, set_close h hb hv Hc.out (by simp) Ht2.out (hK.congr fun i _ => ?_) ⟨hg.os, hg.tape, hg.output, hg.size, hg.block⟩⟩
    simp only [Tal.keptAt, Tal.set]
    split
    · rename_i e; subst e; rw [if_neg Hvk.out]
    · rfl
end Go.Proofs.Ytnhabpbdpjgiiaa
