/- What a code asks for, done: the functions of model.deeds. (Printed by mkmo.py.) -/
import Derived.Test.YtbejcmbdaoakbaaMdP
namespace Go.Proofs.Ytbejcmbdaoakbaa
open Go.RowKit Go.Maps
set_option linter.unusedVariables false
set_option linter.unusedSimpArgs false

def opV (code vol pl n : Nat) (d : Value) : Value := .agg #[.int .u8 (code : Int), .int .u64 (vol : Int), .int .u64 (pl : Int), .int .u64 (n : Int), d]
def repV (err vol : Nat) (d : Value) (cnt : Nat) : Value := .agg #[.int .i64 (err : Int), .int .u64 (vol : Int), d, .int .i64 (cnt : Int)]
/-- A reply. -/
structure Rep where
  err : Nat
  vol : Nat
  n : Nat
  f : Nat → Nat
  cnt : Nat
def Rep.none : Rep := ⟨0, 0, 0, fun _ => 0, 0⟩

/-- An operation was done: the model is S' now, the reply R; the reply's bytes are nobody else's. -/
def Done (N : Nat) (L : List Nat) (w : World) (p : Nat) (S' : St) (R : Rep) (e : Ending) (w' : World) : Prop :=
  ∃ L' a cap, e = .returned (repV R.err R.vol (.slice a R.n cap) R.cnt) ∧ MdAt (N + 1) L' w' p S' ∧ (∀ b, b ∈ L' → b ∈ L ∨ w.heap.size ≤ b) ∧ BytesIn w' a R.n cap R.f ∧
    (∀ b, a = some b → w.heap.size ≤ b.block ∧ b.block ∉ L') ∧ Chg L w w'

theorem bytes_none {w : World} : BytesIn w none 0 0 (fun _ => 0) := ⟨Nat.le_refl _, by unfold maxLen; omega, fun _ => ⟨rfl, rfl⟩, fun b h => by cases h⟩

noncomputable def St.made (S : St) (Dv : VD) : St := ⟨S.size, S.last + 1, if (S.vols (kU (S.last + 1))).isSome then S.cnt else S.cnt + 1, upd S.vols (kU (S.last + 1)) (some Dv)⟩
noncomputable def St.drop (S : St) (v : Nat) : St := ⟨S.size, S.last, if (S.vols (kU v)).isSome then S.cnt - 1 else S.cnt, upd S.vols (kU v) none⟩
noncomputable def St.setVol (S : St) (v : Nat) (Dv : VD) : St := ⟨S.size, S.last, S.cnt, upd S.vols (kU v) (some Dv)⟩

/-- A reply was stored. -/
theorem rep_store {w : World} {g : Nat} {c0 c1 c2 c3 : Value} (h : w.heap[g]? = some (.cells #[c0, c1, c2, c3] 32 (0, 0))) (v0 v1 v2 v3 : Value) :
    ((((w.setCell ⟨g, 0, none⟩ v0).setCell ⟨g, 1, none⟩ v1).setCell ⟨g, 2, none⟩ v2).setCell ⟨g, 3, none⟩ v3).heap[g]? = some (.cells #[v0, v1, v2, v3] 32 (0, 0)) ∧
      Chg [g] w ((((w.setCell ⟨g, 0, none⟩ v0).setCell ⟨g, 1, none⟩ v1).setCell ⟨g, 2, none⟩ v2).setCell ⟨g, 3, none⟩ v3) :=
  ⟨setCell_block (setCell_block (setCell_block (setCell_block h 0 v0) 1 v1) 2 v2) 3 v3, ((((Chg.refl [g] w).setCell (.inl (by simp)) _).setCell (.inl (by simp)) _).setCell (.inl (by simp)) _).setCell (.inl (by simp)) _⟩

/-! ### made -/

set_option maxRecDepth 20000 in
set_option maxHeartbeats 4000000 in
theorem made_pt {N : Nat} {L : List Nat} {w : World} {p b mb : Nat} {S : St} {D : DataW Nat} {C : Nat → VD} {Dv : VD} (hp : w.heap[p]? = some (.cells (mdRow S mb) 64 (0, 0))) (M : MdPt N L w p mb S D C) (hN : N ≤ 1000000) (hV : OwnV w b (N + 1) Dv) (hb : b ∉ L) (hl : S.last + 1 < 18446744073709551616) :
    Calls Try.prog 48 #[.pointer (some ⟨p, 0, none⟩), .map (some b)] w fun e w' => e = .returned (repV 0 (S.last + 1) (.slice none 0 0) 0) ∧ w'.heap[p]? = some (.cells (mdRow (S.made Dv) mb) 64 (0, 0)) ∧ MdPt (N + 1) (b :: L) w' p mb (S.made Dv) (D.put (kU (S.last + 1)) (.held b)) (fun x => if x = b then Dv else C x) ∧ Chg L w w' := by
  unfold mdRow at hp
  have lp := heap_lt hp
  have lb := hV.lt
  have lm := M.own.lt
  have hmp := ownsMap_ne_cells M.own hp
  have HM := Lib.hid M
  have HV := Lib.hid hV
  have HP := Lib.hid hp
  have HB := Lib.hid hb
  have HKY := Lib.hid (show keyOf Try.prog 23 (.int .u64 ((S.last : Int) + 1)) = some (kU (S.last + 1)) from kU_key hl)
  have HLB := Lib.hid hl
  have HNN := Lib.hid (show N < maxLen by unfold maxLen; omega)
  have HPM := Lib.hid (show p ≠ mb from fun e => hmp e.symm)
  have x0 := cell_of_block hp 0
  have x1 := cell_of_block hp 1
  have x2 := cell_of_block hp 2
  simp only [List.getElem?_toArray, List.getElem?_cons_zero, List.getElem?_cons_succ] at x0 x1 x2
  have E1 : IntKind.u64.wrap ((S.last : Int) + 1) = (S.last : Int) + 1 := by rw [IntKind.wrap_u64]; omega
  have qf := frozen_of_block hp 1
  clear hp M hV hb hl hmp
  go_enter Try.func48, Try.ntmps48
  go_upto_region 2 with fail
  have hs := setCell_block HP.out 1 (.int .u64 ((S.last : Int) + 1))
  have hP1 := (Below.heap_alloc (w.setCell ⟨p, 1, none⟩ (.int .u64 ((S.last : Int) + 1))) (.cells #[.int .i64 0, .int .u64 0, .slice none 0 0, .int .i64 0] 32) p (by rw [size_setCell']; exact lp)).trans hs
  have hR1 := new_block (w.setCell ⟨p, 1, none⟩ (.int .u64 ((S.last : Int) + 1))) (.cells #[.int .i64 0, .int .u64 0, .slice none 0 0, .int .i64 0] 32)
  rw [size_setCell'] at hR1
  have hC1 : Chg [p] w ((w.setCell ⟨p, 1, none⟩ (.int .u64 ((S.last : Int) + 1))).alloc (.cells #[.int .i64 0, .int .u64 0, .slice none 0 0, .int .i64 0] 32)) := ((Chg.refl [p] w).setCell (.inl (by simp)) _).alloc _
  generalize (w.setCell ⟨p, 1, none⟩ (.int .u64 ((S.last : Int) + 1))).alloc (.cells #[.int .i64 0, .int .u64 0, .slice none 0 0, .int .i64 0] 32) = W at *
  rw [show (#[.int .u64 (S.size : Int), .int .u64 (S.last : Int), .map (some mb)] : Array Value).setIfInBounds 1 (.int .u64 ((S.last : Int) + 1)) = #[.int .u64 (S.size : Int), .int .u64 ((S.last : Int) + 1), .map (some mb)] from rfl] at hP1
  have HO1 := Lib.hid (own_chg HM.out.own hC1 (by simp; exact fun e => HPM.out e.symm))
  have lp1 := heap_lt hP1
  clear x0 x1 x2 qf hs E1
  have y0 := cell_of_block hP1 0
  have y1 := cell_of_block hP1 1
  have y2 := cell_of_block hP1 2
  simp only [List.getElem?_toArray, List.getElem?_cons_zero, List.getElem?_cons_succ] at y0 y1 y2
  have HP1 := Lib.hid hP1
  have HR1 := Lib.hid hR1
  have HC1 := Lib.hid hC1
  clear hP1 hR1 hC1 lp lb lm
  refine wp_region_held_drew (S := fun W' => W'.cell? ⟨p, 1, none⟩ = some (.int .u64 ((S.last : Int) + 1)) ∧ W'.cell? ⟨p, 2, none⟩ = some (.map (some mb))) (by kernel_rfl) (by exact ⟨y1, y2⟩) (fun hHeld => ?_)
  refine wpAnyH_take (i := 0) (oi := ?_) (v := ?_) ?_ (by kernel_rfl) (by kernel_rfl) (by kernel_rfl) ?_ (Or.inl ⟨?_, ?_⟩) hHeld ?_
  rotate_left 2
  · (simp only [List.getElem?_toArray, List.getElem?_cons_succ, List.getElem?_cons_zero]; rfl)
  · exact fun _ _ _ h => h
  · rfl
  · (rintro W ⟨s1, s2⟩; go_simp; first | done | with_reducible rfl)
  try simp only [Act.put, List.setIfInBounds_toArray, List.set_cons_zero, List.set_cons_succ]
  refine wpAnyH_take (i := 1) (oi := ?_) (v := ?_) ?_ (by kernel_rfl) (by kernel_rfl) (by kernel_rfl) ?_ (Or.inl ⟨?_, ?_⟩) hHeld ?_
  rotate_left 2
  · (simp only [List.getElem?_toArray, List.getElem?_cons_succ, List.getElem?_cons_zero]; rfl)
  · exact fun _ _ _ h => h
  · rfl
  · (rintro W ⟨s1, s2⟩; go_simp; first | done | with_reducible rfl)
  try simp only [Act.put, List.setIfInBounds_toArray, List.set_cons_zero, List.set_cons_succ]
  refine wpAnyH_take (i := 2) (oi := ?_) (v := ?_) ?_ (by kernel_rfl) (by kernel_rfl) (by kernel_rfl) ?_ (Or.inl ⟨?_, ?_⟩) hHeld ?_
  rotate_left 2
  · (simp only [List.getElem?_toArray, List.getElem?_cons_succ, List.getElem?_cons_zero]; rfl)
  · exact fun _ _ _ h => h
  · rfl
  · (rintro W ⟨s1, s2⟩; go_simp; first | done | with_reducible rfl)
  try simp only [Act.put, List.setIfInBounds_toArray, List.set_cons_zero, List.set_cons_succ]
  refine wpAnyH_take (i := 3) (oi := ?_) (v := ?_) ?_ (by kernel_rfl) (by kernel_rfl) (by kernel_rfl) ?_ (Or.inl ⟨?_, ?_⟩) hHeld ?_
  rotate_left 2
  · (simp only [List.getElem?_toArray, List.getElem?_cons_succ, List.getElem?_cons_zero]; rfl)
  · exact fun _ _ _ h => h
  · rfl
  · (rintro W ⟨s1, s2⟩; go_simp; first | done | with_reducible rfl)
  try simp only [Act.put, List.setIfInBounds_toArray, List.set_cons_zero, List.set_cons_succ]
  refine wpAnyH_take (i := 4) (oi := ?_) (v := ?_) ?_ (by kernel_rfl) (by kernel_rfl) (by kernel_rfl) ?_ (Or.inl ⟨?_, ?_⟩) hHeld ?_
  rotate_left 2
  · (simp only [List.getElem?_toArray, List.getElem?_cons_succ, List.getElem?_cons_zero]; rfl)
  · exact fun _ _ _ h => h
  · rfl
  · (rintro W ⟨s1, s2⟩; go_simp; first | done | with_reducible rfl)
  try simp only [Act.put, List.setIfInBounds_toArray, List.set_cons_zero, List.set_cons_succ]
  refine wpAnyH_take (i := 5) (oi := ?_) (v := ?_) ?_ (by kernel_rfl) (by kernel_rfl) (by kernel_rfl) ?_ (Or.inl ⟨?_, ?_⟩) hHeld ?_
  rotate_left 2
  · (simp only [List.getElem?_toArray, List.getElem?_cons_succ, List.getElem?_cons_zero]; rfl)
  · exact fun _ _ _ h => h
  · rfl
  · (rintro W ⟨s1, s2⟩; go_simp; first | done | with_reducible rfl)
  try simp only [Act.put, List.setIfInBounds_toArray, List.set_cons_zero, List.set_cons_succ]
  refine wpAnyH_take (i := 6) (oi := ?_) (v := ?_) ?_ (by kernel_rfl) (by kernel_rfl) (by kernel_rfl) ?_ (Or.inl ⟨?_, ?_⟩) hHeld ?_
  rotate_left 2
  · (simp only [List.getElem?_toArray, List.getElem?_cons_succ, List.getElem?_cons_zero]; rfl)
  · exact fun _ _ _ h => h
  · rfl
  · (rintro W ⟨s1, s2⟩; go_simp; first | done | with_reducible rfl)
  try simp only [Act.put, List.setIfInBounds_toArray, List.set_cons_zero, List.set_cons_succ]
  refine wpAnyH_take (i := 7) (oi := ?_) (v := ?_) ?_ (by kernel_rfl) (by kernel_rfl) (by kernel_rfl) ?_ (Or.inl ⟨?_, ?_⟩) hHeld ?_
  rotate_left 2
  · (simp only [List.getElem?_toArray, List.getElem?_cons_succ, List.getElem?_cons_zero]; rfl)
  · exact fun _ _ _ h => h
  · rfl
  · (rintro W ⟨s1, s2⟩; go_simp; first | done | with_reducible rfl)
  try simp only [Act.put, List.setIfInBounds_toArray, List.set_cons_zero, List.set_cons_succ]
  refine wpAnyH_take (i := 8) (oi := ?_) (v := ?_) ?_ (by kernel_rfl) (by kernel_rfl) (by kernel_rfl) ?_ (Or.inl ⟨?_, ?_⟩) hHeld ?_
  rotate_left 2
  · (simp only [List.getElem?_toArray, List.getElem?_cons_succ, List.getElem?_cons_zero]; rfl)
  · exact fun _ _ _ h => h
  · rfl
  · (rintro W ⟨s1, s2⟩; go_simp; first | done | with_reducible rfl)
  try simp only [Act.put, List.setIfInBounds_toArray, List.set_cons_zero, List.set_cons_succ]
  refine wpAnyH_ready (rs := [9]) (by kernel_rfl) (by simp) ?_
  refine AllReadyH.cons (o := ?_) ?_ (fun K hK => ?_) AllReadyH.nil
  rotate_left 1
  · (simp only [List.getElem?_toArray, List.getElem?_cons_succ, List.getElem?_cons_zero]; rfl)
  · (obtain ⟨w3, hrun, hown3, hg3⟩ := HO1.out.drew.update KU Try.underlying62 HNN.out HKY.out (show RV (.map (some b)) = some (.held b, []) from rfl); go_simp)
    refine hK.out _ _ ?_ (fun hHeld => ?_)
    · exact ⟨(Chg.cell (L := [mb]) (p := ⟨p, 1, none⟩) ((Chg.refl _ _).grown hg3 (by simp)) lp1 (by simp; exact HPM.out)).trans y1, (Chg.cell (L := [mb]) (p := ⟨p, 2, none⟩) ((Chg.refl _ _).grown hg3 (by simp)) lp1 (by simp; exact HPM.out)).trans y2⟩
    clear hK K
    try simp only [Act.put, List.setIfInBounds_toArray, List.set_cons_zero, List.set_cons_succ]
    refine wpAnyH_done (by kernel_rfl) ?_ _
    have hg := (Chg.refl [mb] W).drew.trans ((Chg.refl [mb] _).grown hg3 (by simp))
    have hP3 := (hg.block p lp1 (by simp; exact HPM.out)).trans HP1.out
    have hr : w.heap.size ≠ mb := fun e => by have := HM.out.own.lt; omega
    have hR3 := (hg.block w.heap.size (heap_lt HR1.out) (by simp; exact hr)).trans HR1.out
    have lr := heap_lt hR3
    have lp3 := heap_lt hP3
    have q0 := cell_of_block hP3 0
    have q1 := cell_of_block hP3 1
    have q2 := cell_of_block hP3 2
    simp only [List.getElem?_toArray, List.getElem?_cons_zero, List.getElem?_cons_succ] at q0 q1 q2
    have r0 := cell_of_block hR3 0
    have r1 := cell_of_block hR3 1
    have r2 := cell_of_block hR3 2
    have r3 := cell_of_block hR3 3
    simp only [List.getElem?_toArray, List.getElem?_cons_zero, List.getElem?_cons_succ] at r0 r1 r2 r3
    have fr := frozen_of_block hR3 0
    have fr1 := frozen_of_block hR3 1
    have fr2 := frozen_of_block hR3 2
    have fr3 := frozen_of_block hR3 3
    have HP3 := Lib.hid hP3
    have HR3 := Lib.hid hR3
    have HG := Lib.hid hg
    clear hP3 hR3 hg hr y0 y1 y2 lp1 hrun hg3
    go_wp2_with fail
    obtain ⟨hR4, hC4⟩ := rep_store HR3.out (.int .i64 0) (.int .u64 ((S.last : Int) + 1)) (.slice none 0 0) (.int .i64 0)
    have hown4 := own_chg hown3 hC4 (by simp; have := HM.out.own.lt; omega)
    generalize (((w3.setCell ⟨w.heap.size, 0, none⟩ (.int .i64 0)).setCell ⟨w.heap.size, 1, none⟩ (.int .u64 ((S.last : Int) + 1))).setCell ⟨w.heap.size, 2, none⟩ (.slice none 0 0)).setCell ⟨w.heap.size, 3, none⟩ (.int .i64 0) = W4 at *
    have l4 := heap_lt hR4
    have z0 := cell_of_block hR4 0
    have z1 := cell_of_block hR4 1
    have z2 := cell_of_block hR4 2
    have z3 := cell_of_block hR4 3
    simp only [List.getElem?_toArray, List.getElem?_cons_zero, List.getElem?_cons_succ] at z0 z1 z2 z3
    have hc : Chg [p, mb] w W4 := ((HC1.out.mono (by simp)).trans (HG.out.mono (by simp))).then hC4 (by simp)
    have hP4 := (hC4.block p lp3 (by simp; have := heap_lt HP.out; omega)).trans HP3.out
    refine bodyPost_ret (v := .agg #[.int .i64 0, .int .u64 ((S.last : Int) + 1), .slice none 0 0, .int .i64 0]) (by simp [results, Try.results48, go_sem, l4, z0, z1, z2, z3]) rfl ⟨rfl, hP4, HM.out.put HP.out hc (kU_is _) hown4 (own_chg HV.out hc ?_) HB.out HLB.out (Nat.le_succ _) ⟨_, Nat.le_refl _, rfl⟩, hc.mono ?_⟩
    · simp only [List.mem_cons, List.not_mem_nil, or_false]
      rintro (rfl | rfl)
      · exact HB.out HM.out.pin
      · exact HB.out HM.out.min
    · intro x hx
      simp only [List.mem_cons, List.not_mem_nil, or_false] at hx
      rcases hx with rfl | rfl
      · exact HM.out.pin
      · exact HM.out.min

theorem made_at {N : Nat} {L : List Nat} {w : World} {p b : Nat} {S : St} {Dv : VD} (h : MdAt N L w p S) (hN : N ≤ 1000000) (hV : OwnV w b (N + 1) Dv) (hb : b ∉ L) (hl : S.last + 1 < 18446744073709551616) :
    Calls Try.prog 48 #[.pointer (some ⟨p, 0, none⟩), .map (some b)] w fun e w' => e = .returned (repV 0 (S.last + 1) (.slice none 0 0) 0) ∧ MdAt (N + 1) (b :: L) w' p (S.made Dv) ∧ Chg L w w' := by
  obtain ⟨mb, D, C, hp, M⟩ := h
  exact (made_pt hp M hN hV hb hl).mono fun e w' ⟨h1, h2, h3, h4⟩ => ⟨h1, ⟨mb, _, _, h2, h3⟩, h4⟩

end Go.Proofs.Ytbejcmbdaoakbaa
