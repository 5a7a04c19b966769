/- Model.New, Model.Copy. -/
import Derived.Test.YtbejcmbdaoakbaaMdS
namespace Go.Proofs.Ytbejcmbdaoakbaa
open Go.RowKit Go.Maps
set_option linter.unusedVariables false
set_option linter.unusedSimpArgs false

def St.new (n : Nat) : St := ⟨n, 0, 0, fun _ => none⟩
theorem md_new {w : World} {n : Nat} (hn : n < 18446744073709551616) :
    MdAt 0 [w.heap.size, w.heap.size + 1] ((w.alloc (.map #[] 0)).alloc (.cells (mdRow (St.new n) w.heap.size) 64)) (w.heap.size + 1) (St.new n) := by
  refine ⟨w.heap.size, .map [], fun _ => .nil, new_block2 _ _ _, ?_⟩
  exact { own := (World.ownsMap_made w Try.prog 23 RV).alloc _, cnt := rfl, vols := fun k => rfl, vol := fun k h => (by cases h), apart := fun k k' h => (by cases h), low := fun k h => (by cases h)
          pin := by simp, min := by simp, lt := fun b hb => by simp only [List.mem_cons, List.not_mem_nil, or_false] at hb; rw [size_alloc', size_alloc']; omega
          size := hn, last := by show (0 : Nat) < _; omega }

/-- A new model came back, apart from all that was. -/
def NewMd (N : Nat) (S : St) (w : World) (v : Nat → Value) (e : Ending) (w' : World) : Prop := ∃ p L, e = .returned (v p) ∧ MdAt N L w' p S ∧ (∀ b, b ∈ L → w.heap.size ≤ b) ∧ Chg [] w w'
def okPtr (p : Nat) : Value := .tuple #[.pointer (some ⟨p, 0, none⟩), .int .i64 0]
def aPtr (p : Nat) : Value := .pointer (some ⟨p, 0, none⟩)

set_option maxRecDepth 20000 in
theorem new_ok {w : World} {n : Nat} (h1 : 1 ≤ n) (h2 : n ≤ 4294967296) :
    Calls Try.prog 16 #[.int .u64 (n : Int)] w (NewMd 0 (St.new n) w okPtr) := by
  have a1 : ¬ (n : Int) < 1 := by omega
  have a2 : ¬ (4294967296 : Int) < (n : Int) := by omega
  have hM := Lib.hid (md_new (w := w) (n := n) (by omega))
  have mk := fun w => run_makeMap (P := Try.prog) 62 w
  go_enter Try.func16, Try.ntmps16
  go_wp2_with fail
  go_ret2
  refine ⟨w.heap.size + 1, _, rfl, hM.out, fun b hb => ?_, ((Chg.refl [] w).alloc _).alloc _⟩
  simp only [List.mem_cons, List.not_mem_nil, or_false] at hb
  omega

set_option maxRecDepth 20000 in
theorem new_bad {w : World} {n : Nat} (hb : n < 18446744073709551616) (h : ¬ (1 ≤ n ∧ n ≤ 4294967296)) :
    Calls Try.prog 16 #[.int .u64 (n : Int)] w fun e w' => e = .returned (.tuple #[.pointer none, .int .i64 2]) ∧ w = w' := by
  by_cases h1 : 1 ≤ n
  · have a1 : ¬ (n : Int) < 1 := by omega
    have a2 : (4294967296 : Int) < (n : Int) := by omega
    go_enter Try.func16, Try.ntmps16
    go_wp2_with fail
    go_ret2
    exact ⟨rfl, rfl⟩
  · have a1 : (n : Int) < 1 := by omega
    go_enter Try.func16, Try.ntmps16
    go_wp2_with fail
    go_ret2
    exact ⟨rfl, rfl⟩

-- COPY
/-- Under way: Dout has the volumes that came. -/
structure CpR (N q r mb nb : Nat) (S : St) (D : DataW Nat) (C : Nat → VD) (w wr : World) (left : Lit → Bool) (cnt k : Nat) (Dout : DataW Nat) (C' : Nat → VD) : Prop where
  rg : wr.ranges Try.prog 23 RV mb r N D left cnt
  own : OwnM wr nb k Dout
  q : wr.heap[q]? = some (.cells #[.int .u64 (S.size : Int), .int .u64 (S.last : Int), .map (some nb)] 64 (0, 0))
  kc : k + cnt ≤ size D
  chg : Chg [] w wr
  has : ∀ x, has Dout x = (has D x && !left x)
  vol : ∀ x, Maps.has Dout x = true → r < tok (Dout.atKey x .nil) ∧ tok (Dout.atKey x .nil) ≠ nb ∧ OwnV wr (tok (Dout.atKey x .nil)) N (C' (tok (Dout.atKey x .nil))) ∧ C' (tok (Dout.atKey x .nil)) = C (tok (D.atKey x .nil))
  apart : ∀ x y, Maps.has Dout x = true → Maps.has Dout y = true → tok (Dout.atKey x .nil) = tok (Dout.atKey y .nil) → x = y

theorem CpR.end {N q r mb nb p cnt k : Nat} {L : List Nat} {S : St} {D Dout : DataW Nat} {C C' : Nat → VD} {w wr : World} {left : Lit → Bool} (h : CpR N q r mb nb S D C w wr left cnt k Dout C') (M : MdPt N L w p mb S D C) (hl : ∀ x, left x = false)
    (hq : w.heap.size ≤ q) (hn : w.heap.size ≤ nb) (hr : w.heap.size ≤ r) : ∃ L', MdAt N L' wr q S ∧ (∀ b, b ∈ L' → w.heap.size ≤ b) := by
  have hh : ∀ x, Maps.has Dout x = Maps.has D x := fun x => by rw [h.has, hl]; simp
  have hk := h.kc
  have hN := M.own.size_le
  refine ⟨q :: nb :: blksOf Dout, ⟨nb, Dout, C', h.q, ?_⟩, fun b hb => ?_⟩
  · exact { own := h.own.mono (by omega), cnt := by rw [M.cnt]; exact (size_eq_of_has (h.own.canon KU) M.canon hh).symm
            vols := fun x => by
              rw [M.vols, hh]
              cases hx : Maps.has D x
              · rfl
              · simp only [if_true]
                rw [(h.vol x (by rw [hh]; exact hx)).2.2.2]
            vol := fun x hx => ⟨by simp only [List.mem_cons]; exact .inr (.inr ((blksOf_mem (h.own.canon KU)).2 ⟨x, hx, rfl⟩)), (h.vol x hx).2.1, (h.vol x hx).2.2.1⟩
            apart := h.apart, low := fun x hx => M.low x (by rw [← hh]; exact hx), pin := by simp, min := by simp
            lt := fun b hb => by
              simp only [List.mem_cons] at hb
              rcases hb with rfl | rfl | hb
              · exact heap_lt h.q
              · exact h.own.lt
              · obtain ⟨x, hx, rfl⟩ := (blksOf_mem (h.own.canon KU)).1 hb
                exact (h.vol x hx).2.2.1.lt
            size := M.size, last := M.last }
  · simp only [List.mem_cons] at hb
    rcases hb with rfl | rfl | hb
    · exact hq
    · exact hn
    · obtain ⟨x, hx, rfl⟩ := (blksOf_mem (h.own.canon KU)).1 hb
      exact Nat.le_trans hr (Nat.le_of_lt (h.vol x hx).1)

/-- A volume's copy is put in: w1 behind the step, w2 behind the clone (block b of it), w3 behind the store. -/
theorem CpR.step {N q r mb nb cnt k cnt1 b c : Nat} {S : St} {D Dout : DataW Nat} {C C' : Nat → VD} {w wr w1 w2 w3 : World} {left : Lit → Bool} {kl : Lit} (h : CpR N q r mb nb S D C w wr left cnt k Dout C')
    (hk : WideAt.IsKeyLit kl) (hat : ∀ z, D.atKey kl z = .held c) (hlx : left kl = true) (hr : w.heap.size ≤ r) (hrq : r ≠ q) (hrn : r ≠ nb) (hqn : q ≠ nb)
    (hmb : mb < w.heap.size) (hnb : w.heap.size ≤ nb)
    (hrg : w1.ranges Try.prog 23 RV mb r N D (fun z => left z && !z.sameKey kl) cnt1) (hlt : cnt1 < cnt) (hg1 : wr.grownBy w1 (some r))
    (hb : b = w1.heap.size) (h2 : OwnV w2 b N (C c)) (hC2 : Chg [] w1 w2) (h3 : OwnM w3 nb (k + 1) (Dout.put kl (.held b))) (hg3 : w2.grownBy w3 (some nb)) :
    CpR N q r mb nb S D C w w3 (fun z => left z && !z.sameKey kl) cnt1 (k + 1) (Dout.put kl (.held b)) (fun x => if x = b then C c else C' x) := by
  have hc1 : Chg [r] wr w1 := (Chg.refl [r] wr).grown hg1 (by simp)
  have hc3 : Chg [nb] w2 w3 := (Chg.refl [nb] w2).grown hg3 (by simp)
  have hD := h.own.isMap
  have hlr := h.rg.lt
  have hs1 := hc1.size
  have hqb : q < wr.heap.size := heap_lt h.q
  have hnl := h.own.lt
  have hbl := h2.lt
  have hne : ∀ x, Maps.has Dout x = true → tok (Dout.atKey x .nil) ≠ b := fun x hx => by have := (h.vol x hx).2.2.1.lt; omega
  have hs3 : Chg [nb] w1 w3 := (hC2.mono (by simp)).trans hc3
  have htk : (Dout.put kl (.held b)).atKey kl .nil = .held b := atKey_put_same hD hk _ _
  constructor
  · refine hrg.kept (row := some nb) ⟨hs3.os, hs3.tape, hs3.output, hs3.size, fun i hi hn => hs3.block i hi (by simp; exact fun e => hn (by rw [e]))⟩ ?_ ?_
    · intro e; injection e with e; omega
    · intro e; injection e with e; exact hrn e
  · exact h3
  · rw [hs3.block q (by omega) (by simp; exact hqn), hc1.block q hqb (by simp; exact fun e => hrq e.symm)]
    exact h.q
  · have := h.kc; omega
  · have a1 : Chg [] w w1 := h.chg.then hc1 (by simp; omega)
    exact a1.then hs3 (by simp; omega)
  · intro x
    show Maps.has (Dout.put kl (.held b)) x = (Maps.has D x && !(left x && !x.sameKey kl))
    by_cases e : x = kl
    · subst e
      rw [has_put_same hD hk, has_true_of_atKey hat, WideAt.sameKey_self hk]
      simp
    · rw [has_put_other e, h.has x, sameKey_ne e]
      simp
  · intro x hx
    by_cases e : x = kl
    · subst e
      rw [htk]
      refine ⟨by show r < b; omega, by show b ≠ nb; omega, ?_, ?_⟩
      · show OwnV w3 b N (if b = b then C c else C' b)
        rw [if_pos rfl]
        exact own_chg h2 hc3 (by simp; omega)
      · show (if b = b then C c else C' b) = _
        rw [if_pos rfl, hat]
        rfl
    · rw [has_put_other e] at hx
      rw [atKey_put_other e]
      obtain ⟨v1, v2, v3, v4⟩ := h.vol x hx
      have hxb := hne x hx
      refine ⟨v1, v2, ?_, ?_⟩
      · show OwnV w3 _ N (if tok (Dout.atKey x .nil) = b then C c else _)
        rw [if_neg hxb]
        exact own_chg (own_chg v3 hc1 (by simp; omega)) hs3 (by simp; exact v2)
      · show (if tok (Dout.atKey x .nil) = b then C c else _) = _
        rw [if_neg hxb]
        exact v4
  · intro x y hx hy he
    by_cases e1 : x = kl
    · by_cases e2 : y = kl
      · rw [e1, e2]
      · exfalso
        subst e1
        rw [has_put_other e2] at hy
        rw [htk, atKey_put_other e2] at he
        exact hne y hy he.symm
    · by_cases e2 : y = kl
      · exfalso
        subst e2
        rw [has_put_other e1] at hx
        rw [htk, atKey_put_other e1] at he
        exact hne x hx he
      · rw [has_put_other e1] at hx
        rw [has_put_other e2] at hy
        rw [atKey_put_other e1, atKey_put_other e2] at he
        exact h.apart x y hx hy he


theorem volClone_at {w : World} {b N : Nat} {D : VD} (h : OwnV w b N D) : Calls Try.prog 29 #[.map (some b)] w fun e w' => e = .returned (.map (some w.heap.size)) ∧ OwnV w' w.heap.size N D ∧ Chg [] w w' :=
  (AnyW.maps_Clone_owns Try.cloneA 23 RB b N D w h).mono fun e w' ⟨he, h1, _, hB⟩ => ⟨he, h1, Chg.of_below hB⟩

set_option maxRecDepth 20000 in
set_option maxHeartbeats 4000000 in
theorem copy_at {N : Nat} {L : List Nat} {w : World} {p : Nat} {S : St} (h : MdAt N L w p S) (hN : N ≤ 1000000) : Calls Try.prog 11 #[.pointer (some ⟨p, 0, none⟩)] w (NewMd N S w aPtr) := by
  obtain ⟨mb, D, C, hp, M⟩ := h
  have c1 := none_of hp
  unfold mdRow at hp
  have HP := Lib.hid hp
  have HM := Lib.hid M
  have mk := fun w => run_makeMap (P := Try.prog) 62 w
  have x0 := cell_of_block HP.out 0
  have x1 := cell_of_block HP.out 1
  have x2 := cell_of_block HP.out 2
  simp only [List.getElem?_toArray, List.getElem?_cons_zero, List.getElem?_cons_succ] at x0 x1 x2
  have lp := heap_lt hp
  have lm := M.own.lt
  clear hp M
  go_enter Try.func11, Try.ntmps11
  go_wp2_with fail
  refine c1.mono ?_
  clear c1
  rintro e w' ⟨rfl, rfl⟩
  go_wp2_with fail
  go_region
  have hW : Chg [] w ((w.alloc (.map #[] 0)).alloc (.cells #[.int .u64 (S.size : Int), .int .u64 (S.last : Int), .map (some w.heap.size)] 64)).drew := (((Chg.refl [] w).alloc _).alloc _).drew
  have hQ : ((w.alloc (.map #[] 0)).alloc (.cells #[.int .u64 (S.size : Int), .int .u64 (S.last : Int), .map (some w.heap.size)] 64)).drew.heap[w.heap.size + 1]? = some (.cells #[.int .u64 (S.size : Int), .int .u64 (S.last : Int), .map (some w.heap.size)] 64 (0, 0)) := new_block2 _ _ _
  have hO : OwnM ((w.alloc (.map #[] 0)).alloc (.cells #[.int .u64 (S.size : Int), .int .u64 (S.last : Int), .map (some w.heap.size)] 64)).drew w.heap.size 0 (.map []) := ((World.ownsMap_made w Try.prog 23 RV).alloc _).drew
  have hZ := Lib.hid (show ((w.alloc (.map #[] 0)).alloc (.cells #[.int .u64 (S.size : Int), .int .u64 (S.last : Int), .map (some w.heap.size)] 64)).drew.heap.size = w.heap.size + 2 from by
    show ((w.alloc (.map #[] 0)).alloc _).heap.size = _
    rw [size_alloc', size_alloc'])
  generalize ((w.alloc (.map #[] 0)).alloc (.cells #[.int .u64 (S.size : Int), .int .u64 (S.last : Int), .map (some w.heap.size)] 64)).drew = W at *
  have M1 := HM.out.chg hW (by simp)
  have X2 := (hW.cell (p := ⟨p, 2, none⟩) lp (by simp)).trans x2
  have HMW := Lib.hid M1
  have HW := Lib.hid hW
  have HQ := Lib.hid hQ
  have HO := Lib.hid hO
  clear x0 x1 x2 lp mk hW hQ hO
  go_wp2_with (first
    | (at_range; refine wpList_range_own _ rfl _ 62 rfl 23 68 KU Try.underlying62 RV mb N D rfl M1.own ?_; intro w0 hrg0 hg0 hs0)
    | go_in)
  go_frame
  go_loopw [24] (fun _ wr => ∃ (left : Lit → Bool) (cnt k : Nat) (Dout : DataW Nat) (C' : Nat → VD), Hid (CpR N (w.heap.size + 1) W.heap.size mb w.heap.size S D C w wr left cnt k Dout C'))
    (fun _ wr => wr.rangeLeft mb W.heap.size)
  case atStart =>
    refine ⟨Maps.has D, Maps.size D, 0, .map [], fun _ => .nil, Lib.hid ?_⟩
    exact { rg := hrg0, own := HO.out.kept hg0 (by simp), q := (hg0.block _ (heap_lt HQ.out) (by simp)).trans HQ.out, kc := by omega, chg := HW.out.grown hg0 (by simp)
            has := fun x => by cases Maps.has D x <;> rfl, vol := fun x hx => (by cases hx), apart := fun x y hx => (by cases hx) }
  case round =>
    obtain ⟨left, cnt, k, Dout, C', HR⟩ := hrel
    have hrg := HR.out.rg
    clear M1 X2 hrg0 hg0 hs0
    go_upto_region 6 with (first
      | (at_next; refine wpList_next_ranges _ rfl _ rfl 23 KU RV id id (fun key _ _ => ⟨key, rfl⟩) (fun v _ _ => ⟨v, rfl⟩) mb W.heap.size N _ _ _ rfl hrg ?_ ?_)
      | go_in)
    · intro _ hl0
      have hE := Lib.hid (HR.out.end HM.out hl0 (by omega) (Nat.le_refl _) (by rw [hZ.out]; omega))
      have HC := Lib.hid HR.out.chg
      clear hrg hl0
      go_wp2
      go_ret
      obtain ⟨L', hM', hL'⟩ := hE.out
      exact ⟨_, L', rfl, hM', hL', HC.out⟩
    · intro x c kl yd yp w1 cnt1 hkey hlx hv hat hrg1 hlt hg1 hs1 hen
      obtain ⟨bb, rfl, rfl, rfl⟩ := RV_inv hv
      have HAT := Lib.hid hat
      have hhD := has_true_of_atKey hat
      have htk : tok (D.atKey kl .nil) = bb := by rw [hat]; rfl
      have hvb := HM.out.vol kl hhD
      rw [htk] at hvb
      have hbw := hvb.2.2.lt
      have hc1 : Chg [W.heap.size] wr w1 := (Chg.refl _ wr).grown hg1 (by simp)
      have hz := hZ.out
      have hqs := heap_lt HR.out.q
      have HV := Lib.hid (own_chg (own_chg hvb.2.2 HR.out.chg (by simp)) hc1 (by simp; omega))
      have Q1 := Lib.hid ((hc1.block (w.heap.size + 1) hqs (by simp; omega)).trans HR.out.q)
      have O1 := Lib.hid (own_chg HR.out.own hc1 (by simp; omega))
      have y2 := cell_of_block Q1.out 2
      simp only [List.getElem?_toArray, List.getElem?_cons_zero, List.getElem?_cons_succ] at y2
      have ly := heap_lt Q1.out
      have hkN := HR.out.kc
      have hsz := HM.out.own.size_le
      have HK := Lib.hid (show k < maxLen by unfold maxLen; omega)
      have HL := Lib.hid (And.intro hlx (And.intro hlt (And.intro hg1 hrg1)))
      have HLM := Lib.hid lm
      clear hlx hlt hs1 hat hhD htk hvb hbw hc1 hqs hkN hsz hv hg1 hz lm hrg1
      go_wp2_with fail
      refine wp_region_held_drew (S := fun W' => W'.cell? ⟨w.heap.size + 1, 2, none⟩ = some (.map (some w.heap.size))) (by kernel_rfl) (by exact y2) (fun hHeld => ?_)
      refine wpAnyH_take (i := 0) (oi := ?_) (v := ?_) ?_ (by kernel_rfl) (by kernel_rfl) (by kernel_rfl) ?_ (Or.inl ⟨?_, ?_⟩) hHeld ?_
      rotate_left 2
      · (simp only [List.getElem?_toArray, List.getElem?_cons_succ, List.getElem?_cons_zero]; rfl)
      · exact fun _ _ _ h => h
      · rfl
      · (intro w hSw; go_simp; first | done | with_reducible rfl)
      try simp only [Act.put, List.setIfInBounds_toArray, List.set_cons_zero, List.set_cons_succ]
      refine wpAnyH_take (i := 1) (oi := ?_) (v := ?_) ?_ (by kernel_rfl) (by kernel_rfl) (by kernel_rfl) ?_ (Or.inl ⟨?_, ?_⟩) hHeld ?_
      rotate_left 2
      · (simp only [List.getElem?_toArray, List.getElem?_cons_succ, List.getElem?_cons_zero]; rfl)
      · exact fun _ _ _ h => h
      · rfl
      · (intro w hSw; go_simp; first | done | with_reducible rfl)
      try simp only [Act.put, List.setIfInBounds_toArray, List.set_cons_zero, List.set_cons_succ]
      refine wpAnyH_take (i := 2) (oi := ?_) (v := ?_) ?_ (by kernel_rfl) (by kernel_rfl) (by kernel_rfl) ?_ (Or.inl ⟨?_, ?_⟩) hHeld ?_
      rotate_left 2
      · (simp only [List.getElem?_toArray, List.getElem?_cons_succ, List.getElem?_cons_zero]; rfl)
      · exact fun _ _ _ h => h
      · rfl
      · (intro w hSw; go_simp; first | done | with_reducible rfl)
      try simp only [Act.put, List.setIfInBounds_toArray, List.set_cons_zero, List.set_cons_succ]
      refine wpAnyH_take (i := 3) (oi := ?_) (v := ?_) ?_ (by kernel_rfl) (by kernel_rfl) (by kernel_rfl) ?_ (Or.inl ⟨?_, ?_⟩) hHeld ?_
      rotate_left 2
      · (simp only [List.getElem?_toArray, List.getElem?_cons_succ, List.getElem?_cons_zero]; rfl)
      · exact fun _ _ _ h => h
      · rfl
      · (intro w hSw; go_simp; first | done | with_reducible rfl)
      try simp only [Act.put, List.setIfInBounds_toArray, List.set_cons_zero, List.set_cons_succ]
      refine wpAnyH_take (i := 4) (oi := ?_) (v := ?_) ?_ (by kernel_rfl) (by kernel_rfl) (by kernel_rfl) ?_ (Or.inl ⟨?_, ?_⟩) hHeld ?_
      rotate_left 2
      · (simp only [List.getElem?_toArray, List.getElem?_cons_succ, List.getElem?_cons_zero]; rfl)
      · exact fun _ _ _ h => h
      · rfl
      · (intro w hSw; go_simp; first | done | with_reducible rfl)
      try simp only [Act.put, List.setIfInBounds_toArray, List.set_cons_zero, List.set_cons_succ]
      refine wpAnyH_take (i := 5) (oi := ?_) (v := ?_) ?_ (by kernel_rfl) (by kernel_rfl) (by kernel_rfl) ?_ (Or.inl ⟨?_, ?_⟩) hHeld ?_
      rotate_left 2
      · (simp only [List.getElem?_toArray, List.getElem?_cons_succ, List.getElem?_cons_zero]; rfl)
      · exact fun _ _ _ h => h
      · rfl
      · (intro w hSw; go_simp; first | done | with_reducible rfl)
      try simp only [Act.put, List.setIfInBounds_toArray, List.set_cons_zero, List.set_cons_succ]
      refine wpAnyH_ready (rs := [6]) (by kernel_rfl) (by simp) ?_
      refine AllReadyH.cons (o := ?_) ?_ (fun K hK => ?_) AllReadyH.nil
      rotate_left 1
      · (simp only [List.getElem?_toArray, List.getElem?_cons_succ, List.getElem?_cons_zero]; rfl)
      · (go_simp; (refine (volClone_at (w := w1.drew) HV.out).mono ?_; rintro e w2 ⟨rfl, hv2, hB⟩; have HV2 := Lib.hid hv2; have HC2 := Lib.hid ((Chg.refl [] w1).drew.trans hB); have HO2 := Lib.hid (own_chg O1.out HC2.out (by simp)); clear hv2 hB))
        refine hK.out _ _ ?_ (fun hHeld => ?_)
        · exact (HC2.out.cell (p := ⟨w.heap.size + 1, 2, none⟩) ly (by simp)).trans y2
        clear hK K
        try simp only [Act.put, List.setIfInBounds_toArray, List.set_cons_zero, List.set_cons_succ]
        refine wpAnyH_ready (rs := [7]) (by kernel_rfl) (by simp) ?_
        refine AllReadyH.cons (o := ?_) ?_ (fun K hK => ?_) AllReadyH.nil
        rotate_left 1
        · (simp only [List.getElem?_toArray, List.getElem?_cons_succ, List.getElem?_cons_zero]; rfl)
        · (obtain ⟨w3, hrun, hown3, hg3⟩ := HO2.out.update KU Try.underlying62 HK.out hkey (show RV (.map (some w1.heap.size)) = some (.held w1.heap.size, []) from rfl); go_simp)
          refine hK.out _ _ ?_ (fun hHeld => ?_)
          · exact (Chg.cell (L := [w.heap.size]) (p := ⟨w.heap.size + 1, 2, none⟩) ((Chg.refl _ w2).grown hg3 (by simp)) (Nat.lt_of_lt_of_le ly HC2.out.size) (by simp)).trans ((HC2.out.cell (p := ⟨w.heap.size + 1, 2, none⟩) ly (by simp)).trans y2)
          clear hK K
          try simp only [Act.put, List.setIfInBounds_toArray, List.set_cons_zero, List.set_cons_succ]
          refine wpAnyH_done (by kernel_rfl) ?_ _
          go_wp2_with fail
          obtain ⟨hlx, hlt, hg1, hrg1⟩ := HL.out
          have hST := HR.out.step (KU.key hkey) HAT.out hlx (by rw [hZ.out]; omega) (by rw [hZ.out]; omega) (by rw [hZ.out]; omega) (by omega) HLM.out (Nat.le_refl _) hrg1 hlt hg1 rfl HV2.out HC2.out hown3 hg3
          go_roundw
          case rel => exact ⟨_, cnt1, k + 1, _, _, Lib.hid hST⟩
          case measure => rw [hST.rg.left_eq, hrg.left_eq]; exact hlt

end Go.Proofs.Ytbejcmbdaoakbaa
