/- maps.Equal at volumes; maps.EqualFunc; Model.none, Model.Same. -/
import Derived.Test.YtbejcmbdaoakbaaMd
import Derived.Test.YtbejcmbdaoakbaaIt
import Derived.ChangeKeysEq
import Derived.Maps.RangeWalk
import Derived.Laws.IdiomRangeMap
import Derived.Deep.LoopGhost
import Derived.Deep.WholeRow
import Derived.Deep.Cut
import Derived.Deep.QuietTactic
import Derived.BigQuiet
import Derived.RegionTactic
import Derived.StillTailTactics
namespace Go.Proofs.Ytbejcmbdaoakbaa
open Go.RowKit Go.Maps
set_option linter.unusedVariables false
set_option linter.unusedSimpArgs false

/-! ### '==' of two blocks -/
theorem isU8_inv {v : Value} (h : isU8 v = true) : ∃ n : Int, v = .int .u8 n := by
  unfold isU8 at h
  split at h
  · exact ⟨_, rfl⟩
  · cases h
theorem isBlk_inv {v : Value} (h : isBlk v = true) : ∃ cs : Array Value, v = .agg cs ∧ cs.size = 128 ∧ ∀ i, i < 128 → ∃ n : Int, cs[i]? = some (.int .u8 n) := by
  unfold isBlk at h
  split at h
  · rename_i cs
    simp only [Bool.and_eq_true, decide_eq_true_eq] at h
    refine ⟨cs, rfl, h.1, fun i hi => ?_⟩
    have hlt : i < cs.size := by omega
    obtain ⟨n, hn⟩ := isU8_inv (Array.all_eq_true.1 h.2 i hlt)
    exact ⟨n, by rw [Array.getElem?_eq_getElem hlt, hn]⟩
  · cases h

theorem eqItems_u8 {w : World} {xs ys : Array Value} : ∀ (is : List Nat), (∀ i ∈ is, ∃ n : Int, xs[i]? = some (.int .u8 n)) → (∀ i ∈ is, ∃ n : Int, ys[i]? = some (.int .u8 n)) →
    ∃ r : Bool, (Op.eqItems 9999 5 (Try.prog.cellsOf 5) xs ys is).run Try.prog w = .ok r w ∧ (r = true ↔ ∀ i ∈ is, xs[i]? = ys[i]?)
  | [], _, _ => ⟨true, by simp [Op.eqItems], by simp⟩
  | i :: is, hx, hy => by
    obtain ⟨a, ha⟩ := hx i (by simp)
    obtain ⟨b, hb⟩ := hy i (by simp)
    obtain ⟨r, hr, hi⟩ := eqItems_u8 (w := w) is (fun j hj => hx j (by simp [hj])) (fun j hj => hy j (by simp [hj]))
    have hc : Try.prog.cellsOf 5 = 1 := by kernel_rfl
    have pk : Try.prog.plainKey 5 = true := by kernel_rfl
    have p1 : (part 5 xs (i * Try.prog.cellsOf 5)).run Try.prog w = .ok (.int .u8 a) w := by rw [hc, Nat.mul_one]; exact run_part_plain w pk ha
    have p2 : (part 5 ys (i * Try.prog.cellsOf 5)).run Try.prog w = .ok (.int .u8 b) w := by rw [hc, Nat.mul_one]; exact run_part_plain w pk hb
    have p3 : (Op.equalIn 9999 5 (.int .u8 a) (.int .u8 b)).run Try.prog w = .ok (a == b) w := run_equalIn_int w 9998 5 .u8 .u8 a b Try.underlying5
    simp only [Op.eqItems, Sem.run_bind, p1, p2, p3, Result.andThen_ok]
    by_cases e : a = b
    · subst e
      refine ⟨r, by simpa using hr, ?_⟩
      rw [hi]
      simp [ha, hb]
    · refine ⟨false, by simp [e], ?_⟩
      simp [ha, hb, e]

set_option maxRecDepth 100000 in
theorem eqBlk {w : World} {x y : Value} (hx : isBlk x = true) (hy : isBlk y = true) : (Op.equalIn 10000 71 x y).run Try.prog w = .ok (deq (.held x : VD) (.held y)) w := by
  obtain ⟨xs, rfl, sx, cx⟩ := isBlk_inv hx
  obtain ⟨ys, rfl, sy, cy⟩ := isBlk_inv hy
  obtain ⟨i, hi⟩ : ∃ i, Try.prog.info? 5 = some i := info_of_underlying Try.underlying5
  obtain ⟨r, hr, hiff⟩ := eqItems_u8 (w := w) (xs := xs) (ys := ys) (List.range 128) (fun i hi => cx i (by simpa using hi)) (fun i hi => cy i (by simpa using hi))
  rw [run_equalIn_array w 9999 xs ys Try.underlying71 hi, hr]
  have : deq (.held (.agg xs) : VD) (.held (.agg ys)) = r := by
    rw [Bool.eq_iff_iff, deq_iff, hiff]
    constructor
    · intro h i _
      injection h with h
      injection h with h
      rw [h]
    · intro h
      have e : xs = ys := by
        apply Array.ext_getElem?
        intro j
        by_cases hj : j < 128
        · exact h j (by simpa using hj)
        · rw [Array.getElem?_eq_none (by omega), Array.getElem?_eq_none (by omega)]
      rw [e]
  rw [this]

theorem RB_mk {v : Value} (h : isBlk v = true) : RB v = some (.held v, []) := by unfold RB; rw [if_pos h]

/-! ### a block's variable of its own -/
theorem blk_one {cs : Array Value} (h : isBlk (.agg cs) = true) : cs.size = 128 ∧ cs.all (·.oneCell') = true := by
  obtain ⟨cs', e, h1, h2⟩ := isBlk_inv h
  injection e with e
  subst e
  refine ⟨h1, Array.all_eq_true.2 fun i hi => ?_⟩
  obtain ⟨n, hn⟩ := h2 i (by omega)
  rw [Array.getElem?_eq_getElem hi] at hn
  injection hn with hn
  rw [hn]
  rfl
theorem infoBlk : (Try.prog.info? 71).map (·.size) = some 128 := by kernel_rfl
def zBlk : Array Value := Array.replicate 128 (.int .u8 0)
theorem zeroBlk : ∀ w, (zeroValue 71).run Try.prog w = .ok (.agg zBlk) w := (zero_of_info (P := Try.prog) (t := 71) (v := .agg zBlk) (n := 128) (by kernel_rfl)).1
set_option maxRecDepth 100000 in
theorem zBlk_is : isBlk (.agg zBlk) = true := by
  unfold isBlk zBlk
  simp only [Bool.and_eq_true, decide_eq_true_eq]
  refine ⟨by simp, Array.all_eq_true.2 fun i hi => ?_⟩
  rw [Array.getElem_replicate]
  rfl

theorem wpList_storeBlk {ops : Array Oper} {rest : List Oper} {op : Oper} {a : Act} {W : World} {Q : Exit → Act → World → Prop} (hgd : op.guard = none) (x y : Operand) (ho : op.op = .store 71 x y) (Z cs : Array Value) (b : Nat) (hb : b = W.heap.size)
    (hx : a.eval x = .pointer (some ⟨b, 0, none⟩)) (hy : a.eval y = .agg cs) (hZ : Z.size = 128) (hc : isBlk (.agg cs) = true)
    (h : wpList Try.prog ops Q rest (a.put op.dst undef) (W.alloc (.cells cs 71))) : wpList Try.prog ops Q (op :: rest) a (W.alloc (.cells Z 71)) := by
  subst hb
  obtain ⟨h1, h2⟩ := blk_one hc
  refine wpList_plain hgd fun K' hK' => ?_
  unfold Oper.wp execOp
  simp only [ho, hx, hy]
  have := run_storeAt_new (P := Try.prog) W 71 Z cs (by rw [infoBlk, h1]) (by omega) h2
  simp only [Sem.run_bind, this, Result.andThen_ok, Sem.run_pure]
  exact hK' _ _ h
/-- A block's variable is read, guarded or not. -/
theorem wpList_loadBlk {ops : Array Oper} {rest : List Oper} {op : Oper} {a : Act} {w : World} {Q : Exit → Act → World → Prop} (x : Operand) (ho : op.op = .load 71 x) (hw : Region.wanted op (yielded ops a.tmps) = true)
    (b : Nat) (hx : a.eval x = .pointer (some ⟨b, 0, none⟩)) (cs : Array Value) (hb : w.heap[b]? = some (.cells cs 71 (0, 0))) (hc : cs.size = 128)
    (h : wpList Try.prog ops Q rest (a.put op.dst (.agg cs)) w) : wpList Try.prog ops Q (op :: rest) a w := by
  unfold wpList
  rw [if_pos hw]
  exact .inl (wp_load_row 71 x ho b hx 71 cs (0, 0) _ hb Try.underlying71 rfl (by rw [infoBlk, hc]) h)

set_option maxHeartbeats 4000000 in
set_option maxRecDepth 100000 in
theorem volEq_at {w : World} {b1 b2 N : Nat} {D1 D2 : VD} (h1 : OwnV w b1 N D1) (h2 : OwnV w b2 N D2) :
    Calls Try.prog 33 #[.map (some b1), .map (some b2)] w fun e w' => e = .returned (.bool (deq D1 D2)) ∧ Chg [] w w' := by
  have l1 := fun ty => h1.len (t := 68) Try.underlying68 ty
  have l2 := fun ty => h2.len (t := 68) Try.underlying68 ty
  have hres := equalD_deq (h1.canon KU) (h2.canon KU)
  obtain ⟨es1, rfl, hap, hkeys⟩ := h1.entries KU
  have hb2 := h2.lt
  generalize hq : deq (DataW.map es1) D2 = res at hres ⊢
  have RES := Lib.hid hres
  clear hres hq
  by_cases hsz : Maps.size (.map es1 : VD) = Maps.size D2
  · go_enter Try.func33, Try.ntmps33
    go_wp2_with (first
      | (at_range; refine wpList_range_own _ rfl _ 68 rfl 23 71 KU Try.underlying68 RB b1 N _ rfl h1 ?_; intro w0 hrg0 hg0 hs0)
      | go_in)
    go_frame
    go_loopw [16] (fun _ wr => ∃ (left : Lit → Bool) (cnt : Nat), wr.ranges Try.prog 23 RB b1 w.heap.size N (.map es1) left cnt ∧ OwnV wr b2 N D2 ∧ w.grownBy wr none ∧ Hid (GoodAt deq es1 D2 left))
      (fun _ wr => wr.rangeLeft b1 w.heap.size)
    case atStart => exact ⟨_, _, hrg0, h2.kept hg0 (by simp), hg0, good_start hkeys D2⟩
    case round =>
      obtain ⟨left, cnt, hrg, h2r, hgw, G⟩ := hrel
      go_upto_region 6 with (first
        | (at_next; refine wpList_next_ranges _ rfl _ rfl 23 KU RB id id (fun key _ _ => ⟨key, rfl⟩) (fun v _ _ => ⟨v, rfl⟩) b1 w.heap.size N _ _ _ rfl hrg ?_ ?_)
        | go_in)
      · intro _ hl0
        go_wp2
        go_ret
        exact ⟨by rw [← RES.out, all_good G.out hl0 hsz]; rfl, (Chg.refl [] w).grown hgw (by simp)⟩
      · intro x c kl yd yp w1 cnt1 hkey hlx hv hat hrg1 hlt hg1 hs1 hen
        have hgw1 : w.grownBy w1 none := hgw.andThen hg1 (fun j hj => by cases hj; exact Or.inl (Nat.le_refl _))
        have h2w1 : OwnV w1 b2 N D2 := h2r.kept hg1 (fun e => by have := Option.some.inj e; omega)
        have HAT := Lib.hid hat
        clear hat
        obtain ⟨rfl, rfl, hc⟩ := RB_inv hv
        obtain ⟨cs, rfl, hcs, -⟩ := isBlk_inv hc
        have zb := zeroBlk
        clear hs1
        go_upto_region 7 with (first
          | (refine wpList_storeBlk rfl (.tmp 6) (.tmp 20) rfl zBlk cs _ rfl rfl rfl (by simp [zBlk]) hc ?_)
          | (at_lookup; refine wpList_lookup_own_ok _ rfl _ _ 68 rfl 23 71 KU Try.underlying68 RB (zeroBlk _) _ [] (RB_mk zBlk_is) b2 N D2 rfl (h2w1.alloc _) _ kl rfl hkey ?_; intro v2 ps2 hv2; obtain ⟨hd2, rfl, hc2⟩ := RB_inv hv2; obtain ⟨ds, rfl, hds, -⟩ := isBlk_inv hc2; go_frame)
          | (refine wpList_storeBlk rfl (.tmp 7) (.tmp 25) rfl zBlk ds (w1.heap.size + 1) (by simp) rfl rfl (by simp [zBlk]) hc2 ?_)
          | go_in)
        have hW : w.grownBy ((w1.alloc (.cells cs 71)).alloc (.cells ds 71)) none := (hgw1.andThen (World.grownBy_alloc _ _ none) (by simp)).andThen (World.grownBy_alloc _ _ none) (by simp)
        have HB1 := Lib.hid (new_block21 w1 (.cells cs 71) (.cells ds 71))
        have HB2 := Lib.hid (new_block2 w1 (.cells cs 71) (.cells ds 71))
        have hR := (hrg1.alloc (.cells cs 71)).alloc (.cells ds 71)
        have hO := (h2w1.alloc (.cells cs 71)).alloc (.cells ds 71)
        have q1 := eqBlk (w := (w1.alloc (.cells cs 71)).alloc (.cells ds 71)) hc hc2
        clear hrg1 hg1 h2w1 hgw1 hen hv hv2 zb h1 h2 l1 l2 hrg0 hg0 hs0
        cases hh : Maps.has D2 kl
        · have hbad : Lib.goodD deq D2 (kl, .held (.agg cs)) = false := by unfold Lib.goodD; rw [hh]; rfl
          go_wp2_with fail
          go_ret
          exact ⟨by rw [← RES.out, bad_false hap hkeys HAT.out hbad]; rfl, (Chg.refl [] w).grown hW (by simp)⟩
        · have he0 : deq (.held (.agg cs) : VD) (D2.atKey kl .nil) = deq (.held (.agg cs) : VD) (.held (.agg ds)) := by rw [Maps.atKey_indep hh .nil (.held (.agg zBlk)), hd2]
          cases he : deq (.held (.agg cs) : VD) (.held (.agg ds)) <;> rw [he] at q1 he0
          · have hbad : Lib.goodD deq D2 (kl, .held (.agg cs)) = false := by unfold Lib.goodD; rw [hh, he0]; rfl
            go_wp2_with (first
              | (refine wpList_loadBlk (.tmp 6) rfl rfl _ rfl cs HB1.out hcs ?_)
              | (refine wpList_loadBlk (.tmp 7) rfl rfl _ rfl ds HB2.out hds ?_)
              | go_in)
            go_ret
            exact ⟨by rw [← RES.out, bad_false hap hkeys HAT.out hbad]; rfl, (Chg.refl [] w).grown hW (by simp)⟩
          · have hgood : Lib.goodD deq D2 (kl, .held (.agg cs)) = true := by unfold Lib.goodD; rw [hh, he0]; rfl
            go_wp2_with (first
              | (refine wpList_loadBlk (.tmp 6) rfl rfl _ rfl cs HB1.out hcs ?_)
              | (refine wpList_loadBlk (.tmp 7) rfl rfl _ rfl ds HB2.out hds ?_)
              | go_in)
            go_roundw
            case rel => exact ⟨_, cnt1, hR, hO, hW, good_step hap hkeys HAT.out G.out hgood⟩
            case measure => rw [hR.left_eq, hrg.left_eq]; exact hlt
  · have hne : ¬ ((Maps.size (.map es1 : VD) : Int) = (Maps.size D2 : Int)) := fun e => hsz (by exact_mod_cast e)
    go_enter Try.func33, Try.ntmps33
    go_wp2_with fail
    go_ret
    exact ⟨by rw [← RES.out, sizes_false hsz]; rfl, Chg.refl _ _⟩


set_option maxHeartbeats 4000000 in
set_option maxRecDepth 100000 in
theorem volEq_nil {w : World} {b1 N : Nat} {D1 : VD} (h1 : OwnV w b1 N D1) :
    Calls Try.prog 33 #[.map (some b1), .map none] w fun e w' => e = .returned (.bool (decide (Maps.size D1 = 0))) ∧ Chg [] w w' := by
  have l1 := fun ty => h1.len (t := 68) Try.underlying68 ty
  have l2 : ∀ ty, (Builtin.len_ #[68] ty #[.map none]).run Try.prog w = .ok (.int .i64 0) w := fun ty => Maps.len_nil Try.underlying68 ty
  obtain ⟨es1, rfl, hap, hkeys⟩ := h1.entries KU
  by_cases hsz : Maps.size (.map es1 : VD) = 0
  · rw [hsz] at l1
    go_enter Try.func33, Try.ntmps33
    go_wp2_with (first
      | (at_range; refine wpList_range_own _ rfl _ 68 rfl 23 71 KU Try.underlying68 RB b1 N _ rfl h1 ?_; intro w0 hrg0 hg0 hs0)
      | go_in)
    rw [hsz] at hrg0
    refine wp_loop_rounds 1 ?_
    rw [rounds_succ]
    go_wp2_with (first
      | (at_next; refine wpList_next_ranges _ rfl _ rfl 23 KU RB id id (fun key _ _ => ⟨key, rfl⟩) (fun v _ _ => ⟨v, rfl⟩) b1 w.heap.size N _ _ _ rfl hrg0 ?_ ?_)
      | go_in)
    · intros
      go_wp2
      go_ret
      exact ⟨by rw [decide_eq_true hsz]; rfl, (Chg.refl [] w).grown hg0 (by simp)⟩
    all_goals
      intros
      omega
  · have hne : ¬ ((Maps.size (.map es1 : VD) : Int) = 0) := fun e => hsz (by exact_mod_cast e)
    go_enter Try.func33, Try.ntmps33
    go_wp2_with fail
    go_ret
    exact ⟨by rw [decide_eq_false hsz]; rfl, Chg.refl _ _⟩

/-! ### maps.EqualFunc at the volumes -/
theorem alike_at {w : World} {b1 b2 N : Nat} {D1 D2 : VD} (h1 : OwnV w b1 N D1) (h2 : OwnV w b2 N D2) :
    Calls Try.prog 32 #[.map (some b1), .map (some b2)] w fun e w' => e = .returned (.bool (deq D1 D2)) ∧ Chg [] w w' := by
  have c := volEq_at h1 h2
  clear h1 h2
  generalize deq D1 D2 = r at c ⊢
  go_enter Try.func32, Try.ntmps32
  go_wp2_with fail
  refine c.mono ?_
  rintro e w' ⟨rfl, hC⟩
  go_wp2_with fail
  go_ret
  exact ⟨rfl, hC⟩
theorem alike_nil {w : World} {b1 N : Nat} {D1 : VD} (h1 : OwnV w b1 N D1) :
    Calls Try.prog 32 #[.map (some b1), .map none] w fun e w' => e = .returned (.bool (decide (Maps.size D1 = 0))) ∧ Chg [] w w' := by
  have c := volEq_nil h1
  clear h1
  generalize decide (Maps.size D1 = 0) = r at c ⊢
  go_enter Try.func32, Try.ntmps32
  go_wp2_with fail
  refine c.mono ?_
  rintro e w' ⟨rfl, hC⟩
  go_wp2_with fail
  go_ret
  exact ⟨rfl, hC⟩

/-- .. and nil, as the zero value of a volume. -/
def RVN (T : List Nat) (v : Value) : Option (DataW Nat × List MemPlace) := match v with | .map (some b) => if b ∈ T then some (.held b, []) else none | .map none => some (.nil, []) | _ => none
theorem RVN_inv {T : List Nat} {v : Value} {d : DataW Nat} {ps : List MemPlace} (h : RVN T v = some (d, ps)) : (∃ b, v = .map (some b) ∧ d = .held b ∧ b ∈ T) ∨ (v = .map none ∧ d = .nil) := by
  unfold RVN at h
  split at h
  · split at h
    · rename_i hb; injection h with h; injection h with h1 h2; exact .inl ⟨_, rfl, h1.symm, hb⟩
    · cases h
  · injection h with h; injection h with h1 h2; exact .inr ⟨rfl, h1.symm⟩
  · cases h

def blksOf (D : DataW Nat) : List Nat := (Lib.entriesD D).map fun p => tok p.2
theorem blksOf_mem {D : DataW Nat} (c : Canon D) {b : Nat} : b ∈ blksOf D ↔ ∃ k, has D k = true ∧ tok (D.atKey k .nil) = b := by
  obtain ⟨es, rfl, s, hk⟩ := c
  unfold blksOf Lib.entriesD
  simp only [List.mem_map]
  constructor
  · rintro ⟨p, hp, rfl⟩
    exact ⟨p.1, (has_mem hk).2 (List.mem_map.2 ⟨p, hp, rfl⟩), by rw [WideAt.atKey_mem .nil (hk p hp) (apart_of_rising s) hp]⟩
  · rintro ⟨k, h, rfl⟩
    obtain ⟨p, hp, rfl⟩ := List.mem_map.1 ((has_mem hk).1 h)
    exact ⟨p, hp, by rw [WideAt.atKey_mem .nil (hk p hp) (apart_of_rising s) hp]⟩

noncomputable def eqdV (C1 C2 : Nat → VD) (x y : DataW Nat) : Bool := match x, y with
  | .held a, .held b => deq (C1 a) (C2 b)
  | .held a, _ => decide (Maps.size (C1 a) = 0)
  | _, _ => false
noncomputable def volsEq (V1 V2 : Lit → Option VD) : Bool := @decide (V1 = V2) (Classical.propDecidable _)
theorem volsEq_iff {V1 V2 : Lit → Option VD} : volsEq V1 V2 = true ↔ V1 = V2 := by unfold volsEq; exact @decide_eq_true_iff _ (Classical.propDecidable _)

theorem vols_eqD {N M : Nat} {L1 L2 : List Nat} {w : World} {p q mb nb : Nat} {S T : St} {D1 D2 : DataW Nat} {C1 C2 : Nat → VD} (h1 : MdPt N L1 w p mb S D1 C1) (h2 : MdPt M L2 w q nb T D2 C2) :
    Lib.equalFuncD (eqdV C1 C2) D1 D2 = volsEq S.vols T.vols := by
  rw [Bool.eq_iff_iff, volsEq_iff, equalD_iff h1.canon h2.canon]
  constructor
  · rintro ⟨hh, he⟩
    funext k
    rw [h1.vols, h2.vols, ← hh]
    cases hk : has D1 k
    · rfl
    · have hk2 : has D2 k = true := by rw [← hh]; exact hk
      have := he k hk
      rw [tok_held h1.own hk, tok_held h2.own hk2] at this
      simp only [if_true]
      rw [deq_iff.1 this]
  · intro h
    have hh : ∀ k, has D1 k = has D2 k := fun k => by
      have hk := congrFun h k
      rw [h1.vols, h2.vols] at hk
      cases a : has D1 k <;> cases b : has D2 k <;> simp [a, b] at hk ⊢
    refine ⟨hh, fun k hk => ?_⟩
    have hk2 : has D2 k = true := by rw [← hh]; exact hk
    have e := congrFun h k
    rw [h1.vols, h2.vols, hk, hk2] at e
    simp only [if_true, Option.some.injEq] at e
    rw [tok_held h1.own hk, tok_held h2.own hk2]
    exact deq_iff.2 e

theorem eqF_at {N M : Nat} {L1 L2 : List Nat} {w : World} {p q mb nb : Nat} {S T : St} {D1 D2 : DataW Nat} {C1 C2 : Nat → VD} (h1 : MdPt N L1 w p mb S D1 C1) (h2 : MdPt M L2 w q nb T D2 C2) :
    Calls Try.prog 34 #[.map (some mb), .map (some nb), .func (.func 32) #[] #[]] w fun e w' => e = .returned (.bool (volsEq S.vols T.vols)) ∧ Chg [] w w' := by
  have eg : ∀ args w, (callFunc 32 args).run Try.prog w = .ok (.enter 32 args) w := enters_of Try.func32 (by kernel_rfl) rfl
  have o1 : w.ownsMap Try.prog 23 (RVL (blksOf D1)) mb N D1 := own_stay h1.own KU fun v d ps kl hk hd hv => by
    obtain ⟨b, rfl, rfl, rfl⟩ := RV_inv hv
    have : b ∈ blksOf D1 := (blksOf_mem h1.canon).2 ⟨kl, hk, by rw [hd]; rfl⟩
    unfold RVL
    simp only [if_pos this]
  have o2 : w.ownsMap Try.prog 23 (RVN (blksOf D2)) nb M D2 := own_stay h2.own KU fun v d ps kl hk hd hv => by
    obtain ⟨b, rfl, rfl, rfl⟩ := RV_inv hv
    have : b ∈ blksOf D2 := (blksOf_mem h2.canon).2 ⟨kl, hk, by rw [hd]; rfl⟩
    unfold RVN
    simp only [if_pos this]
  have hcon : Calls Try.prog 34 #[.map (some mb), .map (some nb), .func (.func 32) #[] #[]] w fun e w' => e = .returned (.bool (Lib.equalFuncD (eqdV C1 C2) D1 D2)) ∧ w.grownBy w' none :=
    AnyEq.maps_EqualFunc_opt Try.equalFA KU (RVL (blksOf D1)) (RVN (blksOf D2)) (eqdV C1 C2) 32 #[] (some mb) (some nb) D1 D2 w eg (.inr ⟨mb, N, rfl, o1⟩) (.inr ⟨nb, M, rfl, o2⟩) (.map none) Try.zeroValue68 .nil [] rfl
      (fun W x y xd yd xp yp hg hx hy => by
        obtain ⟨b, rfl, rfl, _, hb⟩ := RVL_inv hx
        obtain ⟨k, hk, rfl⟩ := (blksOf_mem h1.canon).1 hb
        have O1 : OwnV W _ _ _ := (h1.vol k hk).2.2.kept hg (by simp)
        rcases RVN_inv hy with ⟨c, rfl, rfl, hc⟩ | ⟨rfl, rfl⟩
        · obtain ⟨k', hk', rfl⟩ := (blksOf_mem h2.canon).1 hc
          have O2 : OwnV W _ _ _ := (h2.vol k' hk').2.2.kept hg (by simp)
          have := alike_at (O1.mono (Nat.le_add_right _ M)) (O2.mono (Nat.le_add_left _ N))
          exact this.mono fun e w' ⟨he, hc⟩ => ⟨he, ⟨hc.os, hc.tape, hc.output, hc.size, fun i hi _ => hc.block i hi (by simp)⟩⟩
        · exact (alike_nil O1).mono fun e w' ⟨he, hc⟩ => ⟨he, ⟨hc.os, hc.tape, hc.output, hc.size, fun i hi _ => hc.block i hi (by simp)⟩⟩)
  refine hcon.mono fun e w' ⟨he, hg⟩ => ⟨?_, (Chg.refl [] w).grown hg (by simp)⟩
  rw [he, vols_eqD h1 h2]

end Go.Proofs.Ytbejcmbdaoakbaa
