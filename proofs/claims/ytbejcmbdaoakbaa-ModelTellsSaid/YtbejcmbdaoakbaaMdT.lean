/- maps.DeleteFunc at volumes; trim. (Printed by mkmt.py.) -/
import Derived.Test.YtbejcmbdaoakbaaMdR
import Derived.Lib.SlMapFilter
namespace Go.Proofs.Ytbejcmbdaoakbaa
open Go.RowKit Go.Maps
set_option linter.unusedVariables false
set_option linter.unusedSimpArgs false

def pdT (pl n : Nat) (k : Lit) (_ : VD) : Bool := match k with | .int _ x => decide ((pl : Int) ≤ x) && decide (x - (pl : Int) < (n : Int)) | _ => false

set_option maxRecDepth 20000 in
set_option maxHeartbeats 1000000 in
theorem trim1_at {w : World} {g pl n : Nat} {x : Int} {cs : Array Value} (h2 : w.cell? ⟨g, 2, none⟩ = some (.int .u64 (pl : Int))) (h3 : w.cell? ⟨g, 3, none⟩ = some (.int .u64 (n : Int))) (hg : g < w.heap.size)
    (hx : 0 ≤ x ∧ x ≤ 18446744073709551615) (hc : isBlk (.agg cs) = true) :
    Calls Try.prog 61 #[.int .u64 x, .agg cs, .pointer (some ⟨g, 0, none⟩)] w fun e w' => e = .returned (.bool (decide ((pl : Int) ≤ x) && decide (x - (pl : Int) < (n : Int)))) ∧ Chg [] w w' := by
  by_cases h : (pl : Int) ≤ x
  · have e1 : IntKind.u64.wrap (x - (pl : Int)) = x - (pl : Int) := by rw [IntKind.wrap_u64]; omega
    have h' : ¬ x < (pl : Int) := by omega
    go_enter Try.func61, Try.ntmps61
    go_wp2_with fail
    go_ret
    exact ⟨rfl, (Chg.refl [] w).alloc _⟩
  · go_enter Try.func61, Try.ntmps61
    go_wp2_with fail
    go_ret
    exact ⟨by rw [decide_eq_false (show ¬ (pl : Int) ≤ x by omega), Bool.false_and]; rfl, (Chg.refl [] w).alloc _⟩

theorem chg_grown {w w' : World} (h : Chg [] w w') : w.grownBy w' none := ⟨h.os, h.tape, h.output, h.size, fun i hi _ => h.block i hi (by simp)⟩

set_option maxRecDepth 20000 in
set_option maxHeartbeats 4000000 in
theorem delF_at {w : World} {b N g pl n : Nat} {D : VD} (h : OwnV w b N D) (h2 : w.cell? ⟨g, 2, none⟩ = some (.int .u64 (pl : Int))) (h3 : w.cell? ⟨g, 3, none⟩ = some (.int .u64 (n : Int))) (hg : g < w.heap.size) (hgb : g ≠ b) :
    Calls Try.prog 60 #[.map (some b), .func (.func 61) #[] #[.pointer (some ⟨g, 0, none⟩)]] w fun e w' => e = .returned (.tuple #[]) ∧ OwnV w' b N (Lib.deleteFuncD (pdT pl n) D) ∧ Chg [b] w w' := by
  have eg : ∀ args w, (callFunc 61 args).run Try.prog w = .ok (.enter 61 args) w := enters_of Try.func61 (by kernel_rfl) rfl
  obtain ⟨es0, rfl, hap, hkeys⟩ := h.entries KU
  have HG := Lib.hid (And.intro h2 (And.intro h3 (And.intro hg hgb)))
  have hbw := h.lt
  clear h2 h3 hg hgb
  go_enter Try.func60, Try.ntmps60
  go_wp2_with (first
    | (at_range; refine wpList_range_own _ rfl _ 68 rfl 23 71 KU Try.underlying68 RB b N _ rfl h ?_; intro w0 hrg0 hg0 hs0)
    | go_in)
  go_frame
  go_loopw [8] (fun _ wr => ∃ (left : Lit → Bool) (cnt : Nat), wr.ranges Try.prog 23 RB b w.heap.size N (Fk (pdT pl n) es0 left) left cnt ∧ w.grownBy wr (some b))
    (fun _ wr => wr.rangeLeft b w.heap.size)
  case atStart => exact ⟨_, _, by rw [Fk_start hkeys]; exact hrg0, hg0.but _⟩
  case round =>
    obtain ⟨left, cnt, hrg, hgw⟩ := hrel
    clear hrg0 hg0 hs0 h
    go_upto_region 3 with (first
      | (at_next; refine wpList_next_ranges _ rfl _ rfl 23 KU RB id id (fun key _ _ => ⟨key, rfl⟩) (fun v _ _ => ⟨v, rfl⟩) b w.heap.size N _ _ _ rfl hrg ?_ ?_)
      | go_in)
    · intro _ hl0
      go_wp2
      go_end0
      exact ⟨rfl, by rw [← Fk_end hl0]; exact hrg.owns, (Chg.refl [b] w).grown hgw (by simp)⟩
    · intro x c kl yd yp w1 cnt1 hkey hlx hv hat hrg1 hlt hg1 hs1 hen
      have hgw1 := hgw.andThen hg1 (fun j hj => by cases hj; exact Or.inl (Nat.le_refl _))
      obtain ⟨rfl, rfl, hc⟩ := RB_inv hv
      obtain ⟨cs, rfl, hcs, -⟩ := isBlk_inv hc
      obtain ⟨xi, rfl, rfl, hw⟩ := Maps.keyOf_int_inv Try.underlying23 hkey
      have hxi : 0 ≤ xi ∧ xi ≤ 18446744073709551615 := by simp [Lit.wf, IntKind.min, IntKind.max, IntKind.signed, IntKind.bits] at hw; exact hw
      have zb := zeroBlk
      have HAT := Lib.hid hat
      have HL := Lib.hid (And.intro hlx (And.intro hlt (And.intro hkey (And.intro hxi hc))))
      have HRG := Lib.hid hrg1
      have HGW := Lib.hid hgw1
      clear hs1 hat hlx hlt hkey hxi hw hv hgw1 hg1 hgw
      go_upto_region 3 with (first
        | (refine wpList_storeBlk rfl (.tmp 5) (.tmp 12) rfl zBlk cs _ rfl rfl rfl (by simp [zBlk]) hc ?_)
        | go_in)
      have HB1 := Lib.hid (new_block w1 (.cells cs 71))
      have hW : Chg [b] w (w1.alloc (.cells cs 71)) := ((Chg.refl [b] w).grown HGW.out (by simp)).alloc _
      have hgW : w.grownBy (w1.alloc (.cells cs 71)) (some b) := HGW.out.andThen (World.grownBy_alloc _ _ none) (by simp)
      have hR := HRG.out.alloc (.cells cs 71)
      have g2 := (hW.cell (p := ⟨g, 2, none⟩) HG.out.2.2.1 (by simp; exact HG.out.2.2.2)).trans HG.out.1
      have g3 := (hW.cell (p := ⟨g, 3, none⟩) HG.out.2.2.1 (by simp; exact HG.out.2.2.2)).trans HG.out.2.1
      have hcl := trim1_at (x := xi) g2 g3 (Nat.lt_of_lt_of_le HG.out.2.2.1 hW.size) HL.out.2.2.2.1 hc
      have HGR := Lib.hid hgW
      have HR := Lib.hid hR
      clear hW g2 g3 hgW hR zb hen
      cases hp : pdT pl n (.int .u64 xi) (.held (.agg cs))
      · have hp' : (decide ((pl : Int) ≤ xi) && decide (xi - (pl : Int) < (n : Int))) = false := hp
        rw [hp'] at hcl
        go_wp2_with (first
          | (refine wpList_loadBlk (.tmp 5) rfl rfl _ rfl cs HB1.out hcs ?_)
          | (go_at_fn 61; refine hcl.mono ?_; rintro e w2 ⟨rfl, hC2⟩)
          | go_in)
        have hg2 := chg_grown hC2
        have hR2 := HR.out.kept hg2 (by simp) (by simp)
        obtain ⟨hlx, hlt, hkey, hxi, -⟩ := HL.out
        go_roundw
        case rel => exact ⟨_, cnt1, by rw [← Fk_stays hap (KU.key hkey) hlx hp HAT.out]; exact hR2, HGR.out.andThen hg2 (fun j hj => by cases hj)⟩
        case measure => rw [hR2.left_eq, hrg.left_eq]; exact hlt
      · have hp' : (decide ((pl : Int) ≤ xi) && decide (xi - (pl : Int) < (n : Int))) = true := hp
        rw [hp'] at hcl
        go_wp2_with (first
          | (refine wpList_loadBlk (.tmp 5) rfl rfl _ rfl cs HB1.out hcs ?_)
          | (go_at_fn 61; refine hcl.mono ?_; rintro e w2 ⟨rfl, hC2⟩; have hg2 := chg_grown hC2; have hR2 := HR.out.kept hg2 (by simp) (by simp))
          | (at_delete; refine wpList_delete_ranges _ rfl _ _ 68 23 rfl 71 KU Try.underlying68 RB b w.heap.size N _ _ _ rfl hR2 _ _ rfl HL.out.2.2.1 ?_; intro w3 cnt3 hrg3 hle hturn; go_frame)
          | go_in)
        rw [strike_twice] at hrg3
        obtain ⟨hlx, hlt, hkey, hxi, -⟩ := HL.out
        go_roundw
        case rel => exact ⟨_, cnt3, by rw [← Fk_struck hap (KU.key hkey) hlx hp HAT.out]; exact hrg3, (HGR.out.andThen hg2 (fun j hj => by cases hj)).andThen hturn.grown (fun j hj => by cases hj; exact Or.inr rfl)⟩
        case measure => rw [hrg3.left_eq, hrg.left_eq]; omega

theorem delD_le (pd : Lit → VD → Bool) (D : VD) : Maps.size (Lib.deleteFuncD pd D) ≤ Maps.size D := by
  cases D <;> try exact Nat.le_refl _
  exact List.length_filter_le _ _

set_option maxRecDepth 20000 in
set_option maxHeartbeats 4000000 in
theorem trim_at {N : Nat} {L : List Nat} {w : World} {p code vol pl n : Nat} {dv : Value} {S : St} (h : MdAt N L w p S) (hN : N ≤ 1000000) (hv : vol < 18446744073709551616) {Dv : VD} (hk : S.vols (kU vol) = some Dv) :
    Calls Try.prog 54 #[.pointer (some ⟨p, 0, none⟩), opV code vol pl n dv] w (Done N L w p (S.setVol vol (Lib.deleteFuncD (pdT pl n) Dv)) ⟨0, 0, 0, fun _ => 0, Maps.size Dv - Maps.size (Lib.deleteFuncD (pdT pl n) Dv)⟩) := by
  obtain ⟨mb, D, C, hp, M⟩ := h
  unfold mdRow at hp
  unfold opV
  have lp := heap_lt hp
  have hW : Chg [] w ((w.alloc (.cells #[.int .u8 (code : Int), .int .u64 (vol : Int), .int .u64 (pl : Int), .int .u64 (n : Int), dv] 26)).alloc (.cells #[.int .i64 0, .int .u64 0, .slice none 0 0, .int .i64 0] 32)) := ((Chg.refl [] w).alloc _).alloc _
  have hP := (hW.block p lp (by simp)).trans hp
  have hO := new_block21 w (.cells #[.int .u8 (code : Int), .int .u64 (vol : Int), .int .u64 (pl : Int), .int .u64 (n : Int), dv] 26) (.cells #[.int .i64 0, .int .u64 0, .slice none 0 0, .int .i64 0] 32)
  have hR := new_block2 w (.cells #[.int .u8 (code : Int), .int .u64 (vol : Int), .int .u64 (pl : Int), .int .u64 (n : Int), dv] 26) (.cells #[.int .i64 0, .int .u64 0, .slice none 0 0, .int .i64 0] 32)
  have hM := M.chg hW (by simp)
  have hlt := M.lt
  have HVL := Lib.hid hv
  have HAT := Lib.hid (M.vol_at hp hk)
  clear hv hk
  clear hp M lp
  go_enter Try.func54, Try.ntmps54
  go_upto_region 1 with fail
  generalize ((w.alloc (.cells #[.int .u8 (code : Int), .int .u64 (vol : Int), .int .u64 (pl : Int), .int .u64 (n : Int), dv] 26)).alloc (.cells #[.int .i64 0, .int .u64 0, .slice none 0 0, .int .i64 0] 32)) = W at *
  have x0 := cell_of_block hP 0
  have x1 := cell_of_block hP 1
  have x2 := cell_of_block hP 2
  simp only [List.getElem?_toArray, List.getElem?_cons_zero, List.getElem?_cons_succ] at x0 x1 x2
  have o0 := cell_of_block hO 0
  have o1 := cell_of_block hO 1
  have o2 := cell_of_block hO 2
  have o3 := cell_of_block hO 3
  have o4 := cell_of_block hO 4
  simp only [List.getElem?_toArray, List.getElem?_cons_zero, List.getElem?_cons_succ] at o0 o1 o2 o3 o4
  have r0 := cell_of_block hR 0
  have r1 := cell_of_block hR 1
  have r2 := cell_of_block hR 2
  have r3 := cell_of_block hR 3
  simp only [List.getElem?_toArray, List.getElem?_cons_zero, List.getElem?_cons_succ] at r0 r1 r2 r3
  have lp := heap_lt hP
  have lo := heap_lt hO
  have lr := heap_lt hR
  have fr0 := frozen_of_block hR 0
  have fr1 := frozen_of_block hR 1
  have fr2 := frozen_of_block hR 2
  have fr3 := frozen_of_block hR 3
  have HP := Lib.hid hP
  have HO := Lib.hid hO
  have HR := Lib.hid hR
  have HM := Lib.hid hM
  have HW := Lib.hid hW
  have HLT := Lib.hid hlt
  clear hP hO hR hM hW hlt
  have HVW := Lib.hid (own_chg HAT.out.2.2.2.2 HW.out (by simp))
  have htl := HLT.out _ HAT.out.2.1
  refine wp_region_held_drew (S := fun W' => W'.cell? ⟨p, 2, none⟩ = some (.map (some mb)) ∧ W'.cell? ⟨w.heap.size, 1, none⟩ = some (.int .u64 (vol : Int)) ∧ OwnM W' mb N D) (by kernel_rfl) (by exact ⟨x2, o1, HM.out.own⟩) (fun hHeld => ?_)
  refine wpAnyH_take (i := 0) (oi := ?_) (v := ?_) ?_ (by kernel_rfl) (by kernel_rfl) (by kernel_rfl) ?_ (Or.inl ⟨?_, ?_⟩) hHeld ?_
  rotate_left 2
  · (simp only [List.getElem?_toArray, List.getElem?_cons_succ, List.getElem?_cons_zero]; rfl)
  · exact fun _ _ _ h => h
  · rfl
  · (rintro W' ⟨s1, s2, s3⟩; have s4 := look_vol s3 HVL.out HAT.out.1; go_simp; first | done | with_reducible rfl)
  try simp only [Act.put, List.setIfInBounds_toArray, List.set_cons_zero, List.set_cons_succ]
  refine wpAnyH_take (i := 1) (oi := ?_) (v := ?_) ?_ (by kernel_rfl) (by kernel_rfl) (by kernel_rfl) ?_ (Or.inl ⟨?_, ?_⟩) hHeld ?_
  rotate_left 2
  · (simp only [List.getElem?_toArray, List.getElem?_cons_succ, List.getElem?_cons_zero]; rfl)
  · exact fun _ _ _ h => h
  · rfl
  · (rintro W' ⟨s1, s2, s3⟩; have s4 := look_vol s3 HVL.out HAT.out.1; go_simp; first | done | with_reducible rfl)
  try simp only [Act.put, List.setIfInBounds_toArray, List.set_cons_zero, List.set_cons_succ]
  refine wpAnyH_take (i := 2) (oi := ?_) (v := ?_) ?_ (by kernel_rfl) (by kernel_rfl) (by kernel_rfl) ?_ (Or.inl ⟨?_, ?_⟩) hHeld ?_
  rotate_left 2
  · (simp only [List.getElem?_toArray, List.getElem?_cons_succ, List.getElem?_cons_zero]; rfl)
  · exact fun _ _ _ h => h
  · rfl
  · (rintro W' ⟨s1, s2, s3⟩; have s4 := look_vol s3 HVL.out HAT.out.1; go_simp; first | done | with_reducible rfl)
  try simp only [Act.put, List.setIfInBounds_toArray, List.set_cons_zero, List.set_cons_succ]
  refine wpAnyH_take (i := 3) (oi := ?_) (v := ?_) ?_ (by kernel_rfl) (by kernel_rfl) (by kernel_rfl) ?_ (Or.inl ⟨?_, ?_⟩) hHeld ?_
  rotate_left 2
  · (simp only [List.getElem?_toArray, List.getElem?_cons_succ, List.getElem?_cons_zero]; rfl)
  · exact fun _ _ _ h => h
  · rfl
  · (rintro W' ⟨s1, s2, s3⟩; have s4 := look_vol s3 HVL.out HAT.out.1; go_simp; first | done | with_reducible rfl)
  try simp only [Act.put, List.setIfInBounds_toArray, List.set_cons_zero, List.set_cons_succ]
  refine wpAnyH_take (i := 4) (oi := ?_) (v := ?_) ?_ (by kernel_rfl) (by kernel_rfl) (by kernel_rfl) ?_ (Or.inl ⟨?_, ?_⟩) hHeld ?_
  rotate_left 2
  · (simp only [List.getElem?_toArray, List.getElem?_cons_succ, List.getElem?_cons_zero]; rfl)
  · exact fun _ _ _ h => h
  · rfl
  · (rintro W' ⟨s1, s2, s3⟩; have s4 := look_vol s3 HVL.out HAT.out.1; go_simp; first | done | with_reducible rfl)
  try simp only [Act.put, List.setIfInBounds_toArray, List.set_cons_zero, List.set_cons_succ]
  refine wpAnyH_take (i := 5) (oi := ?_) (v := ?_) ?_ (by kernel_rfl) (by kernel_rfl) (by kernel_rfl) ?_ (Or.inl ⟨?_, ?_⟩) hHeld ?_
  rotate_left 2
  · (simp only [List.getElem?_toArray, List.getElem?_cons_succ, List.getElem?_cons_zero]; rfl)
  · exact fun _ _ _ h => h
  · rfl
  · (rintro W' ⟨s1, s2, s3⟩; have s4 := look_vol s3 HVL.out HAT.out.1; go_simp; first | done | with_reducible rfl)
  try simp only [Act.put, List.setIfInBounds_toArray, List.set_cons_zero, List.set_cons_succ]
  refine wpAnyH_take (i := 6) (oi := ?_) (v := ?_) ?_ (by kernel_rfl) (by kernel_rfl) (by kernel_rfl) ?_ (Or.inl ⟨?_, ?_⟩) hHeld ?_
  rotate_left 2
  · (simp only [List.getElem?_toArray, List.getElem?_cons_succ, List.getElem?_cons_zero]; rfl)
  · exact fun _ _ _ h => h
  · rfl
  · (rintro W' ⟨s1, s2, s3⟩; have s4 := look_vol s3 HVL.out HAT.out.1; go_simp; first | done | with_reducible rfl)
  try simp only [Act.put, List.setIfInBounds_toArray, List.set_cons_zero, List.set_cons_succ]
  refine wpAnyH_take (i := 7) (oi := ?_) (v := ?_) ?_ (by kernel_rfl) (by kernel_rfl) (by kernel_rfl) ?_ (Or.inl ⟨?_, ?_⟩) hHeld ?_
  rotate_left 2
  · (simp only [List.getElem?_toArray, List.getElem?_cons_succ, List.getElem?_cons_zero]; rfl)
  · exact fun _ _ _ h => h
  · rfl
  · (rintro W' ⟨s1, s2, s3⟩; have s4 := look_vol s3 HVL.out HAT.out.1; go_simp; first | done | with_reducible rfl)
  try simp only [Act.put, List.setIfInBounds_toArray, List.set_cons_zero, List.set_cons_succ]
  refine wpAnyH_done (by kernel_rfl) ?_ _
  have hd := (Chg.refl [] W).drew
  have HV1 := Lib.hid (own_chg HVW.out hd (by simp))
  have HM1 := Lib.hid (HM.out.chg hd (by simp))
  have HP1 := Lib.hid ((hd.block p lp (by simp)).trans HP.out)
  have HR1 := Lib.hid ((hd.block (w.heap.size + 1) lr (by simp)).trans HR.out)
  have HW1 := Lib.hid (HW.out.trans hd)
  have q2 := (hd.cell (p := ⟨w.heap.size, 2, none⟩) lo (by simp)).trans o2
  have q3 := (hd.cell (p := ⟨w.heap.size, 3, none⟩) lo (by simp)).trans o3
  have lo1 := Nat.lt_of_lt_of_le lo hd.size
  have lp1 := Nat.lt_of_lt_of_le lp hd.size
  generalize W.drew = W1 at *
  have hl := fun ty => HV1.out.len (t := 68) Try.underlying68 ty
  clear x0 x1 x2 o0 o1 o2 o3 o4 r0 r1 r2 r3 fr0 fr1 fr2 fr3 lo lr lp hd
  have HQ := Lib.hid (And.intro q2 q3)
  clear q2 q3
  go_wp2_with fail
  refine (delF_at HV1.out HQ.out.1 HQ.out.2 lo1 (by omega)).mono ?_
  rintro e w2 ⟨rfl, hO2, hC2⟩
  have HO2 := Lib.hid hO2
  have HC2 := Lib.hid hC2
  have hl2 := fun ty => hO2.len (t := 68) Try.underlying68 ty
  have hR2 := (hC2.block (w.heap.size + 1) (heap_lt HR1.out) (by simp; omega)).trans HR1.out
  have HR2 := Lib.hid hR2
  have hle := delD_le (pdT pl n) Dv
  have hsz := HV1.out.size_le
  have HS := Lib.hid (And.intro hle hsz)
  have E1 : IntKind.i64.wrap ((Maps.size Dv : Int) - (Maps.size (Lib.deleteFuncD (pdT pl n) Dv) : Int)) = (Maps.size Dv : Int) - (Maps.size (Lib.deleteFuncD (pdT pl n) Dv) : Int) := by rw [IntKind.wrap_i64]; omega
  clear hl hle hsz hO2 hC2
  have r0 := cell_of_block hR2 0
  have r1 := cell_of_block hR2 1
  have r2 := cell_of_block hR2 2
  have r3 := cell_of_block hR2 3
  simp only [List.getElem?_toArray, List.getElem?_cons_zero, List.getElem?_cons_succ] at r0 r1 r2 r3
  have fr0 := frozen_of_block hR2 0
  have fr1 := frozen_of_block hR2 1
  have fr2 := frozen_of_block hR2 2
  have fr3 := frozen_of_block hR2 3
  have lr2 := heap_lt hR2
  clear hR2
  go_wp2_with fail
  obtain ⟨hR4, hC4⟩ := rep_store HR2.out (.int .i64 0) (.int .u64 0) (.slice none 0 0) (.int .i64 ((Maps.size Dv : Int) - (Maps.size (Lib.deleteFuncD (pdT pl n) Dv) : Int)))
  generalize (((w2.setCell ⟨w.heap.size + 1, 0, none⟩ (.int .i64 0)).setCell ⟨w.heap.size + 1, 1, none⟩ (.int .u64 0)).setCell ⟨w.heap.size + 1, 2, none⟩ (.slice none 0 0)).setCell ⟨w.heap.size + 1, 3, none⟩ (.int .i64 ((Maps.size Dv : Int) - (Maps.size (Lib.deleteFuncD (pdT pl n) Dv) : Int))) = W4 at *
  have l4 := heap_lt hR4
  have z0 := cell_of_block hR4 0
  have z1 := cell_of_block hR4 1
  have z2 := cell_of_block hR4 2
  have z3 := cell_of_block hR4 3
  simp only [List.getElem?_toArray, List.getElem?_cons_zero, List.getElem?_cons_succ] at z0 z1 z2 z3
  have ec : ((Maps.size Dv : Int) - (Maps.size (Lib.deleteFuncD (pdT pl n) Dv) : Int)) = ((Maps.size Dv - Maps.size (Lib.deleteFuncD (pdT pl n) Dv) : Nat) : Int) := by have := HS.out.1; omega
  have hc : Chg L w W4 := ((HW1.out.mono (by simp)).trans (HC2.out.mono (fun b hb => by simp at hb; rw [hb]; exact HAT.out.2.1))).then hC4 (by simp)
  have hM3 := HM1.out.chgVol HAT.out.1 rfl HC2.out (HO2.out.mono (Nat.le_succ _))
  have hM4 := hM3.chg hC4 (fun b hb => by have := HLT.out b hb; simp; omega)
  have hP4 := (hC4.block p (Nat.lt_of_lt_of_le lp1 HC2.out.size) (by simp; have := HLT.out p HM.out.pin; omega)).trans ((HC2.out.block p lp1 (by simp; exact fun e => HAT.out.2.2.2.1 e.symm)).trans HP1.out)
  rw [ec] at z3
  exact bodyPost_ret (v := repV 0 0 (.slice none 0 0) (Maps.size Dv - Maps.size (Lib.deleteFuncD (pdT pl n) Dv))) (by simp [results, Try.results54, go_sem, repV, l4, z0, z1, z2, z3]) rfl ⟨L, none, 0, rfl, ⟨mb, _, _, hP4, hM4⟩, fun b hb => .inl hb, bytes_none, fun b hb => (by cases hb), hc⟩

end Go.Proofs.Ytbejcmbdaoakbaa
