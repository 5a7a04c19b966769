/- Package base: the steps of pages. -/
import Derived.Test.YtkhcaclndepgbaaGreatZr32
set_option linter.unusedVariables false
set_option linter.unusedSimpArgs false
set_option maxRecDepth 100000
set_option maxHeartbeats 20000000
namespace Go.Proofs.YtkhcaclndepgbaaGreat
open Go.RowKit
theorem infoStp : (Tryz.prog.info? 142).map (fun i => (i.zero, i.size, i.bytes)) = some (some (.agg #[.nilFunc]), 1, 8) := by kernel_rfl
def StepsAt (w : World) (base dp n : Nat) (v : Value) (ops : List (Option (Nat × (Nat → Nat)))) : Prop :=
 ∃ vs : List Value, w.ownsRow base 142 1 v ops.length vs ∧ ∀ (i : Nat) (x : Option (Nat × (Nat → Nat))), ops[i]? = some x → ∃ u : Value, vs[i]? = some u ∧ StepIs w dp n u x
theorem StepsAt.nil (w : World) (base dp n : Nat) : StepsAt w base dp n (.slice none 0 0) [] := ⟨[], World.ownsRow_nil _ _ _ _, fun i x h => by cases h⟩
theorem StepsAt.mono {w : World} {base base' dp n : Nat} {v : Value} {ops : List (Option (Nat × (Nat → Nat)))} (h : StepsAt w base dp n v ops) (hb : base' ≤ base) : StepsAt w base' dp n v ops := by
 obtain ⟨vs, h1, h2⟩ := h
 exact ⟨vs, ownRow_mono h1 hb, h2⟩
theorem stepRow_far {W w5 : World} {base n k dp : Nat} {v u : Value} {vs : List Value} {x : Option (Nat × (Nat → Nat))} (hrow : W.ownsRow base 142 1 v k vs) (hg : W.grownBy w5 v.ownBlock) (h : StepIs W dp n u x) : StepIs w5 dp n u x := by
 refine h.far ((Chg.refl (ownL v) W).grown hg (fun q hq => .inl (mem_ownL.2 hq))) (fun q hq cs T y hcs => ?_)
 rw [mem_ownL] at hq
 rcases hrow.2 with ⟨rfl, _⟩ | ⟨gg, cc, cur, rfl, _, hgg, _⟩
 ·cases hq
 ·have : gg = q := by simpa [Value.ownBlock] using hq
  subst this
  rw [hcs] at hgg
  injection hgg with hgg
  injection hgg with _ e _
  subst e
  decide
theorem steps_snoc {wr w3 W w5 : World} {base dp n k : Nat} {v v' u : Value} {vs : List Value} {ops : List (Option (Nat × (Nat → Nat)))} {x : Nat × (Nat → Nat)} (hk : ops.length = k) (hrow : wr.ownsRow base 142 1 v k vs)
  (hall : ∀ (i : Nat) (x : Option (Nat × (Nat → Nat))), ops[i]? = some x → ∃ u : Value, vs[i]? = some u ∧ StepIs wr dp n u x) (hst : StepIs w3 dp n u (some x)) (hc3 : Chg [] w3 W) (hc4 : Chg [] wr W)
  (hown : w5.ownsRow base 142 1 v' (k + 1) (vs ++ [u])) (hg : W.grownBy w5 v.ownBlock) : StepsAt w5 base dp n v' (ops ++ [some x]) := by
 have hrW := own_chgT hrow hc4 (by simp)
 have hlen : vs.length = k := by have := hrow.1; simpa using this
 refine ⟨vs ++ [u], by rw [List.length_append, hk]; exact hown, fun i y hy => ?_⟩
 by_cases hi : i < ops.length
 ·rw [List.getElem?_append_left hi] at hy
  obtain ⟨u', h1, h2⟩ := hall i y hy
  refine ⟨u', by rw [List.getElem?_append_left (by omega)]; exact h1, stepRow_far hrW hg (h2.on hc4)⟩
 ·rw [List.getElem?_append_right (by omega)] at hy
  have e : i = ops.length := by
   by_cases q : i = ops.length
   ·exact q
   ·rw [List.getElem?_eq_none (by simp; omega)] at hy; cases hy
  subst e
  rw [Nat.sub_self] at hy
  injection hy with hy
  subst hy
  refine ⟨u, by rw [List.getElem?_append_right (by omega), hlen, hk, Nat.sub_self]; rfl, stepRow_far hrW hg (hst.on hc3)⟩
theorem baPaged_at {w : World} {dp t bc bk N : Nat} {T : Tal} {u0 u1 z0 z1 : Value} {A : Nat → Nat → Nat} {g c : Nat → Nat} {l0 l1 : List Nat} (HT : TallyAt w t bc bk T) (hN : T.n = N) (hn : 1 ≤ N ∧ N ≤ 4096) (hle : ∀ i, i < N → T.now i < 65536) (hl0 : l0.length ≤ 4096) (hl1 : l1.length ≤ 4096) (hv : ShV w u0 u1 A (nOf N) g c)
  (s0 : SlI w z0 l0) (s1 : SlI w z1 l1) (h0 : ∀ i, i < l0.length → l0.getD i 0 < nOf N 0) (h1 : ∀ i, i < l1.length → l1.getD i 0 < nOf N 1) (hA : ∀ k i, k < 2 → i < nOf N k → A k i < N) :
  Calls Tryz.prog 86 #[.pointer (some ⟨dp, 0, none⟩), .pointer (some ⟨t, 0, none⟩), .agg #[u0, u1], z0, z1] w fun e w' => ∃ v, e = .returned v ∧
   StepsAt w' w.heap.size dp N v ((l0.map fun i => some (A 0 i, rowP 5 N T.now i)) ++ (l1.map fun i => some (A 1 i, rowP 4 (pg N) (A 0) i))) ∧ Chg [] w w' := by
 obtain ⟨a0, b0, e0⟩ := s0.len
 obtain ⟨a1, b1, e1⟩ := s1.len
 have eu0 := hv.e0
 have eu1 := hv.e1
 subst e0; subst e1; subst eu0; subst eu1
 obtain ⟨n0, hn0⟩ : ∃ n, n = l0.length := ⟨_, rfl⟩
 obtain ⟨n1, hn1⟩ : ∃ n, n = l1.length := ⟨_, rfl⟩
 rw [← hn0, ← hn1]
 have H := Lib.hid (And.intro HT (And.intro hv (And.intro s0 (And.intro s1 (And.intro h0 (And.intro h1 hA))))))
 have HN := Lib.hid (And.intro hN (And.intro hn0 hn1))
 clear HT hv s0 s1 h0 h1 hA hN hn0 hn1
 go_enter Tryz.func86, Tryz.ntmps86
 go_wp2_with fail
 have hx := new_block w (.cells #[.slice (some ⟨g 0, 0, none⟩) (nOf N 0) (c 0), .slice (some ⟨g 1, 0, none⟩) (nOf N 1) (c 1)] 42)
 have hxc : Chg [] w (w.alloc (.cells #[.slice (some ⟨g 0, 0, none⟩) (nOf N 0) (c 0), .slice (some ⟨g 1, 0, none⟩) (nOf N 1) (c 1)] 42)) := (Chg.refl [] w).alloc _
 obtain ⟨wA, hwA⟩ : ∃ wA, wA = w.alloc (.cells #[.slice (some ⟨g 0, 0, none⟩) (nOf N 0) (c 0), .slice (some ⟨g 1, 0, none⟩) (nOf N 1) (c 1)] 42) := ⟨_, rfl⟩
 rw [← hwA] at hx hxc ⊢
 have HX := Lib.hid (And.intro hx hxc)
 clear hwA hx hxc
 go_loopw [11, 22] (fun v s wr => ∃ k : Nat, k ≤ n0 ∧ s = .int .i64 (k : Int) ∧ Hid (StepsAt wr wA.heap.size dp N v ((l0.take k).map fun i => some (A 0 i, rowP 5 N T.now i)) ∧ Chg [] wA wr)) (fun _ s _ => n0 - (intOf s).toNat)
 case atStart => exact ⟨0, Nat.zero_le _, by go_num, Lib.hid ⟨StepsAt.nil _ _ _ _, Chg.refl _ _⟩⟩
 case round =>
  obtain ⟨k, hk, rfl, hH⟩ := hrel
  by_cases hlt : k < n0
  ·have hcA := HX.out.2.trans hH.out.2
   obtain ⟨x, hxe⟩ : ∃ x, x = l0.getD k 0 := ⟨_, rfl⟩
   have hcell : ∃ gz, a0 = some ⟨gz, 0, none⟩ ∧ wr.cell? ⟨gz, k, none⟩ = some (.int .i64 (x : Int)) := by
    rcases H.out.2.2.1 with ⟨e, e2⟩ | ⟨gz, cap, e, q1, q2, q3, q4⟩
    ·have := HN.out.2.1; rw [e2] at this; simp at this; omega
    ·injection e with e _ _
     exact ⟨gz, e, (hcA.cell (p := ⟨gz, k, none⟩) q3 (by simp)).trans (by rw [hxe]; exact q4 k (by have := HN.out.2.1; omega))⟩
   obtain ⟨gz, rfl, hcz⟩ := hcell
   have hxb : x < nOf N 0 := by rw [hxe]; exact H.out.2.2.2.2.1 k (by have := HN.out.2.1; omega)
   have hx61 : 61 * x < N := by unfold nOf pg at hxb; simp at hxb; omega
   have i1 : (k : Int) < (n0 : Int) := by omega
   have ct := counts_at (H.out.1.chg hcA (by simp) (by simp) (by simp)) x (by rw [HN.out.1]; exact hx61)
   have CT := Lib.hid ct
   have HXE := Lib.hid hxe
   clear ct hxe hcA
   go_wp2_with fail
   refine CT.out.mono ?_
   rintro e w1 ⟨v1, rfl, hrow, hc1⟩
   rw [HN.out.1, show min (61 * x + 61) N - 61 * x = min 61 (N - 61 * x) by omega] at hrow
   obtain ⟨va, vc, rfl, hvc, hvm, hU⟩ := u16In_own (l := fun j => T.now (61 * x + j)) hrow (fun i hi => hle _ (by omega))
   have ce := ixEncode_at (kind := 5) (cap := vc) (.inr rfl) (show min 61 (N - 61 * x) ≤ 61 by omega) hU
   have CE := Lib.hid ce
   have HC1 := Lib.hid hc1
   clear hrow hU ce hc1 CT
   go_wp2_with fail
   refine CE.out.mono ?_
   clear CE
   rintro e w2 ⟨gp, rfl, hgp, hgs, hc2⟩
   have hcA := HX.out.2.trans (hH.out.2.trans (HC1.out.trans hc2))
   have hcX := hH.out.2.trans (HC1.out.trans hc2)
   have hxl := heap_lt HX.out.1
   have x0 := (hcX.cell (p := ⟨w.heap.size, 0, none⟩) hxl (by simp)).trans (cell_of_block HX.out.1 0)
   simp only [List.getElem?_toArray, List.getElem?_cons_zero] at x0
   obtain ⟨y, hy⟩ : ∃ y, y = A 0 x := ⟨_, rfl⟩
   have hyN : y < N := by rw [hy]; exact H.out.2.2.2.2.2.2 0 x (by omega) hxb
   have y0 : w2.cell? ⟨g 0, x, none⟩ = some (.int .i64 (y : Int)) := by
    rcases H.out.2.1.l 0 (by omega) with ⟨e, _⟩ | ⟨gg, cap, e, q1, q2, q3, q4⟩
    ·cases e
    ·injection e with e _ _
     injection e with e
     injection e with e
     have := q4 x (by rw [atL_len]; exact hxb)
     rw [atL_get _ _ hxb, ← e] at this
     rw [hy]
     exact (hcA.cell (p := ⟨g 0, x, none⟩) (by rw [e]; exact q3) (by simp)).trans this
   have i2 : (x : Int) < (nOf N 0 : Int) := by omega
   have hby : BytesAt w2 gp 0 128 (pageI 5 (min 61 (N - 61 * x)) fun j => T.now (61 * x + j)) := fun i hi => ⟨by rw [Nat.zero_add, cell_of_block hgp, u8s_get hi], pageI_le (by omega) (by omega) i⟩
   have cp := baPut_at (dp := dp) (cap := 128) hyN (Nat.le_refl _) hby ⟨_, _, hgp⟩
   have CP := Lib.hid cp
   have HC2 := Lib.hid (And.intro hc2 (And.intro hy hcX))
   clear hcA hcX hby cp hgp hgs hc2 hy
   go_wp2_with fail
   refine CP.out.mono ?_
   clear CP
   rintro e w3 ⟨gf, lb, rfl, hst, hc3⟩
   obtain ⟨vs, hrow, hall⟩ := hH.out.1
   have hn3 := new_block w3 (.cells #[.func gf #[] lb] 142)
   have hc4 : Chg [] wr (w3.alloc (.cells #[.func gf #[] lb] 142)) := ((HC1.out.trans HC2.out.1).trans hc3).alloc _
   have hsz := hc4.size
   have hsA := hH.out.2.size
   have hcX := hH.out.2
   rw [show ((l0.take k).map fun i => some (A 0 i, rowP 5 N T.now i)).length = k by rw [List.length_map, List.length_take]; have := HN.out.2.1; omega] at hrow
   have hk4 : k ≤ 4096 := by have := HN.out.2.1; omega
   have HS := Lib.hid (And.intro hst (And.intro hc3 (And.intro hrow (And.intro hall (And.intro hn3 hc4)))))
   have HCX := Lib.hid hcX
   clear hst hc3 hrow hall hn3 hc4 hH hcX
   go_wp2_with (at_builtin; refine wpList_app rfl _ _ 136 rfl rfl (base := wA.heap.size) (size := 1) (n := k) (m := 1) (xs := vs) (news := [.func gf #[] lb]) Tryz.underlying136 infoStp rfl (by omega) (by omega) rfl rfl (own_chgT HS.out.2.2.1 HS.out.2.2.2.2.2 (by simp)) (AppSrc.blk HS.out.2.2.2.2.1 rfl (fun u hu => by simp at hu; subst hu; rfl)) (by omega) (Nat.le_trans hsA hsz) ?_; intro v' w5 hown5 hg5 ho5; have H5 := Lib.hid (And.intro hown5 (And.intro hg5 ho5)); clear hown5 hg5 ho5)
   go_roundw
   case rel =>
    have hce := HXE.out
    have e1 : l0.take (k + 1) = l0.take k ++ [x] := by
     rw [List.take_add_one]
     congr 1
     have hk' : k < l0.length := by have := HN.out.2.1; omega
     rw [HXE.out, List.getElem?_eq_getElem hk', List.getD_eq_getElem?_getD, List.getElem?_eq_getElem hk']
     rfl
    refine ⟨k + 1, by omega, by go_num, Lib.hid ⟨?_, (HCX.out.trans HS.out.2.2.2.2.2).grown H5.out.2.1 (fun q hq => .inr (HS.out.2.2.1.lt q hq).1)⟩⟩
    rw [e1, List.map_append]
    have := steps_snoc (by rw [List.length_map, List.length_take]; have := HN.out.2.1; omega) HS.out.2.2.1 HS.out.2.2.2.1 HS.out.1 ((Chg.refl [] w3).alloc _) HS.out.2.2.2.2.2 H5.out.1 H5.out.2.1
    rw [HC2.out.2.1] at this
    exact this
   case measure => simp [intOf]; omega
  ·obtain rfl : k = n0 := by omega
   have hT0 : (l0.take k).map (fun i => some (A 0 i, rowP 5 N T.now i)) = l0.map (fun i => some (A 0 i, rowP 5 N T.now i)) := by rw [List.take_of_length_le (by have := HN.out.2.1; omega)]
   have HD := Lib.hid (And.intro (hT0 ▸ hH.out.1) hH.out.2)
   clear hT0 hH
   obtain ⟨O0, hO0⟩ : ∃ O0, O0 = l0.map (fun i => some (A 0 i, rowP 5 N T.now i)) := ⟨_, rfl⟩
   rw [← hO0] at HD
   have hOl : O0.length = k := by rw [hO0, List.length_map]; exact HN.out.2.1.symm
   have HO := Lib.hid hO0
   clear hO0
   go_wp2_with fail
   go_loopw [11, 47] (fun v s wr => ∃ m : Nat, m ≤ n1 ∧ s = .int .i64 (m : Int) ∧ Hid (StepsAt wr wA.heap.size dp N v (O0 ++ (l1.take m).map fun i => some (A 1 i, rowP 4 (pg N) (A 0) i)) ∧ Chg [] wA wr)) (fun _ s _ => n1 - (intOf s).toNat)
   case atStart => exact ⟨0, Nat.zero_le _, by go_num, Lib.hid ⟨by rw [List.take_zero, List.map_nil, List.append_nil]; exact HD.out.1, HD.out.2⟩⟩
   case round =>
    obtain ⟨m, hm, rfl, hH⟩ := hrel
    by_cases hlt : m < n1
    ·have hcA := HX.out.2.trans hH.out.2
     obtain ⟨x, hxe⟩ : ∃ x, x = l1.getD m 0 := ⟨_, rfl⟩
     have hcell : ∃ gz, a1 = some ⟨gz, 0, none⟩ ∧ wr.cell? ⟨gz, m, none⟩ = some (.int .i64 (x : Int)) := by
      rcases H.out.2.2.2.1 with ⟨e, e2⟩ | ⟨gz, cap, e, q1, q2, q3, q4⟩
      ·have := HN.out.2.2; rw [e2] at this; simp at this; omega
      ·injection e with e _ _
       exact ⟨gz, e, (hcA.cell (p := ⟨gz, m, none⟩) q3 (by simp)).trans (by rw [hxe]; exact q4 m (by have := HN.out.2.2; omega))⟩
     obtain ⟨gz, rfl, hcz⟩ := hcell
     have hxb : x < nOf N 1 := by rw [hxe]; exact H.out.2.2.2.2.2.1 m (by have := HN.out.2.2; omega)
     have e0 : nOf N 0 = pg N := rfl
     have hx61 : 61 * x < nOf N 0 := by rw [e0]; have : nOf N 1 = pg (pg N) := rfl; rw [this] at hxb; unfold pg at hxb ⊢; omega
     have hNN : nOf N 0 ≤ 4096 := by rw [e0]; unfold pg; omega
     have i1 : (m : Int) < (n1 : Int) := by omega
     have hxl := heap_lt HX.out.1
     have x0 := (hH.out.2.cell (p := ⟨w.heap.size, 0, none⟩) hxl (by simp)).trans (cell_of_block HX.out.1 0)
     simp only [List.getElem?_toArray, List.getElem?_cons_zero] at x0
     have hg0 : nOf N 0 ≤ c 0 ∧ c 0 ≤ maxLen ∧ g 0 < w.heap.size ∧ ∀ i, i < nOf N 0 → w.cell? ⟨g 0, i, none⟩ = some (.int .i64 (A 0 i : Int)) := by
      rcases H.out.2.1.l 0 (by omega) with ⟨e, _⟩ | ⟨gg, cap, e, q1, q2, q3, q4⟩
      ·cases e
      ·injection e with e e2 e3
       injection e with e
       injection e with e
       rw [e3, e2, e]
       refine ⟨q1, q2, q3, fun i hi => ?_⟩
       have := q4 i hi
       rw [← e2] at hi
       rw [atL_get _ _ hi] at this
       exact this
     have cpt := baPart_at (w := wr) (g := g 0) (i := x) hx61 (by omega) hg0.1 hg0.2.1
     have cnm := baNumbers_at (w := wr) (g := g 0) (o := 61 * x) (a := some ⟨g 0, 61 * x, none⟩) (n := min 61 (nOf N 0 - 61 * x)) (c := c 0 - 61 * x) (l := fun j => A 0 (61 * x + j)) (by omega) (by omega) (fun i hi => by have := H.out.2.2.2.2.2.2 0 (61 * x + i) (by omega) (by omega); omega)
      (fun _ => ⟨rfl, Nat.lt_of_lt_of_le hg0.2.2.1 hcA.size, fun i hi => (hcA.cell (p := ⟨g 0, 61 * x + i, none⟩) hg0.2.2.1 (by simp)).trans (hg0.2.2.2 _ (by omega))⟩)
     have CNM := Lib.hid cnm
     have HXE := Lib.hid hxe
     have hG0 := Lib.hid hg0
     have E0 := Lib.hid e0
     have CPT := Lib.hid cpt
     clear cnm hxe hcA hg0 e0 cpt
     go_wp2_with fail
     refine CPT.out.mono ?_
     rintro e w' ⟨rfl, rfl⟩
     go_wp2_with fail
     refine CNM.out.mono ?_
     rintro e w1 ⟨v1, rfl, hrow, hc1⟩
     obtain ⟨va, vc, rfl, hvc, hvm, hU⟩ := u16In_own hrow (fun i hi => by have := H.out.2.2.2.2.2.2 0 (61 * x + i) (by omega) (by omega); omega)
     have ce := ixEncode_at (kind := 4) (cap := vc) (.inl rfl) (show min 61 (nOf N 0 - 61 * x) ≤ 61 by omega) hU
     have CE := Lib.hid ce
     have HC1 := Lib.hid hc1
     clear hrow hU ce hc1 CNM CPT
     go_wp2_with fail
     refine CE.out.mono ?_
     clear CE
     rintro e w2 ⟨gp, rfl, hgp, hgs, hc2⟩
     have hcA := HX.out.2.trans (hH.out.2.trans (HC1.out.trans hc2))
     have hcX := hH.out.2.trans (HC1.out.trans hc2)
     have x1 := (hcX.cell (p := ⟨w.heap.size, 1, none⟩) hxl (by simp)).trans (cell_of_block HX.out.1 1)
     simp only [List.getElem?_toArray, List.getElem?_cons_zero, List.getElem?_cons_succ] at x1
     obtain ⟨y, hy⟩ : ∃ y, y = A 1 x := ⟨_, rfl⟩
     have hyN : y < N := by rw [hy]; exact H.out.2.2.2.2.2.2 1 x (by omega) hxb
     have y0 : w2.cell? ⟨g 1, x, none⟩ = some (.int .i64 (y : Int)) := by
      rcases H.out.2.1.l 1 (by omega) with ⟨e, _⟩ | ⟨gg, cap, e, q1, q2, q3, q4⟩
      ·cases e
      ·injection e with e _ _
       injection e with e
       injection e with e
       have := q4 x (by rw [atL_len]; exact hxb)
       rw [atL_get _ _ hxb, ← e] at this
       rw [hy]
       exact (hcA.cell (p := ⟨g 1, x, none⟩) (by rw [e]; exact q3) (by simp)).trans this
     have i2 : (x : Int) < (nOf N 1 : Int) := by omega
     have hby : BytesAt w2 gp 0 128 (pageI 4 (min 61 (nOf N 0 - 61 * x)) fun j => A 0 (61 * x + j)) := fun i hi => ⟨by rw [Nat.zero_add, cell_of_block hgp, u8s_get hi], pageI_le (by omega) (by omega) i⟩
     have cp := baPut_at (dp := dp) (cap := 128) hyN (Nat.le_refl _) hby ⟨_, _, hgp⟩
     have CP := Lib.hid cp
     have HC2 := Lib.hid (And.intro hc2 (And.intro hy hcX))
     clear hcA hcX hby cp hgp hgs hc2 hy
     go_wp2_with fail
     refine CP.out.mono ?_
     clear CP
     rintro e w3 ⟨gf, lb, rfl, hst, hc3⟩
     obtain ⟨vs, hrow, hall⟩ := hH.out.1
     have hn3 := new_block w3 (.cells #[.func gf #[] lb] 142)
     have hc4 : Chg [] wr (w3.alloc (.cells #[.func gf #[] lb] 142)) := ((HC1.out.trans HC2.out.1).trans hc3).alloc _
     have hsz := hc4.size
     have hsA := hH.out.2.size
     have hcX := hH.out.2
     have hOm : (O0 ++ (l1.take m).map fun i => some (A 1 i, rowP 4 (pg N) (A 0) i)).length = k + m := by rw [List.length_append, hOl, List.length_map, List.length_take]; have := HN.out.2.2; omega
     rw [hOm] at hrow
     have hk4 : k + m ≤ 10000 := by have := HN.out.2; omega
     have HS := Lib.hid (And.intro hst (And.intro hc3 (And.intro hrow (And.intro hall (And.intro hn3 hc4)))))
     have HCX := Lib.hid (And.intro hcX hOm)
     clear hst hc3 hrow hall hn3 hc4 hH hcX hOm
     go_wp2_with (at_builtin; refine wpList_app rfl _ _ 136 rfl rfl (base := wA.heap.size) (size := 1) (n := k + m) (m := 1) (xs := vs) (news := [.func gf #[] lb]) Tryz.underlying136 infoStp rfl (by omega) (by omega) rfl rfl (own_chgT HS.out.2.2.1 HS.out.2.2.2.2.2 (by simp)) (AppSrc.blk HS.out.2.2.2.2.1 rfl (fun u hu => by simp at hu; subst hu; rfl)) (by omega) (Nat.le_trans hsA hsz) ?_; intro v' w5 hown5 hg5 ho5; have H5 := Lib.hid (And.intro hown5 (And.intro hg5 ho5)); clear hown5 hg5 ho5)
     go_roundw
     case rel =>
      have e1 : l1.take (m + 1) = l1.take m ++ [x] := by
       rw [List.take_add_one]
       congr 1
       have hk' : m < l1.length := by have := HN.out.2.2; omega
       rw [HXE.out, List.getElem?_eq_getElem hk', List.getD_eq_getElem?_getD, List.getElem?_eq_getElem hk']
       rfl
      refine ⟨m + 1, by omega, by go_num, Lib.hid ⟨?_, (HCX.out.1.trans HS.out.2.2.2.2.2).grown H5.out.2.1 (fun q hq => .inr (HS.out.2.2.1.lt q hq).1)⟩⟩
      rw [e1, List.map_append, ← List.append_assoc]
      have := steps_snoc HCX.out.2 HS.out.2.2.1 HS.out.2.2.2.1 HS.out.1 ((Chg.refl [] w3).alloc _) HS.out.2.2.2.2.2 H5.out.1 H5.out.2.1
      rw [HC2.out.2.1, E0.out] at this
      exact this
     case measure => simp [intOf]; omega
    ·obtain rfl : m = n1 := by omega
     have hT1 : (l1.take m).map (fun i => some (A 1 i, rowP 4 (pg N) (A 0) i)) = l1.map (fun i => some (A 1 i, rowP 4 (pg N) (A 0) i)) := by rw [List.take_of_length_le (by have := HN.out.2.2; omega)]
     have HD1 := Lib.hid (And.intro (hT1 ▸ hH.out.1) hH.out.2)
     clear hT1 hH
     go_wp2_with fail
     go_ret
     refine ⟨_, rfl, ?_, HX.out.2.trans HD1.out.2⟩
     have := HD1.out.1.mono (base' := w.heap.size) HX.out.2.size
     rw [HO.out] at this
     exact this
end Go.Proofs.YtkhcaclndepgbaaGreat
