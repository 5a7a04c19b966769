/- Layer 11's statements: a state in memory (two maps, roots, marks); copied. -/
import Derived.Test.YtkhcaclndepgbaaGreatZd39
import Derived.BigRegion
set_option linter.unusedVariables false
set_option linter.unusedSimpArgs false
set_option maxRecDepth 100000
set_option maxHeartbeats 20000000
namespace Go.Proofs.YtkhcaclndepgbaaGreat
open Go.RowKit
structure St where
 c : Nat → Nat
 d : Nat → Nat → Nat
 r : Nat → Nat
 m : Nat → Nat
def goodI (v : Value) : Bool := match v with | .int .i64 _ => true | _ => false
def goodS (v : Value) : Bool := match v with | .agg #[.string _] => true | _ => false
def St.cV (S : St) (k : Nat) : Option Value := if S.c k = 0 then none else some (.int .i64 (S.c k : Int))
def St.dV (S : St) (k : Nat) : Option Value := if S.c k = 0 then none else some (.agg #[.string (bstr 128 (S.d k))])
def St.v (S : St) (mc md : Nat) (i : Nat) : Value := if i = 0 then .map (some mc) else if i = 1 then .map (some md) else if i < 10 then .int .i64 (S.r (i - 2) : Int) else .int .u64 (S.m (i - 10) : Int)
structure StAt (w : World) (n mc md : Nat) (S : St) : Prop where
 c : KMapV Tryz.prog 3 goodI w mc n S.cV
 d : KMapV Tryz.prog 3 goodS w md n S.dV
 ne : mc ≠ md
theorem StAt.chg {w w' : World} {n mc md : Nat} {S : St} {L : List Nat} (h : StAt w n mc md S) (c : Chg L w w') (h1 : mc ∉ L) (h2 : md ∉ L) : StAt w' n mc md S := ⟨h.c.chg c h1, h.d.chg c h2, h.ne⟩
theorem St.one (S : St) (mc md i : Nat) : (S.v mc md i).oneCell' = true := by
 unfold St.v
 repeat' split
 all_goals rfl
theorem infoState : (Tryz.prog.info? 72).map (·.size) = some 18 := by kernel_rfl
theorem info8i : (Tryz.prog.info? 70).map (·.size) = some 8 := by kernel_rfl
theorem info8u : (Tryz.prog.info? 47).map (·.size) = some 8 := by kernel_rfl
def zState (i : Nat) : Value := if i = 0 then .map none else if i = 1 then .map none else if i < 10 then .int .i64 0 else .int .u64 0
theorem zState_one (i : Nat) : (zState i).oneCell' = true := by
 unfold zState
 repeat' split
 all_goals rfl
theorem built_state (S : St) (mc md mc' md' : Nat) : Tryz.prog.built 72 [(0, .map (some mc')), (1, .map (some md')), (2, .agg (fnRow 8 fun i => S.v mc md (2 + i))), (3, .agg (fnRow 8 fun i => S.v mc md (10 + i)))] = some (fnRow 18 (S.v mc' md')) := by kernel_rfl
theorem St.v_far (S : St) (mc md mc' md' : Nat) {i : Nat} (h : 2 ≤ i) : S.v mc md i = S.v mc' md' i := by
 have h0 : ¬ i = 0 := by omega
 have h1 : ¬ i = 1 := by omega
 simp only [St.v, if_neg h0, if_neg h1]
theorem zState_row : fnRow 18 zState = #[.map none, .map none, .int .i64 0, .int .i64 0, .int .i64 0, .int .i64 0, .int .i64 0, .int .i64 0, .int .i64 0, .int .i64 0, .int .u64 0, .int .u64 0, .int .u64 0, .int .u64 0, .int .u64 0, .int .u64 0, .int .u64 0, .int .u64 0] := rfl
theorem laid_whole (V U : Nat → Value) (n : Nat) : fnRow n (laid V U 0 n) = fnRow n U := by
 apply Array.ext_getElem?
 intro i
 by_cases hi : i < n
 ·rw [fnRow_get hi, fnRow_get hi]
  unfold laid
  rw [if_pos ⟨Nat.zero_le _, by omega⟩, Nat.sub_zero]
 ·rw [Array.getElem?_eq_none (by rw [fnRow_size]; omega), Array.getElem?_eq_none (by rw [fnRow_size]; omega)]
theorem loadRow {w : World} {k n : Nat} {t : TypeId} {d : TypeDesc} {V : Nat → Value} (hu : Tryz.prog.underlying t = some d) (hd : d.isRow = true) (hi : (Tryz.prog.info? t).map (·.size) = some n) (hS : ∀ j, j < n → w.cell? ⟨k, 0 + j, none⟩ = some (V j)) :
  (loadVar t ⟨k, 0, none⟩).run Tryz.prog w = .ok (.agg (fnRow n V)) w := by
 have hr := run_loadVar_mid (P := Tryz.prog) w k 0 t (fnRow n V).toList d (fun j v hv => by
  have hj : j < n := by
   by_cases hj : j < n
   ·exact hj
   ·rw [Array.getElem?_toList, Array.getElem?_eq_none (by rw [fnRow_size]; omega)] at hv; cases hv
  rw [Array.getElem?_toList, fnRow_get hj] at hv
  rw [← Option.some.inj hv]
  exact hS j hj) hu hd (by rw [hi, Array.length_toList, fnRow_size])
 rw [Array.toArray_toList] at hr
 exact hr
theorem rowCells {w : World} {b n : Nat} {V : Nat → Value} {t : TypeId} (h : w.heap[b]? = some (.cells (fnRow n V) t (0, 0))) : ∀ j, j < n → w.cell? ⟨b, 0 + j, none⟩ = some (V j) := fun j hj => by rw [Nat.zero_add]; exact cell_fn h hj
theorem zero_int : ∀ w, (zeroValue 3).run Tryz.prog w = .ok (.int .i64 0) w := fun w => Tryz.zeroValue3 w
theorem zero_s1 : ∀ w, (zeroValue 173).run Tryz.prog w = .ok (.agg #[.string ByteArray.empty]) w := fun w => Tryz.zeroValue173 w
theorem copied_at {w : World} {n mc md : Nat} {S : St} (h : StAt w n mc md S) (hn : n ≤ 4096) :
  Calls Tryz.prog 46 #[.agg (fnRow 18 (S.v mc md))] w fun e w' => ∃ mc' md', e = .returned (.agg (fnRow 18 (S.v mc' md'))) ∧ StAt w' n mc' md' S ∧ w.heap.size ≤ mc' ∧ w.heap.size ≤ md' ∧ Chg [] w w' := by
 have H := Lib.hid h
 clear h
 go_enter Tryz.func46, Tryz.ntmps46
 go_upto_region 1 with (first
  | (refine wpList_boxAgg rfl 72 (.tmp 0) rfl (cells := fnRow 18 (S.v mc md)) rfl ?_))
 have hc0 := ((Chg.refl [] w).alloc (.cells (fnRow 18 (S.v mc md)) 72)).alloc (.cells (fnRow 18 zState) 72)
 have kx := new_block21 w (.cells (fnRow 18 (S.v mc md)) 72) (.cells (fnRow 18 zState) 72)
 have kr := new_block2 w (.cells (fnRow 18 (S.v mc md)) 72) (.cells (fnRow 18 zState) 72)
 have hs0 : ((w.alloc (.cells (fnRow 18 (S.v mc md)) 72)).alloc (.cells (fnRow 18 zState) 72)).heap.size = w.heap.size + 2 := by simp
 rw [zState_row] at hc0 kx kr hs0
 have kr := kr.trans (show _ = some (Obj.cells (fnRow 18 zState) 72 (0, 0)) from by rw [zState_row])
 generalize (w.alloc (.cells (fnRow 18 (S.v mc md)) 72)).alloc _ = W0 at *
 obtain ⟨xb, hxb⟩ : ∃ xb, xb = w.heap.size := ⟨_, rfl⟩
 obtain ⟨rb, hrb⟩ : ∃ rb, rb = w.heap.size + 1 := ⟨_, rfl⟩
 rw [← hrb] at kr ⊢
 rw [← hxb] at kx ⊢
 have HX : Hid (∀ W', Chg [] W0 W' → ∀ j, j < 18 → W'.cell? ⟨xb, j, none⟩ = some (S.v mc md j)) := Lib.hid fun W' c j hj => by
  rw [c.cell (p := ⟨xb, j, none⟩) (heap_lt kx) (by simp)]
  exact cell_fn kx hj
 have c0 := HX.out _ ((((Chg.refl [] W0).alloc (.map #[] 0)).alloc (.map #[] 0))) 0 (by omega)
 have H0 := Lib.hid (And.intro kx (And.intro kr (And.intro hc0 (And.intro hs0 (And.intro hxb hrb)))))
 clear kx kr hc0 hs0 hxb hrb
 have fill : ∀ j, j < 8 → ((W0.alloc (.map #[] 0)).alloc (.map #[] 0)).cell? ⟨xb, 2 + j, none⟩ = some (S.v mc md (2 + j)) := fun j hj => HX.out _ ((((Chg.refl [] W0).alloc (.map #[] 0)).alloc (.map #[] 0))) _ (by omega)
 have fill2 : ∀ j, j < 8 → ((W0.alloc (.map #[] 0)).alloc (.map #[] 0)).cell? ⟨xb, 10 + j, none⟩ = some (S.v mc md (10 + j)) := fun j hj => HX.out _ ((((Chg.refl [] W0).alloc (.map #[] 0)).alloc (.map #[] 0))) _ (by omega)
 have HF := Lib.hid (And.intro fill fill2)
 clear fill fill2
 have mk1 := run_makeMap (P := Tryz.prog) 68 W0
 have mk2 := run_makeMap (P := Tryz.prog) 69 (W0.alloc (.map #[] 0))
 go_upto_region 2 with (first
  | (refine wpList_loadV rfl (.tmp 8) rfl Tryz.underlying70 rfl info8i rfl HF.out.1 ?_)
  | (refine wpList_loadV rfl (.tmp 10) rfl Tryz.underlying47 rfl info8u rfl HF.out.2 ?_)
  | (refine wpList_built rfl 72 _ rfl (ps := _) ?hp (built_state S mc md W0.heap.size (W0.heap.size + 1)) ?hk; case hp => (simp [Act.eval, Act.put]))
  | (refine wpList_storeRow (t := 72) (T := 72) (b := W0.heap.size + 2) (o := 0) (n := 18) (N := 18) (V := zState) (U := S.v W0.heap.size (W0.heap.size + 1)) rfl (.tmp 3) (.tmp 12) rfl rfl rfl (by rw [zState_row]; have := new_block ((W0.alloc (.map #[] 0)).alloc (.map #[] 0)) (.cells #[.map none, .map none, .int .i64 0, .int .i64 0, .int .i64 0, .int .i64 0, .int .i64 0, .int .i64 0, .int .i64 0, .int .i64 0, .int .u64 0, .int .u64 0, .int .u64 0, .int .u64 0, .int .u64 0, .int .u64 0, .int .u64 0, .int .u64 0] 72); simpa using this) (by omega) infoState (fun i _ => S.one _ _ i) ?_; intro w5 hr5 hc5; have H5 := Lib.hid (And.intro hr5 hc5); clear hr5 hc5))
 obtain ⟨m0, hm0⟩ : ∃ m, m = W0.heap.size := ⟨_, rfl⟩
 have hal : Chg [] W0 (((W0.alloc (.map #[] 0)).alloc (.map #[] 0)).alloc (.cells #[.map none, .map none, .int .i64 0, .int .i64 0, .int .i64 0, .int .i64 0, .int .i64 0, .int .i64 0, .int .i64 0, .int .i64 0, .int .u64 0, .int .u64 0, .int .u64 0, .int .u64 0, .int .u64 0, .int .u64 0, .int .u64 0, .int .u64 0] 72)) := (((Chg.refl [] W0).alloc _).alloc _).alloc _
 have k0 := KMapV.made (P := Tryz.prog) (kt := 3) (good := goodI) W0 n
 have k1 := KMapV.made (P := Tryz.prog) (kt := 3) (good := goodS) (W0.alloc (.map #[] 0)) n
 have k0' := ((k0.chg (((Chg.refl [] (W0.alloc (.map #[] 0))).alloc (.map #[] 0)).alloc (.cells #[.map none, .map none, .int .i64 0, .int .i64 0, .int .i64 0, .int .i64 0, .int .i64 0, .int .i64 0, .int .i64 0, .int .i64 0, .int .u64 0, .int .u64 0, .int .u64 0, .int .u64 0, .int .u64 0, .int .u64 0, .int .u64 0, .int .u64 0] 72)) (by simp)).chg H5.out.2 (by simp))
 have k1' := ((k1.chg ((Chg.refl [] ((W0.alloc (.map #[] 0)).alloc (.map #[] 0))).alloc (.cells #[.map none, .map none, .int .i64 0, .int .i64 0, .int .i64 0, .int .i64 0, .int .i64 0, .int .i64 0, .int .i64 0, .int .i64 0, .int .u64 0, .int .u64 0, .int .u64 0, .int .u64 0, .int .u64 0, .int .u64 0, .int .u64 0, .int .u64 0] 72)) (by simp)).chg H5.out.2 (by simp))
 rw [size_alloc'] at k1'
 have hy5 := H5.out.1
 rw [laid_whole] at hy5
 have hc5 : Chg [] W0 w5 := hal.then H5.out.2 (fun q hq => by simp only [List.mem_singleton] at hq; subst hq; exact .inr (by omega))
 rw [← hm0] at k0' k1' hy5 ⊢
 have hH := H.out
 have hlc : mc < w.heap.size := hH.c.lt
 have hld : md < w.heap.size := hH.d.lt
 have hst5 := hH.chg (H0.out.2.2.1.trans hc5) (by simp) (by simp)
 have hxb := H0.out.2.2.2.2.1
 have hrb := H0.out.2.2.2.2.2
 have hs0 := H0.out.2.2.2.1
 have hx5 := (hc5.block xb (by omega) (by simp)).trans H0.out.1
 have hr5 := (hc5.block rb (by omega) (by simp)).trans H0.out.2.1
 have HM := Lib.hid (show mc < w.heap.size ∧ md < w.heap.size ∧ xb = w.heap.size ∧ rb = w.heap.size + 1 ∧ m0 = w.heap.size + 2 ∧ mc ≠ md from ⟨hlc, hld, hxb, hrb, by omega, hH.ne⟩)
 have H6 := Lib.hid (And.intro hst5 (And.intro k0' (And.intro k1' (And.intro hx5 (And.intro hr5 (And.intro hy5 (H0.out.2.2.1.trans hc5)))))))
 clear k0 k1 k0' k1' hy5 hc5 hal hst5 hx5 hr5 hH hlc hld hxb hrb hs0 hm0 mk1 mk2 c0 H5 H0 HX HF H
 have c0 : w5.cell? ⟨xb, 0, none⟩ = some (.map (some mc)) := (cell_fn H6.out.2.2.2.1 (by omega)).trans rfl
 go_wp2_with (refine wpList_krange rfl _ rfl Tryz.underlying3 Tryz.underlying68 H6.out.1.c rfl ?_; intro w6 hkr hg6 hs6; have H7 := Lib.hid (And.intro hkr (And.intro hg6 hs6)); clear hkr hg6 hs6)
 clear kr
 have e2 : m0 + 1 + 1 = m0 + 2 := by omega
 rw [e2]
 go_frame
 obtain ⟨it, hit⟩ : ∃ it, it = w5.heap.size := ⟨_, rfl⟩
 rw [← hit] at H7 ⊢
 have HIT := Lib.hid hit
 clear hit c0 e2
 go_loopw [16] (fun _ wr => ∃ left : Nat → Bool, Hid (KR Tryz.prog 3 goodI wr mc it n S.cV left ∧ KMapV Tryz.prog 3 goodI wr m0 n (fun k => if left k then none else S.cV k) ∧ KMapV Tryz.prog 3 goodS wr (m0 + 1) n (fun k => if left k then none else S.dV k) ∧ Chg [m0, m0 + 1] w5 wr ∧ it < wr.heap.size)) (fun _ wr => wr.rangeLeft mc it)
 case atStart =>
  have hcg : Chg [] w5 w6 := (Chg.refl [] w5).grown H7.out.2.1 (fun k hk => by cases hk)
  refine ⟨_, Lib.hid ⟨H7.out.1, (H6.out.2.1.chg hcg (by simp)).congr (fun k _ => ?_), (H6.out.2.2.1.chg hcg (by simp)).congr (fun k _ => ?_), hcg.mono (by simp), by have := H7.out.2.2; have := HIT.out; omega⟩⟩
  ·cases h : S.cV k <;> rfl
  ·unfold St.cV St.dV
   split <;> rfl
 case round =>
  obtain ⟨left, HX⟩ := hrel
  go_upto_region 4 with (refine wpList_knext rfl _ rfl Tryz.underlying3 HX.out.1 rfl ?_ ?_)
  ·intro hl0
   have hs5 : m0 + 2 < w5.heap.size := heap_lt H6.out.2.2.2.2.2.1
   have nm := HM.out
   have hyr := (HX.out.2.2.2.1.block (m0 + 2) hs5 (by simp)).trans H6.out.2.2.2.2.2.1
   have hrr := (HX.out.2.2.2.1.block rb (by omega) (by simp; omega)).trans H6.out.2.2.2.2.1
   have hma := HX.out.2.1.congr (g := S.cV) (fun k hk => by simp [hl0 k hk])
   have hmb := HX.out.2.2.1.congr (g := S.dV) (fun k hk => by simp [hl0 k hk])
   have HR := Lib.hid (And.intro hyr (And.intro hrr (And.intro hma hmb)))
   have NM := Lib.hid (And.intro nm hs5)
   clear hyr hrr hma hmb nm hs5
   go_wp2_with (first
    | (refine wpList_loadV rfl (.tmp 3) rfl Tryz.underlying72 rfl infoState rfl (rowCells HR.out.1) ?_)
    | (refine wpList_storeRow (t := 72) (T := 72) (b := rb) (o := 0) (n := 18) (N := 18) (V := zState) (U := S.v m0 (m0 + 1)) rfl (.tmp 2) (.tmp 32) rfl rfl rfl HR.out.2.1 (by omega) infoState (fun i _ => S.one _ _ i) ?_; intro w8 hr8 hc8; have H8 := Lib.hid (And.intro hr8 hc8); clear hr8 hc8))
   have hr8 := H8.out.1
   rw [laid_whole] at hr8
   have nm := NM.out
   refine bodyPost_ret (results_c (a := 2) (by kernel_rfl) rfl (loadRow Tryz.underlying72 rfl infoState (rowCells hr8))) rfl ⟨m0, m0 + 1, rfl, ⟨HR.out.2.2.1.chg H8.out.2 (by simp; omega), HR.out.2.2.2.chg H8.out.2 (by simp; omega), by omega⟩, by omega, by omega, ?_⟩
   exact (H6.out.2.2.2.2.2.2.then HX.out.2.2.2.1 (fun q hq => by simp only [List.mem_cons, List.not_mem_nil, or_false] at hq; exact .inr (by omega))).then H8.out.2 (fun q hq => by simp only [List.mem_singleton] at hq; exact .inr (by omega))
  ·intro k v w7 hk hv hlk hgv hkr hlt hg7 hs7 hen
   obtain ⟨hck, rfl⟩ : S.c k ≠ 0 ∧ v = .int .i64 (S.c k : Int) := by
    unfold St.cV at hv
    split at hv
    ·cases hv
    ·injection hv with hv
     exact ⟨by assumption, hv.symm⟩
   have hc7 : Chg [it] wr w7 := (Chg.refl [it] wr).grown hg7 (fun q hq => by injection hq with hq; subst hq; exact .inl (by simp))
   have nm := HM.out
   have nit := HIT.out
   have hs5 : m0 + 2 < w5.heap.size := heap_lt H6.out.2.2.2.2.2.1
   have hcc : Chg [m0, m0 + 1] w5 w7 := HX.out.2.2.2.1.then hc7 (fun q hq => by simp only [List.mem_singleton] at hq; subst hq; exact .inr (by omega))
   have hx7 := (hcc.block xb (by omega) (by simp; omega)).trans H6.out.2.2.2.1
   have hy7 := (hcc.block (m0 + 2) hs5 (by simp)).trans H6.out.2.2.2.2.2.1
   have hd7 := H6.out.1.d.chg hcc (by simp; omega)
   have ha7 := HX.out.2.1.chg hc7 (by simp; omega)
   have hb7 := HX.out.2.2.1.chg hc7 (by simp; omega)
   have s1 : w7.cell? ⟨xb, 1, none⟩ = some (.map (some md)) := (cell_fn hx7 (by omega)).trans rfl
   have s2 : w7.cell? ⟨m0 + 2, 0, none⟩ = some (.map (some m0)) := (cell_fn hy7 (by omega)).trans rfl
   have s3 : w7.cell? ⟨m0 + 2, 1, none⟩ = some (.map (some (m0 + 1))) := (cell_fn hy7 (by omega)).trans rfl
   have HS := Lib.hid (show (w7.drew.cell? ⟨xb, 1, none⟩ = some (.map (some md)) ∧ w7.drew.cell? ⟨m0 + 2, 0, none⟩ = some (.map (some m0)) ∧ w7.drew.cell? ⟨m0 + 2, 1, none⟩ = some (.map (some (m0 + 1)))) ∧ KMapV Tryz.prog 3 goodS w7.drew md n S.dV from ⟨⟨s1, s2, s3⟩, hd7.chg (Chg.refl [] w7).drew (by simp)⟩)
   have H8 := Lib.hid (And.intro (ha7.chg (Chg.refl [] w7).drew (by simp)) (And.intro (hb7.chg (Chg.refl [] w7).drew (by simp)) (And.intro (hkr.chg (Chg.refl [] w7).drew (by simp) (by simp)) (And.intro hcc.drew (And.intro hlt (And.intro hs7 (heap_lt hx7)))))))
   have HDV := Lib.hid (show S.dV k = some (.agg #[.string (bstr 128 (S.d k))]) from by unfold St.dV; rw [if_neg hck])
   have HCV := Lib.hid hv
   clear s1 s2 s3 ha7 hb7 hd7 hx7 hy7 hkr hlt hc7 hcc hg7 hck nm nit hs5 hv
   go_upto_region 5 with fail
   refine wp_region_held_drew (S := fun W' => (W'.cell? ⟨xb, 1, none⟩ = some (.map (some md)) ∧ W'.cell? ⟨m0 + 2, 0, none⟩ = some (.map (some m0)) ∧ W'.cell? ⟨m0 + 2, 1, none⟩ = some (.map (some (m0 + 1)))) ∧ KMapV Tryz.prog 3 goodS W' md n S.dV) (by kernel_rfl) (by exact HS.out) (fun hHeld => ?_)
   refine wpAnyH_take (i := 0) (oi := ?_) (v := ?_) ?_ (by kernel_rfl) (by kernel_rfl) (by kernel_rfl) ?_ (Or.inl ⟨?_, ?_⟩) hHeld ?_
   rotate_left 2
   ·(simp only [List.getElem?_toArray, List.getElem?_cons_succ, List.getElem?_cons_zero]; rfl)
   ·exact fun _ _ _ h => h
   ·rfl
   ·(rintro W' ⟨⟨s1, s2, s3⟩, s4⟩; have lk := (s4.look (t := 69) Tryz.underlying3 Tryz.underlying69 (zero_s1 W') rfl hk hn).2; rw [HDV.out] at lk; simp only [Option.getD_some] at lk; go_simp; first | done | with_reducible rfl)
   try simp only [Act.put, List.setIfInBounds_toArray, List.set_cons_zero, List.set_cons_succ]
   refine wpAnyH_take (i := 1) (oi := ?_) (v := ?_) ?_ (by kernel_rfl) (by kernel_rfl) (by kernel_rfl) ?_ (Or.inl ⟨?_, ?_⟩) hHeld ?_
   rotate_left 2
   ·(simp only [List.getElem?_toArray, List.getElem?_cons_succ, List.getElem?_cons_zero]; rfl)
   ·exact fun _ _ _ h => h
   ·rfl
   ·(rintro W' ⟨⟨s1, s2, s3⟩, s4⟩; have lk := (s4.look (t := 69) Tryz.underlying3 Tryz.underlying69 (zero_s1 W') rfl hk hn).2; rw [HDV.out] at lk; simp only [Option.getD_some] at lk; go_simp; first | done | with_reducible rfl)
   try simp only [Act.put, List.setIfInBounds_toArray, List.set_cons_zero, List.set_cons_succ]
   refine wpAnyH_take (i := 2) (oi := ?_) (v := ?_) ?_ (by kernel_rfl) (by kernel_rfl) (by kernel_rfl) ?_ (Or.inl ⟨?_, ?_⟩) hHeld ?_
   rotate_left 2
   ·(simp only [List.getElem?_toArray, List.getElem?_cons_succ, List.getElem?_cons_zero]; rfl)
   ·exact fun _ _ _ h => h
   ·rfl
   ·(rintro W' ⟨⟨s1, s2, s3⟩, s4⟩; have lk := (s4.look (t := 69) Tryz.underlying3 Tryz.underlying69 (zero_s1 W') rfl hk hn).2; rw [HDV.out] at lk; simp only [Option.getD_some] at lk; go_simp; first | done | with_reducible rfl)
   try simp only [Act.put, List.setIfInBounds_toArray, List.set_cons_zero, List.set_cons_succ]
   refine wpAnyH_take (i := 3) (oi := ?_) (v := ?_) ?_ (by kernel_rfl) (by kernel_rfl) (by kernel_rfl) ?_ (Or.inl ⟨?_, ?_⟩) hHeld ?_
   rotate_left 2
   ·(simp only [List.getElem?_toArray, List.getElem?_cons_succ, List.getElem?_cons_zero]; rfl)
   ·exact fun _ _ _ h => h
   ·rfl
   ·(rintro W' ⟨⟨s1, s2, s3⟩, s4⟩; have lk := (s4.look (t := 69) Tryz.underlying3 Tryz.underlying69 (zero_s1 W') rfl hk hn).2; rw [HDV.out] at lk; simp only [Option.getD_some] at lk; go_simp; first | done | with_reducible rfl)
   try simp only [Act.put, List.setIfInBounds_toArray, List.set_cons_zero, List.set_cons_succ]
   refine wpAnyH_take (i := 4) (oi := ?_) (v := ?_) ?_ (by kernel_rfl) (by kernel_rfl) (by kernel_rfl) ?_ (Or.inl ⟨?_, ?_⟩) hHeld ?_
   rotate_left 2
   ·(simp only [List.getElem?_toArray, List.getElem?_cons_succ, List.getElem?_cons_zero]; rfl)
   ·exact fun _ _ _ h => h
   ·rfl
   ·(rintro W' ⟨⟨s1, s2, s3⟩, s4⟩; have lk := (s4.look (t := 69) Tryz.underlying3 Tryz.underlying69 (zero_s1 W') rfl hk hn).2; rw [HDV.out] at lk; simp only [Option.getD_some] at lk; go_simp; first | done | with_reducible rfl)
   try simp only [Act.put, List.setIfInBounds_toArray, List.set_cons_zero, List.set_cons_succ]
   refine wpAnyH_take (i := 5) (oi := ?_) (v := ?_) ?_ (by kernel_rfl) (by kernel_rfl) (by kernel_rfl) ?_ (Or.inl ⟨?_, ?_⟩) hHeld ?_
   rotate_left 2
   ·(simp only [List.getElem?_toArray, List.getElem?_cons_succ, List.getElem?_cons_zero]; rfl)
   ·exact fun _ _ _ h => h
   ·rfl
   ·(rintro W' ⟨⟨s1, s2, s3⟩, s4⟩; have lk := (s4.look (t := 69) Tryz.underlying3 Tryz.underlying69 (zero_s1 W') rfl hk hn).2; rw [HDV.out] at lk; simp only [Option.getD_some] at lk; go_simp; first | done | with_reducible rfl)
   try simp only [Act.put, List.setIfInBounds_toArray, List.set_cons_zero, List.set_cons_succ]
   refine wpAnyH_take (i := 6) (oi := ?_) (v := ?_) ?_ (by kernel_rfl) (by kernel_rfl) (by kernel_rfl) ?_ (Or.inl ⟨?_, ?_⟩) hHeld ?_
   rotate_left 2
   ·(simp only [List.getElem?_toArray, List.getElem?_cons_succ, List.getElem?_cons_zero]; rfl)
   ·exact fun _ _ _ h => h
   ·rfl
   ·(rintro W' ⟨⟨s1, s2, s3⟩, s4⟩; have lk := (s4.look (t := 69) Tryz.underlying3 Tryz.underlying69 (zero_s1 W') rfl hk hn).2; rw [HDV.out] at lk; simp only [Option.getD_some] at lk; go_simp; first | done | with_reducible rfl)
   try simp only [Act.put, List.setIfInBounds_toArray, List.set_cons_zero, List.set_cons_succ]
   refine wpAnyH_take (i := 7) (oi := ?_) (v := ?_) ?_ (by kernel_rfl) (by kernel_rfl) (by kernel_rfl) ?_ (Or.inl ⟨?_, ?_⟩) hHeld ?_
   rotate_left 2
   ·(simp only [List.getElem?_toArray, List.getElem?_cons_succ, List.getElem?_cons_zero]; rfl)
   ·exact fun _ _ _ h => h
   ·rfl
   ·(rintro W' ⟨⟨s1, s2, s3⟩, s4⟩; have lk := (s4.look (t := 69) Tryz.underlying3 Tryz.underlying69 (zero_s1 W') rfl hk hn).2; rw [HDV.out] at lk; simp only [Option.getD_some] at lk; go_simp; first | done | with_reducible rfl)
   try simp only [Act.put, List.setIfInBounds_toArray, List.set_cons_zero, List.set_cons_succ]
   refine wpAnyH_take (i := 8) (oi := ?_) (v := ?_) ?_ (by kernel_rfl) (by kernel_rfl) (by kernel_rfl) ?_ (Or.inl ⟨?_, ?_⟩) hHeld ?_
   rotate_left 2
   ·(simp only [List.getElem?_toArray, List.getElem?_cons_succ, List.getElem?_cons_zero]; rfl)
   ·exact fun _ _ _ h => h
   ·rfl
   ·(rintro W' ⟨⟨s1, s2, s3⟩, s4⟩; have lk := (s4.look (t := 69) Tryz.underlying3 Tryz.underlying69 (zero_s1 W') rfl hk hn).2; rw [HDV.out] at lk; simp only [Option.getD_some] at lk; go_simp; first | done | with_reducible rfl)
   try simp only [Act.put, List.setIfInBounds_toArray, List.set_cons_zero, List.set_cons_succ]
   refine wpAnyH_take (i := 9) (oi := ?_) (v := ?_) ?_ (by kernel_rfl) (by kernel_rfl) (by kernel_rfl) ?_ (Or.inl ⟨?_, ?_⟩) hHeld ?_
   rotate_left 2
   ·(simp only [List.getElem?_toArray, List.getElem?_cons_succ, List.getElem?_cons_zero]; rfl)
   ·exact fun _ _ _ h => h
   ·rfl
   ·(rintro W' ⟨⟨s1, s2, s3⟩, s4⟩; have lk := (s4.look (t := 69) Tryz.underlying3 Tryz.underlying69 (zero_s1 W') rfl hk hn).2; rw [HDV.out] at lk; simp only [Option.getD_some] at lk; go_simp; first | done | with_reducible rfl)
   try simp only [Act.put, List.setIfInBounds_toArray, List.set_cons_zero, List.set_cons_succ]
   refine wpAnyH_take (i := 10) (oi := ?_) (v := ?_) ?_ (by kernel_rfl) (by kernel_rfl) (by kernel_rfl) ?_ (Or.inl ⟨?_, ?_⟩) hHeld ?_
   rotate_left 2
   ·(simp only [List.getElem?_toArray, List.getElem?_cons_succ, List.getElem?_cons_zero]; rfl)
   ·exact fun _ _ _ h => h
   ·rfl
   ·(rintro W' ⟨⟨s1, s2, s3⟩, s4⟩; have lk := (s4.look (t := 69) Tryz.underlying3 Tryz.underlying69 (zero_s1 W') rfl hk hn).2; rw [HDV.out] at lk; simp only [Option.getD_some] at lk; go_simp; first | done | with_reducible rfl)
   try simp only [Act.put, List.setIfInBounds_toArray, List.set_cons_zero, List.set_cons_succ]
   have HMA := Lib.hid H8.out.1
   have HMB := Lib.hid H8.out.2.1
   have nm := HM.out
   have nit := HIT.out
   have hs5 : m0 + 2 < w5.heap.size := heap_lt H6.out.2.2.2.2.2.1
   have keep : ∀ (m : Nat) (wa wb : World), Chg [m] wa wb → m = m0 ∨ m = m0 + 1 → w5.heap.size ≤ wa.heap.size → ((wa.cell? ⟨xb, 1, none⟩ = some (.map (some md)) ∧ wa.cell? ⟨m0 + 2, 0, none⟩ = some (.map (some m0)) ∧ wa.cell? ⟨m0 + 2, 1, none⟩ = some (.map (some (m0 + 1)))) ∧ KMapV Tryz.prog 3 goodS wa md n S.dV) →
     ((wb.cell? ⟨xb, 1, none⟩ = some (.map (some md)) ∧ wb.cell? ⟨m0 + 2, 0, none⟩ = some (.map (some m0)) ∧ wb.cell? ⟨m0 + 2, 1, none⟩ = some (.map (some (m0 + 1)))) ∧ KMapV Tryz.prog 3 goodS wb md n S.dV) := fun m wa wb hc hm hsz hs =>
    ⟨⟨(hc.cell (p := ⟨xb, 1, none⟩) (by show xb < _; omega) (by simp only [List.mem_singleton]; show ¬ xb = m; omega)).trans hs.1.1, (hc.cell (p := ⟨m0 + 2, 0, none⟩) (by show m0 + 2 < _; omega) (by simp only [List.mem_singleton]; show ¬ m0 + 2 = m; omega)).trans hs.1.2.1, (hc.cell (p := ⟨m0 + 2, 1, none⟩) (by show m0 + 2 < _; omega) (by simp only [List.mem_singleton]; show ¬ m0 + 2 = m; omega)).trans hs.1.2.2⟩,
     hs.2.chg hc (by simp only [List.mem_singleton]; omega)⟩
   have KEEP := Lib.hid keep
   have hsz7 : w5.heap.size ≤ w7.drew.heap.size := H8.out.2.2.2.1.size
   have fin : ∀ wf : World, KMapV Tryz.prog 3 goodI wf m0 n (fun i => if i = k then some (.int .i64 (S.c k : Int)) else if left i then none else S.cV i) → KMapV Tryz.prog 3 goodS wf (m0 + 1) n (fun i => if i = k then some (.agg #[.string (bstr 128 (S.d k))]) else if left i then none else S.dV i) → Chg [m0, m0 + 1] w7.drew wf →
     (∃ left : Nat → Bool, Hid (KR Tryz.prog 3 goodI wf mc it n S.cV left ∧ KMapV Tryz.prog 3 goodI wf m0 n (fun k => if left k then none else S.cV k) ∧ KMapV Tryz.prog 3 goodS wf (m0 + 1) n (fun k => if left k then none else S.dV k) ∧ Chg [m0, m0 + 1] w5 wf ∧ it < wf.heap.size)) ∧ wf.rangeLeft mc it < wr.rangeLeft mc it := fun wf h1 h2 hc => by
    have hk1 := H8.out.2.2.1.chg hc (by simp; omega) (by simp; omega)
    refine ⟨⟨_, Lib.hid ⟨hk1, h1.congr (fun i _ => ?_), h2.congr (fun i _ => ?_), H8.out.2.2.2.1.trans hc, hk1.lt.2⟩⟩, ?_⟩
    ·by_cases e : i = k
     ·subst e; simp [HCV.out]
     ·simp [e]
    ·by_cases e : i = k
     ·subst e; simp [HDV.out]
     ·simp [e]
    ·rw [KR.left_eq H8.out.2.2.1 (hc.block mc H8.out.2.2.1.lt.1 (by simp; omega)) (hc.block it H8.out.2.2.1.lt.2 (by simp; omega))]
     exact H8.out.2.2.2.2.1
   have FIN := Lib.hid fin
   clear keep fin nm nit hs5
   refine wpAnyH_ready (rs := [11]) (by kernel_rfl) (by simp) ?_
   refine AllReadyH.cons (o := ?_) ?_ (fun K hK => ?_) AllReadyH.nil
   rotate_left 1
   ·(simp only [List.getElem?_toArray, List.getElem?_cons_succ, List.getElem?_cons_zero]; rfl)
   (have hmx := HMA.out; obtain ⟨wA, hrun, hm2, ht2⟩ := hmx.put (t := 68) (k := k) (v := .int .i64 (S.c k : Int)) Tryz.underlying3 Tryz.underlying68 hk hn rfl; have HZA := Lib.hid (And.intro hm2 (mapTurned_chg ht2)); clear hm2 ht2 hmx; go_simp; clear hrun)
   refine hK.out _ _ ?_ (fun hHeld => ?_)
   ·exact KEEP.out _ _ _ HZA.out.2 (.inl rfl) hsz7 HS.out
   clear hK K
   try simp only [Act.put, List.setIfInBounds_toArray, List.set_cons_zero, List.set_cons_succ]
   have HMB := Lib.hid (HMB.out.chg HZA.out.2 (by simp))
   have HS := Lib.hid (KEEP.out _ _ _ HZA.out.2 (.inl rfl) hsz7 HS.out)
   refine wpAnyH_ready (rs := [12]) (by kernel_rfl) (by simp) ?_
   refine AllReadyH.cons (o := ?_) ?_ (fun K hK => ?_) AllReadyH.nil
   rotate_left 1
   ·(simp only [List.getElem?_toArray, List.getElem?_cons_succ, List.getElem?_cons_zero]; rfl)
   (have hmx := HMB.out; obtain ⟨wB, hrun, hm2, ht2⟩ := hmx.put (t := 69) (k := k) (v := .agg #[.string (bstr 128 (S.d k))]) Tryz.underlying3 Tryz.underlying69 hk hn rfl; have HZB := Lib.hid (And.intro hm2 (mapTurned_chg ht2)); clear hm2 ht2 hmx; go_simp; clear hrun)
   refine hK.out _ _ ?_ (fun hHeld => ?_)
   ·exact KEEP.out _ _ _ HZB.out.2 (.inr rfl) (Nat.le_trans hsz7 HZA.out.2.size) HS.out
   clear hK K
   try simp only [Act.put, List.setIfInBounds_toArray, List.set_cons_zero, List.set_cons_succ]
   refine wpAnyH_done (by kernel_rfl) ?_ _
   have hf := FIN.out wB (HZA.out.1.chg HZB.out.2 (by simp)) HZB.out.1 ((HZA.out.2.mono (by simp)).trans (HZB.out.2.mono (by simp)))
   go_wp2_with fail
   go_roundw
   case rel => exact hf.1
   case measure => exact hf.2
end Go.Proofs.YtkhcaclndepgbaaGreat
