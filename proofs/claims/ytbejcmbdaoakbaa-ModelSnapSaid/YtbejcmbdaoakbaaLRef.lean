/- catchmentlaw24.ModelRefused: the walk. -/
import Derived.Test.YtbejcmbdaoakbaaMdB
namespace Go.Proofs.Ytbejcmbdaoakbaa
open Go.RowKit Go.Maps
set_option linter.unusedVariables false
set_option linter.unusedSimpArgs false

/-- What a law's walk shows. -/
def LawOk (w : World) (e : Ending) (w' : World) : Prop := e = .returned (.bool true) ∧ Below w.heap.size w w'
theorem law_ok {w w' : World} (h : Chg [] w w') : LawOk w (.returned (.bool true)) w' := ⟨rfl, h.below (by simp)⟩

theorem IsOps.chg {w w' : World} {a : Option Addr} {len cap : Nat} {z : Nat → Opn} (h : IsOps w a len cap z) (c : Chg [] w w') : IsOps w' a len cap z :=
  ⟨h.1, h.2.1, h.2.2.1, fun i hi => by
    obtain ⟨b, off, e, hb, ho⟩ := h.2.2.2 i hi
    exact ⟨b, off, e, Nat.lt_of_lt_of_le hb c.size, ho.chg c hb (by simp) (by simp)⟩⟩

theorem stEq_self (S : St) : stEq S S = true := by
  unfold stEq
  rw [decide_eq_true rfl, decide_eq_true rfl, volsEq_iff.2 rfl]
  rfl
theorem st_err {S : St} {o : Opn} (h : errOf S o ≠ 0) : stOf S o = S := by unfold stOf; rw [if_pos h]
theorem rep_err {S : St} {o : Opn} (h : errOf S o ≠ 0) : repOf S o = ⟨errOf S o, 0, 0, fun _ => 0, 0⟩ := by unfold repOf; rw [if_pos h]
theorem rep_errf (S : St) (o : Opn) : (repOf S o).err = errOf S o := by
  by_cases h : errOf S o = 0
  · rw [repOf_ok h, h]
    split <;> try rfl
    split <;> try rfl
    split <;> try rfl
    split <;> rfl
  · rw [rep_err h]
theorem st_ask {S : St} {o : Opn} (h : o.code = 4 ∨ o.code = 7 ∨ o.code = 8 ∨ o.code = 9) : stOf S o = S := by
  by_cases he : errOf S o = 0
  · rw [stOf_ok he]
    rcases h with h | h | h | h <;> simp [h]
  · exact st_err he
theorem st_new {S : St} {o : Opn} (he : errOf S o = 0) (h : o.code = 1 ∨ o.code = 3 ∨ o.code = 2) : stEq (stOf S o) S = false := by
  rw [stOf_ok he]
  rcases h with h | h | h
  · have : stEq (S.made (.map [])) S = false := by
      unfold stEq St.made
      rw [decide_eq_false (show ¬ S.last + 1 = S.last by omega)]
      simp
    simp [h, this]
  · have : stEq (S.made (S.volOf o.vol)) S = false := by
      unfold stEq St.made
      rw [decide_eq_false (show ¬ S.last + 1 = S.last by omega)]
      simp
    simp [h, this]
  · have ht : S.vols (kU o.vol) = some (S.volOf o.vol) := by
      have : errOf S o = wrongS S true false false false false o.vol o.pl o.n o.len := by
        unfold errOf flagsOf
        simp [h]
      rw [this] at he
      exact wrong_there he
    have : volsEq (upd S.vols (kU o.vol) none) S.vols = false := by
      cases hq : volsEq (upd S.vols (kU o.vol) none) S.vols with
      | false => rfl
      | true =>
        have := congrFun (volsEq_iff.1 hq) (kU o.vol)
        rw [upd_same, ht] at this
        cases this
    have : stEq (S.drop o.vol) S = false := by
      unfold stEq St.drop
      rw [this]
      simp
    simp [h, this]
theorem err_code {S : St} {o : Opn} (he : errOf S o = 0) : 1 ≤ o.code ∧ o.code ≤ 9 := by
  unfold errOf at he
  split at he
  · omega
  · omega
theorem rep_same {S : St} {o : Opn} (h : errOf S o ≠ 0) : repEq (repOf S o) ⟨(repOf S o).err, 0, 0, fun _ => 0, 0⟩ = true := by
  rw [rep_err h]
  exact repEq_self _

/-- In hand: the model, its copy, and what was told. -/
structure RefR (w wr : World) (p q : Nat) (L L2 : List Nat) (S' S : St) (R : Rep) (gb rb : Nat) (o : Opn) (da : Option Addr) (dc : Nat) (ra : Option Addr) (rc : Nat) : Prop where
  m : MdAt 61 L wr p S'
  q : MdAt 60 L2 wr q S
  apart : ∀ b, b ∈ L → b ∉ L2
  gl : gb ∉ L ∧ gb ∉ L2
  rl : rb ∉ L ∧ rb ∉ L2
  new : ∀ b, b ∈ L → w.heap.size ≤ b
  op : wr.heap[gb]? = some (.cells #[.int .u8 (o.code : Int), .int .u64 (o.vol : Int), .int .u64 (o.pl : Int), .int .u64 (o.n : Int), .slice da o.len dc] 26 (0, 0))
  ob : BytesIn wr da o.len dc o.f
  ok : OpOK o
  rep : wr.heap[rb]? = some (.cells #[.int .i64 (R.err : Int), .int .u64 (R.vol : Int), .slice ra R.n rc, .int .i64 (R.cnt : Int)] 32 (0, 0))
  rby : BytesIn wr ra R.n rc R.f
  rf : ∀ b, ra = some b → b.block ∉ L
  df : 0 < o.len → ∀ b, da = some b → b.block ∉ L
  chg : Chg [] w wr

theorem RefR.step {w wr w' : World} {p q gb rb dc rc : Nat} {L L2 : List Nat} {S' S : St} {R : Rep} {o : Opn} {da ra : Option Addr} (h : RefR w wr p q L L2 S' S R gb rb o da dc ra rc) (c : Chg [] wr w') : RefR w w' p q L L2 S' S R gb rb o da dc ra rc :=
  { h with
    m := h.m.chg c (by simp)
    q := h.q.chg c (by simp)
    op := (c.block _ (heap_lt h.op) (by simp)).trans h.op
    ob := h.ob.chg c (by simp)
    rep := (c.block _ (heap_lt h.rep) (by simp)).trans h.rep
    rby := h.rby.chg c (by simp)
    chg := h.chg.trans c }

set_option maxRecDepth 20000 in
set_option maxHeartbeats 8000000 in
theorem modelRefused_walk (a0 : Int) (a1 : Option Addr) (len1 cap1 : Nat) (z1 : Nat → Opn) (v2 : Value) (o2 : Opn) (w : World) (h0 : (Lit.int .u8 a0).wf = true) (h1 : IsOps w a1 len1 cap1 z1) (h2 : IsOp w v2 o2) :
    Calls Try.prog 3 #[.int .u8 a0, .slice a1 len1 cap1, v2] w (LawOk w) := by
  have hb := bd_u8 h0
  obtain ⟨sz, rfl, hsz⟩ : ∃ sz : Nat, a0 = (sz : Int) ∧ sz ≤ 255 := ⟨a0.toNat, by omega, by omega⟩
  obtain ⟨da, dc, rfl, hB, hO⟩ := h2
  obtain ⟨code, vol, pl, n, len, f⟩ := o2
  unfold opV
  dsimp only at *
  have hW : Chg [] w (w.alloc (.cells #[.int .u8 (code : Int), .int .u64 (vol : Int), .int .u64 (pl : Int), .int .u64 (n : Int), .slice da len dc] 26)) := (Chg.refl [] w).alloc _
  have hG := new_block w (.cells #[.int .u8 (code : Int), .int .u64 (vol : Int), .int .u64 (pl : Int), .int .u64 (n : Int), .slice da len dc] 26)
  have hI := h1.chg hW
  have hB' := hB.chg hW (by simp)
  have hdl : 0 < len → ∀ b, da = some b → b.block < w.heap.size := fun h0 b hb => by
    obtain ⟨k, o', rfl, hb'⟩ := hB.2.2.2 b hb h0
    exact World.block_lt_of_cell? w ⟨k, o' + 0, none⟩ (hb' 0 h0).1
  have HO := Lib.hid hO
  have HDL := Lib.hid hdl
  have HSZ := Lib.hid hsz
  clear h1 hB hO hdl hb h0 hsz
  go_enter Try.func3, Try.ntmps3
  go_wp2_with fail
  generalize w.alloc (.cells #[.int .u8 (code : Int), .int .u64 (vol : Int), .int .u64 (pl : Int), .int .u64 (n : Int), .slice da len dc] 26) = W at *
  have HG := Lib.hid hG
  have HW := Lib.hid hW
  have HBD := Lib.hid hB'
  clear hG hW hB'
  refine (after_at HSZ.out hI).mono ?_
  rintro e w1 ⟨p, L, rfl, hM, hL, hC1⟩
  unfold aPtr
  generalize runS (St.new (1 + sz)) z1 (min len1 60) = S at *
  have HM := Lib.hid hM
  have HL := Lib.hid hL
  have HC1 := Lib.hid hC1
  clear hM hL hC1 hI
  go_wp2_with fail
  refine (copy_at HM.out (by omega)).mono ?_
  rintro e w2 ⟨q, L2, rfl, hM2, hL2, hC2⟩
  unfold aPtr
  have hG2 := (hC2.block _ (Nat.lt_of_lt_of_le (heap_lt HG.out) HC1.out.size) (by simp)).trans ((HC1.out.block _ (heap_lt HG.out) (by simp)).trans HG.out)
  have HM2 := Lib.hid hM2
  have HL2 := Lib.hid hL2
  have HC2 := Lib.hid hC2
  clear hM2 hL2 hC2
  have g0 := cell_of_block hG2 0
  have g1 := cell_of_block hG2 1
  have g2 := cell_of_block hG2 2
  have g3 := cell_of_block hG2 3
  have g4 := cell_of_block hG2 4
  simp only [List.getElem?_toArray, List.getElem?_cons_zero, List.getElem?_cons_succ] at g0 g1 g2 g3 g4
  have lg := heap_lt hG2
  have HG2 := Lib.hid hG2
  clear hG2
  go_wp2_with fail
  refine (do_at (o := ⟨code, vol, pl, n, len, f⟩) (HM.out.chg HC2.out (by simp)) (by omega) ⟨da, dc, rfl, (HBD.out.chg HC1.out (by simp)).chg HC2.out (by simp), HO.out⟩).mono ?_
  rintro e w3 ⟨L3, a3, c3, rfl, hM3, hL3, hB3, hF3, hC3⟩
  unfold repV
  have HRE := Lib.hid (rep_errf S ⟨code, vol, pl, n, len, f⟩)
  have HRS := Lib.hid (fun h => rep_same (S := S) (o := ⟨code, vol, pl, n, len, f⟩) h)
  generalize hR : repOf S ⟨code, vol, pl, n, len, f⟩ = R at *
  have HN := Lib.hid (And.intro hM3 (And.intro hL3 (And.intro hB3 (And.intro hF3 hC3))))
  clear hM3 hL3 hB3 hF3 hC3 g0 g1 g2 g3 g4
  go_upto_region 6 with fail
  have hcv : Chg [] w3 (w3.alloc (.cells #[.int .i64 (R.err : Int), .int .u64 (R.vol : Int), .slice a3 R.n c3, .int .i64 (R.cnt : Int)] 32)) := (Chg.refl [] w3).alloc _
  have hV := new_block w3 (.cells #[.int .i64 (R.err : Int), .int .u64 (R.vol : Int), .slice a3 R.n c3, .int .i64 (R.cnt : Int)] 32)
  generalize w3.alloc (.cells #[.int .i64 (R.err : Int), .int .u64 (R.vol : Int), .slice a3 R.n c3, .int .i64 (R.cnt : Int)] 32) = W4 at *
  -- TAIL
  have hRF : RefR w W4 p q L3 L2 (stOf S ⟨code, vol, pl, n, len, f⟩) S R w.heap.size w3.heap.size ⟨code, vol, pl, n, len, f⟩ da dc a3 c3 := by
    have hlM := HM.out.lt
    have hlM2 := HM2.out.lt
    have hlM3 := HN.out.1.lt
    have hs1 := HC1.out.size
    have hs2 := HC2.out.size
    have hs3 := HN.out.2.2.2.2.size
    have hsW := HW.out.size
    have hgW := heap_lt HG.out
    have hLL : ∀ b, b ∈ L3 → W.heap.size ≤ b := fun b hb => by
      rcases HN.out.2.1 b hb with h | h
      · exact HL.out b h
      · omega
    have hga : w.heap.size ∉ L := fun hb => by have := HL.out _ hb; omega
    have hc3 : Chg [] w w3 := ((HW.out.trans HC1.out).trans HC2.out).then HN.out.2.2.2.2 (fun i hi => .inr (by have := HL.out i hi; omega))
    exact { m := HN.out.1.chg hcv (by simp)
            q := (HM2.out.chg HN.out.2.2.2.2 (fun b hb hb2 => by have := HL2.out b hb; have := hlM b hb2; omega)).chg hcv (by simp)
            apart := fun b hb hb2 => by
              rcases HN.out.2.1 b hb with h | h
              · have := hlM b h; have := HL2.out b hb2; omega
              · have := hlM2 b hb2; omega
            gl := ⟨fun hb => by have := hLL _ hb; omega, fun hb => by have := HL2.out _ hb; omega⟩
            rl := ⟨fun hb => by have := hlM3 _ hb; omega, fun hb => by have := hlM2 _ hb; omega⟩
            new := fun b hb => by have := hLL b hb; omega
            op := (hcv.block _ (by omega) (by simp)).trans ((HN.out.2.2.2.2.block _ (by omega) hga).trans HG2.out)
            ob := (((HBD.out.chg HC1.out (by simp)).chg HC2.out (by simp)).chg HN.out.2.2.2.2 (fun h0 b hb hm => by have := HL.out _ hm; have := HDL.out h0 b hb; omega)).chg hcv (by simp)
            ok := HO.out
            rep := hV
            rby := HN.out.2.2.1.chg hcv (by simp)
            rf := fun b hb => (HN.out.2.2.2.1 b hb).2
            df := fun h0 b hb hm => by have := hLL _ hm; have := HDL.out h0 b hb; omega
            chg := hc3.trans hcv }
  have HRF := Lib.hid hRF
  clear hRF hV hcv HG HW HBD HM HL HC1 HM2 HL2 HC2 HG2 HN HDL lg
  have hgc := HRF.out.op
  have hrc := HRF.out.rep
  have g0 := cell_of_block hgc 0
  have g1 := cell_of_block hgc 1
  have g2 := cell_of_block hgc 2
  have g3 := cell_of_block hgc 3
  have g4 := cell_of_block hgc 4
  simp only [List.getElem?_toArray, List.getElem?_cons_zero, List.getElem?_cons_succ] at g0 g1 g2 g3 g4
  have r0 := cell_of_block hrc 0
  have r1 := cell_of_block hrc 1
  have r2 := cell_of_block hrc 2
  have r3 := cell_of_block hrc 3
  simp only [List.getElem?_toArray, List.getElem?_cons_zero, List.getElem?_cons_succ] at r0 r1 r2 r3
  have lg := heap_lt hgc
  have lr := heap_lt hrc
  clear hgc hrc
  by_cases he : errOf S ⟨code, vol, pl, n, len, f⟩ = 0
  case' neg =>
    have hre : ¬ R.err = 0 := by rw [HRE.out]; exact he
    have he' : ((R.err : Int) != 0) = true := by simp; exact hre
    have hei : ¬ (R.err : Int) = 0 := by omega
    have cS := same24_at (R1 := R) (R2 := ⟨R.err, 0, 0, fun _ => 0, 0⟩) HRF.out.rby bytes_none
    rw [HRS.out he] at cS
    unfold repV at cS
    rw [show (((0 : Nat)) : Int) = 0 from rfl] at cS
    have HST := Lib.hid (show stEq (stOf S ⟨code, vol, pl, n, len, f⟩) S = true from by rw [st_err he]; exact stEq_self S)
    go_wp2_with fail
    refine cS.mono ?_
    clear cS
    rintro e w5 ⟨rfl, hC5⟩
    have HR5 := Lib.hid (HRF.out.step hC5)
    clear hC5
    go_wp2_with fail
    refine (same_at HR5.out.m HR5.out.q).mono ?_
    rintro e w6 ⟨rfl, hC6⟩
    rw [HST.out]
    have HC6 := Lib.hid (HR5.out.chg.trans hC6)
    clear hC6
    go_wp2_with fail
    refine awake24_at.mono ?_
    rintro e w7 ⟨rfl, hC7⟩
    have HC7 := Lib.hid (HC6.out.trans hC7)
    clear hC7
    go_wp2_with fail
    go_ret
    exact law_ok HC7.out
  have hr0 : (R.err : Int) = 0 := by rw [HRE.out, he]; rfl
  rw [hr0] at r0
  have HR0 := Lib.hid hr0
  obtain ⟨hc1, hc9⟩ := err_code he
  have hcs : code = 1 ∨ code = 2 ∨ code = 3 ∨ code = 4 ∨ code = 5 ∨ code = 6 ∨ code = 7 ∨ code = 8 ∨ code = 9 := by dsimp only at hc1 hc9; omega
  clear hc1 hc9 hr0
  rcases hcs with rfl | rfl | rfl | rfl | rfl | rfl | rfl | rfl | rfl
  · rw [show (((1 : Nat)) : Int) = 1 from rfl] at g0
    have HST := Lib.hid (st_new (S := S) (o := ⟨1, vol, pl, n, len, f⟩) he (by simp))
    go_wp2_with fail
    refine (same_at HRF.out.m HRF.out.q).mono ?_
    rintro e w5 ⟨rfl, hC5⟩
    rw [HST.out]
    have HC5 := Lib.hid (HRF.out.chg.trans hC5)
    clear hC5
    go_wp2_with fail
    refine awake24_at.mono ?_
    rintro e w6 ⟨rfl, hC6⟩
    have HC6 := Lib.hid (HC5.out.trans hC6)
    clear hC6
    go_wp2_with fail
    go_ret
    exact law_ok HC6.out
  · rw [show (((2 : Nat)) : Int) = 2 from rfl] at g0
    have HST := Lib.hid (st_new (S := S) (o := ⟨2, vol, pl, n, len, f⟩) he (by simp))
    go_wp2_with fail
    refine (same_at HRF.out.m HRF.out.q).mono ?_
    rintro e w5 ⟨rfl, hC5⟩
    rw [HST.out]
    have HC5 := Lib.hid (HRF.out.chg.trans hC5)
    clear hC5
    go_wp2_with fail
    refine awake24_at.mono ?_
    rintro e w6 ⟨rfl, hC6⟩
    have HC6 := Lib.hid (HC5.out.trans hC6)
    clear hC6
    go_wp2_with fail
    go_ret
    exact law_ok HC6.out
  · rw [show (((3 : Nat)) : Int) = 3 from rfl] at g0
    have HST := Lib.hid (st_new (S := S) (o := ⟨3, vol, pl, n, len, f⟩) he (by simp))
    go_wp2_with fail
    refine (same_at HRF.out.m HRF.out.q).mono ?_
    rintro e w5 ⟨rfl, hC5⟩
    rw [HST.out]
    have HC5 := Lib.hid (HRF.out.chg.trans hC5)
    clear hC5
    go_wp2_with fail
    refine awake24_at.mono ?_
    rintro e w6 ⟨rfl, hC6⟩
    have HC6 := Lib.hid (HC5.out.trans hC6)
    clear hC6
    go_wp2_with fail
    go_ret
    exact law_ok HC6.out
  · rw [show (((4 : Nat)) : Int) = 4 from rfl] at g0
    have HV4 : Hid ((.agg #[.int .u8 4, .int .u64 (vol : Int), .int .u64 (pl : Int), .int .u64 (n : Int), .slice da len dc] : Value) = opV 4 vol pl n (.slice da len dc)) := Lib.hid rfl
    have HSS := Lib.hid (st_ask (S := S) (o := ⟨4, vol, pl, n, len, f⟩) (by simp))
    have HST := Lib.hid (show stEq (stOf S ⟨4, vol, pl, n, len, f⟩) S = true from by rw [HSS.out]; exact stEq_self S)
    go_wp2_with fail
    refine wp_region_held_drew (S := fun W' => W'.cell? ⟨w.heap.size, 0, none⟩ = some (.int .u8 4) ∧ W'.cell? ⟨w.heap.size, 1, none⟩ = some (.int .u64 (vol : Int)) ∧ W'.cell? ⟨w.heap.size, 2, none⟩ = some (.int .u64 (pl : Int)) ∧ W'.cell? ⟨w.heap.size, 3, none⟩ = some (.int .u64 (n : Int)) ∧ W'.cell? ⟨w.heap.size, 4, none⟩ = some (.slice da len dc) ∧ W'.cell? ⟨w3.heap.size, 0, none⟩ = some (.int .i64 0) ∧ W'.cell? ⟨w3.heap.size, 1, none⟩ = some (.int .u64 (R.vol : Int)) ∧ W'.cell? ⟨w3.heap.size, 2, none⟩ = some (.slice a3 R.n c3) ∧ W'.cell? ⟨w3.heap.size, 3, none⟩ = some (.int .i64 (R.cnt : Int))) (by kernel_rfl) (by exact ⟨g0, g1, g2, g3, g4, r0, r1, r2, r3⟩) (fun hHeld => ?_)
    refine wpAnyH_take (i := 0) (oi := ?_) (v := ?_) ?_ (by kernel_rfl) (by kernel_rfl) (by kernel_rfl) ?_ (Or.inl ⟨?_, ?_⟩) hHeld ?_
    rotate_left 2
    · (simp only [List.getElem?_toArray, List.getElem?_cons_succ, List.getElem?_cons_zero]; rfl)
    · exact fun _ _ _ h => h
    · rfl
    · (rintro W' ⟨s0, s1, s2, s3, s4, s5, s6, s7, s8⟩; go_simp; first | done | with_reducible rfl)
    try simp only [Act.put, List.setIfInBounds_toArray, List.set_cons_zero, List.set_cons_succ]
    refine wpAnyH_take (i := 1) (oi := ?_) (v := ?_) ?_ (by kernel_rfl) (by kernel_rfl) (by kernel_rfl) ?_ (Or.inl ⟨?_, ?_⟩) hHeld ?_
    rotate_left 2
    · (simp only [List.getElem?_toArray, List.getElem?_cons_succ, List.getElem?_cons_zero]; rfl)
    · exact fun _ _ _ h => h
    · rfl
    · (rintro W' ⟨s0, s1, s2, s3, s4, s5, s6, s7, s8⟩; go_simp; first | done | with_reducible rfl)
    try simp only [Act.put, List.setIfInBounds_toArray, List.set_cons_zero, List.set_cons_succ]
    refine wpAnyH_ready (rs := [2]) (by kernel_rfl) (by simp) ?_
    refine AllReadyH.cons (o := ?_) ?_ (fun K hK => ?_) AllReadyH.nil
    rotate_left 1
    · (simp only [List.getElem?_toArray, List.getElem?_cons_succ, List.getElem?_cons_zero]; rfl)
    · (go_simp; refine (same_at (HRF.out.m.chg (Chg.refl [] W4).drew (by simp)) (HRF.out.q.chg (Chg.refl [] W4).drew (by simp))).mono ?_; rintro e w5 ⟨rfl, hC5⟩; have HC5 := Lib.hid ((Chg.refl [] W4).drew.trans hC5); clear hC5; rw [HST.out])
      refine hK.out _ _ ?_ (fun hHeld => ?_)
      · exact ⟨(HC5.out.cell (p := ⟨w.heap.size, 0, none⟩) lg (by simp)).trans g0, (HC5.out.cell (p := ⟨w.heap.size, 1, none⟩) lg (by simp)).trans g1, (HC5.out.cell (p := ⟨w.heap.size, 2, none⟩) lg (by simp)).trans g2, (HC5.out.cell (p := ⟨w.heap.size, 3, none⟩) lg (by simp)).trans g3, (HC5.out.cell (p := ⟨w.heap.size, 4, none⟩) lg (by simp)).trans g4, (HC5.out.cell (p := ⟨w3.heap.size, 0, none⟩) lr (by simp)).trans r0, (HC5.out.cell (p := ⟨w3.heap.size, 1, none⟩) lr (by simp)).trans r1, (HC5.out.cell (p := ⟨w3.heap.size, 2, none⟩) lr (by simp)).trans r2, (HC5.out.cell (p := ⟨w3.heap.size, 3, none⟩) lr (by simp)).trans r3⟩
      clear hK K
      try simp only [Act.put, List.setIfInBounds_toArray, List.set_cons_zero, List.set_cons_succ]
      refine wpAnyH_take (i := 3) (oi := ?_) (v := ?_) ?_ (by kernel_rfl) (by kernel_rfl) (by kernel_rfl) ?_ (Or.inl ⟨?_, ?_⟩) hHeld ?_
      rotate_left 2
      · (simp only [List.getElem?_toArray, List.getElem?_cons_succ, List.getElem?_cons_zero]; rfl)
      · exact fun _ _ _ h => h
      · rfl
      · (rintro W' ⟨s0, s1, s2, s3, s4, s5, s6, s7, s8⟩; go_simp; first | done | with_reducible rfl)
      try simp only [Act.put, List.setIfInBounds_toArray, List.set_cons_zero, List.set_cons_succ]
      refine wpAnyH_take (i := 4) (oi := ?_) (v := ?_) ?_ (by kernel_rfl) (by kernel_rfl) (by kernel_rfl) ?_ (Or.inl ⟨?_, ?_⟩) hHeld ?_
      rotate_left 2
      · (simp only [List.getElem?_toArray, List.getElem?_cons_succ, List.getElem?_cons_zero]; rfl)
      · exact fun _ _ _ h => h
      · rfl
      · (rintro W' ⟨s0, s1, s2, s3, s4, s5, s6, s7, s8⟩; go_simp; first | done | with_reducible rfl)
      try simp only [Act.put, List.setIfInBounds_toArray, List.set_cons_zero, List.set_cons_succ]
      refine wpAnyH_take (i := 5) (oi := ?_) (v := ?_) ?_ (by kernel_rfl) (by kernel_rfl) (by kernel_rfl) ?_ (Or.inl ⟨?_, ?_⟩) hHeld ?_
      rotate_left 2
      · (simp only [List.getElem?_toArray, List.getElem?_cons_succ, List.getElem?_cons_zero]; rfl)
      · exact fun _ _ _ h => h
      · rfl
      · (rintro W' ⟨s0, s1, s2, s3, s4, s5, s6, s7, s8⟩; go_simp; first | done | with_reducible rfl)
      try simp only [Act.put, List.setIfInBounds_toArray, List.set_cons_zero, List.set_cons_succ]
      refine wpAnyH_take (i := 7) (oi := ?_) (v := ?_) ?_ (by kernel_rfl) (by kernel_rfl) (by kernel_rfl) ?_ (Or.inl ⟨?_, ?_⟩) hHeld ?_
      rotate_left 2
      · (simp only [List.getElem?_toArray, List.getElem?_cons_succ, List.getElem?_cons_zero]; rfl)
      · exact fun _ _ _ h => h
      · rfl
      · (rintro W' ⟨s0, s1, s2, s3, s4, s5, s6, s7, s8⟩; go_simp; first | done | with_reducible rfl)
      try simp only [Act.put, List.setIfInBounds_toArray, List.set_cons_zero, List.set_cons_succ]
      refine wpAnyH_ready (rs := [6]) (by kernel_rfl) (by simp) ?_
      refine AllReadyH.cons (o := ?_) ?_ (fun K hK => ?_) AllReadyH.nil
      rotate_left 1
      · (simp only [List.getElem?_toArray, List.getElem?_cons_succ, List.getElem?_cons_zero]; rfl)
      · (have cD := do_at (v := .agg #[.int .u8 4, .int .u64 (vol : Int), .int .u64 (pl : Int), .int .u64 (n : Int), .slice da len dc]) (o := ⟨4, vol, pl, n, len, f⟩) (HRF.out.step HC5.out).m (by omega) ⟨da, dc, HV4.out, (HRF.out.step HC5.out).ob, HRF.out.ok⟩; rw [HSS.out, hR] at cD; go_simp; refine cD.mono ?_; clear cD; rintro e w6 ⟨L6, a6, c6, rfl, hM6, hL6, hB6, hF6, hC6⟩; have HB6 := Lib.hid hB6; have HC6 := Lib.hid hC6; have HC56 := Lib.hid ((HC5.out.mono (by simp)).trans hC6); clear hM6 hL6 hF6 hC6 hB6; unfold repV; rw [HR0.out])
        refine hK.out _ _ ?_ (fun hHeld => ?_)
        · exact ⟨(HC56.out.cell (p := ⟨w.heap.size, 0, none⟩) lg HRF.out.gl.1).trans g0, (HC56.out.cell (p := ⟨w.heap.size, 1, none⟩) lg HRF.out.gl.1).trans g1, (HC56.out.cell (p := ⟨w.heap.size, 2, none⟩) lg HRF.out.gl.1).trans g2, (HC56.out.cell (p := ⟨w.heap.size, 3, none⟩) lg HRF.out.gl.1).trans g3, (HC56.out.cell (p := ⟨w.heap.size, 4, none⟩) lg HRF.out.gl.1).trans g4, (HC56.out.cell (p := ⟨w3.heap.size, 0, none⟩) lr HRF.out.rl.1).trans r0, (HC56.out.cell (p := ⟨w3.heap.size, 1, none⟩) lr HRF.out.rl.1).trans r1, (HC56.out.cell (p := ⟨w3.heap.size, 2, none⟩) lr HRF.out.rl.1).trans r2, (HC56.out.cell (p := ⟨w3.heap.size, 3, none⟩) lr HRF.out.rl.1).trans r3⟩
        clear hK K
        try simp only [Act.put, List.setIfInBounds_toArray, List.set_cons_zero, List.set_cons_succ]
        refine wpAnyH_ready (rs := [8]) (by kernel_rfl) (by simp) ?_
        refine AllReadyH.cons (o := ?_) ?_ (fun K hK => ?_) AllReadyH.nil
        rotate_left 1
        · (simp only [List.getElem?_toArray, List.getElem?_cons_succ, List.getElem?_cons_zero]; rfl)
        · (go_simp; have cS := same24_at (R1 := R) (R2 := R) HB6.out ((HRF.out.step HC5.out).rby.chg HC6.out (fun _ => HRF.out.rf)); rw [repEq_self] at cS; unfold repV at cS; rw [HR0.out] at cS; refine cS.mono ?_; clear cS; rintro e w7 ⟨rfl, hC7⟩; have HC7 := Lib.hid (HC56.out.trans (hC7.mono (by simp))); clear hC7)
          refine hK.out _ _ ?_ (fun hHeld => ?_)
          · exact ⟨(HC7.out.cell (p := ⟨w.heap.size, 0, none⟩) lg HRF.out.gl.1).trans g0, (HC7.out.cell (p := ⟨w.heap.size, 1, none⟩) lg HRF.out.gl.1).trans g1, (HC7.out.cell (p := ⟨w.heap.size, 2, none⟩) lg HRF.out.gl.1).trans g2, (HC7.out.cell (p := ⟨w.heap.size, 3, none⟩) lg HRF.out.gl.1).trans g3, (HC7.out.cell (p := ⟨w.heap.size, 4, none⟩) lg HRF.out.gl.1).trans g4, (HC7.out.cell (p := ⟨w3.heap.size, 0, none⟩) lr HRF.out.rl.1).trans r0, (HC7.out.cell (p := ⟨w3.heap.size, 1, none⟩) lr HRF.out.rl.1).trans r1, (HC7.out.cell (p := ⟨w3.heap.size, 2, none⟩) lr HRF.out.rl.1).trans r2, (HC7.out.cell (p := ⟨w3.heap.size, 3, none⟩) lr HRF.out.rl.1).trans r3⟩
          clear hK K
          try simp only [Act.put, List.setIfInBounds_toArray, List.set_cons_zero, List.set_cons_succ]
          refine wpAnyH_take (i := 9) (oi := ?_) (v := ?_) ?_ (by kernel_rfl) (by kernel_rfl) (by kernel_rfl) ?_ (Or.inl ⟨?_, ?_⟩) hHeld ?_
          rotate_left 2
          · (simp only [List.getElem?_toArray, List.getElem?_cons_succ, List.getElem?_cons_zero]; rfl)
          · exact fun _ _ _ h => h
          · rfl
          · (rintro W' ⟨s0, s1, s2, s3, s4, s5, s6, s7, s8⟩; go_simp; first | done | with_reducible rfl)
          try simp only [Act.put, List.setIfInBounds_toArray, List.set_cons_zero, List.set_cons_succ]
          refine wpAnyH_take (i := 10) (oi := ?_) (v := ?_) ?_ (by kernel_rfl) (by kernel_rfl) (by kernel_rfl) ?_ (Or.inl ⟨?_, ?_⟩) hHeld ?_
          rotate_left 2
          · (simp only [List.getElem?_toArray, List.getElem?_cons_succ, List.getElem?_cons_zero]; rfl)
          · exact fun _ _ _ h => h
          · rfl
          · (rintro W' ⟨s0, s1, s2, s3, s4, s5, s6, s7, s8⟩; go_simp; first | done | with_reducible rfl)
          try simp only [Act.put, List.setIfInBounds_toArray, List.set_cons_zero, List.set_cons_succ]
          refine wpAnyH_ready (rs := [11]) (by kernel_rfl) (by simp) ?_
          refine AllReadyH.cons (o := ?_) ?_ (fun K hK => ?_) AllReadyH.nil
          rotate_left 1
          · (simp only [List.getElem?_toArray, List.getElem?_cons_succ, List.getElem?_cons_zero]; rfl)
          · (go_simp; refine awake24_at.mono ?_; rintro e w8 ⟨rfl, hC8⟩; have HC8 := Lib.hid (HC7.out.trans (hC8.mono (by simp))); clear hC8)
            refine hK.out _ _ ?_ (fun hHeld => ?_)
            · exact ⟨(HC8.out.cell (p := ⟨w.heap.size, 0, none⟩) lg HRF.out.gl.1).trans g0, (HC8.out.cell (p := ⟨w.heap.size, 1, none⟩) lg HRF.out.gl.1).trans g1, (HC8.out.cell (p := ⟨w.heap.size, 2, none⟩) lg HRF.out.gl.1).trans g2, (HC8.out.cell (p := ⟨w.heap.size, 3, none⟩) lg HRF.out.gl.1).trans g3, (HC8.out.cell (p := ⟨w.heap.size, 4, none⟩) lg HRF.out.gl.1).trans g4, (HC8.out.cell (p := ⟨w3.heap.size, 0, none⟩) lr HRF.out.rl.1).trans r0, (HC8.out.cell (p := ⟨w3.heap.size, 1, none⟩) lr HRF.out.rl.1).trans r1, (HC8.out.cell (p := ⟨w3.heap.size, 2, none⟩) lr HRF.out.rl.1).trans r2, (HC8.out.cell (p := ⟨w3.heap.size, 3, none⟩) lr HRF.out.rl.1).trans r3⟩
            clear hK K
            try simp only [Act.put, List.setIfInBounds_toArray, List.set_cons_zero, List.set_cons_succ]
            refine wpAnyH_take (i := 12) (oi := ?_) (v := ?_) ?_ (by kernel_rfl) (by kernel_rfl) (by kernel_rfl) ?_ (Or.inl ⟨?_, ?_⟩) hHeld ?_
            rotate_left 2
            · (simp only [List.getElem?_toArray, List.getElem?_cons_succ, List.getElem?_cons_zero]; rfl)
            · exact fun _ _ _ h => h
            · rfl
            · (rintro W' ⟨s0, s1, s2, s3, s4, s5, s6, s7, s8⟩; go_simp; first | done | with_reducible rfl)
            try simp only [Act.put, List.setIfInBounds_toArray, List.set_cons_zero, List.set_cons_succ]
            refine wpAnyH_take (i := 13) (oi := ?_) (v := ?_) ?_ (by kernel_rfl) (by kernel_rfl) (by kernel_rfl) ?_ (Or.inl ⟨?_, ?_⟩) hHeld ?_
            rotate_left 2
            · (simp only [List.getElem?_toArray, List.getElem?_cons_succ, List.getElem?_cons_zero]; rfl)
            · exact fun _ _ _ h => h
            · rfl
            · (rintro W' ⟨s0, s1, s2, s3, s4, s5, s6, s7, s8⟩; go_simp; first | done | with_reducible rfl)
            try simp only [Act.put, List.setIfInBounds_toArray, List.set_cons_zero, List.set_cons_succ]
            refine wpAnyH_done (by kernel_rfl) ?_ _
            go_wp2_with fail
            go_ret
            exact law_ok (HRF.out.chg.then HC8.out (fun i hi => .inr (HRF.out.new i hi)))
  · rw [show (((5 : Nat)) : Int) = 5 from rfl] at g0
    go_wp2_with fail
    refine awake24_at.mono ?_
    rintro e w6 ⟨rfl, hC6⟩
    have HC6 := Lib.hid (HRF.out.chg.trans hC6)
    clear hC6
    go_wp2_with fail
    go_ret
    exact law_ok HC6.out
  · rw [show (((6 : Nat)) : Int) = 6 from rfl] at g0
    go_wp2_with fail
    refine awake24_at.mono ?_
    rintro e w6 ⟨rfl, hC6⟩
    have HC6 := Lib.hid (HRF.out.chg.trans hC6)
    clear hC6
    go_wp2_with fail
    go_ret
    exact law_ok HC6.out
  · rw [show (((7 : Nat)) : Int) = 7 from rfl] at g0
    have HV4 : Hid ((.agg #[.int .u8 7, .int .u64 (vol : Int), .int .u64 (pl : Int), .int .u64 (n : Int), .slice da len dc] : Value) = opV 7 vol pl n (.slice da len dc)) := Lib.hid rfl
    have HSS := Lib.hid (st_ask (S := S) (o := ⟨7, vol, pl, n, len, f⟩) (by simp))
    have HST := Lib.hid (show stEq (stOf S ⟨7, vol, pl, n, len, f⟩) S = true from by rw [HSS.out]; exact stEq_self S)
    go_wp2_with fail
    refine wp_region_held_drew (S := fun W' => W'.cell? ⟨w.heap.size, 0, none⟩ = some (.int .u8 7) ∧ W'.cell? ⟨w.heap.size, 1, none⟩ = some (.int .u64 (vol : Int)) ∧ W'.cell? ⟨w.heap.size, 2, none⟩ = some (.int .u64 (pl : Int)) ∧ W'.cell? ⟨w.heap.size, 3, none⟩ = some (.int .u64 (n : Int)) ∧ W'.cell? ⟨w.heap.size, 4, none⟩ = some (.slice da len dc) ∧ W'.cell? ⟨w3.heap.size, 0, none⟩ = some (.int .i64 0) ∧ W'.cell? ⟨w3.heap.size, 1, none⟩ = some (.int .u64 (R.vol : Int)) ∧ W'.cell? ⟨w3.heap.size, 2, none⟩ = some (.slice a3 R.n c3) ∧ W'.cell? ⟨w3.heap.size, 3, none⟩ = some (.int .i64 (R.cnt : Int))) (by kernel_rfl) (by exact ⟨g0, g1, g2, g3, g4, r0, r1, r2, r3⟩) (fun hHeld => ?_)
    refine wpAnyH_take (i := 0) (oi := ?_) (v := ?_) ?_ (by kernel_rfl) (by kernel_rfl) (by kernel_rfl) ?_ (Or.inl ⟨?_, ?_⟩) hHeld ?_
    rotate_left 2
    · (simp only [List.getElem?_toArray, List.getElem?_cons_succ, List.getElem?_cons_zero]; rfl)
    · exact fun _ _ _ h => h
    · rfl
    · (rintro W' ⟨s0, s1, s2, s3, s4, s5, s6, s7, s8⟩; go_simp; first | done | with_reducible rfl)
    try simp only [Act.put, List.setIfInBounds_toArray, List.set_cons_zero, List.set_cons_succ]
    refine wpAnyH_take (i := 1) (oi := ?_) (v := ?_) ?_ (by kernel_rfl) (by kernel_rfl) (by kernel_rfl) ?_ (Or.inl ⟨?_, ?_⟩) hHeld ?_
    rotate_left 2
    · (simp only [List.getElem?_toArray, List.getElem?_cons_succ, List.getElem?_cons_zero]; rfl)
    · exact fun _ _ _ h => h
    · rfl
    · (rintro W' ⟨s0, s1, s2, s3, s4, s5, s6, s7, s8⟩; go_simp; first | done | with_reducible rfl)
    try simp only [Act.put, List.setIfInBounds_toArray, List.set_cons_zero, List.set_cons_succ]
    refine wpAnyH_ready (rs := [2]) (by kernel_rfl) (by simp) ?_
    refine AllReadyH.cons (o := ?_) ?_ (fun K hK => ?_) AllReadyH.nil
    rotate_left 1
    · (simp only [List.getElem?_toArray, List.getElem?_cons_succ, List.getElem?_cons_zero]; rfl)
    · (go_simp; refine (same_at (HRF.out.m.chg (Chg.refl [] W4).drew (by simp)) (HRF.out.q.chg (Chg.refl [] W4).drew (by simp))).mono ?_; rintro e w5 ⟨rfl, hC5⟩; have HC5 := Lib.hid ((Chg.refl [] W4).drew.trans hC5); clear hC5; rw [HST.out])
      refine hK.out _ _ ?_ (fun hHeld => ?_)
      · exact ⟨(HC5.out.cell (p := ⟨w.heap.size, 0, none⟩) lg (by simp)).trans g0, (HC5.out.cell (p := ⟨w.heap.size, 1, none⟩) lg (by simp)).trans g1, (HC5.out.cell (p := ⟨w.heap.size, 2, none⟩) lg (by simp)).trans g2, (HC5.out.cell (p := ⟨w.heap.size, 3, none⟩) lg (by simp)).trans g3, (HC5.out.cell (p := ⟨w.heap.size, 4, none⟩) lg (by simp)).trans g4, (HC5.out.cell (p := ⟨w3.heap.size, 0, none⟩) lr (by simp)).trans r0, (HC5.out.cell (p := ⟨w3.heap.size, 1, none⟩) lr (by simp)).trans r1, (HC5.out.cell (p := ⟨w3.heap.size, 2, none⟩) lr (by simp)).trans r2, (HC5.out.cell (p := ⟨w3.heap.size, 3, none⟩) lr (by simp)).trans r3⟩
      clear hK K
      try simp only [Act.put, List.setIfInBounds_toArray, List.set_cons_zero, List.set_cons_succ]
      refine wpAnyH_take (i := 3) (oi := ?_) (v := ?_) ?_ (by kernel_rfl) (by kernel_rfl) (by kernel_rfl) ?_ (Or.inl ⟨?_, ?_⟩) hHeld ?_
      rotate_left 2
      · (simp only [List.getElem?_toArray, List.getElem?_cons_succ, List.getElem?_cons_zero]; rfl)
      · exact fun _ _ _ h => h
      · rfl
      · (rintro W' ⟨s0, s1, s2, s3, s4, s5, s6, s7, s8⟩; go_simp; first | done | with_reducible rfl)
      try simp only [Act.put, List.setIfInBounds_toArray, List.set_cons_zero, List.set_cons_succ]
      refine wpAnyH_take (i := 4) (oi := ?_) (v := ?_) ?_ (by kernel_rfl) (by kernel_rfl) (by kernel_rfl) ?_ (Or.inl ⟨?_, ?_⟩) hHeld ?_
      rotate_left 2
      · (simp only [List.getElem?_toArray, List.getElem?_cons_succ, List.getElem?_cons_zero]; rfl)
      · exact fun _ _ _ h => h
      · rfl
      · (rintro W' ⟨s0, s1, s2, s3, s4, s5, s6, s7, s8⟩; go_simp; first | done | with_reducible rfl)
      try simp only [Act.put, List.setIfInBounds_toArray, List.set_cons_zero, List.set_cons_succ]
      refine wpAnyH_take (i := 5) (oi := ?_) (v := ?_) ?_ (by kernel_rfl) (by kernel_rfl) (by kernel_rfl) ?_ (Or.inl ⟨?_, ?_⟩) hHeld ?_
      rotate_left 2
      · (simp only [List.getElem?_toArray, List.getElem?_cons_succ, List.getElem?_cons_zero]; rfl)
      · exact fun _ _ _ h => h
      · rfl
      · (rintro W' ⟨s0, s1, s2, s3, s4, s5, s6, s7, s8⟩; go_simp; first | done | with_reducible rfl)
      try simp only [Act.put, List.setIfInBounds_toArray, List.set_cons_zero, List.set_cons_succ]
      refine wpAnyH_take (i := 7) (oi := ?_) (v := ?_) ?_ (by kernel_rfl) (by kernel_rfl) (by kernel_rfl) ?_ (Or.inl ⟨?_, ?_⟩) hHeld ?_
      rotate_left 2
      · (simp only [List.getElem?_toArray, List.getElem?_cons_succ, List.getElem?_cons_zero]; rfl)
      · exact fun _ _ _ h => h
      · rfl
      · (rintro W' ⟨s0, s1, s2, s3, s4, s5, s6, s7, s8⟩; go_simp; first | done | with_reducible rfl)
      try simp only [Act.put, List.setIfInBounds_toArray, List.set_cons_zero, List.set_cons_succ]
      refine wpAnyH_ready (rs := [6]) (by kernel_rfl) (by simp) ?_
      refine AllReadyH.cons (o := ?_) ?_ (fun K hK => ?_) AllReadyH.nil
      rotate_left 1
      · (simp only [List.getElem?_toArray, List.getElem?_cons_succ, List.getElem?_cons_zero]; rfl)
      · (have cD := do_at (v := .agg #[.int .u8 7, .int .u64 (vol : Int), .int .u64 (pl : Int), .int .u64 (n : Int), .slice da len dc]) (o := ⟨7, vol, pl, n, len, f⟩) (HRF.out.step HC5.out).m (by omega) ⟨da, dc, HV4.out, (HRF.out.step HC5.out).ob, HRF.out.ok⟩; rw [HSS.out, hR] at cD; go_simp; refine cD.mono ?_; clear cD; rintro e w6 ⟨L6, a6, c6, rfl, hM6, hL6, hB6, hF6, hC6⟩; have HB6 := Lib.hid hB6; have HC6 := Lib.hid hC6; have HC56 := Lib.hid ((HC5.out.mono (by simp)).trans hC6); clear hM6 hL6 hF6 hC6 hB6; unfold repV; rw [HR0.out])
        refine hK.out _ _ ?_ (fun hHeld => ?_)
        · exact ⟨(HC56.out.cell (p := ⟨w.heap.size, 0, none⟩) lg HRF.out.gl.1).trans g0, (HC56.out.cell (p := ⟨w.heap.size, 1, none⟩) lg HRF.out.gl.1).trans g1, (HC56.out.cell (p := ⟨w.heap.size, 2, none⟩) lg HRF.out.gl.1).trans g2, (HC56.out.cell (p := ⟨w.heap.size, 3, none⟩) lg HRF.out.gl.1).trans g3, (HC56.out.cell (p := ⟨w.heap.size, 4, none⟩) lg HRF.out.gl.1).trans g4, (HC56.out.cell (p := ⟨w3.heap.size, 0, none⟩) lr HRF.out.rl.1).trans r0, (HC56.out.cell (p := ⟨w3.heap.size, 1, none⟩) lr HRF.out.rl.1).trans r1, (HC56.out.cell (p := ⟨w3.heap.size, 2, none⟩) lr HRF.out.rl.1).trans r2, (HC56.out.cell (p := ⟨w3.heap.size, 3, none⟩) lr HRF.out.rl.1).trans r3⟩
        clear hK K
        try simp only [Act.put, List.setIfInBounds_toArray, List.set_cons_zero, List.set_cons_succ]
        refine wpAnyH_ready (rs := [8]) (by kernel_rfl) (by simp) ?_
        refine AllReadyH.cons (o := ?_) ?_ (fun K hK => ?_) AllReadyH.nil
        rotate_left 1
        · (simp only [List.getElem?_toArray, List.getElem?_cons_succ, List.getElem?_cons_zero]; rfl)
        · (go_simp; have cS := same24_at (R1 := R) (R2 := R) HB6.out ((HRF.out.step HC5.out).rby.chg HC6.out (fun _ => HRF.out.rf)); rw [repEq_self] at cS; unfold repV at cS; rw [HR0.out] at cS; refine cS.mono ?_; clear cS; rintro e w7 ⟨rfl, hC7⟩; have HC7 := Lib.hid (HC56.out.trans (hC7.mono (by simp))); clear hC7)
          refine hK.out _ _ ?_ (fun hHeld => ?_)
          · exact ⟨(HC7.out.cell (p := ⟨w.heap.size, 0, none⟩) lg HRF.out.gl.1).trans g0, (HC7.out.cell (p := ⟨w.heap.size, 1, none⟩) lg HRF.out.gl.1).trans g1, (HC7.out.cell (p := ⟨w.heap.size, 2, none⟩) lg HRF.out.gl.1).trans g2, (HC7.out.cell (p := ⟨w.heap.size, 3, none⟩) lg HRF.out.gl.1).trans g3, (HC7.out.cell (p := ⟨w.heap.size, 4, none⟩) lg HRF.out.gl.1).trans g4, (HC7.out.cell (p := ⟨w3.heap.size, 0, none⟩) lr HRF.out.rl.1).trans r0, (HC7.out.cell (p := ⟨w3.heap.size, 1, none⟩) lr HRF.out.rl.1).trans r1, (HC7.out.cell (p := ⟨w3.heap.size, 2, none⟩) lr HRF.out.rl.1).trans r2, (HC7.out.cell (p := ⟨w3.heap.size, 3, none⟩) lr HRF.out.rl.1).trans r3⟩
          clear hK K
          try simp only [Act.put, List.setIfInBounds_toArray, List.set_cons_zero, List.set_cons_succ]
          refine wpAnyH_take (i := 9) (oi := ?_) (v := ?_) ?_ (by kernel_rfl) (by kernel_rfl) (by kernel_rfl) ?_ (Or.inl ⟨?_, ?_⟩) hHeld ?_
          rotate_left 2
          · (simp only [List.getElem?_toArray, List.getElem?_cons_succ, List.getElem?_cons_zero]; rfl)
          · exact fun _ _ _ h => h
          · rfl
          · (rintro W' ⟨s0, s1, s2, s3, s4, s5, s6, s7, s8⟩; go_simp; first | done | with_reducible rfl)
          try simp only [Act.put, List.setIfInBounds_toArray, List.set_cons_zero, List.set_cons_succ]
          refine wpAnyH_take (i := 10) (oi := ?_) (v := ?_) ?_ (by kernel_rfl) (by kernel_rfl) (by kernel_rfl) ?_ (Or.inl ⟨?_, ?_⟩) hHeld ?_
          rotate_left 2
          · (simp only [List.getElem?_toArray, List.getElem?_cons_succ, List.getElem?_cons_zero]; rfl)
          · exact fun _ _ _ h => h
          · rfl
          · (rintro W' ⟨s0, s1, s2, s3, s4, s5, s6, s7, s8⟩; go_simp; first | done | with_reducible rfl)
          try simp only [Act.put, List.setIfInBounds_toArray, List.set_cons_zero, List.set_cons_succ]
          refine wpAnyH_ready (rs := [11]) (by kernel_rfl) (by simp) ?_
          refine AllReadyH.cons (o := ?_) ?_ (fun K hK => ?_) AllReadyH.nil
          rotate_left 1
          · (simp only [List.getElem?_toArray, List.getElem?_cons_succ, List.getElem?_cons_zero]; rfl)
          · (go_simp; refine awake24_at.mono ?_; rintro e w8 ⟨rfl, hC8⟩; have HC8 := Lib.hid (HC7.out.trans (hC8.mono (by simp))); clear hC8)
            refine hK.out _ _ ?_ (fun hHeld => ?_)
            · exact ⟨(HC8.out.cell (p := ⟨w.heap.size, 0, none⟩) lg HRF.out.gl.1).trans g0, (HC8.out.cell (p := ⟨w.heap.size, 1, none⟩) lg HRF.out.gl.1).trans g1, (HC8.out.cell (p := ⟨w.heap.size, 2, none⟩) lg HRF.out.gl.1).trans g2, (HC8.out.cell (p := ⟨w.heap.size, 3, none⟩) lg HRF.out.gl.1).trans g3, (HC8.out.cell (p := ⟨w.heap.size, 4, none⟩) lg HRF.out.gl.1).trans g4, (HC8.out.cell (p := ⟨w3.heap.size, 0, none⟩) lr HRF.out.rl.1).trans r0, (HC8.out.cell (p := ⟨w3.heap.size, 1, none⟩) lr HRF.out.rl.1).trans r1, (HC8.out.cell (p := ⟨w3.heap.size, 2, none⟩) lr HRF.out.rl.1).trans r2, (HC8.out.cell (p := ⟨w3.heap.size, 3, none⟩) lr HRF.out.rl.1).trans r3⟩
            clear hK K
            try simp only [Act.put, List.setIfInBounds_toArray, List.set_cons_zero, List.set_cons_succ]
            refine wpAnyH_take (i := 12) (oi := ?_) (v := ?_) ?_ (by kernel_rfl) (by kernel_rfl) (by kernel_rfl) ?_ (Or.inl ⟨?_, ?_⟩) hHeld ?_
            rotate_left 2
            · (simp only [List.getElem?_toArray, List.getElem?_cons_succ, List.getElem?_cons_zero]; rfl)
            · exact fun _ _ _ h => h
            · rfl
            · (rintro W' ⟨s0, s1, s2, s3, s4, s5, s6, s7, s8⟩; go_simp; first | done | with_reducible rfl)
            try simp only [Act.put, List.setIfInBounds_toArray, List.set_cons_zero, List.set_cons_succ]
            refine wpAnyH_take (i := 13) (oi := ?_) (v := ?_) ?_ (by kernel_rfl) (by kernel_rfl) (by kernel_rfl) ?_ (Or.inl ⟨?_, ?_⟩) hHeld ?_
            rotate_left 2
            · (simp only [List.getElem?_toArray, List.getElem?_cons_succ, List.getElem?_cons_zero]; rfl)
            · exact fun _ _ _ h => h
            · rfl
            · (rintro W' ⟨s0, s1, s2, s3, s4, s5, s6, s7, s8⟩; go_simp; first | done | with_reducible rfl)
            try simp only [Act.put, List.setIfInBounds_toArray, List.set_cons_zero, List.set_cons_succ]
            refine wpAnyH_done (by kernel_rfl) ?_ _
            go_wp2_with fail
            go_ret
            exact law_ok (HRF.out.chg.then HC8.out (fun i hi => .inr (HRF.out.new i hi)))
  · rw [show (((8 : Nat)) : Int) = 8 from rfl] at g0
    have HV4 : Hid ((.agg #[.int .u8 8, .int .u64 (vol : Int), .int .u64 (pl : Int), .int .u64 (n : Int), .slice da len dc] : Value) = opV 8 vol pl n (.slice da len dc)) := Lib.hid rfl
    have HSS := Lib.hid (st_ask (S := S) (o := ⟨8, vol, pl, n, len, f⟩) (by simp))
    have HST := Lib.hid (show stEq (stOf S ⟨8, vol, pl, n, len, f⟩) S = true from by rw [HSS.out]; exact stEq_self S)
    go_wp2_with fail
    refine wp_region_held_drew (S := fun W' => W'.cell? ⟨w.heap.size, 0, none⟩ = some (.int .u8 8) ∧ W'.cell? ⟨w.heap.size, 1, none⟩ = some (.int .u64 (vol : Int)) ∧ W'.cell? ⟨w.heap.size, 2, none⟩ = some (.int .u64 (pl : Int)) ∧ W'.cell? ⟨w.heap.size, 3, none⟩ = some (.int .u64 (n : Int)) ∧ W'.cell? ⟨w.heap.size, 4, none⟩ = some (.slice da len dc) ∧ W'.cell? ⟨w3.heap.size, 0, none⟩ = some (.int .i64 0) ∧ W'.cell? ⟨w3.heap.size, 1, none⟩ = some (.int .u64 (R.vol : Int)) ∧ W'.cell? ⟨w3.heap.size, 2, none⟩ = some (.slice a3 R.n c3) ∧ W'.cell? ⟨w3.heap.size, 3, none⟩ = some (.int .i64 (R.cnt : Int))) (by kernel_rfl) (by exact ⟨g0, g1, g2, g3, g4, r0, r1, r2, r3⟩) (fun hHeld => ?_)
    refine wpAnyH_take (i := 0) (oi := ?_) (v := ?_) ?_ (by kernel_rfl) (by kernel_rfl) (by kernel_rfl) ?_ (Or.inl ⟨?_, ?_⟩) hHeld ?_
    rotate_left 2
    · (simp only [List.getElem?_toArray, List.getElem?_cons_succ, List.getElem?_cons_zero]; rfl)
    · exact fun _ _ _ h => h
    · rfl
    · (rintro W' ⟨s0, s1, s2, s3, s4, s5, s6, s7, s8⟩; go_simp; first | done | with_reducible rfl)
    try simp only [Act.put, List.setIfInBounds_toArray, List.set_cons_zero, List.set_cons_succ]
    refine wpAnyH_take (i := 1) (oi := ?_) (v := ?_) ?_ (by kernel_rfl) (by kernel_rfl) (by kernel_rfl) ?_ (Or.inl ⟨?_, ?_⟩) hHeld ?_
    rotate_left 2
    · (simp only [List.getElem?_toArray, List.getElem?_cons_succ, List.getElem?_cons_zero]; rfl)
    · exact fun _ _ _ h => h
    · rfl
    · (rintro W' ⟨s0, s1, s2, s3, s4, s5, s6, s7, s8⟩; go_simp; first | done | with_reducible rfl)
    try simp only [Act.put, List.setIfInBounds_toArray, List.set_cons_zero, List.set_cons_succ]
    refine wpAnyH_ready (rs := [2]) (by kernel_rfl) (by simp) ?_
    refine AllReadyH.cons (o := ?_) ?_ (fun K hK => ?_) AllReadyH.nil
    rotate_left 1
    · (simp only [List.getElem?_toArray, List.getElem?_cons_succ, List.getElem?_cons_zero]; rfl)
    · (go_simp; refine (same_at (HRF.out.m.chg (Chg.refl [] W4).drew (by simp)) (HRF.out.q.chg (Chg.refl [] W4).drew (by simp))).mono ?_; rintro e w5 ⟨rfl, hC5⟩; have HC5 := Lib.hid ((Chg.refl [] W4).drew.trans hC5); clear hC5; rw [HST.out])
      refine hK.out _ _ ?_ (fun hHeld => ?_)
      · exact ⟨(HC5.out.cell (p := ⟨w.heap.size, 0, none⟩) lg (by simp)).trans g0, (HC5.out.cell (p := ⟨w.heap.size, 1, none⟩) lg (by simp)).trans g1, (HC5.out.cell (p := ⟨w.heap.size, 2, none⟩) lg (by simp)).trans g2, (HC5.out.cell (p := ⟨w.heap.size, 3, none⟩) lg (by simp)).trans g3, (HC5.out.cell (p := ⟨w.heap.size, 4, none⟩) lg (by simp)).trans g4, (HC5.out.cell (p := ⟨w3.heap.size, 0, none⟩) lr (by simp)).trans r0, (HC5.out.cell (p := ⟨w3.heap.size, 1, none⟩) lr (by simp)).trans r1, (HC5.out.cell (p := ⟨w3.heap.size, 2, none⟩) lr (by simp)).trans r2, (HC5.out.cell (p := ⟨w3.heap.size, 3, none⟩) lr (by simp)).trans r3⟩
      clear hK K
      try simp only [Act.put, List.setIfInBounds_toArray, List.set_cons_zero, List.set_cons_succ]
      refine wpAnyH_take (i := 3) (oi := ?_) (v := ?_) ?_ (by kernel_rfl) (by kernel_rfl) (by kernel_rfl) ?_ (Or.inl ⟨?_, ?_⟩) hHeld ?_
      rotate_left 2
      · (simp only [List.getElem?_toArray, List.getElem?_cons_succ, List.getElem?_cons_zero]; rfl)
      · exact fun _ _ _ h => h
      · rfl
      · (rintro W' ⟨s0, s1, s2, s3, s4, s5, s6, s7, s8⟩; go_simp; first | done | with_reducible rfl)
      try simp only [Act.put, List.setIfInBounds_toArray, List.set_cons_zero, List.set_cons_succ]
      refine wpAnyH_take (i := 4) (oi := ?_) (v := ?_) ?_ (by kernel_rfl) (by kernel_rfl) (by kernel_rfl) ?_ (Or.inl ⟨?_, ?_⟩) hHeld ?_
      rotate_left 2
      · (simp only [List.getElem?_toArray, List.getElem?_cons_succ, List.getElem?_cons_zero]; rfl)
      · exact fun _ _ _ h => h
      · rfl
      · (rintro W' ⟨s0, s1, s2, s3, s4, s5, s6, s7, s8⟩; go_simp; first | done | with_reducible rfl)
      try simp only [Act.put, List.setIfInBounds_toArray, List.set_cons_zero, List.set_cons_succ]
      refine wpAnyH_take (i := 5) (oi := ?_) (v := ?_) ?_ (by kernel_rfl) (by kernel_rfl) (by kernel_rfl) ?_ (Or.inl ⟨?_, ?_⟩) hHeld ?_
      rotate_left 2
      · (simp only [List.getElem?_toArray, List.getElem?_cons_succ, List.getElem?_cons_zero]; rfl)
      · exact fun _ _ _ h => h
      · rfl
      · (rintro W' ⟨s0, s1, s2, s3, s4, s5, s6, s7, s8⟩; go_simp; first | done | with_reducible rfl)
      try simp only [Act.put, List.setIfInBounds_toArray, List.set_cons_zero, List.set_cons_succ]
      refine wpAnyH_take (i := 7) (oi := ?_) (v := ?_) ?_ (by kernel_rfl) (by kernel_rfl) (by kernel_rfl) ?_ (Or.inl ⟨?_, ?_⟩) hHeld ?_
      rotate_left 2
      · (simp only [List.getElem?_toArray, List.getElem?_cons_succ, List.getElem?_cons_zero]; rfl)
      · exact fun _ _ _ h => h
      · rfl
      · (rintro W' ⟨s0, s1, s2, s3, s4, s5, s6, s7, s8⟩; go_simp; first | done | with_reducible rfl)
      try simp only [Act.put, List.setIfInBounds_toArray, List.set_cons_zero, List.set_cons_succ]
      refine wpAnyH_ready (rs := [6]) (by kernel_rfl) (by simp) ?_
      refine AllReadyH.cons (o := ?_) ?_ (fun K hK => ?_) AllReadyH.nil
      rotate_left 1
      · (simp only [List.getElem?_toArray, List.getElem?_cons_succ, List.getElem?_cons_zero]; rfl)
      · (have cD := do_at (v := .agg #[.int .u8 8, .int .u64 (vol : Int), .int .u64 (pl : Int), .int .u64 (n : Int), .slice da len dc]) (o := ⟨8, vol, pl, n, len, f⟩) (HRF.out.step HC5.out).m (by omega) ⟨da, dc, HV4.out, (HRF.out.step HC5.out).ob, HRF.out.ok⟩; rw [HSS.out, hR] at cD; go_simp; refine cD.mono ?_; clear cD; rintro e w6 ⟨L6, a6, c6, rfl, hM6, hL6, hB6, hF6, hC6⟩; have HB6 := Lib.hid hB6; have HC6 := Lib.hid hC6; have HC56 := Lib.hid ((HC5.out.mono (by simp)).trans hC6); clear hM6 hL6 hF6 hC6 hB6; unfold repV; rw [HR0.out])
        refine hK.out _ _ ?_ (fun hHeld => ?_)
        · exact ⟨(HC56.out.cell (p := ⟨w.heap.size, 0, none⟩) lg HRF.out.gl.1).trans g0, (HC56.out.cell (p := ⟨w.heap.size, 1, none⟩) lg HRF.out.gl.1).trans g1, (HC56.out.cell (p := ⟨w.heap.size, 2, none⟩) lg HRF.out.gl.1).trans g2, (HC56.out.cell (p := ⟨w.heap.size, 3, none⟩) lg HRF.out.gl.1).trans g3, (HC56.out.cell (p := ⟨w.heap.size, 4, none⟩) lg HRF.out.gl.1).trans g4, (HC56.out.cell (p := ⟨w3.heap.size, 0, none⟩) lr HRF.out.rl.1).trans r0, (HC56.out.cell (p := ⟨w3.heap.size, 1, none⟩) lr HRF.out.rl.1).trans r1, (HC56.out.cell (p := ⟨w3.heap.size, 2, none⟩) lr HRF.out.rl.1).trans r2, (HC56.out.cell (p := ⟨w3.heap.size, 3, none⟩) lr HRF.out.rl.1).trans r3⟩
        clear hK K
        try simp only [Act.put, List.setIfInBounds_toArray, List.set_cons_zero, List.set_cons_succ]
        refine wpAnyH_ready (rs := [8]) (by kernel_rfl) (by simp) ?_
        refine AllReadyH.cons (o := ?_) ?_ (fun K hK => ?_) AllReadyH.nil
        rotate_left 1
        · (simp only [List.getElem?_toArray, List.getElem?_cons_succ, List.getElem?_cons_zero]; rfl)
        · (go_simp; have cS := same24_at (R1 := R) (R2 := R) HB6.out ((HRF.out.step HC5.out).rby.chg HC6.out (fun _ => HRF.out.rf)); rw [repEq_self] at cS; unfold repV at cS; rw [HR0.out] at cS; refine cS.mono ?_; clear cS; rintro e w7 ⟨rfl, hC7⟩; have HC7 := Lib.hid (HC56.out.trans (hC7.mono (by simp))); clear hC7)
          refine hK.out _ _ ?_ (fun hHeld => ?_)
          · exact ⟨(HC7.out.cell (p := ⟨w.heap.size, 0, none⟩) lg HRF.out.gl.1).trans g0, (HC7.out.cell (p := ⟨w.heap.size, 1, none⟩) lg HRF.out.gl.1).trans g1, (HC7.out.cell (p := ⟨w.heap.size, 2, none⟩) lg HRF.out.gl.1).trans g2, (HC7.out.cell (p := ⟨w.heap.size, 3, none⟩) lg HRF.out.gl.1).trans g3, (HC7.out.cell (p := ⟨w.heap.size, 4, none⟩) lg HRF.out.gl.1).trans g4, (HC7.out.cell (p := ⟨w3.heap.size, 0, none⟩) lr HRF.out.rl.1).trans r0, (HC7.out.cell (p := ⟨w3.heap.size, 1, none⟩) lr HRF.out.rl.1).trans r1, (HC7.out.cell (p := ⟨w3.heap.size, 2, none⟩) lr HRF.out.rl.1).trans r2, (HC7.out.cell (p := ⟨w3.heap.size, 3, none⟩) lr HRF.out.rl.1).trans r3⟩
          clear hK K
          try simp only [Act.put, List.setIfInBounds_toArray, List.set_cons_zero, List.set_cons_succ]
          refine wpAnyH_take (i := 9) (oi := ?_) (v := ?_) ?_ (by kernel_rfl) (by kernel_rfl) (by kernel_rfl) ?_ (Or.inl ⟨?_, ?_⟩) hHeld ?_
          rotate_left 2
          · (simp only [List.getElem?_toArray, List.getElem?_cons_succ, List.getElem?_cons_zero]; rfl)
          · exact fun _ _ _ h => h
          · rfl
          · (rintro W' ⟨s0, s1, s2, s3, s4, s5, s6, s7, s8⟩; go_simp; first | done | with_reducible rfl)
          try simp only [Act.put, List.setIfInBounds_toArray, List.set_cons_zero, List.set_cons_succ]
          refine wpAnyH_take (i := 10) (oi := ?_) (v := ?_) ?_ (by kernel_rfl) (by kernel_rfl) (by kernel_rfl) ?_ (Or.inl ⟨?_, ?_⟩) hHeld ?_
          rotate_left 2
          · (simp only [List.getElem?_toArray, List.getElem?_cons_succ, List.getElem?_cons_zero]; rfl)
          · exact fun _ _ _ h => h
          · rfl
          · (rintro W' ⟨s0, s1, s2, s3, s4, s5, s6, s7, s8⟩; go_simp; first | done | with_reducible rfl)
          try simp only [Act.put, List.setIfInBounds_toArray, List.set_cons_zero, List.set_cons_succ]
          refine wpAnyH_ready (rs := [11]) (by kernel_rfl) (by simp) ?_
          refine AllReadyH.cons (o := ?_) ?_ (fun K hK => ?_) AllReadyH.nil
          rotate_left 1
          · (simp only [List.getElem?_toArray, List.getElem?_cons_succ, List.getElem?_cons_zero]; rfl)
          · (go_simp; refine awake24_at.mono ?_; rintro e w8 ⟨rfl, hC8⟩; have HC8 := Lib.hid (HC7.out.trans (hC8.mono (by simp))); clear hC8)
            refine hK.out _ _ ?_ (fun hHeld => ?_)
            · exact ⟨(HC8.out.cell (p := ⟨w.heap.size, 0, none⟩) lg HRF.out.gl.1).trans g0, (HC8.out.cell (p := ⟨w.heap.size, 1, none⟩) lg HRF.out.gl.1).trans g1, (HC8.out.cell (p := ⟨w.heap.size, 2, none⟩) lg HRF.out.gl.1).trans g2, (HC8.out.cell (p := ⟨w.heap.size, 3, none⟩) lg HRF.out.gl.1).trans g3, (HC8.out.cell (p := ⟨w.heap.size, 4, none⟩) lg HRF.out.gl.1).trans g4, (HC8.out.cell (p := ⟨w3.heap.size, 0, none⟩) lr HRF.out.rl.1).trans r0, (HC8.out.cell (p := ⟨w3.heap.size, 1, none⟩) lr HRF.out.rl.1).trans r1, (HC8.out.cell (p := ⟨w3.heap.size, 2, none⟩) lr HRF.out.rl.1).trans r2, (HC8.out.cell (p := ⟨w3.heap.size, 3, none⟩) lr HRF.out.rl.1).trans r3⟩
            clear hK K
            try simp only [Act.put, List.setIfInBounds_toArray, List.set_cons_zero, List.set_cons_succ]
            refine wpAnyH_take (i := 12) (oi := ?_) (v := ?_) ?_ (by kernel_rfl) (by kernel_rfl) (by kernel_rfl) ?_ (Or.inl ⟨?_, ?_⟩) hHeld ?_
            rotate_left 2
            · (simp only [List.getElem?_toArray, List.getElem?_cons_succ, List.getElem?_cons_zero]; rfl)
            · exact fun _ _ _ h => h
            · rfl
            · (rintro W' ⟨s0, s1, s2, s3, s4, s5, s6, s7, s8⟩; go_simp; first | done | with_reducible rfl)
            try simp only [Act.put, List.setIfInBounds_toArray, List.set_cons_zero, List.set_cons_succ]
            refine wpAnyH_take (i := 13) (oi := ?_) (v := ?_) ?_ (by kernel_rfl) (by kernel_rfl) (by kernel_rfl) ?_ (Or.inl ⟨?_, ?_⟩) hHeld ?_
            rotate_left 2
            · (simp only [List.getElem?_toArray, List.getElem?_cons_succ, List.getElem?_cons_zero]; rfl)
            · exact fun _ _ _ h => h
            · rfl
            · (rintro W' ⟨s0, s1, s2, s3, s4, s5, s6, s7, s8⟩; go_simp; first | done | with_reducible rfl)
            try simp only [Act.put, List.setIfInBounds_toArray, List.set_cons_zero, List.set_cons_succ]
            refine wpAnyH_done (by kernel_rfl) ?_ _
            go_wp2_with fail
            go_ret
            exact law_ok (HRF.out.chg.then HC8.out (fun i hi => .inr (HRF.out.new i hi)))
  · rw [show (((9 : Nat)) : Int) = 9 from rfl] at g0
    have HV4 : Hid ((.agg #[.int .u8 9, .int .u64 (vol : Int), .int .u64 (pl : Int), .int .u64 (n : Int), .slice da len dc] : Value) = opV 9 vol pl n (.slice da len dc)) := Lib.hid rfl
    have HSS := Lib.hid (st_ask (S := S) (o := ⟨9, vol, pl, n, len, f⟩) (by simp))
    have HST := Lib.hid (show stEq (stOf S ⟨9, vol, pl, n, len, f⟩) S = true from by rw [HSS.out]; exact stEq_self S)
    go_wp2_with fail
    refine wp_region_held_drew (S := fun W' => W'.cell? ⟨w.heap.size, 0, none⟩ = some (.int .u8 9) ∧ W'.cell? ⟨w.heap.size, 1, none⟩ = some (.int .u64 (vol : Int)) ∧ W'.cell? ⟨w.heap.size, 2, none⟩ = some (.int .u64 (pl : Int)) ∧ W'.cell? ⟨w.heap.size, 3, none⟩ = some (.int .u64 (n : Int)) ∧ W'.cell? ⟨w.heap.size, 4, none⟩ = some (.slice da len dc) ∧ W'.cell? ⟨w3.heap.size, 0, none⟩ = some (.int .i64 0) ∧ W'.cell? ⟨w3.heap.size, 1, none⟩ = some (.int .u64 (R.vol : Int)) ∧ W'.cell? ⟨w3.heap.size, 2, none⟩ = some (.slice a3 R.n c3) ∧ W'.cell? ⟨w3.heap.size, 3, none⟩ = some (.int .i64 (R.cnt : Int))) (by kernel_rfl) (by exact ⟨g0, g1, g2, g3, g4, r0, r1, r2, r3⟩) (fun hHeld => ?_)
    refine wpAnyH_take (i := 0) (oi := ?_) (v := ?_) ?_ (by kernel_rfl) (by kernel_rfl) (by kernel_rfl) ?_ (Or.inl ⟨?_, ?_⟩) hHeld ?_
    rotate_left 2
    · (simp only [List.getElem?_toArray, List.getElem?_cons_succ, List.getElem?_cons_zero]; rfl)
    · exact fun _ _ _ h => h
    · rfl
    · (rintro W' ⟨s0, s1, s2, s3, s4, s5, s6, s7, s8⟩; go_simp; first | done | with_reducible rfl)
    try simp only [Act.put, List.setIfInBounds_toArray, List.set_cons_zero, List.set_cons_succ]
    refine wpAnyH_take (i := 1) (oi := ?_) (v := ?_) ?_ (by kernel_rfl) (by kernel_rfl) (by kernel_rfl) ?_ (Or.inl ⟨?_, ?_⟩) hHeld ?_
    rotate_left 2
    · (simp only [List.getElem?_toArray, List.getElem?_cons_succ, List.getElem?_cons_zero]; rfl)
    · exact fun _ _ _ h => h
    · rfl
    · (rintro W' ⟨s0, s1, s2, s3, s4, s5, s6, s7, s8⟩; go_simp; first | done | with_reducible rfl)
    try simp only [Act.put, List.setIfInBounds_toArray, List.set_cons_zero, List.set_cons_succ]
    refine wpAnyH_ready (rs := [2]) (by kernel_rfl) (by simp) ?_
    refine AllReadyH.cons (o := ?_) ?_ (fun K hK => ?_) AllReadyH.nil
    rotate_left 1
    · (simp only [List.getElem?_toArray, List.getElem?_cons_succ, List.getElem?_cons_zero]; rfl)
    · (go_simp; refine (same_at (HRF.out.m.chg (Chg.refl [] W4).drew (by simp)) (HRF.out.q.chg (Chg.refl [] W4).drew (by simp))).mono ?_; rintro e w5 ⟨rfl, hC5⟩; have HC5 := Lib.hid ((Chg.refl [] W4).drew.trans hC5); clear hC5; rw [HST.out])
      refine hK.out _ _ ?_ (fun hHeld => ?_)
      · exact ⟨(HC5.out.cell (p := ⟨w.heap.size, 0, none⟩) lg (by simp)).trans g0, (HC5.out.cell (p := ⟨w.heap.size, 1, none⟩) lg (by simp)).trans g1, (HC5.out.cell (p := ⟨w.heap.size, 2, none⟩) lg (by simp)).trans g2, (HC5.out.cell (p := ⟨w.heap.size, 3, none⟩) lg (by simp)).trans g3, (HC5.out.cell (p := ⟨w.heap.size, 4, none⟩) lg (by simp)).trans g4, (HC5.out.cell (p := ⟨w3.heap.size, 0, none⟩) lr (by simp)).trans r0, (HC5.out.cell (p := ⟨w3.heap.size, 1, none⟩) lr (by simp)).trans r1, (HC5.out.cell (p := ⟨w3.heap.size, 2, none⟩) lr (by simp)).trans r2, (HC5.out.cell (p := ⟨w3.heap.size, 3, none⟩) lr (by simp)).trans r3⟩
      clear hK K
      try simp only [Act.put, List.setIfInBounds_toArray, List.set_cons_zero, List.set_cons_succ]
      refine wpAnyH_take (i := 3) (oi := ?_) (v := ?_) ?_ (by kernel_rfl) (by kernel_rfl) (by kernel_rfl) ?_ (Or.inl ⟨?_, ?_⟩) hHeld ?_
      rotate_left 2
      · (simp only [List.getElem?_toArray, List.getElem?_cons_succ, List.getElem?_cons_zero]; rfl)
      · exact fun _ _ _ h => h
      · rfl
      · (rintro W' ⟨s0, s1, s2, s3, s4, s5, s6, s7, s8⟩; go_simp; first | done | with_reducible rfl)
      try simp only [Act.put, List.setIfInBounds_toArray, List.set_cons_zero, List.set_cons_succ]
      refine wpAnyH_take (i := 4) (oi := ?_) (v := ?_) ?_ (by kernel_rfl) (by kernel_rfl) (by kernel_rfl) ?_ (Or.inl ⟨?_, ?_⟩) hHeld ?_
      rotate_left 2
      · (simp only [List.getElem?_toArray, List.getElem?_cons_succ, List.getElem?_cons_zero]; rfl)
      · exact fun _ _ _ h => h
      · rfl
      · (rintro W' ⟨s0, s1, s2, s3, s4, s5, s6, s7, s8⟩; go_simp; first | done | with_reducible rfl)
      try simp only [Act.put, List.setIfInBounds_toArray, List.set_cons_zero, List.set_cons_succ]
      refine wpAnyH_take (i := 5) (oi := ?_) (v := ?_) ?_ (by kernel_rfl) (by kernel_rfl) (by kernel_rfl) ?_ (Or.inl ⟨?_, ?_⟩) hHeld ?_
      rotate_left 2
      · (simp only [List.getElem?_toArray, List.getElem?_cons_succ, List.getElem?_cons_zero]; rfl)
      · exact fun _ _ _ h => h
      · rfl
      · (rintro W' ⟨s0, s1, s2, s3, s4, s5, s6, s7, s8⟩; go_simp; first | done | with_reducible rfl)
      try simp only [Act.put, List.setIfInBounds_toArray, List.set_cons_zero, List.set_cons_succ]
      refine wpAnyH_take (i := 7) (oi := ?_) (v := ?_) ?_ (by kernel_rfl) (by kernel_rfl) (by kernel_rfl) ?_ (Or.inl ⟨?_, ?_⟩) hHeld ?_
      rotate_left 2
      · (simp only [List.getElem?_toArray, List.getElem?_cons_succ, List.getElem?_cons_zero]; rfl)
      · exact fun _ _ _ h => h
      · rfl
      · (rintro W' ⟨s0, s1, s2, s3, s4, s5, s6, s7, s8⟩; go_simp; first | done | with_reducible rfl)
      try simp only [Act.put, List.setIfInBounds_toArray, List.set_cons_zero, List.set_cons_succ]
      refine wpAnyH_ready (rs := [6]) (by kernel_rfl) (by simp) ?_
      refine AllReadyH.cons (o := ?_) ?_ (fun K hK => ?_) AllReadyH.nil
      rotate_left 1
      · (simp only [List.getElem?_toArray, List.getElem?_cons_succ, List.getElem?_cons_zero]; rfl)
      · (have cD := do_at (v := .agg #[.int .u8 9, .int .u64 (vol : Int), .int .u64 (pl : Int), .int .u64 (n : Int), .slice da len dc]) (o := ⟨9, vol, pl, n, len, f⟩) (HRF.out.step HC5.out).m (by omega) ⟨da, dc, HV4.out, (HRF.out.step HC5.out).ob, HRF.out.ok⟩; rw [HSS.out, hR] at cD; go_simp; refine cD.mono ?_; clear cD; rintro e w6 ⟨L6, a6, c6, rfl, hM6, hL6, hB6, hF6, hC6⟩; have HB6 := Lib.hid hB6; have HC6 := Lib.hid hC6; have HC56 := Lib.hid ((HC5.out.mono (by simp)).trans hC6); clear hM6 hL6 hF6 hC6 hB6; unfold repV; rw [HR0.out])
        refine hK.out _ _ ?_ (fun hHeld => ?_)
        · exact ⟨(HC56.out.cell (p := ⟨w.heap.size, 0, none⟩) lg HRF.out.gl.1).trans g0, (HC56.out.cell (p := ⟨w.heap.size, 1, none⟩) lg HRF.out.gl.1).trans g1, (HC56.out.cell (p := ⟨w.heap.size, 2, none⟩) lg HRF.out.gl.1).trans g2, (HC56.out.cell (p := ⟨w.heap.size, 3, none⟩) lg HRF.out.gl.1).trans g3, (HC56.out.cell (p := ⟨w.heap.size, 4, none⟩) lg HRF.out.gl.1).trans g4, (HC56.out.cell (p := ⟨w3.heap.size, 0, none⟩) lr HRF.out.rl.1).trans r0, (HC56.out.cell (p := ⟨w3.heap.size, 1, none⟩) lr HRF.out.rl.1).trans r1, (HC56.out.cell (p := ⟨w3.heap.size, 2, none⟩) lr HRF.out.rl.1).trans r2, (HC56.out.cell (p := ⟨w3.heap.size, 3, none⟩) lr HRF.out.rl.1).trans r3⟩
        clear hK K
        try simp only [Act.put, List.setIfInBounds_toArray, List.set_cons_zero, List.set_cons_succ]
        refine wpAnyH_ready (rs := [8]) (by kernel_rfl) (by simp) ?_
        refine AllReadyH.cons (o := ?_) ?_ (fun K hK => ?_) AllReadyH.nil
        rotate_left 1
        · (simp only [List.getElem?_toArray, List.getElem?_cons_succ, List.getElem?_cons_zero]; rfl)
        · (go_simp; have cS := same24_at (R1 := R) (R2 := R) HB6.out ((HRF.out.step HC5.out).rby.chg HC6.out (fun _ => HRF.out.rf)); rw [repEq_self] at cS; unfold repV at cS; rw [HR0.out] at cS; refine cS.mono ?_; clear cS; rintro e w7 ⟨rfl, hC7⟩; have HC7 := Lib.hid (HC56.out.trans (hC7.mono (by simp))); clear hC7)
          refine hK.out _ _ ?_ (fun hHeld => ?_)
          · exact ⟨(HC7.out.cell (p := ⟨w.heap.size, 0, none⟩) lg HRF.out.gl.1).trans g0, (HC7.out.cell (p := ⟨w.heap.size, 1, none⟩) lg HRF.out.gl.1).trans g1, (HC7.out.cell (p := ⟨w.heap.size, 2, none⟩) lg HRF.out.gl.1).trans g2, (HC7.out.cell (p := ⟨w.heap.size, 3, none⟩) lg HRF.out.gl.1).trans g3, (HC7.out.cell (p := ⟨w.heap.size, 4, none⟩) lg HRF.out.gl.1).trans g4, (HC7.out.cell (p := ⟨w3.heap.size, 0, none⟩) lr HRF.out.rl.1).trans r0, (HC7.out.cell (p := ⟨w3.heap.size, 1, none⟩) lr HRF.out.rl.1).trans r1, (HC7.out.cell (p := ⟨w3.heap.size, 2, none⟩) lr HRF.out.rl.1).trans r2, (HC7.out.cell (p := ⟨w3.heap.size, 3, none⟩) lr HRF.out.rl.1).trans r3⟩
          clear hK K
          try simp only [Act.put, List.setIfInBounds_toArray, List.set_cons_zero, List.set_cons_succ]
          refine wpAnyH_take (i := 9) (oi := ?_) (v := ?_) ?_ (by kernel_rfl) (by kernel_rfl) (by kernel_rfl) ?_ (Or.inl ⟨?_, ?_⟩) hHeld ?_
          rotate_left 2
          · (simp only [List.getElem?_toArray, List.getElem?_cons_succ, List.getElem?_cons_zero]; rfl)
          · exact fun _ _ _ h => h
          · rfl
          · (rintro W' ⟨s0, s1, s2, s3, s4, s5, s6, s7, s8⟩; go_simp; first | done | with_reducible rfl)
          try simp only [Act.put, List.setIfInBounds_toArray, List.set_cons_zero, List.set_cons_succ]
          refine wpAnyH_take (i := 10) (oi := ?_) (v := ?_) ?_ (by kernel_rfl) (by kernel_rfl) (by kernel_rfl) ?_ (Or.inl ⟨?_, ?_⟩) hHeld ?_
          rotate_left 2
          · (simp only [List.getElem?_toArray, List.getElem?_cons_succ, List.getElem?_cons_zero]; rfl)
          · exact fun _ _ _ h => h
          · rfl
          · (rintro W' ⟨s0, s1, s2, s3, s4, s5, s6, s7, s8⟩; go_simp; first | done | with_reducible rfl)
          try simp only [Act.put, List.setIfInBounds_toArray, List.set_cons_zero, List.set_cons_succ]
          refine wpAnyH_ready (rs := [11]) (by kernel_rfl) (by simp) ?_
          refine AllReadyH.cons (o := ?_) ?_ (fun K hK => ?_) AllReadyH.nil
          rotate_left 1
          · (simp only [List.getElem?_toArray, List.getElem?_cons_succ, List.getElem?_cons_zero]; rfl)
          · (go_simp; refine awake24_at.mono ?_; rintro e w8 ⟨rfl, hC8⟩; have HC8 := Lib.hid (HC7.out.trans (hC8.mono (by simp))); clear hC8)
            refine hK.out _ _ ?_ (fun hHeld => ?_)
            · exact ⟨(HC8.out.cell (p := ⟨w.heap.size, 0, none⟩) lg HRF.out.gl.1).trans g0, (HC8.out.cell (p := ⟨w.heap.size, 1, none⟩) lg HRF.out.gl.1).trans g1, (HC8.out.cell (p := ⟨w.heap.size, 2, none⟩) lg HRF.out.gl.1).trans g2, (HC8.out.cell (p := ⟨w.heap.size, 3, none⟩) lg HRF.out.gl.1).trans g3, (HC8.out.cell (p := ⟨w.heap.size, 4, none⟩) lg HRF.out.gl.1).trans g4, (HC8.out.cell (p := ⟨w3.heap.size, 0, none⟩) lr HRF.out.rl.1).trans r0, (HC8.out.cell (p := ⟨w3.heap.size, 1, none⟩) lr HRF.out.rl.1).trans r1, (HC8.out.cell (p := ⟨w3.heap.size, 2, none⟩) lr HRF.out.rl.1).trans r2, (HC8.out.cell (p := ⟨w3.heap.size, 3, none⟩) lr HRF.out.rl.1).trans r3⟩
            clear hK K
            try simp only [Act.put, List.setIfInBounds_toArray, List.set_cons_zero, List.set_cons_succ]
            refine wpAnyH_take (i := 12) (oi := ?_) (v := ?_) ?_ (by kernel_rfl) (by kernel_rfl) (by kernel_rfl) ?_ (Or.inl ⟨?_, ?_⟩) hHeld ?_
            rotate_left 2
            · (simp only [List.getElem?_toArray, List.getElem?_cons_succ, List.getElem?_cons_zero]; rfl)
            · exact fun _ _ _ h => h
            · rfl
            · (rintro W' ⟨s0, s1, s2, s3, s4, s5, s6, s7, s8⟩; go_simp; first | done | with_reducible rfl)
            try simp only [Act.put, List.setIfInBounds_toArray, List.set_cons_zero, List.set_cons_succ]
            refine wpAnyH_take (i := 13) (oi := ?_) (v := ?_) ?_ (by kernel_rfl) (by kernel_rfl) (by kernel_rfl) ?_ (Or.inl ⟨?_, ?_⟩) hHeld ?_
            rotate_left 2
            · (simp only [List.getElem?_toArray, List.getElem?_cons_succ, List.getElem?_cons_zero]; rfl)
            · exact fun _ _ _ h => h
            · rfl
            · (rintro W' ⟨s0, s1, s2, s3, s4, s5, s6, s7, s8⟩; go_simp; first | done | with_reducible rfl)
            try simp only [Act.put, List.setIfInBounds_toArray, List.set_cons_zero, List.set_cons_succ]
            refine wpAnyH_done (by kernel_rfl) ?_ _
            go_wp2_with fail
            go_ret
            exact law_ok (HRF.out.chg.then HC8.out (fun i hi => .inr (HRF.out.new i hi)))

end Go.Proofs.Ytbejcmbdaoakbaa
