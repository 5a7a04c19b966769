/- Layer 11: the chapter's examples. · Layer 11: the chapter's examples: the walk. · What a walk is told of a slice of integers that came in; bounds out of 'wf'. · More on slices of integers that came in. -/
import Derived.Test.YtkhcaclndepgbaaGreatZc39
import Derived.Test.YtkhcaclndepgbaaGreatZc01
import Derived.OpenShut
set_option linter.unusedVariables false
set_option linter.unusedSimpArgs false
set_option maxRecDepth 100000
set_option maxHeartbeats 20000000
namespace Go.Proofs.YtkhcaclndepgbaaGreat
open Go.RowKit
theorem aw_at : (Bs.fmt 16).at_ = 4 := by kernel_rfl
theorem good16 : Good 16 1 (Bs.fmt 16) := (good_fmt (by omega)).1
theorem room16 : (Bs.fmt 16).room = 10 := by
 obtain ⟨h, hl, hw⟩ := good_fmt (N := 16) (by omega)
 have := h.room
 rw [hw, cnt_zero (fun i _ => hl i)] at this
 rw [this]
 rfl
noncomputable def aw1 : Bs := (Bs.fmt 16).put (blkF 9)
noncomputable def aw2 : Bs := aw1.commit
noncomputable def aw3 : Bs := aw2.down 4
noncomputable def aw4 : Bs := aw3.back
noncomputable def aw5 : Bs := aw4.setRoot 2 4
noncomputable def aw6 : Bs := aw5.commit
structure AwOk : Prop where
 g1 : Good 16 1 aw1
 g2 : Good 16 2 aw2
 g3 : Good 16 2 aw3
 g4 : Good 16 2 aw4
 g5 : Good 16 2 aw5
 g6 : Good 16 3 aw6
 n1 : aw1.T.now 4 = 1
 f1 : (aw1.fr 4).isSome = true
 k2 : aw2.Kp.gen = 2
 w2 : aw2.T.waits = 0
 f2 : aw2.fr 4 = none
 e3 : aw2.downE 4 = 0
 w3 : aw3.T.waits = 1
 n4 : aw4.T.now 4 = 1
 k6 : aw6.Kp.gen = 3
 r6 : aw6.Kp.roots 2 = 4
 d6 : ∀ i, i < 128 → aw6.D 4 i = blkF 9 i
theorem aw_ok : AwOk := by
 have g0 := good16
 obtain ⟨h0, hl0, hw0⟩ := good_fmt (N := 16) (by omega)
 have p1 := g0.put_ (f := blkF 9) (by rw [room16]; omega) (fun i _ => blkF_le 9 i)
 rw [aw_at] at p1
 obtain ⟨g1, -, -, -, l1, w1, -, -, k1⟩ := p1
 have g1 : Good 16 1 aw1 := g1
 have l14 : aw1.live 4 = true := (l1 4).trans (by simp)
 have n1 : aw1.T.now 4 = 1 := by
  show (if 4 = (Bs.fmt 16).at_ then 1 else (Bs.fmt 16).T.now 4) = 1
  rw [aw_at, if_pos rfl]
 have kk1 : aw1.T.kept 4 = 0 := k1
 have f1 : aw1.fr 4 = some (blkF 9) := by
  show (if 4 = (Bs.fmt 16).at_ then some (blkF 9) else (Bs.fmt 16).fr 4) = _
  rw [aw_at, if_pos rfl]
 have c1 := g1.commit_ (by omega)
 have c1 : Cm 16 1 aw1 aw2 := c1
 have e2 : aw2 = aw1.done := commit_done (.inl ⟨4, by rw [g1.n]; omega, by rw [n1, kk1]; omega⟩)
 have l24 : aw2.live 4 = true := (c1.live 4).trans l14
 have n2 : aw2.T.now 4 = 1 := (c1.now 4 l14).trans n1
 have kk2 : aw2.T.kept 4 = 1 := (c1.kept 4 (by omega)).trans n2
 have d2 := c1.good.down_ (x := 4) (by omega) l24
 have d2e := downs_eq c1.good (x := 4) (by omega) l24
 obtain ⟨g3, l3, n3, k3, w3, -⟩ := d2
 have g3 : Good 16 2 aw3 := g3
 have g4 : Good 16 2 aw4 := g3.back_
 have g5 : Good 16 2 aw5 := g4.setRoot_ (by omega) (by omega)
 have c5 : Cm 16 2 aw5 aw6 := g5.commit_ (by omega)
 have k2 : aw2.Kp.gen = 2 := by rw [e2]; rfl
 have e3 : aw3 = aw2.counted (aw2.T.set 4 (aw2.T.now 4 - 1)) 4 := d2e.2
 have s3 : aw3.S = aw2.S ∧ aw3.Kp = aw2.Kp ∧ aw3.D = aw2.D ∧ aw3.a = aw2.a ∧ aw3.T.n = aw2.T.n := by rw [e3]; exact ⟨rfl, rfl, rfl, rfl, rfl⟩
 have r2 : aw2.Kp.roots 2 = 0 := by rw [e2]; rfl
 have r5 : aw5.S.roots 2 = 4 := rfl
 have k5 : aw5.Kp = aw2.Kp := s3.2.1
 have e6 : aw6 = aw5.done := commit_done (.inr fun e => by
  have := row_inj e 4 (by omega)
  change aw5.S.roots 2 = aw5.Kp.roots 2 at this
  rw [k5, r2, r5] at this
  omega)
 have l54 : aw5.live 4 = true := by
  have hp := (live_iff.1 l24).2
  refine live_iff.2 ⟨?_, fun hq => hp ?_⟩
  ·show aw3.T.kept 4 ≠ 0
   have : aw3.T.kept 4 = aw2.T.kept 4 := k3 4
   rw [this, kk2]; omega
  ·obtain ⟨k, i, hk, hi, e⟩ := hq
   change i < nOf aw3.T.n k at hi
   change aw3.a k i = 4 at e
   rw [s3.2.2.2.2] at hi
   rw [s3.2.2.2.1] at e
   exact ⟨k, i, hk, hi, e⟩
 have rd1 : aw1.read 4 = blkF 9 := by unfold Bs.read; rw [f1]; rfl
 have rd2 : aw2.read 4 = blkF 9 := (c1.read 4 (by omega) l14).trans rd1
 have f24 : aw2.fr 4 = none := c1.fr 4 (by omega)
 have D2 : aw2.D 4 = blkF 9 := by unfold Bs.read at rd2; rw [f24] at rd2; exact rd2
 have rd5 : aw5.read 4 = blkF 9 := by
  show aw3.D 4 = _
  rw [s3.2.2.1, D2]
 have rd6 := (c5.read 4 (by omega) l54).trans rd5
 have f6 := c5.fr 4 (by omega)
 refine { g1 := g1, g2 := c1.good, g3 := g3, g4 := g4, g5 := g5, g6 := c5.good, n1 := n1, f1 := by rw [f1]; rfl, k2 := k2, w2 := c1.waits, f2 := f24, e3 := d2e.1, w3 := ?_, n4 := ?_, k6 := ?_, r6 := ?_, d6 := ?_ }
 ·have := (w3 n2 (by rw [kk2]; omega)).1
  rw [c1.waits] at this
  exact this
 ·show aw3.T.kept 4 = 1
  have : aw3.T.kept 4 = aw2.T.kept 4 := k3 4
  rw [this, kk2]
 ·rw [e6]
  show aw5.S.gen + 1 = 3
  rw [g5.ok.sg, k5, k2]
 ·rw [e6]
  show (if 2 < 2 then (if 2 < pg (pg aw5.T.n) then aw5.F.a 1 2 else 0) else aw5.S.roots 2) = 4
  rw [if_neg (by omega), r5]
 ·unfold Bs.read at rd6
  rw [f6] at rd6
  intro i _
  exact congrFun rd6 i
end Go.Proofs.YtkhcaclndepgbaaGreat
namespace Go.Proofs.YtkhcaclndepgbaaGreat
open Go.RowKit
theorem noF (w : World) : ∀ q, q ∈ ([] : List Nat) → q < w.heap.size := fun q hq => by cases hq
theorem bytes_in {w : World} {g c n : Nat} {f : Nat → Nat} (h : BytesAt w g 0 n f) (h1 : n ≤ c) (h2 : c ≤ maxLen) : BytesIn w (some ⟨g, 0, none⟩) n c f :=
 ⟨h1, h2, (fun e => by cases e), (fun b hb _ => by injection hb with hb; exact ⟨g, 0, hb.symm, h⟩)⟩
theorem BytesAt.to {w : World} {g o n : Nat} {f f' : Nat → Nat} (h : BytesAt w g o n f) (e : ∀ i, i < n → f i = f' i) : BytesAt w g o n f' := fun i hi => by rw [← e i hi]; exact h i hi
theorem awake11_at (w : World) : Calls Tryz.prog 25 #[] w fun e w' => e = .returned (.bool true) ∧ Chg [] w w' := by
 have A := Lib.hid aw_ok
 have cf := formatted_at (x := 0) w (by omega) (F := []) (noF w)
 change Calls _ _ #[.int .u8 0] w _ at cf
 go_enter Tryz.func25, Tryz.ntmps25
 go_wp2_with fail
 refine cf.mono ?_
 clear cf
 rintro e w1 ⟨M, rfl, hb0, hc1, hL⟩
 change BaseAt w1 M [] (Bs.fmt 16) at hb0
 have c1 : Calls _ _ _ w1 (fun e w' => e = .returned (.int .u64 1) ∧ w1 = w') := hb0.cGen
 have c2 := hb0.cRoom
 rw [room16] at c2
 have c3 := hb0.cBlocks
 rw [good16.n] at c3
 change Calls _ _ _ w1 (fun e w' => e = .returned (.int .i64 16) ∧ w1 = w') at c3
 have HL := Lib.hid (fun q (hq : q ∈ M.L) => (.inr (hL q hq) : q ∈ ([] : List Nat) ∨ w.heap.size ≤ q))
 have H0 := Lib.hid (And.intro hb0 hc1)
 clear hb0 hc1 hL
 go_wp2_with fail
 refine (c1).mono ?_
 rintro e w' ⟨rfl, rfl⟩
 go_wp2_with fail
 refine (c2).mono ?_
 rintro e w' ⟨rfl, rfl⟩
 go_wp2_with fail
 refine (c3).mono ?_
 rintro e w' ⟨rfl, rfl⟩
 clear c1 c2 c3
 have cb := block11_at (n := 9) w1 (by omega)
 change Calls _ _ #[.int .u16 9] w1 _ at cb
 go_wp2_with fail
 refine cb.mono ?_
 clear cb
 rintro e wk ⟨g, rfl, hg, hby, hck⟩
 have hbk := H0.out.1.chg hck (by simp)
 have cp := bPut_at (c := 128) hbk (noF wk) hby (fun hm => by have := H0.out.1.ltL hm; omega) (by rw [room16]; omega)
 rw [aw_at] at cp
 change Calls _ _ _ wk (fun e w' => e = .returned (.tuple #[.int .i64 4, .int .i64 0]) ∧ BaseAt w' M [] aw1 ∧ Chg M.L wk w') at cp
 have HK := Lib.hid (H0.out.2.trans hck)
 clear hck hby hbk hg
 go_wp2_with fail
 refine cp.mono ?_
 clear cp
 rintro e w2 ⟨rfl, hb1, hc2⟩
 have H1 := Lib.hid (And.intro hb1 (HK.out.then hc2 HL.out))
 have c1 := hb1.cCount 4
 rw [show getV aw1.T 4 = 1 from (getV_nat (T := aw1.T) (k := 4) (by rw [A.out.g1.n]; omega)).trans (by rw [A.out.n1]; rfl)] at c1
 have c2 := hb1.cFresh 4 (by decide)
 rw [show aw1.freshB 4 = true from by
  unfold Bs.freshB
  rw [decide_eq_true (show (4 : Int) < (aw1.T.n : Int) by rw [A.out.g1.n]; omega)]
  exact A.out.f1] at c2
 have c3 : Calls _ _ _ w2 (fun e w' => e = .returned (.int .i64 0) ∧ BaseAt w' M [] aw2 ∧ Chg M.L w2 w') := bCommit_any hb1 (noF w2) A.out.g1 (by omega)
 have C3 := Lib.hid c3
 clear hb1 hc2 c3
 go_wp2_with fail
 refine (c1).mono ?_
 rintro e w' ⟨rfl, rfl⟩
 go_wp2_with fail
 refine (c2).mono ?_
 rintro e w' ⟨rfl, rfl⟩
 clear c1 c2
 go_wp2_with fail
 refine C3.out.mono ?_
 clear C3
 rintro e w3 ⟨rfl, hb2, hc3⟩
 have H2 := Lib.hid (And.intro hb2 (H1.out.2.then hc3 HL.out))
 have c1 := hb2.cGen
 rw [A.out.k2] at c1
 change Calls _ _ _ w3 (fun e w' => e = .returned (.int .u64 2) ∧ w3 = w') at c1
 have c2 := hb2.cWaits
 rw [A.out.w2] at c2
 change Calls _ _ _ w3 (fun e w' => e = .returned (.int .i64 0) ∧ w3 = w') at c2
 clear hb2 hc3
 go_wp2_with fail
 refine (c1).mono ?_
 rintro e w' ⟨rfl, rfl⟩
 go_wp2_with fail
 refine (c2).mono ?_
 rintro e w' ⟨rfl, rfl⟩
 clear c1 c2
 have cb := block11_at (n := 1) w3 (by omega)
 change Calls _ _ #[.int .u16 1] w3 _ at cb
 go_wp2_with fail
 refine cb.mono ?_
 clear cb
 rintro e w4 ⟨g1, rfl, -, -, hc4⟩
 have hb24 := H2.out.1.chg hc4 (by simp)
 have c1 := hb24.cOverNot (v := some ⟨g1, 0, none⟩) (c := 128) (x := 4) (by rw [A.out.g2.n]; omega) A.out.f2
 change Calls _ _ #[_, .int .i64 4, _] w4 _ at c1
 have H3 := Lib.hid (And.intro hb24 (H2.out.2.trans hc4))
 clear hb24 hc4
 go_wp2_with fail
 refine (c1).mono ?_
 rintro e w' ⟨rfl, rfl⟩
 clear c1
 have c2 := bDown_at H3.out.1 (noF w4) 4
 rw [A.out.e3] at c2
 change Calls _ _ _ w4 (fun e w' => e = .returned (.int .i64 0) ∧ BaseAt w' M [] aw3 ∧ Chg M.L w4 w') at c2
 go_wp2_with fail
 refine c2.mono ?_
 clear c2
 rintro e w5 ⟨rfl, hb3, hc5⟩
 have H4 := Lib.hid (And.intro hb3 (H3.out.2.then hc5 HL.out))
 have c1 := hb3.cWaits
 rw [A.out.w3] at c1
 change Calls _ _ _ w5 (fun e w' => e = .returned (.int .i64 1) ∧ w5 = w') at c1
 clear hb3 hc5
 go_wp2_with fail
 refine (c1).mono ?_
 rintro e w' ⟨rfl, rfl⟩
 clear c1
 have c2 : Calls _ _ _ w5 (fun e w' => e = .returned (.int .i64 0) ∧ BaseAt w' M [] aw4 ∧ Chg M.L w5 w') := bBack_at H4.out.1 (noF w5)
 go_wp2_with fail
 refine c2.mono ?_
 clear c2
 rintro e w6 ⟨rfl, hb4, hc6⟩
 have H5 := Lib.hid (And.intro hb4 (H4.out.2.then hc6 HL.out))
 have c1 := hb4.cCount 4
 rw [show getV aw4.T 4 = 1 from (getV_nat (T := aw4.T) (k := 4) (by rw [A.out.g4.n]; omega)).trans (by rw [A.out.n4]; rfl)] at c1
 clear hb4 hc6
 go_wp2_with fail
 refine (c1).mono ?_
 rintro e w' ⟨rfl, rfl⟩
 clear c1
 have c2 := bSetRoot_at (i := 2) (b := 4) H5.out.1 (noF w6) (by omega) (.inr ⟨by omega, by rw [A.out.g4.n]; omega⟩)
 change Calls _ _ #[_, .int .i64 2, .int .i64 4] w6 (fun e w' => e = .returned (.int .i64 0) ∧ BaseAt w' M [] aw5 ∧ Chg M.L w6 w') at c2
 go_wp2_with fail
 refine c2.mono ?_
 clear c2
 rintro e w7 ⟨rfl, hb5, hc7⟩
 have H6 := Lib.hid (And.intro hb5 (H5.out.2.then hc7 HL.out))
 have c3 : Calls _ _ _ w7 (fun e w' => e = .returned (.int .i64 0) ∧ BaseAt w' M [] aw6 ∧ Chg M.L w7 w') := bCommit_any hb5 (noF w7) A.out.g5 (by omega)
 clear hb5 hc7
 go_wp2_with fail
 refine c3.mono ?_
 clear c3
 rintro e w8 ⟨rfl, hb6, hc8⟩
 have H7 := Lib.hid (H6.out.2.then hc8 HL.out)
 obtain ⟨R6, hi6, -⟩ := hb6
 have cO := baOpen_at (B := aw6) hi6.d.rd rfl (fun b _ i _ => rfl) A.out.g6.ok
 have HI := Lib.hid hi6
 clear hi6 hc8
 go_wp2_with fail
 refine cO.mono ?_
 clear cO
 rintro e w9 ⟨M2, R2, rfl, hMd, hMbb, hbc, hc9, hnew⟩
 have hin : BaseIn w9 M2 R2 aw6.open_ := ⟨hbc, by rw [hMd, hMbb]; exact HI.out.d.chg hc9 (by simp) (by simp) (fun k hk => by cases hk)⟩
 have hb9 : BaseAt w9 M2 [] aw6.open_ := ⟨R2, hin, fun q _ hq => by cases hq⟩
 have cR := bRead_at (a := 4) hin (by show 4 < aw6.T.n; rw [A.out.g6.n]; omega)
 change Calls _ _ #[_, .int .i64 4] w9 _ at cR
 have H9 := Lib.hid (And.intro hb9 (H7.out.trans hc9))
 have CR := Lib.hid cR
 clear hMd hMbb hbc hc9 hnew hin hb9 cR
 go_wp2_with fail
 refine CR.out.mono ?_
 clear CR
 rintro e w10 ⟨g2, cg, rfl, q1, q2, q3, q4, q5, q6⟩
 have q5' : BytesAt w10 g2 0 128 (blkF 9) := q5.to (fun i hi => A.out.d6 i hi)
 have hd : Chg [] w10 w10.drew := (Chg.refl [] w10).drew
 have hbR := (H9.out.1.chg q6 (by simp)).chg hd (by simp)
 have c1 := hbR.cRoot 2
 rw [show aw6.open_.rootI 2 = 4 from by
  unfold Bs.rootI
  rw [if_pos (by omega)]
  show ((aw6.Kp.roots 2 : Nat) : Int) = 4
  rw [A.out.r6]; rfl] at c1
 have c2 : Calls Tryz.prog 34 #[.pointer (some ⟨M2.b, 0, none⟩)] w10.drew (fun e w' => e = .returned (.int .u64 3) ∧ w10.drew = w') := by
  have q := hbR.cGen
  rw [show aw6.open_.Kp.gen = 3 from A.out.k6] at q
  exact q
 have cb := block11_at (n := 9) w10.drew (by omega)
 change Calls _ _ #[.int .u16 9] _ _ at cb
 have C1 := Lib.hid c1
 have C2 := Lib.hid c2
 have CB := Lib.hid cb
 have HQ := Lib.hid (And.intro q5' (And.intro (H9.out.2.trans q6) (q5'.chg hd (by simp))))
 clear q3 q4 q5 q6 q5' hd hbR c1 c2 cb
 go_upto_region 11 with fail
 refine wp_region_held_drew (S := fun W' => BytesAt W' g2 0 128 (blkF 9)) (by kernel_rfl) (by exact HQ.out.2.2) (fun hHeld => ?_)
 refine wpAnyH_take (i := 0) (oi := ?_) (v := ?_) ?_ (by kernel_rfl) (by kernel_rfl) (by kernel_rfl) ?_ (Or.inl ⟨?_, ?_⟩) hHeld ?_
 rotate_left 2
 ·(simp only [List.getElem?_toArray, List.getElem?_cons_succ, List.getElem?_cons_zero]; rfl)
 ·exact fun _ _ _ h => h
 ·rfl
 ·(intro W' hS; have hcv := conv_at (bytes_in hS q1 q2); go_simp; first | done | with_reducible rfl)
 try simp only [Act.put, List.setIfInBounds_toArray, List.set_cons_zero, List.set_cons_succ]
 refine wpAnyH_take (i := 1) (oi := ?_) (v := ?_) ?_ (by kernel_rfl) (by kernel_rfl) (by kernel_rfl) ?_ (Or.inl ⟨?_, ?_⟩) hHeld ?_
 rotate_left 2
 ·(simp only [List.getElem?_toArray, List.getElem?_cons_succ, List.getElem?_cons_zero]; rfl)
 ·exact fun _ _ _ h => h
 ·rfl
 ·(intro W' hS; have hcv := conv_at (bytes_in hS q1 q2); go_simp; first | done | with_reducible rfl)
 try simp only [Act.put, List.setIfInBounds_toArray, List.set_cons_zero, List.set_cons_succ]
 refine wpAnyH_take (i := 2) (oi := ?_) (v := ?_) ?_ (by kernel_rfl) (by kernel_rfl) (by kernel_rfl) ?_ (Or.inl ⟨?_, ?_⟩) hHeld ?_
 rotate_left 2
 ·(simp only [List.getElem?_toArray, List.getElem?_cons_succ, List.getElem?_cons_zero]; rfl)
 ·exact fun _ _ _ h => h
 ·rfl
 ·(intro W' hS; have hcv := conv_at (bytes_in hS q1 q2); go_simp; first | done | with_reducible rfl)
 try simp only [Act.put, List.setIfInBounds_toArray, List.set_cons_zero, List.set_cons_succ]
 refine wpAnyH_take (i := 3) (oi := ?_) (v := ?_) ?_ (by kernel_rfl) (by kernel_rfl) (by kernel_rfl) ?_ (Or.inl ⟨?_, ?_⟩) hHeld ?_
 rotate_left 2
 ·(simp only [List.getElem?_toArray, List.getElem?_cons_succ, List.getElem?_cons_zero]; rfl)
 ·exact fun _ _ _ h => h
 ·rfl
 ·(intro W' hS; have hcv := conv_at (bytes_in hS q1 q2); go_simp; first | done | with_reducible rfl)
 try simp only [Act.put, List.setIfInBounds_toArray, List.set_cons_zero, List.set_cons_succ]
 refine wpAnyH_ready (rs := [4]) (by kernel_rfl) (by simp) ?_
 refine AllReadyH.cons (o := ?_) ?_ (fun K hK => ?_) AllReadyH.nil
 rotate_left 1
 ·(simp only [List.getElem?_toArray, List.getElem?_cons_succ, List.getElem?_cons_zero]; rfl)
 (go_simp; refine C1.out.mono ?_; rintro e w' ⟨rfl, rfl⟩)
 refine hK.out _ _ ?_ (fun hHeld => ?_)
 ·exact HQ.out.2.2
 clear hK K
 try simp only [Act.put, List.setIfInBounds_toArray, List.set_cons_zero, List.set_cons_succ]
 refine wpAnyH_take (i := 5) (oi := ?_) (v := ?_) ?_ (by kernel_rfl) (by kernel_rfl) (by kernel_rfl) ?_ (Or.inl ⟨?_, ?_⟩) hHeld ?_
 rotate_left 2
 ·(simp only [List.getElem?_toArray, List.getElem?_cons_succ, List.getElem?_cons_zero]; rfl)
 ·exact fun _ _ _ h => h
 ·rfl
 ·(intro W' hS; have hcv := conv_at (bytes_in hS q1 q2); go_simp; first | done | with_reducible rfl)
 try simp only [Act.put, List.setIfInBounds_toArray, List.set_cons_zero, List.set_cons_succ]
 refine wpAnyH_take (i := 6) (oi := ?_) (v := ?_) ?_ (by kernel_rfl) (by kernel_rfl) (by kernel_rfl) ?_ (Or.inl ⟨?_, ?_⟩) hHeld ?_
 rotate_left 2
 ·(simp only [List.getElem?_toArray, List.getElem?_cons_succ, List.getElem?_cons_zero]; rfl)
 ·exact fun _ _ _ h => h
 ·rfl
 ·(intro W' hS; have hcv := conv_at (bytes_in hS q1 q2); go_simp; first | done | with_reducible rfl)
 try simp only [Act.put, List.setIfInBounds_toArray, List.set_cons_zero, List.set_cons_succ]
 refine wpAnyH_take (i := 7) (oi := ?_) (v := ?_) ?_ (by kernel_rfl) (by kernel_rfl) (by kernel_rfl) ?_ (Or.inl ⟨?_, ?_⟩) hHeld ?_
 rotate_left 2
 ·(simp only [List.getElem?_toArray, List.getElem?_cons_succ, List.getElem?_cons_zero]; rfl)
 ·exact fun _ _ _ h => h
 ·rfl
 ·(intro W' hS; have hcv := conv_at (bytes_in hS q1 q2); go_simp; first | done | with_reducible rfl)
 try simp only [Act.put, List.setIfInBounds_toArray, List.set_cons_zero, List.set_cons_succ]
 refine wpAnyH_take (i := 8) (oi := ?_) (v := ?_) ?_ (by kernel_rfl) (by kernel_rfl) (by kernel_rfl) ?_ (Or.inl ⟨?_, ?_⟩) hHeld ?_
 rotate_left 2
 ·(simp only [List.getElem?_toArray, List.getElem?_cons_succ, List.getElem?_cons_zero]; rfl)
 ·exact fun _ _ _ h => h
 ·rfl
 ·(intro W' hS; have hcv := conv_at (bytes_in hS q1 q2); go_simp; first | done | with_reducible rfl)
 try simp only [Act.put, List.setIfInBounds_toArray, List.set_cons_zero, List.set_cons_succ]
 refine wpAnyH_ready (rs := [9]) (by kernel_rfl) (by simp) ?_
 refine AllReadyH.cons (o := ?_) ?_ (fun K hK => ?_) AllReadyH.nil
 rotate_left 1
 ·(simp only [List.getElem?_toArray, List.getElem?_cons_succ, List.getElem?_cons_zero]; rfl)
 (go_simp; refine C2.out.mono ?_; rintro e w' ⟨rfl, rfl⟩)
 refine hK.out _ _ ?_ (fun hHeld => ?_)
 ·exact HQ.out.2.2
 clear hK K
 try simp only [Act.put, List.setIfInBounds_toArray, List.set_cons_zero, List.set_cons_succ]
 refine wpAnyH_take (i := 10) (oi := ?_) (v := ?_) ?_ (by kernel_rfl) (by kernel_rfl) (by kernel_rfl) ?_ (Or.inl ⟨?_, ?_⟩) hHeld ?_
 rotate_left 2
 ·(simp only [List.getElem?_toArray, List.getElem?_cons_succ, List.getElem?_cons_zero]; rfl)
 ·exact fun _ _ _ h => h
 ·rfl
 ·(intro W' hS; have hcv := conv_at (bytes_in hS q1 q2); go_simp; first | done | with_reducible rfl)
 try simp only [Act.put, List.setIfInBounds_toArray, List.set_cons_zero, List.set_cons_succ]
 refine wpAnyH_take (i := 11) (oi := ?_) (v := ?_) ?_ (by kernel_rfl) (by kernel_rfl) (by kernel_rfl) ?_ (Or.inl ⟨?_, ?_⟩) hHeld ?_
 rotate_left 2
 ·(simp only [List.getElem?_toArray, List.getElem?_cons_succ, List.getElem?_cons_zero]; rfl)
 ·exact fun _ _ _ h => h
 ·rfl
 ·(intro W' hS; have hcv := conv_at (bytes_in hS q1 q2); go_simp; first | done | with_reducible rfl)
 try simp only [Act.put, List.setIfInBounds_toArray, List.set_cons_zero, List.set_cons_succ]
 refine wpAnyH_take (i := 12) (oi := ?_) (v := ?_) ?_ (by kernel_rfl) (by kernel_rfl) (by kernel_rfl) ?_ (Or.inl ⟨?_, ?_⟩) hHeld ?_
 rotate_left 2
 ·(simp only [List.getElem?_toArray, List.getElem?_cons_succ, List.getElem?_cons_zero]; rfl)
 ·exact fun _ _ _ h => h
 ·rfl
 ·(intro W' hS; have hcv := conv_at (bytes_in hS q1 q2); go_simp; first | done | with_reducible rfl)
 try simp only [Act.put, List.setIfInBounds_toArray, List.set_cons_zero, List.set_cons_succ]
 refine wpAnyH_take (i := 13) (oi := ?_) (v := ?_) ?_ (by kernel_rfl) (by kernel_rfl) (by kernel_rfl) ?_ (Or.inl ⟨?_, ?_⟩) hHeld ?_
 rotate_left 2
 ·(simp only [List.getElem?_toArray, List.getElem?_cons_succ, List.getElem?_cons_zero]; rfl)
 ·exact fun _ _ _ h => h
 ·rfl
 ·(intro W' hS; have hcv := conv_at (bytes_in hS q1 q2); go_simp; first | done | with_reducible rfl)
 try simp only [Act.put, List.setIfInBounds_toArray, List.set_cons_zero, List.set_cons_succ]
 refine wpAnyH_take (i := 14) (oi := ?_) (v := ?_) ?_ (by kernel_rfl) (by kernel_rfl) (by kernel_rfl) ?_ (Or.inl ⟨?_, ?_⟩) hHeld ?_
 rotate_left 2
 ·(simp only [List.getElem?_toArray, List.getElem?_cons_succ, List.getElem?_cons_zero]; rfl)
 ·exact fun _ _ _ h => h
 ·rfl
 ·(intro W' hS; have hcv := conv_at (bytes_in hS q1 q2); go_simp; first | done | with_reducible rfl)
 try simp only [Act.put, List.setIfInBounds_toArray, List.set_cons_zero, List.set_cons_succ]
 refine wpAnyH_take (i := 15) (oi := ?_) (v := ?_) ?_ (by kernel_rfl) (by kernel_rfl) (by kernel_rfl) ?_ (Or.inl ⟨?_, ?_⟩) hHeld ?_
 rotate_left 2
 ·(simp only [List.getElem?_toArray, List.getElem?_cons_succ, List.getElem?_cons_zero]; rfl)
 ·exact fun _ _ _ h => h
 ·rfl
 ·(intro W' hS; have hcv := conv_at (bytes_in hS q1 q2); go_simp; first | done | with_reducible rfl)
 try simp only [Act.put, List.setIfInBounds_toArray, List.set_cons_zero, List.set_cons_succ]
 refine wpAnyH_take (i := 16) (oi := ?_) (v := ?_) ?_ (by kernel_rfl) (by kernel_rfl) (by kernel_rfl) ?_ (Or.inl ⟨?_, ?_⟩) hHeld ?_
 rotate_left 2
 ·(simp only [List.getElem?_toArray, List.getElem?_cons_succ, List.getElem?_cons_zero]; rfl)
 ·exact fun _ _ _ h => h
 ·rfl
 ·(intro W' hS; have hcv := conv_at (bytes_in hS q1 q2); go_simp; first | done | with_reducible rfl)
 try simp only [Act.put, List.setIfInBounds_toArray, List.set_cons_zero, List.set_cons_succ]
 refine wpAnyH_take (i := 17) (oi := ?_) (v := ?_) ?_ (by kernel_rfl) (by kernel_rfl) (by kernel_rfl) ?_ (Or.inl ⟨?_, ?_⟩) hHeld ?_
 rotate_left 2
 ·(simp only [List.getElem?_toArray, List.getElem?_cons_succ, List.getElem?_cons_zero]; rfl)
 ·exact fun _ _ _ h => h
 ·rfl
 ·(intro W' hS; have hcv := conv_at (bytes_in hS q1 q2); go_simp; first | done | with_reducible rfl)
 try simp only [Act.put, List.setIfInBounds_toArray, List.set_cons_zero, List.set_cons_succ]
 refine wpAnyH_take (i := 18) (oi := ?_) (v := ?_) ?_ (by kernel_rfl) (by kernel_rfl) (by kernel_rfl) ?_ (Or.inl ⟨?_, ?_⟩) hHeld ?_
 rotate_left 2
 ·(simp only [List.getElem?_toArray, List.getElem?_cons_succ, List.getElem?_cons_zero]; rfl)
 ·exact fun _ _ _ h => h
 ·rfl
 ·(intro W' hS; have hcv := conv_at (bytes_in hS q1 q2); go_simp; first | done | with_reducible rfl)
 try simp only [Act.put, List.setIfInBounds_toArray, List.set_cons_zero, List.set_cons_succ]
 refine wpAnyH_ready (rs := [19]) (by kernel_rfl) (by simp) ?_
 refine AllReadyH.cons (o := ?_) ?_ (fun K hK => ?_) AllReadyH.nil
 rotate_left 1
 ·(simp only [List.getElem?_toArray, List.getElem?_cons_succ, List.getElem?_cons_zero]; rfl)
 (go_simp; refine CB.out.mono ?_; rintro e wz ⟨g3, rfl, hg3, hby3, hcz⟩; have HZ := Lib.hid (And.intro hby3 (HQ.out.2.1.trans ((Chg.refl [] w10).drew.trans hcz))); have HZ2 := Lib.hid (HQ.out.2.2.chg hcz (by simp)); clear hg3 hby3 hcz)
 refine hK.out _ _ ?_ (fun hHeld => ?_)
 ·exact HZ2.out
 clear hK K
 try simp only [Act.put, List.setIfInBounds_toArray, List.set_cons_zero, List.set_cons_succ]
 refine wpAnyH_ready (rs := [20]) (by kernel_rfl) (by simp) ?_
 refine AllReadyH.cons (o := ?_) ?_ (fun K hK => ?_) AllReadyH.nil
 rotate_left 1
 ·(simp only [List.getElem?_toArray, List.getElem?_cons_succ, List.getElem?_cons_zero]; rfl)
 (have hcv3 := conv_at (bytes_in HZ.out.1 (Nat.le_refl _) (by unfold maxLen; omega)); go_simp)
 refine hK.out _ _ ?_ (fun hHeld => ?_)
 ·exact HZ2.out
 clear hK K
 try simp only [Act.put, List.setIfInBounds_toArray, List.set_cons_zero, List.set_cons_succ]
 refine wpAnyH_take (i := 21) (oi := ?_) (v := ?_) ?_ (by kernel_rfl) (by kernel_rfl) (by kernel_rfl) ?_ (Or.inl ⟨?_, ?_⟩) hHeld ?_
 rotate_left 2
 ·(simp only [List.getElem?_toArray, List.getElem?_cons_succ, List.getElem?_cons_zero]; rfl)
 ·exact fun _ _ _ h => h
 ·rfl
 ·(intro W' hS; have hcv := conv_at (bytes_in hS q1 q2); go_simp; first | done | with_reducible rfl)
 try simp only [Act.put, List.setIfInBounds_toArray, List.set_cons_zero, List.set_cons_succ]
 refine wpAnyH_take (i := 22) (oi := ?_) (v := ?_) ?_ (by kernel_rfl) (by kernel_rfl) (by kernel_rfl) ?_ (Or.inl ⟨?_, ?_⟩) hHeld ?_
 rotate_left 2
 ·(simp only [List.getElem?_toArray, List.getElem?_cons_succ, List.getElem?_cons_zero]; rfl)
 ·exact fun _ _ _ h => h
 ·rfl
 ·(intro W' hS; have hcv := conv_at (bytes_in hS q1 q2); go_simp; first | done | with_reducible rfl)
 try simp only [Act.put, List.setIfInBounds_toArray, List.set_cons_zero, List.set_cons_succ]
 refine wpAnyH_take (i := 23) (oi := ?_) (v := ?_) ?_ (by kernel_rfl) (by kernel_rfl) (by kernel_rfl) ?_ (Or.inl ⟨?_, ?_⟩) hHeld ?_
 rotate_left 2
 ·(simp only [List.getElem?_toArray, List.getElem?_cons_succ, List.getElem?_cons_zero]; rfl)
 ·exact fun _ _ _ h => h
 ·rfl
 ·(intro W' hS; have hcv := conv_at (bytes_in hS q1 q2); go_simp; first | done | with_reducible rfl)
 try simp only [Act.put, List.setIfInBounds_toArray, List.set_cons_zero, List.set_cons_succ]
 refine wpAnyH_done (by kernel_rfl) ?_ _
 go_wp2_with fail
 go_ret
 exact ⟨rfl, HZ.out.2⟩
end Go.Proofs.YtkhcaclndepgbaaGreat
namespace Go.Proofs.YtkhcaclndepgbaaGreat
open Go.RowKit
def IsRow (k : IntKind) (w : World) (a : Option Addr) (len cap : Nat) (zs : List Int) : Prop :=
 (a = none ∧ len = 0 ∧ cap = 0 ∧ zs = []) ∨
 ∃ x, a = some x ∧ len ≤ cap ∧ cap ≤ maxLen ∧ zs.length = cap ∧ (∀ i, i < zs.length → w.cell? (x.add i) = some (.int k (zs.getD i 0))) ∧ ∀ n ∈ zs, (Lit.int k n).wf = true
theorem bd_u8 {x : Int} (h : (Lit.int .u8 x).wf = true) : 0 ≤ x ∧ x ≤ 255 := by
 simp [Lit.wf, IntKind.min, IntKind.max, IntKind.signed, IntKind.bits] at h; exact h
theorem bd_u16 {x : Int} (h : (Lit.int .u16 x).wf = true) : 0 ≤ x ∧ x ≤ 65535 := by
 simp [Lit.wf, IntKind.min, IntKind.max, IntKind.signed, IntKind.bits] at h; exact h
theorem bd_i64 {x : Int} (h : (Lit.int .i64 x).wf = true) : -9223372036854775808 ≤ x ∧ x ≤ 9223372036854775807 := by
 simp [Lit.wf, IntKind.min, IntKind.max, IntKind.signed, IntKind.bits] at h; exact h
theorem bd_u64 {x : Int} (h : (Lit.int .u64 x).wf = true) : 0 ≤ x ∧ x ≤ 18446744073709551615 := by
 simp [Lit.wf, IntKind.min, IntKind.max, IntKind.signed, IntKind.bits] at h; exact h
end Go.Proofs.YtkhcaclndepgbaaGreat
namespace Go.Proofs.YtkhcaclndepgbaaGreat
open Go.RowKit
theorem IsRow.get {k : IntKind} {w : World} {a : Option Addr} {len cap : Nat} {zs : List Int} (h : IsRow k w a len cap zs) {i : Nat} (hi : i < len) :
  ∃ b off, a = some ⟨b, off, none⟩ ∧ b < w.heap.size ∧ w.cell? ⟨b, off + i, none⟩ = some (.int k (zs.getD i 0)) ∧ (Lit.int k (zs.getD i 0)).wf = true := by
 rcases h with ⟨_, rfl, _⟩ | ⟨⟨b, off, sp⟩, rfl, h1, h2, h3, h4, h5⟩
 ·omega
 ·have hil : i < zs.length := by omega
  have hspot : sp = none := by simpa [Addr.add] using World.cell?_spot (h4 0 (by omega))
  subst hspot
  have hc := h4 i hil
  have e : (⟨b, off, none⟩ : Addr).add i = ⟨b, off + i, none⟩ := by unfold Addr.add; split <;> simp_all
  rw [e] at hc
  refine ⟨b, off, rfl, World.block_lt_of_cell? w _ hc, hc, h5 _ ?_⟩
  rw [List.getD_eq_getElem?_getD, List.getElem?_eq_getElem hil]
  exact List.getElem_mem hil
theorem IsRow.cap_le {k : IntKind} {w : World} {a : Option Addr} {len cap : Nat} {zs : List Int} (h : IsRow k w a len cap zs) : len ≤ cap ∧ cap ≤ maxLen := by
 rcases h with ⟨_, rfl, rfl, _⟩ | ⟨_, _, h1, h2, _⟩
 ·exact ⟨Nat.le_refl _, Nat.zero_le _⟩
 ·exact ⟨h1, h2⟩
theorem IsRow.none_len {k : IntKind} {w : World} {len cap : Nat} {zs : List Int} (h : IsRow k w none len cap zs) : len = 0 ∧ cap = 0 := by
 rcases h with ⟨_, rfl, rfl, _⟩ | ⟨_, h, _⟩
 ·exact ⟨rfl, rfl⟩
 ·cases h
end Go.Proofs.YtkhcaclndepgbaaGreat
