/- Layer 11: the chapter's examples: the walk. -/
import Derived.Test.YtkhcaclndepgbaaGreatZd41
set_option linter.unusedVariables false
set_option linter.unusedSimpArgs false
set_option maxRecDepth 100000
set_option maxHeartbeats 20000000
namespace Go.Proofs.YtkhcaclndepgbaaGreat
open Go.RowKit
theorem noF (w : World) : ∀ q, q ∈ ([] : List Nat) → q < w.heap.size := fun q hq => by cases hq
theorem bytes_in {w : World} {g c n : Nat} {f : Nat → Nat} (h : BytesAt w g 0 n f) (h1 : n ≤ c) (h2 : c ≤ maxLen) : BytesIn w (some ⟨g, 0, none⟩) n c f :=
 ⟨h1, h2, (fun e => by cases e), (fun b hb _ => by injection hb with hb; exact ⟨g, 0, hb.symm, h⟩)⟩
theorem BytesAt.to {w : World} {g o n : Nat} {f f' : Nat → Nat} (h : BytesAt w g o n f) (e : ∀ i, i < n → f i = f' i) : BytesAt w g o n f' := fun i hi => by rw [← e i hi]; exact h i hi
theorem awake11_at (w : World) : Calls Tryz.prog 25 #[] w fun e w' => e = .returned (.bool true) ∧ Chg [] w w' := by
 have A := Lib.hid aw_ok
 have cf := formatted_at (x := 0) w (by omega) (F := []) (noF w)
 change Calls _ _ #[.int .u8 0] w _ at cf
 go_enter Tryz.func25, Tryz.ntmps25
 go_wp2_with fail
 refine cf.mono ?_
 clear cf
 rintro e w1 ⟨M, rfl, hb0, hc1, hL⟩
 change BaseAt w1 M [] (Bs.fmt 16) at hb0
 have c1 : Calls _ _ _ w1 (fun e w' => e = .returned (.int .u64 1) ∧ w1 = w') := hb0.cGen
 have c2 := hb0.cRoom
 rw [room16] at c2
 have c3 := hb0.cBlocks
 rw [good16.n] at c3
 change Calls _ _ _ w1 (fun e w' => e = .returned (.int .i64 16) ∧ w1 = w') at c3
 have HL := Lib.hid (fun q (hq : q ∈ M.L) => (.inr (hL q hq) : q ∈ ([] : List Nat) ∨ w.heap.size ≤ q))
 have H0 := Lib.hid (And.intro hb0 hc1)
 clear hb0 hc1 hL
 go_wp2_with fail
 refine (c1).mono ?_
 rintro e w' ⟨rfl, rfl⟩
 go_wp2_with fail
 refine (c2).mono ?_
 rintro e w' ⟨rfl, rfl⟩
 go_wp2_with fail
 refine (c3).mono ?_
 rintro e w' ⟨rfl, rfl⟩
 clear c1 c2 c3
 have cb := block11_at (n := 9) w1 (by omega)
 change Calls _ _ #[.int .u16 9] w1 _ at cb
 go_wp2_with fail
 refine cb.mono ?_
 clear cb
 rintro e wk ⟨g, rfl, hg, hby, hck⟩
 have hbk := H0.out.1.chg hck (by simp)
 have cp := bPut_at (c := 128) hbk (noF wk) hby (fun hm => by have := H0.out.1.ltL hm; omega) (by rw [room16]; omega)
 rw [aw_at] at cp
 change Calls _ _ _ wk (fun e w' => e = .returned (.tuple #[.int .i64 4, .int .i64 0]) ∧ BaseAt w' M [] aw1 ∧ Chg M.L wk w') at cp
 have HK := Lib.hid (H0.out.2.trans hck)
 clear hck hby hbk hg
 go_wp2_with fail
 refine cp.mono ?_
 clear cp
 rintro e w2 ⟨rfl, hb1, hc2⟩
 have H1 := Lib.hid (And.intro hb1 (HK.out.then hc2 HL.out))
 have c1 := hb1.cCount 4
 rw [show getV aw1.T 4 = 1 from (getV_nat (T := aw1.T) (k := 4) (by rw [A.out.g1.n]; omega)).trans (by rw [A.out.n1]; rfl)] at c1
 have c2 := hb1.cFresh 4 (by decide)
 rw [show aw1.freshB 4 = true from by
  unfold Bs.freshB
  rw [decide_eq_true (show (4 : Int) < (aw1.T.n : Int) by rw [A.out.g1.n]; omega)]
  exact A.out.f1] at c2
 have c3 : Calls _ _ _ w2 (fun e w' => e = .returned (.int .i64 0) ∧ BaseAt w' M [] aw2 ∧ Chg M.L w2 w') := bCommit_any hb1 (noF w2) A.out.g1 (by omega)
 have C3 := Lib.hid c3
 clear hb1 hc2 c3
 go_wp2_with fail
 refine (c1).mono ?_
 rintro e w' ⟨rfl, rfl⟩
 go_wp2_with fail
 refine (c2).mono ?_
 rintro e w' ⟨rfl, rfl⟩
 clear c1 c2
 go_wp2_with fail
 refine C3.out.mono ?_
 clear C3
 rintro e w3 ⟨rfl, hb2, hc3⟩
 have H2 := Lib.hid (And.intro hb2 (H1.out.2.then hc3 HL.out))
 have c1 := hb2.cGen
 rw [A.out.k2] at c1
 change Calls _ _ _ w3 (fun e w' => e = .returned (.int .u64 2) ∧ w3 = w') at c1
 have c2 := hb2.cWaits
 rw [A.out.w2] at c2
 change Calls _ _ _ w3 (fun e w' => e = .returned (.int .i64 0) ∧ w3 = w') at c2
 clear hb2 hc3
 go_wp2_with fail
 refine (c1).mono ?_
 rintro e w' ⟨rfl, rfl⟩
 go_wp2_with fail
 refine (c2).mono ?_
 rintro e w' ⟨rfl, rfl⟩
 clear c1 c2
 have cb := block11_at (n := 1) w3 (by omega)
 change Calls _ _ #[.int .u16 1] w3 _ at cb
 go_wp2_with fail
 refine cb.mono ?_
 clear cb
 rintro e w4 ⟨g1, rfl, -, -, hc4⟩
 have hb24 := H2.out.1.chg hc4 (by simp)
 have c1 := hb24.cOverNot (v := some ⟨g1, 0, none⟩) (c := 128) (x := 4) (by rw [A.out.g2.n]; omega) A.out.f2
 change Calls _ _ #[_, .int .i64 4, _] w4 _ at c1
 have H3 := Lib.hid (And.intro hb24 (H2.out.2.trans hc4))
 clear hb24 hc4
 go_wp2_with fail
 refine (c1).mono ?_
 rintro e w' ⟨rfl, rfl⟩
 clear c1
 have c2 := bDown_at H3.out.1 (noF w4) 4
 rw [A.out.e3] at c2
 change Calls _ _ _ w4 (fun e w' => e = .returned (.int .i64 0) ∧ BaseAt w' M [] aw3 ∧ Chg M.L w4 w') at c2
 go_wp2_with fail
 refine c2.mono ?_
 clear c2
 rintro e w5 ⟨rfl, hb3, hc5⟩
 have H4 := Lib.hid (And.intro hb3 (H3.out.2.then hc5 HL.out))
 have c1 := hb3.cWaits
 rw [A.out.w3] at c1
 change Calls _ _ _ w5 (fun e w' => e = .returned (.int .i64 1) ∧ w5 = w') at c1
 clear hb3 hc5
 go_wp2_with fail
 refine (c1).mono ?_
 rintro e w' ⟨rfl, rfl⟩
 clear c1
 have c2 : Calls _ _ _ w5 (fun e w' => e = .returned (.int .i64 0) ∧ BaseAt w' M [] aw4 ∧ Chg M.L w5 w') := bBack_at H4.out.1 (noF w5)
 go_wp2_with fail
 refine c2.mono ?_
 clear c2
 rintro e w6 ⟨rfl, hb4, hc6⟩
 have H5 := Lib.hid (And.intro hb4 (H4.out.2.then hc6 HL.out))
 have c1 := hb4.cCount 4
 rw [show getV aw4.T 4 = 1 from (getV_nat (T := aw4.T) (k := 4) (by rw [A.out.g4.n]; omega)).trans (by rw [A.out.n4]; rfl)] at c1
 clear hb4 hc6
 go_wp2_with fail
 refine (c1).mono ?_
 rintro e w' ⟨rfl, rfl⟩
 clear c1
 have c2 := bSetRoot_at (i := 2) (b := 4) H5.out.1 (noF w6) (by omega) (.inr ⟨by omega, by rw [A.out.g4.n]; omega⟩)
 change Calls _ _ #[_, .int .i64 2, .int .i64 4] w6 (fun e w' => e = .returned (.int .i64 0) ∧ BaseAt w' M [] aw5 ∧ Chg M.L w6 w') at c2
 go_wp2_with fail
 refine c2.mono ?_
 clear c2
 rintro e w7 ⟨rfl, hb5, hc7⟩
 have H6 := Lib.hid (And.intro hb5 (H5.out.2.then hc7 HL.out))
 have c3 : Calls _ _ _ w7 (fun e w' => e = .returned (.int .i64 0) ∧ BaseAt w' M [] aw6 ∧ Chg M.L w7 w') := bCommit_any hb5 (noF w7) A.out.g5 (by omega)
 clear hb5 hc7
 go_wp2_with fail
 refine c3.mono ?_
 clear c3
 rintro e w8 ⟨rfl, hb6, hc8⟩
 have H7 := Lib.hid (H6.out.2.then hc8 HL.out)
 obtain ⟨R6, hi6, -⟩ := hb6
 have cO := baOpen_at (B := aw6) hi6.d.rd rfl (fun b _ i _ => rfl) A.out.g6.ok
 have HI := Lib.hid hi6
 clear hi6 hc8
 go_wp2_with fail
 refine cO.mono ?_
 clear cO
 rintro e w9 ⟨M2, R2, rfl, hMd, hMbb, hbc, hc9, hnew⟩
 have hin : BaseIn w9 M2 R2 aw6.open_ := ⟨hbc, by rw [hMd, hMbb]; exact HI.out.d.chg hc9 (by simp) (by simp) (fun k hk => by cases hk)⟩
 have hb9 : BaseAt w9 M2 [] aw6.open_ := ⟨R2, hin, fun q _ hq => by cases hq⟩
 have cR := bRead_at (a := 4) hin (by show 4 < aw6.T.n; rw [A.out.g6.n]; omega)
 change Calls _ _ #[_, .int .i64 4] w9 _ at cR
 have H9 := Lib.hid (And.intro hb9 (H7.out.trans hc9))
 have CR := Lib.hid cR
 clear hMd hMbb hbc hc9 hnew hin hb9 cR
 go_wp2_with fail
 refine CR.out.mono ?_
 clear CR
 rintro e w10 ⟨g2, cg, rfl, q1, q2, q3, q4, q5, q6⟩
 have q5' : BytesAt w10 g2 0 128 (blkF 9) := q5.to (fun i hi => A.out.d6 i hi)
 have hd : Chg [] w10 w10.drew := (Chg.refl [] w10).drew
 have hbR := (H9.out.1.chg q6 (by simp)).chg hd (by simp)
 have c1 := hbR.cRoot 2
 rw [show aw6.open_.rootI 2 = 4 from by
  unfold Bs.rootI
  rw [if_pos (by omega)]
  show ((aw6.Kp.roots 2 : Nat) : Int) = 4
  rw [A.out.r6]; rfl] at c1
 have c2 : Calls Tryz.prog 34 #[.pointer (some ⟨M2.b, 0, none⟩)] w10.drew (fun e w' => e = .returned (.int .u64 3) ∧ w10.drew = w') := by
  have q := hbR.cGen
  rw [show aw6.open_.Kp.gen = 3 from A.out.k6] at q
  exact q
 have cb := block11_at (n := 9) w10.drew (by omega)
 change Calls _ _ #[.int .u16 9] _ _ at cb
 have C1 := Lib.hid c1
 have C2 := Lib.hid c2
 have CB := Lib.hid cb
 have HQ := Lib.hid (And.intro q5' (And.intro (H9.out.2.trans q6) (q5'.chg hd (by simp))))
 clear q3 q4 q5 q6 q5' hd hbR c1 c2 cb
 go_upto_region 11 with fail
 refine wp_region_held_drew (S := fun W' => BytesAt W' g2 0 128 (blkF 9)) (by kernel_rfl) (by exact HQ.out.2.2) (fun hHeld => ?_)
 refine wpAnyH_take (i := 0) (oi := ?_) (v := ?_) ?_ (by kernel_rfl) (by kernel_rfl) (by kernel_rfl) ?_ (Or.inl ⟨?_, ?_⟩) hHeld ?_
 rotate_left 2
 ·(simp only [List.getElem?_toArray, List.getElem?_cons_succ, List.getElem?_cons_zero]; rfl)
 ·exact fun _ _ _ h => h
 ·rfl
 ·(intro W' hS; have hcv := conv_at (bytes_in hS q1 q2); go_simp; first | done | with_reducible rfl)
 try simp only [Act.put, List.setIfInBounds_toArray, List.set_cons_zero, List.set_cons_succ]
 refine wpAnyH_take (i := 1) (oi := ?_) (v := ?_) ?_ (by kernel_rfl) (by kernel_rfl) (by kernel_rfl) ?_ (Or.inl ⟨?_, ?_⟩) hHeld ?_
 rotate_left 2
 ·(simp only [List.getElem?_toArray, List.getElem?_cons_succ, List.getElem?_cons_zero]; rfl)
 ·exact fun _ _ _ h => h
 ·rfl
 ·(intro W' hS; have hcv := conv_at (bytes_in hS q1 q2); go_simp; first | done | with_reducible rfl)
 try simp only [Act.put, List.setIfInBounds_toArray, List.set_cons_zero, List.set_cons_succ]
 refine wpAnyH_take (i := 2) (oi := ?_) (v := ?_) ?_ (by kernel_rfl) (by kernel_rfl) (by kernel_rfl) ?_ (Or.inl ⟨?_, ?_⟩) hHeld ?_
 rotate_left 2
 ·(simp only [List.getElem?_toArray, List.getElem?_cons_succ, List.getElem?_cons_zero]; rfl)
 ·exact fun _ _ _ h => h
 ·rfl
 ·(intro W' hS; have hcv := conv_at (bytes_in hS q1 q2); go_simp; first | done | with_reducible rfl)
 try simp only [Act.put, List.setIfInBounds_toArray, List.set_cons_zero, List.set_cons_succ]
 refine wpAnyH_take (i := 3) (oi := ?_) (v := ?_) ?_ (by kernel_rfl) (by kernel_rfl) (by kernel_rfl) ?_ (Or.inl ⟨?_, ?_⟩) hHeld ?_
 rotate_left 2
 ·(simp only [List.getElem?_toArray, List.getElem?_cons_succ, List.getElem?_cons_zero]; rfl)
 ·exact fun _ _ _ h => h
 ·rfl
 ·(intro W' hS; have hcv := conv_at (bytes_in hS q1 q2); go_simp; first | done | with_reducible rfl)
 try simp only [Act.put, List.setIfInBounds_toArray, List.set_cons_zero, List.set_cons_succ]
 refine wpAnyH_ready (rs := [4]) (by kernel_rfl) (by simp) ?_
 refine AllReadyH.cons (o := ?_) ?_ (fun K hK => ?_) AllReadyH.nil
 rotate_left 1
 ·(simp only [List.getElem?_toArray, List.getElem?_cons_succ, List.getElem?_cons_zero]; rfl)
 (go_simp; refine C1.out.mono ?_; rintro e w' ⟨rfl, rfl⟩)
 refine hK.out _ _ ?_ (fun hHeld => ?_)
 ·exact HQ.out.2.2
 clear hK K
 try simp only [Act.put, List.setIfInBounds_toArray, List.set_cons_zero, List.set_cons_succ]
 refine wpAnyH_take (i := 5) (oi := ?_) (v := ?_) ?_ (by kernel_rfl) (by kernel_rfl) (by kernel_rfl) ?_ (Or.inl ⟨?_, ?_⟩) hHeld ?_
 rotate_left 2
 ·(simp only [List.getElem?_toArray, List.getElem?_cons_succ, List.getElem?_cons_zero]; rfl)
 ·exact fun _ _ _ h => h
 ·rfl
 ·(intro W' hS; have hcv := conv_at (bytes_in hS q1 q2); go_simp; first | done | with_reducible rfl)
 try simp only [Act.put, List.setIfInBounds_toArray, List.set_cons_zero, List.set_cons_succ]
 refine wpAnyH_take (i := 6) (oi := ?_) (v := ?_) ?_ (by kernel_rfl) (by kernel_rfl) (by kernel_rfl) ?_ (Or.inl ⟨?_, ?_⟩) hHeld ?_
 rotate_left 2
 ·(simp only [List.getElem?_toArray, List.getElem?_cons_succ, List.getElem?_cons_zero]; rfl)
 ·exact fun _ _ _ h => h
 ·rfl
 ·(intro W' hS; have hcv := conv_at (bytes_in hS q1 q2); go_simp; first | done | with_reducible rfl)
 try simp only [Act.put, List.setIfInBounds_toArray, List.set_cons_zero, List.set_cons_succ]
 refine wpAnyH_take (i := 7) (oi := ?_) (v := ?_) ?_ (by kernel_rfl) (by kernel_rfl) (by kernel_rfl) ?_ (Or.inl ⟨?_, ?_⟩) hHeld ?_
 rotate_left 2
 ·(simp only [List.getElem?_toArray, List.getElem?_cons_succ, List.getElem?_cons_zero]; rfl)
 ·exact fun _ _ _ h => h
 ·rfl
 ·(intro W' hS; have hcv := conv_at (bytes_in hS q1 q2); go_simp; first | done | with_reducible rfl)
 try simp only [Act.put, List.setIfInBounds_toArray, List.set_cons_zero, List.set_cons_succ]
 refine wpAnyH_take (i := 8) (oi := ?_) (v := ?_) ?_ (by kernel_rfl) (by kernel_rfl) (by kernel_rfl) ?_ (Or.inl ⟨?_, ?_⟩) hHeld ?_
 rotate_left 2
 ·(simp only [List.getElem?_toArray, List.getElem?_cons_succ, List.getElem?_cons_zero]; rfl)
 ·exact fun _ _ _ h => h
 ·rfl
 ·(intro W' hS; have hcv := conv_at (bytes_in hS q1 q2); go_simp; first | done | with_reducible rfl)
 try simp only [Act.put, List.setIfInBounds_toArray, List.set_cons_zero, List.set_cons_succ]
 refine wpAnyH_ready (rs := [9]) (by kernel_rfl) (by simp) ?_
 refine AllReadyH.cons (o := ?_) ?_ (fun K hK => ?_) AllReadyH.nil
 rotate_left 1
 ·(simp only [List.getElem?_toArray, List.getElem?_cons_succ, List.getElem?_cons_zero]; rfl)
 (go_simp; refine C2.out.mono ?_; rintro e w' ⟨rfl, rfl⟩)
 refine hK.out _ _ ?_ (fun hHeld => ?_)
 ·exact HQ.out.2.2
 clear hK K
 try simp only [Act.put, List.setIfInBounds_toArray, List.set_cons_zero, List.set_cons_succ]
 refine wpAnyH_take (i := 10) (oi := ?_) (v := ?_) ?_ (by kernel_rfl) (by kernel_rfl) (by kernel_rfl) ?_ (Or.inl ⟨?_, ?_⟩) hHeld ?_
 rotate_left 2
 ·(simp only [List.getElem?_toArray, List.getElem?_cons_succ, List.getElem?_cons_zero]; rfl)
 ·exact fun _ _ _ h => h
 ·rfl
 ·(intro W' hS; have hcv := conv_at (bytes_in hS q1 q2); go_simp; first | done | with_reducible rfl)
 try simp only [Act.put, List.setIfInBounds_toArray, List.set_cons_zero, List.set_cons_succ]
 refine wpAnyH_take (i := 11) (oi := ?_) (v := ?_) ?_ (by kernel_rfl) (by kernel_rfl) (by kernel_rfl) ?_ (Or.inl ⟨?_, ?_⟩) hHeld ?_
 rotate_left 2
 ·(simp only [List.getElem?_toArray, List.getElem?_cons_succ, List.getElem?_cons_zero]; rfl)
 ·exact fun _ _ _ h => h
 ·rfl
 ·(intro W' hS; have hcv := conv_at (bytes_in hS q1 q2); go_simp; first | done | with_reducible rfl)
 try simp only [Act.put, List.setIfInBounds_toArray, List.set_cons_zero, List.set_cons_succ]
 refine wpAnyH_take (i := 12) (oi := ?_) (v := ?_) ?_ (by kernel_rfl) (by kernel_rfl) (by kernel_rfl) ?_ (Or.inl ⟨?_, ?_⟩) hHeld ?_
 rotate_left 2
 ·(simp only [List.getElem?_toArray, List.getElem?_cons_succ, List.getElem?_cons_zero]; rfl)
 ·exact fun _ _ _ h => h
 ·rfl
 ·(intro W' hS; have hcv := conv_at (bytes_in hS q1 q2); go_simp; first | done | with_reducible rfl)
 try simp only [Act.put, List.setIfInBounds_toArray, List.set_cons_zero, List.set_cons_succ]
 refine wpAnyH_take (i := 13) (oi := ?_) (v := ?_) ?_ (by kernel_rfl) (by kernel_rfl) (by kernel_rfl) ?_ (Or.inl ⟨?_, ?_⟩) hHeld ?_
 rotate_left 2
 ·(simp only [List.getElem?_toArray, List.getElem?_cons_succ, List.getElem?_cons_zero]; rfl)
 ·exact fun _ _ _ h => h
 ·rfl
 ·(intro W' hS; have hcv := conv_at (bytes_in hS q1 q2); go_simp; first | done | with_reducible rfl)
 try simp only [Act.put, List.setIfInBounds_toArray, List.set_cons_zero, List.set_cons_succ]
 refine wpAnyH_take (i := 14) (oi := ?_) (v := ?_) ?_ (by kernel_rfl) (by kernel_rfl) (by kernel_rfl) ?_ (Or.inl ⟨?_, ?_⟩) hHeld ?_
 rotate_left 2
 ·(simp only [List.getElem?_toArray, List.getElem?_cons_succ, List.getElem?_cons_zero]; rfl)
 ·exact fun _ _ _ h => h
 ·rfl
 ·(intro W' hS; have hcv := conv_at (bytes_in hS q1 q2); go_simp; first | done | with_reducible rfl)
 try simp only [Act.put, List.setIfInBounds_toArray, List.set_cons_zero, List.set_cons_succ]
 refine wpAnyH_take (i := 15) (oi := ?_) (v := ?_) ?_ (by kernel_rfl) (by kernel_rfl) (by kernel_rfl) ?_ (Or.inl ⟨?_, ?_⟩) hHeld ?_
 rotate_left 2
 ·(simp only [List.getElem?_toArray, List.getElem?_cons_succ, List.getElem?_cons_zero]; rfl)
 ·exact fun _ _ _ h => h
 ·rfl
 ·(intro W' hS; have hcv := conv_at (bytes_in hS q1 q2); go_simp; first | done | with_reducible rfl)
 try simp only [Act.put, List.setIfInBounds_toArray, List.set_cons_zero, List.set_cons_succ]
 refine wpAnyH_take (i := 16) (oi := ?_) (v := ?_) ?_ (by kernel_rfl) (by kernel_rfl) (by kernel_rfl) ?_ (Or.inl ⟨?_, ?_⟩) hHeld ?_
 rotate_left 2
 ·(simp only [List.getElem?_toArray, List.getElem?_cons_succ, List.getElem?_cons_zero]; rfl)
 ·exact fun _ _ _ h => h
 ·rfl
 ·(intro W' hS; have hcv := conv_at (bytes_in hS q1 q2); go_simp; first | done | with_reducible rfl)
 try simp only [Act.put, List.setIfInBounds_toArray, List.set_cons_zero, List.set_cons_succ]
 refine wpAnyH_take (i := 17) (oi := ?_) (v := ?_) ?_ (by kernel_rfl) (by kernel_rfl) (by kernel_rfl) ?_ (Or.inl ⟨?_, ?_⟩) hHeld ?_
 rotate_left 2
 ·(simp only [List.getElem?_toArray, List.getElem?_cons_succ, List.getElem?_cons_zero]; rfl)
 ·exact fun _ _ _ h => h
 ·rfl
 ·(intro W' hS; have hcv := conv_at (bytes_in hS q1 q2); go_simp; first | done | with_reducible rfl)
 try simp only [Act.put, List.setIfInBounds_toArray, List.set_cons_zero, List.set_cons_succ]
 refine wpAnyH_take (i := 18) (oi := ?_) (v := ?_) ?_ (by kernel_rfl) (by kernel_rfl) (by kernel_rfl) ?_ (Or.inl ⟨?_, ?_⟩) hHeld ?_
 rotate_left 2
 ·(simp only [List.getElem?_toArray, List.getElem?_cons_succ, List.getElem?_cons_zero]; rfl)
 ·exact fun _ _ _ h => h
 ·rfl
 ·(intro W' hS; have hcv := conv_at (bytes_in hS q1 q2); go_simp; first | done | with_reducible rfl)
 try simp only [Act.put, List.setIfInBounds_toArray, List.set_cons_zero, List.set_cons_succ]
 refine wpAnyH_ready (rs := [19]) (by kernel_rfl) (by simp) ?_
 refine AllReadyH.cons (o := ?_) ?_ (fun K hK => ?_) AllReadyH.nil
 rotate_left 1
 ·(simp only [List.getElem?_toArray, List.getElem?_cons_succ, List.getElem?_cons_zero]; rfl)
 (go_simp; refine CB.out.mono ?_; rintro e wz ⟨g3, rfl, hg3, hby3, hcz⟩; have HZ := Lib.hid (And.intro hby3 (HQ.out.2.1.trans ((Chg.refl [] w10).drew.trans hcz))); have HZ2 := Lib.hid (HQ.out.2.2.chg hcz (by simp)); clear hg3 hby3 hcz)
 refine hK.out _ _ ?_ (fun hHeld => ?_)
 ·exact HZ2.out
 clear hK K
 try simp only [Act.put, List.setIfInBounds_toArray, List.set_cons_zero, List.set_cons_succ]
 refine wpAnyH_ready (rs := [20]) (by kernel_rfl) (by simp) ?_
 refine AllReadyH.cons (o := ?_) ?_ (fun K hK => ?_) AllReadyH.nil
 rotate_left 1
 ·(simp only [List.getElem?_toArray, List.getElem?_cons_succ, List.getElem?_cons_zero]; rfl)
 (have hcv3 := conv_at (bytes_in HZ.out.1 (Nat.le_refl _) (by unfold maxLen; omega)); go_simp)
 refine hK.out _ _ ?_ (fun hHeld => ?_)
 ·exact HZ2.out
 clear hK K
 try simp only [Act.put, List.setIfInBounds_toArray, List.set_cons_zero, List.set_cons_succ]
 refine wpAnyH_take (i := 21) (oi := ?_) (v := ?_) ?_ (by kernel_rfl) (by kernel_rfl) (by kernel_rfl) ?_ (Or.inl ⟨?_, ?_⟩) hHeld ?_
 rotate_left 2
 ·(simp only [List.getElem?_toArray, List.getElem?_cons_succ, List.getElem?_cons_zero]; rfl)
 ·exact fun _ _ _ h => h
 ·rfl
 ·(intro W' hS; have hcv := conv_at (bytes_in hS q1 q2); go_simp; first | done | with_reducible rfl)
 try simp only [Act.put, List.setIfInBounds_toArray, List.set_cons_zero, List.set_cons_succ]
 refine wpAnyH_take (i := 22) (oi := ?_) (v := ?_) ?_ (by kernel_rfl) (by kernel_rfl) (by kernel_rfl) ?_ (Or.inl ⟨?_, ?_⟩) hHeld ?_
 rotate_left 2
 ·(simp only [List.getElem?_toArray, List.getElem?_cons_succ, List.getElem?_cons_zero]; rfl)
 ·exact fun _ _ _ h => h
 ·rfl
 ·(intro W' hS; have hcv := conv_at (bytes_in hS q1 q2); go_simp; first | done | with_reducible rfl)
 try simp only [Act.put, List.setIfInBounds_toArray, List.set_cons_zero, List.set_cons_succ]
 refine wpAnyH_take (i := 23) (oi := ?_) (v := ?_) ?_ (by kernel_rfl) (by kernel_rfl) (by kernel_rfl) ?_ (Or.inl ⟨?_, ?_⟩) hHeld ?_
 rotate_left 2
 ·(simp only [List.getElem?_toArray, List.getElem?_cons_succ, List.getElem?_cons_zero]; rfl)
 ·exact fun _ _ _ h => h
 ·rfl
 ·(intro W' hS; have hcv := conv_at (bytes_in hS q1 q2); go_simp; first | done | with_reducible rfl)
 try simp only [Act.put, List.setIfInBounds_toArray, List.set_cons_zero, List.set_cons_succ]
 refine wpAnyH_done (by kernel_rfl) ?_ _
 go_wp2_with fail
 go_ret
 exact ⟨rfl, HZ.out.2⟩
end Go.Proofs.YtkhcaclndepgbaaGreat
