/- Layer 10: the chapter's examples. -/
import Derived.Test.YtnhabpbdpjgiiaaAwkL
namespace Go.Proofs.Ytnhabpbdpjgiiaa
open Go.RowKit
set_option linter.unusedVariables false
set_option linter.unusedSimpArgs false

/-- Two sheets' lists are held against each other. -/
theorem sameL {w : World} {v1 v2 : Value} {l1 l2 : List Nat} (h1 : SlI w v1 l1) (h2 : SlI w v2 l2) (e : l1 = l2) (hb : l1.length ≤ 4096) :
    Calls Try.prog 22 #[v1, v2] w fun e w' => e = .returned (.bool true) ∧ Chg [] w w' := by
  have := same_at h1 h2 hb (by rw [← e]; exact hb)
  rw [decide_eq_true e] at this
  exact this
theorem lit1 {w : World} (x : Nat) : SlI (w.alloc (.cells #[.int .i64 (x : Int)] 3)) (.slice (some ⟨w.heap.size, 0, none⟩) 1 1) [x] := by
  refine .inr ⟨w.heap.size, 1, rfl, Nat.le_refl _, by unfold maxLen; omega, by simp, fun i hi => ?_⟩
  obtain rfl : i = 0 := by simp at hi; omega
  exact cell_of_block (new_block w _) 0

theorem cnt_cells {w : World} {base : Nat} {v : Value} {T : Tal} {m : Nat} (h : w.ownsRow base 22 1 v m (cntVs T 0 m)) (h0 : 0 < m) :
    ∃ g c, v = .slice (some ⟨g, 0, none⟩) m c ∧ m ≤ c ∧ c ≤ maxLen ∧ g < w.heap.size ∧ ∀ i, i < m → w.cell? ⟨g, i, none⟩ = some (.int .u16 (T.now i : Int)) := by
  rcases h.2 with ⟨_, h1⟩ | ⟨g, cap, cur, h1, h2, h3, h4, h5, h6, h7⟩
  · omega
  · refine ⟨g, cap, h1, h4, h5, heap_lt h3, fun i hi => ?_⟩
    rw [cell_of_block h3]
    have : (cur.toList.take (m * 1))[i]? = (cntVs T 0 m)[i]? := by rw [h7]
    rw [List.getElem?_take, if_pos (by omega)] at this
    simpa [cntVs, hi] using this

set_option maxRecDepth 20000 in
set_option maxHeartbeats 4000000 in
theorem awake10_at (w : World) : Calls Try.prog 25 #[] w fun e w' => e = .returned (.bool true) ∧ Chg [] w w' := by
  go_enter Try.func25, Try.ntmps25
  go_wp2_with fail
  refine (tnew_ex 16 w (by omega) (by omega)).mono ?_
  rintro e w1 ⟨t, bc, bk, rfl, ht, hC1, l1, l2, l3⟩
  have HT := Lib.hid ht
  have HC1 := Lib.hid hC1
  have HL := Lib.hid (And.intro l1 (And.intro l2 l3))
  clear ht hC1 l1 l2 l3
  go_wp2_with fail
  refine (pnew_ex HT.out 2 (by omega)).mono ?_
  rintro e w2 ⟨p, rfl, hp, hC2, lp⟩
  have HP := Lib.hid hp
  have HC2 := Lib.hid (HC1.out.trans hC2)
  have HLP := Lib.hid (Nat.le_trans HC1.out.size lp)
  clear hp hC2 lp
  go_wp2_with fail
  refine (empty_at (n := 16) w2 (by omega) (by omega)).mono ?_
  rintro e w3 ⟨v0, v1, g0, c0, rfl, hsh, hg, hC3⟩
  have HP3 := Lib.hid (HP.out.chg hC3 (by simp) (by simp) (by simp) (by simp))
  have HC3 := Lib.hid (HC2.out.trans hC3)
  have HSH := Lib.hid hsh
  clear hsh hg hC3
  go_wp2_with fail
  have cP : Calls _ _ _ _ (Placed w3 p t bc bk aF1) := place_ok HP3.out HSH.out (empty_ok (Tal.new 16)) (need_new (n := 16) (by decide))
  refine cP.mono ?_
  clear cP
  rintro e w4 ⟨u0, u1, z0, z1, g, c, rfl, hsv, hz0, hz1, hpt, hC4, hgg, hgn, hzb0, hzb1⟩
  obtain ⟨rfl, rfl, hsl⟩ := hsv
  have HSV : Hid (ShV w4 (.slice (some ⟨g 0, 0, none⟩) 1 (c 0)) (.slice (some ⟨g 1, 0, none⟩) 1 (c 1)) aF1.a aF1.n g c) := Lib.hid (ShV.mk (by rw [a1_n0]) (by rw [a1_n1]) hsl)
  have s0 := hsl 0 (by omega)
  have s1 := hsl 1 (by omega)
  rw [a1_l0, a1_n0] at s0
  rw [a1_l1, a1_n1] at s1
  rw [a1_y0] at hz0
  rw [a1_y1] at hz1
  obtain ⟨za, zc, rfl⟩ := hz0.len
  obtain ⟨ya, yc, rfl⟩ := hz1.len
  have HPT := Lib.hid hpt
  have HS0 := Lib.hid s0
  have HS1 := Lib.hid s1
  have HGP := Lib.hid (show ∀ b, b ∈ [g 0, g 1] → b ∉ [p, t, bc, bk] by
    have a0 := HP3.out.hp.lt
    have a1 := HP3.out.ht.lt0
    have a2 := HP3.out.ht.lt1
    have a3 := HP3.out.ht.lt2
    have g0 := hgg 0 (by omega)
    have g1 := hgg 1 (by omega)
    intro b hb
    simp at hb ⊢
    omega)
  have HC4 := Lib.hid (HC3.out.then hC4 (fun i hi => by have := HL.out; have := HLP.out; simp at hi; omega))
  clear hsl hz0 hz1 hpt hC4 hgg hgn hzb0 hzb1 s0 s1
  rw [a1_n0, a1_n1]
  go_wp2_with fail
  have hz := new_block w4 (.cells #[.slice (some ⟨g 0, 0, none⟩) 1 (c 0), .slice (some ⟨g 1, 0, none⟩) 1 (c 1)] 42)
  have hCz := (Chg.refl [] w4).alloc (.cells #[.slice (some ⟨g 0, 0, none⟩) 1 (c 0), .slice (some ⟨g 1, 0, none⟩) 1 (c 1)] 42)
  generalize w4.alloc _ = w5 at *
  have HPT5 := Lib.hid (HPT.out.chg hCz (by simp) (by simp) (by simp) (by simp))
  have HC5 := Lib.hid (HC4.out.trans hCz)
  have HZ := Lib.hid hz
  have HCZ := Lib.hid hCz
  clear hz hCz
  have cC := counts_at HPT5.out.ht 0 (by rw [a1_tn]; omega)
  rw [show (((0 : Nat)) : Int) = 0 from rfl, a1_tn] at cC
  refine cC.mono ?_
  clear cC
  rintro e w6 ⟨lv, rfl, hown, hC6⟩
  obtain ⟨lg, lc, rfl, q1, q2, q3, q4⟩ := cnt_cells (m := 16) hown (by omega)
  have HC6 := Lib.hid (HC5.out.trans hC6)
  have HC46 := Lib.hid (HCZ.out.trans hC6)
  have HPT6 := Lib.hid (HPT5.out.chg hC6 (by simp) (by simp) (by simp) (by simp))
  have hz6 := (hC6.block _ (heap_lt HZ.out) (by simp)).trans HZ.out
  have HZ6 := Lib.hid hz6
  have z0 := cell_of_block hz6 0
  have z1 := cell_of_block hz6 1
  simp only [List.getElem?_toArray, List.getElem?_cons_zero, List.getElem?_cons_succ] at z0 z1
  have c1 := q4 1 (by omega)
  have c2 := q4 2 (by omega)
  have c3 := q4 3 (by omega)
  rw [a1_t1] at c1
  rw [a1_t2] at c2
  rw [a1_t3] at c3
  rw [show (((0 : Nat)) : Int) = 0 from rfl] at c1
  rw [show (((1 : Nat)) : Int) = 1 from rfl] at c2 c3
  have hlz := heap_lt hz6
  clear hown hC6 hz6 q4
  have cN := need_at (n := 16) w6 (by omega) (by omega)
  rw [show ((needN 16 : Nat) : Int) = 2 from rfl] at cN
  go_wp2_with fail
  refine cN.mono ?_
  clear cN
  rintro e w7 ⟨rfl, rfl⟩
  go_wp2_with fail
  have L1 := Lib.hid (lit1 (w := w6) 2)
  have D1 := Lib.hid ((Chg.refl [] w6).alloc (.cells #[.int .i64 2] 3))
  rw [show (((2 : Nat)) : Int) = 2 from rfl] at L1
  generalize w6.alloc _ = w7 at *
  refine (sameL (HS0.out.chg (HC46.out.trans D1.out) (by simp)) L1.out rfl (by simp)).mono ?_
  rintro e w8 ⟨rfl, hD⟩
  have D2 := Lib.hid (D1.out.trans hD)
  have z1' := (D2.out.cell (p := ⟨w4.heap.size, 1, none⟩) hlz (by simp)).trans z1
  clear hD
  go_wp2_with fail
  have L2 := Lib.hid (lit1 (w := w8) 3)
  have D3 := Lib.hid (D2.out.alloc (.cells #[.int .i64 3] 3))
  rw [show (((3 : Nat)) : Int) = 3 from rfl] at L2
  generalize w8.alloc _ = w9 at *
  refine (sameL (HS1.out.chg (HC46.out.trans D3.out) (by simp)) L2.out rfl (by simp)).mono ?_
  rintro e w10 ⟨rfl, hD⟩
  have D4 := Lib.hid (D3.out.trans hD)
  have y1 := (D4.out.cell (p := ⟨lg, 1, none⟩) q3 (by simp)).trans c1
  have y2 := (D4.out.cell (p := ⟨lg, 2, none⟩) q3 (by simp)).trans c2
  have y3 := (D4.out.cell (p := ⟨lg, 3, none⟩) q3 (by simp)).trans c3
  have HPT10 := Lib.hid (HPT6.out.chg D4.out (by simp) (by simp) (by simp) (by simp))
  have HZ10 := Lib.hid ((D4.out.block _ hlz (by simp)).trans HZ6.out)
  have HC10 := Lib.hid (HC6.out.trans D4.out)
  have HC410 := Lib.hid (HC46.out.trans D4.out)
  clear hD c1 c2 c3 z0 z1 z1' q3
  go_wp2_with fail
  refine (PT.keep HPT10.out).mono ?_
  rintro e w11 ⟨rfl, hP11, hC11⟩
  have HLT : Hid (p < w4.heap.size ∧ t < w4.heap.size ∧ bc < w4.heap.size ∧ bk < w4.heap.size) := Lib.hid ⟨HPT.out.hp.lt, HPT.out.ht.lt0, HPT.out.ht.lt1, HPT.out.ht.lt2⟩
  have HNZ : Hid (w4.heap.size ∉ [p, t, bc, bk]) := Lib.hid (by have := HLT.out; simp; omega)
  have HNEW : Hid (∀ i, i ∈ [p, t, bc, bk] → i ∈ ([] : List Nat) ∨ w.heap.size ≤ i) := Lib.hid (fun i hi => by have := HL.out; have := HLP.out; simp at hi; right; omega)
  have HP11 := Lib.hid hP11
  have HC411 := Lib.hid ((HC410.out.mono (L' := [p, t, bc, bk]) (by simp)).trans hC11)
  have HC11 := Lib.hid (HC10.out.then hC11 HNEW.out)
  have HZ11 := Lib.hid ((hC11.block _ (heap_lt HZ10.out) HNZ.out).trans HZ10.out)
  have hz := HZ11.out
  have z0 := cell_of_block hz 0
  have z1 := cell_of_block hz 1
  simp only [List.getElem?_toArray, List.getElem?_cons_zero, List.getElem?_cons_succ] at z0 z1
  clear hz hP11 hC11 y1 y2 y3
  go_wp2_with fail
  have cP : Calls _ _ _ _ (Placed w11 p t bc bk aS2.fin) := place_ok HP11.out (HSV.out.chg HC411.out (HGP.out _ (by simp)) (HGP.out _ (by simp))) (keep_ok a1_inv.ok) a2_room
  rw [PS.fin_none a2_next] at cP
  refine cP.mono ?_
  clear cP
  rintro e w12 ⟨u0, u1, x0, x1, g2, d2, rfl, hsv, hx0, hx1, hpt, hC12, hgg, hgn, hxb0, hxb1⟩
  rw [a2_y0] at hx0
  rw [a2_y1] at hx1
  obtain ⟨xa, xc, rfl⟩ := hx0.len
  obtain ⟨xa1, xc1, rfl⟩ := hx1.len
  obtain ⟨rfl, rfl, hsl2⟩ := hsv
  have r0 : SlI w12 (.slice (some ⟨g2 0, 0, none⟩) 1 (d2 0)) [2] := by
    have := hsl2 0 (by omega)
    rw [show atL aS2.a aS2.n 0 = [2] from a1_l0, show aS2.n 0 = 1 from a1_n0] at this
    exact this
  have HR0 := Lib.hid r0
  have HP12 : Hid (PT w12 p t bc bk aF1.K aF1.T.keep) := Lib.hid hpt
  have HC412 := Lib.hid (HC411.out.trans hC12)
  have HC12 := Lib.hid (HC11.out.then hC12 HNEW.out)
  have hz12 := (hC12.block _ (heap_lt HZ11.out) HNZ.out).trans HZ11.out
  have HZ12 := Lib.hid hz12
  clear z0 z1
  have z0 := cell_of_block hz12 0
  have z1 := cell_of_block hz12 1
  simp only [List.getElem?_toArray, List.getElem?_cons_zero, List.getElem?_cons_succ] at z0 z1
  have lz12 := heap_lt hz12
  clear hx0 hx1 hpt hC12 hgg hgn hxb0 hxb1 hsl2 r0 hz12
  rw [show aS2.n 0 = 1 from a1_n0, show aS2.n 1 = 1 from a1_n1]
  go_wp2_with fail
  have D5 := Lib.hid ((Chg.refl [] w12).alloc (.cells #[.slice (some ⟨g2 0, 0, none⟩) 1 (d2 0), .slice (some ⟨g2 1, 0, none⟩) 1 (d2 1)] 42))
  generalize w12.alloc _ = w13 at *
  refine (sameL (HR0.out.chg D5.out (by simp)) (HS0.out.chg (HC412.out.trans (D5.out.mono (by simp))) (by intro b hb; obtain rfl : g 0 = b := (by simpa [Value.ownBlock] using hb); exact HGP.out _ (by simp))) rfl (by simp)).mono ?_
  rintro e w14 ⟨rfl, hD⟩
  have D6 := Lib.hid (D5.out.trans hD)
  have HP14 := Lib.hid (HP12.out.chg D6.out (by simp) (by simp) (by simp) (by simp))
  have HC414 := Lib.hid (HC412.out.trans (D6.out.mono (by simp)))
  have HC14 := Lib.hid (HC12.out.trans D6.out)
  have HZ14 := Lib.hid ((D6.out.block _ lz12 (by simp)).trans HZ12.out)
  clear hD z0 z1 lz12
  go_wp2_with fail
  refine (PT.up HP14.out 9).mono ?_
  rintro e w15 ⟨rfl, hP15, hC15⟩
  have HP15 := Lib.hid hP15
  have HC415 := Lib.hid (HC414.out.trans hC15)
  have HC15 := Lib.hid (HC14.out.then hC15 HNEW.out)
  have hz := (hC15.block _ (heap_lt HZ14.out) HNZ.out).trans HZ14.out
  have z0 := cell_of_block hz 0
  have z1 := cell_of_block hz 1
  simp only [List.getElem?_toArray, List.getElem?_cons_zero, List.getElem?_cons_succ] at z0 z1
  clear hz hP15 hC15
  go_wp2_with fail
  have cP : Calls _ _ _ _ (Placed w15 p t bc bk aF3) := place_ok HP15.out (HSV.out.chg HC415.out (HGP.out _ (by simp)) (HGP.out _ (by simp))) (up_ok (keep_ok a1_inv.ok) 9) a3_room
  refine cP.mono ?_
  clear cP
  rintro e w16 ⟨u0, u1, x0, x1, g3, d3, rfl, hsv, hx0, hx1, hpt, hC16, hgg, hgn, hxb0, hxb1⟩
  rw [a3_y0] at hx0
  rw [a3_y1] at hx1
  obtain ⟨ka, kc, rfl⟩ := hx0.len
  obtain ⟨ka1, kc1, rfl⟩ := hx1.len
  obtain ⟨rfl, rfl, hsl3⟩ := hsv
  have r0 := hsl3 0 (by omega)
  have r1 := hsl3 1 (by omega)
  rw [a3_l0, a3_n0] at r0
  rw [a3_l1, a3_n1] at r1
  have HR30 := Lib.hid r0
  have HR31 := Lib.hid r1
  have HP16 := Lib.hid hpt
  have HC16 := Lib.hid (HC15.out.then hC16 HNEW.out)
  clear hx0 hx1 hpt hC16 hgg hgn hxb0 hxb1 hsl3 r0 r1 z0 z1
  rw [a3_n0, a3_n1]
  go_wp2_with fail
  have hz := new_block w16 (.cells #[.slice (some ⟨g3 0, 0, none⟩) 1 (d3 0), .slice (some ⟨g3 1, 0, none⟩) 1 (d3 1)] 42)
  have E1 := Lib.hid ((Chg.refl [] w16).alloc (.cells #[.slice (some ⟨g3 0, 0, none⟩) 1 (d3 0), .slice (some ⟨g3 1, 0, none⟩) 1 (d3 1)] 42))
  have hsz := size_alloc' w16 (.cells #[.slice (some ⟨g3 0, 0, none⟩) 1 (d3 0), .slice (some ⟨g3 1, 0, none⟩) 1 (d3 1)] 42)
  generalize w16.alloc _ = w17 at *
  have L4 := Lib.hid (lit1 (w := w17) 4)
  have E2 := Lib.hid (E1.out.alloc (.cells #[.int .i64 4] 3))
  rw [show (((4 : Nat)) : Int) = 4 from rfl, hsz] at L4
  have HZ17 := Lib.hid (((Chg.refl [] w17).alloc (.cells #[.int .i64 4] 3)).block _ (heap_lt hz) (by simp) |>.trans hz)
  clear hz hsz
  generalize w17.alloc _ = w18 at *
  refine (sameL (HR30.out.chg E2.out (by simp)) L4.out rfl (by simp)).mono ?_
  rintro e w19 ⟨rfl, hD⟩
  have E3 := Lib.hid (E2.out.trans hD)
  have hz := (hD.block _ (heap_lt HZ17.out) (by simp)).trans HZ17.out
  have z0 := cell_of_block hz 0
  have z1 := cell_of_block hz 1
  simp only [List.getElem?_toArray, List.getElem?_cons_zero, List.getElem?_cons_succ] at z0 z1
  clear hz hD
  go_wp2_with fail
  have L5 := Lib.hid (lit1 (w := w19) 5)
  have E4 := Lib.hid (E3.out.alloc (.cells #[.int .i64 5] 3))
  rw [show (((5 : Nat)) : Int) = 5 from rfl] at L5
  clear z0 z1
  generalize w19.alloc _ = w20 at *
  refine (sameL (HR31.out.chg E4.out (by simp)) L5.out rfl (by simp)).mono ?_
  rintro e w21 ⟨rfl, hD⟩
  have E5 := Lib.hid (E4.out.trans hD)
  have HP21 := Lib.hid (HP16.out.chg E5.out (by simp) (by simp) (by simp) (by simp))
  have cg2 := get_at HP21.out.ht 2
  have cg3 := get_at HP21.out.ht 3
  rw [a3_g2] at cg2
  rw [a3_g3] at cg3
  clear hD
  go_wp2_with fail
  refine cg2.mono ?_
  rintro e w' ⟨rfl, rfl⟩
  go_wp2_with fail
  refine cg3.mono ?_
  rintro e w' ⟨rfl, rfl⟩
  go_wp2_with fail
  go_ret
  exact ⟨rfl, HC16.out.trans E5.out⟩

end Go.Proofs.Ytnhabpbdpjgiiaa
