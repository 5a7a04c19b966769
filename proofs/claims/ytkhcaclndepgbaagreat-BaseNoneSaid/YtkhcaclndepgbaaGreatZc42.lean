/- catchmentlaw11.BaseNone: the walk. -/
import Derived.Test.YtkhcaclndepgbaaGreatZc40
import Derived.Test.YtkhcaclndepgbaaGreatZc41
import Derived.Deep.LoopGhost
set_option linter.unusedVariables false
set_option linter.unusedSimpArgs false
set_option maxRecDepth 100000
set_option maxHeartbeats 20000000
namespace Go.Proofs.YtkhcaclndepgbaaGreat
open Go.RowKit
noncomputable def zBase : Array Value := (Tryz.prog.built 51 []).getD #[]
theorem zBase_is : Tryz.prog.built 51 [] = some zBase := by kernel_rfl
theorem zBase_1 : zBase[1]? = some (.pointer none) := by kernel_rfl
theorem baseNone_walk (a0 b0 c0 : Int) (w : World) (h0 : (Lit.int .i64 a0).wf = true) (h1 : (Lit.int .u16 b0).wf = true) (h2 : (Lit.int .u16 c0).wf = true) :
  Calls Tryz.prog 4 #[.int .i64 a0, .int .u16 b0, .int .u16 c0] w fun e w' => e = .returned (.bool true) ∧ Below w.heap.size w w' := by
 obtain ⟨x, rfl, hx⟩ : ∃ x : Nat, b0 = (x : Int) ∧ x ≤ 65535 := by
  have := bd_u16 h1
  exact ⟨b0.toNat, by omega, by omega⟩
 obtain ⟨y, rfl, hy⟩ : ∃ y : Nat, c0 = (y : Int) ∧ y ≤ 65535 := by
  have := bd_u16 h2
  exact ⟨c0.toNat, by omega, by omega⟩
 have HAW := Lib.hid awake11_at
 clear h0 h1 h2
 go_enter Tryz.func4, Tryz.ntmps4
 go_upto_region 1 with fail
 go_wp2_with (first
  | (refine wpList_built rfl 51 _ rfl (ps := []) (by simp) zBase_is ?_)
  | (refine wpList_boxAgg rfl 51 (.tmp 23) rfl (cells := zBase) rfl ?_))
 have hA := (Chg.refl [] w).alloc (.cells zBase 51)
 have hB := hA.alloc (.cells #[.pointer none, .pointer (some ⟨w.heap.size, 0, none⟩)] 24)
 have kA := new_block21 w (.cells zBase 51) (.cells #[.pointer none, .pointer (some ⟨w.heap.size, 0, none⟩)] 24)
 have kB := new_block2 w (.cells zBase 51) (.cells #[.pointer none, .pointer (some ⟨w.heap.size, 0, none⟩)] 24)
 obtain ⟨W, hW⟩ : ∃ W, W = (w.alloc (.cells zBase 51)).alloc (.cells #[.pointer none, .pointer (some ⟨w.heap.size, 0, none⟩)] 24) := ⟨_, rfl⟩
 have hWs : W.heap.size = w.heap.size + 2 := by rw [hW]; simp
 rw [← hW] at hB kA kB ⊢
 obtain ⟨pb, hpb⟩ : ∃ pb, pb = w.heap.size := ⟨_, rfl⟩
 obtain ⟨sb, hsb⟩ : ∃ sb, sb = pb + 1 := ⟨_, rfl⟩
 rw [← hpb] at kA kB ⊢
 rw [← hsb] at kB ⊢
 have cell : ∀ wr k, Chg [] W wr → k < 2 → ∃ p : Option Addr, wr.cell? ⟨sb, k, none⟩ = some (.pointer p) ∧ NoB wr p := fun wr k hc hk => by
  have hb := (hc.block sb (by omega) (by simp)).trans kB
  have ha := (hc.block pb (by omega) (by simp)).trans kA
  rcases (show k = 0 ∨ k = 1 by omega) with rfl | rfl
  ·exact ⟨none, (cell_of_block hb 0).trans rfl, .inl rfl⟩
  ·exact ⟨some ⟨pb, 0, none⟩, (cell_of_block hb 1).trans rfl, .inr ⟨pb, rfl, (cell_of_block ha 1).trans zBase_1⟩⟩
 have HCELL := Lib.hid cell
 have HB := Lib.hid (And.intro hB hWs)
 clear cell hA hB kA kB hW hWs hpb hsb
 go_loopw [27] (fun s wr => ∃ k : Nat, s = .int .i64 (k : Int) ∧ k ≤ 2 ∧ Hid (Chg [] W wr)) (fun s _ => 2 - (intOf s).toNat)
 case atStart => exact ⟨0, rfl, by omega, Lib.hid (Chg.refl _ _)⟩
 case round =>
  obtain ⟨k, rfl, hk, hC⟩ := hrel
  by_cases hk2 : k < 2
  ·obtain ⟨p, hcell, hno⟩ := HCELL.out wr k hC.out hk2
   have hpl : ∀ b, p = some b → b.block ∉ ([] : List Nat) := fun b _ => by simp
   have i1 : (k : Int) < 2 := by omega
   have cb := block11_at (n := 1) wr (by omega)
   change Calls _ _ #[.int .u16 1] wr _ at cb
   go_wp2_with fail
   refine cb.mono ?_
   clear cb
   rintro e w1 ⟨g, rfl, -, -, hc1⟩
   have hn := hno.chg hc1 hpl
   have HC := Lib.hid (hC.out.trans hc1)
   clear hc1 hno hcell
   have c1 := noB_put hn (.slice (some ⟨g, 0, none⟩) 128 128)
   go_wp2_with fail
   refine (c1).mono ?_
   rintro e w' ⟨rfl, rfl⟩
   clear c1
   have c1 := noB_read hn a0
   go_wp2_with fail
   refine (c1).mono ?_
   rintro e w' ⟨rfl, rfl⟩
   clear c1
   have c1 := noB_over hn a0 (.slice none 0 0)
   go_wp2_with fail
   refine (c1).mono ?_
   rintro e w' ⟨rfl, rfl⟩
   clear c1
   have c1 := noB_up hn a0
   go_wp2_with fail
   refine (c1).mono ?_
   rintro e w' ⟨rfl, rfl⟩
   clear c1
   have c1 := noB_down hn a0
   go_wp2_with fail
   refine (c1).mono ?_
   rintro e w' ⟨rfl, rfl⟩
   clear c1
   have c1 := noB_setRoot hn 2 a0
   go_wp2_with fail
   refine (c1).mono ?_
   rintro e w' ⟨rfl, rfl⟩
   clear c1
   have c1 := noB_setMark hn a0 1
   go_wp2_with fail
   refine (c1).mono ?_
   rintro e w' ⟨rfl, rfl⟩
   clear c1
   have c1 := noB_commit hn
   go_wp2_with fail
   refine (c1).mono ?_
   rintro e w' ⟨rfl, rfl⟩
   clear c1
   have c1 := noB_back hn
   go_wp2_with fail
   refine (c1).mono ?_
   rintro e w' ⟨rfl, rfl⟩
   clear c1
   have c1 := noB_fresh hn a0
   go_wp2_with fail
   refine (c1).mono ?_
   rintro e w' ⟨rfl, rfl⟩
   clear c1
   have c1 := noB_broken hn
   go_wp2_with fail
   refine (c1).mono ?_
   rintro e w' ⟨rfl, rfl⟩
   clear c1
   have c1 := noB_gen hn
   go_wp2_with fail
   refine (c1).mono ?_
   rintro e w' ⟨rfl, rfl⟩
   clear c1
   have c1 := noB_blocks hn
   go_wp2_with fail
   refine (c1).mono ?_
   rintro e w' ⟨rfl, rfl⟩
   clear c1
   have c1 := noB_root hn a0
   go_wp2_with fail
   refine (c1).mono ?_
   rintro e w' ⟨rfl, rfl⟩
   clear c1
   have c1 := noB_count hn a0
   go_wp2_with fail
   refine (c1).mono ?_
   rintro e w' ⟨rfl, rfl⟩
   clear c1
   have c1 := noB_room hn
   go_wp2_with fail
   refine (c1).mono ?_
   rintro e w' ⟨rfl, rfl⟩
   clear c1
   have c1 := noB_waits hn
   go_wp2_with fail
   refine (c1).mono ?_
   rintro e w' ⟨rfl, rfl⟩
   clear c1
   have c1 := noB_mark hn a0
   go_wp2_with fail
   refine (c1).mono ?_
   rintro e w' ⟨rfl, rfl⟩
   clear c1
   go_wp2_with fail
   go_roundw
   case rel => exact ⟨k + 1, by go_num, by omega, HC⟩
   case measure => simp [intOf]; omega
  ·obtain rfl : k = 2 := by omega
   have cd := dNew_at (w := wr) (n := 20) (by omega) (by omega)
   change Calls _ _ #[.int .i64 20] wr _ at cd
   go_wp2_with fail
   refine cd.mono ?_
   clear cd
   rintro e w1 ⟨rfl, hd, hc1⟩
   obtain ⟨dp, hdp⟩ : ∃ dp, dp = wr.heap.size + 1 := ⟨_, rfl⟩
   obtain ⟨bb, hbb⟩ : ∃ bb, bb = wr.heap.size := ⟨_, rfl⟩
   rw [← hdp, ← hbb] at hd
   rw [← hdp]
   have HN : Hid (w.heap.size ≤ bb ∧ w.heap.size ≤ dp) := Lib.hid (by have h1 := HB.out.2; have h2 := hC.out.size; omega)
   have H1 := Lib.hid (And.intro hd ((HB.out.1.trans hC.out).trans hc1))
   clear hd hc1 hdp hbb
   have co := baOpen_none H1.out.1.rd (by show 2 ≤ 20; omega) (by show (0 : Nat) ≠ 6; omega) (by show (0 : Nat) ≠ 6; omega)
   go_wp2_with fail
   refine co.mono ?_
   clear co
   rintro e w2 ⟨rfl, hc2⟩
   have hd2 := H1.out.1.chg hc2 (by simp) (by simp) (fun k hk => by cases hk)
   have H2 := Lib.hid (And.intro hd2 (H1.out.2.trans hc2))
   clear hd2 hc2 H1
   have cx := block11_heap w2 hx
   go_wp2_with fail
   refine cx.mono ?_
   clear cx
   rintro e w3 ⟨gx, rfl, gx1, gx2, hc3⟩
   have hd3 := H2.out.1.chg hc3 (by simp) (by simp) (fun k hk => by cases hk)
   have H3 := Lib.hid (And.intro hd3 (And.intro (H2.out.2.trans hc3) (And.intro gx2 gx1)))
   have HS2 := Lib.hid H2.out.1.lt
   clear hd3 hc3 gx1 gx2
   have cy := block11_heap w3 hy
   go_wp2_with fail
   refine cy.mono ?_
   clear cy
   rintro e w4 ⟨gy, rfl, gy1, gy2, hc4⟩
   have hd4 := H3.out.1.chg hc4 (by simp) (by simp) (fun k hk => by cases hk)
   have hgx4 := (hc4.block gx (heap_lt H3.out.2.2.1) (by simp)).trans H3.out.2.2.1
   have hne : gx ≠ gy := by have := heap_lt H3.out.2.2.1; omega
   have hgl : w.heap.size ≤ gx ∧ w.heap.size ≤ gy ∧ dp ≠ gx ∧ dp ≠ gy ∧ bb ≠ gx ∧ bb ≠ gy := by
    have h1 := H2.out.2.size
    have h2 := HS2.out
    have h3 := H3.out.2.2.2
    have h4 := H3.out.2.1.size
    have h5 := heap_lt H3.out.2.2.1
    omega
   have kx := cell_of_block hgx4 0
   have ky := cell_of_block gy2 0
   rw [u8s_get (by omega)] at kx ky
   have fx := frozen_of_block hgx4 0
   have fy := frozen_of_block gy2 0
   have sx := heap_lt hgx4
   have sy := heap_lt gy2
   have e1 := setCell_block hgx4 0 (.int .u8 ((0 : Nat) : Int))
   rw [u8s_set (by omega)] at e1
   have e2 := (setCell_other (w := w4.setCell ⟨gx, 0, none⟩ (.int .u8 ((0 : Nat) : Int))) (b := gy) (k := gx) 0 (.int .u8 ((99 : Nat) : Int)) hne).trans e1
   have e3 := (setCell_other (w := w4) (b := gx) (k := gy) 0 (.int .u8 ((0 : Nat) : Int)) (fun e => hne e.symm)).trans gy2
   have e4 := setCell_block e3 0 (.int .u8 ((99 : Nat) : Int))
   rw [u8s_set (by omega)] at e4
   have hcs : Chg [gx, gy] w4 ((w4.setCell ⟨gx, 0, none⟩ (.int .u8 ((0 : Nat) : Int))).setCell ⟨gy, 0, none⟩ (.int .u8 ((99 : Nat) : Int))) := ((Chg.refl _ _).setCell (.inl (by simp)) _).setCell (.inl (by simp)) _
   have H4 := Lib.hid (And.intro (hd4.chg hcs (by simp [hgl]) (by simp [hgl]) (fun k hk => by cases hk)) (And.intro (((H3.out.2.1).trans hc4).then hcs (fun q hq => by simp only [List.mem_cons, List.not_mem_nil, or_false] at hq; rcases hq with rfl | rfl; exact .inr hgl.1; exact .inr hgl.2.1)) (And.intro e2 e4)))
   have HGL := Lib.hid hgl
   clear hd4 hc4 hcs e1 e2 e3 e4 hgl hgx4 gy1 gy2 H3 H2 HS2
   obtain ⟨W5, hW5⟩ : ∃ W5, W5 = (w4.setCell ⟨gx, 0, none⟩ (.int .u8 0)).setCell ⟨gy, 0, none⟩ (.int .u8 99) := ⟨_, rfl⟩
   have h5 : DiskAt W5 dp bb (.slice none 0 0) ⟨20, fun _ _ => 0, []⟩ ∧ Chg [] w W5 ∧ W5.heap[gx]? = some (.cells (u8s 128 fun j => if j = 0 then 0 else blkF x j) 5 (0, 0)) ∧ W5.heap[gy]? = some (.cells (u8s 128 fun j => if j = 0 then 99 else blkF y j) 5 (0, 0)) := by
    rw [hW5]; exact H4.out
   have HW5 := Lib.hid hW5
   have H5 := Lib.hid h5
   clear H4 h5
   go_upto_region 15 with fail
   rw [← HW5.out]
   clear HW5 hW5 kx ky fx fy sx sy
   have bx : BytesAt W5 gx 0 128 (fun j => if j = 0 then 0 else blkF x j) := (BytesAt.of_block (off := 0) (n := 128) H5.out.2.2.1 (fun i _ => by split; omega; exact blkF_le x i) (by omega)).to (fun i _ => by rw [Nat.zero_add])
   have by' : BytesAt W5 gy 0 128 (fun j => if j = 0 then 99 else blkF y j) := (BytesAt.of_block (off := 0) (n := 128) H5.out.2.2.2 (fun i _ => by split; omega; exact blkF_le y i) (by omega)).to (fun i _ => by rw [Nat.zero_add])
   have cw := dWrite_at (at' := 0) (cap := 128) H5.out.1 (by show 0 < 20; omega) bx (by omega) (by simp)
   change Calls _ _ #[_, .int .i64 0, _] W5 _ at cw
   have CW := Lib.hid cw
   have BY := Lib.hid by'
   clear cw bx by'
   go_wp2_with fail
   refine CW.out.mono ?_
   clear CW
   rintro e w6 ⟨rfl, wv, hd6, hwv, hcg⟩
   have hc6 := hcg [dp] (by simp) (fun g hg => by cases hg)
   have by6 := BY.out.chg hc6 (by have := HGL.out; simp only [List.mem_singleton]; exact fun e => this.2.2.2.1 e.symm)
   have cw := dWrite_at (at' := 1) (cap := 128) hd6 (by show 1 < 20; omega) by6 (by omega) (by simp)
   change Calls _ _ #[_, .int .i64 1, _] w6 _ at cw
   have H6 := Lib.hid (H5.out.2.1.then hc6 (fun q hq => by simp only [List.mem_singleton] at hq; subst hq; exact .inr HN.out.2))
   have HWV := Lib.hid (fun g (hg : wv.ownBlock = some g) => (show w.heap.size ≤ g from by
    rcases hwv g hg with h | h
    ·cases h
    ·exact Nat.le_trans H5.out.2.1.size h))
   have CW := Lib.hid cw
   clear cw by6 BY hc6 hcg hwv hd6 H5
   go_wp2_with fail
   refine CW.out.mono ?_
   clear CW
   rintro e w7 ⟨rfl, wv', hd7, -, hcg⟩
   have hc7 := hcg (dp :: ownL wv) (by simp) (fun g hg => List.mem_cons_of_mem _ (mem_ownL.2 hg))
   have co := baOpen_none hd7.rd (by show 2 ≤ 20; omega) (by show (0 : Nat) ≠ 6; omega) (by show (99 : Nat) ≠ 6; omega)
   have H7 := Lib.hid (H6.out.then hc7 (fun q hq => by
    rcases List.mem_cons.1 hq with rfl | hq
    ·exact .inr HN.out.2
    ·exact .inr (HWV.out q (mem_ownL.1 hq))))
   have CO := Lib.hid co
   clear hcg hc7 hd7 H6 co
   go_wp2_with fail
   refine CO.out.mono ?_
   clear CO
   rintro e w8 ⟨rfl, hc8⟩
   have H8 := Lib.hid (H7.out.trans hc8)
   clear hc8 H7
   have c1 := baOpen_nil w8
   go_wp2_with fail
   refine (c1).mono ?_
   rintro e w' ⟨rfl, rfl⟩
   have c2 := baFormat_nil w8
   go_wp2_with fail
   refine (c2).mono ?_
   rintro e w' ⟨rfl, rfl⟩
   clear c1 c2
   go_wp2_with fail
   refine (HAW.out w8).mono ?_
   rintro e w9 ⟨rfl, hc9⟩
   have HC9 := Lib.hid (H8.out.trans hc9)
   clear hc9
   go_wp2_with fail
   go_ret
   exact ⟨rfl, HC9.out.below (by simp)⟩
end Go.Proofs.YtkhcaclndepgbaaGreat
