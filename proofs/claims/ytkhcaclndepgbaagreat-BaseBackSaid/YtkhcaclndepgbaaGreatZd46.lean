/- catchmentlaw11.BaseBack: the walk. -/
import Derived.Test.YtkhcaclndepgbaaGreatZd45
import Derived.Test.YtkhcaclndepgbaaGreatZd42
import Derived.Deep.LoopGhost
set_option linter.unusedVariables false
set_option linter.unusedSimpArgs false
set_option maxRecDepth 100000
set_option maxHeartbeats 20000000
namespace Go.Proofs.YtkhcaclndepgbaaGreat
open Go.RowKit
theorem baseBack_walk (b0 : Int) (a1 : Option Addr) (len1 cap1 : Nat) (z1 : Nat → Op1) (a2 : Option Addr) (len2 cap2 : Nat) (z2 : Nat → Op1) (w : World) (h0 : (Lit.int .u8 b0).wf = true) (h11 : IsOps1 w a1 len1 cap1 z1) (h21 : IsOps1 w a2 len2 cap2 z2) :
  Calls Tryz.prog 6 #[.int .u8 b0, .slice a1 len1 cap1, .slice a2 len2 cap2] w fun e w' => e = .returned (.bool true) ∧ Below w.heap.size w w' := by
 obtain ⟨x, rfl, hx⟩ : ∃ x : Nat, b0 = (x : Int) ∧ x ≤ 255 := by
  have := bd_u8 h0
  exact ⟨b0.toNat, by omega, by omega⟩
 obtain ⟨N, hN⟩ : ∃ N, N = 16 + x % 200 := ⟨_, rfl⟩
 have hN1 : 16 ≤ N ∧ N ≤ 215 := by omega
 have cf := formatted_at (F := []) w hx (noF w)
 rw [← hN] at cf
 have CF := Lib.hid cf
 have HO1 := Lib.hid h11
 have Hnil1 := Lib.hid h11.2.2.1
 have hlc1 := h11.1
 have hlm1 : cap1 ≤ 9223372036854775807 := by have := h11.2.1; unfold maxLen at this; omega
 have HO2 := Lib.hid h21
 have Hnil2 := Lib.hid h21.2.2.1
 have hlc2 := h21.1
 have hlm2 : cap2 ≤ 9223372036854775807 := by have := h21.2.1; unfold maxLen at this; omega
 have HAW := Lib.hid awake11_at
 clear h0 hN cf h11 h21
 go_enter Tryz.func6, Tryz.ntmps6
 go_wp2_with fail
 refine CF.out.mono ?_
 clear CF
 rintro e w1 ⟨M, rfl, hb0, hc1, hM⟩
 have HM := Lib.hid hM
 have HV1 := Lib.hid (Nv.start ⟨by omega, by omega⟩ hb0 hc1)
 have HSZ := Lib.hid hc1.size
 have mk1 := run_makeMap (P := Tryz.prog) 68 w1
 have mk2 := run_makeMap (P := Tryz.prog) 69 (w1.alloc (.map #[] 0))
 clear hb0 hc1 hM
 go_upto_region 5 with (first
  | (refine wpList_built rfl 72 _ rfl (ps := _) ?hp (built_none w1.heap.size) ?hk; case hp => (simp [Act.eval, Act.put]))
  | (refine wpList_storeRow (t := 72) (T := 72) (b := w1.heap.size + 2) (o := 0) (n := 18) (N := 18) (V := zState) (U := St.zero.v w1.heap.size (w1.heap.size + 1)) rfl (.tmp 10) (.tmp 29) rfl rfl rfl (by rw [zState_row]; have := new_block ((w1.alloc (.map #[] 0)).alloc (.map #[] 0)) (.cells #[.map none, .map none, .int .i64 0, .int .i64 0, .int .i64 0, .int .i64 0, .int .i64 0, .int .i64 0, .int .i64 0, .int .i64 0, .int .u64 0, .int .u64 0, .int .u64 0, .int .u64 0, .int .u64 0, .int .u64 0, .int .u64 0, .int .u64 0] 72); simpa using this) (by omega) infoState (fun i _ => St.one _ _ _ i) ?_; intro w5 hr5 hc5; have H5 := Lib.hid (And.intro hr5 hc5); clear hr5 hc5))
 clear mk1 mk2
 obtain ⟨sb, hsb⟩ : ∃ sb, sb = w1.heap.size + 2 := ⟨_, rfl⟩
 have e2 : w1.heap.size + 1 + 1 = w1.heap.size + 2 := by omega
 go_frame
 try rw [e2]
 rw [← hsb]
 rw [← hsb] at H5
 clear e2
 have hvz := HV1.out.alloc (.cells #[.map none, .map none, .int .i64 0, .int .i64 0, .int .i64 0, .int .i64 0, .int .i64 0, .int .i64 0, .int .i64 0, .int .i64 0, .int .u64 0, .int .u64 0, .int .u64 0, .int .u64 0, .int .u64 0, .int .u64 0, .int .u64 0, .int .u64 0] 72)
 rw [show ((w1.alloc (.map #[] 0)).alloc (.map #[] 0)).heap.size = sb from by rw [size_alloc', size_alloc', hsb]] at hvz
 have HB : Hid (Nb w w5 M [sb] N 1 0 sb w1.heap.size (w1.heap.size + 1) St.zero (Bs.fmt N)) := Lib.hid (Nb.stored hvz ⟨by simp, by have := HSZ.out; omega⟩ (by omega) (by omega) H5.out.1 H5.out.2)
 clear hvz HV1 H5 hsb
 generalize w1.heap.size + 1 = md0 at HB
 generalize w1.heap.size = mc0 at HB
 go_upto_region 5 with fail
 go_cut [34, 35, 36] (fun s l i wx => ∃ m : Nat, m ≤ 20 ∧ m ≤ len1 ∧ s = .slice a1 m cap1 ∧ l = .int .i64 (m : Int) ∧ i = .int .i64 0 ∧ wx = w5)
 case first =>
  have h60 : 20 < len1 ∨ len1 ≤ 20 := by omega
  rcases h60 with h60 | h60
  ·go_wp2_with fail
   go_meet
   exact ⟨20, by omega, by omega, by congr 1; omega, by congr 1; omega, rfl, rfl⟩
  ·cases a1 with
   | none =>
    obtain ⟨rfl, rfl⟩ := Hnil1.out rfl
    go_wp2_with fail
    go_meet
    exact ⟨0, by omega, by omega, rfl, rfl, rfl, rfl⟩
   | some a1 =>
    go_wp2_with fail
    go_meet
    exact ⟨len1, by omega, by omega, by congr 1; omega, by congr 1; omega, rfl, rfl⟩
 case rest =>
  obtain ⟨m, hm1, hm2, rfl, rfl, rfl, hwc⟩ := hcut
  obtain rfl : wc = w5 := hwc
  go_wp2_with fail
  go_loopg [36] m (fun gg s wr => ∃ (j mc md : Nat) (S : St) (B : Bs), j ≤ m ∧ gg = m - j ∧ s = .int .i64 (j : Int) ∧ Hid (Nb w wr M [sb] N 1 j sb mc md S B))
  case atStart => exact ⟨0, _, _, _, _, Nat.zero_le _, rfl, rfl, HB⟩
  case round =>
   obtain ⟨j, mc, md, S, B, hj, hgg, rfl, H⟩ := hrel
   have Hgg := Lib.hid hgg
   clear hgg HB
   by_cases hjm : j < m
   ·have i0 : (j : Int) < (m : Int) := by omega
    obtain ⟨yb, yo, rfl, hop⟩ := HO1.out.get H.out.v.c (i := j) (by omega)
    generalize z1 j = o at *
    obtain ⟨d, at', x2⟩ := o
    obtain ⟨k0, k1, k2, hok⟩ := hop
    have k0' : wr.cell? ⟨yb, yo + j * 3, none⟩ = some (.int .u8 (d : Int)) := k0
    have k1' : wr.cell? ⟨yb, yo + j * 3 + 1, none⟩ = some (.int .i64 at') := k1
    have k2' : wr.cell? ⟨yb, yo + j * 3 + 2, none⟩ = some (.int .u16 (x2 : Int)) := k2
    have HOK := Lib.hid hok
    have hW := (Chg.refl [] wr).alloc (.cells #[.int .u8 (d : Int), .int .i64 at', .int .u16 (x2 : Int)] 74)
    have H6 := Lib.hid (H.out.chg hW)
    have HOB := Lib.hid (new_block wr (.cells #[.int .u8 (d : Int), .int .i64 at', .int .u16 (x2 : Int)] 74))
    clear hW k0 k1 k2 hok
    go_upto_region 8 with fail
    generalize wr.alloc (.cells #[.int .u8 (d : Int), .int .i64 at', .int .u16 (x2 : Int)] 74) = wb at *
    have ob := HOB.out
    have o0 := cell_of_block ob 0
    have o1 := cell_of_block ob 1
    have o2 := cell_of_block ob 2
    simp only [List.getElem?_toArray, List.getElem?_cons_zero, List.getElem?_cons_succ] at o0 o1 o2
    clear ob k0' k1' k2'
    have cd := H6.out.v.done HM.out (by omega) HOK.out.code HOK.out.n HOK.out.at'
    have CD := Lib.hid cd
    clear cd
    go_wp2_with (refine wpList_loadV rfl (.tmp 10) rfl Tryz.underlying72 rfl infoState rfl (rowCells H6.out.s) ?_)
    refine CD.out.mono ?_
    clear CD
    rintro e w7 ⟨mc2, md2, S2, B2, rfl, hv2, kb2, hg1, hg2, hc7⟩
    have H7 := Lib.hid (And.intro hv2 (And.intro kb2 (And.intro (H6.out.box hc7) (And.intro (show mc2 ≠ sb from by have := heap_lt H6.out.s; omega) (show md2 ≠ sb from by have := heap_lt H6.out.s; omega)))))
    clear hv2 kb2 hg1 hg2 hc7 o0 o1 o2
    go_upto_region 11 with (refine wpList_storeRow (t := 72) (T := 72) (b := sb) (o := 0) (n := 18) (N := 18) (V := S.v mc md) (U := S2.v mc2 md2) rfl (.tmp 10) (.tmp 45) rfl rfl rfl H7.out.2.2.1 (by omega) infoState (fun i _ => St.one _ _ _ i) ?_; intro w8 hr8 hc8; have H8h := Lib.hid (And.intro hr8 hc8); clear hr8 hc8)
    have H8 := Lib.hid (Nb.stored H7.out.1 ⟨H.out.ne.1, H.out.ne.2.1⟩ H7.out.2.2.2.1 H7.out.2.2.2.2 H8h.out.1 H8h.out.2)
    have HKB := Lib.hid H7.out.2.1
    clear H8h H7 H6
    go_wp2_with fail
    go_roundg (m - (j + 1))
    case measure => have := Hgg.out; omega
    case rel => exact ⟨j + 1, _, _, _, _, by omega, rfl, by go_num, H8⟩
   ·obtain rfl : j = m := by omega
    have i0 : ¬ (j : Int) < (j : Int) := by omega
    have NM := Lib.hid H.out.v.nm
    have hK20 : j ≤ 20 := hm1
    have cc := H.out.v.commit HM.out (by omega)
    have HCM := Lib.hid (H.out.v.g.commit_ (show 1 < 9223372036854775808 by omega))
    have CC := Lib.hid cc
    clear cc
    go_wp2_with fail
    refine CC.out.mono ?_
    clear CC
    rintro e w6 ⟨rfl, hv6, hc6⟩
    have H6 := Lib.hid (Nb.mk hv6 (H.out.box hc6) H.out.ne)
    have ci := hv6.is HCM.out.waits
    have CI := Lib.hid ci
    clear ci hv6 hc6
    generalize B.commit = B1 at *
    go_wp2_with (refine wpList_loadState (.tmp 10) rfl rfl sb rfl H6.out.s ?_)
    refine CI.out.mono ?_
    clear CI
    rintro e w7 ⟨rfl, hc7⟩
    have H7 := Lib.hid (H6.out.chg hc7)
    clear hc7
    have cC := copied_at H7.out.v.m (by omega)
    have CC := Lib.hid cC
    clear cC H6
    go_wp2_with (refine wpList_loadV rfl (.tmp 10) rfl Tryz.underlying72 rfl infoState rfl (rowCells H7.out.s) ?_)
    refine CC.out.mono ?_
    clear CC
    rintro e w8 ⟨mc1, md1, rfl, hs8, hg1, hg2, hc8⟩
    have hv8 := H7.out.v.copy hc8 hs8 hg1 hg2
    have H8 := Lib.hid (H7.out.chg hc8)
    have hvz := hv8.alloc (.cells #[.map none, .map none, .int .i64 0, .int .i64 0, .int .i64 0, .int .i64 0, .int .i64 0, .int .i64 0, .int .i64 0, .int .i64 0, .int .u64 0, .int .u64 0, .int .u64 0, .int .u64 0, .int .u64 0, .int .u64 0, .int .u64 0, .int .u64 0] 72)
    obtain ⟨nb, hnb⟩ : ∃ nb, nb = w8.heap.size := ⟨_, rfl⟩
    have hn8 := new_block w8 (.cells #[.map none, .map none, .int .i64 0, .int .i64 0, .int .i64 0, .int .i64 0, .int .i64 0, .int .i64 0, .int .i64 0, .int .i64 0, .int .u64 0, .int .u64 0, .int .u64 0, .int .u64 0, .int .u64 0, .int .u64 0, .int .u64 0, .int .u64 0] 72)
    have h8s := (H8.out.chg ((Chg.refl [] w8).alloc (.cells #[.map none, .map none, .int .i64 0, .int .i64 0, .int .i64 0, .int .i64 0, .int .i64 0, .int .i64 0, .int .i64 0, .int .i64 0, .int .u64 0, .int .u64 0, .int .u64 0, .int .u64 0, .int .u64 0, .int .u64 0, .int .u64 0, .int .u64 0] 72))).s
    have h8m := (H8.out.chg ((Chg.refl [] w8).alloc (.cells #[.map none, .map none, .int .i64 0, .int .i64 0, .int .i64 0, .int .i64 0, .int .i64 0, .int .i64 0, .int .i64 0, .int .i64 0, .int .u64 0, .int .u64 0, .int .u64 0, .int .u64 0, .int .u64 0, .int .u64 0, .int .u64 0, .int .u64 0] 72))).v.m
    rw [← hnb] at hvz hn8
    have HZ := Lib.hid (And.intro hvz (And.intro (hn8.trans (show _ = some (Obj.cells (fnRow 18 zState) 72 (0, 0)) from by rw [zState_row])) (And.intro h8s h8m)))
    have NE := Lib.hid (show nb ≠ sb ∧ nb ≠ mc ∧ nb ≠ md ∧ mc1 ≠ nb ∧ md1 ≠ nb ∧ w.heap.size ≤ nb from by
     have h1 := heap_lt H8.out.s; have h2 := H8.out.v.m.c.lt; have h3 := H8.out.v.m.d.lt; have h4 := hs8.c.lt; have h5 := hs8.d.lt; have h6 := H8.out.v.c.size; omega)
    clear hs8 hg1 hg2 hc8 hv8 hvz hn8 h8s h8m H7 H8
    go_upto_region 15 with (refine wpList_storeRow (t := 72) (T := 72) (b := nb) (o := 0) (n := 18) (N := 18) (V := zState) (U := S.v mc1 md1) rfl (.tmp 13) (.tmp 60) rfl (by simp [Act.eval, Act.put, hnb]) rfl HZ.out.2.1 (by omega) infoState (fun i _ => St.one _ _ _ i) ?_; intro w9 hr9 hc9; have H9h := Lib.hid (And.intro hr9 hc9); clear hr9 hc9)
    go_frame
    rw [← hnb]
    have HN : Hid (Nb w w9 M [nb, sb] N 2 (20 + 0) nb mc1 md1 S B1 ∧ KeptB B1 B1 ∧ w9.heap[sb]? = some (.cells (fnRow 18 (S.v mc md)) 72 (0, 0)) ∧ StAt w9 N mc md S) := Lib.hid ⟨(Nb.stored HZ.out.1 ⟨by simp, NE.out.2.2.2.2.2⟩ NE.out.2.2.2.1 NE.out.2.2.2.2.1 H9h.out.1 H9h.out.2).mono (by omega) (by omega), KeptB.rfl' B1, (H9h.out.2.block sb (heap_lt HZ.out.2.2.1) (by simp; exact fun q => NE.out.1 q.symm)).trans HZ.out.2.2.1, HZ.out.2.2.2.chg H9h.out.2 (by simp; exact fun q => NE.out.2.1 q.symm) (by simp; exact fun q => NE.out.2.2.1 q.symm)⟩
    have HMK := Lib.hid H.out.v.ml
    have HRS := Lib.hid (H.out.v.r.commit HCM.out)
    clear hnb HZ H9h H
    go_upto_region 15 with fail
    go_cut [65, 66, 67] (fun s l i wx => ∃ m : Nat, m ≤ 20 ∧ m ≤ len2 ∧ s = .slice a2 m cap2 ∧ l = .int .i64 (m : Int) ∧ i = .int .i64 0 ∧ wx = w9)
    case first =>
     have h60 : 20 < len2 ∨ len2 ≤ 20 := by omega
     rcases h60 with h60 | h60
     ·go_wp2_with fail
      go_meet
      exact ⟨20, by omega, by omega, by congr 1; omega, by congr 1; omega, rfl, rfl⟩
     ·cases a2 with
      | none =>
       obtain ⟨rfl, rfl⟩ := Hnil2.out rfl
       go_wp2_with fail
       go_meet
       exact ⟨0, by omega, by omega, rfl, rfl, rfl, rfl⟩
      | some a2 =>
       go_wp2_with fail
       go_meet
       exact ⟨len2, by omega, by omega, by congr 1; omega, by congr 1; omega, rfl, rfl⟩
    case rest =>
     obtain ⟨m2, hm1', hm2', rfl, rfl, rfl, hwc⟩ := hcut
     obtain rfl : wc = w9 := hwc
     go_wp2_with fail
     go_loopg [67] m2 (fun gg s wr => ∃ (j2 mc2 md2 : Nat) (S2 : St) (B2 : Bs), j2 ≤ m2 ∧ gg = m2 - j2 ∧ s = .int .i64 (j2 : Int) ∧ Hid (Nb w wr M [nb, sb] N 2 (20 + j2) nb mc2 md2 S2 B2 ∧ KeptB B1 B2 ∧ wr.heap[sb]? = some (.cells (fnRow 18 (S.v mc md)) 72 (0, 0)) ∧ StAt wr N mc md S))
     case atStart => exact ⟨0, _, _, _, _, Nat.zero_le _, rfl, rfl, HN⟩
     case round =>
      obtain ⟨j2, mc2, md2, S2, B2, hj2, hgg, rfl, H⟩ := hrel
      have Hgg := Lib.hid hgg
      clear hgg HN
      by_cases hjm2 : j2 < m2
      ·have i1 : (j2 : Int) < (m2 : Int) := by omega
       have H1 := Lib.hid H.out.1
       obtain ⟨yb, yo, rfl, hop⟩ := HO2.out.get H1.out.v.c (i := j2) (by omega)
       generalize z2 j2 = o at *
       obtain ⟨d, at', x2⟩ := o
       obtain ⟨k0, k1, k2, hok⟩ := hop
       have k0' : wr.cell? ⟨yb, yo + j2 * 3, none⟩ = some (.int .u8 (d : Int)) := k0
       have k1' : wr.cell? ⟨yb, yo + j2 * 3 + 1, none⟩ = some (.int .i64 at') := k1
       have k2' : wr.cell? ⟨yb, yo + j2 * 3 + 2, none⟩ = some (.int .u16 (x2 : Int)) := k2
       have HOK := Lib.hid hok
       have hW := (Chg.refl [] wr).alloc (.cells #[.int .u8 (d : Int), .int .i64 at', .int .u16 (x2 : Int)] 74)
       have H6 := Lib.hid (H1.out.chg hW)
       have HOB := Lib.hid (new_block wr (.cells #[.int .u8 (d : Int), .int .i64 at', .int .u16 (x2 : Int)] 74))
       have HKW := Lib.hid (And.intro ((hW.block sb (heap_lt H.out.2.2.1) (by simp)).trans H.out.2.2.1) (H.out.2.2.2.chg hW (by simp) (by simp)))
       clear hW k0 k1 k2 hok
       go_upto_region 18 with fail
       generalize wr.alloc (.cells #[.int .u8 (d : Int), .int .i64 at', .int .u16 (x2 : Int)] 74) = wb at *
       have ob := HOB.out
       have o0 := cell_of_block ob 0
       have o1 := cell_of_block ob 1
       have o2 := cell_of_block ob 2
       simp only [List.getElem?_toArray, List.getElem?_cons_zero, List.getElem?_cons_succ] at o0 o1 o2
       clear ob k0' k1' k2'
       have cd := H6.out.v.done HM.out (by omega) HOK.out.code HOK.out.n HOK.out.at'
       have CD := Lib.hid cd
       clear cd
       go_wp2_with (refine wpList_loadV rfl (.tmp 13) rfl Tryz.underlying72 rfl infoState rfl (rowCells H6.out.s) ?_)
       refine CD.out.mono ?_
       clear CD
       rintro e w7 ⟨mc3, md3, S3, B3, rfl, hv2, kb2, hg1, hg2, hc7⟩
       have H7 := Lib.hid (And.intro hv2 (And.intro kb2 (And.intro (H6.out.box hc7) (And.intro (show mc3 ≠ nb from by have := heap_lt H6.out.s; omega) (show md3 ≠ nb from by have := heap_lt H6.out.s; omega)))))
       have HKP := Lib.hid (And.intro ((hc7.block sb (heap_lt HKW.out.1) (H.out.1.v.b.notL (by simp))).trans HKW.out.1) (HKW.out.2.chg hc7 NM.out.1 NM.out.2))
       clear hv2 kb2 hg1 hg2 hc7 o0 o1 o2
       go_upto_region 21 with (refine wpList_storeRow (t := 72) (T := 72) (b := nb) (o := 0) (n := 18) (N := 18) (V := S2.v mc2 md2) (U := S3.v mc3 md3) rfl (.tmp 13) (.tmp 76) rfl rfl rfl H7.out.2.2.1 (by omega) infoState (fun i _ => St.one _ _ _ i) ?_; intro w8 hr8 hc8; have H8h := Lib.hid (And.intro hr8 hc8); clear hr8 hc8)
       have H8 := Lib.hid (Nb.stored H7.out.1 ⟨H1.out.ne.1, H1.out.ne.2.1⟩ H7.out.2.2.2.1 H7.out.2.2.2.2 H8h.out.1 H8h.out.2)
       have HKB := Lib.hid H7.out.2.1
       have HH8 := H8h
       clear H7 H6
       have HKS := Lib.hid (And.intro ((HH8.out.2.block sb (heap_lt HKP.out.1) (by simp; exact fun q => NE.out.1 q.symm)).trans HKP.out.1) (HKP.out.2.chg HH8.out.2 (by simp; exact fun q => NE.out.2.1 q.symm) (by simp; exact fun q => NE.out.2.2.1 q.symm)))
       go_wp2_with fail
       go_roundg (m2 - (j2 + 1))
       case measure => have := Hgg.out; omega
       case rel => exact ⟨j2 + 1, _, _, _, _, by omega, rfl, by go_num, Lib.hid ⟨H8.out, H.out.2.1.trans HKB.out, HKS.out.1, HKS.out.2⟩⟩
      ·obtain rfl : j2 = m2 := by omega
       have i1 : ¬ (j2 : Int) < (j2 : Int) := by omega
       have cg := H.out.1.v.b.cGen
       have cb := bBack_at H.out.1.v.b H.out.1.v.f
       have CB := Lib.hid cb
       clear cb
       go_wp2_with fail
       refine (cg).mono ?_
       rintro e w' ⟨rfl, rfl⟩
       clear cg
       go_wp2_with fail
       refine CB.out.mono ?_
       clear CB
       rintro e w3 ⟨rfl, hb3, hc3⟩
       have hsr := HRS.out.back HCM.out H.out.2.1
       have hm3 := H.out.2.2.2.chg hc3 NM.out.1 NM.out.2
       have hs3 := (hc3.block sb (heap_lt H.out.2.2.1) (H.out.1.v.b.notL (by simp))).trans H.out.2.2.1
       have hg3 := H.out.1.v.g.back_
       have ci := is11_at hb3 hg3 hm3 hsr.1 hsr.2 HMK.out
       have H3 := Lib.hid (And.intro hb3 (And.intro hm3 (And.intro hs3 (And.intro hg3 (H.out.1.v.c.then hc3 (fun q hq => .inr (HM.out q hq)))))))
       have HF3 := Lib.hid (fun q (hq : q ∈ [nb, sb]) => Nat.lt_of_lt_of_le (H.out.1.v.f q hq) hc3.size)
       have HSR := Lib.hid hsr
       have CI := Lib.hid ci
       clear hsr hm3 hs3 hg3 ci hb3 hc3
       go_wp2_with (refine wpList_loadState (.tmp 10) rfl rfl sb rfl H3.out.2.2.1 ?_)
       refine CI.out.mono ?_
       clear CI
       rintro e w4 ⟨rfl, hc4⟩
       have hb4 := H3.out.1.chg hc4 (by simp)
       have cw := hb4.cWaits
       rw [HSR.out.2] at cw
       have cw2 : Calls Tryz.prog 24 #[.pointer (some ⟨M.b, 0, none⟩)] w4 fun e w' => e = .returned (.int .i64 0) ∧ w4 = w' := cw
       have cc := bCommit_any hb4 (fun q hq => Nat.lt_of_lt_of_le (HF3.out q hq) hc4.size) H3.out.2.2.2.1 (show 2 < 9223372036854775808 by omega)
       rw [back_same] at cc
       have CC := Lib.hid cc
       have H4 := Lib.hid (And.intro hb4 (And.intro (H3.out.2.1.chg hc4 (by simp) (by simp)) (And.intro ((hc4.block sb (heap_lt H3.out.2.2.1) (by simp)).trans H3.out.2.2.1) (H3.out.2.2.2.2.trans hc4))))
       clear hb4 cw cc hc4
       go_wp2_with fail
       refine (cw2).mono ?_
       rintro e w' ⟨rfl, rfl⟩
       clear cw2
       go_wp2_with fail
       refine CC.out.mono ?_
       clear CC
       rintro e w5' ⟨rfl, hb5, hc5⟩
       have cg : Calls Tryz.prog 34 #[.pointer (some ⟨M.b, 0, none⟩)] w5' fun e w' => e = .returned (.int .u64 (B2.Kp.gen : Int)) ∧ w5' = w' := hb5.cGen
       have hm5 := H4.out.2.1.chg hc5 NM.out.1 NM.out.2
       have hs5 := (hc5.block sb (heap_lt H4.out.2.2.1) (H4.out.1.notL (by simp))).trans H4.out.2.2.1
       have H5' := Lib.hid (And.intro hb5 (And.intro hm5 (And.intro hs5 (H4.out.2.2.2.then hc5 (fun q hq => .inr (HM.out q hq))))))
       clear hb5 hc5 hm5 hs5
       go_wp2_with fail
       refine (cg).mono ?_
       rintro e w' ⟨rfl, rfl⟩
       clear cg
       obtain ⟨R6, hi6, -⟩ := H5'.out.1
       have cO := baOpen_at (B := B2.back) hi6.d.rd rfl (fun b _ i _ => rfl) H3.out.2.2.2.1.ok
       have HI := Lib.hid hi6
       have CO := Lib.hid cO
       clear hi6 cO
       go_wp2_with fail
       refine CO.out.mono ?_
       clear CO
       rintro e w9 ⟨M2, R2, rfl, hMd, hMbb, hbc, hc9, hnew⟩
       have hd9 := HI.out.d.chg hc9 (by simp) (by simp) (fun k hk => by cases hk)
       have hin : BaseIn w9 M2 R2 B2.back.open_ := ⟨hbc, by rw [hMd, hMbb]; exact hd9⟩
       have hb9 : BaseAt w9 M2 [] B2.back.open_ := ⟨R2, hin, fun q _ hq => by cases hq⟩
       have hm9 := H5'.out.2.1.chg hc9 (by simp) (by simp)
       have hs9 := (hc9.block sb (heap_lt H5'.out.2.2.1) (by simp)).trans H5'.out.2.2.1
       have ci := is11_at hb9 (Good.open_ H3.out.2.2.2.1) hm9 HSR.out.1.open_ HSR.out.2 HMK.out
       have CI := Lib.hid ci
       have H9 := Lib.hid (And.intro hb9 (And.intro hd9 (H5'.out.2.2.2.trans hc9)))
       have HS9 := Lib.hid hs9
       clear hMd hMbb hbc hc9 hnew hin hb9 hd9 hm9 hs9 ci
       go_wp2_with (refine wpList_loadState (.tmp 10) rfl rfl sb rfl HS9.out ?_)
       refine CI.out.mono ?_
       clear CI
       rintro e w10 ⟨rfl, hc10⟩
       have cg : Calls Tryz.prog 34 #[.pointer (some ⟨M2.b, 0, none⟩)] w10 fun e w' => e = .returned (.int .u64 (B2.Kp.gen : Int)) ∧ w10 = w' := (H9.out.1.chg hc10 (by simp)).cGen
       have cd := dCached_none ((H9.out.2.1.chg hc10 (by simp) (by simp) (fun k hk => by cases hk)).rd) rfl
       have H10 := Lib.hid (H9.out.2.2.trans hc10)
       clear hc10
       go_wp2_with fail
       refine (cg).mono ?_
       rintro e w' ⟨rfl, rfl⟩
       clear cg
       go_wp2_with fail
       refine (cd).mono ?_
       rintro e w' ⟨rfl, rfl⟩
       clear cd
       go_wp2_with fail
       refine (HAW.out w10).mono ?_
       rintro e w11 ⟨rfl, hc11⟩
       have HC8 := Lib.hid (H10.out.trans hc11)
       clear hc11
       go_wp2_with fail
       go_ret
       exact ⟨rfl, HC8.out.below (by simp)⟩
end Go.Proofs.YtkhcaclndepgbaaGreat
