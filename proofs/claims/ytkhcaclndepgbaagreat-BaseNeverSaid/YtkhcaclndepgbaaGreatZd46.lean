/- catchmentlaw11.BaseNever: the walk. -/
import Derived.Test.YtkhcaclndepgbaaGreatZd45
import Derived.Test.YtkhcaclndepgbaaGreatZd42
import Derived.Deep.LoopGhost
set_option linter.unusedVariables false
set_option linter.unusedSimpArgs false
set_option maxRecDepth 100000
set_option maxHeartbeats 20000000
namespace Go.Proofs.YtkhcaclndepgbaaGreat
open Go.RowKit
theorem baseNever_walk (b0 : Int) (a1 : Option Addr) (len1 cap1 : Nat) (z1 : Nat → Op1) (w : World) (h0 : (Lit.int .u8 b0).wf = true) (h11 : IsOps1 w a1 len1 cap1 z1) :
  Calls Tryz.prog 5 #[.int .u8 b0, .slice a1 len1 cap1] w fun e w' => e = .returned (.bool true) ∧ Below w.heap.size w w' := by
 obtain ⟨x, rfl, hx⟩ : ∃ x : Nat, b0 = (x : Int) ∧ x ≤ 255 := by
  have := bd_u8 h0
  exact ⟨b0.toNat, by omega, by omega⟩
 obtain ⟨N, hN⟩ : ∃ N, N = 16 + x % 200 := ⟨_, rfl⟩
 have hN1 : 16 ≤ N ∧ N ≤ 215 := by omega
 have cf := formatted_at (F := []) w hx (noF w)
 rw [← hN] at cf
 have CF := Lib.hid cf
 have HO1 := Lib.hid h11
 have Hnil1 := Lib.hid h11.2.2.1
 have hlc1 := h11.1
 have hlm1 : cap1 ≤ 9223372036854775807 := by have := h11.2.1; unfold maxLen at this; omega
 have HAW := Lib.hid awake11_at
 clear h0 hN cf h11
 go_enter Tryz.func5, Tryz.ntmps5
 go_wp2_with fail
 refine CF.out.mono ?_
 clear CF
 rintro e w1 ⟨M, rfl, hb0, hc1, hM⟩
 have HM := Lib.hid hM
 have HV1 := Lib.hid (Nv.start ⟨by omega, by omega⟩ hb0 hc1)
 have HSZ := Lib.hid hc1.size
 have mk1 := run_makeMap (P := Tryz.prog) 68 w1
 have mk2 := run_makeMap (P := Tryz.prog) 69 (w1.alloc (.map #[] 0))
 clear hb0 hc1 hM
 go_upto_region 5 with (first
  | (refine wpList_built rfl 72 _ rfl (ps := _) ?hp (built_none w1.heap.size) ?hk; case hp => (simp [Act.eval, Act.put]))
  | (refine wpList_storeRow (t := 72) (T := 72) (b := w1.heap.size + 2) (o := 0) (n := 18) (N := 18) (V := zState) (U := St.zero.v w1.heap.size (w1.heap.size + 1)) rfl (.tmp 8) (.tmp 30) rfl rfl rfl (by rw [zState_row]; have := new_block ((w1.alloc (.map #[] 0)).alloc (.map #[] 0)) (.cells #[.map none, .map none, .int .i64 0, .int .i64 0, .int .i64 0, .int .i64 0, .int .i64 0, .int .i64 0, .int .i64 0, .int .i64 0, .int .u64 0, .int .u64 0, .int .u64 0, .int .u64 0, .int .u64 0, .int .u64 0, .int .u64 0, .int .u64 0] 72); simpa using this) (by omega) infoState (fun i _ => St.one _ _ _ i) ?_; intro w5 hr5 hc5; have H5 := Lib.hid (And.intro hr5 hc5); clear hr5 hc5))
 clear mk1 mk2
 obtain ⟨sb, hsb⟩ : ∃ sb, sb = w1.heap.size + 2 := ⟨_, rfl⟩
 have e2 : w1.heap.size + 1 + 1 = w1.heap.size + 2 := by omega
 go_frame
 try rw [e2]
 rw [← hsb]
 rw [← hsb] at H5
 clear e2
 have hvz := HV1.out.alloc (.cells #[.map none, .map none, .int .i64 0, .int .i64 0, .int .i64 0, .int .i64 0, .int .i64 0, .int .i64 0, .int .i64 0, .int .i64 0, .int .u64 0, .int .u64 0, .int .u64 0, .int .u64 0, .int .u64 0, .int .u64 0, .int .u64 0, .int .u64 0] 72)
 rw [show ((w1.alloc (.map #[] 0)).alloc (.map #[] 0)).heap.size = sb from by rw [size_alloc', size_alloc', hsb]] at hvz
 have HB : Hid (Nb w w5 M [sb] N 1 0 sb w1.heap.size (w1.heap.size + 1) St.zero (Bs.fmt N)) := Lib.hid (Nb.stored hvz ⟨by simp, by have := HSZ.out; omega⟩ (by omega) (by omega) H5.out.1 H5.out.2)
 clear hvz HV1 H5 hsb
 generalize w1.heap.size + 1 = md0 at HB
 generalize w1.heap.size = mc0 at HB
 go_upto_region 5 with fail
 go_cut [35, 36, 37] (fun s l i wx => ∃ m : Nat, m ≤ 40 ∧ m ≤ len1 ∧ s = .slice a1 m cap1 ∧ l = .int .i64 (m : Int) ∧ i = .int .i64 0 ∧ wx = w5)
 case first =>
  have h60 : 40 < len1 ∨ len1 ≤ 40 := by omega
  rcases h60 with h60 | h60
  ·go_wp2_with fail
   go_meet
   exact ⟨40, by omega, by omega, by congr 1; omega, by congr 1; omega, rfl, rfl⟩
  ·cases a1 with
   | none =>
    obtain ⟨rfl, rfl⟩ := Hnil1.out rfl
    go_wp2_with fail
    go_meet
    exact ⟨0, by omega, by omega, rfl, rfl, rfl, rfl⟩
   | some a1 =>
    go_wp2_with fail
    go_meet
    exact ⟨len1, by omega, by omega, by congr 1; omega, by congr 1; omega, rfl, rfl⟩
 case rest =>
  obtain ⟨m, hm1, hm2, rfl, rfl, rfl, hwc⟩ := hcut
  obtain rfl : wc = w5 := hwc
  go_wp2_with fail
  go_loopg [37] m (fun gg s wr => ∃ (j mc md : Nat) (S : St) (B : Bs), j ≤ m ∧ gg = m - j ∧ s = .int .i64 (j : Int) ∧ Hid (Nb w wr M [sb] N (1 + j) j sb mc md S B))
  case atStart => exact ⟨0, _, _, _, _, Nat.zero_le _, rfl, rfl, HB⟩
  case round =>
   obtain ⟨j, mc, md, S, B, hj, hgg, rfl, H⟩ := hrel
   have Hgg := Lib.hid hgg
   clear hgg HB
   by_cases hjm : j < m
   ·have i0 : (j : Int) < (m : Int) := by omega
    obtain ⟨yb, yo, rfl, hop⟩ := HO1.out.get H.out.v.c (i := j) (by omega)
    generalize z1 j = o at *
    obtain ⟨d, at', x2⟩ := o
    obtain ⟨k0, k1, k2, hok⟩ := hop
    have k0' : wr.cell? ⟨yb, yo + j * 3, none⟩ = some (.int .u8 (d : Int)) := k0
    have k1' : wr.cell? ⟨yb, yo + j * 3 + 1, none⟩ = some (.int .i64 at') := k1
    have k2' : wr.cell? ⟨yb, yo + j * 3 + 2, none⟩ = some (.int .u16 (x2 : Int)) := k2
    have HOK := Lib.hid hok
    have hW := (Chg.refl [] wr).alloc (.cells #[.int .u8 (d : Int), .int .i64 at', .int .u16 (x2 : Int)] 74)
    have H6 := Lib.hid (H.out.chg hW)
    have HOB := Lib.hid (new_block wr (.cells #[.int .u8 (d : Int), .int .i64 at', .int .u16 (x2 : Int)] 74))
    clear hW k0 k1 k2 hok
    go_upto_region 8 with fail
    generalize wr.alloc (.cells #[.int .u8 (d : Int), .int .i64 at', .int .u16 (x2 : Int)] 74) = wb at *
    have ob := HOB.out
    have o0 := cell_of_block ob 0
    have o1 := cell_of_block ob 1
    have o2 := cell_of_block ob 2
    simp only [List.getElem?_toArray, List.getElem?_cons_zero, List.getElem?_cons_succ] at o0 o1 o2
    clear ob k0' k1' k2'
    have cd := H6.out.v.done HM.out (by omega) HOK.out.code HOK.out.n HOK.out.at'
    have CD := Lib.hid cd
    clear cd
    go_wp2_with (refine wpList_loadV rfl (.tmp 8) rfl Tryz.underlying72 rfl infoState rfl (rowCells H6.out.s) ?_)
    refine CD.out.mono ?_
    clear CD
    rintro e w7 ⟨mc2, md2, S2, B2, rfl, hv2, kb2, hg1, hg2, hc7⟩
    have H7 := Lib.hid (And.intro hv2 (And.intro kb2 (And.intro (H6.out.box hc7) (And.intro (show mc2 ≠ sb from by have := heap_lt H6.out.s; omega) (show md2 ≠ sb from by have := heap_lt H6.out.s; omega)))))
    clear hv2 kb2 hg1 hg2 hc7 o0 o1 o2
    go_upto_region 11 with (refine wpList_storeRow (t := 72) (T := 72) (b := sb) (o := 0) (n := 18) (N := 18) (V := S.v mc md) (U := S2.v mc2 md2) rfl (.tmp 8) (.tmp 47) rfl rfl rfl H7.out.2.2.1 (by omega) infoState (fun i _ => St.one _ _ _ i) ?_; intro w8 hr8 hc8; have H8h := Lib.hid (And.intro hr8 hc8); clear hr8 hc8)
    have H8 := Lib.hid (Nb.stored H7.out.1 ⟨H.out.ne.1, H.out.ne.2.1⟩ H7.out.2.2.2.1 H7.out.2.2.2.2 H8h.out.1 H8h.out.2)
    have HKB := Lib.hid H7.out.2.1
    clear H8h H7 H6
    have hc58 : j % 5 = 4 ∨ ¬ j % 5 = 4 := by omega
    rcases hc58 with hj5 | hj5
    ·have hb1 : (((j : Int) % 5) == 4) = true := by simp; omega
     have hb2 : (((j : Int) % 5) != 4) = false := by simp; omega
     obtain ⟨R, hin, -⟩ := H8.out.v.b
     have cC := dCopy_at hin.d.rd rfl
     have CC := Lib.hid cC
     have HIN := Lib.hid hin
     clear cC hin
     go_wp2_with fail
     clear hb1 hb2
     refine CC.out.mono ?_
     clear CC
     rintro e w9 ⟨q1, g1, cp1, rfl, hd1, hq1, hg1, hc9⟩
     have hn8 := H8.out.v.g.n
     have cO := baOpen_at (B := B2) hd1 rfl (fun b _ i _ => rfl) H8.out.v.g.ok
     have CO := Lib.hid cO
     have H9 := Lib.hid (And.intro hq1 (And.intro hg1 hc9))
     have HN8 := Lib.hid hn8
     clear hd1 hq1 hg1 hc9 cO hn8
     go_wp2_with fail
     refine CO.out.mono ?_
     clear CO
     rintro e w10 ⟨M2, R2, rfl, hMd, hMb, hbc, hc10, hnew⟩
     have hc810 := H9.out.2.2.trans hc10
     have hown : ∀ q, Bown M2 R2 B2.open_ q → q ∉ M.L := fun q hq hm => by
      have h1 := H8.out.v.b.ltL hm
      by_cases e1 : q = q1
      ·rw [e1] at h1; have := H9.out.1; omega
      ·by_cases e2 : q = g1
       ·rw [e2] at h1; have := H9.out.2.1; omega
       ·have h2 := hnew q hq e1 e2; have h3 := H9.out.2.2.size; omega
     have cC := dCopy_at (HIN.out.chg hc810 (fun x _ => by simp)).d.rd rfl
     have CC := Lib.hid cC
     have H10 := Lib.hid (And.intro hbc (And.intro hown hc810))
     clear cC hbc hown hc810 hMd hMb hc10 hnew
     go_wp2_with fail
     refine CC.out.mono ?_
     clear CC
     rintro e w11 ⟨q2, g2, cp2, rfl, hd2, hq2, hg2, hc11⟩
     rw [HN8.out] at hd2
     have hc811 := H10.out.2.2.trans hc11
     have cc := (H8.out.v.chg hc811).commit HM.out (by omega)
     have CC := Lib.hid cc
     have H11 := Lib.hid (And.intro hd2 (And.intro hq2 (And.intro hg2 (And.intro hc811 hc11))))
     clear hd2 hq2 hg2 hc811 hc11 cc
     go_wp2_with fail
     refine CC.out.mono ?_
     clear CC
     rintro e w12 ⟨rfl, hv12, hc12⟩
     obtain ⟨R', hin12, -⟩ := hv12.b
     have hrd := hin12.d.rd
     rw [hv12.g.n] at hrd
     have hfar : ∀ q, w10.heap.size ≤ q → q ∉ M.L := fun q hq hm => by have h1 := HIN.out.lt (.inl hm); have h2 := H10.out.2.2.size; omega
     have hrb := H11.out.1.chg hc12 (hfar _ H11.out.2.1) (hfar _ H11.out.2.2.1) (fun k hk => by cases hk)
     have HDB := Lib.hid (And.intro hrd (And.intro hrb (Chg.refl [] w12)))
     have HBC := Lib.hid (((H10.out.1).chg H11.out.2.2.2.2 (fun x _ => by simp)).chg hc12 H10.out.2.1)
     have HLE : Hid ((∀ k, k < N → ∀ i, i < 128 → B2.D k i ≤ 255) ∧ (∀ k, k < N → ∀ i, i < 128 → B2.commit.D k i ≤ 255)) := Lib.hid ⟨H11.out.1.le, hrd.le⟩
     have hbx := (H8.out.chg H11.out.2.2.2.1).box hc12
     have HB12 := Lib.hid (Nb.mk hv12 hbx H8.out.ne)
     have HB8 := H8
     have cl := rdLen_at hrd
     clear hrd hfar hrb hbx hc12 hin12 hv12 HIN H10 H11 H9 HN8
     go_wp2_with fail
     refine (cl).mono ?_
     rintro e w' ⟨rfl, rfl⟩
     clear cl
     go_wp2_with fail
     go_loopg [14, 71] N (fun gg s14 s71 wr => ∃ k c : Nat, k ≤ N ∧ gg = N - k ∧ s71 = .int .i64 (k : Int) ∧ c ≤ 1 ∧ (k ≤ 1 - B2.Kp.gen % 2 → c = 0) ∧ s14 = .int .i64 (c : Int) ∧ Hid (Chg [] w12 wr))
     case atStart => exact ⟨0, 0, Nat.zero_le _, rfl, rfl, by omega, fun _ => rfl, rfl, Lib.hid (Chg.refl [] w12)⟩
     case round =>
      obtain ⟨k, c, hk, hgg2, rfl, hc1, hq, rfl, HC⟩ := hrel
      have Hgg2 := Lib.hid hgg2
      clear hgg2
      by_cases hkN : k < N
      ·have i1 : (k : Int) < (N : Int) := by omega
       have hrb := HDB.out.2.1.chg HC.out (by simp) (by simp) (fun k hk => by cases hk)
       have c1 := dRead_at (at' := k) hrb hkN
       have C1 := Lib.hid c1
       clear c1 hrb
       go_wp2_with fail
       refine C1.out.mono ?_
       clear C1
       rintro e w13 ⟨rfl, hby, hc13⟩
       have hrd := HDB.out.1.chg (HC.out.trans hc13) (by simp) (by simp) (fun k hk => by cases hk)
       have c1 := dRead_at (at' := k) hrd hkN
       have C1 := Lib.hid c1
       have H13 := Lib.hid (And.intro hby hc13)
       obtain ⟨g1, hg1⟩ : ∃ g, g = wr.heap.size := ⟨_, rfl⟩
       rw [← hg1] at H13 ⊢
       clear c1 hrd hby hc13 hg1
       go_wp2_with fail
       refine C1.out.mono ?_
       clear C1
       rintro e w14 ⟨rfl, hby2, hc14⟩
       obtain ⟨g2, hg2⟩ : ∃ g, g = w13.heap.size := ⟨_, rfl⟩
       rw [← hg2] at hby2 ⊢
       have hx1 := (hc14.block g1 (heap_lt H13.out.1) (by simp)).trans H13.out.1
       have hcw : Chg [] w12 w14 := (HC.out.trans H13.out.2).trans hc14
       have hcnt := bCount_at (HBC.out.chg hcw (fun x _ => by simp)) (k : Int)
       have hB1 : BytesAt w14 g1 0 128 (B2.D k) := fun i hi => ⟨by rw [Nat.zero_add, cell_of_block hx1, u8s_get hi]; rfl, HLE.out.1 k hkN i hi⟩
       have hB2 : BytesAt w14 g2 0 128 (B2.commit.D k) := fun i hi => ⟨by rw [Nat.zero_add, cell_of_block hby2, u8s_get hi]; rfl, HLE.out.2 k hkN i hi⟩
       have hv1 := conv_at (bytes_in hB1 (Nat.le_refl _) (by unfold maxLen; omega))
       have hv2 := conv_at (bytes_in hB2 (Nat.le_refl _) (by unfold maxLen; omega))
       have HW14 := Lib.hid hcw
       clear hx1 hby2 hc14 hg2 hcw hB1 hB2 H13 HC
       by_cases hk2 : 2 ≤ k
       ·have i2 : (2 : Int) ≤ (k : Int) := by omega
        have i3 : ¬ (k : Int) < 2 := by omega
        rw [getV_nat (T := B2.open_.T) (k := k) (by show k < B2.T.n; rw [HB8.out.v.g.n]; exact hkN)] at hcnt
        have hcnt2 : Calls Tryz.prog 22 #[.pointer (some ⟨M2.b, 0, none⟩), .int .i64 (k : Int)] w14 fun e w' => e = .returned (.int .i64 (B2.T.kept k : Int)) ∧ w14 = w' := hcnt
        clear hcnt
        by_cases hkp : B2.T.kept k = 0
        ·rw [hkp] at hcnt2
         have hcnt3 : Calls Tryz.prog 22 #[.pointer (some ⟨M2.b, 0, none⟩), .int .i64 (k : Int)] w14 fun e w' => e = .returned (.int .i64 0) ∧ w14 = w' := hcnt2
         clear hcnt2 hv1 hv2
         go_wp2_with fail
         refine (hcnt3).mono ?_
         rintro e w' ⟨rfl, rfl⟩
         clear hcnt3
         go_wp2_with fail
         go_roundg (N - (k + 1))
         case measure => have := Hgg2.out; omega
         case rel => exact ⟨k + 1, c, by omega, rfl, by go_num, hc1, fun h => by omega, by first | rfl | go_num, HW14⟩
        ·have heq : bstr 128 (B2.commit.D k) = bstr 128 (B2.D k) := by rw [HB8.out.v.g.never_ hk2 hkp]
         rw [heq] at hv2
         have i4 : (0 : Int) < (B2.T.kept k : Int) := by omega
         clear heq
         go_wp2_with fail
         refine (hcnt2).mono ?_
         rintro e w' ⟨rfl, rfl⟩
         clear hcnt2
         go_wp2_with fail
         go_roundg (N - (k + 1))
         case measure => have := Hgg2.out; omega
         case rel => exact ⟨k + 1, c, by omega, rfl, by go_num, hc1, fun h => by omega, by first | rfl | go_num, HW14⟩
       ·have i2 : ¬ (2 : Int) ≤ (k : Int) := by omega
        have i3 : (k : Int) < 2 := by omega
        clear hcnt
        by_cases hkg : k = B2.Kp.gen % 2
        ·have heq : bstr 128 (B2.commit.D k) = bstr 128 (B2.D k) := by rw [hkg, HB8.out.v.g.super_]
         rw [heq] at hv2
         clear heq
         go_wp2_with fail
         go_roundg (N - (k + 1))
         case measure => have := Hgg2.out; omega
         case rel => exact ⟨k + 1, c, by omega, rfl, by go_num, hc1, fun h => hq (by omega), by first | rfl | go_num, HW14⟩
        ·obtain rfl : c = 0 := hq (by omega)
         rw [show ((0 : Nat) : Int) = 0 from rfl]
         generalize bstr 128 (B2.D k) = s1 at *
         generalize bstr 128 (B2.commit.D k) = s2 at *
         cases hne : (s1.toList == s2.toList) with
         | true =>
          go_wp2_with fail
          go_roundg (N - (k + 1))
          case measure => have := Hgg2.out; omega
          case rel => exact ⟨k + 1, 0, by omega, rfl, by go_num, by omega, fun h => rfl, by first | rfl | go_num, HW14⟩
         | false =>
          go_wp2_with fail
          go_roundg (N - (k + 1))
          case measure => have := Hgg2.out; omega
          case rel => exact ⟨k + 1, 1, by omega, rfl, by go_num, by omega, fun h => by omega, by first | rfl | go_num, HW14⟩
      ·obtain rfl : k = N := by omega
       have i1 : ¬ (k : Int) < (k : Int) := by omega
       have i2 : ¬ (1 : Int) < (c : Int) := by omega
       go_wp2_with fail
       go_roundg (m - (j + 1))
       case measure => have := Hgg.out; omega
       case rel => exact ⟨j + 1, _, _, _, _, by omega, rfl, by go_num, Lib.hid ((HB12.out.chg HC.out).mono (by omega) (Nat.le_refl _))⟩
    ·have hb1 : (((j : Int) % 5) == 4) = false := by simp; omega
     have hb2 : (((j : Int) % 5) != 4) = true := by simp; omega
     go_wp2_with fail
     go_roundg (m - (j + 1))
     case measure => have := Hgg.out; omega
     case rel => exact ⟨j + 1, _, _, _, _, by omega, rfl, by go_num, Lib.hid (H8.out.mono (by omega) (Nat.le_refl _))⟩
   ·obtain rfl : j = m := by omega
    have i0 : ¬ (j : Int) < (j : Int) := by omega
    go_wp2_with fail
    refine (HAW.out wr).mono ?_
    rintro e w7 ⟨rfl, hc7⟩
    have HC8 := Lib.hid (H.out.v.c.trans hc7)
    clear hc7
    go_wp2_with fail
    go_ret
    exact ⟨rfl, HC8.out.below (by simp)⟩
end Go.Proofs.YtkhcaclndepgbaaGreat
