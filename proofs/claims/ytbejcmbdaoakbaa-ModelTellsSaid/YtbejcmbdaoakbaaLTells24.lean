/- catchmentlaw24.ModelTells: the walk. (Printed by mktl24.py.) -/
import Derived.Test.YtbejcmbdaoakbaaRgZ
namespace Go.Proofs.Ytbejcmbdaoakbaa
open Go.RowKit Go.Sort Go.Maps
set_option linter.unusedVariables false
set_option linter.unusedSimpArgs false

set_option maxRecDepth 100000 in
set_option maxHeartbeats 16000000 in
theorem modelTells_walk (a0 : Int) (a1 : Option Addr) (len1 cap1 : Nat) (z1 : Nat → Opn) (w : World) (h0 : (Lit.int .u64 a0).wf = true) (h1 : IsOps w a1 len1 cap1 z1) :
    Calls Try.prog 5 #[.int .u64 a0, .slice a1 len1 cap1] w (LawOk w) := by
  have hb := bd_u64 h0
  obtain ⟨sz, rfl, hsz⟩ : ∃ n : Nat, a0 = (n : Int) ∧ n < 18446744073709551616 := ⟨a0.toNat, by omega, by omega⟩
  have HI := Lib.hid h1
  have hl1 : len1 ≤ 9223372036854775807 := by have := Nat.le_trans h1.1 h1.2.1; unfold maxLen at this; exact this
  clear h0 h1 hb
  by_cases hs : 1 ≤ sz ∧ sz ≤ 4294967296
  case' neg =>
    have CB := Lib.hid (new_bad (w := w) hsz hs)
    by_cases hs1 : 1 ≤ sz
    case' pos =>
      have b1 : ¬ (sz : Int) < 1 := by omega
      have b2 : (4294967296 : Int) < (sz : Int) := by omega
    case' neg =>
      have b1 : (sz : Int) < 1 := by omega
    all_goals
      clear hs hs1 hsz
      go_enter Try.func5, Try.ntmps5
      go_wp2_with fail
      refine CB.out.mono ?_
      rintro e w' ⟨rfl, rfl⟩
      go_wp2_with fail
      refine (awake24_at).mono ?_
      rintro e wz ⟨rfl, hZ⟩
      have HZ := Lib.hid hZ
      clear hZ
      go_wp2_with fail
      go_ret
      exact law_ok HZ.out
  case' pos =>
    have b1 : ¬ (sz : Int) < 1 := by omega
    have b2 : ¬ (4294967296 : Int) < (sz : Int) := by omega
    have CN := Lib.hid (new_ok (w := w) hs.1 hs.2)
    have HSZ := Lib.hid hsz
    clear hs hsz
    go_enter Try.func5, Try.ntmps5
    go_wp2_with fail
    refine CN.out.mono ?_
    rintro e w1 ⟨p, L, rfl, hM, hL, hC1⟩
    unfold okPtr
    have HM := Lib.hid hM
    have HL := Lib.hid hL
    have HC1 := Lib.hid hC1
    clear hM hL hC1 CN
    go_upto_region 7 with fail
    have hcr : Chg [] w1 (w1.alloc (.cells #[.int .u64 (sz : Int), .int .u64 0, .slice none 0 0] 44)) := (Chg.refl [] w1).alloc _
    have hRf := refAt_new (w := w1) HSZ.out
    obtain ⟨q, hq⟩ : ∃ q, q = w1.heap.size := ⟨_, rfl⟩
    have hT : TelR w (w1.alloc (.cells #[.int .u64 (sz : Int), .int .u64 0, .slice none 0 0] 44)) p q 0 sz L [q] (St.new sz) ⟨sz, 0, []⟩ (.slice none 0 0) := by
      subst hq
      exact { m := HM.out.chg hcr (by simp), r := hRf, rel := RelS.new, last := Nat.le_refl _, size := rfl, nm := HL.out, chg := HC1.out.trans hcr
              ap := fun x hx hm => by have := HM.out.lt x hx; simp only [List.mem_singleton] at hm; omega
              nr := fun x hm => by simp only [List.mem_singleton] at hm; rw [hm]; exact HC1.out.size }
    rw [← hq]
    generalize w1.alloc (.cells #[.int .u64 (sz : Int), .int .u64 0, .slice none 0 0] 44) = w2 at *
    have HT := Lib.hid hT
    clear hcr hRf hq hT HM HL HC1
    go_wp2_with fail
    obtain ⟨m, hm⟩ : ∃ m, m = min len1 40 := ⟨_, rfl⟩
    go_loopg [8] m (fun gg s wr => ∃ k : Nat, gg = m - k ∧ k ≤ m ∧ s = .int .i64 (k : Int) ∧ Hid (∃ S R vv L Lr, TelR w wr p q k sz L Lr S R vv))
    case atStart => exact ⟨0, rfl, Nat.zero_le _, by go_num, ⟨_, _, _, _, _, HT.out⟩⟩
    case round =>
      obtain ⟨k, hgg, hkm, rfl, hX⟩ := hrel
      obtain ⟨wo, rfl⟩ : ∃ wo : World, wo = wr := ⟨_, rfl⟩
      obtain ⟨S, R, vv, L, Lr, hT⟩ := hX.out
      have HT := Lib.hid hT
      have HGG := Lib.hid hgg
      have HK : Hid (k ≤ 40) := Lib.hid (by omega)
      have HLS : Hid (S.last ≤ 40) := Lib.hid (by have := hT.last; omega)
      clear hT hX hgg
      by_cases hk : k < m
      case' pos =>
        have hkl : k < len1 := by omega
        have i1 : (k : Int) < (len1 : Int) := by omega
        have i2 : (k : Int) < 40 := by omega
        obtain ⟨b, off, rfl, hb, da, dc, u0, u1, u2, u3, u4, hB, hO⟩ := HI.out.2.2.2 k hkl
        simp only [Nat.add_zero] at u0
        obtain ⟨n, hn⟩ : ∃ n, n = (z1 k).len := ⟨_, rfl⟩
        obtain ⟨fd, hfd⟩ : ∃ fd, fd = (z1 k).f := ⟨_, rfl⟩
        have hnl : n ≤ 9223372036854775807 := by rw [hn]; exact hO.len
        rw [← hn] at u4
        have HB : Hid (BytesIn w da n dc fd) := Lib.hid (by rw [hn, hfd]; exact hB)
        have HNF := Lib.hid (And.intro hn hfd)
        have HO := Lib.hid hO
        have HBB := Lib.hid hb
        have HU := Lib.hid (And.intro u0 (And.intro u1 (And.intro u2 (And.intro u3 u4))))
        have e0 := (HT.out.chg.cell (p := ⟨b, off + k * 5, none⟩) hb (by simp)).trans u0
        have e1 := (HT.out.chg.cell (p := ⟨b, off + k * 5 + 1, none⟩) hb (by simp)).trans u1
        have e2 := (HT.out.chg.cell (p := ⟨b, off + k * 5 + 2, none⟩) hb (by simp)).trans u2
        have e3 := (HT.out.chg.cell (p := ⟨b, off + k * 5 + 3, none⟩) hb (by simp)).trans u3
        have e4 := (HT.out.chg.cell (p := ⟨b, off + k * 5 + 4, none⟩) hb (by simp)).trans u4
        clear hB hO hb u0 u1 u2 u3 u4 hn hfd
        go_upto_region 11 with fail
        have hcv : Chg [] wo (wo.alloc (.cells #[.int .u8 ((z1 k).code : Int), .int .u64 ((z1 k).vol : Int), .int .u64 ((z1 k).pl : Int), .int .u64 ((z1 k).n : Int), .slice da n dc] 26)) := (Chg.refl [] wo).alloc _
        have hV := new_block wo (.cells #[.int .u8 ((z1 k).code : Int), .int .u64 ((z1 k).vol : Int), .int .u64 ((z1 k).pl : Int), .int .u64 ((z1 k).n : Int), .slice da n dc] 26)
        generalize wo.alloc (.cells #[.int .u8 ((z1 k).code : Int), .int .u64 ((z1 k).vol : Int), .int .u64 ((z1 k).pl : Int), .int .u64 ((z1 k).n : Int), .slice da n dc] 26) = V at *
        obtain ⟨ob, hob⟩ : ∃ ob, ob = wo.heap.size := ⟨_, rfl⟩
        rw [← hob] at hV ⊢
        have HTV := Lib.hid (HT.out.chg.trans hcv)
        have e4' := (HTV.out.cell (p := ⟨b, off + k * 5 + 4, none⟩) HBB.out (by simp)).trans HU.out.2.2.2.2
        have HOB := Lib.hid hob
        have HV := Lib.hid hV
        have HCV := Lib.hid hcv
        have lob := heap_lt hV
        have fz := frozen_of_block hV 4
        have y0 := cell_of_block hV 0
        have y1 := cell_of_block hV 1
        have y2 := cell_of_block hV 2
        have y3 := cell_of_block hV 3
        have y4 := cell_of_block hV 4
        simp only [List.getElem?_toArray, List.getElem?_cons_zero, List.getElem?_cons_succ] at y0 y1 y2 y3 y4
        clear e0 e1 e2 e3 e4 hob hcv hV
        have CA := Lib.hid (againB_at (HB.out.chg HTV.out (by simp)))
        go_wp2_with fail
        refine CA.out.mono ?_
        clear CA
        rintro e w2 ⟨nd, rfl, hlt, hU8, hd1, hd2, hC2⟩
        have hV2 := (hC2.block ob (heap_lt HV.out) (by simp)).trans HV.out
        have HLT : Hid (ob < V.heap.size ∧ V.heap.size < w2.heap.size) := Lib.hid ⟨heap_lt HV.out, hlt⟩
        have HU8 := Lib.hid hU8
        have HDD := Lib.hid (And.intro hd1 hd2)
        have hC02 := HCV.out.trans hC2
        have HC02 := Lib.hid hC02
        have HV2 := Lib.hid hV2
        have fz2 := frozen_of_block hV2 4
        have lob2 := heap_lt hV2
        have x0 := cell_of_block hV2 0
        have x1 := cell_of_block hV2 1
        have x2 := cell_of_block hV2 2
        have x3 := cell_of_block hV2 3
        have x4 := cell_of_block hV2 4
        simp only [List.getElem?_toArray, List.getElem?_cons_zero, List.getElem?_cons_succ] at x0 x1 x2 x3 x4
        clear hlt hU8 hd1 hd2 hC2 hV2 hC02 y0 y1 y2 y3 y4 fz e4' lob
        obtain ⟨bd, hbd⟩ : ∃ bd, bd = V.heap.size := ⟨_, rfl⟩
        rw [← hbd] at HLT HU8 ⊢
        clear hbd
        go_upto_region 12 with fail
        have hW : (w2.setCell ⟨ob, 4, none⟩ (.slice (some ⟨bd, 0, none⟩) n nd)).heap[ob]? = some (.cells #[.int .u8 ((z1 k).code : Int), .int .u64 ((z1 k).vol : Int), .int .u64 ((z1 k).pl : Int), .int .u64 ((z1 k).n : Int), .slice (some ⟨bd, 0, none⟩) n nd] 26 (0, 0)) := setCell_block HV2.out 4 _
        have hCW : Chg [] wo (w2.setCell ⟨ob, 4, none⟩ (.slice (some ⟨bd, 0, none⟩) n nd)) := HC02.out.setCell (.inr (by show wo.heap.size ≤ ob; rw [HOB.out]; exact Nat.le_refl _)) _
        have hUW : U8Blk (w2.setCell ⟨ob, 4, none⟩ (.slice (some ⟨bd, 0, none⟩) n nd)) bd n fd := HU8.out.chg ((Chg.refl [ob] w2).setCell (.inl (by simp)) _) (by simp only [List.mem_singleton]; have := HLT.out.1; omega)
        generalize w2.setCell ⟨ob, 4, none⟩ (.slice (some ⟨bd, 0, none⟩) n nd) = W at *
        have HTW := Lib.hid (HT.out.step hCW)
        have HNM : Hid (∀ x, x ∈ L → x ≠ ob ∧ x ≠ bd) := Lib.hid (fun x hx => by have := HT.out.m.lt x hx; have := HOB.out; have := HLT.out.1; omega)
        have HNR : Hid (∀ x, x ∈ Lr → x ≠ ob ∧ x ≠ bd) := Lib.hid (fun x hx => by have := HT.out.r.lt x hx; have := HOB.out; have := HLT.out.1; omega)
        have f0 := (HTW.out.chg.cell (p := ⟨b, off + k * 5, none⟩) HBB.out (by simp)).trans HU.out.1
        have f1 := (HTW.out.chg.cell (p := ⟨b, off + k * 5 + 1, none⟩) HBB.out (by simp)).trans HU.out.2.1
        have f2 := (HTW.out.chg.cell (p := ⟨b, off + k * 5 + 2, none⟩) HBB.out (by simp)).trans HU.out.2.2.1
        have f3 := (HTW.out.chg.cell (p := ⟨b, off + k * 5 + 3, none⟩) HBB.out (by simp)).trans HU.out.2.2.2.1
        have f4 := (HTW.out.chg.cell (p := ⟨b, off + k * 5 + 4, none⟩) HBB.out (by simp)).trans HU.out.2.2.2.2
        have HUW := Lib.hid hUW
        have HW := Lib.hid hW
        have lw := heap_lt hW
        have r0 := cell_of_block hW 0
        have r1 := cell_of_block hW 1
        have r2 := cell_of_block hW 2
        have r3 := cell_of_block hW 3
        have r4 := cell_of_block hW 4
        simp only [List.getElem?_toArray, List.getElem?_cons_zero, List.getElem?_cons_succ] at r0 r1 r2 r3 r4
        have HLW := Lib.hid (And.intro lw hUW.lt)
        clear x0 x1 x2 x3 x4 fz2 lob2 hW hCW hUW HV2 HC02 HU8 lw HCV HV HTV
        refine wp_region_held_drew (S := fun W' => W'.cell? ⟨b, off + k * 5, none⟩ = some (.int .u8 ((z1 k).code : Int)) ∧ W'.cell? ⟨b, off + k * 5 + 1, none⟩ = some (.int .u64 ((z1 k).vol : Int)) ∧ W'.cell? ⟨b, off + k * 5 + 2, none⟩ = some (.int .u64 ((z1 k).pl : Int)) ∧ W'.cell? ⟨b, off + k * 5 + 3, none⟩ = some (.int .u64 ((z1 k).n : Int)) ∧ W'.cell? ⟨b, off + k * 5 + 4, none⟩ = some (.slice da n dc) ∧ W'.cell? ⟨ob, 0, none⟩ = some (.int .u8 ((z1 k).code : Int)) ∧ W'.cell? ⟨ob, 1, none⟩ = some (.int .u64 ((z1 k).vol : Int)) ∧ W'.cell? ⟨ob, 2, none⟩ = some (.int .u64 ((z1 k).pl : Int)) ∧ W'.cell? ⟨ob, 3, none⟩ = some (.int .u64 ((z1 k).n : Int)) ∧ W'.cell? ⟨ob, 4, none⟩ = some (.slice (some ⟨bd, 0, none⟩) n nd)) (by kernel_rfl) (by exact ⟨f0, f1, f2, f3, f4, r0, r1, r2, r3, r4⟩) (fun hHeld => ?_)
        refine wpAnyH_take (i := 0) (oi := ?_) (v := ?_) ?_ (by kernel_rfl) (by kernel_rfl) (by kernel_rfl) ?_ (Or.inl ⟨?_, ?_⟩) hHeld ?_
        rotate_left 2
        · (simp only [List.getElem?_toArray, List.getElem?_cons_succ, List.getElem?_cons_zero]; rfl)
        · exact fun _ _ _ h => h
        · rfl
        · (rintro W' ⟨s0, s1, s2, s3, s4, s5, s6, s7, s8, s9⟩; go_simp; first | done | with_reducible rfl)
        try simp only [Act.put, List.setIfInBounds_toArray, List.set_cons_zero, List.set_cons_succ]
        refine wpAnyH_take (i := 1) (oi := ?_) (v := ?_) ?_ (by kernel_rfl) (by kernel_rfl) (by kernel_rfl) ?_ (Or.inl ⟨?_, ?_⟩) hHeld ?_
        rotate_left 2
        · (simp only [List.getElem?_toArray, List.getElem?_cons_succ, List.getElem?_cons_zero]; rfl)
        · exact fun _ _ _ h => h
        · rfl
        · (rintro W' ⟨s0, s1, s2, s3, s4, s5, s6, s7, s8, s9⟩; go_simp; first | done | with_reducible rfl)
        try simp only [Act.put, List.setIfInBounds_toArray, List.set_cons_zero, List.set_cons_succ]
        refine wpAnyH_take (i := 3) (oi := ?_) (v := ?_) ?_ (by kernel_rfl) (by kernel_rfl) (by kernel_rfl) ?_ (Or.inl ⟨?_, ?_⟩) hHeld ?_
        rotate_left 2
        · (simp only [List.getElem?_toArray, List.getElem?_cons_succ, List.getElem?_cons_zero]; rfl)
        · exact fun _ _ _ h => h
        · rfl
        · (rintro W' ⟨s0, s1, s2, s3, s4, s5, s6, s7, s8, s9⟩; go_simp; first | done | with_reducible rfl)
        try simp only [Act.put, List.setIfInBounds_toArray, List.set_cons_zero, List.set_cons_succ]
        refine wpAnyH_take (i := 4) (oi := ?_) (v := ?_) ?_ (by kernel_rfl) (by kernel_rfl) (by kernel_rfl) ?_ (Or.inl ⟨?_, ?_⟩) hHeld ?_
        rotate_left 2
        · (simp only [List.getElem?_toArray, List.getElem?_cons_succ, List.getElem?_cons_zero]; rfl)
        · exact fun _ _ _ h => h
        · rfl
        · (rintro W' ⟨s0, s1, s2, s3, s4, s5, s6, s7, s8, s9⟩; go_simp; first | done | with_reducible rfl)
        try simp only [Act.put, List.setIfInBounds_toArray, List.set_cons_zero, List.set_cons_succ]
        refine wpAnyH_take (i := 5) (oi := ?_) (v := ?_) ?_ (by kernel_rfl) (by kernel_rfl) (by kernel_rfl) ?_ (Or.inl ⟨?_, ?_⟩) hHeld ?_
        rotate_left 2
        · (simp only [List.getElem?_toArray, List.getElem?_cons_succ, List.getElem?_cons_zero]; rfl)
        · exact fun _ _ _ h => h
        · rfl
        · (rintro W' ⟨s0, s1, s2, s3, s4, s5, s6, s7, s8, s9⟩; go_simp; first | done | with_reducible rfl)
        try simp only [Act.put, List.setIfInBounds_toArray, List.set_cons_zero, List.set_cons_succ]
        refine wpAnyH_take (i := 6) (oi := ?_) (v := ?_) ?_ (by kernel_rfl) (by kernel_rfl) (by kernel_rfl) ?_ (Or.inl ⟨?_, ?_⟩) hHeld ?_
        rotate_left 2
        · (simp only [List.getElem?_toArray, List.getElem?_cons_succ, List.getElem?_cons_zero]; rfl)
        · exact fun _ _ _ h => h
        · rfl
        · (rintro W' ⟨s0, s1, s2, s3, s4, s5, s6, s7, s8, s9⟩; go_simp; first | done | with_reducible rfl)
        try simp only [Act.put, List.setIfInBounds_toArray, List.set_cons_zero, List.set_cons_succ]
        refine wpAnyH_take (i := 7) (oi := ?_) (v := ?_) ?_ (by kernel_rfl) (by kernel_rfl) (by kernel_rfl) ?_ (Or.inl ⟨?_, ?_⟩) hHeld ?_
        rotate_left 2
        · (simp only [List.getElem?_toArray, List.getElem?_cons_succ, List.getElem?_cons_zero]; rfl)
        · exact fun _ _ _ h => h
        · rfl
        · (rintro W' ⟨s0, s1, s2, s3, s4, s5, s6, s7, s8, s9⟩; go_simp; first | done | with_reducible rfl)
        try simp only [Act.put, List.setIfInBounds_toArray, List.set_cons_zero, List.set_cons_succ]
        refine wpAnyH_ready (rs := [2]) (by kernel_rfl) (by simp) ?_
        refine AllReadyH.cons (o := ?_) ?_ (fun K hK => ?_) AllReadyH.nil
        rotate_left 1
        · (simp only [List.getElem?_toArray, List.getElem?_cons_succ, List.getElem?_cons_zero]; rfl)
        · (go_simp; have cD := do_at (v := .agg #[.int .u8 ((z1 k).code : Int), .int .u64 ((z1 k).vol : Int), .int .u64 ((z1 k).pl : Int), .int .u64 ((z1 k).n : Int), .slice (some ⟨bd, 0, none⟩) n nd]) (o := z1 k) (HTW.out.m.chg (Chg.refl [] W).drew (by simp)) (by have := HK.out; omega) ⟨some ⟨bd, 0, none⟩, nd, by rw [← HNF.out.1]; rfl, by rw [← HNF.out.1, ← HNF.out.2]; exact (HUW.out.bytes HDD.out.1 HDD.out.2).chg (Chg.refl [] W).drew (by simp), HO.out⟩; refine cD.mono ?_; clear cD; rintro e w7 ⟨L7, a7, c7, rfl, hM7, hL7, hB7, hF7, hC7⟩; have HC7 := Lib.hid (((Chg.refl L W).drew).trans hC7); have HT7 := Lib.hid (HTW.out.chg.drew.then hC7 (fun i hi => .inr (HTW.out.nm i hi))); have HR7 := Lib.hid (HTW.out.r.chg HC7.out (fun x hx hm => HTW.out.ap x hm hx)); have HM7 := Lib.hid hM7; have HL7 := Lib.hid hL7; have HB7 := Lib.hid hB7; have HF7 := Lib.hid hF7; have HK7 := Lib.hid ((HC7.out.block ob HLW.out.1 (fun hm => (HNM.out _ hm).1 rfl)).trans HW.out); have HX7 := Lib.hid (HUW.out.chg HC7.out (fun hm => (HNM.out _ hm).2 rfl)); clear hM7 hL7 hB7 hF7 hC7; unfold repV)
          refine hK.out _ _ ?_ (fun hHeld => ?_)
          · exact ⟨(HT7.out.cell (p := ⟨b, off + k * 5, none⟩) HBB.out (by simp)).trans HU.out.1, (HT7.out.cell (p := ⟨b, off + k * 5 + 1, none⟩) HBB.out (by simp)).trans HU.out.2.1, (HT7.out.cell (p := ⟨b, off + k * 5 + 2, none⟩) HBB.out (by simp)).trans HU.out.2.2.1, (HT7.out.cell (p := ⟨b, off + k * 5 + 3, none⟩) HBB.out (by simp)).trans HU.out.2.2.2.1, (HT7.out.cell (p := ⟨b, off + k * 5 + 4, none⟩) HBB.out (by simp)).trans HU.out.2.2.2.2, (cell_of_block HK7.out 0).trans rfl, (cell_of_block HK7.out 1).trans rfl, (cell_of_block HK7.out 2).trans rfl, (cell_of_block HK7.out 3).trans rfl, (cell_of_block HK7.out 4).trans rfl⟩
          clear hK K
          try simp only [Act.put, List.setIfInBounds_toArray, List.set_cons_zero, List.set_cons_succ]
          refine wpAnyH_ready (rs := [8]) (by kernel_rfl) (by simp) ?_
          refine AllReadyH.cons (o := ?_) ?_ (fun K hK => ?_) AllReadyH.nil
          rotate_left 1
          · (simp only [List.getElem?_toArray, List.getElem?_cons_succ, List.getElem?_cons_zero]; rfl)
          · (go_simp; have cD := rdo_at (v := .agg #[.int .u8 ((z1 k).code : Int), .int .u64 ((z1 k).vol : Int), .int .u64 ((z1 k).pl : Int), .int .u64 ((z1 k).n : Int), .slice da n dc]) (o := z1 k) HR7.out (by have := HK.out; omega) HTW.out.rel HTW.out.m (by have := HK.out; omega) (by have := HLS.out; omega) ⟨da, dc, by rw [← HNF.out.1]; rfl, by rw [← HNF.out.1, ← HNF.out.2]; exact HB.out.chg HT7.out (by simp), HO.out⟩; refine cD.mono ?_; clear cD; rintro e w8 ⟨vv8, L8, R8, a8, c8, rfl, hB8, hR8, hE8, hL8, hC8⟩; have HB8 := Lib.hid hB8; have HR8 := Lib.hid hR8; have HE8 := Lib.hid hE8; have HL8 := Lib.hid hL8; have HQ : Hid (q ∈ Lr) := Lib.hid HTW.out.r.pin; have HM8 := Lib.hid (HM7.out.chg hC8 (fun x hx hm => by simp only [List.mem_singleton] at hm; subst hm; rcases HL7.out x hx with h | h; exact HTW.out.ap x h HQ.out; have h1 := HTW.out.r.lt x HQ.out; have h2 : W.heap.size ≤ x := h; omega)); have HT8 := Lib.hid (HT7.out.then hC8 (fun i hi => by simp only [List.mem_singleton] at hi; subst hi; exact .inr (HTW.out.nr i HQ.out))); have HB78 := Lib.hid (HB7.out.chg hC8 (fun _ x hx hm => by simp only [List.mem_singleton] at hm; have h1 := HTW.out.r.lt q HQ.out; have h2 : W.heap.size ≤ x.block := (HF7.out x hx).1; omega)); have HK8 := Lib.hid ((hC8.block ob (heap_lt HK7.out) (fun hm => by simp only [List.mem_singleton] at hm; exact (HNR.out q HQ.out).1 hm.symm)).trans HK7.out); have HX8 := Lib.hid (HX7.out.chg hC8 (fun hm => by simp only [List.mem_singleton] at hm; exact (HNR.out q HQ.out).2 hm.symm)); clear hB8 hR8 hE8 hL8 hC8; unfold repV)
            refine hK.out _ _ ?_ (fun hHeld => ?_)
            · exact ⟨(HT8.out.cell (p := ⟨b, off + k * 5, none⟩) HBB.out (by simp)).trans HU.out.1, (HT8.out.cell (p := ⟨b, off + k * 5 + 1, none⟩) HBB.out (by simp)).trans HU.out.2.1, (HT8.out.cell (p := ⟨b, off + k * 5 + 2, none⟩) HBB.out (by simp)).trans HU.out.2.2.1, (HT8.out.cell (p := ⟨b, off + k * 5 + 3, none⟩) HBB.out (by simp)).trans HU.out.2.2.2.1, (HT8.out.cell (p := ⟨b, off + k * 5 + 4, none⟩) HBB.out (by simp)).trans HU.out.2.2.2.2, (cell_of_block HK8.out 0).trans rfl, (cell_of_block HK8.out 1).trans rfl, (cell_of_block HK8.out 2).trans rfl, (cell_of_block HK8.out 3).trans rfl, (cell_of_block HK8.out 4).trans rfl⟩
            clear hK K
            try simp only [Act.put, List.setIfInBounds_toArray, List.set_cons_zero, List.set_cons_succ]
            refine wpAnyH_ready (rs := [9]) (by kernel_rfl) (by simp) ?_
            refine AllReadyH.cons (o := ?_) ?_ (fun K hK => ?_) AllReadyH.nil
            rotate_left 1
            · (simp only [List.getElem?_toArray, List.getElem?_cons_succ, List.getElem?_cons_zero]; rfl)
            · (go_simp; have cS := same24_at HB78.out HB8.out; rw [repEq_self] at cS; unfold repV at cS; refine cS.mono ?_; clear cS; rintro e w9 ⟨rfl, hC9⟩; have HT9 := Lib.hid (HT8.out.trans hC9); have HM9 := Lib.hid (HM8.out.chg hC9 (by simp)); have HR9 := Lib.hid (HR8.out.chg hC9 (by simp)); have HK9 := Lib.hid ((hC9.block ob (heap_lt HK8.out) (by simp)).trans HK8.out); have HX9 := Lib.hid (HX8.out.chg hC9 (by simp)); clear hC9)
              refine hK.out _ _ ?_ (fun hHeld => ?_)
              · exact ⟨(HT9.out.cell (p := ⟨b, off + k * 5, none⟩) HBB.out (by simp)).trans HU.out.1, (HT9.out.cell (p := ⟨b, off + k * 5 + 1, none⟩) HBB.out (by simp)).trans HU.out.2.1, (HT9.out.cell (p := ⟨b, off + k * 5 + 2, none⟩) HBB.out (by simp)).trans HU.out.2.2.1, (HT9.out.cell (p := ⟨b, off + k * 5 + 3, none⟩) HBB.out (by simp)).trans HU.out.2.2.2.1, (HT9.out.cell (p := ⟨b, off + k * 5 + 4, none⟩) HBB.out (by simp)).trans HU.out.2.2.2.2, (cell_of_block HK9.out 0).trans rfl, (cell_of_block HK9.out 1).trans rfl, (cell_of_block HK9.out 2).trans rfl, (cell_of_block HK9.out 3).trans rfl, (cell_of_block HK9.out 4).trans rfl⟩
              clear hK K
              try simp only [Act.put, List.setIfInBounds_toArray, List.set_cons_zero, List.set_cons_succ]
              refine wpAnyH_take (i := 10) (oi := ?_) (v := ?_) ?_ (by kernel_rfl) (by kernel_rfl) (by kernel_rfl) ?_ (Or.inl ⟨?_, ?_⟩) hHeld ?_
              rotate_left 2
              · (simp only [List.getElem?_toArray, List.getElem?_cons_succ, List.getElem?_cons_zero]; rfl)
              · exact fun _ _ _ h => h
              · rfl
              · (rintro W' ⟨s0, s1, s2, s3, s4, s5, s6, s7, s8, s9⟩; go_simp; first | done | with_reducible rfl)
              try simp only [Act.put, List.setIfInBounds_toArray, List.set_cons_zero, List.set_cons_succ]
              refine wpAnyH_take (i := 11) (oi := ?_) (v := ?_) ?_ (by kernel_rfl) (by kernel_rfl) (by kernel_rfl) ?_ (Or.inl ⟨?_, ?_⟩) hHeld ?_
              rotate_left 2
              · (simp only [List.getElem?_toArray, List.getElem?_cons_succ, List.getElem?_cons_zero]; rfl)
              · exact fun _ _ _ h => h
              · rfl
              · (rintro W' ⟨s0, s1, s2, s3, s4, s5, s6, s7, s8, s9⟩; go_simp; first | done | with_reducible rfl)
              try simp only [Act.put, List.setIfInBounds_toArray, List.set_cons_zero, List.set_cons_succ]
              refine wpAnyH_take (i := 12) (oi := ?_) (v := ?_) ?_ (by kernel_rfl) (by kernel_rfl) (by kernel_rfl) ?_ (Or.inl ⟨?_, ?_⟩) hHeld ?_
              rotate_left 2
              · (simp only [List.getElem?_toArray, List.getElem?_cons_succ, List.getElem?_cons_zero]; rfl)
              · exact fun _ _ _ h => h
              · rfl
              · (rintro W' ⟨s0, s1, s2, s3, s4, s5, s6, s7, s8, s9⟩; go_simp; first | done | with_reducible rfl)
              try simp only [Act.put, List.setIfInBounds_toArray, List.set_cons_zero, List.set_cons_succ]
              refine wpAnyH_take (i := 13) (oi := ?_) (v := ?_) ?_ (by kernel_rfl) (by kernel_rfl) (by kernel_rfl) ?_ (Or.inl ⟨?_, ?_⟩) hHeld ?_
              rotate_left 2
              · (simp only [List.getElem?_toArray, List.getElem?_cons_succ, List.getElem?_cons_zero]; rfl)
              · exact fun _ _ _ h => h
              · rfl
              · (rintro W' ⟨s0, s1, s2, s3, s4, s5, s6, s7, s8, s9⟩; go_simp; first | done | with_reducible rfl)
              try simp only [Act.put, List.setIfInBounds_toArray, List.set_cons_zero, List.set_cons_succ]
              refine wpAnyH_take (i := 14) (oi := ?_) (v := ?_) ?_ (by kernel_rfl) (by kernel_rfl) (by kernel_rfl) ?_ (Or.inl ⟨?_, ?_⟩) hHeld ?_
              rotate_left 2
              · (simp only [List.getElem?_toArray, List.getElem?_cons_succ, List.getElem?_cons_zero]; rfl)
              · exact fun _ _ _ h => h
              · rfl
              · (rintro W' ⟨s0, s1, s2, s3, s4, s5, s6, s7, s8, s9⟩; go_simp; first | done | with_reducible rfl)
              try simp only [Act.put, List.setIfInBounds_toArray, List.set_cons_zero, List.set_cons_succ]
              refine wpAnyH_take (i := 15) (oi := ?_) (v := ?_) ?_ (by kernel_rfl) (by kernel_rfl) (by kernel_rfl) ?_ (Or.inl ⟨?_, ?_⟩) hHeld ?_
              rotate_left 2
              · (simp only [List.getElem?_toArray, List.getElem?_cons_succ, List.getElem?_cons_zero]; rfl)
              · exact fun _ _ _ h => h
              · rfl
              · (rintro W' ⟨s0, s1, s2, s3, s4, s5, s6, s7, s8, s9⟩; go_simp; first | done | with_reducible rfl)
              try simp only [Act.put, List.setIfInBounds_toArray, List.set_cons_zero, List.set_cons_succ]
              refine wpAnyH_take (i := 16) (oi := ?_) (v := ?_) ?_ (by kernel_rfl) (by kernel_rfl) (by kernel_rfl) ?_ (Or.inl ⟨?_, ?_⟩) hHeld ?_
              rotate_left 2
              · (simp only [List.getElem?_toArray, List.getElem?_cons_succ, List.getElem?_cons_zero]; rfl)
              · exact fun _ _ _ h => h
              · rfl
              · (rintro W' ⟨s0, s1, s2, s3, s4, s5, s6, s7, s8, s9⟩; go_simp; first | done | with_reducible rfl)
              try simp only [Act.put, List.setIfInBounds_toArray, List.set_cons_zero, List.set_cons_succ]
              refine wpAnyH_take (i := 17) (oi := ?_) (v := ?_) ?_ (by kernel_rfl) (by kernel_rfl) (by kernel_rfl) ?_ (Or.inl ⟨?_, ?_⟩) hHeld ?_
              rotate_left 2
              · (simp only [List.getElem?_toArray, List.getElem?_cons_succ, List.getElem?_cons_zero]; rfl)
              · exact fun _ _ _ h => h
              · rfl
              · (rintro W' ⟨s0, s1, s2, s3, s4, s5, s6, s7, s8, s9⟩; go_simp; first | done | with_reducible rfl)
              try simp only [Act.put, List.setIfInBounds_toArray, List.set_cons_zero, List.set_cons_succ]
              refine wpAnyH_take (i := 18) (oi := ?_) (v := ?_) ?_ (by kernel_rfl) (by kernel_rfl) (by kernel_rfl) ?_ (Or.inl ⟨?_, ?_⟩) hHeld ?_
              rotate_left 2
              · (simp only [List.getElem?_toArray, List.getElem?_cons_succ, List.getElem?_cons_zero]; rfl)
              · exact fun _ _ _ h => h
              · rfl
              · (rintro W' ⟨s0, s1, s2, s3, s4, s5, s6, s7, s8, s9⟩; go_simp; first | done | with_reducible rfl)
              try simp only [Act.put, List.setIfInBounds_toArray, List.set_cons_zero, List.set_cons_succ]
              refine wpAnyH_ready (rs := [19]) (by kernel_rfl) (by simp) ?_
              refine AllReadyH.cons (o := ?_) ?_ (fun K hK => ?_) AllReadyH.nil
              rotate_left 1
              · (simp only [List.getElem?_toArray, List.getElem?_cons_succ, List.getElem?_cons_zero]; rfl)
              · (go_simp; have cS := equal_at (HX9.out.bytes HDD.out.1 HDD.out.2) (HB.out.chg HT9.out (by simp)); rw [show eqF n n fd fd = true from eqF_iff.2 ⟨rfl, fun _ _ => rfl⟩] at cS; refine cS.mono ?_; clear cS; rintro e wa ⟨rfl, rfl⟩)
                refine hK.out _ _ ?_ (fun hHeld => ?_)
                · exact ⟨(HT9.out.cell (p := ⟨b, off + k * 5, none⟩) HBB.out (by simp)).trans HU.out.1, (HT9.out.cell (p := ⟨b, off + k * 5 + 1, none⟩) HBB.out (by simp)).trans HU.out.2.1, (HT9.out.cell (p := ⟨b, off + k * 5 + 2, none⟩) HBB.out (by simp)).trans HU.out.2.2.1, (HT9.out.cell (p := ⟨b, off + k * 5 + 3, none⟩) HBB.out (by simp)).trans HU.out.2.2.2.1, (HT9.out.cell (p := ⟨b, off + k * 5 + 4, none⟩) HBB.out (by simp)).trans HU.out.2.2.2.2, (cell_of_block HK9.out 0).trans rfl, (cell_of_block HK9.out 1).trans rfl, (cell_of_block HK9.out 2).trans rfl, (cell_of_block HK9.out 3).trans rfl, (cell_of_block HK9.out 4).trans rfl⟩
                clear hK K
                try simp only [Act.put, List.setIfInBounds_toArray, List.set_cons_zero, List.set_cons_succ]
                refine wpAnyH_take (i := 20) (oi := ?_) (v := ?_) ?_ (by kernel_rfl) (by kernel_rfl) (by kernel_rfl) ?_ (Or.inl ⟨?_, ?_⟩) hHeld ?_
                rotate_left 2
                · (simp only [List.getElem?_toArray, List.getElem?_cons_succ, List.getElem?_cons_zero]; rfl)
                · exact fun _ _ _ h => h
                · rfl
                · (rintro W' ⟨s0, s1, s2, s3, s4, s5, s6, s7, s8, s9⟩; go_simp; first | done | with_reducible rfl)
                try simp only [Act.put, List.setIfInBounds_toArray, List.set_cons_zero, List.set_cons_succ]
                refine wpAnyH_take (i := 21) (oi := ?_) (v := ?_) ?_ (by kernel_rfl) (by kernel_rfl) (by kernel_rfl) ?_ (Or.inl ⟨?_, ?_⟩) hHeld ?_
                rotate_left 2
                · (simp only [List.getElem?_toArray, List.getElem?_cons_succ, List.getElem?_cons_zero]; rfl)
                · exact fun _ _ _ h => h
                · rfl
                · (rintro W' ⟨s0, s1, s2, s3, s4, s5, s6, s7, s8, s9⟩; go_simp; first | done | with_reducible rfl)
                try simp only [Act.put, List.setIfInBounds_toArray, List.set_cons_zero, List.set_cons_succ]
                refine wpAnyH_done (by kernel_rfl) ?_ _
                have hX : TelR w w9 p q (k + 1) sz L7 L8 (stOf S (z1 k)) R8 vv8 :=
                  { m := HM9.out
                    r := HR9.out
                    rel := HE8.out
                    ap := fun x hx hy => by
                      rcases HL8.out x hy with h | h
                      · rcases HL7.out x hx with h' | h'
                        · exact HTW.out.ap x h' h
                        · have h1 := HTW.out.r.lt x h; have h2 : W.heap.size ≤ x := h'; omega
                      · have h1 := HM7.out.lt x hx; omega
                    nm := fun x hx => by
                      rcases HL7.out x hx with h | h
                      · exact HTW.out.nm x h
                      · have h1 := HTW.out.chg.size; have h2 : W.heap.size ≤ x := h; omega
                    nr := fun x hx => by
                      rcases HL8.out x hx with h | h
                      · exact HTW.out.nr x h
                      · have h1 := HT7.out.size; omega
                    last := by have := (st_last S (z1 k)).2; have := HTW.out.last; omega
                    size := by rw [st_size]; exact HTW.out.size
                    chg := HT9.out }
                have HNX : Hid (bd ∉ L7 ∧ bd ∉ L8 ∧ bd ≠ ob ∧ w.heap.size ≤ bd) := Lib.hid ⟨fun h => by
                    rcases HL7.out bd h with h | h
                    · exact (HNM.out bd h).2 rfl
                    · have h2 : W.heap.size ≤ bd := h; have := HLW.out.2; omega, fun h => by
                    rcases HL8.out bd h with h | h
                    · exact (HNR.out bd h).2 rfl
                    · have h1 := HC7.out.size; have := HLW.out.2; omega, fun e => by have := HLT.out.1; omega, by have := HT.out.chg.size; have := HOB.out; have := HLT.out.1; omega⟩
                have HX := Lib.hid hX
                clear hX HM8 HM9 HR8 HR9 HT8 HT9 HT7 HK7 HK8 HX7 HX8 HB7 HB8 HB78 HF7 HC7 HR7 HM7 f0 f1 f2 f3 f4 r0 r1 r2 r3 r4
                have hk9 := HK9.out
                have v0 := cell_of_block hk9 0
                have v1 := cell_of_block hk9 1
                have v2 := cell_of_block hk9 2
                have v3 := cell_of_block hk9 3
                have v4 := cell_of_block hk9 4
                simp only [List.getElem?_toArray, List.getElem?_cons_zero, List.getElem?_cons_succ] at v0 v1 v2 v3 v4
                clear hk9 v0 v1 v2 v3
                go_wp2_with fail
                go_loopg [89] n (fun gg s wr => ∃ j : Nat, gg = n - j ∧ j ≤ n ∧ s = .int .i64 (j : Int) ∧ Hid (∃ f, U8Blk wr bd n f ∧ Chg [bd] w9 wr))
                case atStart => exact ⟨0, rfl, Nat.zero_le _, by go_num, ⟨_, HX9.out, Chg.refl _ _⟩⟩
                case round =>
                  obtain ⟨j, hgj, hjn, rfl, hY⟩ := hrel
                  obtain ⟨wi, rfl⟩ : ∃ wi : World, wi = wr := ⟨_, rfl⟩
                  obtain ⟨f, hf, hci⟩ := hY.out
                  have HF := Lib.hid (And.intro hf hci)
                  have HGJ := Lib.hid hgj
                  clear hf hci hY hgj v4
                  by_cases hj : j < n
                  case' pos =>
                    obtain ⟨x, hx⟩ : ∃ x, x = f j := ⟨_, rfl⟩
                    have cb := (HF.out.1.cell hj).1
                    rw [← hx] at cb
                    obtain ⟨y, hy, ey⟩ := u8_up (x := x) (by rw [hx]; exact (HF.out.1.cell hj).2)
                    have fb := HF.out.1.frozen hj
                    have lb := HF.out.1.lt
                    have hk9 := (HF.out.2.block ob (heap_lt HK9.out) (by simp only [List.mem_singleton]; exact fun e => HNX.out.2.2.1 e.symm)).trans HK9.out
                    have v4 : wi.cell? ⟨ob, 4, none⟩ = some (.slice (some ⟨bd, 0, none⟩) n nd) := (cell_of_block hk9 4).trans rfl
                    have hP := HF.out.1.put (j := j) hy
                    have hQ : Chg [bd] w9 (wi.setCell ⟨bd, j, none⟩ (.int .u8 (y : Int))) := HF.out.2.setCell (.inl (by simp)) _
                    have HP := Lib.hid (And.intro hP hQ)
                    have i3 : (j : Int) < (n : Int) := by omega
                    clear hx hk9 hP hQ hy
                    go_wp2_with fail
                    go_roundg (n - (j + 1))
                    case measure => rw [HGJ.out]; omega
                    case rel => exact ⟨j + 1, rfl, by omega, by go_num, ⟨_, HP.out⟩⟩
                  case' neg =>
                    obtain rfl : j = n := by omega
                    have HXX : Hid (TelR w wi p q (k + 1) sz L7 L8 (stOf S (z1 k)) R8 vv8) := Lib.hid
                      { m := HX.out.m.chg HF.out.2 (fun x hx hm => by simp only [List.mem_singleton] at hm; subst hm; exact HNX.out.1 hx)
                        r := HX.out.r.chg HF.out.2 (fun x hx hm => by simp only [List.mem_singleton] at hm; subst hm; exact HNX.out.2.1 hx)
                        rel := HX.out.rel, ap := HX.out.ap, nm := HX.out.nm, nr := HX.out.nr, last := HX.out.last, size := HX.out.size
                        chg := HX.out.chg.then HF.out.2 (fun i hi => by simp only [List.mem_singleton] at hi; subst hi; exact .inr HNX.out.2.2.2) }
                    go_wp2_with fail
                    go_roundg (m - (k + 1))
                    case measure => rw [HGG.out]; omega
                    case rel => exact ⟨k + 1, rfl, by omega, by go_num, ⟨_, _, _, _, _, HXX.out⟩⟩
      case' neg =>
        obtain rfl : k = m := by omega
        have CV := Lib.hid (volumes_at HT.out.m (by have := HK.out; omega))
        by_cases hlm : len1 ≤ 40
        case' pos =>
          have em : ¬ ((k : Int) < (len1 : Int)) := by omega
        case' neg =>
          have em : (k : Int) < (len1 : Int) := by omega
          have em2 : ¬ ((k : Int) < 40) := by omega
        all_goals
          clear hlm hm hk
          go_wp2_with fail
          refine CV.out.mono ?_
          clear CV
          rintro e w3 ⟨v, l, rfl, hI, hU, hlN, hC3⟩
          have hle : l = R.vols.map (fun x => x.1) := id_eq hI HT.out.rel.ids
          obtain ⟨n, hn⟩ : ∃ n, n = R.vols.length := ⟨_, rfl⟩
          have hnl : l.length = n := by rw [hle, hn, List.length_map]
          have hsv : ∃ a c, v = .slice a l.length c := by
            rcases hU with ⟨q, e⟩ | ⟨_, g, c, e, _⟩
            · exact ⟨none, 0, by rw [e, q]; rfl⟩
            · exact ⟨_, c, e⟩
          obtain ⟨av, cv, rfl⟩ := hsv
          have HT3 := Lib.hid (HT.out.step hC3)
          have HU := Lib.hid hU
          have HLE := Lib.hid hle
          have HNL := Lib.hid (And.intro hn hnl)
          have hn6 : n ≤ 1000000 := by rw [hn]; have := HT.out.r.bv; have := HK.out; omega
          obtain ⟨ar, cr, hvv, _, _⟩ := ownRow_slice HT3.out.r.vols
          have hblk := HT3.out.r.blk
          rw [hvv, ← hn] at hblk
          rw [hnl]
          have Hvv := Lib.hid hvv
          obtain ⟨la, hla⟩ : ∃ la, la = R.last := ⟨_, rfl⟩
          have hsz := HT3.out.size
          have hrs := HT3.out.rel.size
          rw [← hla, ← hrs, hsz] at hblk
          have Hd := Lib.hid (quiet_size HT3.out.m hsz)
          have He := Lib.hid (quiet_last HT3.out.m (m := la) (by rw [hla]; exact HT3.out.rel.last))
          have HBK := Lib.hid hblk
          have q0 : ((n : Int) == (n : Int)) = true := by simp
          have c0 := cell_of_block hblk 0
          have c1 := cell_of_block hblk 1
          have c2 := cell_of_block hblk 2
          simp only [List.getElem?_toArray, List.getElem?_cons_zero, List.getElem?_cons_succ] at c0 c1 c2
          clear hI hU hlN hC3 hle hn hnl hvv hla hsz hrs hblk
          go_upto_region 20 with fail
          go_quiet (first | (go_at_call 21; exact Hd.out _) | (go_at_call 22; exact He.out _))
          have HT4 := Lib.hid (HT3.out.step (Chg.drewN (Chg.refl [] w3) nq))
          have HU4 : Hid (ListU (w3.drewN nq) wo.heap.size (.slice av l.length cv) l) := Lib.hid (HU.out.chg (Chg.drewN (Chg.refl [] w3) nq) (by simp))
          have HBK4 : Hid ((w3.drewN nq).heap[q]? = some (.cells #[.int .u64 (sz : Int), .int .u64 (la : Int), .slice ar n cr] 44 (0, 0))) := Lib.hid HBK.out
          clear c0 c1 c2 Hd He HBK HT3
          generalize w3.drewN nq = w4 at *
          have hb4 := HBK4.out
          have c0 := cell_of_block hb4 0
          have c1 := cell_of_block hb4 1
          have c2 := cell_of_block hb4 2
          simp only [List.getElem?_toArray, List.getElem?_cons_zero, List.getElem?_cons_succ] at c0 c1 c2
          clear hb4 c0 c1
          go_wp2_with fail
          go_loopg [130] n (fun gg s wr => ∃ k : Nat, gg = n - k ∧ k ≤ n ∧ s = .int .i64 (k : Int) ∧ Hid (Chg [] w4 wr))
          case atStart => exact ⟨0, rfl, Nat.zero_le _, by go_num, Lib.hid (Chg.refl _ _)⟩
          case round =>
            obtain ⟨i, hgi, hin, rfl, hX⟩ := hrel
            obtain ⟨wi, rfl⟩ : ∃ wi : World, wi = wr := ⟨_, rfl⟩
            have HC := Lib.hid hX.out
            have HGI := Lib.hid hgi
            clear hX hgi c2
            by_cases hi : i < n
            case' neg =>
              obtain rfl : i = n := by omega
              go_wp2_with fail
              refine (awake24_at).mono ?_
              rintro e wz ⟨rfl, hZ⟩
              have HZ := Lib.hid ((HT4.out.chg.trans HC.out).trans hZ)
              clear hZ
              go_wp2_with fail
              go_ret
              exact law_ok HZ.out
            case' pos =>
              have hil : i < R.vols.length := by rw [← HNL.out.1]; exact hi
              obtain ⟨g, cg, e1, _, hgl, d0, d1⟩ := (HT4.out.r.chg HC.out (by simp)).cell hil
              rw [Hvv.out] at e1
              injection e1 with e1a e1b e1c
              subst e1a
              obtain ⟨id, hid⟩ : ∃ id, id = (R.vols[i]!).1 := ⟨_, rfl⟩
              obtain ⟨pv, hpv⟩ : ∃ pv, pv = (R.vols[i]!).2.1 := ⟨_, rfl⟩
              obtain ⟨ps, hps⟩ : ∃ ps, ps = (R.vols[i]!).2.2 := ⟨_, rfl⟩
              rw [← hid] at d0
              rw [← hpv] at d1
              have hmem : R.vols[i]! ∈ R.vols := by rw [getElem!_pos R.vols i hil]; exact List.getElem_mem _
              have hpu := HT4.out.r.puts _ hmem
              rw [← hpv, ← hps] at hpu
              obtain ⟨ap, cp, hpe, _, _⟩ := ownRow_slice hpu.1
              obtain ⟨np, hnp⟩ : ∃ np, np = ps.length := ⟨_, rfl⟩
              rw [← hnp] at hpe
              rw [hpe] at hpu d1
              have hvr := HT4.out.rel.vol _ hmem
              rw [← hid, ← hps] at hvr
              have hbp := HT4.out.r.bp _ hmem
              rw [← hps] at hbp
              have hl0 : l ≠ [] := fun e => by have := HNL.out.2; rw [e] at this; simp at this; omega
              obtain ⟨gl, cl, e2, _, hcl⟩ := HU4.out.cell hl0
              injection e2 with e2a e2b e2c
              subst e2a
              have hgl2 : gl < w4.heap.size := World.block_lt_of_cell? w4 ⟨gl, i, none⟩ (hcl i (by rw [HNL.out.2]; exact hi))
              have hli : l[i]! = id := by rw [HLE.out, getElem!_pos _ i (by rw [List.length_map]; exact hil), List.getElem_map, hid, getElem!_pos R.vols i hil]
              have c0 := (HC.out.cell (p := ⟨gl, i, none⟩) hgl2 (by simp)).trans (hcl i (by rw [HNL.out.2]; exact hi))
              rw [hli] at c0
              have hmi : id ∈ l := by rw [← hli, getElem!_pos l i (by rw [HNL.out.2]; exact hi)]; exact List.getElem_mem _
              have hidl := (id_lt HT4.out.m (by rw [HLE.out]; exact HT4.out.rel.ids) id hmi).2
              obtain ⟨D, hD⟩ : ∃ D, S.vols (kU id) = some D := by
                have := (HT4.out.rel.ids.2 id).1 (by rw [← HLE.out]; exact hmi)
                exact Option.isSome_iff_exists.1 this
              rw [volOf_is hD] at hvr
              have HID := Lib.hid hidl
              have HD := Lib.hid hD
              have HVR := Lib.hid hvr
              have HPU := Lib.hid hpu
              have HBP : Hid (ps.length ≤ 1000000) := Lib.hid (by have := HK.out; omega)
              have i1 : (i : Int) < (n : Int) := by omega
              have HGL := Lib.hid (And.intro hgl2 (hcl i (by rw [HNL.out.2]; exact hi)))
              have HLI := Lib.hid hli
              clear hil hid hpv hps hpe hnp hmem hpu hvr hbp hl0 hcl hli hmi hidl hD e1b e1c e2b e2c hgl hgl2
              go_upto_region 25 with fail
              have hcv : Chg [] wi (wi.alloc (.cells #[.int .u64 (id : Int), .slice ap np cp] 52)) := (Chg.refl [] wi).alloc _
              have hV := new_block wi (.cells #[.int .u64 (id : Int), .slice ap np cp] 52)
              obtain ⟨bv, hbv⟩ : ∃ bv, bv = wi.heap.size := ⟨_, rfl⟩
              rw [← hbv] at hV ⊢
              clear hbv
              generalize wi.alloc (.cells #[.int .u64 (id : Int), .slice ap np cp] 52) = V at *
              have HCV := Lib.hid (HC.out.trans hcv)
              have k0 := (HCV.out.cell (p := ⟨gl, i, none⟩) HGL.out.1 (by simp)).trans HGL.out.2
              rw [HLI.out] at k0
              have HV := Lib.hid hV
              have v0 := cell_of_block hV 0
              have v1 := cell_of_block hV 1
              simp only [List.getElem?_toArray, List.getElem?_cons_zero, List.getElem?_cons_succ] at v0 v1
              clear hcv hV c0 d0 d1
              refine wp_region_held_drew (S := fun W' => W'.cell? ⟨gl, i, none⟩ = some (.int .u64 (id : Int)) ∧ W'.cell? ⟨bv, 0, none⟩ = some (.int .u64 (id : Int)) ∧ W'.cell? ⟨bv, 1, none⟩ = some (.slice ap np cp)) (by kernel_rfl) (by exact ⟨k0, v0, v1⟩) (fun hHeld => ?_)
              refine wpAnyH_take (i := 0) (oi := ?_) (v := ?_) ?_ (by kernel_rfl) (by kernel_rfl) (by kernel_rfl) ?_ (Or.inl ⟨?_, ?_⟩) hHeld ?_
              rotate_left 2
              · (simp only [List.getElem?_toArray, List.getElem?_cons_succ, List.getElem?_cons_zero]; rfl)
              · exact fun _ _ _ h => h
              · rfl
              · (rintro W' ⟨s0, s1, s2⟩; go_simp; first | done | with_reducible rfl)
              try simp only [Act.put, List.setIfInBounds_toArray, List.set_cons_zero, List.set_cons_succ]
              refine wpAnyH_take (i := 1) (oi := ?_) (v := ?_) ?_ (by kernel_rfl) (by kernel_rfl) (by kernel_rfl) ?_ (Or.inl ⟨?_, ?_⟩) hHeld ?_
              rotate_left 2
              · (simp only [List.getElem?_toArray, List.getElem?_cons_succ, List.getElem?_cons_zero]; rfl)
              · exact fun _ _ _ h => h
              · rfl
              · (rintro W' ⟨s0, s1, s2⟩; go_simp; first | done | with_reducible rfl)
              try simp only [Act.put, List.setIfInBounds_toArray, List.set_cons_zero, List.set_cons_succ]
              refine wpAnyH_take (i := 2) (oi := ?_) (v := ?_) ?_ (by kernel_rfl) (by kernel_rfl) (by kernel_rfl) ?_ (Or.inl ⟨?_, ?_⟩) hHeld ?_
              rotate_left 2
              · (simp only [List.getElem?_toArray, List.getElem?_cons_succ, List.getElem?_cons_zero]; rfl)
              · exact fun _ _ _ h => h
              · rfl
              · (rintro W' ⟨s0, s1, s2⟩; go_simp; first | done | with_reducible rfl)
              try simp only [Act.put, List.setIfInBounds_toArray, List.set_cons_zero, List.set_cons_succ]
              refine wpAnyH_take (i := 3) (oi := ?_) (v := ?_) ?_ (by kernel_rfl) (by kernel_rfl) (by kernel_rfl) ?_ (Or.inl ⟨?_, ?_⟩) hHeld ?_
              rotate_left 2
              · (simp only [List.getElem?_toArray, List.getElem?_cons_succ, List.getElem?_cons_zero]; rfl)
              · exact fun _ _ _ h => h
              · rfl
              · (rintro W' ⟨s0, s1, s2⟩; go_simp; first | done | with_reducible rfl)
              try simp only [Act.put, List.setIfInBounds_toArray, List.set_cons_zero, List.set_cons_succ]
              refine wpAnyH_take (i := 4) (oi := ?_) (v := ?_) ?_ (by kernel_rfl) (by kernel_rfl) (by kernel_rfl) ?_ (Or.inl ⟨?_, ?_⟩) hHeld ?_
              rotate_left 2
              · (simp only [List.getElem?_toArray, List.getElem?_cons_succ, List.getElem?_cons_zero]; rfl)
              · exact fun _ _ _ h => h
              · rfl
              · (rintro W' ⟨s0, s1, s2⟩; go_simp; first | done | with_reducible rfl)
              try simp only [Act.put, List.setIfInBounds_toArray, List.set_cons_zero, List.set_cons_succ]
              refine wpAnyH_take (i := 5) (oi := ?_) (v := ?_) ?_ (by kernel_rfl) (by kernel_rfl) (by kernel_rfl) ?_ (Or.inl ⟨?_, ?_⟩) hHeld ?_
              rotate_left 2
              · (simp only [List.getElem?_toArray, List.getElem?_cons_succ, List.getElem?_cons_zero]; rfl)
              · exact fun _ _ _ h => h
              · rfl
              · (rintro W' ⟨s0, s1, s2⟩; go_simp; first | done | with_reducible rfl)
              try simp only [Act.put, List.setIfInBounds_toArray, List.set_cons_zero, List.set_cons_succ]
              refine wpAnyH_take (i := 6) (oi := ?_) (v := ?_) ?_ (by kernel_rfl) (by kernel_rfl) (by kernel_rfl) ?_ (Or.inl ⟨?_, ?_⟩) hHeld ?_
              rotate_left 2
              · (simp only [List.getElem?_toArray, List.getElem?_cons_succ, List.getElem?_cons_zero]; rfl)
              · exact fun _ _ _ h => h
              · rfl
              · (rintro W' ⟨s0, s1, s2⟩; go_simp; first | done | with_reducible rfl)
              try simp only [Act.put, List.setIfInBounds_toArray, List.set_cons_zero, List.set_cons_succ]
              refine wpAnyH_take (i := 7) (oi := ?_) (v := ?_) ?_ (by kernel_rfl) (by kernel_rfl) (by kernel_rfl) ?_ (Or.inl ⟨?_, ?_⟩) hHeld ?_
              rotate_left 2
              · (simp only [List.getElem?_toArray, List.getElem?_cons_succ, List.getElem?_cons_zero]; rfl)
              · exact fun _ _ _ h => h
              · rfl
              · (rintro W' ⟨s0, s1, s2⟩; go_simp; first | done | with_reducible rfl)
              try simp only [Act.put, List.setIfInBounds_toArray, List.set_cons_zero, List.set_cons_succ]
              refine wpAnyH_take (i := 8) (oi := ?_) (v := ?_) ?_ (by kernel_rfl) (by kernel_rfl) (by kernel_rfl) ?_ (Or.inl ⟨?_, ?_⟩) hHeld ?_
              rotate_left 2
              · (simp only [List.getElem?_toArray, List.getElem?_cons_succ, List.getElem?_cons_zero]; rfl)
              · exact fun _ _ _ h => h
              · rfl
              · (rintro W' ⟨s0, s1, s2⟩; go_simp; first | done | with_reducible rfl)
              try simp only [Act.put, List.setIfInBounds_toArray, List.set_cons_zero, List.set_cons_succ]
              refine wpAnyH_take (i := 9) (oi := ?_) (v := ?_) ?_ (by kernel_rfl) (by kernel_rfl) (by kernel_rfl) ?_ (Or.inl ⟨?_, ?_⟩) hHeld ?_
              rotate_left 2
              · (simp only [List.getElem?_toArray, List.getElem?_cons_succ, List.getElem?_cons_zero]; rfl)
              · exact fun _ _ _ h => h
              · rfl
              · (rintro W' ⟨s0, s1, s2⟩; go_simp; first | done | with_reducible rfl)
              try simp only [Act.put, List.setIfInBounds_toArray, List.set_cons_zero, List.set_cons_succ]
              refine wpAnyH_take (i := 10) (oi := ?_) (v := ?_) ?_ (by kernel_rfl) (by kernel_rfl) (by kernel_rfl) ?_ (Or.inl ⟨?_, ?_⟩) hHeld ?_
              rotate_left 2
              · (simp only [List.getElem?_toArray, List.getElem?_cons_succ, List.getElem?_cons_zero]; rfl)
              · exact fun _ _ _ h => h
              · rfl
              · (rintro W' ⟨s0, s1, s2⟩; go_simp; first | done | with_reducible rfl)
              try simp only [Act.put, List.setIfInBounds_toArray, List.set_cons_zero, List.set_cons_succ]
              refine wpAnyH_take (i := 12) (oi := ?_) (v := ?_) ?_ (by kernel_rfl) (by kernel_rfl) (by kernel_rfl) ?_ (Or.inl ⟨?_, ?_⟩) hHeld ?_
              rotate_left 2
              · (simp only [List.getElem?_toArray, List.getElem?_cons_succ, List.getElem?_cons_zero]; rfl)
              · exact fun _ _ _ h => h
              · rfl
              · (rintro W' ⟨s0, s1, s2⟩; go_simp; first | done | with_reducible rfl)
              try simp only [Act.put, List.setIfInBounds_toArray, List.set_cons_zero, List.set_cons_succ]
              refine wpAnyH_ready (rs := [11]) (by kernel_rfl) (by simp) ?_
              refine AllReadyH.cons (o := ?_) ?_ (fun K hK => ?_) AllReadyH.nil
              rotate_left 1
              · (simp only [List.getElem?_toArray, List.getElem?_cons_succ, List.getElem?_cons_zero]; rfl)
              · (go_simp; have cD := places_at ((HT4.out.m.chg HCV.out (by simp)).chg (Chg.refl [] V).drew (by simp)) (by have := HK.out; omega) HID.out; refine cD.mono ?_; clear cD; rintro e w7 ⟨v7, l7, rfl, hp7, hu7, hC7⟩; rw [HD.out] at hp7; have HC7 := Lib.hid (((HCV.out).drew).trans hC7); have HP7 := Lib.hid hp7; have HU7 := Lib.hid hu7; have HK7 := Lib.hid ((hC7.block bv (heap_lt HV.out) (by simp)).trans HV.out); clear hC7 hp7 hu7)
                refine hK.out _ _ ?_ (fun hHeld => ?_)
                · exact ⟨by have := (HC7.out.cell (p := ⟨gl, i, none⟩) HGL.out.1 (by simp)).trans HGL.out.2; rw [HLI.out] at this; exact this, (cell_of_block HK7.out 0).trans rfl, (cell_of_block HK7.out 1).trans rfl⟩
                clear hK K
                try simp only [Act.put, List.setIfInBounds_toArray, List.set_cons_zero, List.set_cons_succ]
                refine wpAnyH_ready (rs := [13]) (by kernel_rfl) (by simp) ?_
                refine AllReadyH.cons (o := ?_) ?_ (fun K hK => ?_) AllReadyH.nil
                rotate_left 1
                · (simp only [List.getElem?_toArray, List.getElem?_cons_succ, List.getElem?_cons_zero]; rfl)
                · (go_simp; have cD := r24Places_at (id := id) (HPU.out.chg HC7.out (by simp)) HBP.out; refine cD.mono ?_; clear cD; rintro e w8 ⟨v8, l8, rfl, hp8, ho8, hl8, hC8⟩; have HC8 := Lib.hid (HC7.out.trans hC8); have HP8 := Lib.hid hp8; have HO8 := Lib.hid ho8; have HU8 := Lib.hid (HU7.out.chg hC8 (by simp)); have HK8 := Lib.hid ((hC8.block bv (heap_lt HK7.out) (by simp)).trans HK7.out); clear hC8 hp8 ho8 hl8)
                  refine hK.out _ _ ?_ (fun hHeld => ?_)
                  · exact ⟨by have := (HC8.out.cell (p := ⟨gl, i, none⟩) HGL.out.1 (by simp)).trans HGL.out.2; rw [HLI.out] at this; exact this, (cell_of_block HK8.out 0).trans rfl, (cell_of_block HK8.out 1).trans rfl⟩
                  clear hK K
                  try simp only [Act.put, List.setIfInBounds_toArray, List.set_cons_zero, List.set_cons_succ]
                  refine wpAnyH_ready (rs := [14]) (by kernel_rfl) (by simp) ?_
                  refine AllReadyH.cons (o := ?_) ?_ (fun K hK => ?_) AllReadyH.nil
                  rotate_left 1
                  · (simp only [List.getElem?_toArray, List.getElem?_cons_succ, List.getElem?_cons_zero]; rfl)
                  · (go_simp; have hpl := HVR.out.pl HP8.out; have g := good_of HT4.out.m HD.out; have cS := eqNums2_at HU8.out HO8.out (pl_eq HP7.out hpl (fun _ => rfl)) (fun x hx => by obtain ⟨y, hy, e⟩ := g.2 _ ((hpl.2 x).1 hx); have := kU_inj e; omega) (by rw [← pl_size g HP7.out]; have := vol_size HT4.out.m HD.out; have := HK.out; omega); refine cS.mono ?_; clear cS hpl g; rintro e w9 ⟨rfl, hC9⟩; have HC9 := Lib.hid (HC8.out.trans hC9); have HK9 := Lib.hid ((hC9.block bv (heap_lt HK8.out) (by simp)).trans HK8.out); clear hC9)
                    refine hK.out _ _ ?_ (fun hHeld => ?_)
                    · exact ⟨by have := (HC9.out.cell (p := ⟨gl, i, none⟩) HGL.out.1 (by simp)).trans HGL.out.2; rw [HLI.out] at this; exact this, (cell_of_block HK9.out 0).trans rfl, (cell_of_block HK9.out 1).trans rfl⟩
                    clear hK K
                    try simp only [Act.put, List.setIfInBounds_toArray, List.set_cons_zero, List.set_cons_succ]
                    refine wpAnyH_take (i := 15) (oi := ?_) (v := ?_) ?_ (by kernel_rfl) (by kernel_rfl) (by kernel_rfl) ?_ (Or.inl ⟨?_, ?_⟩) hHeld ?_
                    rotate_left 2
                    · (simp only [List.getElem?_toArray, List.getElem?_cons_succ, List.getElem?_cons_zero]; rfl)
                    · exact fun _ _ _ h => h
                    · rfl
                    · (rintro W' ⟨s0, s1, s2⟩; go_simp; first | done | with_reducible rfl)
                    try simp only [Act.put, List.setIfInBounds_toArray, List.set_cons_zero, List.set_cons_succ]
                    refine wpAnyH_take (i := 16) (oi := ?_) (v := ?_) ?_ (by kernel_rfl) (by kernel_rfl) (by kernel_rfl) ?_ (Or.inl ⟨?_, ?_⟩) hHeld ?_
                    rotate_left 2
                    · (simp only [List.getElem?_toArray, List.getElem?_cons_succ, List.getElem?_cons_zero]; rfl)
                    · exact fun _ _ _ h => h
                    · rfl
                    · (rintro W' ⟨s0, s1, s2⟩; go_simp; first | done | with_reducible rfl)
                    try simp only [Act.put, List.setIfInBounds_toArray, List.set_cons_zero, List.set_cons_succ]
                    refine wpAnyH_done (by kernel_rfl) ?_ _
                    go_wp2_with fail
                    go_roundg (n - (i + 1))
                    case measure => rw [HGI.out]; omega
                    case rel => exact ⟨i + 1, rfl, by omega, by go_num, Lib.hid HC9.out⟩

end Go.Proofs.Ytbejcmbdaoakbaa
