/- catchmentlaw24.ModelCopy: the walk. (Printed by mkmcp.py.) -/
import Derived.Test.YtbejcmbdaoakbaaLRef
namespace Go.Proofs.Ytbejcmbdaoakbaa
open Go.RowKit Go.Maps
set_option linter.unusedVariables false
set_option linter.unusedSimpArgs false

theorem last_le (S : St) (o : Opn) : S.last ≤ (stOf S o).last := by
  by_cases he : errOf S o = 0
  · rw [stOf_ok he]
    split
    · exact Nat.le_succ _
    split
    · exact Nat.le_refl _
    split
    · exact Nat.le_succ _
    split
    · exact Nat.le_refl _
    split <;> exact Nat.le_refl _
  · rw [st_err he]; exact Nat.le_refl _
theorem last_up {S : St} {o : Opn} (he : errOf S o = 0) (h : o.code = 1 ∨ o.code = 3) : S.last < (stOf S o).last := by
  rw [stOf_ok he]
  rcases h with h | h
  · simp [h, St.made]
  · simp [h, St.made]
theorem stEq_last {S T : St} (h : S.last < T.last) : stEq T S = false := by
  unfold stEq
  rw [decide_eq_false (show ¬ T.last = S.last by omega)]
  simp

/-- Under way: m and its copy a have the state T, b has S. -/
structure CopR (w wr : World) (p q r k : Nat) (L La Lb : List Nat) (S T : St) (ch : Bool) : Prop where
  m : MdAt (60 + k) L wr p T
  a : MdAt (60 + k) La wr q T
  b : MdAt 60 Lb wr r S
  ma : ∀ x, x ∈ L → x ∉ La
  mb : ∀ x, x ∈ L → x ∉ Lb
  ab : ∀ x, x ∈ La → x ∉ Lb
  nm : ∀ x, x ∈ L → w.heap.size ≤ x
  na : ∀ x, x ∈ La → w.heap.size ≤ x
  nb : ∀ x, x ∈ Lb → w.heap.size ≤ x
  ch : ch = true → S.last < T.last
  le : S.last ≤ T.last
  chg : Chg [] w wr

theorem CopR.step {w wr w' : World} {p q r k : Nat} {L La Lb : List Nat} {S T : St} {ch : Bool} (h : CopR w wr p q r k L La Lb S T ch) (c : Chg [] wr w') : CopR w w' p q r k L La Lb S T ch :=
  { h with m := h.m.chg c (by simp), a := h.a.chg c (by simp), b := h.b.chg c (by simp), chg := h.chg.trans c }

set_option maxRecDepth 20000 in
set_option maxHeartbeats 8000000 in
theorem modelCopy_walk (a0 : Int) (a1 : Option Addr) (len1 cap1 : Nat) (z1 : Nat → Opn) (a2 : Option Addr) (len2 cap2 : Nat) (z2 : Nat → Opn) (w : World) (h0 : (Lit.int .u8 a0).wf = true) (h1 : IsOps w a1 len1 cap1 z1) (h2 : IsOps w a2 len2 cap2 z2) :
    Calls Try.prog 4 #[.int .u8 a0, .slice a1 len1 cap1, .slice a2 len2 cap2] w (LawOk w) := by
  have hb := bd_u8 h0
  obtain ⟨sz, rfl, hsz⟩ : ∃ sz : Nat, a0 = (sz : Int) ∧ sz ≤ 255 := ⟨a0.toNat, by omega, by omega⟩
  have HI1 := Lib.hid h1
  have HI2 := Lib.hid h2
  have HSZ := Lib.hid hsz
  have hl2 : len2 ≤ 9223372036854775807 := by have := Nat.le_trans h2.1 h2.2.1; unfold maxLen at this; exact this
  clear h1 h2 hsz hb h0
  go_enter Try.func4, Try.ntmps4
  go_wp2_with fail
  refine (after_at HSZ.out HI1.out).mono ?_
  rintro e w1 ⟨p, L, rfl, hM, hL, hC1⟩
  unfold aPtr
  have HSD := Lib.hid (rfl : runS (St.new (1 + sz)) z1 (min len1 60) = runS (St.new (1 + sz)) z1 (min len1 60))
  generalize hS : runS (St.new (1 + sz)) z1 (min len1 60) = S at hM
  have HSS := Lib.hid hS
  have HM := Lib.hid hM
  have HL := Lib.hid hL
  have HC1 := Lib.hid hC1
  clear hM hL hC1 hS HSD
  go_wp2_with fail
  refine (copy_at HM.out (by omega)).mono ?_
  rintro e w2 ⟨q, La, rfl, hMa, hLa, hC2⟩
  unfold aPtr
  have HMa := Lib.hid hMa
  have HLa := Lib.hid hLa
  have HC2 := Lib.hid hC2
  clear hMa hLa hC2
  go_wp2_with fail
  refine (copy_at (HM.out.chg HC2.out (by simp)) (by omega)).mono ?_
  rintro e w3 ⟨r, Lb, rfl, hMb, hLb, hC3⟩
  unfold aPtr
  have hR : CopR w w3 p q r 0 L La Lb S S false := by
    have s1 := HC1.out.size
    have s2 := HC2.out.size
    have l1 := HM.out.lt
    have l2 := HMa.out.lt
    exact { m := (HM.out.chg HC2.out (by simp)).chg hC3 (by simp), a := HMa.out.chg hC3 (by simp), b := hMb
            ma := fun x hx hy => by have := l1 x hx; have := HLa.out x hy; omega
            mb := fun x hx hy => by have := l1 x hx; have := hLb x hy; omega
            ab := fun x hx hy => by have := l2 x hx; have := hLb x hy; omega
            nm := HL.out, na := fun x hx => by have := HLa.out x hx; omega
            nb := fun x hx => by have := hLb x hx; omega
            ch := fun h => by cases h
            le := Nat.le_refl _
            chg := (HC1.out.trans HC2.out).trans hC3 }
  have HR := Lib.hid hR
  clear hR hMb hLb hC3
  go_wp2_with fail
  refine (same_at HR.out.a HR.out.m).mono ?_
  rintro e w4 ⟨rfl, hC4⟩
  rw [stEq_self]
  have HR4 := Lib.hid (HR.out.step hC4)
  clear hC4
  go_wp2_with fail
  refine (same_at HR4.out.m HR4.out.b).mono ?_
  rintro e w5 ⟨rfl, hC5⟩
  rw [stEq_self]
  have HR5 := Lib.hid (HR4.out.step hC5)
  clear hC5 HM HL HC1 HMa HLa HC2 HR HR4
  go_wp2_with fail
  go_loopw [10, 11] (fun c s wr => ∃ (k : Nat) (ch : Bool), k ≤ min len2 30 ∧ c = .bool ch ∧ s = .int .i64 (k : Int) ∧ ∃ T L' La', Hid (CopR w wr p q r k L' La' Lb S T ch)) (fun _ s _ => len2 - (intOf s).toNat)
  case atStart => exact ⟨0, false, Nat.zero_le _, rfl, rfl, S, L, La, HR5⟩
  case round =>
    obtain ⟨k, ch, hk, rfl, rfl, T, L', La', HA⟩ := hrel
    by_cases h1 : k < min len2 30
    case' neg =>
      obtain rfl : k = min len2 30 := by omega
      by_cases h30 : len2 ≤ 30
      case' pos =>
        have em : min len2 30 = len2 := by omega
        rw [em] at HA ⊢
      case' neg =>
        have em : min len2 30 = 30 := by omega
        have i1 : (30 : Int) < (len2 : Int) := by omega
        rw [em] at HA ⊢
      all_goals
        cases ch
        case' true =>
          go_wp2_with fail
          refine (same_at HA.out.m HA.out.b).mono ?_
          rintro e w6 ⟨rfl, hC6⟩
          rw [stEq_last (HA.out.ch rfl)]
          have HB := Lib.hid (HA.out.step hC6)
          clear hC6
        case' false => have HB := HA
        all_goals
          go_wp2_with fail
          refine (after_at HSZ.out (HI1.out.chg HB.out.chg)).mono ?_
          rintro e w7 ⟨p7, L7, rfl, hM7, hL7, hC7⟩
          unfold aPtr
          rw [HSS.out] at hM7
          have HB7 := Lib.hid (HB.out.step hC7)
          have HM7 := Lib.hid hM7
          clear hM7 hL7 hC7
          go_wp2_with fail
          refine (same_at HB7.out.b HM7.out).mono ?_
          rintro e w8 ⟨rfl, hC8⟩
          rw [stEq_self]
          have HC8 := Lib.hid (HB7.out.chg.trans hC8)
          clear hC8
          go_wp2_with fail
          refine awake24_at.mono ?_
          rintro e w9 ⟨rfl, hC9⟩
          have HC9 := Lib.hid (HC8.out.trans hC9)
          clear hC9
          go_wp2_with fail
          go_ret
          exact law_ok HC9.out
    case' pos =>
      have hkl : k < len2 := by omega
      have i1 : (k : Int) < (len2 : Int) := by omega
      have i2 : (k : Int) < 30 := by omega
      obtain ⟨b, off, rfl, hb, da, dc, u0, u1, u2, u3, u4, hB, hO⟩ := HI2.out.2.2.2 k hkl
      simp only [Nat.add_zero] at u0
      have HB := Lib.hid hB
      have HO := Lib.hid hO
      have HBB := Lib.hid hb
      have HU := Lib.hid (And.intro u0 (And.intro u1 (And.intro u2 (And.intro u3 u4))))
      have e0 := (HA.out.chg.cell (p := ⟨b, off + k * 5, none⟩) hb (by simp)).trans u0
      have e1 := (HA.out.chg.cell (p := ⟨b, off + k * 5 + 1, none⟩) hb (by simp)).trans u1
      have e2 := (HA.out.chg.cell (p := ⟨b, off + k * 5 + 2, none⟩) hb (by simp)).trans u2
      have e3 := (HA.out.chg.cell (p := ⟨b, off + k * 5 + 3, none⟩) hb (by simp)).trans u3
      have e4 := (HA.out.chg.cell (p := ⟨b, off + k * 5 + 4, none⟩) hb (by simp)).trans u4
      clear hB hO hb u0 u1 u2 u3 u4
      go_wp2_with fail
      refine (do_at HA.out.m (by omega) ⟨da, dc, rfl, HB.out.chg HA.out.chg (by simp), HO.out⟩).mono ?_
      rintro e w6 ⟨L6, a6, c6, rfl, hM6, hL6, hB6, hF6, hC6⟩
      unfold repV
      have HRE := Lib.hid (rep_errf T (z2 k))
      have HRR := Lib.hid (rfl : repOf T (z2 k) = repOf T (z2 k))
      generalize hR : repOf T (z2 k) = R at hB6 HRE ⊢
      have HR := Lib.hid hR
      have HT6 := Lib.hid (HA.out.chg.then hC6 (fun i hi => .inr (HA.out.nm i hi)))
      have HN := Lib.hid (And.intro hM6 (And.intro hL6 (And.intro hB6 (And.intro hF6 hC6))))
      clear hM6 hL6 hB6 hF6 hC6 e0 e1 e2 e3 e4 HRR hR
      go_upto_region 12 with fail
      have hcv : Chg [] w6 (w6.alloc (.cells #[.int .i64 (R.err : Int), .int .u64 (R.vol : Int), .slice a6 R.n c6, .int .i64 (R.cnt : Int)] 32)) := (Chg.refl [] w6).alloc _
      have hV := new_block w6 (.cells #[.int .i64 (R.err : Int), .int .u64 (R.vol : Int), .slice a6 R.n c6, .int .i64 (R.cnt : Int)] 32)
      generalize w6.alloc (.cells #[.int .i64 (R.err : Int), .int .u64 (R.vol : Int), .slice a6 R.n c6, .int .i64 (R.cnt : Int)] 32) = W at *
      have HT := Lib.hid (HT6.out.trans hcv)
      have f0 := (HT.out.cell (p := ⟨b, off + k * 5, none⟩) HBB.out (by simp)).trans HU.out.1
      have f1 := (HT.out.cell (p := ⟨b, off + k * 5 + 1, none⟩) HBB.out (by simp)).trans HU.out.2.1
      have f2 := (HT.out.cell (p := ⟨b, off + k * 5 + 2, none⟩) HBB.out (by simp)).trans HU.out.2.2.1
      have f3 := (HT.out.cell (p := ⟨b, off + k * 5 + 3, none⟩) HBB.out (by simp)).trans HU.out.2.2.2.1
      have f4 := (HT.out.cell (p := ⟨b, off + k * 5 + 4, none⟩) HBB.out (by simp)).trans HU.out.2.2.2.2
      have r0 := cell_of_block hV 0
      have r1 := cell_of_block hV 1
      have r2 := cell_of_block hV 2
      have r3 := cell_of_block hV 3
      simp only [List.getElem?_toArray, List.getElem?_cons_zero, List.getElem?_cons_succ] at r0 r1 r2 r3
      have lr := heap_lt hV
      have HCV := Lib.hid hcv
      have HLR := Lib.hid lr
      clear hcv lr hV
      have HMa := Lib.hid ((HA.out.a.chg HN.out.2.2.2.2 (fun b hb hb2 => HA.out.ma b hb2 hb)).chg HCV.out (by simp))
      have HMm := Lib.hid (HN.out.1.chg HCV.out (by simp))
      have HNL : Hid (w6.heap.size ∉ La') := Lib.hid (fun hb => by have := HA.out.a.lt _ hb; have := HN.out.2.2.2.2.size; omega)
      have HAP : Hid (∀ x, x ∈ L6 → x ∉ La') := Lib.hid (fun x hx hy => by
        rcases HN.out.2.1 x hx with h | h
        · exact HA.out.ma x h hy
        · have := HA.out.a.lt _ hy; omega)
      have HBR := Lib.hid (HN.out.2.2.1.chg HCV.out (by simp))
      have HBF : Hid (0 < R.n → ∀ b, a6 = some b → b.block ∉ La') := Lib.hid (fun _ b hb hm => by have := (HN.out.2.2.2.1 b hb).1; have := HA.out.a.lt _ hm; omega)
      refine wp_region_held_drew (S := fun W' => W'.cell? ⟨b, off + k * 5, none⟩ = some (.int .u8 ((z2 k).code : Int)) ∧ W'.cell? ⟨b, off + k * 5 + 1, none⟩ = some (.int .u64 ((z2 k).vol : Int)) ∧ W'.cell? ⟨b, off + k * 5 + 2, none⟩ = some (.int .u64 ((z2 k).pl : Int)) ∧ W'.cell? ⟨b, off + k * 5 + 3, none⟩ = some (.int .u64 ((z2 k).n : Int)) ∧ W'.cell? ⟨b, off + k * 5 + 4, none⟩ = some (.slice da (z2 k).len dc) ∧ W'.cell? ⟨w6.heap.size, 0, none⟩ = some (.int .i64 (R.err : Int)) ∧ W'.cell? ⟨w6.heap.size, 1, none⟩ = some (.int .u64 (R.vol : Int)) ∧ W'.cell? ⟨w6.heap.size, 2, none⟩ = some (.slice a6 R.n c6) ∧ W'.cell? ⟨w6.heap.size, 3, none⟩ = some (.int .i64 (R.cnt : Int))) (by kernel_rfl) (by exact ⟨f0, f1, f2, f3, f4, r0, r1, r2, r3⟩) (fun hHeld => ?_)
      refine wpAnyH_take (i := 0) (oi := ?_) (v := ?_) ?_ (by kernel_rfl) (by kernel_rfl) (by kernel_rfl) ?_ (Or.inl ⟨?_, ?_⟩) hHeld ?_
      rotate_left 2
      · (simp only [List.getElem?_toArray, List.getElem?_cons_succ, List.getElem?_cons_zero]; rfl)
      · exact fun _ _ _ h => h
      · rfl
      · (rintro W' ⟨s0, s1, s2, s3, s4, s5, s6, s7, s8⟩; go_simp; first | done | with_reducible rfl)
      try simp only [Act.put, List.setIfInBounds_toArray, List.set_cons_zero, List.set_cons_succ]
      refine wpAnyH_take (i := 1) (oi := ?_) (v := ?_) ?_ (by kernel_rfl) (by kernel_rfl) (by kernel_rfl) ?_ (Or.inl ⟨?_, ?_⟩) hHeld ?_
      rotate_left 2
      · (simp only [List.getElem?_toArray, List.getElem?_cons_succ, List.getElem?_cons_zero]; rfl)
      · exact fun _ _ _ h => h
      · rfl
      · (rintro W' ⟨s0, s1, s2, s3, s4, s5, s6, s7, s8⟩; go_simp; first | done | with_reducible rfl)
      try simp only [Act.put, List.setIfInBounds_toArray, List.set_cons_zero, List.set_cons_succ]
      refine wpAnyH_take (i := 2) (oi := ?_) (v := ?_) ?_ (by kernel_rfl) (by kernel_rfl) (by kernel_rfl) ?_ (Or.inl ⟨?_, ?_⟩) hHeld ?_
      rotate_left 2
      · (simp only [List.getElem?_toArray, List.getElem?_cons_succ, List.getElem?_cons_zero]; rfl)
      · exact fun _ _ _ h => h
      · rfl
      · (rintro W' ⟨s0, s1, s2, s3, s4, s5, s6, s7, s8⟩; go_simp; first | done | with_reducible rfl)
      try simp only [Act.put, List.setIfInBounds_toArray, List.set_cons_zero, List.set_cons_succ]
      refine wpAnyH_take (i := 3) (oi := ?_) (v := ?_) ?_ (by kernel_rfl) (by kernel_rfl) (by kernel_rfl) ?_ (Or.inl ⟨?_, ?_⟩) hHeld ?_
      rotate_left 2
      · (simp only [List.getElem?_toArray, List.getElem?_cons_succ, List.getElem?_cons_zero]; rfl)
      · exact fun _ _ _ h => h
      · rfl
      · (rintro W' ⟨s0, s1, s2, s3, s4, s5, s6, s7, s8⟩; go_simp; first | done | with_reducible rfl)
      try simp only [Act.put, List.setIfInBounds_toArray, List.set_cons_zero, List.set_cons_succ]
      refine wpAnyH_take (i := 4) (oi := ?_) (v := ?_) ?_ (by kernel_rfl) (by kernel_rfl) (by kernel_rfl) ?_ (Or.inl ⟨?_, ?_⟩) hHeld ?_
      rotate_left 2
      · (simp only [List.getElem?_toArray, List.getElem?_cons_succ, List.getElem?_cons_zero]; rfl)
      · exact fun _ _ _ h => h
      · rfl
      · (rintro W' ⟨s0, s1, s2, s3, s4, s5, s6, s7, s8⟩; go_simp; first | done | with_reducible rfl)
      try simp only [Act.put, List.setIfInBounds_toArray, List.set_cons_zero, List.set_cons_succ]
      refine wpAnyH_take (i := 5) (oi := ?_) (v := ?_) ?_ (by kernel_rfl) (by kernel_rfl) (by kernel_rfl) ?_ (Or.inl ⟨?_, ?_⟩) hHeld ?_
      rotate_left 2
      · (simp only [List.getElem?_toArray, List.getElem?_cons_succ, List.getElem?_cons_zero]; rfl)
      · exact fun _ _ _ h => h
      · rfl
      · (rintro W' ⟨s0, s1, s2, s3, s4, s5, s6, s7, s8⟩; go_simp; first | done | with_reducible rfl)
      try simp only [Act.put, List.setIfInBounds_toArray, List.set_cons_zero, List.set_cons_succ]
      refine wpAnyH_ready (rs := [6]) (by kernel_rfl) (by simp) ?_
      refine AllReadyH.cons (o := ?_) ?_ (fun K hK => ?_) AllReadyH.nil
      rotate_left 1
      · (simp only [List.getElem?_toArray, List.getElem?_cons_succ, List.getElem?_cons_zero]; rfl)
      · (go_simp; have cD := do_at (v := .agg #[.int .u8 ((z2 k).code : Int), .int .u64 ((z2 k).vol : Int), .int .u64 ((z2 k).pl : Int), .int .u64 ((z2 k).n : Int), .slice da (z2 k).len dc]) (o := z2 k) (HMa.out.chg (Chg.refl [] W).drew (by simp)) (by omega) ⟨da, dc, rfl, HB.out.chg HT.out.drew (by simp), HO.out⟩; rw [HR.out] at cD; refine cD.mono ?_; clear cD; rintro e w7 ⟨L7, a7, c7, rfl, hM7, hL7, hB7, hF7, hC7⟩; have HT7 := Lib.hid (HT.out.drew.then hC7 (fun i hi => .inr (HA.out.na i hi))); have HC7 := Lib.hid (((Chg.refl La' W).drew).trans hC7); have HM7 := Lib.hid hM7; have HL7 := Lib.hid hL7; have HB7 := Lib.hid hB7; clear hM7 hL7 hB7 hF7 hC7; unfold repV)
        refine hK.out _ _ ?_ (fun hHeld => ?_)
        · exact ⟨(HT7.out.cell (p := ⟨b, off + k * 5, none⟩) HBB.out (by simp)).trans HU.out.1, (HT7.out.cell (p := ⟨b, off + k * 5 + 1, none⟩) HBB.out (by simp)).trans HU.out.2.1, (HT7.out.cell (p := ⟨b, off + k * 5 + 2, none⟩) HBB.out (by simp)).trans HU.out.2.2.1, (HT7.out.cell (p := ⟨b, off + k * 5 + 3, none⟩) HBB.out (by simp)).trans HU.out.2.2.2.1, (HT7.out.cell (p := ⟨b, off + k * 5 + 4, none⟩) HBB.out (by simp)).trans HU.out.2.2.2.2, (HC7.out.cell (p := ⟨w6.heap.size, 0, none⟩) HLR.out HNL.out).trans r0, (HC7.out.cell (p := ⟨w6.heap.size, 1, none⟩) HLR.out HNL.out).trans r1, (HC7.out.cell (p := ⟨w6.heap.size, 2, none⟩) HLR.out HNL.out).trans r2, (HC7.out.cell (p := ⟨w6.heap.size, 3, none⟩) HLR.out HNL.out).trans r3⟩
        clear hK K
        try simp only [Act.put, List.setIfInBounds_toArray, List.set_cons_zero, List.set_cons_succ]
        refine wpAnyH_ready (rs := [7]) (by kernel_rfl) (by simp) ?_
        refine AllReadyH.cons (o := ?_) ?_ (fun K hK => ?_) AllReadyH.nil
        rotate_left 1
        · (simp only [List.getElem?_toArray, List.getElem?_cons_succ, List.getElem?_cons_zero]; rfl)
        · (go_simp; have cS := same24_at (R1 := R) (R2 := R) (HBR.out.chg HC7.out HBF.out) HB7.out; rw [repEq_self] at cS; unfold repV at cS; refine cS.mono ?_; clear cS; rintro e w8 ⟨rfl, hC8⟩; have HT8 := Lib.hid (HT7.out.trans hC8); have HC8 := Lib.hid (HC7.out.trans (hC8.mono (by simp))); have HM8 := Lib.hid (HM7.out.chg hC8 (by simp)); clear hC8)
          refine hK.out _ _ ?_ (fun hHeld => ?_)
          · exact ⟨(HT8.out.cell (p := ⟨b, off + k * 5, none⟩) HBB.out (by simp)).trans HU.out.1, (HT8.out.cell (p := ⟨b, off + k * 5 + 1, none⟩) HBB.out (by simp)).trans HU.out.2.1, (HT8.out.cell (p := ⟨b, off + k * 5 + 2, none⟩) HBB.out (by simp)).trans HU.out.2.2.1, (HT8.out.cell (p := ⟨b, off + k * 5 + 3, none⟩) HBB.out (by simp)).trans HU.out.2.2.2.1, (HT8.out.cell (p := ⟨b, off + k * 5 + 4, none⟩) HBB.out (by simp)).trans HU.out.2.2.2.2, (HC8.out.cell (p := ⟨w6.heap.size, 0, none⟩) HLR.out HNL.out).trans r0, (HC8.out.cell (p := ⟨w6.heap.size, 1, none⟩) HLR.out HNL.out).trans r1, (HC8.out.cell (p := ⟨w6.heap.size, 2, none⟩) HLR.out HNL.out).trans r2, (HC8.out.cell (p := ⟨w6.heap.size, 3, none⟩) HLR.out HNL.out).trans r3⟩
          clear hK K
          try simp only [Act.put, List.setIfInBounds_toArray, List.set_cons_zero, List.set_cons_succ]
          refine wpAnyH_take (i := 8) (oi := ?_) (v := ?_) ?_ (by kernel_rfl) (by kernel_rfl) (by kernel_rfl) ?_ (Or.inl ⟨?_, ?_⟩) hHeld ?_
          rotate_left 2
          · (simp only [List.getElem?_toArray, List.getElem?_cons_succ, List.getElem?_cons_zero]; rfl)
          · exact fun _ _ _ h => h
          · rfl
          · (rintro W' ⟨s0, s1, s2, s3, s4, s5, s6, s7, s8⟩; go_simp; first | done | with_reducible rfl)
          try simp only [Act.put, List.setIfInBounds_toArray, List.set_cons_zero, List.set_cons_succ]
          refine wpAnyH_take (i := 9) (oi := ?_) (v := ?_) ?_ (by kernel_rfl) (by kernel_rfl) (by kernel_rfl) ?_ (Or.inl ⟨?_, ?_⟩) hHeld ?_
          rotate_left 2
          · (simp only [List.getElem?_toArray, List.getElem?_cons_succ, List.getElem?_cons_zero]; rfl)
          · exact fun _ _ _ h => h
          · rfl
          · (rintro W' ⟨s0, s1, s2, s3, s4, s5, s6, s7, s8⟩; go_simp; first | done | with_reducible rfl)
          try simp only [Act.put, List.setIfInBounds_toArray, List.set_cons_zero, List.set_cons_succ]
          refine wpAnyH_take (i := 10) (oi := ?_) (v := ?_) ?_ (by kernel_rfl) (by kernel_rfl) (by kernel_rfl) ?_ (Or.inl ⟨?_, ?_⟩) hHeld ?_
          rotate_left 2
          · (simp only [List.getElem?_toArray, List.getElem?_cons_succ, List.getElem?_cons_zero]; rfl)
          · exact fun _ _ _ h => h
          · rfl
          · (rintro W' ⟨s0, s1, s2, s3, s4, s5, s6, s7, s8⟩; go_simp; first | done | with_reducible rfl)
          try simp only [Act.put, List.setIfInBounds_toArray, List.set_cons_zero, List.set_cons_succ]
          refine wpAnyH_take (i := 11) (oi := ?_) (v := ?_) ?_ (by kernel_rfl) (by kernel_rfl) (by kernel_rfl) ?_ (Or.inl ⟨?_, ?_⟩) hHeld ?_
          rotate_left 2
          · (simp only [List.getElem?_toArray, List.getElem?_cons_succ, List.getElem?_cons_zero]; rfl)
          · exact fun _ _ _ h => h
          · rfl
          · (rintro W' ⟨s0, s1, s2, s3, s4, s5, s6, s7, s8⟩; go_simp; first | done | with_reducible rfl)
          try simp only [Act.put, List.setIfInBounds_toArray, List.set_cons_zero, List.set_cons_succ]
          refine wpAnyH_ready (rs := [12]) (by kernel_rfl) (by simp) ?_
          refine AllReadyH.cons (o := ?_) ?_ (fun K hK => ?_) AllReadyH.nil
          rotate_left 1
          · (simp only [List.getElem?_toArray, List.getElem?_cons_succ, List.getElem?_cons_zero]; rfl)
          · (go_simp; have cS := same_at (HMm.out.chg HC8.out HAP.out) HM8.out; rw [stEq_self] at cS; refine cS.mono ?_; clear cS; rintro e w9 ⟨rfl, hC9⟩; have HT9 := Lib.hid (HT8.out.trans hC9); have HC9 := Lib.hid (HC8.out.trans (hC9.mono (by simp))); have HM9 := Lib.hid (HM8.out.chg hC9 (by simp)); clear hC9)
            refine hK.out _ _ ?_ (fun hHeld => ?_)
            · exact ⟨(HT9.out.cell (p := ⟨b, off + k * 5, none⟩) HBB.out (by simp)).trans HU.out.1, (HT9.out.cell (p := ⟨b, off + k * 5 + 1, none⟩) HBB.out (by simp)).trans HU.out.2.1, (HT9.out.cell (p := ⟨b, off + k * 5 + 2, none⟩) HBB.out (by simp)).trans HU.out.2.2.1, (HT9.out.cell (p := ⟨b, off + k * 5 + 3, none⟩) HBB.out (by simp)).trans HU.out.2.2.2.1, (HT9.out.cell (p := ⟨b, off + k * 5 + 4, none⟩) HBB.out (by simp)).trans HU.out.2.2.2.2, (HC9.out.cell (p := ⟨w6.heap.size, 0, none⟩) HLR.out HNL.out).trans r0, (HC9.out.cell (p := ⟨w6.heap.size, 1, none⟩) HLR.out HNL.out).trans r1, (HC9.out.cell (p := ⟨w6.heap.size, 2, none⟩) HLR.out HNL.out).trans r2, (HC9.out.cell (p := ⟨w6.heap.size, 3, none⟩) HLR.out HNL.out).trans r3⟩
            clear hK K
            try simp only [Act.put, List.setIfInBounds_toArray, List.set_cons_zero, List.set_cons_succ]
            refine wpAnyH_take (i := 13) (oi := ?_) (v := ?_) ?_ (by kernel_rfl) (by kernel_rfl) (by kernel_rfl) ?_ (Or.inl ⟨?_, ?_⟩) hHeld ?_
            rotate_left 2
            · (simp only [List.getElem?_toArray, List.getElem?_cons_succ, List.getElem?_cons_zero]; rfl)
            · exact fun _ _ _ h => h
            · rfl
            · (rintro W' ⟨s0, s1, s2, s3, s4, s5, s6, s7, s8⟩; go_simp; first | done | with_reducible rfl)
            try simp only [Act.put, List.setIfInBounds_toArray, List.set_cons_zero, List.set_cons_succ]
            refine wpAnyH_take (i := 14) (oi := ?_) (v := ?_) ?_ (by kernel_rfl) (by kernel_rfl) (by kernel_rfl) ?_ (Or.inl ⟨?_, ?_⟩) hHeld ?_
            rotate_left 2
            · (simp only [List.getElem?_toArray, List.getElem?_cons_succ, List.getElem?_cons_zero]; rfl)
            · exact fun _ _ _ h => h
            · rfl
            · (rintro W' ⟨s0, s1, s2, s3, s4, s5, s6, s7, s8⟩; go_simp; first | done | with_reducible rfl)
            try simp only [Act.put, List.setIfInBounds_toArray, List.set_cons_zero, List.set_cons_succ]
            refine wpAnyH_done (by kernel_rfl) ?_ _
            have hX : ∀ ch' : Bool, (ch' = true → S.last < (stOf T (z2 k)).last) → CopR w w9 p q r (k + 1) L6 L7 Lb S (stOf T (z2 k)) ch' := fun ch' hch' =>
              { m := HMm.out.chg HC9.out HAP.out, a := HM9.out
                b := by
                  have b6 := HA.out.b.chg HN.out.2.2.2.2 (fun x hx hy => HA.out.mb x hy hx)
                  exact (b6.chg HCV.out (by simp)).chg HC9.out (fun x hx hy => HA.out.ab x hy hx)
                ma := fun x hx hy => by
                  rcases HL7.out x hy with h | h
                  · exact HAP.out x hx h
                  · have h1 := HMm.out.lt x hx; have h4 : W.heap.size ≤ x := h; omega
                mb := fun x hx hy => by
                  rcases HN.out.2.1 x hx with h | h
                  · exact HA.out.mb x h hy
                  · have := HA.out.b.lt x hy; omega
                ab := fun x hx hy => by
                  rcases HL7.out x hx with h | h
                  · exact HA.out.ab x h hy
                  · have h1 := HA.out.b.lt x hy; have h2 := HN.out.2.2.2.2.size; have h3 := HCV.out.size; have h4 : W.heap.size ≤ x := h; omega
                nm := fun x hx => by
                  rcases HN.out.2.1 x hx with h | h
                  · exact HA.out.nm x h
                  · have := HA.out.chg.size; omega
                na := fun x hx => by
                  rcases HL7.out x hx with h | h
                  · exact HA.out.na x h
                  · have h1 := HT.out.size; have h4 : W.heap.size ≤ x := h; omega
                nb := HA.out.nb
                ch := hch'
                le := Nat.le_trans HA.out.le (last_le T (z2 k))
                chg := HT9.out }
            have HX := Lib.hid hX
            clear hX
            have j0 := (HT9.out.cell (p := ⟨b, off + k * 5, none⟩) HBB.out (by simp)).trans HU.out.1
            have l0 := (HC9.out.cell (p := ⟨w6.heap.size, 0, none⟩) HLR.out HNL.out).trans r0
            have l1 := (HC9.out.cell (p := ⟨w6.heap.size, 1, none⟩) HLR.out HNL.out).trans r1
            have l2 := (HC9.out.cell (p := ⟨w6.heap.size, 2, none⟩) HLR.out HNL.out).trans r2
            have l3 := (HC9.out.cell (p := ⟨w6.heap.size, 3, none⟩) HLR.out HNL.out).trans r3
            cases ch
            case' true =>
              have HY := Lib.hid (HX.out true (fun _ => Nat.lt_of_lt_of_le (HA.out.ch rfl) (last_le T (z2 k))))
            case' false =>
              by_cases he : R.err = 0
              case' neg =>
                have he' : ¬ (R.err : Int) = 0 := by omega
                have HY := Lib.hid (HX.out false (by simp))
              case' pos =>
                have he' : (R.err : Int) = 0 := by omega
                by_cases h1 : (z2 k).code = 1
                case' pos =>
                  have h1' : ((z2 k).code : Int) = 1 := by omega
                  have HY := Lib.hid (HX.out true (fun _ => Nat.lt_of_le_of_lt HA.out.le (last_up (by rw [← HRE.out]; exact he) (.inl h1))))
                case' neg =>
                  have h1' : ¬ ((z2 k).code : Int) = 1 := by omega
                  by_cases h3 : (z2 k).code = 3
                  case' pos =>
                    have h3' : ((z2 k).code : Int) = 3 := by omega
                    have HY := Lib.hid (HX.out true (fun _ => Nat.lt_of_le_of_lt HA.out.le (last_up (by rw [← HRE.out]; exact he) (.inr h3))))
                  case' neg =>
                    have h3' : ¬ ((z2 k).code : Int) = 3 := by omega
                    have HY := Lib.hid (HX.out false (by simp))
            all_goals
              go_wp2_with fail
              go_roundw
              case rel => first | exact ⟨k + 1, _, by omega, rfl, by go_num, stOf T (z2 k), L6, L7, HY⟩ | exact ⟨k + 1, false, by omega, by simp [h1', h3'], by go_num, stOf T (z2 k), L6, L7, HY⟩
              case measure => simp [intOf]; omega

end Go.Proofs.Ytbejcmbdaoakbaa
