/- catchmentlaw08.TallyOf: the walk. -/
import Derived.Test.YtgbhofneinmonaaRef8C
import Derived.Deep.DeepCutAuto
import Derived.Deep.CutBlock
import Derived.Deep.LoopGhost
import Derived.Test.YtgbhofneinmonaaTOfW
namespace Go.Proofs.Ytgbhofneinmonaa
open Go.RowKit
set_option linter.unusedVariables false
set_option linter.unusedSimpArgs false

set_option maxRecDepth 20000 in
set_option maxHeartbeats 16000000 in
theorem tallyOf_walk (a : Option Addr) (n cap : Nat) (zs : List Int) (a2 : Option Addr) (len2 cap2 : Nat) (z2 : Nat → Int × Int) (w : World) (hr : IsRow .u16 w a n cap zs) (hr2 : IsOps w a2 len2 cap2 z2) :
    Calls Try.prog 13 #[.slice a n cap, .slice a2 len2 cap2] w fun e w' => e = .returned (.bool true) ∧ Below w.heap.size w w' := by
  obtain ⟨hlc2, hcm2, hnil2, hop2⟩ := hr2
  have Hop2 := Lib.hid hop2
  have Hnil2 := Lib.hid hnil2
  have hcm2' : cap2 ≤ 9223372036854775807 := by unfold maxLen at hcm2; omega
  obtain ⟨hcap, hm⟩ := hr.cap_le
  have hm' : cap ≤ 9223372036854775807 := by unfold maxLen at hm; omega
  have HR := Lib.hid hr
  clear hop2 hnil2 hcm2 hr hm
  by_cases hbig : 5000 < n
  · go_enter Try.func13, Try.ntmps13
    go_wp2_with fail
    refine (awake08 _).mono ?_
    rintro e w9 ⟨rfl, hC9⟩
    go_wp2_with fail
    go_ret
    exact ⟨rfl, hC9.below (by simp)⟩
  · by_cases hbad : n < 1 ∨ 4096 < n
    · as_aux_lemma =>
      have Hbad := Lib.hid hbad
      clear hbad
      go_enter Try.func13, Try.ntmps13
      go_wp2_with fail
      refine (tof_bad Hbad.out).mono ?_
      rintro e w' ⟨rfl, rfl⟩
      go_wp2_with fail
      refine (r8of_bad Hbad.out).mono ?_
      rintro e w2 ⟨rfl, hC⟩
      have hv : ∀ W, NoTally W (.pointer none) := fun W => .inl rfl
      have HC := Lib.hid (hC.alloc (.cells #[.slice none 0 0, .slice none 0 0] 52))
      clear hC
      go_wp2_with fail
      go_region_with (first
        | (go_at_call 31; refine (not_blocks (hv _)).mono ?_; rintro e w' ⟨rfl, rfl⟩)
        | (go_at_call 33; refine (awake08 _).mono ?_; rintro e w9 ⟨rfl, hC9⟩))
      all_goals
        go_wp2_with fail
        go_ret
        exact ⟨rfl, ((HC.out.drew).trans hC9).below (by simp)⟩
    · have hn1 : 1 ≤ n := by omega
      have hn2 : n ≤ 4096 := by omega
      clear hbad hbig
      go_enter Try.func13, Try.ntmps13
      go_wp2_with fail
      refine (tof_at HR.out hn1 hn2).mono ?_
      rintro e w1 ⟨t, bc, bk, rfl, hT, hC1, l1, l2, l3⟩
      have q0 := hT.lt0
      have q1 := hT.lt1
      have q2 := hT.lt2
      go_wp2_with fail
      refine (r8of_at (w := w1) (zs := zs) (IsRow.chg HR.out hC1) [t, bc, bk] (by simp; omega) hn1 hn2).mono ?_
      rintro e w2 ⟨v1, v2, rfl, hR, hC2⟩
      obtain ⟨g1, c1, hv1, _⟩ := hR.now
      replace hv1 : v1 = .slice (some ⟨g1, 0, none⟩) n c1 := hv1
      obtain ⟨g2, c2, hv2, _⟩ := hR.kept
      replace hv2 : v2 = .slice (some ⟨g2, 0, none⟩) n c2 := hv2
      subst hv1 hv2
      have hT2 := (hT.chg hC2 (by simp) (by simp) (by simp)).chg ((Chg.refl [] w2).alloc (.cells #[.slice (some ⟨g1, 0, none⟩) n c1, .slice (some ⟨g2, 0, none⟩) n c2] 52)) (by simp) (by simp) (by simp)
      have hs2 := hC2.size
      have HR2 := Lib.hid ((hR.more (B := [t, bc, bk, w2.heap.size]) (by simp)).chg ((Chg.refl [] w2).alloc (.cells #[.slice (some ⟨g1, 0, none⟩) n c1, .slice (some ⟨g2, 0, none⟩) n c2] 52)) (by simp))
      have HM := Lib.hid (new_block w2 (.cells #[.slice (some ⟨g1, 0, none⟩) n c1, .slice (some ⟨g2, 0, none⟩) n c2] 52))
      have HC2 := Lib.hid ((hC1.trans hC2).alloc (.cells #[.slice (some ⟨g1, 0, none⟩) n c1, .slice (some ⟨g2, 0, none⟩) n c2] 52))
      have L : w.heap.size ≤ t ∧ w.heap.size ≤ bc ∧ w.heap.size ≤ bk := ⟨l1, l2, l3⟩
      have hbl : w2.heap.size < (w2.alloc (.cells #[.slice (some ⟨g1, 0, none⟩) n c1, .slice (some ⟨g2, 0, none⟩) n c2] 52)).heap.size := by simp
      have m3 : w.heap.size ≤ w2.heap.size := Nat.le_trans hC1.size hs2
      clear hC1 hC2 hT hR
      go_upto_region 7 with fail
      generalize w2.alloc (.cells #[.slice (some ⟨g1, 0, none⟩) n c1, .slice (some ⟨g2, 0, none⟩) n c2] 52) = W at *
      have nm0 : t ≠ w2.heap.size := by omega
      have nm1 : bc ≠ w2.heap.size := by omega
      have nm2 : bk ≠ w2.heap.size := by omega
      generalize w2.heap.size = bm at *
      by_cases h300 : 300 < n
      · as_aux_lemma =>
        have x0 := cell_of_block HM.out 0
        simp only [List.getElem?_toArray, List.getElem?_cons_zero, List.getElem?_cons_succ] at x0
        have hTd : TallyAt W.drew t bc bk (ofT zs n) := hT2.chg (Chg.drew (Chg.refl [] _)) (by simp) (by simp) (by simp)
        have cb : Calls Try.prog 31 #[.pointer (some ⟨t, 0, none⟩)] W.drew fun e w' => e = .returned (.int .i64 (n : Int)) ∧ W.drew = w' := blocks_at hTd
        have Hcb := Lib.hid cb
        clear cb hT2 hTd
        go_wp2_with fail
        go_region_with (first
          | (go_at_call 31; refine Hcb.out.mono ?_; rintro e w' ⟨rfl, rfl⟩)
          | (go_at_call 33; refine (awake08 _).mono ?_; rintro e w9 ⟨rfl, hC9⟩))
        all_goals
          go_wp2_with fail
          go_ret
          exact ⟨rfl, ((HC2.out.drew).trans hC9).below (by simp)⟩
      · go_upto_region 9 with fail
        go_cut [52, 53, 54] (fun s l i wx => ∃ m : Nat, m ≤ 40 ∧ m ≤ len2 ∧ s = .slice a2 m cap2 ∧ l = .int .i64 (m : Int) ∧ i = .int .i64 0 ∧ wx = W)
        case first =>
          have h60 : 40 < len2 ∨ len2 ≤ 40 := by omega
          rcases h60 with h60 | h60
          · go_wp2_with fail
            go_meet
            exact ⟨40, by omega, by omega, by congr 1; omega, by congr 1; omega, rfl, rfl⟩
          · cases a2 with
            | none =>
              obtain ⟨rfl, rfl⟩ := Hnil2.out rfl
              go_wp2_with fail
              go_meet
              exact ⟨0, by omega, by omega, rfl, rfl, rfl, rfl⟩
            | some a2 =>
              go_wp2_with fail
              go_meet
              exact ⟨len2, by omega, by omega, by congr 1; omega, by congr 1; omega, rfl, rfl⟩
        case rest =>
          obtain ⟨m, hm1, hm2, rfl, rfl, rfl, rfl⟩ := hcut
          go_wp2_with fail
          go_loopg [54] m (fun g i wr => ∃ j : Nat, j ≤ m ∧ g = m - j ∧ i = .int .i64 (j : Int) ∧ ∃ T v1 v2, TallyAt wr t bc bk T ∧ T.n = n ∧ wr.heap[bm]? = some (.cells #[v1, v2] 52 (0, 0)) ∧ RefT [t, bc, bk, bm] wr v1 v2 T ∧ Chg [] w wr)
          case atStart => exact ⟨0, Nat.zero_le _, rfl, rfl, _, _, _, hT2, rfl, HM.out, HR2.out, HC2.out⟩
          case round =>
            obtain ⟨j, hj, hgh, rfl, T, v1, v2, hTr, hTn, hM, hR, hCr⟩ := hrel
            have Hgh := Lib.hid hgh
            clear hgh
            subst hTn
            obtain ⟨wo, rfl⟩ : ∃ wo : World, wo = wr := ⟨_, rfl⟩
            have HCr := Lib.hid hCr
            clear hT2 HM HR2 HC2
            by_cases hlt : j < m
            · obtain ⟨b, off, rfl, hbl', hc0, hc1, hw0, hw1⟩ := Hop2.out j (by omega)
              have k0 := (hCr.cell (p := ⟨b, off + j * 2, none⟩) hbl' (by simp)).trans hc0
              have k1 := (hCr.cell (p := ⟨b, off + j * 2 + 1, none⟩) hbl' (by simp)).trans hc1
              obtain ⟨hd0, hd1⟩ := bd_u8 hw0
              obtain ⟨hB0, hB1⟩ := bd_i64 hw1
              generalize (z2 j).1 = d at *
              generalize (z2 j).2 = B at *
              obtain ⟨g1, c1, rfl, r1, r2, r3, r4, r5⟩ := hR.now
              obtain ⟨g2, c2, rfl, s1, s2, s3, s4, s5⟩ := hR.kept
              have hW := (Chg.refl [] wo).alloc (.cells #[.int .u8 d, .int .i64 B] 56)
              have hTW := hTr.chg hW (by simp) (by simp) (by simp)
              have HRW := Lib.hid (hR.chg hW (by simp))
              have HMW := Lib.hid ((hW.block bm (heap_lt hM) (by simp)).trans hM)
              have HOW := Lib.hid (new_block wo (.cells #[.int .u8 d, .int .i64 B] 56))
              have HCW := Lib.hid (HCr.out.trans hW)
              have hbo := heap_lt hM
              have q0 := hTr.lt0
              have q1 := hTr.lt1
              have q2 := hTr.lt2
              clear hM hR hTr hW hc0 hc1 hw0 hw1 hCr r5 s5
              go_wp2_with fail
              generalize wo.alloc (.cells #[.int .u8 d, .int .i64 B] 56) = W1 at *
              go_loopw [60] (fun s wr => ∃ k : Nat, k ≤ T.n ∧ s = .int .i64 (k : Int) ∧ Chg [] W1 wr) (fun s _ => T.n - (intOf s).toNat)
              case atStart => exact ⟨0, Nat.zero_le _, rfl, Chg.refl _ _⟩
              case round =>
                obtain ⟨k, hk, rfl, hCk⟩ := hrel
                obtain ⟨wi, rfl⟩ : ∃ wi : World, wi = wr := ⟨_, rfl⟩
                have hTk := hTW.chg hCk (by simp) (by simp) (by simp)
                have hMk := (hCk.block bm (heap_lt HMW.out) (by simp)).trans HMW.out
                have hOk := (hCk.block wo.heap.size (heap_lt HOW.out) (by simp)).trans HOW.out
                have hRk := HRW.out.chg hCk (by simp)
                have x0 := cell_of_block hMk 0
                have x1 := cell_of_block hMk 1
                simp only [List.getElem?_toArray, List.getElem?_cons_zero, List.getElem?_cons_succ] at x0 x1
                have HOk := Lib.hid hOk
                have HMk := Lib.hid hMk
                have HRk := Lib.hid hRk
                have HCl := Lib.hid hCk
                have HCk := Lib.hid (HCW.out.trans hCk)
                clear hMk hOk hRk hCk
                by_cases hlk : k < T.n
                · as_aux_lemma =>
                  obtain ⟨en1, cn1, cm1, G1⟩ := HRk.out.now.get
                  obtain ⟨en2, cn2, cm2, G2⟩ := HRk.out.kept.get
                  have HQ := Lib.hid (show ∀ n : Nat, TallyAt (wi.drewN n) t bc bk T from fun n => hTk.chg (Chg.drewN (Chg.refl [] _) n) (by simp) (by simp) (by simp))
                  have z1 := G1 k hlk
                  have z2' := G2 k hlk
                  have w1' := HRk.out.b1 k hlk
                  have w2' := HRk.out.b2 k hlk
                  have i0 : (0 : Int) ≤ (k : Int) := by omega
                  have i1 : (k : Int) < (T.n : Int) := by omega
                  have cg : ∀ n : Nat, Calls Try.prog 27 #[.pointer (some ⟨t, 0, none⟩), .int .i64 (k : Int)] (wi.drewN n) fun e w' => e = .returned (.int .i64 (T.now k : Int)) ∧ wi.drewN n = w' := fun n => get_nat (HQ.out n) hlk
                  have cf : ∀ n : Nat, Calls Try.prog 26 #[.pointer (some ⟨t, 0, none⟩), .int .i64 (k : Int)] (wi.drewN n) fun e w' => e = .returned (.bool (T.free k)) ∧ wi.drewN n = w' := fun n => free_nat (HQ.out n) hlk
                  clear G1 G2 en1 en2
                  cases hf : T.free k with
                  | true =>
                    have hz : T.now k = 0 ∧ T.kept k = 0 := by simpa [Tal.free] using hf
                    rw [hz.1] at z1 cg
                    rw [hz.2] at z2'
                    rw [hf] at cf
                    have Hcg := Lib.hid cg
                    have Hcf := Lib.hid cf
                    clear hz hf cg cf w1' w2'
                    go_wp2_with fail
                    go_quiet ((first | (go_at_call 27; exact quiet_left (Hcg.out _)) | (go_at_call 26; exact quiet_left (Hcf.out _))))
                    go_wp2_with fail
                    go_roundw
                    case rel => exact ⟨k + 1, by omega, by go_num, HCl.out.drewN _⟩
                    case measure => simp [intOf]; omega
                  | false =>
                    have hz : ¬ (T.now k = 0 ∧ T.kept k = 0) := by
                      intro h
                      have : T.free k = true := by simp [Tal.free, h.1, h.2]
                      rw [hf] at this
                      cases this
                    rw [hf] at cf
                    have Hcg := Lib.hid cg
                    have Hcf := Lib.hid cf
                    have t1 : (((T.now k : Int) + (T.kept k : Int)) == 0) = false := by simp; omega
                    have t2 : IntKind.i64.wrap ((T.now k : Int) + (T.kept k : Int)) = (T.now k : Int) + (T.kept k : Int) := IntWalk.i64_in _ (by omega)
                    clear hz hf cg cf
                    go_wp2_with fail
                    go_quiet ((first | (go_at_call 27; exact quiet_left (Hcg.out _)) | (go_at_call 26; exact quiet_left (Hcf.out _))))
                    go_wp2_with fail
                    go_roundw
                    case rel => exact ⟨k + 1, by omega, by go_num, HCl.out.drewN _⟩
                    case measure => simp [intOf]; omega
                · as_aux_lemma =>
                  have c1' := frees_at hTk
                  clear c1'
                  go_wp2_with fail
                  refine (r8count HRk.out).mono ?_
                  rintro e w7 ⟨sv, rfl, hS7, hSb, hC7⟩
                  have hT7 := hTk.chg hC7 (by simp) (by simp) (by simp)
                  have M7 := Lib.hid ((hC7.block bm (heap_lt HMk.out) (by simp)).trans HMk.out)
                  have O7 := Lib.hid ((hC7.block wo.heap.size (heap_lt HOk.out) (by simp)).trans HOk.out)
                  have R7 := Lib.hid (HRk.out.chg hC7 (by simp))
                  have C7 := Lib.hid (HCk.out.trans hC7)
                  obtain ⟨sa, sc, rfl⟩ := hS7.len
                  have HS7 := Lib.hid hS7
                  have hcl := chgs_le T
                  have hn2' := hT7.n2
                  have hlb : (chgs T).length ≤ 4096 := by omega
                  clear hC7 hSb hS7 hTk x0 x1
                  go_wp2_with fail
                  refine (frees_at hT7).mono ?_
                  rintro e w' ⟨rfl, rfl⟩
                  go_wp2_with fail
                  refine (waits_at hT7).mono ?_
                  rintro e w' ⟨rfl, rfl⟩
                  go_wp2_with fail
                  refine (changed_sl hT7).mono ?_
                  rintro e w8 ⟨cv, rfl, hS8, hb8, hC8⟩
                  obtain ⟨ca, cc, rfl⟩ := hS8.len
                  have hs7 := HS7.out.chg hC8 (by simp)
                  have hT8 := hT7.chg hC8 (by simp) (by simp) (by simp)
                  have HS8 := Lib.hid hS8
                  have Hs7 := Lib.hid hs7
                  have HC8 := Lib.hid hC8
                  clear hS8 hs7 hb8 hC8 hT7
                  go_wp2_with fail
                  refine (same_at HS8.out Hs7.out hlb hlb).mono ?_
                  rintro e w9 ⟨rfl, hC9⟩
                  have hT9 := hT8.chg hC9 (by simp) (by simp) (by simp)
                  have hC79 := HC8.out.trans hC9
                  have M9 := Lib.hid ((hC79.block bm (heap_lt M7.out) (by simp)).trans M7.out)
                  have O9 := Lib.hid ((hC79.block wo.heap.size (heap_lt O7.out) (by simp)).trans O7.out)
                  have R9 := Lib.hid (R7.out.chg hC79 (by simp))
                  have C9 := Lib.hid (C7.out.trans hC79)
                  have o0 := cell_of_block O9.out 0
                  have o1 := cell_of_block O9.out 1
                  have hs := hC79.size
                  simp only [List.getElem?_toArray, List.getElem?_cons_zero, List.getElem?_cons_succ] at o0 o1
                  clear hC9 hC79 hT8 HS8 Hs7 M7 O7 R7 C7 HS7
                  have p0 := hT9.lt0
                  have p1 := hT9.lt1
                  have p2 := hT9.lt2
                  have p3 := heap_lt M9.out
                  have hmod : d % 4 = 0 ∨ d % 4 = 1 ∨ d % 4 = 2 ∨ d % 4 = 3 := by omega
                  rcases hmod with hm | hm | hm | hm
                  · as_aux_lemma =>
                    have d0 : (d % 4 == 0) = true := by simp; omega
                    have d1 : (d % 4 == 1) = false := by simp; omega
                    have d2 : (d % 4 == 2) = false := by simp; omega
                    clear hm
                    go_wp2_with fail
                    refine (up_at hT9 B).mono ?_
                    rintro e w3 ⟨rfl, hT3, hC3⟩
                    have M3 := Lib.hid ((hC3.block bm (heap_lt M9.out) (by simp; omega)).trans M9.out)
                    have O3 := Lib.hid ((hC3.block wo.heap.size (heap_lt O9.out) (by simp; omega)).trans O9.out)
                    have hR3 := R9.out.chg hC3 (by simp)
                    have C3 := Lib.hid (chg_own3 C9.out hC3 L)
                    have y0 := cell_of_block M3.out 0
                    have y1 := cell_of_block M3.out 1
                    have v1 := cell_of_block O3.out 1
                    have s3 := hC3.size
                    simp only [List.getElem?_toArray, List.getElem?_cons_zero, List.getElem?_cons_succ] at y0 y1 v1
                    clear hC3 hT9 o0 o1
                    go_wp2_with fail
                    refine (r8up hR3 (by simp; omega) B).mono ?_
                    rintro e w4 ⟨u1, rfl, hR4, hC4⟩
                    obtain ⟨g3, c3, hu, _⟩ := hR4.now
                    rw [up_n] at hu
                    subst hu
                    have M4 := Lib.hid ((hC4.block bm (heap_lt M3.out) (by simp)).trans M3.out)
                    have hT4 := hT3.chg hC4 (by simp) (by simp) (by simp)
                    have C4 := Lib.hid (C3.out.trans hC4)
                    have f0 := frozen_of_block M4.out 0
                    have f1 := frozen_of_block M4.out 1
                    have y0 := cell_of_block M4.out 0
                    have y1 := cell_of_block M4.out 1
                    simp only [List.getElem?_toArray, List.getElem?_cons_zero, List.getElem?_cons_succ] at y0 y1
                    have HR4 := Lib.hid hR4
                    have HT4 := Lib.hid hT4
                    clear hC4 hT3 hR3 v1 hT4 hR4
                    go_wp2_with fail
                    have hS := st2 M4.out (.slice (some ⟨g3, 0, none⟩) T.n c3) (.slice (some ⟨g2, 0, none⟩) T.n c2)
                    go_roundg (m - (j + 1))
                    case measure => have := Hgh.out; omega
                    case rel => exact ⟨j + 1, by omega, rfl, by go_num, _, _, _, HT4.out.chg hS.2 (by simp; omega) (by simp; omega) (by simp; omega), up_n T B, hS.1, HR4.out.chg hS.2 (by simp), C4.out.then hS.2 (by simp; omega)⟩
                  · as_aux_lemma =>
                    have d0 : (d % 4 == 0) = false := by simp; omega
                    have d1 : (d % 4 == 1) = true := by simp; omega
                    have d2 : (d % 4 == 2) = false := by simp; omega
                    clear hm
                    go_wp2_with fail
                    refine (down_at hT9 B).mono ?_
                    rintro e w3 ⟨rfl, hT3, hC3⟩
                    have M3 := Lib.hid ((hC3.block bm (heap_lt M9.out) (by simp; omega)).trans M9.out)
                    have O3 := Lib.hid ((hC3.block wo.heap.size (heap_lt O9.out) (by simp; omega)).trans O9.out)
                    have hR3 := R9.out.chg hC3 (by simp)
                    have C3 := Lib.hid (chg_own3 C9.out hC3 L)
                    have y0 := cell_of_block M3.out 0
                    have y1 := cell_of_block M3.out 1
                    have v1 := cell_of_block O3.out 1
                    have s3 := hC3.size
                    simp only [List.getElem?_toArray, List.getElem?_cons_zero, List.getElem?_cons_succ] at y0 y1 v1
                    clear hC3 hT9 o0 o1
                    go_wp2_with fail
                    refine (r8down hR3 (by simp; omega) B).mono ?_
                    rintro e w4 ⟨u1, rfl, hR4, hC4⟩
                    obtain ⟨g3, c3, hu, _⟩ := hR4.now
                    rw [down_n] at hu
                    subst hu
                    have M4 := Lib.hid ((hC4.block bm (heap_lt M3.out) (by simp)).trans M3.out)
                    have hT4 := hT3.chg hC4 (by simp) (by simp) (by simp)
                    have C4 := Lib.hid (C3.out.trans hC4)
                    have f0 := frozen_of_block M4.out 0
                    have f1 := frozen_of_block M4.out 1
                    have y0 := cell_of_block M4.out 0
                    have y1 := cell_of_block M4.out 1
                    simp only [List.getElem?_toArray, List.getElem?_cons_zero, List.getElem?_cons_succ] at y0 y1
                    have HR4 := Lib.hid hR4
                    have HT4 := Lib.hid hT4
                    clear hC4 hT3 hR3 v1 hT4 hR4
                    go_wp2_with fail
                    have hS := st2 M4.out (.slice (some ⟨g3, 0, none⟩) T.n c3) (.slice (some ⟨g2, 0, none⟩) T.n c2)
                    go_roundg (m - (j + 1))
                    case measure => have := Hgh.out; omega
                    case rel => exact ⟨j + 1, by omega, rfl, by go_num, _, _, _, HT4.out.chg hS.2 (by simp; omega) (by simp; omega) (by simp; omega), down_n T B, hS.1, HR4.out.chg hS.2 (by simp), C4.out.then hS.2 (by simp; omega)⟩
                  · as_aux_lemma =>
                    have d0 : (d % 4 == 0) = false := by simp; omega
                    have d1 : (d % 4 == 1) = false := by simp; omega
                    have d2 : (d % 4 == 2) = true := by simp; omega
                    clear hm
                    go_wp2_with fail
                    refine (keep_at hT9).mono ?_
                    rintro e w3 ⟨rfl, hT3, hC3'⟩
                    have hC3 := hC3'.mono (L' := [t, bc, bk]) (by simp)
                    clear hC3'
                    have M3 := Lib.hid ((hC3.block bm (heap_lt M9.out) (by simp; omega)).trans M9.out)
                    have O3 := Lib.hid ((hC3.block wo.heap.size (heap_lt O9.out) (by simp; omega)).trans O9.out)
                    have hR3 := R9.out.chg hC3 (by simp)
                    have C3 := Lib.hid (chg_own3 C9.out hC3 L)
                    have y0 := cell_of_block M3.out 0
                    have y1 := cell_of_block M3.out 1
                    have v1 := cell_of_block O3.out 1
                    have s3 := hC3.size
                    simp only [List.getElem?_toArray, List.getElem?_cons_zero, List.getElem?_cons_succ] at y0 y1 v1
                    clear hC3 hT9 o0 o1
                    go_wp2_with fail
                    refine (r8keep_at hR3).mono ?_
                    rintro e w4 ⟨rfl, hR4, hC4⟩
                    have M4 := Lib.hid ((hC4.block bm (heap_lt M3.out) (by simp)).trans M3.out)
                    have hT4 := hT3.chg hC4 (by simp) (by simp) (by simp)
                    have C4 := Lib.hid (C3.out.trans hC4)
                    have f0 := frozen_of_block M4.out 0
                    have f1 := frozen_of_block M4.out 1
                    have y0 := cell_of_block M4.out 0
                    have y1 := cell_of_block M4.out 1
                    simp only [List.getElem?_toArray, List.getElem?_cons_zero, List.getElem?_cons_succ] at y0 y1
                    have HR4 := Lib.hid hR4
                    have HT4 := Lib.hid hT4
                    clear hC4 hT3 hR3 v1 hT4 hR4
                    go_wp2_with fail
                    have hS := st2 M4.out (.slice (some ⟨g1, 0, none⟩) T.n c1) (.slice (some ⟨g1, 0, none⟩) T.n c1)
                    go_roundg (m - (j + 1))
                    case measure => have := Hgh.out; omega
                    case rel => exact ⟨j + 1, by omega, rfl, by go_num, _, _, _, HT4.out.chg hS.2 (by simp; omega) (by simp; omega) (by simp; omega), rfl, hS.1, HR4.out.chg hS.2 (by simp), C4.out.then hS.2 (by simp; omega)⟩
                  · as_aux_lemma =>
                    have d0 : (d % 4 == 0) = false := by simp; omega
                    have d1 : (d % 4 == 1) = false := by simp; omega
                    have d2 : (d % 4 == 2) = false := by simp; omega
                    clear hm
                    go_wp2_with fail
                    refine (back_at hT9).mono ?_
                    rintro e w3 ⟨rfl, hT3, hC3'⟩
                    have hC3 := hC3'.mono (L' := [t, bc, bk]) (by simp)
                    clear hC3'
                    have M3 := Lib.hid ((hC3.block bm (heap_lt M9.out) (by simp; omega)).trans M9.out)
                    have O3 := Lib.hid ((hC3.block wo.heap.size (heap_lt O9.out) (by simp; omega)).trans O9.out)
                    have hR3 := R9.out.chg hC3 (by simp)
                    have C3 := Lib.hid (chg_own3 C9.out hC3 L)
                    have y0 := cell_of_block M3.out 0
                    have y1 := cell_of_block M3.out 1
                    have v1 := cell_of_block O3.out 1
                    have s3 := hC3.size
                    simp only [List.getElem?_toArray, List.getElem?_cons_zero, List.getElem?_cons_succ] at y0 y1 v1
                    clear hC3 hT9 o0 o1
                    go_wp2_with fail
                    refine (r8back_at hR3).mono ?_
                    rintro e w4 ⟨rfl, hR4, hC4⟩
                    have M4 := Lib.hid ((hC4.block bm (heap_lt M3.out) (by simp)).trans M3.out)
                    have hT4 := hT3.chg hC4 (by simp) (by simp) (by simp)
                    have C4 := Lib.hid (C3.out.trans hC4)
                    have f0 := frozen_of_block M4.out 0
                    have f1 := frozen_of_block M4.out 1
                    have y0 := cell_of_block M4.out 0
                    have y1 := cell_of_block M4.out 1
                    simp only [List.getElem?_toArray, List.getElem?_cons_zero, List.getElem?_cons_succ] at y0 y1
                    have HR4 := Lib.hid hR4
                    have HT4 := Lib.hid hT4
                    clear hC4 hT3 hR3 v1 hT4 hR4
                    go_wp2_with fail
                    have hS := st2 M4.out (.slice (some ⟨g2, 0, none⟩) T.n c2) (.slice (some ⟨g2, 0, none⟩) T.n c2)
                    go_roundg (m - (j + 1))
                    case measure => have := Hgh.out; omega
                    case rel => exact ⟨j + 1, by omega, rfl, by go_num, _, _, _, HT4.out.chg hS.2 (by simp; omega) (by simp; omega) (by simp; omega), rfl, hS.1, HR4.out.chg hS.2 (by simp), C4.out.then hS.2 (by simp; omega)⟩
            · go_wp2_with fail
              refine (awake08 _).mono ?_
              rintro e w9 ⟨rfl, hC9⟩
              go_wp2_with fail
              go_ret
              exact ⟨rfl, (HCr.out.trans hC9).below (by simp)⟩

end Go.Proofs.Ytgbhofneinmonaa
