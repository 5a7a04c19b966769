/- slices.pdqsortOrdered, slices.Sort at uint64: the block's numbers are sorted. -/
import Derived.Test.YtbejcmbdaoakbaaSoG
import Derived.Sort.Walk13a
import Derived.Sort.LotB
namespace Go.Proofs.Ytbejcmbdaoakbaa
open Go.RowKit Go.Sort
set_option linter.unusedVariables false
set_option linter.unusedSimpArgs false

theorem soEighth {x y p q : Nat} (h1 : q ≤ p) (h2 : y ≤ x) : decide (((x : Int) - (y : Int)) / 8 ≤ (p : Int) - (q : Int)) = decide (p - q ≥ (x - y) / 8) :=
  decide_eq_decide.2 ⟨fun h => by omega, fun h => by omega⟩
theorem soHint2 {h : Hint} (e : hintCode h = 2) : h = .decreasing := by cases h <;> simp [hintCode] at e ⊢
theorem soPiv_ab {w : World} {g N c : Nat} {d : Array Int} (h : RowD w g N d) (hN : N < 1152921504606846976) (hc : N ≤ c) {a b : Nat} (hab : a < b) (hb : b ≤ N) :
    Calls Try.prog 68 #[.slice (some ⟨g, 0, none⟩) N c, .int .i64 (a : Int), .int .i64 (b : Int)] w (PivPost w g N d a b) := by
  obtain ⟨L, rfl⟩ : ∃ L, b = a + L := ⟨b - a, by omega⟩
  exact soPiv_at h hN hc (by omega) hb
theorem soBreak_ab {w : World} {g N c : Nat} {d : Array Int} (h : RowD w g N d) (hN : N < 1152921504606846976) (hc : N ≤ c) {a b : Nat} (hab : a < b) (hb : b ≤ N) :
    Calls Try.prog 67 #[.slice (some ⟨g, 0, none⟩) N c, .int .i64 (a : Int), .int .i64 (b : Int)] w (BrkPost w g N d a b) := by
  obtain ⟨L, rfl⟩ : ∃ L, b = a + L := ⟨b - a, by omega⟩
  exact soBreak_at h hN hc hb

/-- What the sort leaves. -/
def PdqPost (w : World) (g N : Nat) (d : Array Int) (a b limit : Nat) (e : Ending) (w' : World) : Prop :=
  e = .returned (.tuple #[]) ∧ RowD w' g N (pdq ltInt d a b limit true true) ∧ Chg [g] w w'

set_option maxHeartbeats 16000000 in
set_option maxRecDepth 1000000 in
theorem soPdq_at {g N c : Nat} (hN : N < 1152921504606846976) (hc : N ≤ c) : ∀ (n a b limit : Nat) (d : Array Int) (w : World), b - a < n → RowD w g N d → a ≤ b → b ≤ N → limit < 4611686018427387904 → Sort.Below ltInt a b d →
    Calls Try.prog 63 #[.slice (some ⟨g, 0, none⟩) N c, .int .i64 (a : Int), .int .i64 (b : Int), .int .i64 (limit : Int)] w (PdqPost w g N d a b limit) := by
  intro n
  induction n with
  | zero => intro _ _ _ _ _ h; exact absurd h (Nat.not_lt_zero _)
  | succ n ih =>
    intro a b limit d w hn h hab hb hlimit hBel0
    have H := Lib.hid h
    have HBel0 := Lib.hid hBel0
    have IH := Lib.hid ih
    clear h hBel0 ih
    go_enter Try.func63, Try.ntmps63
    go_wp2_with fail
    go_loopg [1, 2, 3, 8, 9] (b - a) (fun k s1 s2 s3 s8 s9 wr => ∃ (a' b' lim : Nat) (wb wp : Bool), s1 = .int .i64 (a' : Int) ∧ s2 = .int .i64 (b' : Int) ∧ s3 = .int .i64 (lim : Int) ∧ s8 = .bool wb ∧ s9 = .bool wp ∧
      a' ≤ b' ∧ b' ≤ N ∧ b' - a' ≤ k ∧ k ≤ b - a ∧ lim ≤ limit ∧ Hid (∃ dk, RowD wr g N dk ∧ Chg [g] w wr ∧ Sort.Below ltInt a' b' dk ∧ pdq ltInt dk a' b' lim wb wp = pdq ltInt d a b limit true true))
    case atStart => exact ⟨a, b, limit, true, true, by go_num, by go_num, by go_num, rfl, rfl, hab, hb, Nat.le_refl _, Nat.le_refl _, Nat.le_refl _, ⟨d, H.out, Chg.refl _ _, HBel0.out, rfl⟩⟩
    case round =>
      obtain ⟨a', b', lim, wb, wp, rfl, rfl, rfl, rfl, rfl, hab', hb', hk, hkn, hlim, hX⟩ := hrel
      obtain ⟨wo, rfl⟩ : ∃ wo : World, wo = wr := ⟨_, rfl⟩
      obtain ⟨dk, hR, hC, hBel, hL⟩ := hX.out
      have HR : Hid (RowD wo g N dk ∧ Chg [g] w wo) := Lib.hid ⟨hR, hC⟩
      have HBel := Lib.hid hBel
      have A := Lib.hid hL
      have hds := hR.sz
      have Hds := Lib.hid hds
      clear hR hC hBel hL hX H HBel0
      by_cases h12 : b' - a' ≤ 12
      · have h12z : (b' : Int) - (a' : Int) ≤ 12 := by omega
        have C0 := Lib.hid (soIns_at HR.out.1 (by omega) hc hab' hb')
        clear hds
        go_wp2_with fail
        refine C0.out.mono ?_
        rintro e w1 ⟨rfl, hR, hC⟩
        have HF := Lib.hid (And.intro hR (HR.out.2.trans hC))
        clear hR hC C0
        go_wp2_with fail
        (try simp only [Exit.inBlock, Exit.then])
        refine bodyPost_ret (v := .tuple #[]) (by simp [results, Try.results63, go_sem]) rfl ?_
        exact ⟨rfl, by rw [← A.out, pdq_small h12]; exact HF.out.1, HF.out.2⟩
      · have h12z : ¬ ((b' : Int) - (a' : Int) ≤ 12) := by omega
        by_cases hl0 : lim = 0
        · subst hl0
          have C0 := Lib.hid (soHeap_at HR.out.1 hN hc hab' hb')
          clear hds
          go_wp2_with fail
          refine C0.out.mono ?_
          rintro e w1 ⟨rfl, hR, hC⟩
          have HF := Lib.hid (And.intro hR (HR.out.2.trans hC))
          clear hR hC C0
          go_wp2_with fail
          (try simp only [Exit.inBlock, Exit.then])
          refine bodyPost_ret (v := .tuple #[]) (by simp [results, Try.results63, go_sem]) rfl ?_
          exact ⟨rfl, by rw [← A.out, pdq_heap h12 rfl]; exact HF.out.1, HF.out.2⟩
        · have hl0z : ((lim : Int) == 0) = false := by simp; omega
          obtain ⟨s1, B1, hc1, s2, B2, hpv, s3, B3⟩ := rd_facts (limit := lim) (wb := wb) (wp := wp) swo_ltInt partialInsertionSort_holds reverseRange_holds (show a' < b' by omega) (show b' ≤ dk.size by omega) HBel.out
          have F := Lib.hid (And.intro s1 (And.intro B1 (And.intro s2 (And.intro B2 (And.intro s3 B3)))))
          have hlt : a' < b' := by omega
          obtain ⟨R, hRd⟩ : ∃ R, R = rd ltInt dk a' b' lim wb wp := ⟨_, rfl⟩
          rw [← hRd] at F hc1 hpv
          have HRd := Lib.hid hRd
          clear s1 B1 s2 B2 s3 B3 hds hRd
          -- if !wasBalanced
          go_upto_if 35 with fail
          go_cut [3] from 19 to 133 (fun s3 wc => ∃ l1 : Nat, s3 = .int .i64 (l1 : Int) ∧ Hid (l1 = R.lim ∧ RowD wc g N R.d1 ∧ Chg [g] w wc))
          case first =>
            cases wb with
            | false =>
              have C0 := Lib.hid (soBreak_ab HR.out.1 hN hc hlt hb')
              obtain ⟨l1, hl1⟩ : ∃ l1, lim = l1 + 1 := ⟨lim - 1, by omega⟩
              subst hl1
              have E := Lib.hid (show R.d1 = breakPatterns dk a' b' ∧ R.lim = l1 by rw [HRd.out]; exact rd_false)
              go_wp2_with fail
              refine C0.out.mono ?_
              rintro e w1 ⟨rfl, hR, hC⟩
              have HF := Lib.hid (And.intro hR (HR.out.2.trans hC))
              clear hR hC C0
              go_wp2_with fail
              go_meet
              case rel => exact ⟨l1, by go_num, E.out.2.symm, by rw [E.out.1]; exact HF.out.1, HF.out.2⟩
            | true =>
              have E := Lib.hid (show R.d1 = dk ∧ R.lim = lim by rw [HRd.out]; exact rd_true)
              go_wp2_with fail
              go_meet
              case rel => exact ⟨lim, rfl, E.out.2.symm, by rw [E.out.1]; exact HR.out.1, HR.out.2⟩
          case rest =>
            obtain ⟨l1, rfl, hY⟩ := hcut
            have HL1 := Lib.hid hY.out.1
            have H1 : Hid (RowD wc g N R.d1 ∧ Chg [g] w wc) := Lib.hid hY.out.2
            obtain ⟨⟨pv, ht⟩, hcp⟩ : ∃ r, r = choosePivot ltInt R.d1 a' b' := ⟨_, rfl⟩
            obtain ⟨z, hz⟩ : ∃ z : Int, z = hintCode ht := ⟨_, rfl⟩
            have c0 := soPiv_ab H1.out.1 hN hc hlt hb'
            unfold PivPost at c0
            rw [← hcp] at c0
            simp only [← hz] at c0
            have C0 := Lib.hid c0
            have HCP := Lib.hid (show R.c = (pv, ht) by rw [hcp, HRd.out]; exact rd_c)
            have HZ := Lib.hid hz
            have Hpv := Lib.hid hpv
            have Hpv0 := Lib.hid (show a' ≤ pv ∧ pv < b' by have e := HCP.out; rw [e] at hc1; exact hc1)
            clear hY c0 hcp hz hpv hc1
            go_upto_if 50 with (go_at_call 68; refine C0.out.mono ?_; rintro e w2 ⟨rfl, hR, hC⟩; have H2 : Hid (RowD w2 g N R.d1 ∧ Chg [g] w w2) := Lib.hid ⟨hR, H1.out.2.then hC (by simp)⟩; clear hR hC)
            -- if hint == decreasingHint
            go_cut [11, 12] from 19 to 133 (fun s11 s12 wc => ∃ (p1 : Nat) (z1 : Int), s11 = .int .i64 (p1 : Int) ∧ s12 = .int .i64 z1 ∧ Hid (p1 = R.pivot ∧ z1 = hintCode R.hint ∧ RowD wc g N R.d2 ∧ Chg [g] w wc))
            case first =>
              by_cases hh : ht = .decreasing
              · have hzz : z = 2 := by rw [HZ.out, hh]; rfl
                subst hzz
                have E := Lib.hid (show R.d2 = reverseRange R.d1 a' b' ∧ R.pivot = (b' - 1) - (R.c.1 - a') ∧ R.hint = .increasing by rw [HRd.out]; exact rd_dec (by rw [← HRd.out, HCP.out]; exact hh))
                have C1 := Lib.hid (soRev_at H2.out.1 (by omega) hc hlt hb')
                clear hh
                go_wp2_with fail
                refine C1.out.mono ?_
                rintro e w3 ⟨rfl, hR, hC⟩
                have HF := Lib.hid (And.intro hR (H2.out.2.trans hC))
                clear hR hC C1
                obtain ⟨p1, hp1⟩ : ∃ p1, p1 = (b' - 1) - (pv - a') := ⟨_, rfl⟩
                have hpI : (b' : Int) - 1 - ((pv : Int) - (a' : Int)) = (p1 : Int) := by have := Hpv0.out; omega
                have Hp1 := Lib.hid hp1
                clear hp1
                go_wp2_with fail
                go_meet
                case rel => exact ⟨p1, 1, by first | rfl | (congr 1; done) | (congr 1; exact hpI), rfl, by rw [Hp1.out, E.out.2.1, HCP.out], by rw [E.out.2.2]; rfl, by rw [E.out.1]; exact HF.out.1, HF.out.2⟩
              · have hzz : (z == 2) = false := by
                  simp only [beq_eq_false_iff_ne, ne_eq]
                  intro q; exact hh (soHint2 (HZ.out.symm.trans q))
                have E := Lib.hid (show R.d2 = R.d1 ∧ R.pivot = R.c.1 ∧ R.hint = R.c.2 by rw [HRd.out]; exact rd_not (by rw [← HRd.out, HCP.out]; exact hh))
                go_wp2_with fail
                go_meet
                case rel => exact ⟨pv, z, rfl, rfl, by rw [E.out.2.1, HCP.out], by rw [E.out.2.2, HCP.out]; exact HZ.out, by rw [E.out.1]; exact H2.out.1, H2.out.2⟩
            case rest =>
              obtain ⟨p1, z1, rfl, rfl, hY⟩ := hcut
              have HP1 := Lib.hid hY.out.1
              have HZ1 := Lib.hid hY.out.2.1
              have H3 : Hid (RowD wc g N R.d2 ∧ Chg [g] w wc) := Lib.hid hY.out.2.2
              have hp1 : a' ≤ p1 ∧ p1 < b' := by have := HP1.out; have := Hpv.out; omega
              clear hY H2 C0 H1
              go_upto_region 15 with fail
              go_cut [68] from 19 to 133 (fun s68 wx => ∃ tst : Bool, s68 = .bool tst ∧ Hid (tst = (wb && wp && decide (R.hint = .increasing)) ∧ wx = wc))
              case first =>
                by_cases hh : R.hint = .increasing
                · have hzz : z1 = 1 := by rw [HZ1.out, hh]; rfl
                  subst hzz
                  have Hh := Lib.hid hh
                  clear hh
                  cases wb <;> cases wp <;>
                    (go_wp2_with fail
                     go_meet
                     exact ⟨_, rfl, by rw [Hh.out]; rfl, rfl⟩)
                · have hzz : (z1 == 1) = false := by
                    simp only [beq_eq_false_iff_ne, ne_eq]
                    intro q; rw [HZ1.out] at q
                    apply hh; revert q; cases R.hint <;> simp [hintCode]
                  have Hh := Lib.hid hh
                  clear hh
                  cases wb <;> cases wp <;>
                    (go_wp2_with fail
                     go_meet
                     exact ⟨_, rfl, by rw [decide_eq_false Hh.out]; rfl, rfl⟩)
              case rest =>
                obtain ⟨tst, rfl, hY⟩ := hcut
                obtain ⟨hT, hwx⟩ := hY.out
                subst hwx
                have HT := Lib.hid hT
                clear hT hY
                go_upto_if 68 with fail
                go_cut [] from 19 to 133 (fun wx => Hid (R.pi.2 = false ∧ RowD wx g N R.pi.1 ∧ Chg [g] w wx))
                case first =>
                  cases tst with
                  | false =>
                    have E := Lib.hid (show R.pi = (R.d2, false) by rw [HRd.out]; exact rd_pi_no (by rw [← HRd.out]; exact HT.out.symm))
                    go_wp2_with fail
                    go_meet
                    case rel => exact ⟨by rw [E.out], by rw [E.out]; exact H3.out.1, H3.out.2⟩
                  | true =>
                    have E := Lib.hid (show R.pi = partialInsertionSort ltInt R.d2 a' b' by rw [HRd.out]; exact rd_pi_yes (by rw [← HRd.out]; exact HT.out.symm))
                    obtain ⟨⟨dp, bp⟩, hp⟩ : ∃ r, r = partialInsertionSort ltInt R.d2 a' b' := ⟨_, rfl⟩
                    have c1 := soPIns_at H3.out.1 hN hc hlt hb'
                    rw [← hp] at c1
                    have C1 := Lib.hid c1
                    have Hp := Lib.hid (E.out.trans hp.symm)
                    clear c1 hp
                    cases bp with
                    | false =>
                      go_wp2_with fail
                      refine C1.out.mono ?_
                      rintro e w3 ⟨rfl, hR, hC⟩
                      have HF := Lib.hid (And.intro hR (H3.out.2.trans hC))
                      clear hR hC C1
                      go_wp2_with fail
                      go_meet
                      case rel => exact ⟨by rw [Hp.out], by rw [Hp.out]; exact HF.out.1, HF.out.2⟩
                    | true =>
                      go_wp2_with fail
                      refine C1.out.mono ?_
                      rintro e w3 ⟨rfl, hR, hC⟩
                      have HF := Lib.hid (And.intro hR (H3.out.2.trans hC))
                      clear hR hC C1
                      go_wp2_with fail
                      (try simp only [Exit.inBlock, Exit.then])
                      refine bodyPost_ret (v := .tuple #[]) (by simp [results, Try.results63, go_sem]) rfl ?_
                      refine ⟨rfl, ?_, HF.out.2⟩
                      rw [← A.out, pdq_done h12 (by simpa using hl0) (by rw [← HRd.out, Hp.out]), ← HRd.out, Hp.out]
                      exact HF.out.1
                case rest =>
                  have hY := hcut.out
                  have HP2 := Lib.hid hY.1
                  have H5 : Hid (RowD wc g N R.pi.1 ∧ Chg [g] w wc) := Lib.hid hY.2
                  clear hY hcut H3
                  obtain ⟨d3, hd3⟩ : ∃ d3, d3 = R.pi.1 := ⟨_, rfl⟩
                  rw [← hd3] at H5
                  have Hd3 := Lib.hid hd3
                  have HB3 : Hid (Sort.Below ltInt a' b' d3) := Lib.hid (by rw [hd3]; exact F.out.2.2.2.2.2)
                  have Hsz : Hid (d3.size = N) := Lib.hid H5.out.1.sz
                  have HLim : Hid (R.lim ≤ lim) := Lib.hid (by rw [HRd.out]; exact rd_lim_le)
                  clear hd3
                  obtain ⟨x, hx⟩ : ∃ x, x = d3[a' - 1]! := ⟨_, rfl⟩
                  obtain ⟨y, hy⟩ : ∃ y, y = d3[p1]! := ⟨_, rfl⟩
                  have Hx := Lib.hid hx
                  have Hy := Lib.hid hy
                  clear hx hy
                  go_upto_region 17 with fail
                  go_cut [87] from 19 to 133 (fun s87 wx => ∃ tst : Bool, s87 = .bool tst ∧ Hid (tst = (decide (a' > 0) && !ltInt x y) ∧ RowD wx g N d3 ∧ Chg [g] w wx))
                  case first =>
                    rcases Nat.eq_zero_or_pos a' with ha0 | ha0
                    · have ha0z : decide ((a' : Int) > 0) = false := decide_eq_false (by omega)
                      have ha0y : decide ((0 : Int) < (a' : Int)) = false := decide_eq_false (by omega)
                      have ha0n : decide (0 < a') = false := decide_eq_false (by omega)
                      have Ha0 := Lib.hid ha0
                      clear ha0
                      go_wp2_with fail
                      go_quiet (fail)
                      go_wp2_with fail
                      go_meet
                      case rel => exact ⟨false, rfl, by rw [Ha0.out]; rfl, H5.out.1.chg (Chg.drewN (Chg.refl [] _) _) (by simp), H5.out.2.drewN _⟩
                    · obtain ⟨k, hk1⟩ : ∃ k, a' = k + 1 := ⟨a' - 1, by omega⟩
                      have ha0z : decide ((a' : Int) > 0) = true := decide_eq_true (by omega)
                      have ha0y : decide ((0 : Int) < (a' : Int)) = true := decide_eq_true (by omega)
                      have ha0n : decide (0 < a') = true := decide_eq_true (by omega)
                      have c1 : wc.cell? ⟨g, k, none⟩ = some (.int .u64 x) := by rw [Hx.out, hk1]; exact H5.out.1.cell (by omega)
                      have c2 : wc.cell? ⟨g, p1, none⟩ = some (.int .u64 y) := by rw [Hy.out]; exact H5.out.1.cell (by omega)
                      have eI : (a' : Int) - 1 = (k : Int) := by omega
                      have eW : IntKind.i64.wrap ((a' : Int) - 1) = (k : Int) := by rw [eI]; exact IntWalk.i64_in _ (by omega)
                      have b1 : (k : Int) < (N : Int) := by omega
                      have b2 : (p1 : Int) < (N : Int) := by omega
                      have Hd := Lib.hid (fun n => soLess_q x y wc n rfl)
                      have Ha0 := Lib.hid ha0
                      have Hk1 := Lib.hid hk1
                      clear hk1 ha0
                      go_wp2_with fail
                      go_quiet ((go_at_call 71; exact Hd.out _))
                      go_wp2_with fail
                      go_meet
                      case rel => exact ⟨_, rfl, by rw [decide_eq_true Ha0.out]; rfl, H5.out.1.chg (Chg.drewN (Chg.refl [] _) _) (by simp), H5.out.2.drewN _⟩
                  case rest =>
                    obtain ⟨tst2, rfl, hY⟩ := hcut
                    have H6 : Hid (RowD wc g N d3 ∧ Chg [g] w wc) := Lib.hid hY.out.2
                    have HTB := Lib.hid (show tst2 = (decide (a' > 0) && !ltInt (rd ltInt dk a' b' lim wb wp).pi.1[a' - 1]! (rd ltInt dk a' b' lim wb wp).pi.1[(rd ltInt dk a' b' lim wb wp).pivot]!) by
                      rw [hY.out.1, Hx.out, Hy.out, Hd3.out, HP1.out, HRd.out])
                    have HT2 := Lib.hid hY.out.1
                    rw [HRd.out] at HP2
                    clear hY H5
                    cases tst2 with
                    | false =>
                      obtain ⟨⟨mid, ap, d4⟩, hx⟩ : ∃ r, r = partition ltInt d3 a' b' p1 := ⟨_, rfl⟩
                      obtain ⟨r1, r2, r3, r4, r5, r6, r7⟩ := round_part swo_ltInt (partition_holds _) hp1.1 hp1.2 (show b' ≤ d3.size by have := Hsz.out; omega) HB3.out hx.symm
                      have c0 := soPart_at H6.out.1 hN hc hp1.1 hp1.2 hb'
                      rw [← hx] at c0
                      have C0 := Lib.hid c0
                      have X := Lib.hid hx.symm
                      have Hd4 : Hid (d4.size = N) := Lib.hid (r3.trans Hsz.out)
                      replace r4 := Lib.hid r4
                      replace r5 := Lib.hid r5
                      replace r6 := Lib.hid r6
                      replace r7 := Lib.hid r7
                      clear c0 hx r3
                      go_upto_if 113 with (go_at_call 73; refine C0.out.mono ?_; rintro e w7 ⟨rfl, hR, hC⟩; have H7 : Hid (RowD w7 g N d4 ∧ Chg [g] w w7) := Lib.hid ⟨hR, H6.out.2.trans hC⟩; clear hR hC)
                      by_cases h4 : mid - a' < b' - mid
                      · have h4z : (mid : Int) - (a' : Int) < (b' : Int) - (mid : Int) := by omega
                        have HG := Lib.hid (show pdq ltInt dk a' b' lim wb wp = pdq ltInt (pdq ltInt d4 a' mid R.lim true true) (mid + 1) b' R.lim (decide (mid - a' ≥ (b' - a') / 8)) ap by
                          obtain rfl := HRd.out
                          obtain rfl := Hd3.out
                          obtain rfl := HP1.out
                          have hx := X.out
                          rw [pdq_left h12 (by simpa using hl0) HP2.out HTB.out.symm (by rw [hx]; exact ⟨r1, r2⟩) (by rw [hx]; exact h4), hx])
                        have c5 := IH.out a' mid l1 d4 w7 (by omega) H7.out.1 (by omega) (by omega) (by have := HL1.out; have := HLim.out; omega) r4.out
                        have C5 := Lib.hid c5
                        obtain ⟨pL, sL⟩ := pdq_sorts ltInt swo_ltInt d4 a' mid l1 true true (by omega) (by have := Hd4.out; omega) r4.out
                        have PL := Lib.hid (r6.out _ pL sL)
                        clear pL sL c5 h4
                        go_wp2_with fail
                        (try simp only [show ((mid + 1 : Nat) : Int) = (mid : Int) + 1 from rfl] at C5)
                        refine C5.out.mono ?_
                        rintro e w8 ⟨rfl, hR, hC⟩
                        have H8 := Lib.hid (And.intro hR (H7.out.2.trans hC))
                        clear hR hC C5
                        go_wp2_with fail
                        go_roundg (b' - (mid + 1))
                        case measure => omega
                        case rel =>
                          refine ⟨(mid + 1), b', l1, decide (mid - a' ≥ (b' - a') / 8), ap, by go_num, by go_num, by go_num, ?_, rfl, by omega, by omega, Nat.le_refl _, by omega, by have := HL1.out; have := HLim.out; omega, ⟨_, H8.out.1, H8.out.2, PL.out.1, ?_⟩⟩
                          · exact congrArg Value.bool (soEighth (by omega) (by omega))
                          · rw [← A.out, HG.out, HL1.out]
                      · have h4z : ¬ ((mid : Int) - (a' : Int) < (b' : Int) - (mid : Int)) := by omega
                        have HG := Lib.hid (show pdq ltInt dk a' b' lim wb wp = pdq ltInt (pdq ltInt d4 (mid + 1) b' R.lim true true) a' mid R.lim (decide (b' - mid ≥ (b' - a') / 8)) ap by
                          obtain rfl := HRd.out
                          obtain rfl := Hd3.out
                          obtain rfl := HP1.out
                          have hx := X.out
                          rw [pdq_right h12 (by simpa using hl0) HP2.out HTB.out.symm (by rw [hx]; exact ⟨r1, r2⟩) (by rw [hx]; exact h4), hx])
                        have c5 := IH.out (mid + 1) b' l1 d4 w7 (by omega) H7.out.1 (by omega) (by omega) (by have := HL1.out; have := HLim.out; omega) r5.out
                        have C5 := Lib.hid c5
                        obtain ⟨pL, sL⟩ := pdq_sorts ltInt swo_ltInt d4 (mid + 1) b' l1 true true (by omega) (by have := Hd4.out; omega) r5.out
                        have PL := Lib.hid (r7.out _ pL sL)
                        clear pL sL c5 h4
                        go_wp2_with fail
                        (try simp only [show ((mid + 1 : Nat) : Int) = (mid : Int) + 1 from rfl] at C5)
                        refine C5.out.mono ?_
                        rintro e w8 ⟨rfl, hR, hC⟩
                        have H8 := Lib.hid (And.intro hR (H7.out.2.trans hC))
                        clear hR hC C5
                        go_wp2_with fail
                        go_roundg (mid - a')
                        case measure => omega
                        case rel =>
                          refine ⟨a', mid, l1, decide (b' - mid ≥ (b' - a') / 8), ap, by go_num, by go_num, by go_num, ?_, rfl, by omega, by omega, Nat.le_refl _, by omega, by have := HL1.out; have := HLim.out; omega, ⟨_, H8.out.1, H8.out.2, PL.out.1, ?_⟩⟩
                          · exact congrArg Value.bool (soEighth (by omega) (by omega))
                          · rw [← A.out, HG.out, HL1.out]
                    | true =>
                      have hT2 := HT2.out.symm
                      simp only [Bool.and_eq_true, decide_eq_true_eq, Bool.not_eq_true'] at hT2
                      rw [Hx.out, Hy.out] at hT2
                      obtain ⟨⟨mid, d4⟩, hx⟩ : ∃ r, r = partitionEqual ltInt d3 a' b' p1 := ⟨_, rfl⟩
                      obtain ⟨r1, r2, r3, r4, _⟩ := round_eq swo_ltInt (partitionEqual_holds _) hT2.1 hp1.1 hp1.2 (show b' ≤ d3.size by have := Hsz.out; omega) HB3.out hT2.2 hx.symm
                      have c0 := soPEq_at H6.out.1 hN hc hp1.1 hp1.2 hb'
                      rw [← hx] at c0
                      have C0 := Lib.hid c0
                      have X := Lib.hid hx.symm
                      replace r4 := Lib.hid r4
                      have HG := Lib.hid (show pdq ltInt dk a' b' lim wb wp = pdq ltInt d4 mid b' R.lim wb wp by
                        obtain rfl := HRd.out
                        obtain rfl := Hd3.out
                        obtain rfl := HP1.out
                        have hx := X.out
                        rw [pdq_eq h12 (by simpa using hl0) HP2.out HTB.out.symm (by rw [hx]; exact ⟨r1, r2⟩), hx])
                      clear c0 hx r3 hT2
                      go_wp2_with fail
                      refine C0.out.mono ?_
                      rintro e w7 ⟨rfl, hR, hC⟩
                      have H7 : Hid (RowD w7 g N d4 ∧ Chg [g] w w7) := Lib.hid ⟨hR, H6.out.2.trans hC⟩
                      clear hR hC C0
                      go_wp2_with fail
                      go_roundg (b' - mid)
                      case measure => omega
                      case rel => exact ⟨mid, b', l1, wb, wp, by go_num, by go_num, by go_num, rfl, rfl, r2, hb', Nat.le_refl _, by omega, by have := HL1.out; have := HLim.out; omega, ⟨_, H7.out.1, H7.out.2, r4.out, by rw [← A.out, HG.out, HL1.out]⟩⟩

end Go.Proofs.Ytbejcmbdaoakbaa
