/- Layer 10: a sheet one of whose blocks has no count: place.Right, place.Place. (Printed by mkbad.py.) -/
import Derived.Test.YtnhabpbdpjgiiaaPlO
namespace Go.Proofs.Ytnhabpbdpjgiiaa
open Go.RowKit
set_option linter.unusedVariables false
set_option linter.unusedSimpArgs false

/-- As many pages as there have to be, each at a block of its own, or nowhere. -/
structure ShLo (T : Tal) (n : Nat → Nat) (a : Nat → Nat → Nat) : Prop where
  n0 : n 0 = pg T.n
  n1 : n 1 = pg (pg T.n)
  has : ∀ k i, k < 2 → i < n k → a k i ≠ 0 → a k i < T.n
  apart : ∀ k i k' i', k < 2 → i < n k → k' < 2 → i' < n k' → a k i ≠ 0 → a k i = a k' i' → k = k' ∧ i = i'
theorem ShOk.lo {T : Tal} {n : Nat → Nat} {a : Nat → Nat → Nat} (h : ShOk T n a) : ShLo T n a := ⟨h.n0, h.n1, fun k i hk hi h0 => (h.has k i hk hi h0).1, h.apart⟩
theorem ShLo.ok {T : Tal} {n : Nat → Nat} {a : Nat → Nat → Nat} (h : ShLo T n a) (hb : ¬ ∃ i, i < n 0 + n 1 ∧ (atL a n 0 ++ atL a n 1).getD i 0 ≠ 0 ∧ T.now ((atL a n 0 ++ atL a n 1).getD i 0) = 0) : ShOk T n a := by
  refine ⟨h.n0, h.n1, fun k i hk hi h0 => ⟨h.has k i hk hi h0, fun hz => hb ?_⟩, h.apart⟩
  have hk2 : k = 0 ∨ k = 1 := by omega
  rcases hk2 with rfl | rfl
  · have hj : i < n 0 + n 1 := by omega
    have e := both_get a n hj
    have e0 : kindOf n i = 0 := by unfold kindOf; rw [if_pos hi]
    have e1 : numOf n i = i := by unfold numOf; rw [if_pos hi]
    rw [e0, e1] at e
    exact ⟨i, hj, by rw [e]; exact h0, by rw [e]; exact hz⟩
  · have hj : n 0 + i < n 0 + n 1 := by omega
    have e := both_get a n hj
    have e0 : kindOf n (n 0 + i) = 1 := by unfold kindOf; rw [if_neg (by omega)]
    have e1 : numOf n (n 0 + i) = i := by unfold numOf; rw [if_neg (by omega)]; omega
    rw [e0, e1] at e
    exact ⟨n 0 + i, hj, by rw [e]; exact h0, by rw [e]; exact hz⟩
theorem seen_newL {T : Tal} {S : Nat → Nat → Nat} {n : Nat → Nat} (ho : ShLo T n S) {j : Nat} (hj : j < n 0 + n 1) (h : (atL S n 0 ++ atL S n 1).getD j 0 ≠ 0) : seenTo S n j ((atL S n 0 ++ atL S n 1).getD j 0) = none := by
  unfold seenTo
  rw [if_neg]
  rintro ⟨_, i, hi, he⟩
  rw [both_get S n hj] at h he
  rw [both_get S n (by omega)] at he
  have ⟨a1, a2⟩ := kn_lt hj
  have ⟨b1, b2⟩ := kn_lt (n := n) (j := i) (by omega)
  have ⟨e1, e2⟩ := ho.apart _ _ _ _ b1 b2 a1 a2 (by rw [he]; exact h) he
  have := kn_inj e1 e2
  omega

set_option maxRecDepth 20000 in
set_option maxHeartbeats 2000000 in
theorem right_bad {w : World} {t bc bk : Nat} {T : Tal} {v0 v1 : Value} {S : Nat → Nat → Nat} {n g c : Nat → Nat} (h : TallyAt w t bc bk T) (hv : ShV w v0 v1 S n g c) (ho : ShLo T n S) (hbad : ∃ i, i < n 0 + n 1 ∧ (atL S n 0 ++ atL S n 1).getD i 0 ≠ 0 ∧ T.now ((atL S n 0 ++ atL S n 1).getD i 0) = 0) :
    Calls Try.prog 31 #[.pointer (some ⟨t, 0, none⟩), .agg #[v0, v1]] w fun e w' => e = .returned (.bool false) ∧ Chg [] w w' := by
  obtain ⟨rfl, rfl, hl⟩ := hv
  have hn1 := h.n1
  have hn2 := h.n2
  have p1 := pg_pos hn1
  have p2 := pg_le (n := T.n)
  have p3 := pg_pos p1
  have p4 := pg_le (n := pg T.n)
  have q0 := ho.n0
  have q1 := ho.n1
  have hl0 := hl 0 (by omega)
  have hl1 := hl 1 (by omega)
  rw [q0] at hl0 ⊢
  rw [q1] at hl1 ⊢
  have HL0 := Lib.hid hl0
  have HL1 := Lib.hid hl1
  have HO := Lib.hid ho
  have HBAD := Lib.hid hbad
  have HQ := Lib.hid (And.intro q0 q1)
  have HB := Lib.hid (new_block w (.cells #[.slice (some ⟨g 0, 0, none⟩) (pg T.n) (c 0), .slice (some ⟨g 1, 0, none⟩) (pg (pg T.n)) (c 1)] 42))
  have HC := Lib.hid ((Chg.refl [] w).alloc (.cells #[.slice (some ⟨g 0, 0, none⟩) (pg T.n) (c 0), .slice (some ⟨g 1, 0, none⟩) (pg (pg T.n)) (c 1)] 42))
  have hT := h.chg HC.out (by simp) (by simp) (by simp)
  have HT := Lib.hid hT
  have h0 := h
  have H0 := Lib.hid h0
  clear hl hl0 hl1 ho h h0 q0 q1 hbad
  have E1 : ¬ (T.n : Int) = 0 := by omega
  go_enter Try.func31, Try.ntmps31
  go_upto_region 2 with (first | (go_at_call 30; refine (blocks_at HT.out).mono ?_; rintro e w' ⟨rfl, rfl⟩) | (go_at_call 32; refine (pages_at _ hn1 hn2).mono ?_; rintro e w' ⟨rfl, rfl⟩))
  have hb := HB.out
  have x0 := cell_of_block hb 0
  have x1 := cell_of_block hb 1
  simp only [List.getElem?_toArray, List.getElem?_cons_zero, List.getElem?_cons_succ] at x0 x1
  generalize w.alloc _ = w1 at *
  clear hb
  have HQT := Lib.hid (fun k => HT.out.chg ((Chg.refl [] w1).drewN k) (by simp) (by simp) (by simp) : ∀ k, TallyAt (w1.drewN k) t bc bk T)
  have g1 : ((T.n : Int) == 0) = false := by simp; omega
  have g2 : ((pg T.n : Int) != (pg T.n : Int)) = false := by simp
  have g3 : ((pg (pg T.n) : Int) != (pg (pg T.n) : Int)) = false := by simp
  go_quiet (first | (go_at_call 30; exact quiet_left (blocks_at (HQT.out _))) | (go_at_call 32; exact quiet_left (pages_at _ p1 (by omega))))
  have mk := fun w => run_makeMap (P := Try.prog) 103 w
  have z0 := (((Chg.refl [] w1).drewN nq).alloc (.map #[] 0)).cell (p := ⟨w.heap.size, 0, none⟩) (heap_lt HB.out) (by simp) |>.trans x0
  have z1 := (((Chg.refl [] w1).drewN nq).alloc (.map #[] 0)).cell (p := ⟨w.heap.size, 1, none⟩) (heap_lt HB.out) (by simp) |>.trans x1
  have HM := Lib.hid (KMapI.made (P := Try.prog) (kt := 3) (et := 3) (w1.drewN nq) T.n)
  have hs1 : w.heap.size < w1.heap.size := heap_lt HB.out
  have HC2 := Lib.hid ((HC.out.drewN nq).alloc (.map #[] 0))
  have hsm : ((w1.drewN nq).alloc (.map #[] 0)).heap.size = w1.heap.size + 1 := by simp [World.drewN]
  rw [show (w1.drewN nq).heap.size = w1.heap.size from rfl] at HM
  clear x0 x1 hT
  go_wp2_with fail
  have hcc := (Chg.refl [] ((w1.drewN nq).alloc (.map #[] 0))).alloc (.cells #[.slice (some ⟨g 0, 0, none⟩) (pg T.n) (c 0), .slice (some ⟨g 1, 0, none⟩) (pg (pg T.n)) (c 1)] 31)
  have HNB := Lib.hid (new_block ((w1.drewN nq).alloc (.map #[] 0)) (.cells #[.slice (some ⟨g 0, 0, none⟩) (pg T.n) (c 0), .slice (some ⟨g 1, 0, none⟩) (pg (pg T.n)) (c 1)] 31))
  rw [hsm] at HNB
  have HC3 := Lib.hid (HC2.out.trans hcc)
  have HM3 := Lib.hid (HM.out.chg hcc (by simp))
  have hs3 := hcc.size
  rw [hsm] at hs3
  clear hcc z0 z1 hsm g1 g2 g3
  generalize ((w1.drewN nq).alloc (.map #[] 0)).alloc _ = W at *
  have HT3 := Lib.hid (H0.out.chg HC3.out (by simp) (by simp) (by simp))
  refine (concat2_at (l := atL S n 0) (m := atL S n 1) (by rw [atL_len]; exact HQ.out.1.symm) (by rw [atL_len]; exact HQ.out.2.symm) HNB.out (HL0.out.chg HC3.out (by simp)) (HL1.out.chg HC3.out (by simp)) (by rw [atL_len, HQ.out.1]; exact p1) (by rw [atL_len, atL_len, HQ.out.1, HQ.out.2]; omega)).mono ?_
  rintro e w4 ⟨v, rfl, hown, hC4⟩
  have hlen : (atL S n 0 ++ atL S n 1).length = pg T.n + pg (pg T.n) := by rw [List.length_append, atL_len, atL_len, HQ.out.1, HQ.out.2]
  have hsl := SlI.of_own hown
  obtain ⟨a, cp, hv⟩ := hsl.len
  rw [hlen] at hv
  subst hv
  have hcell : ∀ i, i < pg T.n + pg (pg T.n) → ∃ gg, a = some ⟨gg, 0, none⟩ ∧ gg < w4.heap.size ∧ W.heap.size ≤ gg ∧ w4.cell? ⟨gg, i, none⟩ = some (.int .i64 (((atL S n 0 ++ atL S n 1).getD i 0 : Nat) : Int)) := by
    intro i hi
    rcases hsl with ⟨h1, h2⟩ | ⟨gg, cap, h1, h2, h3, h4, h5⟩
    · rw [h2] at hlen; simp at hlen; omega
    · injection h1 with h1 _ _
      exact ⟨gg, h1, h4, (ownBlock_new hown gg (by rw [h1]; rfl)).1, h5 i (by rw [hlen]; exact hi)⟩
  have hcap : pg T.n + pg (pg T.n) ≤ cp := by
    rcases hsl with ⟨h1, h2⟩ | ⟨gg, cap, h1, h2, h3, h4, h5⟩
    · rw [h2] at hlen; simp at hlen; omega
    · injection h1 with _ _ h1
      rw [← hlen, h1]; exact h2
  have HCE := Lib.hid hcell
  have HM4 := Lib.hid (HM3.out.chg hC4 (by simp))
  have HT4 := Lib.hid (HT3.out.chg hC4 (by simp) (by simp) (by simp))
  have HC4 := Lib.hid (HC3.out.trans hC4)
  have HLN := Lib.hid hlen
  have hmt : w1.heap.size ≠ t ∧ w1.heap.size ≠ bc ∧ w1.heap.size ≠ bk := by
    have a1 := HT.out.lt0
    have a2 := HT.out.lt1
    have a3 := HT.out.lt2
    omega
  have HMT := Lib.hid hmt
  clear hcell hown hC4 hsl hlen hmt HB HM HM3 HT HT3 HQT HL0 HL1 HNB
  go_wp2_with fail
  go_loopw [38] (fun s wr => ∃ k : Nat, k ≤ pg T.n + pg (pg T.n) ∧ s = .int .i64 (k : Int) ∧ Hid (KMapI Try.prog 3 3 wr w1.heap.size T.n (seenTo S n k) ∧ Chg [w1.heap.size] w4 wr ∧ ∀ i, i < k → (atL S n 0 ++ atL S n 1).getD i 0 ≠ 0 → T.now ((atL S n 0 ++ atL S n 1).getD i 0) ≠ 0)) (fun s _ => pg T.n + pg (pg T.n) - (intOf s).toNat)
  case atStart => exact ⟨0, Nat.zero_le _, rfl, ⟨HM4.out.congr fun i _ => by unfold seenTo; rw [if_neg]; rintro ⟨_, i, hi, _⟩; omega, Chg.refl _ _, fun i hi => by omega⟩⟩
  case round =>
    obtain ⟨k, hk, rfl, hH⟩ := hrel
    by_cases hlt : k < pg T.n + pg (pg T.n)
    · obtain ⟨gg, rfl, hg1, hg2, hg3⟩ := HCE.out k hlt
      have hg4 := (hH.out.2.1.cell (p := ⟨gg, k, none⟩) hg1 (by simp; omega)).trans hg3
      have HTr := Lib.hid (HT4.out.chg hH.out.2.1 (by simp; exact fun e => HMT.out.1 e.symm) (by simp; exact fun e => HMT.out.2.1 e.symm) (by simp; exact fun e => HMT.out.2.2 e.symm))
      obtain ⟨b, hb⟩ : ∃ b, b = (atL S n 0 ++ atL S n 1).getD k 0 := ⟨_, rfl⟩
      rw [← hb] at hg4
      have HBE := Lib.hid hb
      clear hb hg3
      by_cases hb0 : b = 0
      · subst hb0
        rw [show (((0 : Nat)) : Int) = 0 from rfl] at hg4
        go_wp2_with fail
        go_roundw
        case rel => exact ⟨k + 1, by omega, by go_num, ⟨hH.out.1.congr fun i _ => (seen_miss HBE.out.symm i).symm, hH.out.2.1, fun i hi h0 => by
          by_cases e : i = k
          · subst e; exact absurd HBE.out.symm h0
          · exact hH.out.2.2 i (by omega) h0⟩⟩
        case measure => simp [intOf]; omega
      · have hkk : k < n 0 + n 1 := by rw [HQ.out.1, HQ.out.2]; exact hlt
        have hhas := HO.out.has _ _ (kn_lt hkk).1 (kn_lt hkk).2 (by rw [← both_get S n hkk, ← HBE.out]; exact hb0)
        rw [← both_get S n hkk, ← HBE.out] at hhas
        have hbn := hhas
        have hsn := seen_newL HO.out hkk (by rw [← HBE.out]; exact hb0)
        rw [← HBE.out] at hsn
        have hlk := (hH.out.1.look (t := 103) Try.underlying3 Try.underlying3 Try.underlying103 (zeroInt wr) hbn hn2).2
        rw [hsn] at hlk
        simp only [Option.getD_none] at hlk
        rw [show (((0 : Nat)) : Int) = 0 from rfl] at hlk
        obtain ⟨w5, hrun, hK5, hturn⟩ := hH.out.1.put (t := 103) Try.underlying3 Try.underlying3 Try.underlying103 hbn hn2 (v := 1) (by omega)
        rw [show (((1 : Nat)) : Int) = 1 from rfl] at hrun
        have hlk5 := (hK5.look (t := 103) Try.underlying3 Try.underlying3 Try.underlying103 (zeroInt w5) hbn hn2).2
        simp only [if_true, Option.getD_some] at hlk5
        rw [show (((1 : Nat)) : Int) = 1 from rfl] at hlk5
        have hb0' : ¬ (b : Int) = 0 := by omega
        have HK5 := Lib.hid hK5
        have HC5 := Lib.hid ((Chg.refl [w1.heap.size] wr).grown hturn.grown (by simp))
        have HT5 := Lib.hid (HTr.out.chg HC5.out (by simp; exact fun e => HMT.out.1 e.symm) (by simp; exact fun e => HMT.out.2.1 e.symm) (by simp; exact fun e => HMT.out.2.2 e.symm))
        have hgv : Calls Try.prog 24 #[.pointer (some ⟨t, 0, none⟩), .int .i64 (b : Int)] w5 fun e w' => e = .returned (.int .i64 (T.now b : Int)) ∧ w5 = w' := by
          have := get_at HT5.out (b : Int)
          rw [getV_nat hbn] at this
          exact this
        by_cases hbT : T.now b = 0
        · rw [hbT] at hgv
          rw [show (((0 : Nat)) : Int) = 0 from rfl] at hgv
          clear hK5 hturn hsn hbT
          go_wp2_with (go_at_call 24; refine hgv.mono ?_; rintro e w' ⟨rfl, rfl⟩)
          go_ret
          have hsz := HC4.out.size
          exact ⟨rfl, HC4.out.then (hH.out.2.1.trans HC5.out) (fun i hi => .inr (by simp at hi; omega))⟩
        · have hbT' : ¬ (T.now b : Int) = 0 := by omega
          have HBT := Lib.hid hbT
          clear hK5 hturn hsn hbT
          go_wp2_with (go_at_call 24; refine hgv.mono ?_; rintro e w' ⟨rfl, rfl⟩)
          go_roundw
          case rel => exact ⟨k + 1, by omega, by go_num, ⟨HK5.out.congr fun i _ => by rw [seen_hit (by rw [← HBE.out]; exact hb0), ← HBE.out], hH.out.2.1.trans HC5.out, fun i hi h0 => by
            by_cases e : i = k
            · subst e; rw [← HBE.out]; exact HBT.out
            · exact hH.out.2.2 i (by omega) h0⟩⟩
          case measure => simp [intOf]; omega
    · obtain rfl : k = pg T.n + pg (pg T.n) := by omega
      obtain ⟨i, hi, h0, hz⟩ := HBAD.out
      rw [HQ.out.1, HQ.out.2] at hi
      exact absurd hz (hH.out.2.2 i hi h0)

set_option maxRecDepth 20000 in
set_option maxHeartbeats 4000000 in
theorem place_bad {w : World} {p t bc bk : Nat} {K : Pk} {T : Tal} {v0 v1 : Value} {A : Nat → Nat → Nat} {n g c : Nat → Nat} (H : PT w p t bc bk K T) (hv : ShV w v0 v1 A n g c) (ho : ShLo T n A) (hbad : ∃ i, i < n 0 + n 1 ∧ (atL A n 0 ++ atL A n 1).getD i 0 ≠ 0 ∧ T.now ((atL A n 0 ++ atL A n 1).getD i 0) = 0) :
    Calls Try.prog 20 #[.pointer (some ⟨t, 0, none⟩), .pointer (some ⟨p, 0, none⟩), .agg #[v0, v1]] w fun e w' => e = .returned (.tuple #[.agg #[.slice none 0 0, .slice none 0 0], .slice none 0 0, .slice none 0 0, .int .i64 100]) ∧ Chg [] w w' := by
  have n1 := H.ht.n1
  have n2 := H.ht.n2
  have hfn := Nat.le_trans H.f H.n
  have HH := Lib.hid H
  have HV := Lib.hid hv
  have HO := Lib.hid ho
  have HBAD := Lib.hid hbad
  have e0 := hv.e0
  have e1 := hv.e1
  subst e0 e1
  have hb1 := new_block21 w (.cells #[.slice (some ⟨g 0, 0, none⟩) (n 0) (c 0), .slice (some ⟨g 1, 0, none⟩) (n 1) (c 1)] 42) (.cells #[.slice none 0 0, .slice none 0 0] 42)
  have hb2 := new_block2 w (.cells #[.slice (some ⟨g 0, 0, none⟩) (n 0) (c 0), .slice (some ⟨g 1, 0, none⟩) (n 1) (c 1)] 42) (.cells #[.slice none 0 0, .slice none 0 0] 42)
  have hC2 : Chg [] w ((w.alloc (.cells #[.slice (some ⟨g 0, 0, none⟩) (n 0) (c 0), .slice (some ⟨g 1, 0, none⟩) (n 1) (c 1)] 42)).alloc (.cells #[.slice none 0 0, .slice none 0 0] 42)) := ((Chg.refl [] w).alloc _).alloc _
  clear hv ho H hbad
  go_enter Try.func20, Try.ntmps20
  go_wp2_with fail
  generalize (w.alloc _).alloc _ = w2 at *
  have lb2 := heap_lt hb2
  have x0 := cell_of_block hb1 0
  have x1 := cell_of_block hb1 1
  simp only [List.getElem?_toArray, List.getElem?_cons_zero, List.getElem?_cons_succ] at x0 x1
  have HB1 := Lib.hid hb1
  have HB2 := Lib.hid hb2
  have HC2 := Lib.hid hC2
  have HH2 := Lib.hid (HH.out.chg hC2 (by simp) (by simp) (by simp) (by simp))
  have HV2 := Lib.hid (HV.out.chg hC2 (by simp) (by simp))
  clear hb1 hb2 hC2
  refine (blocks_at HH2.out.ht).mono ?_
  rintro e w3 ⟨rfl, rfl⟩
  have nz : ¬ (T.n : Int) = 0 := by omega
  go_wp2_with fail
  refine (right_bad HH2.out.ht HV2.out HO.out HBAD.out).mono ?_
  rintro e w4 ⟨rfl, hC4⟩
  have HH4 := Lib.hid (HH2.out.chg hC4 (by simp) (by simp) (by simp) (by simp))
  have HV4 := Lib.hid (HV2.out.chg hC4 (by simp) (by simp))
  have HB4 := Lib.hid ((hC4.block _ (heap_lt HB1.out) (by simp)).trans HB1.out)
  have HR4 := Lib.hid ((hC4.block _ (heap_lt HB2.out) (by simp)).trans HB2.out)
  have HC4 := Lib.hid (HC2.out.trans hC4)
  clear hC4 x0 x1
  have hr0 := HR4.out
  have r0 := cell_of_block hr0 0
  have r1 := cell_of_block hr0 1
  simp only [List.getElem?_toArray, List.getElem?_cons_zero, List.getElem?_cons_succ] at r0 r1
  have fr := frozen_of_block hr0 0
  have fr1 := frozen_of_block hr0 1
  clear hr0
  go_wp2_with fail
  have hW := setCell_block (setCell_block HR4.out 0 (.slice none 0 0)) 1 (.slice none 0 0)
  have hCW : Chg [] w ((w4.setCell ⟨w.heap.size + 1, 0, none⟩ (.slice none 0 0)).setCell ⟨w.heap.size + 1, 1, none⟩ (.slice none 0 0)) := (HC4.out.setCell (.inr (by show w.heap.size ≤ w.heap.size + 1; omega)) _).setCell (.inr (by show w.heap.size ≤ w.heap.size + 1; omega)) _
  generalize (w4.setCell _ _).setCell _ _ = W at *
  have k0 := cell_of_block hW 0
  have k1 := cell_of_block hW 1
  simp only [List.setIfInBounds_toArray, List.set_cons_zero, List.set_cons_succ, List.getElem?_toArray, List.getElem?_cons_zero, List.getElem?_cons_succ] at k0 k1
  exact bodyPost_ret (v := .tuple #[.agg #[.slice none 0 0, .slice none 0 0], .slice none 0 0, .slice none 0 0, .int .i64 100]) (by simp [results, Try.results20, go_sem, k0, k1]) rfl ⟨rfl, hCW⟩

end Go.Proofs.Ytnhabpbdpjgiiaa
