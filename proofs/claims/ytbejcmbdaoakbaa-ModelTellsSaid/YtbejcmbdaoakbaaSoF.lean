/- slices.order2Ordered, medianOrdered, medianAdjacentOrdered, choosePivotOrdered at uint64. -/
import Derived.Test.YtbejcmbdaoakbaaSoE
namespace Go.Proofs.Ytbejcmbdaoakbaa
open Go.RowKit Go.Sort
set_option linter.unusedVariables false
set_option linter.unusedSimpArgs false

/-- Block sb holds the counter 'swaps'. -/
def CntAt (w : World) (sb s : Nat) : Prop := w.heap[sb]? = some (.cells #[.int .i64 (s : Int)] 3 (0, 0))
theorem CntAt.chg {w w' : World} {sb s : Nat} {L : List Nat} (h : CntAt w sb s) (c : Chg L w w') (hg : sb ∉ L) : CntAt w' sb s := (c.block sb (heap_lt h) hg).trans h
theorem CntAt.lt {w : World} {sb s : Nat} (h : CntAt w sb s) : sb < w.heap.size := heap_lt h

def OrdPost (w : World) (g N : Nat) (d : Array Int) (sb a b s : Nat) (e : Ending) (w' : World) : Prop :=
  e = .returned (.tuple #[.int .i64 ((order2 ltInt d a b s).1 : Int), .int .i64 ((order2 ltInt d a b s).2.1 : Int)]) ∧ RowD w' g N d ∧ CntAt w' sb (order2 ltInt d a b s).2.2 ∧ Chg [sb] w w'

set_option maxRecDepth 100000 in
set_option maxHeartbeats 4000000 in
theorem soOrd_at {w : World} {g N c sb s : Nat} {d : Array Int} (h : RowD w g N d) (hs : CntAt w sb s) (hne : sb ≠ g) (hN : N < 1152921504606846976) (hc : N ≤ c) (hs2 : s < 100) {a b : Nat} (ha : a < N) (hb : b < N) :
    Calls Try.prog 82 #[.slice (some ⟨g, 0, none⟩) N c, .int .i64 (a : Int), .int .i64 (b : Int), .pointer (some ⟨sb, 0, none⟩)] w (OrdPost w g N d sb a b s) := by
  obtain ⟨x, hx⟩ : ∃ x, x = d[b]! := ⟨_, rfl⟩
  obtain ⟨y, hy⟩ : ∃ y, y = d[a]! := ⟨_, rfl⟩
  have c1 := h.cell (i := b) hb
  have c2 := h.cell (i := a) ha
  rw [← hx] at c1
  rw [← hy] at c2
  have Hx := Lib.hid hx
  have Hy := Lib.hid hy
  have H := Lib.hid h
  have HS := Lib.hid hs
  clear hx hy h hs
  have aI : (a : Int) < (N : Int) := by omega
  have bI : (b : Int) < (N : Int) := by omega
  cases hl : ltInt x y with
  | true =>
    have HE := Lib.hid (show order2 ltInt d a b s = (b, a, s + 1) by unfold order2; rw [← Hx.out, ← Hy.out, hl]; rfl)
    have Hd := Lib.hid (fun n => soLess_q x y w n hl)
    clear hl
    go_enter Try.func82, Try.ntmps82
    go_wp2_with fail
    go_quiet ((go_at_call 71; exact Hd.out _))
    have HR1 := Lib.hid (H.out.chg (Chg.drewN (Chg.refl [] w) nq) (by simp))
    have HS1 := Lib.hid (HS.out.chg (Chg.drewN (Chg.refl [] w) nq) (by simp))
    have HC1 := Lib.hid (Chg.drewN (Chg.refl [sb] w) nq)
    clear c1 c2 Hd
    generalize w.drewN nq = W at *
    have cs : W.cell? ⟨sb, 0, none⟩ = some (.int .i64 (s : Int)) := cell_of_block HS1.out 0
    have fs : W.frozen? ⟨sb, 0, none⟩ = false := frozen_of_block HS1.out 0
    go_wp2_with fail
    go_ret2
    refine ⟨by rw [HE.out]; rfl, HR1.out.chg ((Chg.refl [sb] W).setCell (.inl (by simp)) _) (by simp; omega), ?_, HC1.out.trans ((Chg.refl [sb] W).setCell (.inl (by simp)) _)⟩
    rw [HE.out]
    have := setCell_block HS1.out 0 (.int .i64 ((s + 1 : Nat) : Int))
    exact this
  | false =>
    have HE := Lib.hid (show order2 ltInt d a b s = (a, b, s) by unfold order2; rw [← Hx.out, ← Hy.out, hl]; rfl)
    have Hd := Lib.hid (fun n => soLess_q x y w n hl)
    clear hl
    go_enter Try.func82, Try.ntmps82
    go_wp2_with fail
    go_quiet ((go_at_call 71; exact Hd.out _))
    go_wp2_with fail
    go_ret2
    exact ⟨by rw [HE.out]; rfl, H.out.chg (Chg.drewN (Chg.refl [] w) nq) (by simp), by rw [HE.out]; exact HS.out.chg (Chg.drewN (Chg.refl [] w) nq) (by simp), Chg.drewN (Chg.refl [sb] w) nq⟩

theorem soOrd_in {d : Array Int} {a b s N : Nat} (ha : a < N) (hb : b < N) : (order2 ltInt d a b s).1 < N ∧ (order2 ltInt d a b s).2.1 < N ∧ (order2 ltInt d a b s).2.2 ≤ s + 1 := by
  unfold order2; split
  · exact ⟨hb, ha, Nat.le_refl _⟩
  · exact ⟨ha, hb, Nat.le_succ _⟩

def MedPost (w : World) (g N : Nat) (d : Array Int) (sb a b c s : Nat) (e : Ending) (w' : World) : Prop :=
  e = .returned (.int .i64 ((median ltInt d a b c s).1 : Int)) ∧ RowD w' g N d ∧ CntAt w' sb (median ltInt d a b c s).2 ∧ Chg [sb] w w'

set_option maxRecDepth 100000 in
set_option maxHeartbeats 4000000 in
theorem soMed_at {w : World} {g N c sb s : Nat} {d : Array Int} (h : RowD w g N d) (hs : CntAt w sb s) (hne : sb ≠ g) (hN : N < 1152921504606846976) (hc : N ≤ c) (hs2 : s < 90) {a b m : Nat} (ha : a < N) (hb : b < N) (hm : m < N) :
    Calls Try.prog 80 #[.slice (some ⟨g, 0, none⟩) N c, .int .i64 (a : Int), .int .i64 (b : Int), .int .i64 (m : Int), .pointer (some ⟨sb, 0, none⟩)] w (MedPost w g N d sb a b m s) := by
  have C1 := Lib.hid (soOrd_at h hs hne hN hc (by omega) ha hb)
  obtain ⟨⟨a1, b1, s1⟩, h1⟩ : ∃ r, r = order2 ltInt d a b s := ⟨_, rfl⟩
  have i1 := soOrd_in (d := d) (s := s) ha hb
  rw [← h1] at i1
  obtain ⟨⟨b2, c2, s2⟩, h2⟩ : ∃ r, r = order2 ltInt d b1 m s1 := ⟨_, rfl⟩
  have i2 := soOrd_in (d := d) (s := s1) i1.2.1 hm
  rw [← h2] at i2
  obtain ⟨⟨a3, b3, s3⟩, h3⟩ : ∃ r, r = order2 ltInt d a1 b2 s2 := ⟨_, rfl⟩
  have HM := Lib.hid (show median ltInt d a b m s = (b3, s3) by unfold median; simp only [← h1, ← h2, ← h3])
  have H1 := Lib.hid h1
  have H2 := Lib.hid h2
  have H3 := Lib.hid h3
  have I1 := Lib.hid i1
  have I2 := Lib.hid i2
  clear h1 h2 h3 i1 i2 h hs
  go_enter Try.func80, Try.ntmps80
  go_wp2_with fail
  refine C1.out.mono ?_
  rintro e w1 ⟨he, hR, hS, hC⟩
  rw [← H1.out] at he hS
  obtain rfl := he
  have C2 := Lib.hid (soOrd_at hR hS hne hN hc (by show s1 < 100; have q1 : s1 ≤ s + 1 := I1.out.2.2; omega) I1.out.2.1 hm)
  have HC1 := Lib.hid hC
  clear hR hS hC C1
  go_wp2_with fail
  refine C2.out.mono ?_
  rintro e w2 ⟨he, hR, hS, hC⟩
  rw [← H2.out] at he hS
  obtain rfl := he
  have C3 := Lib.hid (soOrd_at hR hS hne hN hc (by show s2 < 100; have q1 : s1 ≤ s + 1 := I1.out.2.2; have q2 : s2 ≤ s1 + 1 := I2.out.2.2; omega) I1.out.1 I2.out.1)
  have HC2 := Lib.hid (HC1.out.trans hC)
  clear hR hS hC C2 HC1
  go_wp2_with fail
  refine C3.out.mono ?_
  rintro e w3 ⟨he, hR, hS, hC⟩
  rw [← H3.out] at he hS
  obtain rfl := he
  have HR := Lib.hid hR
  have HS := Lib.hid hS
  have HC3 := Lib.hid (HC2.out.trans hC)
  clear hR hS hC C3 HC2
  go_wp2_with fail
  go_ret
  exact ⟨by rw [HM.out]; rfl, HR.out, by rw [HM.out]; exact HS.out, HC3.out⟩

theorem soMed_in {d : Array Int} {a b c s N : Nat} (ha : a < N) (hb : b < N) (hc : c < N) : (median ltInt d a b c s).1 < N ∧ (median ltInt d a b c s).2 ≤ s + 3 := by
  refine ⟨?_, median_count ltInt d a b c s⟩
  have i1 := soOrd_in (d := d) (s := s) ha hb
  have i2 := soOrd_in (d := d) (s := (order2 ltInt d a b s).2.2) i1.2.1 hc
  exact (soOrd_in (d := d) (s := (order2 ltInt d (order2 ltInt d a b s).2.1 c (order2 ltInt d a b s).2.2).2.2) i1.1 i2.1).2.1

def MdaPost (w : World) (g N : Nat) (d : Array Int) (sb a s : Nat) (e : Ending) (w' : World) : Prop :=
  e = .returned (.int .i64 ((medianAdjacent ltInt d a s).1 : Int)) ∧ RowD w' g N d ∧ CntAt w' sb (medianAdjacent ltInt d a s).2 ∧ Chg [sb] w w'

set_option maxRecDepth 100000 in
set_option maxHeartbeats 4000000 in
theorem soMda_at {w : World} {g N c sb s : Nat} {d : Array Int} (h : RowD w g N d) (hs : CntAt w sb s) (hne : sb ≠ g) (hN : N < 1152921504606846976) (hc : N ≤ c) (hs2 : s < 90) {a : Nat} (ha0 : 0 < a) (ha : a + 1 < N) :
    Calls Try.prog 79 #[.slice (some ⟨g, 0, none⟩) N c, .int .i64 (a : Int), .pointer (some ⟨sb, 0, none⟩)] w (MdaPost w g N d sb a s) := by
  obtain ⟨k, hk⟩ : ∃ k, a = k + 1 := ⟨a - 1, by omega⟩
  subst hk
  have c0 := soMed_at h hs hne hN hc hs2 (a := k) (b := k + 1) (m := k + 1 + 1) (by omega) (by omega) (by omega)
  have e1 : (((k + 1 : Nat)) : Int) = (k : Int) + 1 := by omega
  have e2 : (((k + 1 + 1 : Nat)) : Int) = (k : Int) + 1 + 1 := by omega
  rw [e1, e2] at c0
  have C1 := Lib.hid c0
  clear c0 h hs e1 e2
  go_enter Try.func79, Try.ntmps79
  go_wp2_with fail
  refine C1.out.mono ?_
  rintro e w1 ⟨rfl, hR, hS, hC⟩
  have HR := Lib.hid hR
  have HS := Lib.hid hS
  have HC := Lib.hid hC
  clear hR hS hC C1
  go_wp2_with fail
  go_ret
  exact ⟨rfl, HR.out, HS.out, HC.out⟩

def PivPost (w : World) (g N : Nat) (d : Array Int) (a b : Nat) (e : Ending) (w' : World) : Prop :=
  e = .returned (.tuple #[.int .i64 ((choosePivot ltInt d a b).1 : Int), .int .i64 (hintCode (choosePivot ltInt d a b).2)]) ∧ RowD w' g N d ∧ Chg [] w w'
/-- The end: the switch over 'swaps'. -/
theorem soPiv_lo {d : Array Int} {a L : Nat} (h : L < 8) : choosePivot ltInt d a (a + L) = (a + L / 4 * 2, .increasing) := by
  unfold choosePivot
  simp only [Nat.add_sub_cancel_left]
  rw [if_neg (by omega)]; rfl
theorem soPiv_mid {d : Array Int} {a L : Nat} (h : 8 ≤ L) (h2 : L < 50) {r : Nat × Nat} (hr : median ltInt d (a + L / 4 * 1) (a + L / 4 * 2) (a + L / 4 * 3) 0 = r) : choosePivot ltInt d a (a + L) = (r.1, if r.2 = 0 then .increasing else if r.2 = 12 then .decreasing else .unknown) := by
  unfold choosePivot
  simp only [Nat.add_sub_cancel_left]
  rw [if_pos (by omega), if_neg (by omega), hr]
theorem soPiv_hi {d : Array Int} {a L : Nat} (h2 : 50 ≤ L) {r1 r2 r3 r : Nat × Nat} (h1 : medianAdjacent ltInt d (a + L / 4 * 1) 0 = r1) (hr2 : medianAdjacent ltInt d (a + L / 4 * 2) r1.2 = r2) (hr3 : medianAdjacent ltInt d (a + L / 4 * 3) r2.2 = r3) (hr : median ltInt d r1.1 r2.1 r3.1 r3.2 = r) : choosePivot ltInt d a (a + L) = (r.1, if r.2 = 0 then .increasing else if r.2 = 12 then .decreasing else .unknown) := by
  subst h1 hr2 hr3 hr
  unfold choosePivot
  simp only [Nat.add_sub_cancel_left]
  rw [if_pos (by omega), if_pos (by omega)]

set_option maxRecDepth 100000 in
set_option maxHeartbeats 8000000 in
theorem soPiv_at {w : World} {g N c : Nat} {d : Array Int} (h : RowD w g N d) (hN : N < 1152921504606846976) (hc : N ≤ c) {a L : Nat} (hL : 0 < L) (hb : a + L ≤ N) :
    Calls Try.prog 68 #[.slice (some ⟨g, 0, none⟩) N c, .int .i64 (a : Int), .int .i64 ((a + L : Nat) : Int)] w (PivPost w g N d a (a + L)) := by
  have H := Lib.hid h
  have e0 : (((a + L : Nat)) : Int) - (a : Int) = (L : Int) := by omega
  have q1 : (a : Int) + (L : Int) - (a : Int) = (L : Int) := by omega
  have hg := h.lt
  clear h
  by_cases h8 : L < 8
  · have h8I : ¬ (8 : Int) ≤ (L : Int) := by omega
    have HP := Lib.hid (soPiv_lo (d := d) (a := a) h8)
    go_enter Try.func68, Try.ntmps68
    go_wp2_with fail
    go_ret2
    exact ⟨by rw [HP.out]; rfl, H.out.chg (by first | exact (Chg.refl [] w).alloc _ | exact ((Chg.refl [] w).alloc _)) (by simp), by exact (Chg.refl [] w).alloc _⟩
  · have h8I : (8 : Int) ≤ (L : Int) := by omega
    obtain ⟨q, hq⟩ : ∃ q, q = L / 4 := ⟨_, rfl⟩
    have hqI : (L : Int) / 4 = (q : Int) := by omega
    have hq4 : 4 * q ≤ L := by omega
    have hq2 : 2 ≤ q := by omega
    have m1 : ((a + q * 1 : Nat) : Int) = (a : Int) + (q : Int) := by omega
    have m2 : ((a + q * 2 : Nat) : Int) = (a : Int) + (q : Int) * 2 := by omega
    have m3 : ((a + q * 3 : Nat) : Int) = (a : Int) + (q : Int) * 3 := by omega
    have Hq := Lib.hid hq
    clear hq
    by_cases h50 : L < 50
    · have h50I : ¬ (50 : Int) ≤ (L : Int) := by omega
      have cm := fun (W : World) (hW : RowD W g N d) (sb : Nat) (hs : CntAt W sb 0) (hne : sb ≠ g) => soMed_at hW hs hne hN hc (by omega) (a := a + q * 1) (b := a + q * 2) (m := a + q * 3) (by omega) (by omega) (by omega)
      simp only [m1, m2, m3] at cm
      have HM := Lib.hid cm
      clear cm m1 m2 m3
      obtain ⟨⟨jj, sw⟩, hr⟩ : ∃ r, r = median ltInt d (a + q * 1) (a + q * 2) (a + q * 3) 0 := ⟨_, rfl⟩
      have HP := Lib.hid (soPiv_mid (d := d) (a := a) (by omega) h50 (r := (jj, sw)) (by rw [← Hq.out]; exact hr.symm))
      have Hr := Lib.hid hr
      clear hr
      go_enter Try.func68, Try.ntmps68
      go_wp2_with fail
      refine (HM.out _ (H.out.chg ((Chg.refl [] w).alloc _) (by simp)) _ (new_block w _) (by omega)).mono ?_
      rintro e w1 ⟨he, hR, hS, hC⟩
      rw [← Hr.out] at he hS
      obtain rfl := he
      have HR := Lib.hid hR
      have HS : Hid (CntAt w1 w.heap.size sw) := Lib.hid hS
      have HC : Hid (Chg [] w w1) := Lib.hid (((Chg.refl [] w).alloc _).then hC (fun i hi => by simp at hi; subst hi; exact .inr (Nat.le_refl _)))
      clear hR hS hC HM
      rcases Nat.lt_or_ge 0 sw with hs0 | hs0
      · rcases Nat.lt_trichotomy sw 12 with h12 | h12 | h12
        · have HT := Lib.hid (show choosePivot ltInt d a (a + L) = (jj, .unknown) by rw [HP.out]; show (jj, if sw = 0 then Hint.increasing else if sw = 12 then .decreasing else .unknown) = _; rw [if_neg (by omega), if_neg (by omega)])
          have cs : w1.cell? ⟨w.heap.size, 0, none⟩ = some (.int .i64 (sw : Int)) := cell_of_block HS.out 0
          have k1 : ((sw : Int) == 0) = false := by simp; omega
          have k2 : ((sw : Int) == 12) = false := by simp; omega
          go_wp2_with fail
          go_ret2
          exact ⟨by rw [HT.out]; rfl, HR.out, HC.out⟩
        · subst h12
          have HT := Lib.hid (show choosePivot ltInt d a (a + L) = (jj, .decreasing) by rw [HP.out]; rfl)
          have cs : w1.cell? ⟨w.heap.size, 0, none⟩ = some (.int .i64 12) := cell_of_block HS.out 0
          go_wp2_with fail
          go_ret2
          exact ⟨by rw [HT.out]; rfl, HR.out, HC.out⟩
        · have HT := Lib.hid (show choosePivot ltInt d a (a + L) = (jj, .unknown) by rw [HP.out]; show (jj, if sw = 0 then Hint.increasing else if sw = 12 then .decreasing else .unknown) = _; rw [if_neg (by omega), if_neg (by omega)])
          have cs : w1.cell? ⟨w.heap.size, 0, none⟩ = some (.int .i64 (sw : Int)) := cell_of_block HS.out 0
          have k1 : ((sw : Int) == 0) = false := by simp; omega
          have k2 : ((sw : Int) == 12) = false := by simp; omega
          go_wp2_with fail
          go_ret2
          exact ⟨by rw [HT.out]; rfl, HR.out, HC.out⟩
      · obtain rfl : sw = 0 := by omega
        have HT := Lib.hid (show choosePivot ltInt d a (a + L) = (jj, .increasing) by rw [HP.out]; rfl)
        have cs : w1.cell? ⟨w.heap.size, 0, none⟩ = some (.int .i64 0) := cell_of_block HS.out 0
        go_wp2_with fail
        go_ret2
        exact ⟨by rw [HT.out]; rfl, HR.out, HC.out⟩
    · have h50I : (50 : Int) ≤ (L : Int) := by omega
      have ca := fun (W : World) (hW : RowD W g N d) (sb s : Nat) (hs : CntAt W sb s) (hne : sb ≠ g) (h9 : s < 90) (m : Nat) (h0 : 0 < m) (h1 : m + 1 < N) => soMda_at hW hs hne hN hc h9 (a := m) h0 h1
      have cm := fun (W : World) (hW : RowD W g N d) (sb s : Nat) (hs : CntAt W sb s) (hne : sb ≠ g) (h9 : s < 90) (m1 m2 m3 : Nat) (l1 : m1 < N) (l2 : m2 < N) (l3 : m3 < N) => soMed_at hW hs hne hN hc h9 (a := m1) (b := m2) (m := m3) l1 l2 l3
      have CA := Lib.hid ca
      have CM := Lib.hid cm
      clear ca cm
      have M1 := Lib.hid m1
      have M2 := Lib.hid m2
      have M3 := Lib.hid m3
      clear m1 m2 m3
      obtain ⟨⟨j1, s1⟩, h1⟩ : ∃ r, r = medianAdjacent ltInt d (a + q * 1) 0 := ⟨_, rfl⟩
      have i1 := soMed_in (d := d) (N := N) (s := 0) (a := a + q * 1 - 1) (b := a + q * 1) (c := a + q * 1 + 1) (by omega) (by omega) (by omega)
      have e1 : medianAdjacent ltInt d (a + q * 1) 0 = median ltInt d (a + q * 1 - 1) (a + q * 1) (a + q * 1 + 1) 0 := rfl
      rw [← e1, ← h1] at i1
      obtain ⟨⟨j2, s2⟩, h2⟩ : ∃ r, r = medianAdjacent ltInt d (a + q * 2) s1 := ⟨_, rfl⟩
      have i2 := soMed_in (d := d) (N := N) (s := s1) (a := a + q * 2 - 1) (b := a + q * 2) (c := a + q * 2 + 1) (by omega) (by omega) (by omega)
      have e2 : medianAdjacent ltInt d (a + q * 2) s1 = median ltInt d (a + q * 2 - 1) (a + q * 2) (a + q * 2 + 1) s1 := rfl
      rw [← e2, ← h2] at i2
      obtain ⟨⟨j3, s3⟩, h3⟩ : ∃ r, r = medianAdjacent ltInt d (a + q * 3) s2 := ⟨_, rfl⟩
      have i3 := soMed_in (d := d) (N := N) (s := s2) (a := a + q * 3 - 1) (b := a + q * 3) (c := a + q * 3 + 1) (by omega) (by omega) (by omega)
      have e3 : medianAdjacent ltInt d (a + q * 3) s2 = median ltInt d (a + q * 3 - 1) (a + q * 3) (a + q * 3 + 1) s2 := rfl
      rw [← e3, ← h3] at i3
      obtain ⟨⟨jj, sw⟩, hr⟩ : ∃ r, r = median ltInt d j1 j2 j3 s3 := ⟨_, rfl⟩
      have HP := Lib.hid (soPiv_hi (d := d) (a := a) (L := L) (by omega) (r1 := (j1, s1)) (r2 := (j2, s2)) (r3 := (j3, s3)) (r := (jj, sw)) (by rw [← Hq.out]; exact h1.symm) (by rw [← Hq.out]; exact h2.symm) (by rw [← Hq.out]; exact h3.symm) hr.symm)
      have H1 := Lib.hid h1
      have H2 := Lib.hid h2
      have H3 := Lib.hid h3
      have Hr := Lib.hid hr
      have I1 : Hid (j1 < N ∧ s1 ≤ 3) := Lib.hid ⟨i1.1, by have q : s1 ≤ 0 + 3 := i1.2; omega⟩
      have I2 : Hid (j2 < N ∧ s2 ≤ 6) := Lib.hid ⟨i2.1, by have q : s2 ≤ s1 + 3 := i2.2; have := I1.out.2; omega⟩
      have I3 : Hid (j3 < N ∧ s3 ≤ 9) := Lib.hid ⟨i3.1, by have q : s3 ≤ s2 + 3 := i3.2; have := I2.out.2; omega⟩
      clear h1 h2 h3 hr e1 e2 e3 i1 i2 i3
      go_enter Try.func68, Try.ntmps68
      go_wp2_with fail
      rw [← M1.out]
      refine (CA.out _ (H.out.chg ((Chg.refl [] w).alloc _) (by simp)) _ 0 (new_block w _) (by omega) (by omega) (a + q * 1) (by omega) (by omega)).mono ?_
      rintro e w1 ⟨he, hR, hS, hC⟩
      rw [← H1.out] at he hS
      obtain rfl := he
      have HR1 := Lib.hid hR
      have HS1 : Hid (CntAt w1 w.heap.size s1) := Lib.hid hS
      have HC1 : Hid (Chg [] w w1) := Lib.hid (((Chg.refl [] w).alloc _).then hC (fun i hi => by simp at hi; subst hi; exact .inr (Nat.le_refl _)))
      clear hR hS hC
      go_wp2_with fail
      rw [← M2.out]
      refine (CA.out _ HR1.out _ s1 HS1.out (by omega) (by have := I1.out.2; omega) (a + q * 2) (by omega) (by omega)).mono ?_
      rintro e w2 ⟨he, hR, hS, hC⟩
      rw [← H2.out] at he hS
      obtain rfl := he
      have HR2 := Lib.hid hR
      have HS2 : Hid (CntAt w2 w.heap.size s2) := Lib.hid hS
      have HC2 : Hid (Chg [] w w2) := Lib.hid (HC1.out.then hC (fun i hi => by simp at hi; subst hi; exact .inr (Nat.le_refl _)))
      clear hR hS hC
      go_wp2_with fail
      rw [← M3.out]
      refine (CA.out _ HR2.out _ s2 HS2.out (by omega) (by have := I2.out.2; omega) (a + q * 3) (by omega) (by omega)).mono ?_
      rintro e w3 ⟨he, hR, hS, hC⟩
      rw [← H3.out] at he hS
      obtain rfl := he
      have HR3 := Lib.hid hR
      have HS3 : Hid (CntAt w3 w.heap.size s3) := Lib.hid hS
      have HC3 : Hid (Chg [] w w3) := Lib.hid (HC2.out.then hC (fun i hi => by simp at hi; subst hi; exact .inr (Nat.le_refl _)))
      clear hR hS hC
      go_wp2_with fail
      refine (CM.out _ HR3.out _ s3 HS3.out (by omega) (by have := I3.out.2; omega) j1 j2 j3 I1.out.1 I2.out.1 I3.out.1).mono ?_
      rintro e w1 ⟨he, hR, hS, hC⟩
      rw [← Hr.out] at he hS
      obtain rfl := he
      have HR := Lib.hid hR
      have HS : Hid (CntAt w1 w.heap.size sw) := Lib.hid hS
      have HC : Hid (Chg [] w w1) := Lib.hid (HC3.out.then hC (fun i hi => by simp at hi; subst hi; exact .inr (Nat.le_refl _)))
      clear hR hS hC CM CA
      rcases Nat.lt_or_ge 0 sw with hs0 | hs0
      · rcases Nat.lt_trichotomy sw 12 with h12 | h12 | h12
        · have HT := Lib.hid (show choosePivot ltInt d a (a + L) = (jj, .unknown) by rw [HP.out]; show (jj, if sw = 0 then Hint.increasing else if sw = 12 then .decreasing else .unknown) = _; rw [if_neg (by omega), if_neg (by omega)])
          have cs : w1.cell? ⟨w.heap.size, 0, none⟩ = some (.int .i64 (sw : Int)) := cell_of_block HS.out 0
          have k1 : ((sw : Int) == 0) = false := by simp; omega
          have k2 : ((sw : Int) == 12) = false := by simp; omega
          go_wp2_with fail
          go_ret2
          exact ⟨by rw [HT.out]; rfl, HR.out, HC.out⟩
        · subst h12
          have HT := Lib.hid (show choosePivot ltInt d a (a + L) = (jj, .decreasing) by rw [HP.out]; rfl)
          have cs : w1.cell? ⟨w.heap.size, 0, none⟩ = some (.int .i64 12) := cell_of_block HS.out 0
          go_wp2_with fail
          go_ret2
          exact ⟨by rw [HT.out]; rfl, HR.out, HC.out⟩
        · have HT := Lib.hid (show choosePivot ltInt d a (a + L) = (jj, .unknown) by rw [HP.out]; show (jj, if sw = 0 then Hint.increasing else if sw = 12 then .decreasing else .unknown) = _; rw [if_neg (by omega), if_neg (by omega)])
          have cs : w1.cell? ⟨w.heap.size, 0, none⟩ = some (.int .i64 (sw : Int)) := cell_of_block HS.out 0
          have k1 : ((sw : Int) == 0) = false := by simp; omega
          have k2 : ((sw : Int) == 12) = false := by simp; omega
          go_wp2_with fail
          go_ret2
          exact ⟨by rw [HT.out]; rfl, HR.out, HC.out⟩
      · obtain rfl : sw = 0 := by omega
        have HT := Lib.hid (show choosePivot ltInt d a (a + L) = (jj, .increasing) by rw [HP.out]; rfl)
        have cs : w1.cell? ⟨w.heap.size, 0, none⟩ = some (.int .i64 0) := cell_of_block HS.out 0
        go_wp2_with fail
        go_ret2
        exact ⟨by rw [HT.out]; rfl, HR.out, HC.out⟩

end Go.Proofs.Ytbejcmbdaoakbaa
