/- slices.partialInsertionSortOrdered at uint64. -/
import Derived.Test.YtbejcmbdaoakbaaSoD
namespace Go.Proofs.Ytbejcmbdaoakbaa
open Go.RowKit Go.Sort
set_option linter.unusedVariables false
set_option linter.unusedSimpArgs false

section
variable {α : Type} [Inhabited α] (lt : α → α → Bool)
theorem soSc_go (d : Array α) (b i : Nat) (h : i < b) (hp : (!lt d[i]! d[i - 1]!) = true) : scanSorted lt d b (i + 1) = scanSorted lt d b i := by
  conv => rhs; rw [scanSorted, if_pos (by rw [hp]; simp [h])]
theorem soSc_end (d : Array α) (b i : Nat) (h : (decide (i < b) && !lt d[i]! d[i - 1]!) = false) : scanSorted lt d b i = i := by
  rw [scanSorted, if_neg (by rw [h]; exact Bool.false_ne_true)]
def soDnIf (a i : Nat) (d : Array α) : Array α := if i - a ≥ 2 then shiftDown lt (i - 1) d else d
def soUpIf (b i : Nat) (d : Array α) : Array α := if b - i ≥ 2 then shiftUp lt b (i + 1) d else d
theorem soPi_sorted (a b s i : Nat) (d : Array α) {i2 : Nat} (e : scanSorted lt d b i = i2) (h : i2 = b) : partialIns lt a b (s + 1) i d = (d, true) := by
  subst e; unfold partialIns; simp only []; rw [if_pos h]
theorem soPi_short (a b s i : Nat) (d : Array α) {i2 : Nat} (e : scanSorted lt d b i = i2) (h : ¬ i2 = b) (h2 : b - a < 50) : partialIns lt a b (s + 1) i d = (d, false) := by
  subst e; unfold partialIns; simp only []; rw [if_neg h, if_pos h2]
theorem soPi_go (a b s i : Nat) (d : Array α) {i2 : Nat} (e : scanSorted lt d b i = i2) (h : ¬ i2 = b) (h2 : ¬ b - a < 50) : partialIns lt a b s i2 (soUpIf lt b i2 (soDnIf lt a i2 (swp d i2 (i2 - 1)))) = partialIns lt a b (s + 1) i d := by
  subst e; conv => rhs; unfold partialIns
  simp only []; rw [if_neg h, if_neg h2]; rfl
theorem soShD_go (k : Nat) (d : Array α) (h : lt d[k + 1]! d[k]! = true) : shiftDown lt k (swp d (k + 1) k) = shiftDown lt (k + 1) d := by
  conv => rhs; rw [shiftDown, h]
  rfl
theorem soShD_stop (k : Nat) (d : Array α) (h : lt d[k + 1]! d[k]! = false) : shiftDown lt (k + 1) d = d := by
  rw [shiftDown, h]; rfl
theorem soShU_go (b j : Nat) (d : Array α) (hj : j < b) (h : lt d[j]! d[j - 1]! = true) : shiftUp lt b (j + 1) (swp d j (j - 1)) = shiftUp lt b j d := by
  conv => rhs; rw [shiftUp, if_pos hj, h]
  rfl
theorem soShU_stop (b j : Nat) (d : Array α) (h : lt d[j]! d[j - 1]! = false) : shiftUp lt b j d = d := by
  rw [shiftUp]
  split
  · rw [h]; rfl
  · rfl
theorem soShU_end (b j : Nat) (d : Array α) (h : ¬ j < b) : shiftUp lt b j d = d := by rw [shiftUp, if_neg h]
end

set_option maxRecDepth 100000 in
set_option maxHeartbeats 16000000 in
theorem soPIns_at {w : World} {g N c : Nat} {d : Array Int} (h : RowD w g N d) (hN : N < 1152921504606846976) (hc : N ≤ c) {a b : Nat} (hab : a < b) (hb : b ≤ N) :
    Calls Try.prog 70 #[.slice (some ⟨g, 0, none⟩) N c, .int .i64 (a : Int), .int .i64 (b : Int)] w fun e w' =>
      e = .returned (.bool (partialInsertionSort ltInt d a b).2) ∧ RowD w' g N (partialInsertionSort ltInt d a b).1 ∧ Chg [g] w w' := by
  have H : Hid (RowD w g N d ∧ Chg [g] w w) := Lib.hid ⟨h, Chg.refl _ _⟩
  clear h
  go_enter Try.func70, Try.ntmps70
  go_wp2_with fail
  go_loopg [7, 8] 5 (fun gg s u wr => ∃ i : Nat, s = .int .i64 (i : Int) ∧ u = .int .i64 (5 - (gg : Int)) ∧ a < i ∧ i ≤ b ∧ gg ≤ 5 ∧ Hid (∃ dk, RowD wr g N dk ∧ Chg [g] w wr ∧ partialIns ltInt a b gg i dk = partialIns ltInt a b 5 (a + 1) d))
  case atStart => exact ⟨a + 1, by go_num, rfl, by omega, by omega, by omega, ⟨d, H.out.1, H.out.2, rfl⟩⟩
  case round =>
    obtain ⟨i, rfl, rfl, hai, hib, hgg, hX⟩ := hrel
    obtain ⟨wo, rfl⟩ : ∃ wo : World, wo = wr := ⟨_, rfl⟩
    obtain ⟨dk, hR, hC, hL⟩ := hX.out
    have HO : Hid (RowD wo g N dk ∧ Chg [g] w wo) := Lib.hid ⟨hR, hC⟩
    have HL := Lib.hid hL
    clear hR hC hL hX
    cases gk with
    | zero =>
      have HF : Hid (partialInsertionSort ltInt d a b = (dk, false)) := Lib.hid HL.out.symm
      go_wp2_with fail
      go_ret
      exact ⟨by rw [HF.out]; rfl, by rw [HF.out]; exact HO.out.1, HO.out.2⟩
    | succ st =>
      have hst : 5 - ((st + 1 : Nat) : Int) < 5 := by omega
      go_wp2_with fail
      go_loopg [7] (b - i) (fun k s wr => ∃ iu : Nat, s = .int .i64 (iu : Int) ∧ i ≤ iu ∧ iu ≤ b ∧ k = b - iu ∧ Hid (RowD wr g N dk ∧ Chg [g] w wr ∧ scanSorted ltInt dk b iu = scanSorted ltInt dk b i))
      case atStart => exact ⟨i, by go_num, Nat.le_refl _, by omega, rfl, ⟨HO.out.1, HO.out.2, rfl⟩⟩
      case round =>
        obtain ⟨iu, rfl, hiua, hiub, hku, hXu⟩ := hrel
        obtain ⟨wu, rfl⟩ : ∃ wu : World, wu = wr := ⟨_, rfl⟩
        have Hku := Lib.hid hku
        clear hku HO
        go_upto_region 5 with fail
        go_cut [32] from 17 to 34 (fun s wx => ∃ tst : Bool, s = .bool tst ∧ tst = (decide (iu < b) && !ltInt dk[iu]! dk[iu - 1]!) ∧ Hid (RowD wx g N dk ∧ Chg [g] w wx))
        case first =>
          have HR := Lib.hid hXu.out.1
          have HC := Lib.hid hXu.out.2.1
          clear hXu
          by_cases hle : iu < b
          · obtain ⟨m, hm⟩ : ∃ m, iu = m + 1 := ⟨iu - 1, by omega⟩
            subst hm
            have hleI : (m : Int) + 1 < (b : Int) := by omega
            obtain ⟨x, hx⟩ : ∃ x, x = dk[m + 1]! := ⟨_, rfl⟩
            obtain ⟨p, hp⟩ : ∃ p, p = dk[m]! := ⟨_, rfl⟩
            have c1 := HR.out.cell (i := m + 1) (by omega)
            have c2 := HR.out.cell (i := m) (by omega)
            rw [← hx] at c1
            rw [← hp] at c2
            have b1 : (m : Int) + 1 < (N : Int) := by omega
            have b2 : (m : Int) < (N : Int) := by omega
            have b3 : (0 : Int) ≤ (m : Int) + 1 := by omega
            have e1 : IntKind.i64.wrap ((m : Int) + 1 - 1) = (m : Int) := by
              rw [show (m : Int) + 1 - 1 = (m : Int) by omega]
              exact IntWalk.i64_in _ (by omega)
            have Hx := Lib.hid hx
            have Hp := Lib.hid hp
            have Hd := Lib.hid (fun n => soLess_q x p wu n rfl)
            clear hx hp
            go_wp2_with fail
            go_quiet ((go_at_call 71; exact Hd.out _))
            go_wp2_with fail
            go_meet
            case rel => exact ⟨_, rfl, by rw [Nat.add_sub_cancel, ← Hx.out, ← Hp.out]; simp [hle], ⟨HR.out.chg (Chg.drewN (Chg.refl [] _) _) (by simp), HC.out.drewN _⟩⟩
          · have hleF : decide ((iu : Int) < (b : Int)) = false := by simp; omega
            go_wp2_with fail
            go_quiet (fail)
            go_wp2_with fail
            go_meet
            case rel => exact ⟨false, rfl, by simp [hle], ⟨HR.out.chg (Chg.drewN (Chg.refl [] _) _) (by simp), HC.out.drewN _⟩⟩
        case rest =>
          obtain ⟨tst, rfl, hT, HYu⟩ := hcut
          cases tst with
          | true =>
            have HT := Lib.hid hT
            clear hT
            have ht := HT.out.symm
            simp only [Bool.and_eq_true, decide_eq_true_eq] at ht
            have hle := ht.1
            have Ht := Lib.hid ht.2
            clear ht
            go_wp2_with fail
            go_roundg (b - (iu + 1))
            case measure => rw [Hku.out]; omega
            case rel => exact ⟨iu + 1, by go_num, by omega, by omega, rfl, ⟨HYu.out.1, HYu.out.2, (soSc_go ltInt dk b iu hle Ht.out).trans hXu.out.2.2⟩⟩
          | false =>
            have HU : Hid (scanSorted ltInt dk b i = iu) := Lib.hid (hXu.out.2.2.symm.trans (soSc_end ltInt dk b iu hT.symm))
            clear hT hXu
            by_cases hb2 : iu = b
            · have HF : Hid (partialInsertionSort ltInt d a b = (dk, true)) := Lib.hid (HL.out.symm.trans (soPi_sorted ltInt a b st i dk HU.out hb2))
              have hbI : (iu : Int) = (b : Int) := by omega
              have HbI := Lib.hid hb2
              have hbB : ((iu : Int) == (b : Int)) = true := by simp [hb2]
              clear hb2 hbI
              go_wp2_with fail
              go_ret
              exact ⟨by rw [HF.out]; rfl, by rw [HF.out]; exact HYu.out.1, HYu.out.2⟩
            · have hbB : ((iu : Int) == (b : Int)) = false := by simp; omega
              by_cases h50 : b - a < 50
              · have h50I : (b : Int) - (a : Int) < 50 := by omega
                have HF : Hid (partialInsertionSort ltInt d a b = (dk, false)) := Lib.hid (HL.out.symm.trans (soPi_short ltInt a b st i dk HU.out hb2 h50))
                go_wp2_with fail
                go_ret
                exact ⟨by rw [HF.out]; rfl, by rw [HF.out]; exact HYu.out.1, HYu.out.2⟩
              · have h50I : ¬ (b : Int) - (a : Int) < 50 := by omega
                have HG := Lib.hid (soPi_go ltInt a b st i dk HU.out hb2 h50)
                obtain ⟨m, hm⟩ : ∃ m, iu = m + 1 := ⟨iu - 1, by omega⟩
                subst hm
                rw [Nat.add_sub_cancel] at HG
                have e1 : IntKind.i64.wrap ((m : Int) + 1 - 1) = (m : Int) := by
                  rw [show (m : Int) + 1 - 1 = (m : Int) by omega]
                  exact IntWalk.i64_in _ (by omega)
                have b3 : (m : Int) + 1 < (N : Int) := by omega
                have b4 : (0 : Int) ≤ (m : Int) + 1 := by omega
                go_upto_region 11 with fail
                obtain ⟨x, hx⟩ : ∃ x, x = dk[(m + 1)]! := ⟨_, rfl⟩
                obtain ⟨y, hy⟩ : ∃ y, y = dk[m]! := ⟨_, rfl⟩
                have c1 := HYu.out.1.cell (i := (m + 1)) (by omega)
                have c2 := HYu.out.1.cell (i := m) (by omega)
                rw [← hx] at c1
                rw [← hy] at c2
                have Hx := Lib.hid hx
                have Hy := Lib.hid hy
                clear hx hy
                have f1 := HYu.out.1.fz (m + 1)
                have f2 := HYu.out.1.fz m
                have b1 : ((m + 1) : Int) < (N : Int) := by omega
                have b2 : (m : Int) < (N : Int) := by omega
                obtain ⟨v2, hv2⟩ := cell?_setCell_some (w := _) (p := ⟨g, (m + 1), none⟩) (x := .int .u64 y) (q := ⟨g, m, none⟩) c2
                go_region
                have HS := Lib.hid (HYu.out.1.swapd (i := (m + 1)) (j := m) (by omega) (by omega) Hx.out Hy.out)
                have HA : Hid (RowD _ g N (swp dk (m + 1) m) ∧ Chg [g] w _) := Lib.hid ⟨HS.out.1.chg (Chg.drew (Chg.refl [] _)) (by simp), (HYu.out.2.trans HS.out.2).drew⟩
                clear c1 c2 f1 f2 b1 b2 hv2 HS Hx Hy
                obtain ⟨d1, hd1⟩ : ∃ d1, d1 = swp dk (m + 1) m := ⟨_, rfl⟩
                rw [← hd1] at HA HG
                clear hd1 e1
                go_upto_if 61 with fail
                go_cut [7, 8] from 13 to 132 (fun s7 s8 wx => s7 = .int .i64 ((m : Int) + 1) ∧ s8 = .int .i64 (5 - ((st : Int) + 1)) ∧ Hid (RowD wx g N (soDnIf ltInt a (m + 1) d1) ∧ Chg [g] w wx))
                case first =>
                  by_cases h2 : m + 1 - a ≥ 2
                  · have h2I : (m : Int) + 1 - (a : Int) ≥ 2 := by omega
                    have HD := Lib.hid (show soDnIf ltInt a (m + 1) d1 = shiftDown ltInt m d1 by unfold soDnIf; rw [if_pos h2]; rfl)
                    go_wp2_with fail
                    go_loopg [9] m (fun k s wr => s = .int .i64 (k : Int) ∧ k ≤ m ∧ Hid (∃ dj, RowD wr g N dj ∧ Chg [g] w wr ∧ shiftDown ltInt k dj = shiftDown ltInt m d1))
                    case atStart => exact ⟨by go_num, Nat.le_refl _, ⟨d1, HA.out.1, HA.out.2, rfl⟩⟩
                    case round =>
                      obtain ⟨rfl, hkm, hZ⟩ := hrel
                      obtain ⟨wi, rfl⟩ : ∃ wi : World, wi = wr := ⟨_, rfl⟩
                      obtain ⟨dj, hR, hC, hL⟩ := hZ.out
                      have HZ : Hid (RowD wi g N dj ∧ Chg [g] w wi) := Lib.hid ⟨hR, hC⟩
                      have HLj := Lib.hid hL
                      clear hR hC hL hZ HA
                      cases gk with
                      | zero =>
                        go_wp2_with fail
                        go_meet
                        case rel => exact ⟨by first | rfl | go_num, by first | rfl | go_num, by rw [HD.out, ← HLj.out]; exact HZ⟩
                      | succ k =>
                        obtain ⟨x, hx⟩ : ∃ x, x = dj[k + 1]! := ⟨_, rfl⟩
                        obtain ⟨y, hy⟩ : ∃ y, y = dj[k]! := ⟨_, rfl⟩
                        have c1 := HZ.out.1.cell (i := k + 1) (by omega)
                        have c2 := HZ.out.1.cell (i := k) (by omega)
                        rw [← hx] at c1
                        rw [← hy] at c2
                        have Hx := Lib.hid hx
                        have Hy := Lib.hid hy
                        clear hx hy
                        have i1 : (k : Int) + 1 < (N : Int) := by omega
                        have i0 : (0 : Int) ≤ (k : Int) + 1 := by omega
                        have i3 : (k : Int) < (N : Int) := by omega
                        have i4 : (1 : Int) ≤ (k : Int) + 1 := by omega
                        have e1 : IntKind.i64.wrap ((k : Int) + 1 - 1) = (k : Int) := by
                          rw [show (k : Int) + 1 - 1 = (k : Int) by omega]
                          exact IntWalk.i64_in _ (by omega)
                        cases hl : ltInt x y with
                        | true =>
                          have Hd := Lib.hid (fun n => soLess_q x y wi n hl)
                          have Hl := Lib.hid hl
                          clear hl
                          go_wp2_with fail
                          go_quiet ((go_at_call 71; exact Hd.out _))
                          have HZ1 : Hid (RowD (wi.drewN nq) g N dj ∧ Chg [g] w (wi.drewN nq)) := Lib.hid ⟨HZ.out.1.chg (Chg.drewN (Chg.refl [] _) nq) (by simp), HZ.out.2.drewN nq⟩
                          have d1' : (wi.drewN nq).cell? ⟨g, k + 1, none⟩ = _ := c1
                          have d2' : (wi.drewN nq).cell? ⟨g, k, none⟩ = _ := c2
                          clear Hd c1 c2
                          generalize wi.drewN nq = W at *
                          have f1 := HZ1.out.1.fz (k + 1)
                          have f2 := HZ1.out.1.fz k
                          go_upto_region 17 with fail
                          go_region
                          have HS := Lib.hid (HZ1.out.1.swapd (i := k + 1) (j := k) (by omega) (by omega) Hx.out Hy.out)
                          clear d1' d2' f1 f2
                          go_wp2_with fail
                          go_roundg k
                          case measure => omega
                          case rel => exact ⟨by go_num, by omega, ⟨swp dj (k + 1) k, HS.out.1.chg (Chg.drew (Chg.refl [] _)) (by simp), (HZ1.out.2.trans HS.out.2).drew, (soShD_go ltInt k dj (by rw [← Hx.out, ← Hy.out]; exact Hl.out)).trans HLj.out⟩⟩
                        | false =>
                          have Hd := Lib.hid (fun n => soLess_q x y wi n hl)
                          have HE := Lib.hid (show shiftDown ltInt (k + 1) dj = dj from soShD_stop ltInt k dj (by rw [← Hx.out, ← Hy.out]; exact hl))
                          clear hl
                          go_wp2_with fail
                          go_quiet ((go_at_call 71; exact Hd.out _))
                          go_wp2_with fail
                          go_meet
                          case rel => exact ⟨by first | rfl | go_num, by first | rfl | go_num, by rw [HD.out, ← HLj.out, HE.out]; exact ⟨HZ.out.1.chg (Chg.drewN (Chg.refl [] _) nq) (by simp), HZ.out.2.drewN nq⟩⟩
                  · have h2I : ¬ (m : Int) + 1 - (a : Int) ≥ 2 := by omega
                    have HD := Lib.hid (show soDnIf ltInt a (m + 1) d1 = d1 by unfold soDnIf; rw [if_neg h2])
                    go_wp2_with fail
                    go_meet
                    case rel => exact ⟨by first | rfl | go_num, by first | rfl | go_num, by rw [HD.out]; exact HA⟩
                case rest =>
                  obtain ⟨rfl, rfl, HB⟩ := hcut
                  clear HA
                  obtain ⟨d2, hd2⟩ : ∃ d2, d2 = soDnIf ltInt a (m + 1) d1 := ⟨_, rfl⟩
                  rw [← hd2] at HB HG
                  clear hd2
                  by_cases h2 : b - (m + 1) ≥ 2
                  · have h2I : (b : Int) - ((m : Int) + 1) ≥ 2 := by omega
                    have HD := Lib.hid (show soUpIf ltInt b (m + 1) d2 = shiftUp ltInt b (m + 1 + 1) d2 by unfold soUpIf; rw [if_pos h2])
                    go_wp2_with fail
                    go_loopg [10] (b - (m + 1 + 1)) (fun k s wr => ∃ j : Nat, s = .int .i64 (j : Int) ∧ m + 1 < j ∧ j ≤ b ∧ k = b - j ∧ Hid (∃ dj, RowD wr g N dj ∧ Chg [g] w wr ∧ shiftUp ltInt b j dj = shiftUp ltInt b (m + 1 + 1) d2))
                    case atStart => exact ⟨m + 1 + 1, by go_num, by omega, by omega, rfl, ⟨d2, HB.out.1, HB.out.2, rfl⟩⟩
                    case round =>
                      obtain ⟨j, rfl, hmj, hjb, hk, hZ⟩ := hrel
                      obtain ⟨wi, rfl⟩ : ∃ wi : World, wi = wr := ⟨_, rfl⟩
                      obtain ⟨dj, hR, hC, hL⟩ := hZ.out
                      have HZ : Hid (RowD wi g N dj ∧ Chg [g] w wi) := Lib.hid ⟨hR, hC⟩
                      have HLj := Lib.hid hL
                      have Hk := Lib.hid hk
                      clear hR hC hL hZ HB hk
                      by_cases hjlt : j < b
                      · obtain ⟨k, hk⟩ : ∃ k, j = k + 1 := ⟨j - 1, by omega⟩
                        subst hk
                        obtain ⟨x, hx⟩ : ∃ x, x = dj[k + 1]! := ⟨_, rfl⟩
                        obtain ⟨y, hy⟩ : ∃ y, y = dj[k]! := ⟨_, rfl⟩
                        have c1 := HZ.out.1.cell (i := k + 1) (by omega)
                        have c2 := HZ.out.1.cell (i := k) (by omega)
                        rw [← hx] at c1
                        rw [← hy] at c2
                        have Hx := Lib.hid hx
                        have Hy := Lib.hid hy
                        clear hx hy
                        have i5 : (k : Int) + 1 < (b : Int) := by omega
                        have i1 : (k : Int) + 1 < (N : Int) := by omega
                        have i0 : (0 : Int) ≤ (k : Int) + 1 := by omega
                        have i3 : (k : Int) < (N : Int) := by omega
                        have e1 : IntKind.i64.wrap ((k : Int) + 1 - 1) = (k : Int) := by
                          rw [show (k : Int) + 1 - 1 = (k : Int) by omega]
                          exact IntWalk.i64_in _ (by omega)
                        cases hl : ltInt x y with
                        | true =>
                          have Hd := Lib.hid (fun n => soLess_q x y wi n hl)
                          have Hl := Lib.hid hl
                          clear hl
                          go_wp2_with fail
                          go_quiet ((go_at_call 71; exact Hd.out _))
                          have HZ1 : Hid (RowD (wi.drewN nq) g N dj ∧ Chg [g] w (wi.drewN nq)) := Lib.hid ⟨HZ.out.1.chg (Chg.drewN (Chg.refl [] _) nq) (by simp), HZ.out.2.drewN nq⟩
                          have d1' : (wi.drewN nq).cell? ⟨g, k + 1, none⟩ = _ := c1
                          have d2' : (wi.drewN nq).cell? ⟨g, k, none⟩ = _ := c2
                          clear Hd c1 c2
                          generalize wi.drewN nq = W at *
                          have f1 := HZ1.out.1.fz (k + 1)
                          have f2 := HZ1.out.1.fz k
                          go_upto_region 23 with fail
                          go_region
                          have HS := Lib.hid (HZ1.out.1.swapd (i := k + 1) (j := k) (by omega) (by omega) Hx.out Hy.out)
                          clear d1' d2' f1 f2
                          go_wp2_with fail
                          go_roundg (b - (k + 1 + 1))
                          case measure => rw [Hk.out]; omega
                          case rel => exact ⟨k + 1 + 1, by go_num, by omega, by omega, rfl, ⟨swp dj (k + 1) k, HS.out.1.chg (Chg.drew (Chg.refl [] _)) (by simp), (HZ1.out.2.trans HS.out.2).drew, (soShU_go ltInt b (k + 1) dj hjlt (by rw [Nat.add_sub_cancel, ← Hx.out, ← Hy.out]; exact Hl.out)).trans HLj.out⟩⟩
                        | false =>
                          have Hd := Lib.hid (fun n => soLess_q x y wi n hl)
                          have HE := Lib.hid (show shiftUp ltInt b (k + 1) dj = dj from soShU_stop ltInt b (k + 1) dj (by rw [Nat.add_sub_cancel, ← Hx.out, ← Hy.out]; exact hl))
                          clear hl
                          go_wp2_with fail
                          go_quiet ((go_at_call 71; exact Hd.out _))
                          go_wp2_with fail
                          go_roundg st
                          case measure => omega
                          case rel => exact ⟨m + 1, by go_num, by go_num, by omega, by omega, by omega, ⟨_, (show RowD (wi.drewN nq) g N (soUpIf ltInt b (m + 1) d2) ∧ Chg [g] w (wi.drewN nq) by rw [HD.out, ← HLj.out, HE.out]; exact ⟨HZ.out.1.chg (Chg.drewN (Chg.refl [] _) nq) (by simp), HZ.out.2.drewN nq⟩).1, (show RowD (wi.drewN nq) g N (soUpIf ltInt b (m + 1) d2) ∧ Chg [g] w (wi.drewN nq) by rw [HD.out, ← HLj.out, HE.out]; exact ⟨HZ.out.1.chg (Chg.drewN (Chg.refl [] _) nq) (by simp), HZ.out.2.drewN nq⟩).2, HG.out.trans HL.out⟩⟩
                      · have hjI : ¬ (j : Int) < (b : Int) := by omega
                        have HE := Lib.hid (soShU_end ltInt b j dj hjlt)
                        go_wp2_with fail
                        go_roundg st
                        case measure => omega
                        case rel => exact ⟨m + 1, by go_num, by go_num, by omega, by omega, by omega, ⟨_, (show RowD _ g N (soUpIf ltInt b (m + 1) d2) ∧ Chg [g] w _ by rw [HD.out, ← HLj.out, HE.out]; exact HZ.out).1, (show RowD _ g N (soUpIf ltInt b (m + 1) d2) ∧ Chg [g] w _ by rw [HD.out, ← HLj.out, HE.out]; exact HZ.out).2, HG.out.trans HL.out⟩⟩
                  · have h2I : ¬ (b : Int) - ((m : Int) + 1) ≥ 2 := by omega
                    have HD := Lib.hid (show soUpIf ltInt b (m + 1) d2 = d2 by unfold soUpIf; rw [if_neg h2])
                    go_wp2_with fail
                    go_roundg st
                    case measure => omega
                    case rel => exact ⟨m + 1, by go_num, by go_num, by omega, by omega, by omega, ⟨_, (show RowD _ g N (soUpIf ltInt b (m + 1) d2) ∧ Chg [g] w _ by rw [HD.out]; exact HB.out).1, (show RowD _ g N (soUpIf ltInt b (m + 1) d2) ∧ Chg [g] w _ by rw [HD.out]; exact HB.out).2, HG.out.trans HL.out⟩⟩

end Go.Proofs.Ytbejcmbdaoakbaa
