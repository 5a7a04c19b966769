/- slices.partitionEqualOrdered, partitionOrdered at uint64. -/
import Derived.Test.YtbejcmbdaoakbaaSoC
import Derived.Deep.CutRange
namespace Go.Proofs.Ytbejcmbdaoakbaa
open Go.RowKit Go.Sort
set_option linter.unusedVariables false
set_option linter.unusedSimpArgs false

section
variable {α : Type} [Inhabited α]
theorem soUp_go (p : α → Bool) (d : Array α) (j i : Nat) (h : i ≤ j) (hp : p d[i]! = true) : scanUp p d j (i + 1) = scanUp p d j i := by
  conv => rhs; rw [scanUp, if_pos (by simp [h, hp])]
theorem soUp_end (p : α → Bool) (d : Array α) (j i : Nat) (h : (decide (i ≤ j) && p d[i]!) = false) : scanUp p d j i = i := by
  rw [scanUp, h]; rfl
theorem soDn_go (p : α → Bool) (d : Array α) (i k : Nat) (h : i ≤ k + 1) (hp : p d[k + 1]! = true) : scanDown p d i k = scanDown p d i (k + 1) := by
  conv => rhs; rw [scanDown, if_pos (by simp [h, hp])]
theorem soDn_end (p : α → Bool) (d : Array α) (i j : Nat) (h : (decide (i ≤ j) && p d[j]!) = false) : scanDown p d i j = j := by
  cases j with
  | zero => rfl
  | succ k => rw [scanDown, h]; rfl
theorem soScans (p q : α → Bool) (hq : ∀ x, q x = !p x) (d : Array α) (i j : Nat) (h0 : 0 < i) (hij : i ≤ j + 1) {i2 j2 : Nat} (e1 : scanUp p d j i = i2) (e2 : scanDown q d i2 j = j2) : i2 ≤ j2 → i2 < j2 := by
  subst e1; subst e2
  intro h
  exact ((round_facts p q hq d (i - 1) (j + 1) i j (by omega) hij (fun t _ _ => by omega) (fun t _ _ => by omega)).2.2.2.2.2.2 (by omega)).2.2
theorem soEq_stop (lt : α → α → Bool) (a i j : Nat) (d : Array α) {i2 j2 : Nat} (e1 : scanUp (fun x => !lt d[a]! x) d j i = i2) (e2 : scanDown (fun x => lt d[a]! x) d i2 j = j2) (h : j2 < i2) : partEqLoop lt a i j d = (i2, d) := by
  subst e1; subst e2; rw [partEqLoop_eq, if_pos h]
theorem soEq_go (lt : α → α → Bool) (a i j : Nat) (d : Array α) {i2 j2 : Nat} (e1 : scanUp (fun x => !lt d[a]! x) d j i = i2) (e2 : scanDown (fun x => lt d[a]! x) d i2 j = j2) (h : ¬ j2 < i2) : partEqLoop lt a (i2 + 1) (j2 - 1) (swp d i2 j2) = partEqLoop lt a i j d := by
  subst e1; subst e2; conv => rhs; rw [partEqLoop_eq, if_neg h]
theorem soPt_stop (lt : α → α → Bool) (a i j : Nat) (d : Array α) {i2 j2 : Nat} (e1 : scanUp (fun x => lt x d[a]!) d j i = i2) (e2 : scanDown (fun x => !lt x d[a]!) d i2 j = j2) (h : j2 < i2) : partLoop lt a i j d = (j2, d) := by
  subst e1; subst e2; rw [partLoop_eq, if_pos h]
theorem soPt_go (lt : α → α → Bool) (a i j : Nat) (d : Array α) {i2 j2 : Nat} (e1 : scanUp (fun x => lt x d[a]!) d j i = i2) (e2 : scanDown (fun x => !lt x d[a]!) d i2 j = j2) (h : ¬ j2 < i2) : partLoop lt a (i2 + 1) (j2 - 1) (swp d i2 j2) = partLoop lt a i j d := by
  subst e1; subst e2; conv => rhs; rw [partLoop_eq, if_neg h]
end

set_option maxRecDepth 100000 in
set_option maxHeartbeats 8000000 in
theorem soPEq_at {w : World} {g N c : Nat} {d : Array Int} (h : RowD w g N d) (hN : N < 1152921504606846976) (hc : N ≤ c) {a b p : Nat} (hap : a ≤ p) (hpb : p < b) (hb : b ≤ N) :
    Calls Try.prog 72 #[.slice (some ⟨g, 0, none⟩) N c, .int .i64 (a : Int), .int .i64 (b : Int), .int .i64 (p : Int)] w fun e w' =>
      e = .returned (.int .i64 ((partitionEqual ltInt d a b p).1 : Int)) ∧ RowD w' g N (partitionEqual ltInt d a b p).2 ∧ Chg [g] w w' := by
  have H : Hid (RowD w g N d ∧ Chg [g] w w) := Lib.hid ⟨h, Chg.refl _ _⟩
  clear h
  go_enter Try.func72, Try.ntmps72
  go_upto_region 1 with fail
  obtain ⟨x, hx⟩ : ∃ x, x = d[a]! := ⟨_, rfl⟩
  obtain ⟨y, hy⟩ : ∃ y, y = d[p]! := ⟨_, rfl⟩
  have c1 := H.out.1.cell (i := a) (by omega)
  have c2 := H.out.1.cell (i := p) (by omega)
  rw [← hx] at c1
  rw [← hy] at c2
  have Hx := Lib.hid hx
  have Hy := Lib.hid hy
  clear hx hy
  have f1 := H.out.1.fz a
  have f2 := H.out.1.fz p
  have b1 : (a : Int) < (N : Int) := by omega
  have b2 : (p : Int) < (N : Int) := by omega
  obtain ⟨v2, hv2⟩ := cell?_setCell_some (w := w) (p := ⟨g, a, none⟩) (x := .int .u64 y) (q := ⟨g, p, none⟩) c2
  go_region
  have HS := Lib.hid (H.out.1.swapd (i := a) (j := p) (by omega) (by omega) Hx.out Hy.out)
  have HA : Hid (RowD _ g N (swp d a p) ∧ Chg [g] w _) := Lib.hid ⟨HS.out.1.chg (Chg.drew (Chg.refl [] _)) (by simp), (H.out.2.trans HS.out.2).drew⟩
  clear c1 c2 f1 f2 b1 b2 hv2 HS Hx Hy
  go_wp2_with fail
  go_loopg [9, 10] (b - 1 + 1 - (a + 1)) (fun k s u wr => ∃ i j : Nat, s = .int .i64 (i : Int) ∧ u = .int .i64 (j : Int) ∧ a < i ∧ i ≤ j + 1 ∧ j < b ∧ k = j + 1 - i ∧ Hid (∃ dk, RowD wr g N dk ∧ Chg [g] w wr ∧ partEqLoop ltInt a i j dk = partEqLoop ltInt a (a + 1) (b - 1) (swp d a p)))
  case atStart => exact ⟨a + 1, b - 1, by go_num, by go_num, by omega, by omega, by omega, rfl, ⟨_, HA.out.1, HA.out.2, rfl⟩⟩
  case round =>
    obtain ⟨i, j, rfl, rfl, hai, hij, hjb, hk, hX⟩ := hrel
    obtain ⟨wo, rfl⟩ : ∃ wo : World, wo = wr := ⟨_, rfl⟩
    obtain ⟨dk, hR, hC, hL⟩ := hX.out
    have HO : Hid (RowD wo g N dk ∧ Chg [g] w wo) := Lib.hid ⟨hR, hC⟩
    have HL := Lib.hid hL
    have HK := Lib.hid hk
    clear hR hC hL hX HA hk
    go_wp2_with fail
    go_loopg [9] (j + 1 - i) (fun k s wr => ∃ iu : Nat, s = .int .i64 (iu : Int) ∧ i ≤ iu ∧ iu ≤ j + 1 ∧ k = j + 1 - iu ∧ Hid (RowD wr g N dk ∧ Chg [g] w wr ∧ scanUp (fun x => !ltInt dk[a]! x) dk j iu = scanUp (fun x => !ltInt dk[a]! x) dk j i))
    case atStart => exact ⟨i, by go_num, Nat.le_refl _, by omega, rfl, ⟨HO.out.1, HO.out.2, rfl⟩⟩
    case round =>
      obtain ⟨iu, rfl, hiua, hiub, hku, hXu⟩ := hrel
      obtain ⟨wu, rfl⟩ : ∃ wu : World, wu = wr := ⟨_, rfl⟩
      have Hku := Lib.hid hku
      clear hku HO
      go_upto_region 3 with fail
      go_cut [43] from 29 to 45 (fun s wx => ∃ tst : Bool, s = .bool tst ∧ tst = (decide (iu ≤ j) && !ltInt dk[a]! dk[iu]!) ∧ Hid (RowD wx g N dk ∧ Chg [g] w wx))
      case first =>
        have HR := Lib.hid hXu.out.1
        have HC := Lib.hid hXu.out.2.1
        clear hXu
        by_cases hle : iu ≤ j
        · have hleI : (iu : Int) ≤ (j : Int) := by omega
          obtain ⟨x, hx⟩ : ∃ x, x = dk[iu]! := ⟨_, rfl⟩
          obtain ⟨p, hp⟩ : ∃ p, p = dk[a]! := ⟨_, rfl⟩
          have c1 := HR.out.cell (i := iu) (by omega)
          have c2 := HR.out.cell (i := a) (by omega)
          rw [← hx] at c1
          rw [← hp] at c2
          have b1 : (iu : Int) < (N : Int) := by omega
          have b2 : (a : Int) < (N : Int) := by omega
          have Hx := Lib.hid hx
          have Hp := Lib.hid hp
          have Hd := Lib.hid (fun n => soLess_q p x wu n rfl)
          clear hx hp
          go_wp2_with fail
          go_quiet ((go_at_call 71; exact Hd.out _))
          go_wp2_with fail
          go_meet
          case rel => exact ⟨_, rfl, by rw [← Hx.out, ← Hp.out]; simp [hle], ⟨HR.out.chg (Chg.drewN (Chg.refl [] _) _) (by simp), HC.out.drewN _⟩⟩
        · have hleF : decide ((iu : Int) ≤ (j : Int)) = false := by simp; omega
          go_wp2_with fail
          go_quiet (fail)
          go_wp2_with fail
          go_meet
          case rel => exact ⟨false, rfl, by simp [hle], ⟨HR.out.chg (Chg.drewN (Chg.refl [] _) _) (by simp), HC.out.drewN _⟩⟩
      case rest =>
        obtain ⟨tst, rfl, hT, HYu⟩ := hcut
        cases tst with
        | true =>
          have HT := Lib.hid hT
          clear hT
          have ht := HT.out.symm
          simp only [Bool.and_eq_true, decide_eq_true_eq] at ht
          have hle := ht.1
          have Ht := Lib.hid ht.2
          clear ht
          go_wp2_with fail
          go_roundg (j + 1 - (iu + 1))
          case measure => rw [Hku.out]; omega
          case rel => exact ⟨iu + 1, by go_num, by omega, by omega, rfl, ⟨HYu.out.1, HYu.out.2, (soUp_go (fun x => !ltInt dk[a]! x) dk j iu hle Ht.out).trans hXu.out.2.2⟩⟩
        | false =>
          have HUu : Hid (scanUp (fun x => !ltInt dk[a]! x) dk j i = iu) := Lib.hid (hXu.out.2.2.symm.trans (soUp_end (fun x => !ltInt dk[a]! x) dk j iu hT.symm))
          clear hT hXu
          go_wp2_with fail
          go_loopg [10] j (fun k s wr => ∃ jd : Nat, s = .int .i64 (jd : Int) ∧ jd ≤ j ∧ iu ≤ jd + 1 ∧ k = jd ∧ Hid (RowD wr g N dk ∧ Chg [g] w wr ∧ scanDown (fun x => ltInt dk[a]! x) dk iu jd = scanDown (fun x => ltInt dk[a]! x) dk iu j))
          case atStart => exact ⟨j, by go_num, Nat.le_refl _, by omega, rfl, ⟨HYu.out.1, HYu.out.2, rfl⟩⟩
          case round =>
            obtain ⟨jd, rfl, hjda, hjdb, hkd, hXd⟩ := hrel
            obtain ⟨wd, rfl⟩ : ∃ wd : World, wd = wr := ⟨_, rfl⟩
            have Hkd := Lib.hid hkd
            clear hkd HYu
            go_upto_region 5 with fail
            go_cut [59] from 46 to 61 (fun s wx => ∃ tst : Bool, s = .bool tst ∧ tst = (decide (iu ≤ jd) && ltInt dk[a]! dk[jd]!) ∧ Hid (RowD wx g N dk ∧ Chg [g] w wx))
            case first =>
              have HR := Lib.hid hXd.out.1
              have HC := Lib.hid hXd.out.2.1
              clear hXd
              by_cases hle : iu ≤ jd
              · have hleI : (iu : Int) ≤ (jd : Int) := by omega
                obtain ⟨x, hx⟩ : ∃ x, x = dk[jd]! := ⟨_, rfl⟩
                obtain ⟨p, hp⟩ : ∃ p, p = dk[a]! := ⟨_, rfl⟩
                have c1 := HR.out.cell (i := jd) (by omega)
                have c2 := HR.out.cell (i := a) (by omega)
                rw [← hx] at c1
                rw [← hp] at c2
                have b1 : (jd : Int) < (N : Int) := by omega
                have b2 : (a : Int) < (N : Int) := by omega
                have Hx := Lib.hid hx
                have Hp := Lib.hid hp
                have Hd := Lib.hid (fun n => soLess_q p x wd n rfl)
                clear hx hp
                go_wp2_with fail
                go_quiet ((go_at_call 71; exact Hd.out _))
                go_wp2_with fail
                go_meet
                case rel => exact ⟨_, rfl, by rw [← Hx.out, ← Hp.out]; simp [hle], ⟨HR.out.chg (Chg.drewN (Chg.refl [] _) _) (by simp), HC.out.drewN _⟩⟩
              · have hleF : decide ((iu : Int) ≤ (jd : Int)) = false := by simp; omega
                go_wp2_with fail
                go_quiet (fail)
                go_wp2_with fail
                go_meet
                case rel => exact ⟨false, rfl, by simp [hle], ⟨HR.out.chg (Chg.drewN (Chg.refl [] _) _) (by simp), HC.out.drewN _⟩⟩
            case rest =>
              obtain ⟨tst, rfl, hT, HYd⟩ := hcut
              cases tst with
              | true =>
                have HT := Lib.hid hT
                clear hT
                have ht := HT.out.symm
                simp only [Bool.and_eq_true, decide_eq_true_eq] at ht
                have hle := ht.1
                have Ht := Lib.hid ht.2
                clear ht HT
                obtain ⟨k, hk⟩ : ∃ k, jd = k + 1 := ⟨jd - 1, by omega⟩
                subst hk
                go_wp2_with fail
                go_roundg k
                case measure => rw [Hkd.out]; omega
                case rel => exact ⟨k, by go_num, by omega, by omega, rfl, ⟨HYd.out.1, HYd.out.2, (soDn_go (fun x => ltInt dk[a]! x) dk iu k hle Ht.out).trans hXd.out.2.2⟩⟩
              | false =>
                have HDd : Hid (scanDown (fun x => ltInt dk[a]! x) dk iu j = jd) := Lib.hid (hXd.out.2.2.symm.trans (soDn_end (fun x => ltInt dk[a]! x) dk iu jd hT.symm))
                clear hT hXd
                have hsc := soScans _ _ (fun x => by simp) dk i j (by omega) hij HUu.out HDd.out
                by_cases hgt : jd < iu
                · have hgtI : (jd : Int) < (iu : Int) := by omega
                  have HF := Lib.hid (show partitionEqual ltInt d a b p = (iu, dk) by unfold partitionEqual; rw [← HL.out, soEq_stop ltInt a i j dk HUu.out HDd.out hgt])
                  clear hsc
                  go_wp2_with fail
                  go_ret
                  exact ⟨by rw [HF.out]; rfl, by rw [HF.out]; exact HYd.out.1, HYd.out.2⟩
                · have hgtI : ¬ (jd : Int) < (iu : Int) := by omega
                  have hlt := hsc (by omega)
                  have HG := Lib.hid (soEq_go ltInt a i j dk HUu.out HDd.out hgt)
                  clear hsc
                  go_upto_region 8 with fail
                  obtain ⟨x, hx⟩ : ∃ x, x = dk[iu]! := ⟨_, rfl⟩
                  obtain ⟨y, hy⟩ : ∃ y, y = dk[jd]! := ⟨_, rfl⟩
                  have c1 := HYd.out.1.cell (i := iu) (by omega)
                  have c2 := HYd.out.1.cell (i := jd) (by omega)
                  rw [← hx] at c1
                  rw [← hy] at c2
                  have Hx := Lib.hid hx
                  have Hy := Lib.hid hy
                  clear hx hy
                  have f1 := HYd.out.1.fz iu
                  have f2 := HYd.out.1.fz jd
                  have b1 : (iu : Int) < (N : Int) := by omega
                  have b2 : (jd : Int) < (N : Int) := by omega
                  obtain ⟨v2, hv2⟩ := cell?_setCell_some (w := _) (p := ⟨g, iu, none⟩) (x := .int .u64 y) (q := ⟨g, jd, none⟩) c2
                  go_region
                  have HS := Lib.hid (HYd.out.1.swapd (i := iu) (j := jd) (by omega) (by omega) Hx.out Hy.out)
                  have HA : Hid (RowD _ g N (swp dk iu jd) ∧ Chg [g] w _) := Lib.hid ⟨HS.out.1.chg (Chg.drew (Chg.refl [] _)) (by simp), (HYd.out.2.trans HS.out.2).drew⟩
                  clear c1 c2 f1 f2 b1 b2 hv2 HS Hx Hy
                  obtain ⟨k, hk⟩ : ∃ k, jd = k + 1 := ⟨jd - 1, by omega⟩
                  subst hk
                  go_wp2_with fail
                  go_roundg (k + 1 - (iu + 1))
                  case measure => rw [HK.out]; omega
                  case rel => exact ⟨iu + 1, k, by go_num, by go_num, by omega, by omega, by omega, rfl, ⟨_, HA.out.1, HA.out.2, HG.out.trans HL.out⟩⟩

set_option maxRecDepth 100000 in
set_option maxHeartbeats 8000000 in
theorem soPart_at {w : World} {g N c : Nat} {d : Array Int} (h : RowD w g N d) (hN : N < 1152921504606846976) (hc : N ≤ c) {a b p : Nat} (hap : a ≤ p) (hpb : p < b) (hb : b ≤ N) :
    Calls Try.prog 73 #[.slice (some ⟨g, 0, none⟩) N c, .int .i64 (a : Int), .int .i64 (b : Int), .int .i64 (p : Int)] w fun e w' =>
      e = .returned (.tuple #[.int .i64 ((partition ltInt d a b p).1 : Int), .bool (partition ltInt d a b p).2.1]) ∧ RowD w' g N (partition ltInt d a b p).2.2 ∧ Chg [g] w w' := by
  have H : Hid (RowD w g N d ∧ Chg [g] w w) := Lib.hid ⟨h, Chg.refl _ _⟩
  clear h
  go_enter Try.func73, Try.ntmps73
  go_upto_region 1 with fail
  obtain ⟨x, hx⟩ : ∃ x, x = d[a]! := ⟨_, rfl⟩
  obtain ⟨y, hy⟩ : ∃ y, y = d[p]! := ⟨_, rfl⟩
  have c1 := H.out.1.cell (i := a) (by omega)
  have c2 := H.out.1.cell (i := p) (by omega)
  rw [← hx] at c1
  rw [← hy] at c2
  have Hx := Lib.hid hx
  have Hy := Lib.hid hy
  clear hx hy
  have f1 := H.out.1.fz a
  have f2 := H.out.1.fz p
  have b1 : (a : Int) < (N : Int) := by omega
  have b2 : (p : Int) < (N : Int) := by omega
  obtain ⟨v2, hv2⟩ := cell?_setCell_some (w := w) (p := ⟨g, a, none⟩) (x := .int .u64 y) (q := ⟨g, p, none⟩) c2
  go_region
  have HS := Lib.hid (H.out.1.swapd (i := a) (j := p) (by omega) (by omega) Hx.out Hy.out)
  have HA : Hid (RowD _ g N (swp d a p) ∧ Chg [g] w _) := Lib.hid ⟨HS.out.1.chg (Chg.drew (Chg.refl [] _)) (by simp), (H.out.2.trans HS.out.2).drew⟩
  clear c1 c2 f1 f2 b1 b2 hv2 HS Hx Hy
  obtain ⟨d1, hd1⟩ : ∃ d1, d1 = swp d a p := ⟨_, rfl⟩
  obtain ⟨B, hB⟩ : ∃ B, B + 1 = b := ⟨b - 1, by omega⟩
  subst hB
  rw [← hd1] at HA
  have Hd1 := Lib.hid hd1
  clear hd1
  go_wp2_with fail
  go_loopg [10] (B + 1 - (a + 1)) (fun k s wr => ∃ iu : Nat, s = .int .i64 (iu : Int) ∧ (a + 1) ≤ iu ∧ iu ≤ B + 1 ∧ k = B + 1 - iu ∧ Hid (RowD wr g N d1 ∧ Chg [g] w wr ∧ scanUp (fun x => ltInt x d1[a]!) d1 B iu = scanUp (fun x => ltInt x d1[a]!) d1 B (a + 1)))
  case atStart => exact ⟨(a + 1), by go_num, Nat.le_refl _, by omega, rfl, ⟨HA.out.1, HA.out.2, rfl⟩⟩
  case round =>
    obtain ⟨iu, rfl, hiua, hiub, hku, hXu⟩ := hrel
    obtain ⟨wu, rfl⟩ : ∃ wu : World, wu = wr := ⟨_, rfl⟩
    have Hku := Lib.hid hku
    clear hku HA
    go_upto_region 3 with fail
    go_cut [43] from 30 to 45 (fun s wx => ∃ tst : Bool, s = .bool tst ∧ tst = (decide (iu ≤ B) && ltInt d1[iu]! d1[a]!) ∧ Hid (RowD wx g N d1 ∧ Chg [g] w wx))
    case first =>
      have HR := Lib.hid hXu.out.1
      have HC := Lib.hid hXu.out.2.1
      clear hXu
      by_cases hle : iu ≤ B
      · have hleI : (iu : Int) ≤ (B : Int) := by omega
        obtain ⟨x, hx⟩ : ∃ x, x = d1[iu]! := ⟨_, rfl⟩
        obtain ⟨p, hp⟩ : ∃ p, p = d1[a]! := ⟨_, rfl⟩
        have c1 := HR.out.cell (i := iu) (by omega)
        have c2 := HR.out.cell (i := a) (by omega)
        rw [← hx] at c1
        rw [← hp] at c2
        have b1 : (iu : Int) < (N : Int) := by omega
        have b2 : (a : Int) < (N : Int) := by omega
        have Hx := Lib.hid hx
        have Hp := Lib.hid hp
        have Hd := Lib.hid (fun n => soLess_q x p wu n rfl)
        clear hx hp
        go_wp2_with fail
        go_quiet ((go_at_call 71; exact Hd.out _))
        go_wp2_with fail
        go_meet
        case rel => exact ⟨_, rfl, by rw [← Hx.out, ← Hp.out]; simp [hle], ⟨HR.out.chg (Chg.drewN (Chg.refl [] _) _) (by simp), HC.out.drewN _⟩⟩
      · have hleF : decide ((iu : Int) ≤ (B : Int)) = false := by simp; omega
        go_wp2_with fail
        go_quiet (fail)
        go_wp2_with fail
        go_meet
        case rel => exact ⟨false, rfl, by simp [hle], ⟨HR.out.chg (Chg.drewN (Chg.refl [] _) _) (by simp), HC.out.drewN _⟩⟩
    case rest =>
      obtain ⟨tst, rfl, hT, HYu⟩ := hcut
      cases tst with
      | true =>
        have HT := Lib.hid hT
        clear hT
        have ht := HT.out.symm
        simp only [Bool.and_eq_true, decide_eq_true_eq] at ht
        have hle := ht.1
        have Ht := Lib.hid ht.2
        clear ht
        go_wp2_with fail
        go_roundg (B + 1 - (iu + 1))
        case measure => rw [Hku.out]; omega
        case rel => exact ⟨iu + 1, by go_num, by omega, by omega, rfl, ⟨HYu.out.1, HYu.out.2, (soUp_go (fun x => ltInt x d1[a]!) d1 B iu hle Ht.out).trans hXu.out.2.2⟩⟩
      | false =>
        have HUu : Hid (scanUp (fun x => ltInt x d1[a]!) d1 B (a + 1) = iu) := Lib.hid (hXu.out.2.2.symm.trans (soUp_end (fun x => ltInt x d1[a]!) d1 B iu hT.symm))
        clear hT hXu
        go_wp2_with fail
        go_loopg [11] B (fun k s wr => ∃ jd : Nat, s = .int .i64 (jd : Int) ∧ jd ≤ B ∧ iu ≤ jd + 1 ∧ k = jd ∧ Hid (RowD wr g N d1 ∧ Chg [g] w wr ∧ scanDown (fun x => !ltInt x d1[a]!) d1 iu jd = scanDown (fun x => !ltInt x d1[a]!) d1 iu B))
        case atStart => exact ⟨B, by go_num, Nat.le_refl _, by omega, rfl, ⟨HYu.out.1, HYu.out.2, rfl⟩⟩
        case round =>
          obtain ⟨jd, rfl, hjda, hjdb, hkd, hXd⟩ := hrel
          obtain ⟨wd, rfl⟩ : ∃ wd : World, wd = wr := ⟨_, rfl⟩
          have Hkd := Lib.hid hkd
          clear hkd HYu
          go_upto_region 5 with fail
          go_cut [60] from 46 to 62 (fun s wx => ∃ tst : Bool, s = .bool tst ∧ tst = (decide (iu ≤ jd) && !ltInt d1[jd]! d1[a]!) ∧ Hid (RowD wx g N d1 ∧ Chg [g] w wx))
          case first =>
            have HR := Lib.hid hXd.out.1
            have HC := Lib.hid hXd.out.2.1
            clear hXd
            by_cases hle : iu ≤ jd
            · have hleI : (iu : Int) ≤ (jd : Int) := by omega
              obtain ⟨x, hx⟩ : ∃ x, x = d1[jd]! := ⟨_, rfl⟩
              obtain ⟨p, hp⟩ : ∃ p, p = d1[a]! := ⟨_, rfl⟩
              have c1 := HR.out.cell (i := jd) (by omega)
              have c2 := HR.out.cell (i := a) (by omega)
              rw [← hx] at c1
              rw [← hp] at c2
              have b1 : (jd : Int) < (N : Int) := by omega
              have b2 : (a : Int) < (N : Int) := by omega
              have Hx := Lib.hid hx
              have Hp := Lib.hid hp
              have Hd := Lib.hid (fun n => soLess_q x p wd n rfl)
              clear hx hp
              go_wp2_with fail
              go_quiet ((go_at_call 71; exact Hd.out _))
              go_wp2_with fail
              go_meet
              case rel => exact ⟨_, rfl, by rw [← Hx.out, ← Hp.out]; simp [hle], ⟨HR.out.chg (Chg.drewN (Chg.refl [] _) _) (by simp), HC.out.drewN _⟩⟩
            · have hleF : decide ((iu : Int) ≤ (jd : Int)) = false := by simp; omega
              go_wp2_with fail
              go_quiet (fail)
              go_wp2_with fail
              go_meet
              case rel => exact ⟨false, rfl, by simp [hle], ⟨HR.out.chg (Chg.drewN (Chg.refl [] _) _) (by simp), HC.out.drewN _⟩⟩
          case rest =>
            obtain ⟨tst, rfl, hT, HYd⟩ := hcut
            cases tst with
            | true =>
              have HT := Lib.hid hT
              clear hT
              have ht := HT.out.symm
              simp only [Bool.and_eq_true, decide_eq_true_eq] at ht
              have hle := ht.1
              have Ht := Lib.hid ht.2
              clear ht HT
              obtain ⟨k, hk⟩ : ∃ k, jd = k + 1 := ⟨jd - 1, by omega⟩
              subst hk
              go_wp2_with fail
              go_roundg k
              case measure => rw [Hkd.out]; omega
              case rel => exact ⟨k, by go_num, by omega, by omega, rfl, ⟨HYd.out.1, HYd.out.2, (soDn_go (fun x => !ltInt x d1[a]!) d1 iu k hle Ht.out).trans hXd.out.2.2⟩⟩
            | false =>
              have HDd : Hid (scanDown (fun x => !ltInt x d1[a]!) d1 iu B = jd) := Lib.hid (hXd.out.2.2.symm.trans (soDn_end (fun x => !ltInt x d1[a]!) d1 iu jd hT.symm))
              clear hT hXd
              have hsc := soScans _ _ (fun x => by simp) d1 (a + 1) B (by omega) (by omega) HUu.out HDd.out
              by_cases hgt : jd < iu
              · have hgtI : (jd : Int) < (iu : Int) := by omega
                have HF := Lib.hid (show partition ltInt d a (B + 1) p = (jd, true, swp d1 jd a) by
                  unfold partition
                  simp only [Nat.add_sub_cancel]
                  rw [← Hd1.out, HUu.out, HDd.out, if_pos hgt])
                clear hsc
                go_upto_region 8 with fail
                obtain ⟨x, hx⟩ : ∃ x, x = d1[jd]! := ⟨_, rfl⟩
                obtain ⟨y, hy⟩ : ∃ y, y = d1[a]! := ⟨_, rfl⟩
                have c1 := HYd.out.1.cell (i := jd) (by omega)
                have c2 := HYd.out.1.cell (i := a) (by omega)
                rw [← hx] at c1
                rw [← hy] at c2
                have Hx := Lib.hid hx
                have Hy := Lib.hid hy
                clear hx hy
                have f1 := HYd.out.1.fz jd
                have f2 := HYd.out.1.fz a
                have b1 : (jd : Int) < (N : Int) := by omega
                have b2 : (a : Int) < (N : Int) := by omega
                obtain ⟨v2, hv2⟩ := cell?_setCell_some (w := _) (p := ⟨g, jd, none⟩) (x := .int .u64 y) (q := ⟨g, a, none⟩) c2
                go_region
                have HS := Lib.hid (HYd.out.1.swapd (i := jd) (j := a) (by omega) (by omega) Hx.out Hy.out)
                have HZ : Hid (RowD _ g N (swp d1 jd a) ∧ Chg [g] w _) := Lib.hid ⟨HS.out.1.chg (Chg.drew (Chg.refl [] _)) (by simp), (HYd.out.2.trans HS.out.2).drew⟩
                clear c1 c2 f1 f2 b1 b2 hv2 HS Hx Hy
                go_wp2_with fail
                go_ret2
                exact ⟨by rw [HF.out]; rfl, by rw [HF.out]; exact HZ.out.1, HZ.out.2⟩
              · have hgtI : ¬ (jd : Int) < (iu : Int) := by omega
                have hlt := hsc (by omega)
                have HF := Lib.hid (show partition ltInt d a (B + 1) p = ((partLoop ltInt a (iu + 1) (jd - 1) (swp d1 iu jd)).1, false, swp (partLoop ltInt a (iu + 1) (jd - 1) (swp d1 iu jd)).2 (partLoop ltInt a (iu + 1) (jd - 1) (swp d1 iu jd)).1 a) by
                  unfold partition
                  simp only [Nat.add_sub_cancel]
                  rw [← Hd1.out, HUu.out, HDd.out, if_neg hgt])
                clear hsc
                go_upto_region 10 with fail
                obtain ⟨x, hx⟩ : ∃ x, x = d1[iu]! := ⟨_, rfl⟩
                obtain ⟨y, hy⟩ : ∃ y, y = d1[jd]! := ⟨_, rfl⟩
                have c1 := HYd.out.1.cell (i := iu) (by omega)
                have c2 := HYd.out.1.cell (i := jd) (by omega)
                rw [← hx] at c1
                rw [← hy] at c2
                have Hx := Lib.hid hx
                have Hy := Lib.hid hy
                clear hx hy
                have f1 := HYd.out.1.fz iu
                have f2 := HYd.out.1.fz jd
                have b1 : (iu : Int) < (N : Int) := by omega
                have b2 : (jd : Int) < (N : Int) := by omega
                obtain ⟨v2, hv2⟩ := cell?_setCell_some (w := _) (p := ⟨g, iu, none⟩) (x := .int .u64 y) (q := ⟨g, jd, none⟩) c2
                go_region
                have HS := Lib.hid (HYd.out.1.swapd (i := iu) (j := jd) (by omega) (by omega) Hx.out Hy.out)
                have HZ : Hid (RowD _ g N (swp d1 iu jd) ∧ Chg [g] w _) := Lib.hid ⟨HS.out.1.chg (Chg.drew (Chg.refl [] _)) (by simp), (HYd.out.2.trans HS.out.2).drew⟩
                clear c1 c2 f1 f2 b1 b2 hv2 HS Hx Hy
                obtain ⟨J1, hJ1⟩ : ∃ J1, jd = J1 + 1 := ⟨jd - 1, by omega⟩
                subst hJ1
                obtain ⟨I1, hI1⟩ : ∃ I1, I1 = iu + 1 := ⟨_, rfl⟩
                obtain ⟨d2, hd2⟩ : ∃ d2, d2 = swp d1 iu (J1 + 1) := ⟨_, rfl⟩
                rw [← hd2] at HZ
                rw [← hd2, ← hI1, Nat.add_sub_cancel] at HF
                have HI1 := Lib.hid hI1
                have hI1a : a < I1 := by omega
                have hI1b : I1 ≤ J1 + 1 := by omega
                clear hd2 hI1 HUu HDd Hd1
                go_wp2_with fail
                go_loopg [10, 11] (J1 + 1 - I1) (fun k s u wr => ∃ i j : Nat, s = .int .i64 (i : Int) ∧ u = .int .i64 (j : Int) ∧ a < i ∧ i ≤ j + 1 ∧ j ≤ B ∧ k = j + 1 - i ∧ Hid (∃ dk, RowD wr g N dk ∧ Chg [g] w wr ∧ partLoop ltInt a i j dk = partLoop ltInt a I1 J1 d2))
                case atStart => exact ⟨I1, J1, by rw [HI1.out]; go_num, by go_num, by omega, by omega, by omega, rfl, ⟨_, HZ.out.1, HZ.out.2, rfl⟩⟩
                case round =>
                  obtain ⟨i, j, rfl, rfl, hai, hij, hjb, hk, hX⟩ := hrel
                  obtain ⟨wo, rfl⟩ : ∃ wo : World, wo = wr := ⟨_, rfl⟩
                  obtain ⟨dk, hR, hC, hL⟩ := hX.out
                  have HO : Hid (RowD wo g N dk ∧ Chg [g] w wo) := Lib.hid ⟨hR, hC⟩
                  have HL := Lib.hid hL
                  have HK := Lib.hid hk
                  clear hR hC hL hX HZ hk
                  go_wp2_with fail
                  go_loopg [10] (j + 1 - i) (fun k s wr => ∃ iv : Nat, s = .int .i64 (iv : Int) ∧ i ≤ iv ∧ iv ≤ j + 1 ∧ k = j + 1 - iv ∧ Hid (RowD wr g N dk ∧ Chg [g] w wr ∧ scanUp (fun x => ltInt x dk[a]!) dk j iv = scanUp (fun x => ltInt x dk[a]!) dk j i))
                  case atStart => exact ⟨i, by go_num, Nat.le_refl _, by omega, rfl, ⟨HO.out.1, HO.out.2, rfl⟩⟩
                  case round =>
                    obtain ⟨iv, rfl, hiva, hivb, hkv, hXv⟩ := hrel
                    obtain ⟨wv, rfl⟩ : ∃ wv : World, wv = wr := ⟨_, rfl⟩
                    have Hkv := Lib.hid hkv
                    clear hkv HO
                    go_upto_region 13 with fail
                    go_cut [112] from 99 to 114 (fun s wx => ∃ tst : Bool, s = .bool tst ∧ tst = (decide (iv ≤ j) && ltInt dk[iv]! dk[a]!) ∧ Hid (RowD wx g N dk ∧ Chg [g] w wx))
                    case first =>
                      have HR := Lib.hid hXv.out.1
                      have HC := Lib.hid hXv.out.2.1
                      clear hXv
                      by_cases hle : iv ≤ j
                      · have hleI : (iv : Int) ≤ (j : Int) := by omega
                        obtain ⟨x, hx⟩ : ∃ x, x = dk[iv]! := ⟨_, rfl⟩
                        obtain ⟨p, hp⟩ : ∃ p, p = dk[a]! := ⟨_, rfl⟩
                        have c1 := HR.out.cell (i := iv) (by omega)
                        have c2 := HR.out.cell (i := a) (by omega)
                        rw [← hx] at c1
                        rw [← hp] at c2
                        have b1 : (iv : Int) < (N : Int) := by omega
                        have b2 : (a : Int) < (N : Int) := by omega
                        have Hx := Lib.hid hx
                        have Hp := Lib.hid hp
                        have Hd := Lib.hid (fun n => soLess_q x p wv n rfl)
                        clear hx hp
                        go_wp2_with fail
                        go_quiet ((go_at_call 71; exact Hd.out _))
                        go_wp2_with fail
                        go_meet
                        case rel => exact ⟨_, rfl, by rw [← Hx.out, ← Hp.out]; simp [hle], ⟨HR.out.chg (Chg.drewN (Chg.refl [] _) _) (by simp), HC.out.drewN _⟩⟩
                      · have hleF : decide ((iv : Int) ≤ (j : Int)) = false := by simp; omega
                        go_wp2_with fail
                        go_quiet (fail)
                        go_wp2_with fail
                        go_meet
                        case rel => exact ⟨false, rfl, by simp [hle], ⟨HR.out.chg (Chg.drewN (Chg.refl [] _) _) (by simp), HC.out.drewN _⟩⟩
                    case rest =>
                      obtain ⟨tst, rfl, hT, HYv⟩ := hcut
                      cases tst with
                      | true =>
                        have HT := Lib.hid hT
                        clear hT
                        have ht := HT.out.symm
                        simp only [Bool.and_eq_true, decide_eq_true_eq] at ht
                        have hle := ht.1
                        have Ht := Lib.hid ht.2
                        clear ht
                        go_wp2_with fail
                        go_roundg (j + 1 - (iv + 1))
                        case measure => rw [Hkv.out]; omega
                        case rel => exact ⟨iv + 1, by go_num, by omega, by omega, rfl, ⟨HYv.out.1, HYv.out.2, (soUp_go (fun x => ltInt x dk[a]!) dk j iv hle Ht.out).trans hXv.out.2.2⟩⟩
                      | false =>
                        have HUv : Hid (scanUp (fun x => ltInt x dk[a]!) dk j i = iv) := Lib.hid (hXv.out.2.2.symm.trans (soUp_end (fun x => ltInt x dk[a]!) dk j iv hT.symm))
                        clear hT hXv
                        go_wp2_with fail
                        go_loopg [11] j (fun k s wr => ∃ je : Nat, s = .int .i64 (je : Int) ∧ je ≤ j ∧ iv ≤ je + 1 ∧ k = je ∧ Hid (RowD wr g N dk ∧ Chg [g] w wr ∧ scanDown (fun x => !ltInt x dk[a]!) dk iv je = scanDown (fun x => !ltInt x dk[a]!) dk iv j))
                        case atStart => exact ⟨j, by go_num, Nat.le_refl _, by omega, rfl, ⟨HYv.out.1, HYv.out.2, rfl⟩⟩
                        case round =>
                          obtain ⟨je, rfl, hjea, hjeb, hke, hXe⟩ := hrel
                          obtain ⟨we, rfl⟩ : ∃ we : World, we = wr := ⟨_, rfl⟩
                          have Hke := Lib.hid hke
                          clear hke HYv
                          go_upto_region 15 with fail
                          go_cut [129] from 115 to 131 (fun s wx => ∃ tst : Bool, s = .bool tst ∧ tst = (decide (iv ≤ je) && !ltInt dk[je]! dk[a]!) ∧ Hid (RowD wx g N dk ∧ Chg [g] w wx))
                          case first =>
                            have HR := Lib.hid hXe.out.1
                            have HC := Lib.hid hXe.out.2.1
                            clear hXe
                            by_cases hle : iv ≤ je
                            · have hleI : (iv : Int) ≤ (je : Int) := by omega
                              obtain ⟨x, hx⟩ : ∃ x, x = dk[je]! := ⟨_, rfl⟩
                              obtain ⟨p, hp⟩ : ∃ p, p = dk[a]! := ⟨_, rfl⟩
                              have c1 := HR.out.cell (i := je) (by omega)
                              have c2 := HR.out.cell (i := a) (by omega)
                              rw [← hx] at c1
                              rw [← hp] at c2
                              have b1 : (je : Int) < (N : Int) := by omega
                              have b2 : (a : Int) < (N : Int) := by omega
                              have Hx := Lib.hid hx
                              have Hp := Lib.hid hp
                              have Hd := Lib.hid (fun n => soLess_q x p we n rfl)
                              clear hx hp
                              go_wp2_with fail
                              go_quiet ((go_at_call 71; exact Hd.out _))
                              go_wp2_with fail
                              go_meet
                              case rel => exact ⟨_, rfl, by rw [← Hx.out, ← Hp.out]; simp [hle], ⟨HR.out.chg (Chg.drewN (Chg.refl [] _) _) (by simp), HC.out.drewN _⟩⟩
                            · have hleF : decide ((iv : Int) ≤ (je : Int)) = false := by simp; omega
                              go_wp2_with fail
                              go_quiet (fail)
                              go_wp2_with fail
                              go_meet
                              case rel => exact ⟨false, rfl, by simp [hle], ⟨HR.out.chg (Chg.drewN (Chg.refl [] _) _) (by simp), HC.out.drewN _⟩⟩
                          case rest =>
                            obtain ⟨tst, rfl, hT, HYe⟩ := hcut
                            cases tst with
                            | true =>
                              have HT := Lib.hid hT
                              clear hT
                              have ht := HT.out.symm
                              simp only [Bool.and_eq_true, decide_eq_true_eq] at ht
                              have hle := ht.1
                              have Ht := Lib.hid ht.2
                              clear ht HT
                              obtain ⟨k, hk⟩ : ∃ k, je = k + 1 := ⟨je - 1, by omega⟩
                              subst hk
                              go_wp2_with fail
                              go_roundg k
                              case measure => rw [Hke.out]; omega
                              case rel => exact ⟨k, by go_num, by omega, by omega, rfl, ⟨HYe.out.1, HYe.out.2, (soDn_go (fun x => !ltInt x dk[a]!) dk iv k hle Ht.out).trans hXe.out.2.2⟩⟩
                            | false =>
                              have HDe : Hid (scanDown (fun x => !ltInt x dk[a]!) dk iv j = je) := Lib.hid (hXe.out.2.2.symm.trans (soDn_end (fun x => !ltInt x dk[a]!) dk iv je hT.symm))
                              clear hT hXe
                              have hsc := soScans _ _ (fun x => by simp) dk i j (by omega) hij HUv.out HDe.out
                              by_cases hgt : je < iv
                              · have hgtI : (je : Int) < (iv : Int) := by omega
                                have HG := Lib.hid (show partLoop ltInt a I1 J1 d2 = (je, dk) by rw [← HL.out, soPt_stop ltInt a i j dk HUv.out HDe.out hgt])
                                clear hsc
                                go_upto_region 21 with fail
                                obtain ⟨x, hx⟩ : ∃ x, x = dk[je]! := ⟨_, rfl⟩
                                obtain ⟨y, hy⟩ : ∃ y, y = dk[a]! := ⟨_, rfl⟩
                                have c1 := HYe.out.1.cell (i := je) (by omega)
                                have c2 := HYe.out.1.cell (i := a) (by omega)
                                rw [← hx] at c1
                                rw [← hy] at c2
                                have Hx := Lib.hid hx
                                have Hy := Lib.hid hy
                                clear hx hy
                                have f1 := HYe.out.1.fz je
                                have f2 := HYe.out.1.fz a
                                have b1 : (je : Int) < (N : Int) := by omega
                                have b2 : (a : Int) < (N : Int) := by omega
                                obtain ⟨v2, hv2⟩ := cell?_setCell_some (w := _) (p := ⟨g, je, none⟩) (x := .int .u64 y) (q := ⟨g, a, none⟩) c2
                                go_region
                                have HS := Lib.hid (HYe.out.1.swapd (i := je) (j := a) (by omega) (by omega) Hx.out Hy.out)
                                have HZ : Hid (RowD _ g N (swp dk je a) ∧ Chg [g] w _) := Lib.hid ⟨HS.out.1.chg (Chg.drew (Chg.refl [] _)) (by simp), (HYe.out.2.trans HS.out.2).drew⟩
                                clear c1 c2 f1 f2 b1 b2 hv2 HS Hx Hy
                                go_wp2_with fail
                                go_ret2
                                exact ⟨by rw [HF.out, HG.out]; rfl, by rw [HF.out, HG.out]; exact HZ.out.1, HZ.out.2⟩
                              · have hgtI : ¬ (je : Int) < (iv : Int) := by omega
                                have hlt := hsc (by omega)
                                have HG := Lib.hid (soPt_go ltInt a i j dk HUv.out HDe.out hgt)
                                clear hsc
                                go_upto_region 18 with fail
                                obtain ⟨x, hx⟩ : ∃ x, x = dk[iv]! := ⟨_, rfl⟩
                                obtain ⟨y, hy⟩ : ∃ y, y = dk[je]! := ⟨_, rfl⟩
                                have c1 := HYe.out.1.cell (i := iv) (by omega)
                                have c2 := HYe.out.1.cell (i := je) (by omega)
                                rw [← hx] at c1
                                rw [← hy] at c2
                                have Hx := Lib.hid hx
                                have Hy := Lib.hid hy
                                clear hx hy
                                have f1 := HYe.out.1.fz iv
                                have f2 := HYe.out.1.fz je
                                have b1 : (iv : Int) < (N : Int) := by omega
                                have b2 : (je : Int) < (N : Int) := by omega
                                obtain ⟨v2, hv2⟩ := cell?_setCell_some (w := _) (p := ⟨g, iv, none⟩) (x := .int .u64 y) (q := ⟨g, je, none⟩) c2
                                go_region
                                have HS := Lib.hid (HYe.out.1.swapd (i := iv) (j := je) (by omega) (by omega) Hx.out Hy.out)
                                have HZ : Hid (RowD _ g N (swp dk iv je) ∧ Chg [g] w _) := Lib.hid ⟨HS.out.1.chg (Chg.drew (Chg.refl [] _)) (by simp), (HYe.out.2.trans HS.out.2).drew⟩
                                clear c1 c2 f1 f2 b1 b2 hv2 HS Hx Hy
                                obtain ⟨k, hk⟩ : ∃ k, je = k + 1 := ⟨je - 1, by omega⟩
                                subst hk
                                go_wp2_with fail
                                go_roundg (k + 1 - (iv + 1))
                                case measure => rw [HK.out]; omega
                                case rel => exact ⟨iv + 1, k, by go_num, by go_num, by omega, by omega, by omega, rfl, ⟨_, HZ.out.1, HZ.out.2, HG.out.trans HL.out⟩⟩

end Go.Proofs.Ytbejcmbdaoakbaa
