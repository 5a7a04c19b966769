/- math/bits.Len64, Len, slices.nextPowerOfTwo, xorshift.Next, breakPatternsOrdered at uint64. -/
import Derived.Test.YtbejcmbdaoakbaaSoF
import Derived.Test.YtbejcmbdaoakbaaSoL
import Derived.Sort.Walk7
namespace Go.Proofs.Ytbejcmbdaoakbaa
open Go.RowKit Go.Sort
set_option linter.unusedVariables false
set_option linter.unusedSimpArgs false

theorem soLen (n : Nat) (w : World) (hn : n < 4611686018427387904) : Calls Try.prog 64 #[.int .u64 (n : Int)] w fun e w' => e = .returned (.int .i64 (bitsLen n : Nat)) ∧ w = w' := by
  have c := (soLen64 (n : Int) w (by omega) (by omega)).mono fun _ _ h => h
  unfold LenPost at c
  rw [Int.toNat_natCast, bitLen_eq _ (by omega)] at c
  have C := Lib.hid c
  clear c
  go_enter Try.func64, Try.ntmps64
  go_wp2_with fail
  refine C.out.mono ?_
  rintro e w' ⟨rfl, rfl⟩
  go_wp2_with fail
  go_ret
  exact ⟨rfl, rfl⟩

theorem soNext2 (n : Nat) (w : World) (hn : n < 4611686018427387904) : Calls Try.prog 77 #[.int .i64 (n : Int)] w fun e w' => e = .returned (.int .u64 ((1 <<< bitsLen n : Nat) : Int)) ∧ w = w' := by
  have C := Lib.hid (soLen n w hn)
  have hk : bitsLen n ≤ 62 := (bitsLen_le_iff n 62).2 (by omega)
  have hp := wrap_two_pow (bitsLen n) hk
  go_enter Try.func77, Try.ntmps77
  go_wp2_with fail
  refine C.out.mono ?_
  rintro e w' ⟨rfl, rfl⟩
  go_wp2_with fail
  go_ret
  exact ⟨rfl, rfl⟩

/-- Block rb holds the generator's number. -/
def RndAt (w : World) (rb R : Nat) : Prop := w.heap[rb]? = some (.cells #[.int .u64 (R : Int)] 119 (0, 0))
theorem RndAt.chg {w w' : World} {sb s : Nat} {L : List Nat} (h : RndAt w sb s) (c : Chg L w w') (hg : sb ∉ L) : RndAt w' sb s := (c.block sb (heap_lt h) hg).trans h

set_option maxHeartbeats 4000000 in
set_option maxRecDepth 100000 in
theorem soXor_at {w : World} {rb X : Nat} (h : RndAt w rb X) (hX : X < 18446744073709551616) :
    Calls Try.prog 78 #[.pointer (some ⟨rb, 0, none⟩)] w fun e w' => e = .returned (.int .u64 (xorNextN X : Nat)) ∧ RndAt w' rb (xorNextN X) ∧ Chg [rb] w w' := by
  obtain ⟨A, hA⟩ : ∃ A : Nat, A = X ^^^ (X * 8192 % 18446744073709551616) := ⟨_, rfl⟩
  obtain ⟨B, hB⟩ : ∃ B : Nat, B = A ^^^ (A / 128) := ⟨_, rfl⟩
  obtain ⟨C, hC⟩ : ∃ C : Nat, C = B ^^^ (B * 131072 % 18446744073709551616) := ⟨_, rfl⟩
  have lA : A < 18446744073709551616 := by rw [hA]; exact Nat.xor_lt_two_pow (n := 64) (by omega) (by omega)
  have lB : B < 18446744073709551616 := by rw [hB]; exact Nat.xor_lt_two_pow (n := 64) (by omega) (by omega)
  have e1 : bits .xor .u64 (X : Int) (IntKind.u64.wrap ((X : Int) * 8192)) = (A : Int) := by
    rw [IntKind.wrap_u64, show ((X : Int) * 8192 % 18446744073709551616) = ((X * 8192 % 18446744073709551616 : Nat) : Int) by omega, bits_xor_u64_nat _ _ hX (by omega), hA]
  have e2 : bits .xor .u64 (A : Int) ((A : Int) / 128) = (B : Int) := by
    rw [show ((A : Int) / 128) = ((A / 128 : Nat) : Int) by omega, bits_xor_u64_nat _ _ lA (by omega), hB]
  have e3 : bits .xor .u64 (B : Int) (IntKind.u64.wrap ((B : Int) * 131072)) = (C : Int) := by
    rw [IntKind.wrap_u64, show ((B : Int) * 131072 % 18446744073709551616) = ((B * 131072 % 18446744073709551616 : Nat) : Int) by omega, bits_xor_u64_nat _ _ lB (by omega), hC]
  have hv : xorNextN X = C := by unfold xorNextN; simp only []; rw [← hA, ← hB, ← hC]
  rw [hv]
  have H := Lib.hid h
  have c0 : w.cell? ⟨rb, 0, none⟩ = some (.int .u64 (X : Int)) := cell_of_block h 0
  have f0 : w.frozen? ⟨rb, 0, none⟩ = false := frozen_of_block h 0
  clear hA hB hC hv h
  go_enter Try.func78, Try.ntmps78
  go_upto_region 1 with fail
  go_region
  have HS : Hid (RndAt (w.setCell ⟨rb, 0, none⟩ (.int .u64 (A : Int))).drew rb A ∧ Chg [rb] w (w.setCell ⟨rb, 0, none⟩ (.int .u64 (A : Int))).drew) := Lib.hid ⟨setCell_block H.out 0 _, (((Chg.refl [rb] w).setCell (.inl (by simp)) _).drew)⟩
  clear c0 f0 e1
  go_upto_region 2 with fail
  generalize (w.setCell ⟨rb, 0, none⟩ (.int .u64 (A : Int))).drew = W at *
  have c0 : W.cell? ⟨rb, 0, none⟩ = some (.int .u64 (A : Int)) := cell_of_block HS.out.1 0
  have f0 : W.frozen? ⟨rb, 0, none⟩ = false := frozen_of_block HS.out.1 0
  go_region
  have HT : Hid (RndAt (W.setCell ⟨rb, 0, none⟩ (.int .u64 (B : Int))).drew rb B ∧ Chg [rb] w (W.setCell ⟨rb, 0, none⟩ (.int .u64 (B : Int))).drew) := Lib.hid ⟨setCell_block HS.out.1 0 _, ((HS.out.2.setCell (.inl (by simp)) _).drew)⟩
  clear c0 f0 e2 HS
  go_upto_region 3 with fail
  generalize (W.setCell ⟨rb, 0, none⟩ (.int .u64 (B : Int))).drew = V at *
  have c0 : V.cell? ⟨rb, 0, none⟩ = some (.int .u64 (B : Int)) := cell_of_block HT.out.1 0
  have f0 : V.frozen? ⟨rb, 0, none⟩ = false := frozen_of_block HT.out.1 0
  go_region
  have HU : Hid (RndAt (V.setCell ⟨rb, 0, none⟩ (.int .u64 (C : Int))).drew rb C ∧ Chg [rb] w (V.setCell ⟨rb, 0, none⟩ (.int .u64 (C : Int))).drew) := Lib.hid ⟨setCell_block HT.out.1 0 _, ((HT.out.2.setCell (.inl (by simp)) _).drew)⟩
  clear c0 f0 e3 HT
  generalize (V.setCell ⟨rb, 0, none⟩ (.int .u64 (C : Int))).drew = U at *
  have c0 : U.cell? ⟨rb, 0, none⟩ = some (.int .u64 (C : Int)) := cell_of_block HU.out.1 0
  go_wp2_with fail
  go_ret
  exact ⟨rfl, HU.out.1, HU.out.2⟩

def BrkPost (w : World) (g N : Nat) (d : Array Int) (a b : Nat) (e : Ending) (w' : World) : Prop :=
  e = .returned (.tuple #[]) ∧ RowD w' g N (breakPatterns d a b) ∧ Chg [g] w w'

set_option maxRecDepth 100000 in
set_option maxHeartbeats 8000000 in
theorem soBreak_at {w : World} {g N c : Nat} {d : Array Int} (h : RowD w g N d) (hN : N < 1152921504606846976) (hc : N ≤ c) {a L : Nat} (hb : a + L ≤ N) :
    Calls Try.prog 67 #[.slice (some ⟨g, 0, none⟩) N c, .int .i64 (a : Int), .int .i64 ((a + L : Nat) : Int)] w (BrkPost w g N d a (a + L)) := by
  have H := Lib.hid h
  have hg := h.lt
  have q1 : (a : Int) + (L : Int) - (a : Int) = (L : Int) := by omega
  clear h
  by_cases h8 : L < 8
  · have h8I : ¬ (8 : Int) ≤ (L : Int) := by omega
    have HE := Lib.hid (show breakPatterns d a (a + L) = d by unfold breakPatterns; simp only [Nat.add_sub_cancel_left]; rw [if_neg (by omega)])
    go_enter Try.func67, Try.ntmps67
    go_wp2_with fail
    go_end0
    exact ⟨rfl, by rw [HE.out]; exact H.out, Chg.refl _ _⟩
  · have h8I : (8 : Int) ≤ (L : Int) := by omega
    obtain ⟨q, hq⟩ : ∃ q, q = L / 4 := ⟨_, rfl⟩
    have hqI : (L : Int) / 4 = (q : Int) := by omega
    have hq4 : 4 * q ≤ L := by omega
    have hq2 : 2 ≤ q := by omega
    obtain ⟨I0, hI0⟩ : ∃ I0, I0 = a + L / 4 * 2 - 1 := ⟨_, rfl⟩
    have hI1 : I0 + 1 = a + q * 2 := by omega
    obtain ⟨M, hM⟩ : ∃ M : Nat, M = 1 <<< bitsLen L := ⟨_, rfl⟩
    have hM1 : 1 ≤ M := by rw [hM, Nat.one_shiftLeft]; exact Nat.two_pow_pos _
    have hM2 : M ≤ 2 * L := by rw [hM, Nat.one_shiftLeft]; exact two_pow_bitsLen_le (by omega)
    have c2 := fun w => soNext2 L w (by omega)
    rw [← hM] at c2
    have HP := Lib.hid (breakPatterns_eq d a L (by omega))
    rw [← hM, ← hI0] at HP
    have C2 := Lib.hid c2
    have HI1 := Lib.hid hI1
    clear hq hI0 hM c2
    have hLr : (UInt64.ofNat L).toNat = L := by simp; omega
    have HLr := Lib.hid hLr
    clear hI1 hLr
    go_enter Try.func67, Try.ntmps67
    go_wp2_with fail
    refine (C2.out _).mono ?_
    rintro e w' ⟨rfl, rfl⟩
    go_wp2_with fail
    go_loopg [9] 3 (fun k s wr => ∃ t : Nat, s = .int .i64 ((I0 : Int) + (t : Int)) ∧ t ≤ 3 ∧ k = 3 - t ∧ Hid (∃ (r : UInt64) (dk : Array Int), RowD wr g N dk ∧ RndAt wr w.heap.size r.toNat ∧ Chg [g] w wr ∧ bpRest a L M I0 (3 - t) t (r, dk) = bpRest a L M I0 3 0 (UInt64.ofNat L, d)))
    case atStart => exact ⟨0, by have := HI1.out; congr 1; omega, by omega, rfl, ⟨UInt64.ofNat L, d, H.out.chg ((Chg.refl [] w).alloc _) (by simp), by rw [HLr.out]; exact new_block w _, (Chg.refl [g] w).alloc _, rfl⟩⟩
    case round =>
      obtain ⟨t, rfl, ht, hk, hX⟩ := hrel
      obtain ⟨wo, rfl⟩ : ∃ wo : World, wo = wr := ⟨_, rfl⟩
      obtain ⟨r, dk, hR, hRn, hC, hL⟩ := hX.out
      have HR := Lib.hid hR
      have HC := Lib.hid hC
      have HL := Lib.hid hL
      by_cases ht3 : t < 3
      · have hle : (I0 : Int) + (t : Int) ≤ (a : Int) + (q : Int) * 2 + 1 := by have := HI1.out; omega
        have hlo : I0 + t < N := by have := HI1.out; omega
        have i0 : (0 : Int) ≤ (I0 : Int) + (t : Int) := by omega
        obtain ⟨R', hR'⟩ : ∃ R' : Nat, R' = xorNextN r.toNat := ⟨_, rfl⟩
        have lR' : R' < 18446744073709551616 := by rw [hR']; exact xorNextN_lt _ r.toNat_lt
        obtain ⟨O, hO⟩ : ∃ O : Nat, O = R' &&& (M - 1) := ⟨_, rfl⟩
        have lO : O ≤ M - 1 := by rw [hO]; exact Nat.and_le_right
        have eAnd : bits .and .u64 (R' : Int) ((M : Int) - 1) = (O : Int) := by
          rw [show ((M : Int) - 1) = ((M - 1 : Nat) : Int) by omega, bits_and_u64_nat _ _ lR' (by omega), hO]
        have HN : Hid (O = (xorNext r).toNat &&& (M - 1)) := Lib.hid (by rw [hO, hR', ← xorNext_toNat])
        have cx := soXor_at hRn r.toNat_lt
        rw [← hR'] at cx
        have CX := Lib.hid cx
        have HRe : Hid (R' = (xorNext r).toNat) := Lib.hid (by rw [hR', ← xorNext_toNat])
        have Hk := Lib.hid hk
        clear hR hRn hC hL hX hR' hO cx hk
        go_upto_region 8 with (go_at_call 78; refine CX.out.mono ?_; rintro e w1 ⟨rfl, hRn1, hC1⟩; have HN1 := Lib.hid (show RndAt w1 w.heap.size (xorNext r).toNat by rw [← HRe.out]; exact hRn1); have HC0 := Lib.hid hC1; clear hRn1 hC1)
        have HR1 := Lib.hid (HR.out.chg HC0.out (by simp; omega))
        have HC1 := Lib.hid (show Chg [g] w w1 from HC.out.then HC0.out (fun i hi => by simp at hi; subst hi; exact .inr (Nat.le_refl _)))
        by_cases hOL : L ≤ O
        · have hLO : (L : Int) ≤ (O : Int) := by omega
          obtain ⟨o, ho⟩ : ∃ o, O = L + o := ⟨O - L, by omega⟩
          subst ho
          have e5 : ((L + o : Nat) : Int) - (L : Int) = (o : Int) := by omega
          have e6 : (L : Int) + (o : Int) - (L : Int) = (o : Int) := by omega
          have HB := Lib.hid (bp_step a L M I0 t r dk o (by omega) (by rw [← HN.out, if_pos (by omega)]; omega))
          have hoL : o < L := by omega
          have s1 : IntKind.i64.wrap ((a : Int) + (o : Int)) = (a : Int) + (o : Int) := IntWalk.i64_in _ (by omega)
          have t1 : ((a : Int) + (o : Int)).toNat = a + o := by omega
          have t2 : ((I0 : Int) + (t : Int)).toNat = I0 + t := by omega
          have b1 : (0 : Int) ≤ (a : Int) + (o : Int) := by omega
          have b2 : (a : Int) + (o : Int) < (N : Int) := by omega
          have b3 : (I0 : Int) + (t : Int) < (N : Int) := by omega
          obtain ⟨x, hx⟩ : ∃ x, x = dk[I0 + t]! := ⟨_, rfl⟩
          obtain ⟨y, hy⟩ : ∃ y, y = dk[a + o]! := ⟨_, rfl⟩
          have c1 := HR1.out.cell (i := I0 + t) (by omega)
          have c2 := HR1.out.cell (i := a + o) (by omega)
          rw [← hx] at c1
          rw [← hy] at c2
          have Hx := Lib.hid hx
          have Hy := Lib.hid hy
          clear hx hy
          have f1 := HR1.out.fz (I0 + t)
          have f2 := HR1.out.fz (a + o)
          obtain ⟨v2, hv2⟩ := cell?_setCell_some (w := w1) (p := ⟨g, I0 + t, none⟩) (x := .int .u64 y) (q := ⟨g, a + o, none⟩) c2
          go_upto_region 10 with fail
          go_region
          have HS := Lib.hid (HR1.out.swapd (i := I0 + t) (j := a + o) (by omega) (by omega) Hx.out Hy.out)
          have HRn := Lib.hid (HN1.out.chg HS.out.2 (by simp; omega))
          clear c1 c2 f1 f2 s1 t1 t2 b1 b2 b3 hv2
          go_wp2_with fail
          go_roundg (3 - (t + 1))
          case measure => rw [Hk.out]; omega
          case rel => exact ⟨t + 1, by go_num, by omega, rfl, ⟨xorNext r, swp dk (I0 + t) (a + o), HS.out.1.chg (Chg.drew (Chg.refl [] _)) (by simp), HRn.out.chg (Chg.drew (Chg.refl [] _)) (by simp), (HC1.out.trans HS.out.2).drew, HB.out.symm.trans HL.out⟩⟩
        · have hLO : ¬ (L : Int) ≤ (O : Int) := by omega
          obtain ⟨o, ho⟩ : ∃ o, O = o := ⟨_, rfl⟩
          subst ho
          have HB := Lib.hid (bp_step a L M I0 t r dk O (by omega) (by rw [← HN.out, if_neg (by omega)]))
          have hoL : O < L := by omega
          have s1 : IntKind.i64.wrap ((a : Int) + (O : Int)) = (a : Int) + (O : Int) := IntWalk.i64_in _ (by omega)
          have t1 : ((a : Int) + (O : Int)).toNat = a + O := by omega
          have t2 : ((I0 : Int) + (t : Int)).toNat = I0 + t := by omega
          have b1 : (0 : Int) ≤ (a : Int) + (O : Int) := by omega
          have b2 : (a : Int) + (O : Int) < (N : Int) := by omega
          have b3 : (I0 : Int) + (t : Int) < (N : Int) := by omega
          obtain ⟨x, hx⟩ : ∃ x, x = dk[I0 + t]! := ⟨_, rfl⟩
          obtain ⟨y, hy⟩ : ∃ y, y = dk[a + O]! := ⟨_, rfl⟩
          have c1 := HR1.out.cell (i := I0 + t) (by omega)
          have c2 := HR1.out.cell (i := a + O) (by omega)
          rw [← hx] at c1
          rw [← hy] at c2
          have Hx := Lib.hid hx
          have Hy := Lib.hid hy
          clear hx hy
          have f1 := HR1.out.fz (I0 + t)
          have f2 := HR1.out.fz (a + O)
          obtain ⟨v2, hv2⟩ := cell?_setCell_some (w := w1) (p := ⟨g, I0 + t, none⟩) (x := .int .u64 y) (q := ⟨g, a + O, none⟩) c2
          go_upto_region 10 with fail
          go_region
          have HS := Lib.hid (HR1.out.swapd (i := I0 + t) (j := a + O) (by omega) (by omega) Hx.out Hy.out)
          have HRn := Lib.hid (HN1.out.chg HS.out.2 (by simp; omega))
          clear c1 c2 f1 f2 s1 t1 t2 b1 b2 b3 hv2
          go_wp2_with fail
          go_roundg (3 - (t + 1))
          case measure => rw [Hk.out]; omega
          case rel => exact ⟨t + 1, by go_num, by omega, rfl, ⟨xorNext r, swp dk (I0 + t) (a + O), HS.out.1.chg (Chg.drew (Chg.refl [] _)) (by simp), HRn.out.chg (Chg.drew (Chg.refl [] _)) (by simp), (HC1.out.trans HS.out.2).drew, HB.out.symm.trans HL.out⟩⟩
      · obtain rfl : t = 3 := by omega
        have hle : ¬ (I0 : Int) + ((3 : Nat) : Int) ≤ (a : Int) + (q : Int) * 2 + 1 := by have := HI1.out; omega
        have hle' : ¬ (I0 : Int) + 3 ≤ (a : Int) + (q : Int) * 2 + 1 := by have := HI1.out; omega
        clear hR hRn hC hL hX hk
        go_wp2_with fail
        go_end0
        exact ⟨rfl, by rw [HP.out, ← HL.out]; exact HR.out, HC.out⟩

end Go.Proofs.Ytbejcmbdaoakbaa
