/- slices.heapSortOrdered at uint64. -/
import Derived.Test.YtbejcmbdaoakbaaSoB
namespace Go.Proofs.Ytbejcmbdaoakbaa
open Go.RowKit Go.Sort
set_option linter.unusedVariables false
set_option linter.unusedSimpArgs false

theorem soHalf {a b : Nat} (hab : a ≤ b) : ((b : Int) - (a : Int) - 1).tdiv 2 = (((b - a - 1) / 2 + 1 : Nat) : Int) - 1 := by
  by_cases h : a = b
  · subst h
    have e : ((a : Int) - (a : Int) - 1) = -1 := by omega
    rw [e]; simp
  · rw [Int.tdiv_eq_ediv_of_nonneg (by omega)]; omega
theorem RowD.lenr {w : World} {g N : Nat} {d : Array Int} (h : RowD w g N d) : d.size = N := h.sz

set_option maxRecDepth 100000 in
set_option maxHeartbeats 8000000 in
theorem soHeap_at {w : World} {g N c : Nat} {d : Array Int} (h : RowD w g N d) (hN : N < 1152921504606846976) (hc : N ≤ c) {a b : Nat} (hab : a ≤ b) (hb : b ≤ N) :
    Calls Try.prog 66 #[.slice (some ⟨g, 0, none⟩) N c, .int .i64 (a : Int), .int .i64 (b : Int)] w fun e w' =>
      e = .returned (.tuple #[]) ∧ RowD w' g N (heapSort ltInt d a b) ∧ Chg [g] w w' := by
  have H := Lib.hid h
  have ecast : ((b - a : Nat) : Int) = (b : Int) - (a : Int) := by omega
  have Hcast := Lib.hid ecast
  clear h ecast
  go_enter Try.func66, Try.ntmps66
  go_wp2_with fail
  go_loopg [9] ((b - a - 1) / 2 + 1) (fun k s wr => s = .int .i64 ((k : Int) - 1) ∧ k ≤ (b - a - 1) / 2 + 1 ∧ Hid (∃ dk, RowD wr g N dk ∧ Chg [g] w wr ∧ heapBuild ltInt (b - a) a k dk = heapBuild ltInt (b - a) a ((b - a - 1) / 2 + 1) d))
  case atStart => exact ⟨by rw [soHalf hab], Nat.le_refl _, ⟨d, H.out, Chg.refl _ _, rfl⟩⟩
  case round =>
    obtain ⟨rfl, hkk, hX⟩ := hrel
    obtain ⟨wo, rfl⟩ : ∃ wo : World, wo = wr := ⟨_, rfl⟩
    cases gk with
    | zero =>
      go_wp2_with fail
      go_loopg [10] (b - a) (fun k s wr => s = .int .i64 ((k : Int) - 1) ∧ k ≤ b - a ∧ Hid (∃ dk dj, RowD wr g N dj ∧ Chg [g] w wr ∧ heapPop ltInt a k dj = heapPop ltInt a (b - a) dk ∧ heapBuild ltInt (b - a) a 0 dk = heapBuild ltInt (b - a) a ((b - a - 1) / 2 + 1) d))
      case atStart => obtain ⟨dk, h1, h2, h3⟩ := hX.out; exact ⟨by rw [Hcast.out], Nat.le_refl _, ⟨dk, dk, h1, h2, rfl, h3⟩⟩
      case round =>
        obtain ⟨rfl, hkk, hY⟩ := hrel
        obtain ⟨wi, rfl⟩ : ∃ wi : World, wi = wr := ⟨_, rfl⟩
        obtain ⟨dk, dj, hR, hC, hI, hO⟩ := hY.out
        have HR := Lib.hid hR
        have HC := Lib.hid hC
        have HI := Lib.hid hI
        have HO := Lib.hid hO
        clear hR hC hI hO hX hY
        cases gk with
        | zero =>
          go_wp2_with fail
          go_end0
          refine ⟨rfl, ?_, HC.out⟩
          have e : dj = heapSort ltInt d a b := by rw [heapSort, ← HO.out]; show dj = heapPop ltInt a (b - a) dk; rw [← HI.out]; rfl
          rw [← e]; exact HR.out
        | succ k =>
          obtain ⟨x, hx⟩ : ∃ x, x = dj[a]! := ⟨_, rfl⟩
          obtain ⟨y, hy⟩ : ∃ y, y = dj[a + k]! := ⟨_, rfl⟩
          have c1 := HR.out.cell (i := a) (by omega)
          have c2 := HR.out.cell (i := a + k) (by omega)
          rw [← hx] at c1
          rw [← hy] at c2
          have Hx := Lib.hid hx
          have Hy := Lib.hid hy
          clear hx hy
          have f1 := HR.out.fz a
          have f2 := HR.out.fz (a + k)
          have s1 : IntKind.i64.wrap ((a : Int) + (k : Int)) = (a : Int) + (k : Int) := IntWalk.i64_in _ (by omega)
          have t1 : ((a : Int) + (k : Int)).toNat = a + k := by omega
          have b1 : (0 : Int) ≤ (a : Int) + (k : Int) := by omega
          have b2 : (a : Int) + (k : Int) < (N : Int) := by omega
          have b3 : (a : Int) < (N : Int) := by omega
          obtain ⟨v2, hv2⟩ := cell?_setCell_some (w := wi) (p := ⟨g, a, none⟩) (x := .int .u64 y) (q := ⟨g, a + k, none⟩) c2
          go_upto_region 10 with fail
          go_region
          have HS := Lib.hid (HR.out.swapd (i := a) (j := a + k) (by omega) (by omega) Hx.out Hy.out)
          have c := fun (W : World) (hW : RowD W g N (swp dj a (a + k))) => soSift_at hW hN hc (lo := 0) (hi := k) (F := a) (by omega) (by omega)
          rw [show (((0 : Nat)) : Int) = 0 from rfl] at c
          have HCl := Lib.hid (c _ (HS.out.1.chg (Chg.drew (Chg.refl [] _)) (by simp)))
          have HC1 := Lib.hid ((HC.out.trans HS.out.2).drew)
          clear c1 c2 f1 f2 s1 t1 b1 b2 b3 hv2 c HS
          go_wp2_with fail
          refine HCl.out.mono ?_
          rintro e w1 ⟨rfl, hR1, hC1⟩
          have HR1 := Lib.hid hR1
          have HC2 := Lib.hid (HC1.out.trans hC1)
          clear hR1 hC1 HCl HC1
          go_wp2_with fail
          go_roundg k
          case measure => omega
          case rel => exact ⟨by go_num, by omega, ⟨dk, _, HR1.out, HC2.out, HI.out, HO.out⟩⟩
    | succ k =>
      obtain ⟨dk, hR, hC, hL⟩ := hX.out
      have c := soSift_at hR hN hc (lo := k) (hi := b - a) (F := a) (by omega) (by omega)
      rw [Hcast.out] at c
      have HCl := Lib.hid c
      have HC := Lib.hid hC
      have HL := Lib.hid hL
      clear hR hC hL hX c
      go_wp2_with fail
      refine HCl.out.mono ?_
      rintro e w1 ⟨rfl, hR1, hC1⟩
      have HR1 := Lib.hid hR1
      have HC1 := Lib.hid (HC.out.trans hC1)
      clear hR1 hC1 HCl
      go_wp2_with fail
      go_roundg k
      case measure => omega
      case rel => exact ⟨by go_num, by omega, ⟨_, HR1.out, HC1.out, HL.out⟩⟩

end Go.Proofs.Ytbejcmbdaoakbaa
