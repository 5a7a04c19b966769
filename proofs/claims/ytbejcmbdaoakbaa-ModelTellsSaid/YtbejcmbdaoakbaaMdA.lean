/- catchmentlaw24.after; catchmentlow.Filled. -/
import Derived.Test.YtbejcmbdaoakbaaMdF
import Derived.Test.YtbejcmbdaoakbaaMdK
namespace Go.Proofs.Ytbejcmbdaoakbaa
open Go.RowKit Go.Maps
set_option linter.unusedVariables false
set_option linter.unusedSimpArgs false

set_option maxRecDepth 20000 in
set_option maxHeartbeats 4000000 in
theorem after_at {w : World} {size len cap : Nat} {a : Option Addr} {z : Nat → Opn} (hs : size ≤ 255) (hI : IsOps w a len cap z) :
    Calls Try.prog 10 #[.int .u8 (size : Int), .slice a len cap] w (NewMd 60 (runS (St.new (1 + size)) z (min len 60)) w aPtr) := by
  have E1 : IntKind.u64.wrap (1 + (size : Int)) = ((1 + size : Nat) : Int) := by rw [IntKind.wrap_u64]; omega
  have E0 : IntKind.u64.wrap (size : Int) = (size : Int) := by rw [IntKind.wrap_u64]; omega
  have hl : len ≤ 9223372036854775807 := by have := Nat.le_trans hI.1 hI.2.1; unfold maxLen at this; exact this
  have HI := Lib.hid hI
  have HS := Lib.hid hs
  clear hI hs
  go_enter Try.func10, Try.ntmps10
  go_wp2_with fail
  refine (new_ok (n := 1 + size) (by omega) (by have := HS.out; omega)).mono ?_
  rintro e w1 ⟨p, L, rfl, hM, hL, hC⟩
  have HM := Lib.hid hM
  have HL := Lib.hid hL
  have HC := Lib.hid hC
  clear hM hL hC E1 E0
  unfold okPtr
  go_wp2_with fail
  go_loopw [7] (fun s wr => ∃ k : Nat, k ≤ min len 60 ∧ s = .int .i64 (k : Int) ∧ ∃ L', MdAt k L' wr p (runS (St.new (1 + size)) z k) ∧ (∀ b, b ∈ L' → w.heap.size ≤ b) ∧ Chg [] w wr) (fun s _ => len - (intOf s).toNat)
  case atStart => exact ⟨0, Nat.zero_le _, rfl, L, HM.out, HL.out, HC.out⟩
  case round =>
    obtain ⟨k, hk, rfl, L', hM', hL', hC'⟩ := hrel
    have HM' := Lib.hid hM'
    have HL' := Lib.hid hL'
    have HC' := Lib.hid hC'
    clear hM' hL' hC'
    by_cases h1 : k < min len 60
    · have hkl : k < len := by omega
      have hk60 : (k : Int) < 60 := by omega
      have i1 : (k : Int) < (len : Int) := by omega
      obtain ⟨b, off, rfl, hb, hop⟩ := HI.out.2.2.2 k hkl
      have hop' := hop.chg HC'.out hb (by simp) (by simp)
      obtain ⟨da, dc, e0, e1, e2, e3, e4, hB, hO⟩ := hop'
      have hbw : b < _ := Nat.lt_of_lt_of_le hb HC'.out.size
      have HB := Lib.hid hB
      have HO := Lib.hid hO
      simp only [Nat.add_zero] at e0
      clear hop hb hB hO
      go_wp2_with fail
      refine (do_at HM'.out (by omega) ⟨da, dc, rfl, HB.out, HO.out⟩).mono ?_
      rintro e w2 ⟨L2, a2, c2, rfl, hM2, hL2, hB2, hF2, hC2⟩
      have hL3 : ∀ b, b ∈ L2 → w.heap.size ≤ b := fun b hb => by
        rcases hL2 b hb with h | h
        · exact HL'.out b h
        · exact Nat.le_trans HC'.out.size h
      have hC3 : Chg [] w w2 := HC'.out.then hC2 (fun i hi => .inr (HL'.out i hi))
      have HM2 := Lib.hid hM2
      have HL3 := Lib.hid hL3
      have HC3 := Lib.hid hC3
      clear hM2 hL2 hB2 hF2 hC2 hL3 hC3 e0 e1 e2 e3 e4
      go_wp2_with fail
      go_roundw
      case rel => exact ⟨k + 1, by omega, by go_num, L2, HM2.out, HL3.out, HC3.out⟩
      case measure => simp [intOf]; omega
    · obtain rfl : k = min len 60 := by omega
      by_cases h60 : len ≤ 60
      · have em : min len 60 = len := by omega
        rw [em] at HM' ⊢
        go_wp2_with fail
        go_ret
        exact ⟨p, L', rfl, by rw [em]; exact HM'.out.mono h60, HL'.out, HC'.out⟩
      · have em : min len 60 = 60 := by omega
        have i1 : (60 : Int) < (len : Int) := by omega
        rw [em] at HM' ⊢
        go_wp2_with fail
        go_ret
        exact ⟨p, L', rfl, by rw [em]; exact HM'.out, HL'.out, HC'.out⟩

set_option maxRecDepth 20000 in
set_option maxHeartbeats 4000000 in
theorem filled_at {w : World} {x : Nat} (hx : x ≤ 255) :
    Calls Try.prog 27 #[.int .u8 (x : Int)] w fun e w' => e = .returned (.slice (some ⟨w.heap.size, 0, none⟩) 128 128) ∧ w'.heap[w.heap.size]? = some (.cells (u8s 128 (fun _ => x)) 5 (0, 0)) ∧ Chg [] w w' := by
  have hmk : ∀ w : World, (Instr.makeSlice 24 (.int .i64 128) (.int .i64 128)).run Try.prog w = .ok (.slice (some ⟨w.heap.size, 0, none⟩) 128 128) (w.alloc (.cells (zrow 128 (.int .u8 0)) 5)) := run_make1 (P := Try.prog) 24 5 Try.underlying24 infoU8 rfl .i64 .i64 128 (by omega) (by omega)
  have hB0 := new_block w (.cells (zrow 128 (.int .u8 0)) 5)
  have HB0 := Lib.hid hB0
  clear hB0
  go_enter Try.func27, Try.ntmps27
  go_wp2_with fail
  have HC0 := Lib.hid ((Chg.refl [] w).alloc (.cells (zrow 128 (.int .u8 0)) 5))
  generalize w.alloc (.cells (zrow 128 (.int .u8 0)) 5) = W at *
  clear hmk
  have HB1 : Hid (W.heap[w.heap.size]? = some (.cells (u8s 128 (fun i => if i < 0 then x else 0)) 5 (0, 0))) := by
    have h := HB0.out
    rw [zrow_u8s] at h
    have e : (fun i => if i < 0 then x else 0) = fun _ : Nat => 0 := by funext i; rw [if_neg (by omega)]
    rw [e]
    exact h
  go_loopw [4] (fun s wr => ∃ k : Nat, k ≤ 128 ∧ s = .int .i64 (k : Int) ∧ Hid (wr.heap[w.heap.size]? = some (.cells (u8s 128 (fun i => if i < k then x else 0)) 5 (0, 0))) ∧ Hid (Chg [] w wr)) (fun s _ => 128 - (intOf s).toNat)
  case atStart => exact ⟨0, Nat.zero_le _, rfl, HB1, HC0⟩
  case round =>
    obtain ⟨k, hk, rfl, HB, HC⟩ := hrel
    by_cases h1 : k < 128
    · have hk128 : (k : Int) < 128 := by omega
      have i0 : (0 : Int) ≤ (k : Int) := by omega
      have y := (cell_of_block HB.out k).trans (u8s_get h1)
      have qf := frozen_of_block HB.out k
      have hs := (setCell_block HB.out k (.int .u8 (x : Int))).trans (by rw [u8s_set h1])
      have HS := Lib.hid hs
      have lb := heap_lt HB.out
      clear hs
      go_wp2_with fail
      go_roundw
      case rel =>
        refine ⟨k + 1, by omega, by go_num, Lib.hid ?_, Lib.hid (HC.out.setCell (.inr (Nat.le_refl _)) _)⟩
        rw [HS.out]
        have : (fun j => if j = k then x else if j < k then x else 0) = fun i => if i < k + 1 then x else 0 := by
          funext j
          by_cases e : j = k
          · rw [if_pos e, if_pos (by omega)]
          · rw [if_neg e]
            by_cases e2 : j < k
            · rw [if_pos e2, if_pos (by omega)]
            · rw [if_neg e2, if_neg (by omega)]
        rw [this]
      case measure => simp [intOf]; omega
    · obtain rfl : k = 128 := by omega
      go_wp2_with fail
      go_ret
      refine ⟨rfl, ?_, HC.out⟩
      rw [HB.out]
      have : u8s 128 (fun i => if i < 128 then x else 0) = u8s 128 (fun _ => x) := by
        unfold u8s
        congr 1
        funext i
        show Value.int .u8 (((if (i : Nat) < 128 then x else 0 : Nat)) : Int) = _
        rw [if_pos i.isLt]
      rw [this]

end Go.Proofs.Ytbejcmbdaoakbaa
