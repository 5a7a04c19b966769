/- The reference of layer 24: at, noughts, wrong. -/
import Derived.Test.YtbejcmbdaoakbaaRg0
namespace Go.Proofs.Ytbejcmbdaoakbaa
open Go.RowKit Go.Maps
set_option linter.unusedVariables false
set_option linter.unusedSimpArgs false

/-- Where a number stands in a list of volumes. -/
def ixOf (l : List (Nat × Value × PutL)) (v : Nat) : Int := if (l.findIdx fun x => decide (x.1 = v)) < l.length then ((l.findIdx fun x => decide (x.1 = v) : Nat) : Int) else -1
theorem ixOf_here {l : List (Nat × Value × PutL)} {v i : Nat} (hi : i < l.length) (he : (l[i]!).1 = v) (hn : ∀ j, j < i → (l[j]!).1 ≠ v) : ixOf l v = (i : Int) := by
  have h : (l.findIdx fun x => decide (x.1 = v)) = i := by
    rw [List.findIdx_eq hi]
    refine ⟨by rw [getElem!_pos l i hi] at he; simpa using he, fun j hj => ?_⟩
    have := hn j hj
    rw [getElem!_pos l j (by omega)] at this
    simpa using this
  unfold ixOf
  rw [h, if_pos hi]
theorem ixOf_none {l : List (Nat × Value × PutL)} {v : Nat} (hn : ∀ j, j < l.length → (l[j]!).1 ≠ v) : ixOf l v = -1 := by
  have h : (l.findIdx fun x => decide (x.1 = v)) = l.length := by
    rw [List.findIdx_eq_length]
    intro x hx
    obtain ⟨j, hj, rfl⟩ := List.getElem_of_mem hx
    have := hn j hj
    rw [getElem!_pos l j hj] at this
    simpa using this
  unfold ixOf
  rw [h, if_neg (Nat.lt_irrefl _)]

set_option maxRecDepth 20000 in
set_option maxHeartbeats 2000000 in
theorem r24at_at {L : List Nat} {B : Nat} {w : World} {p v : Nat} {vv : Value} {R : RSt} (h : RefAt L B w p vv R) (hB : B ≤ 1000000) :
    Calls Try.prog 36 #[.pointer (some ⟨p, 0, none⟩), .int .u64 (v : Int)] w fun e w' => e = .returned (.int .i64 (ixOf R.vols v)) ∧ w = w' := by
  obtain ⟨a, c, hv, _, _⟩ := ownRow_slice h.vols
  subst hv
  obtain ⟨n, hn⟩ : ∃ n, n = R.vols.length := ⟨_, rfl⟩
  have hn1 : n ≤ 1000000 := by have := h.bv; omega
  have Hn := Lib.hid hn
  have H := Lib.hid h
  have hblk := h.blk
  rw [← hn] at hblk
  have m0 := cell_of_block hblk 0
  have m1 := cell_of_block hblk 1
  have m2 := cell_of_block hblk 2
  simp only [List.getElem?_toArray, List.getElem?_cons_zero, List.getElem?_cons_succ] at m0 m1 m2
  clear hn h hblk hB
  go_enter Try.func36, Try.ntmps36
  go_wp2_with fail
  go_loop [5] (fun s => ∃ k : Nat, k ≤ n ∧ s = .int .i64 (k : Int) ∧ Hid (∀ j, j < k → (R.vols[j]!).1 ≠ v)) (fun s => n - (intOf s).toNat)
  case atStart => exact ⟨0, Nat.zero_le _, by go_num, Lib.hid (fun j hj => by omega)⟩
  case round =>
    obtain ⟨k, hk, rfl, HJ⟩ := hrel
    by_cases hkn : k < n
    · obtain ⟨g, c', e1, _, _, c0, _⟩ := H.out.cell (i := k) (by rw [← Hn.out]; exact hkn)
      injection e1 with e1a e1b e1c
      subst e1a
      obtain ⟨x, hx⟩ : ∃ x, x = (R.vols[k]!).1 := ⟨_, rfl⟩
      rw [← hx] at c0
      have Hx := Lib.hid hx
      have i1 : (k : Int) < (n : Int) := by omega
      clear hx e1b e1c
      by_cases hxv : x = v
      · have j1 : ((x : Int) == (v : Int)) = true := by simp [hxv]
        have j2 : (x == v) = true := by simp [hxv]
        have HF : Hid (ixOf R.vols v = (k : Int)) := Lib.hid (ixOf_here (by rw [← Hn.out]; exact hkn) (by rw [← Hx.out]; exact hxv) HJ.out)
        clear hxv
        go_wp2_with fail
        go_ret
        exact ⟨by rw [HF.out]; rfl, rfl⟩
      · have j1 : ((x : Int) == (v : Int)) = false := by simp; omega
        have HNx := Lib.hid hxv
        clear hxv
        go_wp2_with fail
        go_round
        case rel => exact ⟨k + 1, by omega, by go_num, Lib.hid (fun j hj => by
          by_cases e : j = k
          · rw [e, ← Hx.out]; exact HNx.out
          · exact HJ.out j (by omega))⟩
        case measure => simp [intOf]; omega
    · obtain rfl : k = n := by omega
      have HF : Hid (ixOf R.vols v = -1) := Lib.hid (ixOf_none (by rw [← Hn.out]; exact HJ.out))
      go_wp2_with fail
      go_ret
      exact ⟨by rw [HF.out]; rfl, rfl⟩

set_option maxRecDepth 20000 in
set_option maxHeartbeats 2000000 in
theorem r24noughts_at {w : World} : Calls Try.prog 39 #[] w fun e w' => e = .returned (.string (bstr 128 (fun _ => 0))) ∧ Chg [] w w' := by
  have hmk : ∀ w : World, (Instr.makeSlice 24 (.int .i64 128) (.int .i64 128)).run Try.prog w = .ok (.slice (some ⟨w.heap.size, 0, none⟩) 128 128) (w.alloc (.cells (zrow 128 (.int .u8 0)) 5)) := run_make1 (P := Try.prog) 24 5 Try.underlying24 infoU8 rfl .i64 .i64 128 (by omega) (by omega)
  have hB0 := new_block w (.cells (zrow 128 (.int .u8 0)) 5)
  rw [zrow_u8s] at hB0
  have hb := bytes_of_fill (x := 0) (by rw [← zrow_u8s] at hB0 ⊢; exact hB0) (by omega) (off := 0) (n := 128) (by omega)
  have hc := conv_at hb
  have HC := Lib.hid ((Chg.refl [] w).alloc (.cells (zrow 128 (.int .u8 0)) 5))
  clear hB0 hb
  go_enter Try.func39, Try.ntmps39
  go_wp2_with fail
  go_ret
  exact ⟨rfl, HC.out⟩

end Go.Proofs.Ytbejcmbdaoakbaa
