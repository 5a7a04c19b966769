/- slices.Sort's parts at uint64: how a row of numbers lies in memory; cmp.Less; slices.insertionSortOrdered. The plain functions are the kit's (Derived.Sort). -/
import Derived.Test.YtbejcmbdaoakbaaProg
import Derived.Test.YtbejcmbdaoakbaaFr
import Derived.Sort.AssemblyPlain
import Derived.Sort.LotD4
import Derived.Sort.LotD5
import Derived.Deep.Cut
import Derived.Deep.LoopGhost
import Derived.Deep.QuietTactic
import Derived.BigQuiet
import Derived.BigRegion
import Derived.IntWalk
namespace Go.Proofs.Ytbejcmbdaoakbaa
open Go.RowKit Go.Sort
set_option linter.unusedVariables false
set_option linter.unusedSimpArgs false

theorem quiet_left' {P : Program} {f : Nat} {args : Array Value} {w : World} {v : Value} (h : Calls P f args w fun e w' => e = .returned v ∧ w = w') : Calls P f args w fun e w' => e = .returned v ∧ ∃ m, w' = w.drewN m :=
  h.mono fun _ _ ⟨he, hw⟩ => ⟨he, 0, by subst hw; rfl⟩

theorem soNan_at (x : Int) (w : World) : Calls Try.prog 81 #[.int .u64 x] w fun e w' => e = .returned (.bool false) ∧ w = w' := by
  go_enter Try.func81, Try.ntmps81
  go_wp2
  go_ret
  exact ⟨by simp, rfl⟩
theorem soLess_at (x y : Int) (w : World) : Calls Try.prog 71 #[.int .u64 x, .int .u64 y] w fun e w' => e = .returned (.bool (ltInt x y)) ∧ w = w' := by
  go_enter Try.func71, Try.ntmps71
  go_wp2_with (go_at_call 81; refine (soNan_at _ _).mono ?_; rintro e w' ⟨rfl, rfl⟩)
  go_ret
  exact ⟨by simp [ltInt], rfl⟩
/-- Inside a region that draws its order. -/
theorem soLess_q (x y : Int) (w : World) (n : Nat) {b : Bool} (h : ltInt x y = b) : Calls Try.prog 71 #[.int .u64 x, .int .u64 y] (w.drewN n) fun e w'' => e = .returned (.bool b) ∧ ∃ m, w'' = w.drewN m :=
  (soLess_at x y _).mono fun _ _ ⟨he, hm⟩ => ⟨by rw [he, h], n, hm.symm⟩

/-- Block g begins with the numbers d, N of them, each a uint64. -/
structure RowD (w : World) (g N : Nat) (d : Array Int) : Prop where
  sz : d.size = N
  blk : ∃ cur, w.heap[g]? = some (.cells cur 23 (0, 0)) ∧ ∀ i, i < N → cur[i]? = some (.int .u64 d[i]!)
  wf : ∀ i, i < N → 0 ≤ d[i]! ∧ d[i]! < 18446744073709551616
theorem RowD.lt {w : World} {g N : Nat} {d : Array Int} (h : RowD w g N d) : g < w.heap.size := by obtain ⟨cur, h, _⟩ := h.blk; exact heap_lt h
theorem RowD.cell {w : World} {g N i : Nat} {d : Array Int} (h : RowD w g N d) (hi : i < N) : w.cell? ⟨g, i, none⟩ = some (.int .u64 d[i]!) := by
  obtain ⟨cur, hb, hc⟩ := h.blk
  rw [cell_of_block hb]; exact hc i hi
theorem RowD.fz {w : World} {g N : Nat} {d : Array Int} (h : RowD w g N d) (i : Nat) : w.frozen? ⟨g, i, none⟩ = false := by
  obtain ⟨cur, hb, _⟩ := h.blk
  exact frozen_of_block hb i
theorem RowD.chg {w w' : World} {g N : Nat} {d : Array Int} {L : List Nat} (h : RowD w g N d) (c : Chg L w w') (hg : g ∉ L) : RowD w' g N d := by
  obtain ⟨cur, hb, hc⟩ := h.blk
  exact ⟨h.sz, ⟨cur, (c.block g (heap_lt hb) hg).trans hb, hc⟩, h.wf⟩
theorem RowD.swap {w : World} {g N i j : Nat} {d : Array Int} (h : RowD w g N d) (hi : i < N) (hj : j < N) :
    RowD ((w.setCell ⟨g, i, none⟩ (.int .u64 d[j]!)).setCell ⟨g, j, none⟩ (.int .u64 d[i]!)) g N (swp d i j) := by
  have sz := h.sz
  have hg : ∀ k, (swp d i j)[k]! = if k = j then d[i]! else if k = i then d[j]! else d[k]! := fun k => swp_get d (by omega) (by omega) k
  obtain ⟨cur, hb, hc⟩ := h.blk
  refine ⟨by rw [swp_size]; exact sz, ⟨_, setCell_block (setCell_block hb i (.int .u64 d[j]!)) j (.int .u64 d[i]!), fun k hk => ?_⟩, fun k hk => ?_⟩
  · have li : i < cur.size := by have := hc i hi; exact (Array.getElem?_eq_some_iff.1 this).1
    have lj : j < cur.size := by have := hc j hj; exact (Array.getElem?_eq_some_iff.1 this).1
    rw [hg, Array.getElem?_setIfInBounds, Array.getElem?_setIfInBounds]
    by_cases e1 : j = k
    · subst e1; simp [lj]
    · have e1' : ¬ k = j := fun q => e1 q.symm
      by_cases e2 : i = k
      · subst e2
        simp only [e1, e1', if_false, if_true]
        rw [if_pos li]
      · have e2' : ¬ k = i := fun q => e2 q.symm
        simp only [e1, e1', e2, e2', if_false]
        exact hc k hk
  · rw [hg]
    split
    · exact h.wf i hi
    · split
      · exact h.wf j hj
      · exact h.wf k hk
/-- The two stores, in the world of a walk. -/
theorem RowD.swapd {w : World} {g N i j : Nat} {d : Array Int} {x y : Int} (h : RowD w g N d) (hi : i < N) (hj : j < N) (hx : x = d[i]!) (hy : y = d[j]!) :
    RowD ((w.setCell ⟨g, i, none⟩ (.int .u64 y)).setCell ⟨g, j, none⟩ (.int .u64 x)) g N (swp d i j) ∧ Chg [g] w ((w.setCell ⟨g, i, none⟩ (.int .u64 y)).setCell ⟨g, j, none⟩ (.int .u64 x)) := by
  subst hx hy
  exact ⟨h.swap hi hj, ((Chg.refl [g] w).setCell (.inl (by simp)) _).setCell (.inl (by simp)) _⟩

/-! ### what each way of a round does to the plain functions -/
section
variable {α : Type} [Inhabited α] (lt : α → α → Bool)
theorem soIns_go (a j : Nat) (d : Array α) (hj : a < j) (hl : lt d[j]! d[j - 1]! = true) : insInner lt a j d = insInner lt a (j - 1) (swp d j (j - 1)) := by
  cases j with
  | zero => omega
  | succ k =>
    have e : k + 1 - 1 = k := by omega
    rw [e] at hl ⊢
    conv => lhs; unfold insInner
    simp [hj, hl]
theorem soIns_stop (a j : Nat) (d : Array α) (h : j ≤ a ∨ lt d[j]! d[j - 1]! = false) : insInner lt a j d = d := by
  cases j with
  | zero => rfl
  | succ k =>
    have e : k + 1 - 1 = k := by omega
    rw [e] at h
    unfold insInner
    rcases h with h | h
    · have : ¬ a < k + 1 := by omega
      simp [this]
    · simp [h]
theorem soOut_go (a b i : Nat) (d : Array α) (h : i < b) : insOuter lt a b i d = insOuter lt a b (i + 1) (insInner lt a i d) := by rw [insOuter, if_pos h]
theorem soOut_stop (a b i : Nat) (d : Array α) (h : ¬ i < b) : insOuter lt a b i d = d := by rw [insOuter, if_neg h]
end

set_option maxRecDepth 100000 in
set_option maxHeartbeats 4000000 in
theorem soIns_at {w : World} {g N c : Nat} {d : Array Int} (h : RowD w g N d) (hN : N < 4611686018427387904) (hc : N ≤ c) {a b : Nat} (hab : a ≤ b) (hb : b ≤ N) :
    Calls Try.prog 65 #[.slice (some ⟨g, 0, none⟩) N c, .int .i64 (a : Int), .int .i64 (b : Int)] w fun e w' =>
      e = .returned (.tuple #[]) ∧ RowD w' g N (insertionSort ltInt d a b) ∧ Chg [g] w w' := by
  have H := Lib.hid h
  clear h
  go_enter Try.func65, Try.ntmps65
  go_wp2_with fail
  go_loopw [6] (fun s wr => ∃ (i : Nat), s = .int .i64 (i : Int) ∧ a < i ∧ i ≤ b + 1 ∧ Hid (∃ dk, RowD wr g N dk ∧ Chg [g] w wr ∧ insOuter ltInt a b i dk = insOuter ltInt a b (a + 1) d)) (fun s _ => b + 1 - (intOf s).toNat)
  case atStart => exact ⟨a + 1, by go_num, by omega, by omega, ⟨d, H.out, Chg.refl _ _, rfl⟩⟩
  case round =>
    obtain ⟨i, rfl, hi1, hi2, hX⟩ := hrel
    obtain ⟨wo, rfl⟩ : ∃ wo : World, wo = wr := ⟨_, rfl⟩
    by_cases hib : i < b
    · have hinI : (i : Int) < (b : Int) := by omega
      go_wp2_with fail
      go_loopw [7] (fun s wr => ∃ (j : Nat), s = .int .i64 (j : Int) ∧ a ≤ j ∧ j ≤ i ∧ Hid (∃ dk dj, RowD wr g N dj ∧ Chg [g] w wr ∧ insInner ltInt a j dj = insInner ltInt a i dk ∧ insOuter ltInt a b i dk = insOuter ltInt a b (a + 1) d)) (fun s _ => (intOf s).toNat)
      case atStart =>
        obtain ⟨dk, h1, h2, h3⟩ := hX.out
        exact ⟨i, rfl, by omega, Nat.le_refl _, ⟨dk, dk, h1, h2, rfl, h3⟩⟩
      case round =>
        obtain ⟨j, rfl, haj, hji, hY⟩ := hrel
        obtain ⟨wi, rfl⟩ : ∃ wi : World, wi = wr := ⟨_, rfl⟩
        obtain ⟨dk, dj, hR, hC, hI, hO⟩ := hY.out
        have HR := Lib.hid hR
        have HC := Lib.hid hC
        have HI := Lib.hid hI
        have HO := Lib.hid hO
        clear hR hC hI hO hX hY
        by_cases hja : a < j
        · obtain ⟨k, hk⟩ : ∃ k, j = k + 1 := ⟨j - 1, by omega⟩
          subst hk
          obtain ⟨x, hx⟩ : ∃ x, x = dj[k + 1]! := ⟨_, rfl⟩
          obtain ⟨y, hy⟩ : ∃ y, y = dj[k]! := ⟨_, rfl⟩
          have c1 := HR.out.cell (i := k + 1) (by omega)
          have c2 := HR.out.cell (i := k) (by omega)
          rw [← hx] at c1
          rw [← hy] at c2
          have Hx := Lib.hid hx
          have Hy := Lib.hid hy
          clear hx hy
          have hjaI : (a : Int) < (k : Int) + 1 := by omega
          have i0 : (0 : Int) ≤ (k : Int) + 1 := by omega
          have i1 : (k : Int) + 1 < (N : Int) := by omega
          have i2 : (0 : Int) ≤ (k : Int) := by omega
          have i3 : (k : Int) < (N : Int) := by omega
          have e1 : IntKind.i64.wrap ((k : Int) + 1 - 1) = (k : Int) := by
            rw [show (k : Int) + 1 - 1 = (k : Int) by omega]
            exact IntWalk.i64_in _ (by omega)
          cases hl : ltInt x y with
          | true =>
            have Hd := Lib.hid (fun n => soLess_q x y wi n hl)
            have Hl := Lib.hid hl
            clear hl
            go_wp2_with fail
            go_quiet ((go_at_call 71; exact Hd.out _))
            go_wp2_with fail
            have HRd := Lib.hid (HR.out.chg (Chg.drewN (Chg.refl [] _) nq) (by simp))
            have HCd := Lib.hid (HC.out.drewN nq)
            have d1 : (wi.drewN nq).cell? ⟨g, k + 1, none⟩ = _ := c1
            have d2 : (wi.drewN nq).cell? ⟨g, k, none⟩ = _ := c2
            clear Hd c1 c2
            generalize wi.drewN nq = W at *
            have f1 := HRd.out.fz (k + 1)
            have f2 := HRd.out.fz k
            go_region
            have HS := Lib.hid (HRd.out.swapd (i := k + 1) (j := k) (by omega) (by omega) Hx.out Hy.out)
            clear d1 d2 f1 f2
            go_wp2_with fail
            go_roundw
            case rel => exact ⟨k, by go_num, by omega, by omega, ⟨dk, swp dj (k + 1) k, HS.out.1.chg (Chg.drew (Chg.refl [] _)) (by simp), (HCd.out.trans HS.out.2).drew, by rw [← HI.out, soIns_go ltInt a (k + 1) dj hja (by rw [Nat.add_sub_cancel, ← Hx.out, ← Hy.out]; exact Hl.out)]; rfl, HO.out⟩⟩
            case measure => simp [intOf]
          | false =>
            have Hd := Lib.hid (fun n => soLess_q x y wi n hl)
            have Hl := Lib.hid hl
            clear hl
            go_wp2_with fail
            go_quiet ((go_at_call 71; exact Hd.out _))
            go_wp2_with fail
            go_roundw
            case rel => exact ⟨i + 1, by go_num, by omega, by omega, ⟨dj, HR.out.chg (Chg.drewN (Chg.refl [] _) _) (by simp), HC.out.drewN _, by rw [← HO.out, soOut_go ltInt a b i dk hib, ← HI.out, soIns_stop ltInt a (k + 1) dj (.inr (by rw [Nat.add_sub_cancel, ← Hx.out, ← Hy.out]; exact Hl.out))]⟩⟩
            case measure => simp [intOf]; omega
        · have hd : decide ((a : Int) < (j : Int)) = false := by simp; omega
          go_wp2_with fail
          go_quiet (fail)
          go_wp2_with fail
          go_roundw
          case rel => exact ⟨i + 1, by go_num, by omega, by omega, ⟨dj, HR.out.chg (Chg.drewN (Chg.refl [] _) _) (by simp), HC.out.drewN _, by rw [← HO.out, soOut_go ltInt a b i dk hib, ← HI.out, soIns_stop ltInt a j dj (.inl (by omega))]⟩⟩
          case measure => simp [intOf]; omega
    · obtain ⟨dk, hR, hC, hO⟩ := hX.out
      have HF := Lib.hid (And.intro (show RowD wo g N (insertionSort ltInt d a b) by unfold insertionSort; rw [← hO, soOut_stop ltInt a b i dk hib]; exact hR) hC)
      clear hX hR hC hO
      go_wp2_with fail
      go_end0
      exact ⟨rfl, HF.out.1, HF.out.2⟩

end Go.Proofs.Ytbejcmbdaoakbaa
