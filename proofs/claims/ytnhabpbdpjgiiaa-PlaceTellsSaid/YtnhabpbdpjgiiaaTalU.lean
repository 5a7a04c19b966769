/- tally.Up, Down, Get, Free, Keep, New. -/
import Derived.Test.YtnhabpbdpjgiiaaTalS
import Derived.Carry
namespace Go.Proofs.Ytnhabpbdpjgiiaa
open Go.RowKit

def upE (T : Tal) (b : Int) : Int := if hasB T b then (if T.now b.toNat = 65535 then 81 else 0) else 80
def up (T : Tal) (b : Int) : Tal := if upE T b = 0 then T.set b.toNat (T.now b.toNat + 1) else T
def downE (T : Tal) (b : Int) : Int := if hasB T b then (if T.now b.toNat = 0 then 82 else 0) else 80
def down (T : Tal) (b : Int) : Tal := if downE T b = 0 then T.set b.toNat (T.now b.toNat - 1) else T

theorem hasB_iff (T : Tal) (b : Int) : hasB T b = true ↔ 0 ≤ b ∧ b < T.n := by simp [hasB]

def getV (T : Tal) (b : Int) : Int := if hasB T b then (T.now b.toNat : Int) else 0

theorem keep_frees (T : Tal) : T.keep.frees = T.frees + T.waits := by
  refine cnt_split fun i _ => ?_
  simp only [Tal.free, Tal.waitB, Tal.keep]
  by_cases q1 : T.now i = 0 <;> by_cases q2 : T.kept i = 0 <;> simp [q1, q2]
theorem keep_waits (T : Tal) : T.keep.waits = 0 := cnt_zero fun i _ => by
  simp only [Tal.waitB, Tal.keep]
  by_cases q1 : T.now i = 0 <;> simp [q1]

section
variable {w : World} {t bc bk : Nat} {T : Tal} (h : TallyAt w t bc bk T)
include h

set_option maxHeartbeats 400000 in
theorem up_at (b : Int) :
    Calls Try.prog 15 #[.pointer (some ⟨t, 0, none⟩), .int .i64 b] w fun e w' => e = .returned (.int .i64 (upE T b)) ∧ TallyAt w' t bc bk (up T b) ∧ Chg [t, bc, bk] w w' := by
  have n1 := h.n1
  have c0 := h.c0
  have hz : ((T.n : Int) == 0) = false := by simp; omega
  by_cases hh : hasB T b = true
  · obtain ⟨h0, h1⟩ := (hasB_iff T b).1 hh
    obtain ⟨b, rfl⟩ := Int.eq_ofNat_of_zero_le h0
    have hb : b < T.n := by omega
    have cc := h.cc hb
    have hnb := h.now b hb
    by_cases hm : T.now b = 65535
    · have hd : ((T.now b : Int) == 65535) = true := by simp [hm]
      have He : upE T b = 81 := by simp [upE, hh, hm]
      clear hm
      go_enter Try.func15, Try.ntmps15
      go_wp2_with (first | (go_at_call 30; refine (blocks_at h).mono ?_; rintro e w' ⟨rfl, rfl⟩) | (go_at_call 38; refine (has_at h _).mono ?_; rintro e w' ⟨rfl, rfl⟩))
      go_ret
      exact ⟨by rw [He]; rfl, by simpa [up, He] using h, Chg.refl _ _⟩
    · have hd : ((T.now b : Int) == 65535) = false := by simp; omega
      have He : upE T b = 0 := by simp [upE, hh, hm]
      have Hu : up T b = T.set b (T.now b + 1) := by simp [up, He]
      have hlt : T.now b + 1 ≤ 65535 := by omega
      have hw : IntKind.u16.wrap ((T.now b : Int) + 1) = ((T.now b + 1 : Nat) : Int) := by
        rw [IntWalk.u16_in ((T.now b : Int) + 1) ⟨by omega, by omega⟩]; omega
      clear hm
      go_enter Try.func15, Try.ntmps15
      go_wp2_with (first | (go_at_call 30; refine (blocks_at h).mono ?_; rintro e w' ⟨rfl, rfl⟩) | (go_at_call 38; refine (has_at h _).mono ?_; rintro e w' ⟨rfl, rfl⟩))
      refine (set_at h b (T.now b + 1) hb hlt).mono ?_
      rintro e w1 ⟨rfl, hT, hC⟩
      go_wp2_with fail
      go_ret
      exact ⟨by rw [He]; rfl, by rw [Hu]; exact hT, hC⟩
  · have hh' : hasB T b = false := by simpa using hh
    have He : upE T b = 80 := by simp [upE, hh']
    clear hh
    go_enter Try.func15, Try.ntmps15
    go_wp2_with (first | (go_at_call 30; refine (blocks_at h).mono ?_; rintro e w' ⟨rfl, rfl⟩) | (go_at_call 38; refine (has_at h _).mono ?_; rintro e w' ⟨rfl, rfl⟩))
    go_ret
    exact ⟨by rw [He]; rfl, by simpa [up, He] using h, Chg.refl _ _⟩

set_option maxHeartbeats 400000 in
theorem down_at (b : Int) :
    Calls Try.prog 17 #[.pointer (some ⟨t, 0, none⟩), .int .i64 b] w fun e w' => e = .returned (.int .i64 (downE T b)) ∧ TallyAt w' t bc bk (down T b) ∧ Chg [t, bc, bk] w w' := by
  have n1 := h.n1
  have c0 := h.c0
  have hz : ((T.n : Int) == 0) = false := by simp; omega
  by_cases hh : hasB T b = true
  · obtain ⟨h0, h1⟩ := (hasB_iff T b).1 hh
    obtain ⟨b, rfl⟩ := Int.eq_ofNat_of_zero_le h0
    have hb : b < T.n := by omega
    have cc := h.cc hb
    have hnb := h.now b hb
    by_cases hm : T.now b = 0
    · have hd : ((T.now b : Int) == 0) = true := by simp [hm]
      have He : downE T b = 82 := by simp [downE, hh, hm]
      clear hm
      go_enter Try.func17, Try.ntmps17
      go_wp2_with (first | (go_at_call 30; refine (blocks_at h).mono ?_; rintro e w' ⟨rfl, rfl⟩) | (go_at_call 38; refine (has_at h _).mono ?_; rintro e w' ⟨rfl, rfl⟩))
      go_ret
      exact ⟨by rw [He]; rfl, by simpa [down, He] using h, Chg.refl _ _⟩
    · have hd : ((T.now b : Int) == 0) = false := by simp; omega
      have He : downE T b = 0 := by simp [downE, hh, hm]
      have Hu : down T b = T.set b (T.now b - 1) := by simp [down, He]
      have hlt : T.now b - 1 ≤ 65535 := by omega
      have hw : IntKind.u16.wrap ((T.now b : Int) - 1) = ((T.now b - 1 : Nat) : Int) := by
        rw [IntWalk.u16_in ((T.now b : Int) - 1) ⟨by omega, by omega⟩]; omega
      clear hm
      go_enter Try.func17, Try.ntmps17
      go_wp2_with (first | (go_at_call 30; refine (blocks_at h).mono ?_; rintro e w' ⟨rfl, rfl⟩) | (go_at_call 38; refine (has_at h _).mono ?_; rintro e w' ⟨rfl, rfl⟩))
      refine (set_at h b (T.now b - 1) hb hlt).mono ?_
      rintro e w1 ⟨rfl, hT, hC⟩
      go_wp2_with fail
      go_ret
      exact ⟨by rw [He]; rfl, by rw [Hu]; exact hT, hC⟩
  · have hh' : hasB T b = false := by simpa using hh
    have He : downE T b = 80 := by simp [downE, hh']
    clear hh
    go_enter Try.func17, Try.ntmps17
    go_wp2_with (first | (go_at_call 30; refine (blocks_at h).mono ?_; rintro e w' ⟨rfl, rfl⟩) | (go_at_call 38; refine (has_at h _).mono ?_; rintro e w' ⟨rfl, rfl⟩))
    go_ret
    exact ⟨by rw [He]; rfl, by simpa [down, He] using h, Chg.refl _ _⟩

set_option maxHeartbeats 400000 in
theorem get_at (b : Int) :
    Calls Try.prog 24 #[.pointer (some ⟨t, 0, none⟩), .int .i64 b] w fun e w' => e = .returned (.int .i64 (getV T b)) ∧ w = w' := by
  have n1 := h.n1
  have c0 := h.c0
  by_cases hh : hasB T b = true
  · obtain ⟨h0, h1⟩ := (hasB_iff T b).1 hh
    obtain ⟨b, rfl⟩ := Int.eq_ofNat_of_zero_le h0
    have hb : b < T.n := by omega
    have cc := h.cc hb
    have hnb := h.now b hb
    have He : getV T b = (T.now b : Int) := by simp [getV, hh]
    go_enter Try.func24, Try.ntmps24
    go_wp2_with (first | (go_at_call 38; refine (has_at h _).mono ?_; rintro e w' ⟨rfl, rfl⟩))
    go_ret
    exact ⟨by rw [He]; rfl, rfl⟩
  · have hh' : hasB T b = false := by simpa using hh
    have He : getV T b = 0 := by simp [getV, hh']
    clear hh
    go_enter Try.func24, Try.ntmps24
    go_wp2_with (first | (go_at_call 38; refine (has_at h _).mono ?_; rintro e w' ⟨rfl, rfl⟩))
    go_ret
    exact ⟨by rw [He]; rfl, rfl⟩

def freeB (T : Tal) (b : Int) : Bool := hasB T b && T.free b.toNat

set_option maxHeartbeats 400000 in
theorem free_at (b : Int) :
    Calls Try.prog 35 #[.pointer (some ⟨t, 0, none⟩), .int .i64 b] w fun e w' => e = .returned (.bool (freeB T b)) ∧ w = w' := by
  have n1 := h.n1
  have c0 := h.c0
  by_cases hh : hasB T b = true
  · obtain ⟨h0, h1⟩ := (hasB_iff T b).1 hh
    obtain ⟨b, rfl⟩ := Int.eq_ofNat_of_zero_le h0
    have hb : b < T.n := by omega
    have cc := h.cc hb
    have hnb := h.now b hb
    by_cases hm : T.now b = 0
    · have hd : ((T.now b : Int) == 0) = true := by simp [hm]
      have He : freeB T b = ((T.kept b : Int) == 0) := by simp [freeB, Tal.free, hh, hm]; rw [Bool.eq_iff_iff]; simp
      clear hm
      go_enter Try.func35, Try.ntmps35
      go_wp2_with (first | (go_at_call 38; refine (has_at h _).mono ?_; rintro e w' ⟨rfl, rfl⟩) | (go_at_call 53; refine (was_at h _ hb).mono ?_; rintro e w' ⟨rfl, rfl⟩))
      go_ret
      exact ⟨by rw [He]; rfl, rfl⟩
    · have hd : ((T.now b : Int) == 0) = false := by simp; omega
      have He : freeB T b = false := by simp [freeB, Tal.free, hm]
      clear hm
      go_enter Try.func35, Try.ntmps35
      go_wp2_with (first | (go_at_call 38; refine (has_at h _).mono ?_; rintro e w' ⟨rfl, rfl⟩) | (go_at_call 53; refine (was_at h _ hb).mono ?_; rintro e w' ⟨rfl, rfl⟩))
      go_ret
      exact ⟨by rw [He]; rfl, rfl⟩
  · have hh' : hasB T b = false := by simpa using hh
    have He : freeB T b = false := by simp [freeB, hh']
    clear hh
    go_enter Try.func35, Try.ntmps35
    go_wp2_with (first | (go_at_call 38; refine (has_at h _).mono ?_; rintro e w' ⟨rfl, rfl⟩))
    go_ret
    exact ⟨by rw [He]; rfl, rfl⟩

set_option maxRecDepth 20000 in
set_option maxHeartbeats 400000 in
theorem keep_at :
    Calls Try.prog 18 #[.pointer (some ⟨t, 0, none⟩)] w fun e w' => e = .returned (.tuple #[]) ∧ TallyAt w' t bc bk T.keep ∧ Chg [t, bk] w w' := by
  have n1 := h.n1
  have c1 := h.c1
  have fl := h.frees_le
  have wl := h.waits_le
  obtain ⟨w1, hrun, hK, hturn⟩ := h.map.clear (t := 76) Try.underlying76 0
  have hg := hturn.grown
  have ht := (hg.block t h.lt0 (by simp [h.ne1])).trans h.top
  have c2 := cell_of_block ht 2
  have c3 := cell_of_block ht 3
  have f2 := frozen_of_block ht 2
  have f3 := frozen_of_block ht 3
  simp only [List.getElem?_toArray, List.getElem?_cons_zero, List.getElem?_cons_succ] at c2 c3
  go_enter Try.func18, Try.ntmps18
  go_wp2_with (go_at_call 30; refine (blocks_at h).mono ?_; rintro e w' ⟨rfl, rfl⟩)
  go_region
  go_wp2_with fail
  go_end0
  have hc : Chg [t, bk] w w1 := (Chg.refl _ _).grown hg (by simp)
  have hc2 : Chg [t, bk] w ((w1.setCell ⟨t, 2, none⟩ (.int .i64 (T.frees + T.waits))).setCell ⟨t, 3, none⟩ (.int .i64 0)).drew :=
    ((hc.setCell (.inl (by simp)) _).setCell (.inl (by simp)) _).drew
  refine ⟨rfl, ⟨h.n1, h.n2, h.now, h.now, ?_, ?_, ?_, h.ne⟩, hc2⟩
  · show ((w1.setCell ⟨t, 2, none⟩ (.int .i64 (T.frees + T.waits))).setCell ⟨t, 3, none⟩ (.int .i64 0)).heap[t]? = _
    rw [setCell_block (setCell_block ht 2 _), keep_frees, keep_waits]
    simp [Tal.keep]
  · refine (hc2.block bc h.lt1 (by simp; exact ⟨h.ne.symm, h.ne2⟩)).trans h.cs
  · have e : ((w1.setCell ⟨t, 2, none⟩ (.int .i64 (T.frees + T.waits))).setCell ⟨t, 3, none⟩ (.int .i64 0)).drew.heap[bk]? = w1.heap[bk]? := by
      show ((w1.setCell ⟨t, 2, none⟩ (.int .i64 (T.frees + T.waits))).setCell ⟨t, 3, none⟩ (.int .i64 0)).heap[bk]? = _
      rw [setCell_other _ _ h.ne1.symm, setCell_other _ _ h.ne1.symm]
    exact (hK.congr fun i _ => by simp [Tal.keptAt, Tal.keep]).same e
end

end Go.Proofs.Ytnhabpbdpjgiiaa
