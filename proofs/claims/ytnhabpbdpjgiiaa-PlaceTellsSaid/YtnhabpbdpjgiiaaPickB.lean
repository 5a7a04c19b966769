/- Package pick: Room, Done, Ask. -/
import Derived.Test.YtnhabpbdpjgiiaaPickA
import Derived.Test.YtnhabpbdpjgiiaaQ
namespace Go.Proofs.Ytnhabpbdpjgiiaa
open Go.RowKit

def roomI (T : Tal) (first : Nat) : Int := (T.frees : Int) - (cnt first T.free : Int)

theorem cnt_step (k : Nat) (p : Nat → Bool) : cnt (k + 1) p = cnt k p + (if p k then 1 else 0) := rfl

theorem freeB_nat {T : Tal} {k : Nat} (h : k < T.n) : freeB T (k : Int) = T.free k := by
  have : hasB T (k : Int) = true := (hasB_iff T k).2 (by omega)
  simp [freeB, this]

set_option maxHeartbeats 400000 in
theorem room_at {w : World} {p t bc bk : Nat} {K : Pk} {T : Tal} (hp : PickAt w p t K) (h : TallyAt w t bc bk T) (hf : K.first ≤ T.n) :
    Calls Try.prog 29 #[.pointer (some ⟨p, 0, none⟩)] w fun e w' => e = .returned (.int .i64 (roomI T K.first)) ∧ w = w' := by
  have c0 := hp.c0
  have c1 := hp.c1
  have fl := h.frees_le
  have n2 := h.n2
  go_enter Try.func29, Try.ntmps29
  go_wp2_with (first | (go_at_call 34; refine (pnone_at hp).mono ?_; rintro e w' ⟨rfl, rfl⟩) | (go_at_call 51; refine (frees_at h).mono ?_; rintro e w' ⟨rfl, rfl⟩))
  go_loop [3, 16] (fun n i => ∃ k : Nat, k ≤ K.first ∧ i = .int .i64 k ∧ n = .int .i64 ((T.frees : Int) - (cnt k T.free : Int))) (fun _ i => K.first - (intOf i).toNat)
  case atStart => exact ⟨0, Nat.zero_le _, rfl, by simp [cnt]⟩
  case round =>
    obtain ⟨k, hk, rfl, rfl⟩ := hrel
    have hcl := cnt_le T.free k
    by_cases hlt : k < K.first
    · have hfr := freeB_nat (T := T) (k := k) (by omega)
      have Hst := Lib.hid (cnt_step k T.free)
      have Hfr := Lib.hid hfr
      clear hfr
      go_wp2_with (first | (go_at_call 35; refine (free_at h k).mono ?_; rintro e w' ⟨rfl, rfl⟩))
      · have hh : freeB T (k : Int) = true := by assumption
        have e : cnt (k + 1) T.free = cnt k T.free + 1 := by rw [Hst.out, ← Hfr.out, hh]; rfl
        refine ⟨⟨k + 1, by omega, by go_num, ?_⟩, by simp [intOf]; omega⟩
        rw [e]; congr 1; omega
      · have hh : freeB T (k : Int) = false := by assumption
        have e : cnt (k + 1) T.free = cnt k T.free := by rw [Hst.out, ← Hfr.out, hh]; rfl
        refine ⟨⟨k + 1, by omega, by go_num, ?_⟩, by simp [intOf]; omega⟩
        rw [e]
    · go_wp2_with fail
      go_ret
      obtain rfl : k = K.first := by omega
      exact ⟨rfl, rfl⟩

theorem cnt_mono (p : Nat → Bool) {a b : Nat} (h : a ≤ b) : cnt a p ≤ cnt b p := by
  induction b with
  | zero => obtain rfl : a = 0 := by omega
            exact Nat.le_refl _
  | succ b ih =>
    by_cases e : a = b + 1
    · subst e; exact Nat.le_refl _
    · have := ih (by omega)
      rw [cnt_step]; omega

theorem roomI_bd {T : Tal} {f : Nat} (hf : f ≤ T.n) : 0 ≤ roomI T f ∧ roomI T f ≤ T.n := by
  have h1 := cnt_mono T.free hf
  have h2 := cnt_le T.free T.n
  unfold roomI Tal.frees
  omega

/-! Ask, Done -/
def askE (T : Tal) (K : Pk) (n : Int) : Int := if n < 0 then 2 else if roomI T K.first - K.asked < n then 90 else 0
def doneE (K : Pk) (n : Int) : Int := if n < 0 then 2 else if (K.asked : Int) < n then 91 else 0
def askK (T : Tal) (K : Pk) (n : Int) : Pk := if askE T K n = 0 then { K with asked := K.asked + n.toNat } else K
def doneK (K : Pk) (n : Int) : Pk := if doneE K n = 0 then { K with asked := K.asked - n.toNat } else K

section
variable {w : World} {p t bc bk : Nat} {K : Pk} {T : Tal} (hp : PickAt w p t K) (h : TallyAt w t bc bk T)
include hp

theorem asked_set (v : Nat) : PickAt (w.setCell ⟨p, 3, none⟩ (.int .i64 (v : Int))) p t { K with asked := v } :=
  ⟨by rw [setCell_block hp.top]; rfl⟩
theorem next_set (v : Nat) : PickAt (w.setCell ⟨p, 2, none⟩ (.int .i64 (v : Int))) p t { K with next := v } :=
  ⟨by rw [setCell_block hp.top]; rfl⟩

end

end Go.Proofs.Ytnhabpbdpjgiiaa
