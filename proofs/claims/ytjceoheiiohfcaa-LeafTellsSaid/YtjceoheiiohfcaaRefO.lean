/- The reference of octets: Open. -/
import Derived.Test.YtjceoheiiohfcaaRefE
import Derived.Test.YtjceoheiiohfcaaQ
import Derived.Deep.RegionLawGrows
import Derived.Deep.RegionHeld3
namespace Go.Proofs.Ytjceoheiiohfcaa
open Go.RowKit
set_option linter.unusedVariables false
set_option linter.unusedSimpArgs false

set_option maxRecDepth 20000 in
set_option maxHeartbeats 1000000 in
theorem ropen_len {w : World} {a : Option Addr} {n cap : Nat} (hn : n ≠ 128) :
    Calls Try.prog 30 #[.slice a n cap] w fun e w' => e = .returned (.tuple #[.int .u8 0, .slice none 0 0, .int .i64 10]) ∧ Chg [] w w' := by
  have h : ((n : Int) != 128) = true := by simp; omega
  clear hn
  go_enter Try.func30, Try.ntmps30
  go_wp2_with fail
  go_quiet (fail)
  go_wp2_with fail
  go_ret3
  exact ⟨rfl, (Chg.refl _ _).drewN _⟩

/-- What the reference's Open answers of a page that is one. -/
def ROpen (w : World) (f : Nat → Nat) (e : Ending) (w' : World) : Prop :=
  ∃ g c, e = .returned (.tuple #[.int .u8 (f 0 : Int), .slice (some ⟨g, 0, none⟩) 123 c, .int .i64 0]) ∧ 123 ≤ c ∧ c ≤ maxLen ∧ w.heap.size ≤ g ∧ g < w'.heap.size ∧ BytesAt w' g 0 123 (fun i => f (1 + i)) ∧ Chg [] w w'

section
variable {w : World} {b off cap : Nat} {f : Nat → Nat} (h : BytesAt w b off 128 f) (hcap : 128 ≤ cap) (hN : cap ≤ 9223372036854775807)
include h hcap hN

set_option maxRecDepth 20000 in
set_option maxHeartbeats 2000000 in
theorem ropen_wrong (hp : ¬ pageOK f) :
    Calls Try.prog 30 #[.slice (some ⟨b, off, none⟩) 128 cap] w fun e w' => e = .returned (.tuple #[.int .u8 0, .slice none 0 0, .int .i64 10]) ∧ Chg [] w w' := by
  have hs := sumB_lt f 124
  have hnl : num f 124 4 < 4294967296 := num_lt (k := 4) fun i hi => (h (124 + i) (by omega)).2
  have hne : ((num f 124 4 : Int) != (sumB f 124 : Int)) = true := by
    simp
    intro e
    exact hp (by unfold pageOK; omega)
  have hS : BytesAt w b off 124 f := fun i hi => h i (by omega)
  have hG := h.sub (a := 124) (m := 4) (by omega)
  have cG := fun q => number_at (cap := cap - 124) (hG.chg (Chg.drewN (Chg.refl [] w) q) (by simp)) (by omega)
  rw [num_shift] at cG
  have cS := fun q => rsum_at (cap := cap) (hS.chg (Chg.drewN (Chg.refl [] w) q) (by simp)) (by omega)
  generalize num f 124 4 = X at *
  generalize sumB f 124 = Y at *
  have u1 : IntKind.u64.wrap (Y : Int) = (Y : Int) := by rw [IntKind.wrap_u64]; omega
  have a1 : (124 : Int) ≤ (cap : Int) := by omega
  have a2 : ¬ cap = 124 := by omega
  clear hS hG h hp
  go_enter Try.func30, Try.ntmps30
  go_wp2_with fail
  go_quiet ((first | (go_at_call 31; exact quiet_left (cG _)) | (go_at_call 38; exact quiet_left (cS _))))
  go_wp2_with fail
  go_ret3
  exact ⟨rfl, (Chg.refl _ _).drewN _⟩
set_option maxRecDepth 20000 in
set_option maxHeartbeats 4000000 in
theorem ropen_right (hp : pageOK f) :
    Calls Try.prog 30 #[.slice (some ⟨b, off, none⟩) 128 cap] w (ROpen w f) := by
  have hs := sumB_lt f 124
  have hS : BytesAt w b off 124 f := fun i hi => h i (by omega)
  have hG := h.sub (a := 124) (m := 4) (by omega)
  have cG := fun q => number_at (cap := cap - 124) (hG.chg (Chg.drewN (Chg.refl [] w) q) (by simp)) (by omega)
  rw [num_shift, show num f 124 4 = sumB f 124 from hp] at cG
  have cS := fun q => rsum_at (cap := cap) (hS.chg (Chg.drewN (Chg.refl [] w) q) (by simp)) (by omega)
  have HP := Lib.hid h
  generalize sumB f 124 = Y at *
  have u1 : IntKind.u64.wrap (Y : Int) = (Y : Int) := by rw [IntKind.wrap_u64]; omega
  have a1 : (124 : Int) ≤ (cap : Int) := by omega
  have a2 : ¬ cap = 124 := by omega
  have a3 : ¬ cap = 1 := by omega
  clear hS hG h hp
  go_enter Try.func30, Try.ntmps30
  go_wp2_with fail
  go_quiet ((first | (go_at_call 31; exact quiet_left (cG _)) | (go_at_call 38; exact quiet_left (cS _))))
  go_wp2_with fail
  have C1 := Lib.hid (Chg.drewN (Chg.refl [] w) nq)
  generalize w.drewN nq = w1 at *
  have hP1 := HP.out.chg C1.out (by simp)
  have hsub := hP1.sub (a := 1) (m := 123) (by omega)
  have x0 := (hP1 0 (by omega)).1
  rw [Nat.add_zero] at x0
  have lb := World.block_lt_of_cell? _ _ x0
  have HN := Lib.hid (fun (W : World) (c : Chg [] w1 W) => bytes_append (hsub.chg c (by simp)))
  have Hle := Lib.hid (fun i (hi : i < 123) => (hsub i hi).2)
  obtain ⟨i0, hi, hz0, hz1, hz2⟩ := info_parts infoU8
  have Hi := Lib.hid hi
  clear hi hP1 hsub cG cS u1 a2
  go_region_held3 (fun w' => w'.cell? ⟨b, off, none⟩ = some (.int .u8 (f 0 : Int))) (first | exact x0 | exact z0 | go_keep)
    ((refine step_append_grows rfl (.tmp 21) (.tmp 23) 25 rfl 5 i0 (.int .u8 0) 1 1 Try.underlying25 Hi.out hz0 hz1 hz2 rfl (by decide) _ 0 0 [] (by simp [Act.eval, Act.put]; rfl) (by simp) rfl (by simp) ⟨b, off + 1, none⟩ 123 (cap - 1) ((List.range 123).map fun i => .int .u8 (f (1 + i) : Int)) (by simp [Act.eval, Act.put]) (by simp) (HN.out _ (by repeat (first | exact Chg.refl _ _ | apply Chg.drew | apply Chg.alloc))) (by intro u hu; obtain ⟨a, _, rfl⟩ := List.mem_map.1 hu; rfl) (by omega) (by unfold maxLen; omega) (by omega) ?_; intro v' w2 hown hgrow; obtain ⟨g, c, cur, rfl, q1, q2, q3, q4, q5, q6⟩ := app_some' hown (by omega); have hk : Chg [] w1 w2 := (show Chg [] w1 _ by repeat (first | exact Chg.refl _ _ | apply Chg.drew | apply Chg.alloc)).grown hgrow (by simp); have z0 := (hk.cell (p := ⟨b, off, none⟩) lb (by simp)).trans x0; have HO := Lib.hid (And.intro q2 (And.intro q6 hk)); clear hown hgrow q2 q6 hk))
  all_goals
    go_wp2_with fail
    go_ret3
    have hlt := heap_lt HO.out.1
    have szw := C1.out.size
    refine ⟨g, c, rfl, q3, q4, ?_, hlt, fun i hi => ⟨?_, Hle.out i hi⟩, C1.out.trans HO.out.2.2⟩
    · refine Nat.le_trans szw (Nat.le_trans ?_ q1)
      first | exact Nat.le_refl _ | exact ((Chg.refl [] w1).drew).size | exact ((Chg.refl [] w1).alloc _).size | exact (((Chg.refl [] w1).drew).alloc _).size | exact (((Chg.refl [] w1).alloc _).drew).size
    · rw [cell_of_block HO.out.1, Nat.zero_add]
      have := congrArg (fun l => l[i]?) HO.out.2.1
      simp only [List.getElem?_take, if_pos hi, List.getElem?_map, List.getElem?_range hi, Option.map_some, Array.getElem?_toList] at this
      exact this
end

end Go.Proofs.Ytjceoheiiohfcaa
