/- Layer 10: a statement's operation on blocks that are no pages'. -/
import Derived.Test.YtnhabpbdpjgiiaaPlP
import Derived.Test.YtnhabpbdpjgiiaaPlW
import Derived.Test.YtnhabpbdpjgiiaaPlZ
import Derived.Test.YtnhabpbdpjgiiaaOps10
namespace Go.Proofs.Ytnhabpbdpjgiiaa
open Go.RowKit
set_option linter.unusedVariables false
set_option linter.unusedSimpArgs false

/-- None of the first j kinds has the block. -/
def ownTo (A : Nat → Nat → Nat) (n : Nat → Nat) (j : Nat) (b : Int) : Prop := ∀ k, k < j → ∀ i, i < n k → ((A k i : Nat) : Int) ≠ b
theorem ownB_hit {A : Nat → Nat → Nat} {n : Nat → Nat} {b : Int} {k i : Nat} (hk : k < 2) (hi : i < n k) (e : ((A k i : Nat) : Int) = b) : ownB n A b = true := by
  unfold ownB
  rw [List.any_eq_true]
  refine ⟨A k i, ?_, by simpa using e⟩
  rw [List.mem_append]
  have hk2 : k = 0 ∨ k = 1 := by omega
  rcases hk2 with rfl | rfl
  · left; unfold atL; rw [List.mem_map]; exact ⟨i, by simpa using hi, rfl⟩
  · right; unfold atL; rw [List.mem_map]; exact ⟨i, by simpa using hi, rfl⟩
theorem ownB_miss {A : Nat → Nat → Nat} {n : Nat → Nat} {b : Int} (h : ownTo A n 2 b) : ownB n A b = false := by
  unfold ownB
  rw [List.any_eq_false]
  intro x hx
  rw [List.mem_append] at hx
  rcases hx with hx | hx
  all_goals
    unfold atL at hx
    rw [List.mem_map] at hx
    obtain ⟨i, hi, rfl⟩ := hx
    simp only [List.mem_range] at hi
    simp
  · exact h 0 (by omega) i hi
  · exact h 1 (by omega) i hi

theorem ShV.get {w : World} {v0 v1 : Value} {A : Nat → Nat → Nat} {n g c : Nat → Nat} (h : ShV w v0 v1 A n g c) {k i : Nat} (hk : k < 2) (hi : i < n k) : w.cell? ⟨g k, i, none⟩ = some (.int .i64 ((A k i : Nat) : Int)) := by
  rcases h.l k hk with ⟨hv, _⟩ | ⟨g', cap', hv, _, _, _, hc⟩
  · cases hv
  · injection hv with h1 h2 h3
    injection h1 with h1
    injection h1 with h1
    subst h1
    rw [hc i (by rw [atL_len]; exact hi), atL_get _ _ hi]
theorem ShV.cap {w : World} {v0 v1 : Value} {A : Nat → Nat → Nat} {n g c : Nat → Nat} (h : ShV w v0 v1 A n g c) {k : Nat} (hk : k < 2) : n k ≤ c k ∧ g k < w.heap.size := by
  rcases h.l k hk with ⟨hv, _⟩ | ⟨g', cap', hv, h1, _, h3, _⟩
  · cases hv
  · injection hv with e1 e2 e3
    injection e1 with e1
    injection e1 with e1
    subst e1 e3
    rw [atL_len] at h1
    exact ⟨h1, h3⟩

set_option maxRecDepth 20000 in
set_option maxHeartbeats 2000000 in
theorem own10_at {w : World} {xs t p : Nat} {A : Nat → Nat → Nat} {n g c : Nat → Nat} (top : w.heap[xs]? = some (.cells #[.pointer (some ⟨t, 0, none⟩), .pointer (some ⟨p, 0, none⟩), .slice (some ⟨g 0, 0, none⟩) (n 0) (c 0), .slice (some ⟨g 1, 0, none⟩) (n 1) (c 1)] 69 (0, 0)))
    (hs : ShV w (.slice (some ⟨g 0, 0, none⟩) (n 0) (c 0)) (.slice (some ⟨g 1, 0, none⟩) (n 1) (c 1)) A n g c) (hn : n 0 ≤ 4096 ∧ n 1 ≤ 4096) (b : Int) :
    Calls Try.prog 48 #[.pointer (some ⟨xs, 0, none⟩), .int .i64 b] w fun e w' => e = .returned (.bool (ownB n A b)) ∧ ∃ m, w' = w.drewN m := by
  have n0 := hn.1
  have n1 := hn.2
  have x0 := cell_of_block top 0
  have x1 := cell_of_block top 1
  have x2 := cell_of_block top 2
  have x3 := cell_of_block top 3
  simp only [List.getElem?_toArray, List.getElem?_cons_zero, List.getElem?_cons_succ] at x0 x1 x2 x3
  have HS := Lib.hid hs
  clear top hs hn
  go_enter Try.func48, Try.ntmps48
  go_wp2_with fail
  go_quiet (fail)
  clear x0 x1 x2 x3
  go_wp2_with fail
  go_loop [20] (fun s => ∃ j : Nat, j ≤ 2 ∧ s = .int .i64 (j : Int) ∧ Hid (ownTo A n j b)) (fun s => 2 - (intOf s).toNat)
  case atStart => exact ⟨0, by omega, rfl, fun j hj => by omega⟩
  case round =>
    obtain ⟨j, hj, rfl, hH⟩ := hrel
    have hj3 : j = 0 ∨ j = 1 ∨ j = 2 := by omega
    have ix0 := fun w => idx0 (n 0) (c 0) (n 1) (c 1) (some ⟨g 0, 0, none⟩) (some ⟨g 1, 0, none⟩) w
    have ix1 := fun w => idx1 (n 0) (c 0) (n 1) (c 1) (some ⟨g 0, 0, none⟩) (some ⟨g 1, 0, none⟩) w
    rcases hj3 with rfl | rfl | rfl
    · rw [show (((0 : Nat)) : Int) = 0 from rfl]
      go_wp2_with fail
      go_loop [25] (fun s => ∃ m : Nat, m ≤ n 0 ∧ s = .int .i64 (m : Int) ∧ Hid (∀ i, i < m → ((A 0 i : Nat) : Int) ≠ b)) (fun s => n 0 - (intOf s).toNat)
      case atStart => exact ⟨0, Nat.zero_le _, rfl, fun i hi => by omega⟩
      case round =>
        obtain ⟨m, hm, rfl, hM⟩ := hrel
        by_cases hlt : m < n 0
        · have hc := HS.out.get (k := 0) (by omega) hlt
          by_cases he : ((A 0 m : Nat) : Int) = b
          · have HE := Lib.hid (ownB_hit (by omega) hlt he)
            have hb : (((A 0 m : Nat) : Int) == b) = true := by simpa using he
            clear he
            generalize A 0 m = q at *
            go_wp2_with fail
            go_ret
            exact ⟨by rw [HE.out] <;> rfl, _, rfl⟩
          · have HE := Lib.hid he
            have hb : (((A 0 m : Nat) : Int) == b) = false := by simpa using he
            clear he
            generalize hq : A 0 m = q at *
            have HQ := Lib.hid hq
            clear hq
            go_wp2_with fail
            go_round
            case rel => exact ⟨m + 1, by omega, by go_num, fun i hi => by
              by_cases e : i = m
              · subst e; rw [HQ.out]; exact HE.out
              · exact hM.out i (by omega)⟩
            case measure => simp [intOf]; omega
        · obtain rfl : m = n 0 := by omega
          go_wp2_with fail
          go_round
          case rel => exact ⟨1, by omega, by go_num, fun k hk i hi => by
            obtain rfl : k = 0 := by omega
            exact hM.out i hi⟩
          case measure => simp [intOf]
    · rw [show (((1 : Nat)) : Int) = 1 from rfl]
      go_wp2_with fail
      go_loop [25] (fun s => ∃ m : Nat, m ≤ n 1 ∧ s = .int .i64 (m : Int) ∧ Hid (∀ i, i < m → ((A 1 i : Nat) : Int) ≠ b)) (fun s => n 1 - (intOf s).toNat)
      case atStart => exact ⟨0, Nat.zero_le _, rfl, fun i hi => by omega⟩
      case round =>
        obtain ⟨m, hm, rfl, hM⟩ := hrel
        by_cases hlt : m < n 1
        · have hc := HS.out.get (k := 1) (by omega) hlt
          by_cases he : ((A 1 m : Nat) : Int) = b
          · have HE := Lib.hid (ownB_hit (by omega) hlt he)
            have hb : (((A 1 m : Nat) : Int) == b) = true := by simpa using he
            clear he
            generalize A 1 m = q at *
            go_wp2_with fail
            go_ret
            exact ⟨by rw [HE.out] <;> rfl, _, rfl⟩
          · have HE := Lib.hid he
            have hb : (((A 1 m : Nat) : Int) == b) = false := by simpa using he
            clear he
            generalize hq : A 1 m = q at *
            have HQ := Lib.hid hq
            clear hq
            go_wp2_with fail
            go_round
            case rel => exact ⟨m + 1, by omega, by go_num, fun i hi => by
              by_cases e : i = m
              · subst e; rw [HQ.out]; exact HE.out
              · exact hM.out i (by omega)⟩
            case measure => simp [intOf]; omega
        · obtain rfl : m = n 1 := by omega
          go_wp2_with fail
          go_round
          case rel => exact ⟨2, by omega, by go_num, fun k hk i hi => by
            by_cases e : k < 1
            · exact hH.out k e i hi
            · obtain rfl : k = 1 := by omega
              exact hM.out i hi⟩
          case measure => simp [intOf]
    · have HE := Lib.hid (ownB_miss hH.out)
      go_wp2_with fail
      go_ret
      exact ⟨by rw [HE.out] <;> rfl, _, rfl⟩

/-- A stage whose pages are its own. -/
structure StO (w : World) (xs p t bc bk : Nat) (K : Pk) (T : Tal) (g c : Nat → Nat) (A : Nat → Nat → Nat) (n : Nat → Nat) (N : Nat) : Prop where
  st : StageAt w xs p t bc bk K T g c A n
  own : Own T n A
  f : K.first = 2
  n : T.n = N
theorem StO.chg {w w' : World} {xs p t bc bk : Nat} {K : Pk} {T : Tal} {g c : Nat → Nat} {A : Nat → Nat → Nat} {n : Nat → Nat} {N : Nat} (h : StO w xs p t bc bk K T g c A n N) (C : Chg [] w w') : StO w' xs p t bc bk K T g c A n N := ⟨h.st.chg C, h.own, h.f, h.n⟩
theorem StO.turn {w w' : World} {xs p t bc bk : Nat} {K K' : Pk} {T T' : Tal} {g c : Nat → Nat} {A : Nat → Nat → Nat} {n : Nat → Nat} {N : Nat} (h : StO w xs p t bc bk K T g c A n N) (hp : PT w' p t bc bk K' T') (ho : Own T' n A) (C : Chg [p, t, bc, bk] w w') (hf : K'.first = K.first) (hn : T'.n = T.n) : StO w' xs p t bc bk K' T' g c A n N :=
  ⟨h.st.turn hp ho.ok C, ho, hf.trans h.f, hn.trans h.n⟩

/-- Behind an operation. -/
def DoneR10 (w : World) (xs p t bc bk : Nat) (g c : Nat → Nat) (A : Nat → Nat → Nat) (n : Nat → Nat) (N : Nat) (e : Ending) (w' : World) : Prop :=
  ∃ K T, e = .returned (.tuple #[]) ∧ StO w' xs p t bc bk K T g c A n N ∧ Chg [p, t, bc, bk] w w'

set_option maxRecDepth 20000 in
set_option maxHeartbeats 4000000 in
theorem done10_at {w : World} {xs p t bc bk : Nat} {K : Pk} {T : Tal} {g c : Nat → Nat} {A : Nat → Nat → Nat} {n : Nat → Nat} {N : Nat} (H : StO w xs p t bc bk K T g c A n N) (hN : 16 ≤ N ∧ N ≤ 400) {d B : Int} (hd : 0 ≤ d ∧ d ≤ 255) (hB : -9223372036854775808 ≤ B ∧ B ≤ 9223372036854775807) :
    Calls Try.prog 27 #[.pointer (some ⟨xs, 0, none⟩), .agg #[.int .u8 d, .int .i64 B]] w (DoneR10 w xs p t bc bk g c A n N) := by
  have hN1 := hN.1
  have hN2 := hN.2
  obtain ⟨hd0, hd1⟩ := hd
  obtain ⟨hB0, hB1⟩ := hB
  have h0n : n 0 ≤ 4096 ∧ n 1 ≤ 4096 := by
    have a := H.st.ok.n0
    have b := H.st.ok.n1
    rw [H.n] at a b
    unfold pg at a b
    omega
  -- the block
  obtain ⟨m, hm⟩ : ∃ m, B.tmod ((N : Int) - 2) = m := ⟨_, rfl⟩
  have hm1 : -((N : Int) - 2) < m ∧ m < (N : Int) - 2 := by
    have a := Int.tmod_lt_of_pos B (show 0 < (N : Int) - 2 by omega)
    have b := Int.lt_tmod_of_pos B (show 0 < (N : Int) - 2 by omega)
    omega
  obtain ⟨q, hq⟩ : ∃ q : Nat, (m + (N : Int) - 2) % ((N : Int) - 2) = (q : Int) := Int.eq_ofNat_of_zero_le (Int.emod_nonneg _ (by omega))
  have hq1 : (q : Int) < (N : Int) - 2 := by rw [← hq]; exact Int.emod_lt_of_pos _ (by omega)
  obtain ⟨hm2, hm3⟩ := hm1
  -- the operation's box
  have hbx := new_block w (.cells #[.int .u8 d, .int .i64 B] 45)
  have hcx := (Chg.refl [] w).alloc (.cells #[.int .u8 d, .int .i64 B] 45)
  have HX := Lib.hid (H.chg hcx)
  have HB := Lib.hid hbx
  have HCX := Lib.hid hcx
  have HH0 := Lib.hid h0n
  clear hbx hcx H h0n
  go_enter Try.func27, Try.ntmps27
  go_upto_region 1 with fail
  generalize w.alloc (.cells #[.int .u8 d, .int .i64 B] 45) = w1 at *
  have xt := HX.out.st.top
  have xb := HB.out
  have x0 := cell_of_block xt 0
  have x1 := cell_of_block xt 1
  have x2 := cell_of_block xt 2
  have x3 := cell_of_block xt 3
  simp only [List.getElem?_toArray, List.getElem?_cons_zero, List.getElem?_cons_succ] at x0 x1 x2 x3
  have z0 := cell_of_block xb 0
  have z1 := cell_of_block xb 1
  simp only [List.getElem?_toArray, List.getElem?_cons_zero, List.getElem?_cons_succ] at z0 z1
  clear xt xb
  have cB := blocks_at HX.out.st.pt.ht
  rw [HX.out.n] at cB
  have cR := PT.room HX.out.st.pt
  rw [HX.out.f] at cR
  have cN := need_at (n := N) w1 (by omega) (by omega)
  have cG := get_at HX.out.st.pt.ht (2 + (q : Int))
  have cO := own10_at HX.out.st.top HX.out.st.sh HH0.out (2 + (q : Int))
  have HcR := Lib.hid cR
  have HcN := Lib.hid cN
  have HcG := Lib.hid cG
  have HcO := Lib.hid cO
  clear cR cN cG cO
  go_wp2_with fail
  refine cB.mono ?_
  clear cB
  rintro e w' ⟨rfl, rfl⟩
  have HCB := Lib.hid (show ∀ i, i ∈ [p, t, bc, bk] → i ∈ [p, t, bc, bk] ∨ w.heap.size ≤ i from fun i hi => .inl hi)
  have hmod : d % 5 = 0 ∨ d % 5 = 1 ∨ d % 5 = 2 ∨ (d % 5 ≠ 0 ∧ d % 5 ≠ 1 ∧ d % 5 ≠ 2) := by omega
  rcases hmod with hm5 | hm5 | hm5 | hm5
  · have d0 : (d % 5 == 0) = true := by simp; omega
    have d1 : (d % 5 == 1) = false := by simp; omega
    have d2 : (d % 5 == 2) = false := by simp; omega
    clear hm5
    by_cases hrm : (needN N : Int) < roomI T 2
    · have b1 : decide ((needN N : Int) < roomI T 2) = true := by simpa using hrm
      have HTK := Lib.hid (all_take HX.out.st.pt (by rw [HX.out.f]; omega))
      clear hrm
      go_wp2_with fail
      refine HcR.out.mono ?_
      rintro e w' ⟨rfl, rfl⟩
      go_wp2_with fail
      refine HcN.out.mono ?_
      rintro e w' ⟨rfl, rfl⟩
      go_wp2_with fail
      obtain ⟨bb, k1, k2, k3, k4, k5, k6⟩ := HTK.out
      refine k6.mono ?_
      clear k6
      rintro e w2 ⟨rfl, hP2, hC2⟩
      have HE := Lib.hid (HX.out.turn hP2 (HX.out.own.take k3) hC2 k5 rfl)
      have HC2 := Lib.hid ((HCX.out.mono (by simp)).trans hC2)
      clear hP2 hC2 k1 k2 k3 k4 k5
      go_wp2_with fail
      go_end0
      exact ⟨_, _, rfl, HE.out, HC2.out⟩
    · have b1 : decide ((needN N : Int) < roomI T 2) = false := by simpa using hrm
      clear hrm
      go_wp2_with fail
      refine HcR.out.mono ?_
      rintro e w' ⟨rfl, rfl⟩
      go_wp2_with fail
      refine HcN.out.mono ?_
      rintro e w' ⟨rfl, rfl⟩
      go_wp2_with fail
      go_end0
      exact ⟨_, _, rfl, HX.out, HCX.out.mono (by simp)⟩
  · have d0 : (d % 5 == 0) = false := by simp; omega
    have d1 : (d % 5 == 1) = true := by simp; omega
    have d2 : (d % 5 == 2) = false := by simp; omega
    clear hm5
    have hq2 : (2 + (q : Int)) = ((2 + q : Nat) : Int) := by omega
    have HQ2 := Lib.hid hq2
    clear hq2
    by_cases hg : 0 < getV T (2 + (q : Int))
    · have b1 : decide (0 < getV T (2 + (q : Int))) = true := by simpa using hg
      clear hg
      cases hob : ownB n A (2 + (q : Int)) with
      | true =>
        have HOB := Lib.hid hob
        clear hob
        go_wp2_with fail
        refine HcG.out.mono ?_
        rintro e w' ⟨rfl, rfl⟩
        go_wp2_with fail
        refine HcO.out.mono ?_
        rw [HOB.out]
        rintro e w' ⟨rfl, mm, rfl⟩
        go_wp2_with fail
        go_end0
        exact ⟨_, _, rfl, HX.out.chg ((Chg.refl [] _).drewN mm), (HCX.out.drewN mm).mono (by simp)⟩
      | false =>
        have HOB := Lib.hid hob
        clear hob
        go_wp2_with fail
        refine HcG.out.mono ?_
        rintro e w' ⟨rfl, rfl⟩
        go_wp2_with fail
        refine HcO.out.mono ?_
        rw [HOB.out]
        rintro e w' ⟨rfl, mm, rfl⟩
        have HX2 := Lib.hid (HX.out.chg ((Chg.refl [] w1).drewN mm))
        have HCX2 := Lib.hid (HCX.out.drewN mm)
        have y0 : (w1.drewN mm).cell? ⟨xs, 0, none⟩ = _ := x0
        clear x0 x1 x2 x3 z0 z1
        generalize w1.drewN mm = w2 at *
        go_wp2_with fail
        refine (PT.up HX2.out.st.pt (2 + (q : Int))).mono ?_
        rintro e w3 ⟨rfl, hP3, hC3⟩
        have hoo := HX2.out.own.ups (b := 2 + q) (ownB_false (by rw [← HQ2.out]; exact HOB.out))
        rw [← HQ2.out] at hoo
        have HE := Lib.hid (HX2.out.turn hP3 hoo hC3 rfl (up_n _ _))
        have HC3 := Lib.hid ((HCX2.out.mono (by simp)).trans hC3)
        clear hP3 hC3 hoo
        go_wp2_with fail
        go_end0
        exact ⟨_, _, rfl, HE.out, HC3.out⟩
    · have b1 : decide (0 < getV T (2 + (q : Int))) = false := by simpa using hg
      clear hg
      go_wp2_with fail
      refine HcG.out.mono ?_
      rintro e w' ⟨rfl, rfl⟩
      go_wp2_with fail
      go_end0
      exact ⟨_, _, rfl, HX.out, HCX.out.mono (by simp)⟩
  · have d0 : (d % 5 == 0) = false := by simp; omega
    have d1 : (d % 5 == 1) = false := by simp; omega
    have d2 : (d % 5 == 2) = true := by simp; omega
    clear hm5
    have hq2 : (2 + (q : Int)) = ((2 + q : Nat) : Int) := by omega
    have HQ2 := Lib.hid hq2
    clear hq2
    cases hob : ownB n A (2 + (q : Int)) with
    | true =>
      have HOB := Lib.hid hob
      clear hob
      go_wp2_with fail
      refine HcO.out.mono ?_
      rw [HOB.out]
      rintro e w' ⟨rfl, mm, rfl⟩
      go_wp2_with fail
      go_end0
      exact ⟨_, _, rfl, HX.out.chg ((Chg.refl [] _).drewN mm), (HCX.out.drewN mm).mono (by simp)⟩
    | false =>
      have HOB := Lib.hid hob
      clear hob
      go_wp2_with fail
      refine HcO.out.mono ?_
      rw [HOB.out]
      rintro e w' ⟨rfl, mm, rfl⟩
      have HX2 := Lib.hid (HX.out.chg ((Chg.refl [] w1).drewN mm))
      have HCX2 := Lib.hid (HCX.out.drewN mm)
      have y0 : (w1.drewN mm).cell? ⟨xs, 0, none⟩ = _ := x0
      clear x0 x1 x2 x3 z0 z1
      generalize w1.drewN mm = w2 at *
      go_wp2_with fail
      refine (PT.down HX2.out.st.pt (2 + (q : Int))).mono ?_
      rintro e w3 ⟨rfl, hP3, hC3⟩
      have hoo := HX2.out.own.downs (b := 2 + q) (ownB_false (by rw [← HQ2.out]; exact HOB.out))
      rw [← HQ2.out] at hoo
      have HE := Lib.hid (HX2.out.turn hP3 hoo hC3 rfl (down_n _ _))
      have HC3 := Lib.hid ((HCX2.out.mono (by simp)).trans hC3)
      clear hP3 hC3 hoo
      go_wp2_with fail
      go_end0
      exact ⟨_, _, rfl, HE.out, HC3.out⟩
  · have d0 : (d % 5 == 0) = false := by simp; omega
    have d1 : (d % 5 == 1) = false := by simp; omega
    have d2 : (d % 5 == 2) = false := by simp; omega
    clear hm5
    go_wp2_with fail
    go_end0
    exact ⟨_, _, rfl, HX.out, HCX.out.mono (by simp)⟩

end Go.Proofs.Ytnhabpbdpjgiiaa
