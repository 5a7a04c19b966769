/- Package base: a base that is none (nil, or one that Open did not answer). · Package super: Pick of two blocks of which none is a super that counts. · Package base: Open of what is no disk, and of a disk that was never formatted. -/
import Derived.Test.YtkhcaclndepgbaaGreatZc28
import Derived.Test.YtkhcaclndepgbaaGreatZc12
import Derived.Test.YtkhcaclndepgbaaGreatZc33
set_option linter.unusedVariables false
set_option linter.unusedSimpArgs false
set_option maxRecDepth 100000
set_option maxHeartbeats 20000000
namespace Go.Proofs.YtkhcaclndepgbaaGreat
open Go.RowKit
def NoB (w : World) (p : Option Addr) : Prop := p = none ∨ ∃ b, p = some ⟨b, 0, none⟩ ∧ w.cell? ⟨b, 1, none⟩ = some (.pointer none)
theorem NoB.chg {L : List Nat} {w w' : World} {p : Option Addr} (h : NoB w p) (c : Chg L w w') (hL : ∀ b, p = some b → b.block ∉ L) : NoB w' p := by
 rcases h with h | ⟨b, rfl, hb⟩
 ·exact .inl h
 ·exact .inr ⟨b, rfl, (c.cell (p := ⟨b, 1, none⟩) (World.block_lt_of_cell? w _ hb) (hL ⟨b, 0, none⟩ rfl)).trans hb⟩
section
variable {w : World} {p : Option Addr} (h : NoB w p)
include h
theorem noB_none : Calls Tryz.prog 74 #[.pointer p] w fun e w' => e = .returned (.bool true) ∧ w = w' := by
 rcases h with rfl | ⟨b, rfl, c1⟩
 ·go_enter Tryz.func74, Tryz.ntmps74
  go_wp2_with fail
  go_ret
  exact ⟨rfl, rfl⟩
 ·go_enter Tryz.func74, Tryz.ntmps74
  go_wp2_with fail
  go_ret
  exact ⟨rfl, rfl⟩
theorem noB_may : Calls Tryz.prog 76 #[.pointer p] w fun e w' => e = .returned (.int .i64 1) ∧ w = w' := by
 have cn := noB_none h
 clear h
 go_enter Tryz.func76, Tryz.ntmps76
 go_wp2_with fail
 refine (cn).mono ?_
 rintro e w' ⟨rfl, rfl⟩
 go_wp2_with fail
 go_ret
 exact ⟨rfl, rfl⟩
theorem noB_blocks : Calls Tryz.prog 20 #[.pointer p] w fun e w' => e = .returned (.int .i64 0) ∧ w = w' := by
 have cn := noB_none h
 clear h
 go_enter Tryz.func20, Tryz.ntmps20
 go_wp2_with fail
 refine (cn).mono ?_
 rintro e w' ⟨rfl, rfl⟩
 go_wp2_with fail
 go_ret
 exact ⟨rfl, rfl⟩
theorem noB_gen : Calls Tryz.prog 34 #[.pointer p] w fun e w' => e = .returned (.int .u64 0) ∧ w = w' := by
 have cn := noB_none h
 clear h
 go_enter Tryz.func34, Tryz.ntmps34
 go_wp2_with fail
 refine (cn).mono ?_
 rintro e w' ⟨rfl, rfl⟩
 go_wp2_with fail
 go_ret
 exact ⟨rfl, rfl⟩
theorem noB_room : Calls Tryz.prog 16 #[.pointer p] w fun e w' => e = .returned (.int .i64 0) ∧ w = w' := by
 have cn := noB_none h
 clear h
 go_enter Tryz.func16, Tryz.ntmps16
 go_wp2_with fail
 refine (cn).mono ?_
 rintro e w' ⟨rfl, rfl⟩
 go_wp2_with fail
 go_ret
 exact ⟨rfl, rfl⟩
theorem noB_waits : Calls Tryz.prog 24 #[.pointer p] w fun e w' => e = .returned (.int .i64 0) ∧ w = w' := by
 have cn := noB_none h
 clear h
 go_enter Tryz.func24, Tryz.ntmps24
 go_wp2_with fail
 refine (cn).mono ?_
 rintro e w' ⟨rfl, rfl⟩
 go_wp2_with fail
 go_ret
 exact ⟨rfl, rfl⟩
theorem noB_broken : Calls Tryz.prog 33 #[.pointer p] w fun e w' => e = .returned (.bool false) ∧ w = w' := by
 have cn := noB_none h
 clear h
 go_enter Tryz.func33, Tryz.ntmps33
 go_wp2_with fail
 refine (cn).mono ?_
 rintro e w' ⟨rfl, rfl⟩
 go_wp2_with fail
 go_ret
 exact ⟨rfl, rfl⟩
theorem noB_count (x : Int) : Calls Tryz.prog 22 #[.pointer p, .int .i64 x] w fun e w' => e = .returned (.int .i64 0) ∧ w = w' := by
 have cn := noB_none h
 clear h
 go_enter Tryz.func22, Tryz.ntmps22
 go_wp2_with fail
 refine (cn).mono ?_
 rintro e w' ⟨rfl, rfl⟩
 go_wp2_with fail
 go_ret
 exact ⟨rfl, rfl⟩
theorem noB_fresh (x : Int) : Calls Tryz.prog 32 #[.pointer p, .int .i64 x] w fun e w' => e = .returned (.bool false) ∧ w = w' := by
 have cn := noB_none h
 clear h
 go_enter Tryz.func32, Tryz.ntmps32
 go_wp2_with fail
 refine (cn).mono ?_
 rintro e w' ⟨rfl, rfl⟩
 go_wp2_with fail
 go_ret
 exact ⟨rfl, rfl⟩
theorem noB_commit : Calls Tryz.prog 19 #[.pointer p] w fun e w' => e = .returned (.int .i64 1) ∧ w = w' := by
 have cn := noB_may h
 clear h
 go_enter Tryz.func19, Tryz.ntmps19
 go_wp2_with fail
 refine (cn).mono ?_
 rintro e w' ⟨rfl, rfl⟩
 go_wp2_with fail
 go_ret
 exact ⟨rfl, rfl⟩
theorem noB_back : Calls Tryz.prog 31 #[.pointer p] w fun e w' => e = .returned (.int .i64 1) ∧ w = w' := by
 have cn := noB_may h
 clear h
 go_enter Tryz.func31, Tryz.ntmps31
 go_wp2_with fail
 refine (cn).mono ?_
 rintro e w' ⟨rfl, rfl⟩
 go_wp2_with fail
 go_ret
 exact ⟨rfl, rfl⟩
theorem noB_up (x : Int) : Calls Tryz.prog 28 #[.pointer p, .int .i64 x] w fun e w' => e = .returned (.int .i64 1) ∧ w = w' := by
 have cn := noB_may h
 clear h
 go_enter Tryz.func28, Tryz.ntmps28
 go_wp2_with fail
 refine (cn).mono ?_
 rintro e w' ⟨rfl, rfl⟩
 go_wp2_with fail
 go_ret
 exact ⟨rfl, rfl⟩
theorem noB_down (x : Int) : Calls Tryz.prog 23 #[.pointer p, .int .i64 x] w fun e w' => e = .returned (.int .i64 1) ∧ w = w' := by
 have cn := noB_may h
 clear h
 go_enter Tryz.func23, Tryz.ntmps23
 go_wp2_with fail
 refine (cn).mono ?_
 rintro e w' ⟨rfl, rfl⟩
 go_wp2_with fail
 go_ret
 exact ⟨rfl, rfl⟩
theorem noB_put (v : Value) : Calls Tryz.prog 17 #[.pointer p, v] w fun e w' => e = .returned (.tuple #[.int .i64 0, .int .i64 1]) ∧ w = w' := by
 have cn := noB_may h
 clear h
 go_enter Tryz.func17, Tryz.ntmps17
 go_wp2_with fail
 refine (cn).mono ?_
 rintro e w' ⟨rfl, rfl⟩
 go_wp2_with fail
 go_ret2
 exact ⟨rfl, rfl⟩
theorem noB_read (x : Int) : Calls Tryz.prog 26 #[.pointer p, .int .i64 x] w fun e w' => e = .returned (.tuple #[.slice none 0 0, .int .i64 1]) ∧ w = w' := by
 have cn := noB_none h
 clear h
 go_enter Tryz.func26, Tryz.ntmps26
 go_wp2_with fail
 refine (cn).mono ?_
 rintro e w' ⟨rfl, rfl⟩
 go_wp2_with fail
 go_ret2
 exact ⟨rfl, rfl⟩
theorem noB_over (x : Int) (v : Value) : Calls Tryz.prog 27 #[.pointer p, .int .i64 x, v] w fun e w' => e = .returned (.int .i64 1) ∧ w = w' := by
 have cn := noB_may h
 clear h
 go_enter Tryz.func27, Tryz.ntmps27
 go_wp2_with fail
 refine (cn).mono ?_
 rintro e w' ⟨rfl, rfl⟩
 go_wp2_with fail
 go_ret
 exact ⟨rfl, rfl⟩
theorem noB_setRoot (i : Int) (x : Int) : Calls Tryz.prog 29 #[.pointer p, .int .i64 i, .int .i64 x] w fun e w' => e = .returned (.int .i64 1) ∧ w = w' := by
 have cn := noB_may h
 clear h
 go_enter Tryz.func29, Tryz.ntmps29
 go_wp2_with fail
 refine (cn).mono ?_
 rintro e w' ⟨rfl, rfl⟩
 go_wp2_with fail
 go_ret
 exact ⟨rfl, rfl⟩
theorem noB_setMark (i : Int) (x : Int) : Calls Tryz.prog 30 #[.pointer p, .int .i64 i, .int .u64 x] w fun e w' => e = .returned (.int .i64 1) ∧ w = w' := by
 have cn := noB_may h
 clear h
 go_enter Tryz.func30, Tryz.ntmps30
 go_wp2_with fail
 refine (cn).mono ?_
 rintro e w' ⟨rfl, rfl⟩
 go_wp2_with fail
 go_ret
 exact ⟨rfl, rfl⟩
theorem noB_root (i : Int) : Calls Tryz.prog 35 #[.pointer p, .int .i64 i] w fun e w' => e = .returned (.int .i64 0) ∧ w = w' := by
 have cn := noB_none h
 clear h
 go_enter Tryz.func35, Tryz.ntmps35
 go_wp2_with fail
 refine (cn).mono ?_
 rintro e w' ⟨rfl, rfl⟩
 go_wp2_with fail
 go_ret
 exact ⟨rfl, rfl⟩
theorem noB_mark (i : Int) : Calls Tryz.prog 36 #[.pointer p, .int .i64 i] w fun e w' => e = .returned (.int .u64 0) ∧ w = w' := by
 have cn := noB_none h
 clear h
 go_enter Tryz.func36, Tryz.ntmps36
 go_wp2_with fail
 refine (cn).mono ?_
 rintro e w' ⟨rfl, rfl⟩
 go_wp2_with fail
 go_ret
 exact ⟨rfl, rfl⟩
end
end Go.Proofs.YtkhcaclndepgbaaGreat
namespace Go.Proofs.YtkhcaclndepgbaaGreat
open Go.RowKit
theorem suPick_none {w : World} {b0 b1 c0 c1 : Nat} {f : Nat → Nat → Nat} {o : Nat → Option Sup} (h0 : BytesAt w b0 0 128 (f 0)) (h1 : BytesAt w b1 0 128 (f 1)) (hc0 : 128 ≤ c0) (hc1 : 128 ≤ c1) (hm0 : c0 ≤ 9223372036854775807) (hm1 : c1 ≤ 9223372036854775807)
  (d0 : DecIs (f 0) (o 0)) (d1 : DecIs (f 1) (o 1)) (hg : (bestS o 2).gen = 0) :
  Calls Tryz.prog 98 #[.slice (some ⟨b0, 0, none⟩) 128 c0, .slice (some ⟨b1, 0, none⟩) 128 c1] w fun e w' => e = .returned (.tuple #[.agg supZ.row, .int .i64 0, .int .i64 60]) ∧ Chg [] w w' := by
 have k0 := new_block21 w (.cells zSup 49) (.cells zSup 49)
 have k1 := new_block2 w (.cells zSup 49) (.cells zSup 49)
 have hc := ((Chg.refl [] w).alloc (.cells zSup 49)).alloc (.cells zSup 49)
 obtain ⟨W0, hW0⟩ : ∃ W0, W0 = (w.alloc (.cells zSup 49)).alloc (.cells zSup 49) := ⟨_, rfl⟩
 rw [← hW0] at k0 k1 hc
 rw [← supZ_row] at k0 k1
 have hsz : W0.heap.size = w.heap.size + 2 := by rw [hW0]; simp
 have HK := Lib.hid (And.intro k0 (And.intro k1 (And.intro hc hsz)))
 have HB := Lib.hid (And.intro (h0.chg hc (by simp)) (h1.chg hc (by simp)))
 have hok : ∀ k, k < 2 → DecIs (f k) (o k) := fun k hk => match k, hk with | 0, _ => d0 | 1, _ => d1
 have HD := Lib.hid hok
 have HNE := Lib.hid (show b0 < w.heap.size ∧ b1 < w.heap.size from ⟨World.block_lt_of_cell? w ⟨b0, 0 + 0, none⟩ (h0 0 (by omega)).1, World.block_lt_of_cell? w ⟨b1, 0 + 0, none⟩ (h1 0 (by omega)).1⟩)
 have HG := Lib.hid hg
 unfold zSup at hW0
 clear k0 k1 hc hsz h0 h1 d0 d1 hok hg
 go_enter Tryz.func98, Tryz.ntmps98
 go_upto_region 2 with fail
 rw [← hW0]
 clear hW0
 obtain ⟨r, hr⟩ : ∃ r, r = w.heap.size := ⟨_, rfl⟩
 rw [← hr]
 have HR := Lib.hid hr
 clear hr
 go_wp2_with fail
 go_loopg [15] 2 (fun gg s wr => ∃ k : Nat, gg = 2 - k ∧ k ≤ 2 ∧ s = .int .i64 (k : Int) ∧ Hid (Chg [r + 1] W0 wr ∧ wr.heap[r + 1]? = some (.cells (bestS o k).row 49 (0, 0))))
 case atStart => exact ⟨0, rfl, Nat.zero_le _, by go_num, Lib.hid ⟨Chg.refl _ _, by rw [HR.out]; exact HK.out.2.1⟩⟩
 case round =>
  obtain ⟨k, hgg, hk2, rfl, hX⟩ := hrel
  by_cases hk : k < 2
  ·rcases (show k = 0 ∨ k = 1 by omega) with rfl | rfl
   ·have hbk := HB.out.1.chg hX.out.1 (by simp only [List.mem_singleton]; have := HNE.out; have := HR.out; omega)
    have hix := idx8_0 128 c0 128 c1 (some ⟨b0, 0, none⟩) (some ⟨b1, 0, none⟩) wr
    have cd := suDecode_any hbk hc0 hm0 (HD.out 0 (by omega))
    have CD := Lib.hid cd
    have HX := Lib.hid hX.out
    have hl1 : r + 1 < wr.heap.size := heap_lt hX.out.2
    clear cd hbk hX
    go_wp2_with fail
    refine CD.out.mono ?_
    rintro e w1 ⟨rfl, hc1'⟩
    have kX := new_block w1 (.cells zSup 49)
    have hcX := (Chg.refl [] w1).alloc (.cells zSup 49)
    rw [← supZ_row] at kX
    have kb := ((hc1'.trans hcX).block _ hl1 (by simp)).trans HX.out.2
    have HC0 := Lib.hid (And.intro kX (And.intro kb (HX.out.1.trans ((hc1'.trans hcX).mono (by simp)))))
    have hbl : r + 1 < w1.heap.size := Nat.lt_of_lt_of_le hl1 hc1'.size
    have hwl : wr.heap.size ≤ w1.heap.size := hc1'.size
    clear kX hcX kb hc1' CD hix
    have HC1 := Lib.hid (HC0.out)
    rw [supZ_row] at HC1
    unfold zSup at HC1
    go_upto_region 6 with (refine wpList_storeRow (t := 49) (T := 49) (b := w1.heap.size) (o := 0) (n := 18) (N := 18) (V := supZ.cellV) (U := ((o 0).getD supZ).cellV) rfl (.tmp 10) (.tmp 22) rfl rfl rfl ?_ (by omega) infoSup (fun i _ => Sup.cell_one _ i) ?_; exact HC0.out.1; intro W2 hr2 hc2; have H2 := Lib.hid (And.intro hr2 hc2); clear hr2 hc2)
    have hX2 := H2.out.1
    rw [laid_sup] at hX2
    have HC := Lib.hid (And.intro hX2 (And.intro ((H2.out.2.block (r + 1) (heap_lt HC0.out.2.1) (by simp only [List.mem_singleton]; omega)).trans HC0.out.2.1) (HC0.out.2.2.then H2.out.2 (fun q hq => by simp only [List.mem_singleton] at hq; subst hq; exact .inr (by have := HX.out.1.size; omega)))))
    clear hX2 H2 HC0 HC1
    obtain ⟨xb, hxb⟩ : ∃ xb, xb = w1.heap.size := ⟨_, rfl⟩
    rw [← hxb] at HC ⊢
    clear hxb HX hl1 hbl hwl
    cases ho : o 0 with
    | none =>
     simp only [ho, Option.isSome_none, Bool.false_eq_true, if_false]
     go_wp2_with fail
     go_roundg (2 - (0 + 1))
     case measure => omega
     case rel =>
      refine ⟨0 + 1, rfl, by omega, by go_num, Lib.hid ⟨HC.out.2.2, ?_⟩⟩
      rw [best_none ho]
      exact HC.out.2.1
    | some S =>
     have HOK := Lib.hid (HD.out 0 (by omega))
     rw [ho] at HOK HC
     have HSK := Lib.hid HOK.out.1
     clear HOK
     simp only [ho, Option.isSome_some, if_true]
     have g1 := Sup.cell HC.out.1 (i := 0) (by omega)
     have g2 := Sup.cell HC.out.2.1 (i := 0) (by omega)
     change W2.cell? ⟨xb, 0, none⟩ = some (.int .u64 (S.gen : Int)) at g1
     change W2.cell? ⟨r + 1, 0, none⟩ = some (.int .u64 ((bestS o 0).gen : Int)) at g2
     have cs := suSlot_at W2 S.gen HSK.out.gen.2
     obtain ⟨m, hm⟩ : ∃ m, m = S.gen % 2 := ⟨_, rfl⟩
     rw [← hm] at cs
     have HM := Lib.hid hm
     clear hm
     by_cases hp : m = 0
     ·subst hp
      go_wp2_with fail
      refine cs.mono ?_
      rintro e w' ⟨rfl, rfl⟩
      by_cases hlt : (bestS o 0).gen < S.gen
      ·have i1 : ((bestS o 0).gen : Int) < (S.gen : Int) := by omega
       have HLT := Lib.hid hlt
       clear hlt
       go_wp2_with (first
        | (refine wpList_loadSup (S := S) rfl (.tmp 10) rfl (k := xb) (o := 0) rfl (Sup.cells HC.out.1) ?_)
        | (refine wpList_storeRow (t := 49) (T := 49) (b := r + 1) (o := 0) (n := 18) (N := 18) (V := (bestS o 0).cellV) (U := S.cellV) rfl (.tmp 7) (.tmp 40) rfl rfl rfl HC.out.2.1 (by omega) infoSup (fun i _ => S.cell_one i) ?_; intro w9 hr9 hc9; have H9 := Lib.hid (And.intro hr9 hc9); clear hr9 hc9))
       go_roundg (2 - (0 + 1))
       case measure => omega
       case rel =>
        have h9 := H9.out.1
        rw [laid_sup] at h9
        refine ⟨0 + 1, rfl, by omega, by go_num, Lib.hid ⟨HC.out.2.2.trans H9.out.2, ?_⟩⟩
        rw [best_in ho HM.out.symm HLT.out]
        exact h9
      ·have i1 : ¬ ((bestS o 0).gen : Int) < (S.gen : Int) := by omega
       have HLT := Lib.hid hlt
       clear hlt
       go_wp2_with fail
       go_roundg (2 - (0 + 1))
       case measure => omega
       case rel =>
        refine ⟨0 + 1, rfl, by omega, by go_num, Lib.hid ⟨HC.out.2.2, ?_⟩⟩
        rw [best_out ho (fun q => HLT.out q.2)]
        exact HC.out.2.1
     ·have i0 : ¬ ((m : Int) = 0) := by omega
      have HP := Lib.hid hp
      clear hp
      go_wp2_with fail
      refine cs.mono ?_
      rintro e w' ⟨rfl, rfl⟩
      go_wp2_with fail
      go_roundg (2 - (0 + 1))
      case measure => omega
      case rel =>
       refine ⟨0 + 1, rfl, by omega, by go_num, Lib.hid ⟨HC.out.2.2, ?_⟩⟩
       rw [best_out ho (fun q => HP.out (HM.out.trans q.1))]
       exact HC.out.2.1
   ·have hbk := HB.out.2.chg hX.out.1 (by simp only [List.mem_singleton]; have := HNE.out; have := HR.out; omega)
    have hix := idx8_1 128 c0 128 c1 (some ⟨b0, 0, none⟩) (some ⟨b1, 0, none⟩) wr
    have cd := suDecode_any hbk hc1 hm1 (HD.out 1 (by omega))
    have CD := Lib.hid cd
    have HX := Lib.hid hX.out
    have hl1 : r + 1 < wr.heap.size := heap_lt hX.out.2
    clear cd hbk hX
    go_wp2_with fail
    refine CD.out.mono ?_
    rintro e w1 ⟨rfl, hc1'⟩
    have kX := new_block w1 (.cells zSup 49)
    have hcX := (Chg.refl [] w1).alloc (.cells zSup 49)
    rw [← supZ_row] at kX
    have kb := ((hc1'.trans hcX).block _ hl1 (by simp)).trans HX.out.2
    have HC0 := Lib.hid (And.intro kX (And.intro kb (HX.out.1.trans ((hc1'.trans hcX).mono (by simp)))))
    have hbl : r + 1 < w1.heap.size := Nat.lt_of_lt_of_le hl1 hc1'.size
    have hwl : wr.heap.size ≤ w1.heap.size := hc1'.size
    clear kX hcX kb hc1' CD hix
    have HC1 := Lib.hid (HC0.out)
    rw [supZ_row] at HC1
    unfold zSup at HC1
    go_upto_region 6 with (refine wpList_storeRow (t := 49) (T := 49) (b := w1.heap.size) (o := 0) (n := 18) (N := 18) (V := supZ.cellV) (U := ((o 1).getD supZ).cellV) rfl (.tmp 10) (.tmp 22) rfl rfl rfl ?_ (by omega) infoSup (fun i _ => Sup.cell_one _ i) ?_; exact HC0.out.1; intro W2 hr2 hc2; have H2 := Lib.hid (And.intro hr2 hc2); clear hr2 hc2)
    have hX2 := H2.out.1
    rw [laid_sup] at hX2
    have HC := Lib.hid (And.intro hX2 (And.intro ((H2.out.2.block (r + 1) (heap_lt HC0.out.2.1) (by simp only [List.mem_singleton]; omega)).trans HC0.out.2.1) (HC0.out.2.2.then H2.out.2 (fun q hq => by simp only [List.mem_singleton] at hq; subst hq; exact .inr (by have := HX.out.1.size; omega)))))
    clear hX2 H2 HC0 HC1
    obtain ⟨xb, hxb⟩ : ∃ xb, xb = w1.heap.size := ⟨_, rfl⟩
    rw [← hxb] at HC ⊢
    clear hxb HX hl1 hbl hwl
    cases ho : o 1 with
    | none =>
     simp only [ho, Option.isSome_none, Bool.false_eq_true, if_false]
     go_wp2_with fail
     go_roundg (2 - (1 + 1))
     case measure => omega
     case rel =>
      refine ⟨1 + 1, rfl, by omega, by go_num, Lib.hid ⟨HC.out.2.2, ?_⟩⟩
      rw [best_none ho]
      exact HC.out.2.1
    | some S =>
     have HOK := Lib.hid (HD.out 1 (by omega))
     rw [ho] at HOK HC
     have HSK := Lib.hid HOK.out.1
     clear HOK
     simp only [ho, Option.isSome_some, if_true]
     have g1 := Sup.cell HC.out.1 (i := 0) (by omega)
     have g2 := Sup.cell HC.out.2.1 (i := 0) (by omega)
     change W2.cell? ⟨xb, 0, none⟩ = some (.int .u64 (S.gen : Int)) at g1
     change W2.cell? ⟨r + 1, 0, none⟩ = some (.int .u64 ((bestS o 1).gen : Int)) at g2
     have cs := suSlot_at W2 S.gen HSK.out.gen.2
     obtain ⟨m, hm⟩ : ∃ m, m = S.gen % 2 := ⟨_, rfl⟩
     rw [← hm] at cs
     have HM := Lib.hid hm
     clear hm
     by_cases hp : m = 1
     ·subst hp
      go_wp2_with fail
      refine cs.mono ?_
      rintro e w' ⟨rfl, rfl⟩
      by_cases hlt : (bestS o 1).gen < S.gen
      ·have i1 : ((bestS o 1).gen : Int) < (S.gen : Int) := by omega
       have HLT := Lib.hid hlt
       clear hlt
       go_wp2_with (first
        | (refine wpList_loadSup (S := S) rfl (.tmp 10) rfl (k := xb) (o := 0) rfl (Sup.cells HC.out.1) ?_)
        | (refine wpList_storeRow (t := 49) (T := 49) (b := r + 1) (o := 0) (n := 18) (N := 18) (V := (bestS o 1).cellV) (U := S.cellV) rfl (.tmp 7) (.tmp 40) rfl rfl rfl HC.out.2.1 (by omega) infoSup (fun i _ => S.cell_one i) ?_; intro w9 hr9 hc9; have H9 := Lib.hid (And.intro hr9 hc9); clear hr9 hc9))
       go_roundg (2 - (1 + 1))
       case measure => omega
       case rel =>
        have h9 := H9.out.1
        rw [laid_sup] at h9
        refine ⟨1 + 1, rfl, by omega, by go_num, Lib.hid ⟨HC.out.2.2.trans H9.out.2, ?_⟩⟩
        rw [best_in ho HM.out.symm HLT.out]
        exact h9
      ·have i1 : ¬ ((bestS o 1).gen : Int) < (S.gen : Int) := by omega
       have HLT := Lib.hid hlt
       clear hlt
       go_wp2_with fail
       go_roundg (2 - (1 + 1))
       case measure => omega
       case rel =>
        refine ⟨1 + 1, rfl, by omega, by go_num, Lib.hid ⟨HC.out.2.2, ?_⟩⟩
        rw [best_out ho (fun q => HLT.out q.2)]
        exact HC.out.2.1
     ·have i0 : ¬ ((m : Int) = 1) := by omega
      have HP := Lib.hid hp
      clear hp
      go_wp2_with fail
      refine cs.mono ?_
      rintro e w' ⟨rfl, rfl⟩
      go_wp2_with fail
      go_roundg (2 - (1 + 1))
      case measure => omega
      case rel =>
       refine ⟨1 + 1, rfl, by omega, by go_num, Lib.hid ⟨HC.out.2.2, ?_⟩⟩
       rw [best_out ho (fun q => HP.out (HM.out.trans q.1))]
       exact HC.out.2.1
  ·obtain rfl : k = 2 := by omega
   have krA : wr.heap[r]? = some (.cells (fnRow 18 supZ.cellV) 49 (0, 0)) := (hX.out.1.block r (by have := HK.out; have := HR.out; omega) (by simp)).trans (by rw [HR.out]; exact HK.out.1)
   have g2 : wr.cell? ⟨r + 1, 0, none⟩ = some (.int .u64 0) := (Sup.cell hX.out.2 (i := 0) (by omega)).trans (by show some (Value.int .u64 ((bestS o 2).gen : Int)) = _; rw [HG.out]; rfl)
   have HBD := Lib.hid (show Tryz.prog.built 49 [] = some (fnRow 18 supZ.cellV) from by kernel_rfl)
   have HX := Lib.hid (And.intro krA hX.out.1)
   clear krA hX
   go_wp2_with (first
    | (refine wpList_built rfl 49 _ rfl (ps := _) ?hp HBD.out ?hk; case hp => (simp [Act.eval, Act.put]))
    | (refine wpList_storeRow (t := 49) (T := 49) (b := r) (o := 0) (n := 18) (N := 18) (V := supZ.cellV) (U := supZ.cellV) rfl (.tmp 4) (.tmp 45) rfl rfl rfl HX.out.1 (by omega) infoSup (fun i _ => supZ.cell_one i) ?_; intro w9 hr9 hc9; have H9 := Lib.hid (And.intro hr9 hc9); clear hr9 hc9))
   have hr9 := H9.out.1
   rw [laid_sup] at hr9
   refine bodyPost_ret (results_ctt (a := 4) (b := 5) (c := 6) (by kernel_rfl) rfl (load_sup (Sup.cells hr9))) rfl ⟨rfl, ?_⟩
   have hcW : Chg [r + 1, r] W0 w9 := (HX.out.2.mono (by simp)).trans (H9.out.2.mono (by simp))
   exact HK.out.2.2.1.then hcW (fun q hq => by simp only [List.mem_cons, List.not_mem_nil, or_false] at hq; have := HR.out; rcases hq with e | e <;> exact .inr (by omega))
end Go.Proofs.YtkhcaclndepgbaaGreat
namespace Go.Proofs.YtkhcaclndepgbaaGreat
open Go.RowKit
theorem baOpen_nil (w : World) : Calls Tryz.prog 38 #[.pointer none] w fun e w' => e = .returned (.tuple #[.pointer none, .int .i64 1]) ∧ w = w' := by
 have cl := dLen_nil (w := w)
 go_enter Tryz.func38, Tryz.ntmps38
 go_wp2_with fail
 refine (cl).mono ?_
 rintro e w' ⟨rfl, rfl⟩
 go_wp2_with fail
 go_ret2
 exact ⟨rfl, rfl⟩
theorem baFormat_nil (w : World) : Calls Tryz.prog 40 #[.pointer none] w fun e w' => e = .returned (.int .i64 1) ∧ w = w' := by
 have cl := dLen_nil (w := w)
 go_enter Tryz.func40, Tryz.ntmps40
 go_wp2_with fail
 refine (cl).mono ?_
 rintro e w' ⟨rfl, rfl⟩
 go_wp2_with fail
 go_ret
 exact ⟨rfl, rfl⟩
theorem baOpen_none {w : World} {d bb cap : Nat} {wv : Value} {D : Dk} (h : DiskRd w d bb cap wv D) (hn : 2 ≤ D.n) (h0 : D.rd 0 0 ≠ 6) (h1 : D.rd 1 0 ≠ 6) :
  Calls Tryz.prog 38 #[.pointer (some ⟨d, 0, none⟩)] w fun e w' => e = .returned (.tuple #[.pointer none, .int .i64 112]) ∧ Chg [] w w' := by
 have cl := rdLen_at h
 have cr0 := dRead_at (at' := 0) h (by omega)
 have H := Lib.hid h
 have CR0 := Lib.hid cr0
 have HO := Lib.hid (And.intro h0 h1)
 have i0 : ¬ ((D.n : Int) = 0) := by omega
 clear h cr0 h0 h1
 go_enter Tryz.func38, Tryz.ntmps38
 go_wp2_with fail
 refine (cl).mono ?_
 rintro e w' ⟨rfl, rfl⟩
 go_wp2_with fail
 refine CR0.out.mono ?_
 clear CR0 cl
 rintro e w1 ⟨rfl, hb1, hc1⟩
 have hh1 := H.out.chg hc1 (by simp) (by simp) (by simp)
 have cr1 := dRead_at (at' := 1) hh1 (by omega)
 have CR1 := Lib.hid cr1
 have HC1 := Lib.hid (And.intro hb1 hc1)
 clear hb1 hc1 hh1 cr1
 go_wp2_with fail
 refine CR1.out.mono ?_
 clear CR1
 rintro e w2 ⟨rfl, hb2, hc2⟩
 have hb12 := (hc2.block _ (heap_lt HC1.out.1) (by simp)).trans HC1.out.1
 have by0 : BytesAt w2 w.heap.size 0 128 (D.rd 0) := fun i hi => ⟨by rw [Nat.zero_add, cell_of_block hb12, u8s_get hi], H.out.rd_le (by omega) i hi⟩
 have by1 : BytesAt w2 w1.heap.size 0 128 (D.rd 1) := fun i hi => ⟨by rw [Nat.zero_add, cell_of_block hb2, u8s_get hi], H.out.rd_le (by omega) i hi⟩
 have cp := suPick_none (f := fun k => D.rd k) (o := fun _ => none) by0 by1 (Nat.le_refl _) (Nat.le_refl _) (by omega) (by omega) HO.out.1 HO.out.2 (by rw [best_none rfl, best_none rfl]; rfl)
 have CP := Lib.hid cp
 have HC2 := Lib.hid (HC1.out.2.trans hc2)
 clear hb2 hc2 hb12 by0 by1 cp HC1 HO
 go_wp2_with fail
 refine CP.out.mono ?_
 clear CP
 rintro e w3 ⟨rfl, hc3⟩
 have kx := new_block w3 (.cells zSup 49)
 have HC3 := Lib.hid (HC2.out.trans (hc3.alloc (.cells zSup 49)))
 have hs3 : w.heap.size ≤ w3.heap.size := (HC2.out.trans hc3).size
 rw [← supZ_row] at kx
 have HKX := Lib.hid kx
 rw [supZ_row] at HKX
 have HKX2 := Lib.hid kx
 unfold zSup at HKX HC3
 clear kx hc3
 go_wp2_with (refine wpList_storeRow (t := 49) (T := 49) (b := w3.heap.size) (o := 0) (n := 18) (N := 18) (V := supZ.cellV) (U := supZ.cellV) rfl (.tmp 9) (.tmp 46) rfl rfl rfl ?_ (by omega) infoSup (fun i _ => Sup.cell_one _ i) ?_; exact HKX2.out; intro W4 hr4 hc4; have H4 := Lib.hid (And.intro hr4 (HC3.out.then hc4 (fun q hq => by simp only [List.mem_singleton] at hq; subst hq; exact .inr hs3))); clear hr4 hc4)
 go_ret2
 exact ⟨rfl, H4.out.2⟩
end Go.Proofs.YtkhcaclndepgbaaGreat
