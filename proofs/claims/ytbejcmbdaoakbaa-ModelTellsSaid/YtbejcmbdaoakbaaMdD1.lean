/- Model.Do, code by code. (Printed by mkmz.py.) -/
import Derived.Test.YtbejcmbdaoakbaaMdD0
namespace Go.Proofs.Ytbejcmbdaoakbaa
open Go.RowKit Go.Maps
set_option linter.unusedVariables false
set_option linter.unusedSimpArgs false

set_option maxRecDepth 20000 in
set_option maxHeartbeats 4000000 in
theorem do_1 {N : Nat} {L : List Nat} {w : World} {p vol pl n len cap : Nat} {a : Option Addr} {f : Nat → Nat} {S : St} (h : MdAt N L w p S) (hN : N ≤ 1000000) (hv : vol < 18446744073709551616) (hpl : pl < 18446744073709551616) (hn : n < 18446744073709551616) (hlen : len ≤ 9223372036854775807) (hB : BytesIn w a len cap f) :
    Calls Try.prog 12 #[.pointer (some ⟨p, 0, none⟩), opV 1 vol pl n (.slice a len cap)] w (DoneIf N L w p (wrongS S false false false false true vol pl n len) (S.made (.map [])) (⟨0, S.last + 1, 0, fun _ => 0, 0⟩) S) := by
  have HV := Lib.hid hv
  have HPL := Lib.hid hpl
  have HNL := Lib.hid (And.intro hn hlen)
  have HBI := Lib.hid hB
  have HLL := Lib.hid h.lastlt
  clear hv hpl hn hlen hB
  obtain ⟨mb, D, C, hp, M⟩ := h
  have cN := none_of hp
  unfold mdRow at hp
  unfold opV
  rw [show (((1 : Nat)) : Int) = 1 from rfl]
  have lp := heap_lt hp
  have hW : Chg [] w ((w.alloc (.cells #[.int .u8 1, .int .u64 (vol : Int), .int .u64 (pl : Int), .int .u64 (n : Int), .slice a len cap] 26)).alloc (.cells #[.int .i64 0, .int .u64 0, .slice none 0 0, .int .i64 0] 32)) := ((Chg.refl [] w).alloc _).alloc _
  have hP := (hW.block p lp (by simp)).trans hp
  have hO := new_block21 w (.cells #[.int .u8 1, .int .u64 (vol : Int), .int .u64 (pl : Int), .int .u64 (n : Int), .slice a len cap] 26) (.cells #[.int .i64 0, .int .u64 0, .slice none 0 0, .int .i64 0] 32)
  have hR := new_block2 w (.cells #[.int .u8 1, .int .u64 (vol : Int), .int .u64 (pl : Int), .int .u64 (n : Int), .slice a len cap] 26) (.cells #[.int .i64 0, .int .u64 0, .slice none 0 0, .int .i64 0] 32)
  have hM := M.chg hW (by simp)
  have cN := none_of hP
  have hlt := M.lt
  clear hp M lp
  go_enter Try.func12, Try.ntmps12
  go_upto_region 1 with fail
  generalize ((w.alloc (.cells #[.int .u8 1, .int .u64 (vol : Int), .int .u64 (pl : Int), .int .u64 (n : Int), .slice a len cap] 26)).alloc (.cells #[.int .i64 0, .int .u64 0, .slice none 0 0, .int .i64 0] 32)) = W at *
  have o0 := cell_of_block hO 0
  have o1 := cell_of_block hO 1
  have o2 := cell_of_block hO 2
  have o3 := cell_of_block hO 3
  have o4 := cell_of_block hO 4
  simp only [List.getElem?_toArray, List.getElem?_cons_zero, List.getElem?_cons_succ] at o0 o1 o2 o3 o4
  have r0 := cell_of_block hR 0
  have r1 := cell_of_block hR 1
  have r2 := cell_of_block hR 2
  have r3 := cell_of_block hR 3
  simp only [List.getElem?_toArray, List.getElem?_cons_zero, List.getElem?_cons_succ] at r0 r1 r2 r3
  have lp := heap_lt hP
  have lo := heap_lt hO
  have lr := heap_lt hR
  have fr0 := frozen_of_block hR 0
  have fr1 := frozen_of_block hR 1
  have fr2 := frozen_of_block hR 2
  have fr3 := frozen_of_block hR 3
  have HP := Lib.hid hP
  have HO := Lib.hid hO
  have HR := Lib.hid hR
  have HM := Lib.hid hM
  have HW := Lib.hid hW
  have HLT := Lib.hid hlt
  clear hP hO hR hM hW hlt
  go_wp2_with fail
  refine cN.mono ?_
  clear cN
  rintro e w' ⟨rfl, rfl⟩
  have ew : IntKind.u8.wrap 0 = 0 := by decide
  go_upto_region 5 with fail
  go_cut [5] (fun s wx => ∃ db, s = .pointer (some ⟨db, 0, none⟩) ∧ Hid (wx.heap[db]? = some (.cells #[.bool false, .bool false, .bool false, .bool false, .bool true, .func (.func 47) #[] #[]] 74 (0, 0))) ∧ Hid (Chg [] W wx))
  case first =>
    refine wp_region_held_drew (S := fun W' => W'.cell? ⟨w.heap.size, 0, none⟩ = some (.int .u8 1)) (by kernel_rfl) (by exact o0) (fun hHeld => ?_)
    refine wpAnyH_take (i := 1) (oi := ?_) (v := ?_) ?_ (by kernel_rfl) (by kernel_rfl) (by kernel_rfl) ?_ (Or.inl ⟨?_, ?_⟩) hHeld ?_
    rotate_left 2
    · (simp only [List.getElem?_toArray, List.getElem?_cons_succ, List.getElem?_cons_zero]; rfl)
    · exact fun _ _ _ h => h
    · rfl
    · (intro W' s0; go_simp; first | done | with_reducible rfl)
    try simp only [Act.put, List.setIfInBounds_toArray, List.set_cons_zero, List.set_cons_succ]
    refine wpAnyH_take (i := 2) (oi := ?_) (v := ?_) ?_ (by kernel_rfl) (by kernel_rfl) (by kernel_rfl) ?_ (Or.inl ⟨?_, ?_⟩) hHeld ?_
    rotate_left 2
    · (simp only [List.getElem?_toArray, List.getElem?_cons_succ, List.getElem?_cons_zero]; rfl)
    · exact fun _ _ _ h => h
    · rfl
    · (intro W' s0; go_simp; first | done | with_reducible rfl)
    try simp only [Act.put, List.setIfInBounds_toArray, List.set_cons_zero, List.set_cons_succ]
    refine wpAnyH_take (i := 3) (oi := ?_) (v := ?_) ?_ (by kernel_rfl) (by kernel_rfl) (by kernel_rfl) ?_ (Or.inl ⟨?_, ?_⟩) hHeld ?_
    rotate_left 2
    · (simp only [List.getElem?_toArray, List.getElem?_cons_succ, List.getElem?_cons_zero]; rfl)
    · exact fun _ _ _ h => h
    · rfl
    · (intro W' s0; go_simp; first | done | with_reducible rfl)
    try simp only [Act.put, List.setIfInBounds_toArray, List.set_cons_zero, List.set_cons_succ]
    refine wpAnyH_ready (rs := [0, 6]) (by kernel_rfl) (by simp) ?_
    refine AllReadyH.cons (o := ?_) ?_ (fun K hK => ?_) ?_
    rotate_left 1
    · (simp only [List.getElem?_toArray, List.getElem?_cons_succ, List.getElem?_cons_zero]; rfl)
    · (go_simp; refine (deeds_at (w := W.drew)).mono ?_; rintro e w1 ⟨rfl, hD, hC1⟩; have HD : Hid (w1.heap[W.heap.size]? = some (.cells deedCells 74 (0, 0))) := Lib.hid hD; have HC1 := Lib.hid ((Chg.refl [] W).drew.trans hC1); clear hD hC1)
      refine hK.out _ _ ?_ (fun hHeld => ?_)
      · exact (HC1.out.cell (p := ⟨w.heap.size, 0, none⟩) lo (by simp)).trans o0
      clear hK K
      try simp only [Act.put, List.setIfInBounds_toArray, List.set_cons_zero, List.set_cons_succ]
      refine wpAnyH_take (i := 4) (oi := ?_) (v := ?_) ?_ (by kernel_rfl) (by kernel_rfl) (by kernel_rfl) ?_ (Or.inl ⟨?_, ?_⟩) hHeld ?_
      rotate_left 2
      · (simp only [List.getElem?_toArray, List.getElem?_cons_succ, List.getElem?_cons_zero]; rfl)
      · exact fun _ _ _ h => h
      · rfl
      · (intro W' s0; go_simp; first | done | with_reducible rfl)
      try simp only [Act.put, List.setIfInBounds_toArray, List.set_cons_zero, List.set_cons_succ]
      refine wpAnyH_ready (rs := [5, 6]) (by kernel_rfl) (by simp) ?_
      refine AllReadyH.cons (o := ?_) ?_ (fun K hK => ?_) ?_
      rotate_left 1
      · (simp only [List.getElem?_toArray, List.getElem?_cons_succ, List.getElem?_cons_zero]; rfl)
      · (have d0 := cell_of_block HD.out 0; have d1 := cell_of_block HD.out 1; have d2 := cell_of_block HD.out 2; have d3 := cell_of_block HD.out 3; have d4 := cell_of_block HD.out 4; have d5 := cell_of_block HD.out 5; unfold deedCells at d0 d1 d2 d3 d4 d5; simp only [List.getElem?_toArray, List.getElem?_cons_zero, List.getElem?_cons_succ] at d0 d1 d2 d3 d4 d5; have ld := heap_lt HD.out; go_simp)
        refine hK.out _ _ ?_ (fun hHeld => ?_)
        · exact (HC1.out.cell (p := ⟨w.heap.size, 0, none⟩) lo (by simp)).trans o0
        clear hK K
        try simp only [Act.put, List.setIfInBounds_toArray, List.set_cons_zero, List.set_cons_succ]
        refine wpAnyH_ready (rs := [6]) (by kernel_rfl) (by simp) ?_
        refine AllReadyH.cons (o := ?_) ?_ (fun K hK => ?_) AllReadyH.nil
        rotate_left 1
        · (simp only [List.getElem?_toArray, List.getElem?_cons_succ, List.getElem?_cons_zero]; rfl)
        · (have HCA := Lib.hid ((HC1.out.alloc (.cells zDeed 74)).drew); go_simp)
          refine hK.out _ _ ?_ (fun hHeld => ?_)
          · exact (HCA.out.cell (p := ⟨w.heap.size, 0, none⟩) lo (by simp)).trans o0
          clear hK K
          try simp only [Act.put, List.setIfInBounds_toArray, List.set_cons_zero, List.set_cons_succ]
          refine wpAnyH_ready (rs := [7]) (by kernel_rfl) (by simp) ?_
          refine AllReadyH.cons (o := ?_) ?_ (fun K hK => ?_) AllReadyH.nil
          rotate_left 1
          · (simp only [List.getElem?_toArray, List.getElem?_cons_succ, List.getElem?_cons_zero]; rfl)
          · (go_simp)
            refine hK.out _ _ ?_ (fun hHeld => ?_)
            · exact ((HC1.out.alloc (.cells #[.bool false, .bool false, .bool false, .bool false, .bool true, .func (.func 47) #[] #[]] 74)).cell (p := ⟨w.heap.size, 0, none⟩) lo (by simp)).trans o0
            clear hK K
            try simp only [Act.put, List.setIfInBounds_toArray, List.set_cons_zero, List.set_cons_succ]
            refine wpAnyH_done (by kernel_rfl) ?_ _
            go_wp2_with fail
            go_meet
            exact ⟨_, rfl, Lib.hid (new_block w1 (.cells #[.bool false, .bool false, .bool false, .bool false, .bool true, .func (.func 47) #[] #[]] 74)), Lib.hid (HC1.out.alloc _)⟩
      refine AllReadyH.cons (o := ?_) ?_ (fun K hK => ?_) AllReadyH.nil
      rotate_left 1
      · (simp only [List.getElem?_toArray, List.getElem?_cons_succ, List.getElem?_cons_zero]; rfl)
      · (have HCA := Lib.hid ((HC1.out.alloc (.cells zDeed 74)).drew); go_simp)
        refine hK.out _ _ ?_ (fun hHeld => ?_)
        · exact (HCA.out.cell (p := ⟨w.heap.size, 0, none⟩) lo (by simp)).trans o0
        clear hK K
        try simp only [Act.put, List.setIfInBounds_toArray, List.set_cons_zero, List.set_cons_succ]
        refine wpAnyH_ready (rs := [5]) (by kernel_rfl) (by simp) ?_
        refine AllReadyH.cons (o := ?_) ?_ (fun K hK => ?_) AllReadyH.nil
        rotate_left 1
        · (simp only [List.getElem?_toArray, List.getElem?_cons_succ, List.getElem?_cons_zero]; rfl)
        · (have d0 := cell_of_block HD.out 0; have d1 := cell_of_block HD.out 1; have d2 := cell_of_block HD.out 2; have d3 := cell_of_block HD.out 3; have d4 := cell_of_block HD.out 4; have d5 := cell_of_block HD.out 5; unfold deedCells at d0 d1 d2 d3 d4 d5; simp only [List.getElem?_toArray, List.getElem?_cons_zero, List.getElem?_cons_succ] at d0 d1 d2 d3 d4 d5; have ld := heap_lt HD.out; go_simp)
          refine hK.out _ _ ?_ (fun hHeld => ?_)
          · exact (HCA.out.cell (p := ⟨w.heap.size, 0, none⟩) lo (by simp)).trans o0
          clear hK K
          try simp only [Act.put, List.setIfInBounds_toArray, List.set_cons_zero, List.set_cons_succ]
          refine wpAnyH_ready (rs := [7]) (by kernel_rfl) (by simp) ?_
          refine AllReadyH.cons (o := ?_) ?_ (fun K hK => ?_) AllReadyH.nil
          rotate_left 1
          · (simp only [List.getElem?_toArray, List.getElem?_cons_succ, List.getElem?_cons_zero]; rfl)
          · (go_simp)
            refine hK.out _ _ ?_ (fun hHeld => ?_)
            · exact ((HC1.out.alloc (.cells #[.bool false, .bool false, .bool false, .bool false, .bool true, .func (.func 47) #[] #[]] 74)).cell (p := ⟨w.heap.size, 0, none⟩) lo (by simp)).trans o0
            clear hK K
            try simp only [Act.put, List.setIfInBounds_toArray, List.set_cons_zero, List.set_cons_succ]
            refine wpAnyH_done (by kernel_rfl) ?_ _
            go_wp2_with fail
            go_meet
            exact ⟨_, rfl, Lib.hid (new_block w1 (.cells #[.bool false, .bool false, .bool false, .bool false, .bool true, .func (.func 47) #[] #[]] 74)), Lib.hid (HC1.out.alloc _)⟩
    refine AllReadyH.cons (o := ?_) ?_ (fun K hK => ?_) AllReadyH.nil
    rotate_left 1
    · (simp only [List.getElem?_toArray, List.getElem?_cons_succ, List.getElem?_cons_zero]; rfl)
    · (have HCA := Lib.hid (((Chg.refl [] W).alloc (.cells zDeed 74)).drew); go_simp)
      refine hK.out _ _ ?_ (fun hHeld => ?_)
      · exact (HCA.out.cell (p := ⟨w.heap.size, 0, none⟩) lo (by simp)).trans o0
      clear hK K
      try simp only [Act.put, List.setIfInBounds_toArray, List.set_cons_zero, List.set_cons_succ]
      refine wpAnyH_ready (rs := [0]) (by kernel_rfl) (by simp) ?_
      refine AllReadyH.cons (o := ?_) ?_ (fun K hK => ?_) AllReadyH.nil
      rotate_left 1
      · (simp only [List.getElem?_toArray, List.getElem?_cons_succ, List.getElem?_cons_zero]; rfl)
      · (go_simp; refine (deeds_at).mono ?_; rintro e w1 ⟨rfl, hD, hC1⟩; have HD : Hid (w1.heap[W.heap.size + 1]? = some (.cells deedCells 74 (0, 0))) := Lib.hid (by simpa using hD); have HZ : Hid (w1.heap[W.heap.size]? = some (.cells zDeed 74 (0, 0))) := Lib.hid ((hC1.block W.heap.size (by simp) (by simp)).trans (new_block W (.cells zDeed 74))); have HC1 := Lib.hid (HCA.out.trans hC1); clear hD hC1)
        refine hK.out _ _ ?_ (fun hHeld => ?_)
        · exact (HC1.out.cell (p := ⟨w.heap.size, 0, none⟩) lo (by simp)).trans o0
        clear hK K
        try simp only [Act.put, List.setIfInBounds_toArray, List.set_cons_zero, List.set_cons_succ]
        refine wpAnyH_take (i := 4) (oi := ?_) (v := ?_) ?_ (by kernel_rfl) (by kernel_rfl) (by kernel_rfl) ?_ (Or.inl ⟨?_, ?_⟩) hHeld ?_
        rotate_left 2
        · (simp only [List.getElem?_toArray, List.getElem?_cons_succ, List.getElem?_cons_zero]; rfl)
        · exact fun _ _ _ h => h
        · rfl
        · (intro W' s0; go_simp; first | done | with_reducible rfl)
        try simp only [Act.put, List.setIfInBounds_toArray, List.set_cons_zero, List.set_cons_succ]
        refine wpAnyH_ready (rs := [5]) (by kernel_rfl) (by simp) ?_
        refine AllReadyH.cons (o := ?_) ?_ (fun K hK => ?_) AllReadyH.nil
        rotate_left 1
        · (simp only [List.getElem?_toArray, List.getElem?_cons_succ, List.getElem?_cons_zero]; rfl)
        · (have d0 := cell_of_block HD.out 0; have d1 := cell_of_block HD.out 1; have d2 := cell_of_block HD.out 2; have d3 := cell_of_block HD.out 3; have d4 := cell_of_block HD.out 4; have d5 := cell_of_block HD.out 5; unfold deedCells at d0 d1 d2 d3 d4 d5; simp only [List.getElem?_toArray, List.getElem?_cons_zero, List.getElem?_cons_succ] at d0 d1 d2 d3 d4 d5; have ld := heap_lt HD.out; go_simp)
          refine hK.out _ _ ?_ (fun hHeld => ?_)
          · exact (HC1.out.cell (p := ⟨w.heap.size, 0, none⟩) lo (by simp)).trans o0
          clear hK K
          try simp only [Act.put, List.setIfInBounds_toArray, List.set_cons_zero, List.set_cons_succ]
          refine wpAnyH_ready (rs := [7]) (by kernel_rfl) (by simp) ?_
          refine AllReadyH.cons (o := ?_) ?_ (fun K hK => ?_) AllReadyH.nil
          rotate_left 1
          · (simp only [List.getElem?_toArray, List.getElem?_cons_succ, List.getElem?_cons_zero]; rfl)
          · (have zz0 := cell_of_block HZ.out 0; have zf0 := frozen_of_block HZ.out 0; have zz1 := cell_of_block HZ.out 1; have zf1 := frozen_of_block HZ.out 1; have zz2 := cell_of_block HZ.out 2; have zf2 := frozen_of_block HZ.out 2; have zz3 := cell_of_block HZ.out 3; have zf3 := frozen_of_block HZ.out 3; have zz4 := cell_of_block HZ.out 4; have zf4 := frozen_of_block HZ.out 4; have zz5 := cell_of_block HZ.out 5; have zf5 := frozen_of_block HZ.out 5; unfold zDeed at zz0 zz1 zz2 zz3 zz4 zz5; simp only [List.getElem?_toArray, List.getElem?_cons_zero, List.getElem?_cons_succ] at zz0 zz1 zz2 zz3 zz4 zz5; have zl := heap_lt HZ.out; go_simp; have HZS := Lib.hid (deed_store HZ.out (.bool false) (.bool false) (.bool false) (.bool false) (.bool true) (.func (.func 47) #[] #[])))
            refine hK.out _ _ ?_ (fun hHeld => ?_)
            · exact ((HC1.out.then HZS.out.2 (by simp)).cell (L := []) (p := ⟨w.heap.size, 0, none⟩) lo (by simp)).trans o0
            clear hK K
            try simp only [Act.put, List.setIfInBounds_toArray, List.set_cons_zero, List.set_cons_succ]
            refine wpAnyH_done (by kernel_rfl) ?_ _
            go_wp2_with fail
            go_meet
            exact ⟨_, rfl, Lib.hid HZS.out.1, Lib.hid (HC1.out.then HZS.out.2 (by simp))⟩
  case rest =>
    obtain ⟨db, rfl, HX, HC⟩ := hcut
    clear cN o0 o1 o2 o3 o4 r0 r1 r2 r3 fr0 fr1 fr2 fr3 ew
    have hO1 := (HC.out.block _ lo (by simp)).trans HO.out
    have hX := HX.out
    have x0 := cell_of_block hX 0
    have x1 := cell_of_block hX 1
    have x2 := cell_of_block hX 2
    have x3 := cell_of_block hX 3
    have x4 := cell_of_block hX 4
    have x5 := cell_of_block hX 5
    simp only [List.getElem?_toArray, List.getElem?_cons_zero, List.getElem?_cons_succ] at x0 x1 x2 x3 x4 x5
    have o0 := cell_of_block hO1 0
    have o1 := cell_of_block hO1 1
    have o2 := cell_of_block hO1 2
    have o3 := cell_of_block hO1 3
    have o4 := cell_of_block hO1 4
    simp only [List.getElem?_toArray, List.getElem?_cons_zero, List.getElem?_cons_succ] at o0 o1 o2 o3 o4
    have lx := heap_lt hX
    have lo1 := heap_lt hO1
    clear hX hO1
    go_wp2_with fail
    refine (wrong_at (fv := false) (fa := false) (fn := false) (fd := false) (fx := true) (code := 1) ⟨mb, D, C, (HC.out.block p lp (by simp)).trans HP.out, HM.out.chg HC.out (by simp)⟩ HV.out HPL.out HNL.out.1 (by simp) HNL.out.2).mono ?_
    rintro e w2 ⟨rfl, hC2⟩
    have HC2 := Lib.hid (HC.out.trans hC2)
    have hO2 := (HC2.out.block _ lo (by simp)).trans HO.out
    have hR2 := (HC2.out.block _ lr (by simp)).trans HR.out
    have hX2 := (hC2.block db lx (by simp)).trans HX.out
    have HR2 := Lib.hid hR2
    clear x0 x1 x2 x3 x4 x5 o0 o1 o2 o3 o4 lx lo1 hC2
    have x0 := cell_of_block hX2 0
    have x1 := cell_of_block hX2 1
    have x2 := cell_of_block hX2 2
    have x3 := cell_of_block hX2 3
    have x4 := cell_of_block hX2 4
    have x5 := cell_of_block hX2 5
    simp only [List.getElem?_toArray, List.getElem?_cons_zero, List.getElem?_cons_succ] at x0 x1 x2 x3 x4 x5
    have o0 := cell_of_block hO2 0
    have o1 := cell_of_block hO2 1
    have o2 := cell_of_block hO2 2
    have o3 := cell_of_block hO2 3
    have o4 := cell_of_block hO2 4
    simp only [List.getElem?_toArray, List.getElem?_cons_zero, List.getElem?_cons_succ] at o0 o1 o2 o3 o4
    have r0 := cell_of_block hR2 0
    have r1 := cell_of_block hR2 1
    have r2 := cell_of_block hR2 2
    have r3 := cell_of_block hR2 3
    simp only [List.getElem?_toArray, List.getElem?_cons_zero, List.getElem?_cons_succ] at r0 r1 r2 r3
    have fr0 := frozen_of_block hR2 0
    have fr1 := frozen_of_block hR2 1
    have fr2 := frozen_of_block hR2 2
    have fr3 := frozen_of_block hR2 3
    have lx := heap_lt hX2
    have lo2 := heap_lt hO2
    have lr2 := heap_lt hR2
    clear hX2 hO2 hR2
    have MM : MdAt N L w2 p S := ⟨mb, D, C, (HC2.out.block p lp (by simp)).trans HP.out, HM.out.chg HC2.out (by simp)⟩
    generalize hev : wrongS S false false false false true vol pl n len = ev
    have HE0 := Lib.hid hev
    clear hev
    by_cases he : ev = 0
    case' neg =>
      have he' : ((ev : Int) != 0) = true := by simp; omega
      have he'' : ¬ (ev : Int) = 0 := by omega
      go_wp2_with fail
      obtain ⟨hR4, hC4⟩ := rep_store HR2.out (.int .i64 (ev : Int)) (.int .u64 0) (.slice none 0 0) (.int .i64 0)
      generalize (((w2.setCell ⟨w.heap.size + 1, 0, none⟩ (.int .i64 (ev : Int))).setCell ⟨w.heap.size + 1, 1, none⟩ (.int .u64 0)).setCell ⟨w.heap.size + 1, 2, none⟩ (.slice none 0 0)).setCell ⟨w.heap.size + 1, 3, none⟩ (.int .i64 0) = W4 at *
      have l4 := heap_lt hR4
      have z0 := cell_of_block hR4 0
      have z1 := cell_of_block hR4 1
      have z2 := cell_of_block hR4 2
      have z3 := cell_of_block hR4 3
      simp only [List.getElem?_toArray, List.getElem?_cons_zero, List.getElem?_cons_succ] at z0 z1 z2 z3
      have hcw : Chg [] w W4 := (HW.out.trans HC2.out).then hC4 (by simp)
      have hM4 := MM.chg hC4 (fun b hb => by have := HLT.out b hb; simp; omega)
      exact bodyPost_ret (v := repV ev 0 (.slice none 0 0) 0) (by simp [results, Try.results12, go_sem, repV, l4, z0, z1, z2, z3]) rfl (by unfold DoneIf; rw [HE0.out, if_neg he]; exact ⟨L, none, 0, rfl, hM4.mono (Nat.le_succ _), fun b hb => .inl hb, bytes_none, fun b hb => (by cases hb), hcw.mono (by simp)⟩)
    subst he
    have HE := HE0
    go_wp2_with fail
    refine (make_at MM hN (wrong_next HE.out HLL.out)).mono ?_
    rintro e w3 ⟨L', a', c', rfl, hMd, hL', hBy, hF, hC3⟩
    unfold repV
    try unfold Rep.none
    have hs2 := Nat.le_trans HW.out.size HC2.out.size
    have hR3 := (hC3.block _ lr2 (fun hb => by have := HLT.out _ hb; omega)).trans HR2.out
    have HR3 := Lib.hid hR3
    have HMd := Lib.hid hMd
    have HBy := Lib.hid hBy
    have HF := Lib.hid (And.intro hL' (And.intro hF hC3))
    clear x0 x1 x2 x3 x4 x5 o0 o1 o2 o3 o4 r0 r1 r2 r3 fr0 fr1 fr2 fr3 lx lo2 hMd hL' hBy hF hC3 MM
    have r0 := cell_of_block hR3 0
    have r1 := cell_of_block hR3 1
    have r2 := cell_of_block hR3 2
    have r3 := cell_of_block hR3 3
    simp only [List.getElem?_toArray, List.getElem?_cons_zero, List.getElem?_cons_succ] at r0 r1 r2 r3
    have fr0 := frozen_of_block hR3 0
    have fr1 := frozen_of_block hR3 1
    have fr2 := frozen_of_block hR3 2
    have fr3 := frozen_of_block hR3 3
    have lr3 := heap_lt hR3
    clear hR3
    go_wp2_with fail
    obtain ⟨hR4, hC4⟩ := rep_store HR3.out (.int .i64 0) (.int .u64 ((S.last : Int) + 1)) (.slice a' 0 c') (.int .i64 0)
    generalize (((w3.setCell ⟨w.heap.size + 1, 0, none⟩ (.int .i64 0)).setCell ⟨w.heap.size + 1, 1, none⟩ (.int .u64 ((S.last : Int) + 1))).setCell ⟨w.heap.size + 1, 2, none⟩ (.slice a' 0 c')).setCell ⟨w.heap.size + 1, 3, none⟩ (.int .i64 0) = W4 at *
    have l4 := heap_lt hR4
    have z0 := cell_of_block hR4 0
    have z1 := cell_of_block hR4 1
    have z2 := cell_of_block hR4 2
    have z3 := cell_of_block hR4 3
    simp only [List.getElem?_toArray, List.getElem?_cons_zero, List.getElem?_cons_succ] at z0 z1 z2 z3
    have hcw : Chg L w W4 := (((HW.out.trans HC2.out).mono (by simp)).trans HF.out.2.2).then hC4 (by simp)
    have hM4 := HMd.out.chg hC4 (fun b hb => by
      simp only [List.mem_singleton]
      rcases HF.out.1 b hb with h | h
      · have := HLT.out b h; omega
      · omega)
    refine bodyPost_ret (v := repV 0 (S.last + 1) (.slice a' 0 c') 0) (by simp [results, Try.results12, go_sem, repV, l4, z0, z1, z2, z3]) rfl ?_
    unfold DoneIf
    rw [HE.out, if_pos rfl]
    refine ⟨L', a', c', rfl, hM4, fun b hb => ?_, HBy.out.chg hC4 (fun _ b hb => ?_), fun b hb => ?_, hcw⟩
    · rcases HF.out.1 b hb with h | h
      · exact .inl h
      · exact .inr (by omega)
    · have := (HF.out.2.1 b hb).1
      simp only [List.mem_singleton]
      omega
    · exact ⟨by have := (HF.out.2.1 b hb).1; omega, (HF.out.2.1 b hb).2⟩

set_option maxRecDepth 20000 in
set_option maxHeartbeats 4000000 in
theorem do_2 {N : Nat} {L : List Nat} {w : World} {p vol pl n len cap : Nat} {a : Option Addr} {f : Nat → Nat} {S : St} (h : MdAt N L w p S) (hN : N ≤ 1000000) (hv : vol < 18446744073709551616) (hpl : pl < 18446744073709551616) (hn : n < 18446744073709551616) (hlen : len ≤ 9223372036854775807) (hB : BytesIn w a len cap f) :
    Calls Try.prog 12 #[.pointer (some ⟨p, 0, none⟩), opV 2 vol pl n (.slice a len cap)] w (DoneIf N L w p (wrongS S true false false false false vol pl n len) (S.drop vol) (Rep.none) S) := by
  have HV := Lib.hid hv
  have HPL := Lib.hid hpl
  have HNL := Lib.hid (And.intro hn hlen)
  have HBI := Lib.hid hB
  have HLL := Lib.hid h.lastlt
  clear hv hpl hn hlen hB
  obtain ⟨mb, D, C, hp, M⟩ := h
  have cN := none_of hp
  unfold mdRow at hp
  unfold opV
  rw [show (((2 : Nat)) : Int) = 2 from rfl]
  have lp := heap_lt hp
  have hW : Chg [] w ((w.alloc (.cells #[.int .u8 2, .int .u64 (vol : Int), .int .u64 (pl : Int), .int .u64 (n : Int), .slice a len cap] 26)).alloc (.cells #[.int .i64 0, .int .u64 0, .slice none 0 0, .int .i64 0] 32)) := ((Chg.refl [] w).alloc _).alloc _
  have hP := (hW.block p lp (by simp)).trans hp
  have hO := new_block21 w (.cells #[.int .u8 2, .int .u64 (vol : Int), .int .u64 (pl : Int), .int .u64 (n : Int), .slice a len cap] 26) (.cells #[.int .i64 0, .int .u64 0, .slice none 0 0, .int .i64 0] 32)
  have hR := new_block2 w (.cells #[.int .u8 2, .int .u64 (vol : Int), .int .u64 (pl : Int), .int .u64 (n : Int), .slice a len cap] 26) (.cells #[.int .i64 0, .int .u64 0, .slice none 0 0, .int .i64 0] 32)
  have hM := M.chg hW (by simp)
  have cN := none_of hP
  have hlt := M.lt
  clear hp M lp
  go_enter Try.func12, Try.ntmps12
  go_upto_region 1 with fail
  generalize ((w.alloc (.cells #[.int .u8 2, .int .u64 (vol : Int), .int .u64 (pl : Int), .int .u64 (n : Int), .slice a len cap] 26)).alloc (.cells #[.int .i64 0, .int .u64 0, .slice none 0 0, .int .i64 0] 32)) = W at *
  have o0 := cell_of_block hO 0
  have o1 := cell_of_block hO 1
  have o2 := cell_of_block hO 2
  have o3 := cell_of_block hO 3
  have o4 := cell_of_block hO 4
  simp only [List.getElem?_toArray, List.getElem?_cons_zero, List.getElem?_cons_succ] at o0 o1 o2 o3 o4
  have r0 := cell_of_block hR 0
  have r1 := cell_of_block hR 1
  have r2 := cell_of_block hR 2
  have r3 := cell_of_block hR 3
  simp only [List.getElem?_toArray, List.getElem?_cons_zero, List.getElem?_cons_succ] at r0 r1 r2 r3
  have lp := heap_lt hP
  have lo := heap_lt hO
  have lr := heap_lt hR
  have fr0 := frozen_of_block hR 0
  have fr1 := frozen_of_block hR 1
  have fr2 := frozen_of_block hR 2
  have fr3 := frozen_of_block hR 3
  have HP := Lib.hid hP
  have HO := Lib.hid hO
  have HR := Lib.hid hR
  have HM := Lib.hid hM
  have HW := Lib.hid hW
  have HLT := Lib.hid hlt
  clear hP hO hR hM hW hlt
  go_wp2_with fail
  refine cN.mono ?_
  clear cN
  rintro e w' ⟨rfl, rfl⟩
  have ew : IntKind.u8.wrap 1 = 1 := by decide
  go_upto_region 5 with fail
  go_cut [5] (fun s wx => ∃ db, s = .pointer (some ⟨db, 0, none⟩) ∧ Hid (wx.heap[db]? = some (.cells #[.bool true, .bool false, .bool false, .bool false, .bool false, .func (.func 49) #[] #[]] 74 (0, 0))) ∧ Hid (Chg [] W wx))
  case first =>
    refine wp_region_held_drew (S := fun W' => W'.cell? ⟨w.heap.size, 0, none⟩ = some (.int .u8 2)) (by kernel_rfl) (by exact o0) (fun hHeld => ?_)
    refine wpAnyH_take (i := 1) (oi := ?_) (v := ?_) ?_ (by kernel_rfl) (by kernel_rfl) (by kernel_rfl) ?_ (Or.inl ⟨?_, ?_⟩) hHeld ?_
    rotate_left 2
    · (simp only [List.getElem?_toArray, List.getElem?_cons_succ, List.getElem?_cons_zero]; rfl)
    · exact fun _ _ _ h => h
    · rfl
    · (intro W' s0; go_simp; first | done | with_reducible rfl)
    try simp only [Act.put, List.setIfInBounds_toArray, List.set_cons_zero, List.set_cons_succ]
    refine wpAnyH_take (i := 2) (oi := ?_) (v := ?_) ?_ (by kernel_rfl) (by kernel_rfl) (by kernel_rfl) ?_ (Or.inl ⟨?_, ?_⟩) hHeld ?_
    rotate_left 2
    · (simp only [List.getElem?_toArray, List.getElem?_cons_succ, List.getElem?_cons_zero]; rfl)
    · exact fun _ _ _ h => h
    · rfl
    · (intro W' s0; go_simp; first | done | with_reducible rfl)
    try simp only [Act.put, List.setIfInBounds_toArray, List.set_cons_zero, List.set_cons_succ]
    refine wpAnyH_take (i := 3) (oi := ?_) (v := ?_) ?_ (by kernel_rfl) (by kernel_rfl) (by kernel_rfl) ?_ (Or.inl ⟨?_, ?_⟩) hHeld ?_
    rotate_left 2
    · (simp only [List.getElem?_toArray, List.getElem?_cons_succ, List.getElem?_cons_zero]; rfl)
    · exact fun _ _ _ h => h
    · rfl
    · (intro W' s0; go_simp; first | done | with_reducible rfl)
    try simp only [Act.put, List.setIfInBounds_toArray, List.set_cons_zero, List.set_cons_succ]
    refine wpAnyH_ready (rs := [0, 6]) (by kernel_rfl) (by simp) ?_
    refine AllReadyH.cons (o := ?_) ?_ (fun K hK => ?_) ?_
    rotate_left 1
    · (simp only [List.getElem?_toArray, List.getElem?_cons_succ, List.getElem?_cons_zero]; rfl)
    · (go_simp; refine (deeds_at (w := W.drew)).mono ?_; rintro e w1 ⟨rfl, hD, hC1⟩; have HD : Hid (w1.heap[W.heap.size]? = some (.cells deedCells 74 (0, 0))) := Lib.hid hD; have HC1 := Lib.hid ((Chg.refl [] W).drew.trans hC1); clear hD hC1)
      refine hK.out _ _ ?_ (fun hHeld => ?_)
      · exact (HC1.out.cell (p := ⟨w.heap.size, 0, none⟩) lo (by simp)).trans o0
      clear hK K
      try simp only [Act.put, List.setIfInBounds_toArray, List.set_cons_zero, List.set_cons_succ]
      refine wpAnyH_take (i := 4) (oi := ?_) (v := ?_) ?_ (by kernel_rfl) (by kernel_rfl) (by kernel_rfl) ?_ (Or.inl ⟨?_, ?_⟩) hHeld ?_
      rotate_left 2
      · (simp only [List.getElem?_toArray, List.getElem?_cons_succ, List.getElem?_cons_zero]; rfl)
      · exact fun _ _ _ h => h
      · rfl
      · (intro W' s0; go_simp; first | done | with_reducible rfl)
      try simp only [Act.put, List.setIfInBounds_toArray, List.set_cons_zero, List.set_cons_succ]
      refine wpAnyH_ready (rs := [5, 6]) (by kernel_rfl) (by simp) ?_
      refine AllReadyH.cons (o := ?_) ?_ (fun K hK => ?_) ?_
      rotate_left 1
      · (simp only [List.getElem?_toArray, List.getElem?_cons_succ, List.getElem?_cons_zero]; rfl)
      · (have d0 := cell_of_block HD.out 6; have d1 := cell_of_block HD.out 7; have d2 := cell_of_block HD.out 8; have d3 := cell_of_block HD.out 9; have d4 := cell_of_block HD.out 10; have d5 := cell_of_block HD.out 11; unfold deedCells at d0 d1 d2 d3 d4 d5; simp only [List.getElem?_toArray, List.getElem?_cons_zero, List.getElem?_cons_succ] at d0 d1 d2 d3 d4 d5; have ld := heap_lt HD.out; go_simp)
        refine hK.out _ _ ?_ (fun hHeld => ?_)
        · exact (HC1.out.cell (p := ⟨w.heap.size, 0, none⟩) lo (by simp)).trans o0
        clear hK K
        try simp only [Act.put, List.setIfInBounds_toArray, List.set_cons_zero, List.set_cons_succ]
        refine wpAnyH_ready (rs := [6]) (by kernel_rfl) (by simp) ?_
        refine AllReadyH.cons (o := ?_) ?_ (fun K hK => ?_) AllReadyH.nil
        rotate_left 1
        · (simp only [List.getElem?_toArray, List.getElem?_cons_succ, List.getElem?_cons_zero]; rfl)
        · (have HCA := Lib.hid ((HC1.out.alloc (.cells zDeed 74)).drew); go_simp)
          refine hK.out _ _ ?_ (fun hHeld => ?_)
          · exact (HCA.out.cell (p := ⟨w.heap.size, 0, none⟩) lo (by simp)).trans o0
          clear hK K
          try simp only [Act.put, List.setIfInBounds_toArray, List.set_cons_zero, List.set_cons_succ]
          refine wpAnyH_ready (rs := [7]) (by kernel_rfl) (by simp) ?_
          refine AllReadyH.cons (o := ?_) ?_ (fun K hK => ?_) AllReadyH.nil
          rotate_left 1
          · (simp only [List.getElem?_toArray, List.getElem?_cons_succ, List.getElem?_cons_zero]; rfl)
          · (go_simp)
            refine hK.out _ _ ?_ (fun hHeld => ?_)
            · exact ((HC1.out.alloc (.cells #[.bool true, .bool false, .bool false, .bool false, .bool false, .func (.func 49) #[] #[]] 74)).cell (p := ⟨w.heap.size, 0, none⟩) lo (by simp)).trans o0
            clear hK K
            try simp only [Act.put, List.setIfInBounds_toArray, List.set_cons_zero, List.set_cons_succ]
            refine wpAnyH_done (by kernel_rfl) ?_ _
            go_wp2_with fail
            go_meet
            exact ⟨_, rfl, Lib.hid (new_block w1 (.cells #[.bool true, .bool false, .bool false, .bool false, .bool false, .func (.func 49) #[] #[]] 74)), Lib.hid (HC1.out.alloc _)⟩
      refine AllReadyH.cons (o := ?_) ?_ (fun K hK => ?_) AllReadyH.nil
      rotate_left 1
      · (simp only [List.getElem?_toArray, List.getElem?_cons_succ, List.getElem?_cons_zero]; rfl)
      · (have HCA := Lib.hid ((HC1.out.alloc (.cells zDeed 74)).drew); go_simp)
        refine hK.out _ _ ?_ (fun hHeld => ?_)
        · exact (HCA.out.cell (p := ⟨w.heap.size, 0, none⟩) lo (by simp)).trans o0
        clear hK K
        try simp only [Act.put, List.setIfInBounds_toArray, List.set_cons_zero, List.set_cons_succ]
        refine wpAnyH_ready (rs := [5]) (by kernel_rfl) (by simp) ?_
        refine AllReadyH.cons (o := ?_) ?_ (fun K hK => ?_) AllReadyH.nil
        rotate_left 1
        · (simp only [List.getElem?_toArray, List.getElem?_cons_succ, List.getElem?_cons_zero]; rfl)
        · (have d0 := cell_of_block HD.out 6; have d1 := cell_of_block HD.out 7; have d2 := cell_of_block HD.out 8; have d3 := cell_of_block HD.out 9; have d4 := cell_of_block HD.out 10; have d5 := cell_of_block HD.out 11; unfold deedCells at d0 d1 d2 d3 d4 d5; simp only [List.getElem?_toArray, List.getElem?_cons_zero, List.getElem?_cons_succ] at d0 d1 d2 d3 d4 d5; have ld := heap_lt HD.out; go_simp)
          refine hK.out _ _ ?_ (fun hHeld => ?_)
          · exact (HCA.out.cell (p := ⟨w.heap.size, 0, none⟩) lo (by simp)).trans o0
          clear hK K
          try simp only [Act.put, List.setIfInBounds_toArray, List.set_cons_zero, List.set_cons_succ]
          refine wpAnyH_ready (rs := [7]) (by kernel_rfl) (by simp) ?_
          refine AllReadyH.cons (o := ?_) ?_ (fun K hK => ?_) AllReadyH.nil
          rotate_left 1
          · (simp only [List.getElem?_toArray, List.getElem?_cons_succ, List.getElem?_cons_zero]; rfl)
          · (go_simp)
            refine hK.out _ _ ?_ (fun hHeld => ?_)
            · exact ((HC1.out.alloc (.cells #[.bool true, .bool false, .bool false, .bool false, .bool false, .func (.func 49) #[] #[]] 74)).cell (p := ⟨w.heap.size, 0, none⟩) lo (by simp)).trans o0
            clear hK K
            try simp only [Act.put, List.setIfInBounds_toArray, List.set_cons_zero, List.set_cons_succ]
            refine wpAnyH_done (by kernel_rfl) ?_ _
            go_wp2_with fail
            go_meet
            exact ⟨_, rfl, Lib.hid (new_block w1 (.cells #[.bool true, .bool false, .bool false, .bool false, .bool false, .func (.func 49) #[] #[]] 74)), Lib.hid (HC1.out.alloc _)⟩
    refine AllReadyH.cons (o := ?_) ?_ (fun K hK => ?_) AllReadyH.nil
    rotate_left 1
    · (simp only [List.getElem?_toArray, List.getElem?_cons_succ, List.getElem?_cons_zero]; rfl)
    · (have HCA := Lib.hid (((Chg.refl [] W).alloc (.cells zDeed 74)).drew); go_simp)
      refine hK.out _ _ ?_ (fun hHeld => ?_)
      · exact (HCA.out.cell (p := ⟨w.heap.size, 0, none⟩) lo (by simp)).trans o0
      clear hK K
      try simp only [Act.put, List.setIfInBounds_toArray, List.set_cons_zero, List.set_cons_succ]
      refine wpAnyH_ready (rs := [0]) (by kernel_rfl) (by simp) ?_
      refine AllReadyH.cons (o := ?_) ?_ (fun K hK => ?_) AllReadyH.nil
      rotate_left 1
      · (simp only [List.getElem?_toArray, List.getElem?_cons_succ, List.getElem?_cons_zero]; rfl)
      · (go_simp; refine (deeds_at).mono ?_; rintro e w1 ⟨rfl, hD, hC1⟩; have HD : Hid (w1.heap[W.heap.size + 1]? = some (.cells deedCells 74 (0, 0))) := Lib.hid (by simpa using hD); have HZ : Hid (w1.heap[W.heap.size]? = some (.cells zDeed 74 (0, 0))) := Lib.hid ((hC1.block W.heap.size (by simp) (by simp)).trans (new_block W (.cells zDeed 74))); have HC1 := Lib.hid (HCA.out.trans hC1); clear hD hC1)
        refine hK.out _ _ ?_ (fun hHeld => ?_)
        · exact (HC1.out.cell (p := ⟨w.heap.size, 0, none⟩) lo (by simp)).trans o0
        clear hK K
        try simp only [Act.put, List.setIfInBounds_toArray, List.set_cons_zero, List.set_cons_succ]
        refine wpAnyH_take (i := 4) (oi := ?_) (v := ?_) ?_ (by kernel_rfl) (by kernel_rfl) (by kernel_rfl) ?_ (Or.inl ⟨?_, ?_⟩) hHeld ?_
        rotate_left 2
        · (simp only [List.getElem?_toArray, List.getElem?_cons_succ, List.getElem?_cons_zero]; rfl)
        · exact fun _ _ _ h => h
        · rfl
        · (intro W' s0; go_simp; first | done | with_reducible rfl)
        try simp only [Act.put, List.setIfInBounds_toArray, List.set_cons_zero, List.set_cons_succ]
        refine wpAnyH_ready (rs := [5]) (by kernel_rfl) (by simp) ?_
        refine AllReadyH.cons (o := ?_) ?_ (fun K hK => ?_) AllReadyH.nil
        rotate_left 1
        · (simp only [List.getElem?_toArray, List.getElem?_cons_succ, List.getElem?_cons_zero]; rfl)
        · (have d0 := cell_of_block HD.out 6; have d1 := cell_of_block HD.out 7; have d2 := cell_of_block HD.out 8; have d3 := cell_of_block HD.out 9; have d4 := cell_of_block HD.out 10; have d5 := cell_of_block HD.out 11; unfold deedCells at d0 d1 d2 d3 d4 d5; simp only [List.getElem?_toArray, List.getElem?_cons_zero, List.getElem?_cons_succ] at d0 d1 d2 d3 d4 d5; have ld := heap_lt HD.out; go_simp)
          refine hK.out _ _ ?_ (fun hHeld => ?_)
          · exact (HC1.out.cell (p := ⟨w.heap.size, 0, none⟩) lo (by simp)).trans o0
          clear hK K
          try simp only [Act.put, List.setIfInBounds_toArray, List.set_cons_zero, List.set_cons_succ]
          refine wpAnyH_ready (rs := [7]) (by kernel_rfl) (by simp) ?_
          refine AllReadyH.cons (o := ?_) ?_ (fun K hK => ?_) AllReadyH.nil
          rotate_left 1
          · (simp only [List.getElem?_toArray, List.getElem?_cons_succ, List.getElem?_cons_zero]; rfl)
          · (have zz0 := cell_of_block HZ.out 0; have zf0 := frozen_of_block HZ.out 0; have zz1 := cell_of_block HZ.out 1; have zf1 := frozen_of_block HZ.out 1; have zz2 := cell_of_block HZ.out 2; have zf2 := frozen_of_block HZ.out 2; have zz3 := cell_of_block HZ.out 3; have zf3 := frozen_of_block HZ.out 3; have zz4 := cell_of_block HZ.out 4; have zf4 := frozen_of_block HZ.out 4; have zz5 := cell_of_block HZ.out 5; have zf5 := frozen_of_block HZ.out 5; unfold zDeed at zz0 zz1 zz2 zz3 zz4 zz5; simp only [List.getElem?_toArray, List.getElem?_cons_zero, List.getElem?_cons_succ] at zz0 zz1 zz2 zz3 zz4 zz5; have zl := heap_lt HZ.out; go_simp; have HZS := Lib.hid (deed_store HZ.out (.bool true) (.bool false) (.bool false) (.bool false) (.bool false) (.func (.func 49) #[] #[])))
            refine hK.out _ _ ?_ (fun hHeld => ?_)
            · exact ((HC1.out.then HZS.out.2 (by simp)).cell (L := []) (p := ⟨w.heap.size, 0, none⟩) lo (by simp)).trans o0
            clear hK K
            try simp only [Act.put, List.setIfInBounds_toArray, List.set_cons_zero, List.set_cons_succ]
            refine wpAnyH_done (by kernel_rfl) ?_ _
            go_wp2_with fail
            go_meet
            exact ⟨_, rfl, Lib.hid HZS.out.1, Lib.hid (HC1.out.then HZS.out.2 (by simp))⟩
  case rest =>
    obtain ⟨db, rfl, HX, HC⟩ := hcut
    clear cN o0 o1 o2 o3 o4 r0 r1 r2 r3 fr0 fr1 fr2 fr3 ew
    have hO1 := (HC.out.block _ lo (by simp)).trans HO.out
    have hX := HX.out
    have x0 := cell_of_block hX 0
    have x1 := cell_of_block hX 1
    have x2 := cell_of_block hX 2
    have x3 := cell_of_block hX 3
    have x4 := cell_of_block hX 4
    have x5 := cell_of_block hX 5
    simp only [List.getElem?_toArray, List.getElem?_cons_zero, List.getElem?_cons_succ] at x0 x1 x2 x3 x4 x5
    have o0 := cell_of_block hO1 0
    have o1 := cell_of_block hO1 1
    have o2 := cell_of_block hO1 2
    have o3 := cell_of_block hO1 3
    have o4 := cell_of_block hO1 4
    simp only [List.getElem?_toArray, List.getElem?_cons_zero, List.getElem?_cons_succ] at o0 o1 o2 o3 o4
    have lx := heap_lt hX
    have lo1 := heap_lt hO1
    clear hX hO1
    go_wp2_with fail
    refine (wrong_at (fv := true) (fa := false) (fn := false) (fd := false) (fx := false) (code := 2) ⟨mb, D, C, (HC.out.block p lp (by simp)).trans HP.out, HM.out.chg HC.out (by simp)⟩ HV.out HPL.out HNL.out.1 (by simp) HNL.out.2).mono ?_
    rintro e w2 ⟨rfl, hC2⟩
    have HC2 := Lib.hid (HC.out.trans hC2)
    have hO2 := (HC2.out.block _ lo (by simp)).trans HO.out
    have hR2 := (HC2.out.block _ lr (by simp)).trans HR.out
    have hX2 := (hC2.block db lx (by simp)).trans HX.out
    have HR2 := Lib.hid hR2
    clear x0 x1 x2 x3 x4 x5 o0 o1 o2 o3 o4 lx lo1 hC2
    have x0 := cell_of_block hX2 0
    have x1 := cell_of_block hX2 1
    have x2 := cell_of_block hX2 2
    have x3 := cell_of_block hX2 3
    have x4 := cell_of_block hX2 4
    have x5 := cell_of_block hX2 5
    simp only [List.getElem?_toArray, List.getElem?_cons_zero, List.getElem?_cons_succ] at x0 x1 x2 x3 x4 x5
    have o0 := cell_of_block hO2 0
    have o1 := cell_of_block hO2 1
    have o2 := cell_of_block hO2 2
    have o3 := cell_of_block hO2 3
    have o4 := cell_of_block hO2 4
    simp only [List.getElem?_toArray, List.getElem?_cons_zero, List.getElem?_cons_succ] at o0 o1 o2 o3 o4
    have r0 := cell_of_block hR2 0
    have r1 := cell_of_block hR2 1
    have r2 := cell_of_block hR2 2
    have r3 := cell_of_block hR2 3
    simp only [List.getElem?_toArray, List.getElem?_cons_zero, List.getElem?_cons_succ] at r0 r1 r2 r3
    have fr0 := frozen_of_block hR2 0
    have fr1 := frozen_of_block hR2 1
    have fr2 := frozen_of_block hR2 2
    have fr3 := frozen_of_block hR2 3
    have lx := heap_lt hX2
    have lo2 := heap_lt hO2
    have lr2 := heap_lt hR2
    clear hX2 hO2 hR2
    have MM : MdAt N L w2 p S := ⟨mb, D, C, (HC2.out.block p lp (by simp)).trans HP.out, HM.out.chg HC2.out (by simp)⟩
    generalize hev : wrongS S true false false false false vol pl n len = ev
    have HE0 := Lib.hid hev
    clear hev
    by_cases he : ev = 0
    case' neg =>
      have he' : ((ev : Int) != 0) = true := by simp; omega
      have he'' : ¬ (ev : Int) = 0 := by omega
      go_wp2_with fail
      obtain ⟨hR4, hC4⟩ := rep_store HR2.out (.int .i64 (ev : Int)) (.int .u64 0) (.slice none 0 0) (.int .i64 0)
      generalize (((w2.setCell ⟨w.heap.size + 1, 0, none⟩ (.int .i64 (ev : Int))).setCell ⟨w.heap.size + 1, 1, none⟩ (.int .u64 0)).setCell ⟨w.heap.size + 1, 2, none⟩ (.slice none 0 0)).setCell ⟨w.heap.size + 1, 3, none⟩ (.int .i64 0) = W4 at *
      have l4 := heap_lt hR4
      have z0 := cell_of_block hR4 0
      have z1 := cell_of_block hR4 1
      have z2 := cell_of_block hR4 2
      have z3 := cell_of_block hR4 3
      simp only [List.getElem?_toArray, List.getElem?_cons_zero, List.getElem?_cons_succ] at z0 z1 z2 z3
      have hcw : Chg [] w W4 := (HW.out.trans HC2.out).then hC4 (by simp)
      have hM4 := MM.chg hC4 (fun b hb => by have := HLT.out b hb; simp; omega)
      exact bodyPost_ret (v := repV ev 0 (.slice none 0 0) 0) (by simp [results, Try.results12, go_sem, repV, l4, z0, z1, z2, z3]) rfl (by unfold DoneIf; rw [HE0.out, if_neg he]; exact ⟨L, none, 0, rfl, hM4.mono (Nat.le_succ _), fun b hb => .inl hb, bytes_none, fun b hb => (by cases hb), hcw.mono (by simp)⟩)
    subst he
    have HE := HE0
    go_wp2_with fail
    refine (drop_at MM hN HV.out).mono ?_
    rintro e w3 ⟨L', a', c', rfl, hMd, hL', hBy, hF, hC3⟩
    unfold repV
    try unfold Rep.none
    have hs2 := Nat.le_trans HW.out.size HC2.out.size
    have hR3 := (hC3.block _ lr2 (fun hb => by have := HLT.out _ hb; omega)).trans HR2.out
    have HR3 := Lib.hid hR3
    have HMd := Lib.hid hMd
    have HBy := Lib.hid hBy
    have HF := Lib.hid (And.intro hL' (And.intro hF hC3))
    clear x0 x1 x2 x3 x4 x5 o0 o1 o2 o3 o4 r0 r1 r2 r3 fr0 fr1 fr2 fr3 lx lo2 hMd hL' hBy hF hC3 MM
    have r0 := cell_of_block hR3 0
    have r1 := cell_of_block hR3 1
    have r2 := cell_of_block hR3 2
    have r3 := cell_of_block hR3 3
    simp only [List.getElem?_toArray, List.getElem?_cons_zero, List.getElem?_cons_succ] at r0 r1 r2 r3
    have fr0 := frozen_of_block hR3 0
    have fr1 := frozen_of_block hR3 1
    have fr2 := frozen_of_block hR3 2
    have fr3 := frozen_of_block hR3 3
    have lr3 := heap_lt hR3
    clear hR3
    go_wp2_with fail
    obtain ⟨hR4, hC4⟩ := rep_store HR3.out (.int .i64 0) (.int .u64 0) (.slice a' 0 c') (.int .i64 0)
    generalize (((w3.setCell ⟨w.heap.size + 1, 0, none⟩ (.int .i64 0)).setCell ⟨w.heap.size + 1, 1, none⟩ (.int .u64 0)).setCell ⟨w.heap.size + 1, 2, none⟩ (.slice a' 0 c')).setCell ⟨w.heap.size + 1, 3, none⟩ (.int .i64 0) = W4 at *
    have l4 := heap_lt hR4
    have z0 := cell_of_block hR4 0
    have z1 := cell_of_block hR4 1
    have z2 := cell_of_block hR4 2
    have z3 := cell_of_block hR4 3
    simp only [List.getElem?_toArray, List.getElem?_cons_zero, List.getElem?_cons_succ] at z0 z1 z2 z3
    have hcw : Chg L w W4 := (((HW.out.trans HC2.out).mono (by simp)).trans HF.out.2.2).then hC4 (by simp)
    have hM4 := HMd.out.chg hC4 (fun b hb => by
      simp only [List.mem_singleton]
      rcases HF.out.1 b hb with h | h
      · have := HLT.out b h; omega
      · omega)
    refine bodyPost_ret (v := repV 0 0 (.slice a' 0 c') 0) (by simp [results, Try.results12, go_sem, repV, l4, z0, z1, z2, z3]) rfl ?_
    unfold DoneIf
    rw [HE.out, if_pos rfl]
    refine ⟨L', a', c', rfl, hM4, fun b hb => ?_, HBy.out.chg hC4 (fun _ b hb => ?_), fun b hb => ?_, hcw⟩
    · rcases HF.out.1 b hb with h | h
      · exact .inl h
      · exact .inr (by omega)
    · have := (HF.out.2.1 b hb).1
      simp only [List.mem_singleton]
      omega
    · exact ⟨by have := (HF.out.2.1 b hb).1; omega, (HF.out.2.1 b hb).2⟩

set_option maxRecDepth 20000 in
set_option maxHeartbeats 4000000 in
theorem do_3 {N : Nat} {L : List Nat} {w : World} {p vol pl n len cap : Nat} {a : Option Addr} {f : Nat → Nat} {S : St} (h : MdAt N L w p S) (hN : N ≤ 1000000) (hv : vol < 18446744073709551616) (hpl : pl < 18446744073709551616) (hn : n < 18446744073709551616) (hlen : len ≤ 9223372036854775807) (hB : BytesIn w a len cap f) :
    Calls Try.prog 12 #[.pointer (some ⟨p, 0, none⟩), opV 3 vol pl n (.slice a len cap)] w (DoneIf N L w p (wrongS S true false false false true vol pl n len) (S.made (S.volOf vol)) (⟨0, S.last + 1, 0, fun _ => 0, 0⟩) S) := by
  have HV := Lib.hid hv
  have HPL := Lib.hid hpl
  have HNL := Lib.hid (And.intro hn hlen)
  have HBI := Lib.hid hB
  have HLL := Lib.hid h.lastlt
  clear hv hpl hn hlen hB
  obtain ⟨mb, D, C, hp, M⟩ := h
  have cN := none_of hp
  unfold mdRow at hp
  unfold opV
  rw [show (((3 : Nat)) : Int) = 3 from rfl]
  have lp := heap_lt hp
  have hW : Chg [] w ((w.alloc (.cells #[.int .u8 3, .int .u64 (vol : Int), .int .u64 (pl : Int), .int .u64 (n : Int), .slice a len cap] 26)).alloc (.cells #[.int .i64 0, .int .u64 0, .slice none 0 0, .int .i64 0] 32)) := ((Chg.refl [] w).alloc _).alloc _
  have hP := (hW.block p lp (by simp)).trans hp
  have hO := new_block21 w (.cells #[.int .u8 3, .int .u64 (vol : Int), .int .u64 (pl : Int), .int .u64 (n : Int), .slice a len cap] 26) (.cells #[.int .i64 0, .int .u64 0, .slice none 0 0, .int .i64 0] 32)
  have hR := new_block2 w (.cells #[.int .u8 3, .int .u64 (vol : Int), .int .u64 (pl : Int), .int .u64 (n : Int), .slice a len cap] 26) (.cells #[.int .i64 0, .int .u64 0, .slice none 0 0, .int .i64 0] 32)
  have hM := M.chg hW (by simp)
  have cN := none_of hP
  have hlt := M.lt
  clear hp M lp
  go_enter Try.func12, Try.ntmps12
  go_upto_region 1 with fail
  generalize ((w.alloc (.cells #[.int .u8 3, .int .u64 (vol : Int), .int .u64 (pl : Int), .int .u64 (n : Int), .slice a len cap] 26)).alloc (.cells #[.int .i64 0, .int .u64 0, .slice none 0 0, .int .i64 0] 32)) = W at *
  have o0 := cell_of_block hO 0
  have o1 := cell_of_block hO 1
  have o2 := cell_of_block hO 2
  have o3 := cell_of_block hO 3
  have o4 := cell_of_block hO 4
  simp only [List.getElem?_toArray, List.getElem?_cons_zero, List.getElem?_cons_succ] at o0 o1 o2 o3 o4
  have r0 := cell_of_block hR 0
  have r1 := cell_of_block hR 1
  have r2 := cell_of_block hR 2
  have r3 := cell_of_block hR 3
  simp only [List.getElem?_toArray, List.getElem?_cons_zero, List.getElem?_cons_succ] at r0 r1 r2 r3
  have lp := heap_lt hP
  have lo := heap_lt hO
  have lr := heap_lt hR
  have fr0 := frozen_of_block hR 0
  have fr1 := frozen_of_block hR 1
  have fr2 := frozen_of_block hR 2
  have fr3 := frozen_of_block hR 3
  have HP := Lib.hid hP
  have HO := Lib.hid hO
  have HR := Lib.hid hR
  have HM := Lib.hid hM
  have HW := Lib.hid hW
  have HLT := Lib.hid hlt
  clear hP hO hR hM hW hlt
  go_wp2_with fail
  refine cN.mono ?_
  clear cN
  rintro e w' ⟨rfl, rfl⟩
  have ew : IntKind.u8.wrap 2 = 2 := by decide
  go_upto_region 5 with fail
  go_cut [5] (fun s wx => ∃ db, s = .pointer (some ⟨db, 0, none⟩) ∧ Hid (wx.heap[db]? = some (.cells #[.bool true, .bool false, .bool false, .bool false, .bool true, .func (.func 50) #[] #[]] 74 (0, 0))) ∧ Hid (Chg [] W wx))
  case first =>
    refine wp_region_held_drew (S := fun W' => W'.cell? ⟨w.heap.size, 0, none⟩ = some (.int .u8 3)) (by kernel_rfl) (by exact o0) (fun hHeld => ?_)
    refine wpAnyH_take (i := 1) (oi := ?_) (v := ?_) ?_ (by kernel_rfl) (by kernel_rfl) (by kernel_rfl) ?_ (Or.inl ⟨?_, ?_⟩) hHeld ?_
    rotate_left 2
    · (simp only [List.getElem?_toArray, List.getElem?_cons_succ, List.getElem?_cons_zero]; rfl)
    · exact fun _ _ _ h => h
    · rfl
    · (intro W' s0; go_simp; first | done | with_reducible rfl)
    try simp only [Act.put, List.setIfInBounds_toArray, List.set_cons_zero, List.set_cons_succ]
    refine wpAnyH_take (i := 2) (oi := ?_) (v := ?_) ?_ (by kernel_rfl) (by kernel_rfl) (by kernel_rfl) ?_ (Or.inl ⟨?_, ?_⟩) hHeld ?_
    rotate_left 2
    · (simp only [List.getElem?_toArray, List.getElem?_cons_succ, List.getElem?_cons_zero]; rfl)
    · exact fun _ _ _ h => h
    · rfl
    · (intro W' s0; go_simp; first | done | with_reducible rfl)
    try simp only [Act.put, List.setIfInBounds_toArray, List.set_cons_zero, List.set_cons_succ]
    refine wpAnyH_take (i := 3) (oi := ?_) (v := ?_) ?_ (by kernel_rfl) (by kernel_rfl) (by kernel_rfl) ?_ (Or.inl ⟨?_, ?_⟩) hHeld ?_
    rotate_left 2
    · (simp only [List.getElem?_toArray, List.getElem?_cons_succ, List.getElem?_cons_zero]; rfl)
    · exact fun _ _ _ h => h
    · rfl
    · (intro W' s0; go_simp; first | done | with_reducible rfl)
    try simp only [Act.put, List.setIfInBounds_toArray, List.set_cons_zero, List.set_cons_succ]
    refine wpAnyH_ready (rs := [0, 6]) (by kernel_rfl) (by simp) ?_
    refine AllReadyH.cons (o := ?_) ?_ (fun K hK => ?_) ?_
    rotate_left 1
    · (simp only [List.getElem?_toArray, List.getElem?_cons_succ, List.getElem?_cons_zero]; rfl)
    · (go_simp; refine (deeds_at (w := W.drew)).mono ?_; rintro e w1 ⟨rfl, hD, hC1⟩; have HD : Hid (w1.heap[W.heap.size]? = some (.cells deedCells 74 (0, 0))) := Lib.hid hD; have HC1 := Lib.hid ((Chg.refl [] W).drew.trans hC1); clear hD hC1)
      refine hK.out _ _ ?_ (fun hHeld => ?_)
      · exact (HC1.out.cell (p := ⟨w.heap.size, 0, none⟩) lo (by simp)).trans o0
      clear hK K
      try simp only [Act.put, List.setIfInBounds_toArray, List.set_cons_zero, List.set_cons_succ]
      refine wpAnyH_take (i := 4) (oi := ?_) (v := ?_) ?_ (by kernel_rfl) (by kernel_rfl) (by kernel_rfl) ?_ (Or.inl ⟨?_, ?_⟩) hHeld ?_
      rotate_left 2
      · (simp only [List.getElem?_toArray, List.getElem?_cons_succ, List.getElem?_cons_zero]; rfl)
      · exact fun _ _ _ h => h
      · rfl
      · (intro W' s0; go_simp; first | done | with_reducible rfl)
      try simp only [Act.put, List.setIfInBounds_toArray, List.set_cons_zero, List.set_cons_succ]
      refine wpAnyH_ready (rs := [5, 6]) (by kernel_rfl) (by simp) ?_
      refine AllReadyH.cons (o := ?_) ?_ (fun K hK => ?_) ?_
      rotate_left 1
      · (simp only [List.getElem?_toArray, List.getElem?_cons_succ, List.getElem?_cons_zero]; rfl)
      · (have d0 := cell_of_block HD.out 12; have d1 := cell_of_block HD.out 13; have d2 := cell_of_block HD.out 14; have d3 := cell_of_block HD.out 15; have d4 := cell_of_block HD.out 16; have d5 := cell_of_block HD.out 17; unfold deedCells at d0 d1 d2 d3 d4 d5; simp only [List.getElem?_toArray, List.getElem?_cons_zero, List.getElem?_cons_succ] at d0 d1 d2 d3 d4 d5; have ld := heap_lt HD.out; go_simp)
        refine hK.out _ _ ?_ (fun hHeld => ?_)
        · exact (HC1.out.cell (p := ⟨w.heap.size, 0, none⟩) lo (by simp)).trans o0
        clear hK K
        try simp only [Act.put, List.setIfInBounds_toArray, List.set_cons_zero, List.set_cons_succ]
        refine wpAnyH_ready (rs := [6]) (by kernel_rfl) (by simp) ?_
        refine AllReadyH.cons (o := ?_) ?_ (fun K hK => ?_) AllReadyH.nil
        rotate_left 1
        · (simp only [List.getElem?_toArray, List.getElem?_cons_succ, List.getElem?_cons_zero]; rfl)
        · (have HCA := Lib.hid ((HC1.out.alloc (.cells zDeed 74)).drew); go_simp)
          refine hK.out _ _ ?_ (fun hHeld => ?_)
          · exact (HCA.out.cell (p := ⟨w.heap.size, 0, none⟩) lo (by simp)).trans o0
          clear hK K
          try simp only [Act.put, List.setIfInBounds_toArray, List.set_cons_zero, List.set_cons_succ]
          refine wpAnyH_ready (rs := [7]) (by kernel_rfl) (by simp) ?_
          refine AllReadyH.cons (o := ?_) ?_ (fun K hK => ?_) AllReadyH.nil
          rotate_left 1
          · (simp only [List.getElem?_toArray, List.getElem?_cons_succ, List.getElem?_cons_zero]; rfl)
          · (go_simp)
            refine hK.out _ _ ?_ (fun hHeld => ?_)
            · exact ((HC1.out.alloc (.cells #[.bool true, .bool false, .bool false, .bool false, .bool true, .func (.func 50) #[] #[]] 74)).cell (p := ⟨w.heap.size, 0, none⟩) lo (by simp)).trans o0
            clear hK K
            try simp only [Act.put, List.setIfInBounds_toArray, List.set_cons_zero, List.set_cons_succ]
            refine wpAnyH_done (by kernel_rfl) ?_ _
            go_wp2_with fail
            go_meet
            exact ⟨_, rfl, Lib.hid (new_block w1 (.cells #[.bool true, .bool false, .bool false, .bool false, .bool true, .func (.func 50) #[] #[]] 74)), Lib.hid (HC1.out.alloc _)⟩
      refine AllReadyH.cons (o := ?_) ?_ (fun K hK => ?_) AllReadyH.nil
      rotate_left 1
      · (simp only [List.getElem?_toArray, List.getElem?_cons_succ, List.getElem?_cons_zero]; rfl)
      · (have HCA := Lib.hid ((HC1.out.alloc (.cells zDeed 74)).drew); go_simp)
        refine hK.out _ _ ?_ (fun hHeld => ?_)
        · exact (HCA.out.cell (p := ⟨w.heap.size, 0, none⟩) lo (by simp)).trans o0
        clear hK K
        try simp only [Act.put, List.setIfInBounds_toArray, List.set_cons_zero, List.set_cons_succ]
        refine wpAnyH_ready (rs := [5]) (by kernel_rfl) (by simp) ?_
        refine AllReadyH.cons (o := ?_) ?_ (fun K hK => ?_) AllReadyH.nil
        rotate_left 1
        · (simp only [List.getElem?_toArray, List.getElem?_cons_succ, List.getElem?_cons_zero]; rfl)
        · (have d0 := cell_of_block HD.out 12; have d1 := cell_of_block HD.out 13; have d2 := cell_of_block HD.out 14; have d3 := cell_of_block HD.out 15; have d4 := cell_of_block HD.out 16; have d5 := cell_of_block HD.out 17; unfold deedCells at d0 d1 d2 d3 d4 d5; simp only [List.getElem?_toArray, List.getElem?_cons_zero, List.getElem?_cons_succ] at d0 d1 d2 d3 d4 d5; have ld := heap_lt HD.out; go_simp)
          refine hK.out _ _ ?_ (fun hHeld => ?_)
          · exact (HCA.out.cell (p := ⟨w.heap.size, 0, none⟩) lo (by simp)).trans o0
          clear hK K
          try simp only [Act.put, List.setIfInBounds_toArray, List.set_cons_zero, List.set_cons_succ]
          refine wpAnyH_ready (rs := [7]) (by kernel_rfl) (by simp) ?_
          refine AllReadyH.cons (o := ?_) ?_ (fun K hK => ?_) AllReadyH.nil
          rotate_left 1
          · (simp only [List.getElem?_toArray, List.getElem?_cons_succ, List.getElem?_cons_zero]; rfl)
          · (go_simp)
            refine hK.out _ _ ?_ (fun hHeld => ?_)
            · exact ((HC1.out.alloc (.cells #[.bool true, .bool false, .bool false, .bool false, .bool true, .func (.func 50) #[] #[]] 74)).cell (p := ⟨w.heap.size, 0, none⟩) lo (by simp)).trans o0
            clear hK K
            try simp only [Act.put, List.setIfInBounds_toArray, List.set_cons_zero, List.set_cons_succ]
            refine wpAnyH_done (by kernel_rfl) ?_ _
            go_wp2_with fail
            go_meet
            exact ⟨_, rfl, Lib.hid (new_block w1 (.cells #[.bool true, .bool false, .bool false, .bool false, .bool true, .func (.func 50) #[] #[]] 74)), Lib.hid (HC1.out.alloc _)⟩
    refine AllReadyH.cons (o := ?_) ?_ (fun K hK => ?_) AllReadyH.nil
    rotate_left 1
    · (simp only [List.getElem?_toArray, List.getElem?_cons_succ, List.getElem?_cons_zero]; rfl)
    · (have HCA := Lib.hid (((Chg.refl [] W).alloc (.cells zDeed 74)).drew); go_simp)
      refine hK.out _ _ ?_ (fun hHeld => ?_)
      · exact (HCA.out.cell (p := ⟨w.heap.size, 0, none⟩) lo (by simp)).trans o0
      clear hK K
      try simp only [Act.put, List.setIfInBounds_toArray, List.set_cons_zero, List.set_cons_succ]
      refine wpAnyH_ready (rs := [0]) (by kernel_rfl) (by simp) ?_
      refine AllReadyH.cons (o := ?_) ?_ (fun K hK => ?_) AllReadyH.nil
      rotate_left 1
      · (simp only [List.getElem?_toArray, List.getElem?_cons_succ, List.getElem?_cons_zero]; rfl)
      · (go_simp; refine (deeds_at).mono ?_; rintro e w1 ⟨rfl, hD, hC1⟩; have HD : Hid (w1.heap[W.heap.size + 1]? = some (.cells deedCells 74 (0, 0))) := Lib.hid (by simpa using hD); have HZ : Hid (w1.heap[W.heap.size]? = some (.cells zDeed 74 (0, 0))) := Lib.hid ((hC1.block W.heap.size (by simp) (by simp)).trans (new_block W (.cells zDeed 74))); have HC1 := Lib.hid (HCA.out.trans hC1); clear hD hC1)
        refine hK.out _ _ ?_ (fun hHeld => ?_)
        · exact (HC1.out.cell (p := ⟨w.heap.size, 0, none⟩) lo (by simp)).trans o0
        clear hK K
        try simp only [Act.put, List.setIfInBounds_toArray, List.set_cons_zero, List.set_cons_succ]
        refine wpAnyH_take (i := 4) (oi := ?_) (v := ?_) ?_ (by kernel_rfl) (by kernel_rfl) (by kernel_rfl) ?_ (Or.inl ⟨?_, ?_⟩) hHeld ?_
        rotate_left 2
        · (simp only [List.getElem?_toArray, List.getElem?_cons_succ, List.getElem?_cons_zero]; rfl)
        · exact fun _ _ _ h => h
        · rfl
        · (intro W' s0; go_simp; first | done | with_reducible rfl)
        try simp only [Act.put, List.setIfInBounds_toArray, List.set_cons_zero, List.set_cons_succ]
        refine wpAnyH_ready (rs := [5]) (by kernel_rfl) (by simp) ?_
        refine AllReadyH.cons (o := ?_) ?_ (fun K hK => ?_) AllReadyH.nil
        rotate_left 1
        · (simp only [List.getElem?_toArray, List.getElem?_cons_succ, List.getElem?_cons_zero]; rfl)
        · (have d0 := cell_of_block HD.out 12; have d1 := cell_of_block HD.out 13; have d2 := cell_of_block HD.out 14; have d3 := cell_of_block HD.out 15; have d4 := cell_of_block HD.out 16; have d5 := cell_of_block HD.out 17; unfold deedCells at d0 d1 d2 d3 d4 d5; simp only [List.getElem?_toArray, List.getElem?_cons_zero, List.getElem?_cons_succ] at d0 d1 d2 d3 d4 d5; have ld := heap_lt HD.out; go_simp)
          refine hK.out _ _ ?_ (fun hHeld => ?_)
          · exact (HC1.out.cell (p := ⟨w.heap.size, 0, none⟩) lo (by simp)).trans o0
          clear hK K
          try simp only [Act.put, List.setIfInBounds_toArray, List.set_cons_zero, List.set_cons_succ]
          refine wpAnyH_ready (rs := [7]) (by kernel_rfl) (by simp) ?_
          refine AllReadyH.cons (o := ?_) ?_ (fun K hK => ?_) AllReadyH.nil
          rotate_left 1
          · (simp only [List.getElem?_toArray, List.getElem?_cons_succ, List.getElem?_cons_zero]; rfl)
          · (have zz0 := cell_of_block HZ.out 0; have zf0 := frozen_of_block HZ.out 0; have zz1 := cell_of_block HZ.out 1; have zf1 := frozen_of_block HZ.out 1; have zz2 := cell_of_block HZ.out 2; have zf2 := frozen_of_block HZ.out 2; have zz3 := cell_of_block HZ.out 3; have zf3 := frozen_of_block HZ.out 3; have zz4 := cell_of_block HZ.out 4; have zf4 := frozen_of_block HZ.out 4; have zz5 := cell_of_block HZ.out 5; have zf5 := frozen_of_block HZ.out 5; unfold zDeed at zz0 zz1 zz2 zz3 zz4 zz5; simp only [List.getElem?_toArray, List.getElem?_cons_zero, List.getElem?_cons_succ] at zz0 zz1 zz2 zz3 zz4 zz5; have zl := heap_lt HZ.out; go_simp; have HZS := Lib.hid (deed_store HZ.out (.bool true) (.bool false) (.bool false) (.bool false) (.bool true) (.func (.func 50) #[] #[])))
            refine hK.out _ _ ?_ (fun hHeld => ?_)
            · exact ((HC1.out.then HZS.out.2 (by simp)).cell (L := []) (p := ⟨w.heap.size, 0, none⟩) lo (by simp)).trans o0
            clear hK K
            try simp only [Act.put, List.setIfInBounds_toArray, List.set_cons_zero, List.set_cons_succ]
            refine wpAnyH_done (by kernel_rfl) ?_ _
            go_wp2_with fail
            go_meet
            exact ⟨_, rfl, Lib.hid HZS.out.1, Lib.hid (HC1.out.then HZS.out.2 (by simp))⟩
  case rest =>
    obtain ⟨db, rfl, HX, HC⟩ := hcut
    clear cN o0 o1 o2 o3 o4 r0 r1 r2 r3 fr0 fr1 fr2 fr3 ew
    have hO1 := (HC.out.block _ lo (by simp)).trans HO.out
    have hX := HX.out
    have x0 := cell_of_block hX 0
    have x1 := cell_of_block hX 1
    have x2 := cell_of_block hX 2
    have x3 := cell_of_block hX 3
    have x4 := cell_of_block hX 4
    have x5 := cell_of_block hX 5
    simp only [List.getElem?_toArray, List.getElem?_cons_zero, List.getElem?_cons_succ] at x0 x1 x2 x3 x4 x5
    have o0 := cell_of_block hO1 0
    have o1 := cell_of_block hO1 1
    have o2 := cell_of_block hO1 2
    have o3 := cell_of_block hO1 3
    have o4 := cell_of_block hO1 4
    simp only [List.getElem?_toArray, List.getElem?_cons_zero, List.getElem?_cons_succ] at o0 o1 o2 o3 o4
    have lx := heap_lt hX
    have lo1 := heap_lt hO1
    clear hX hO1
    go_wp2_with fail
    refine (wrong_at (fv := true) (fa := false) (fn := false) (fd := false) (fx := true) (code := 3) ⟨mb, D, C, (HC.out.block p lp (by simp)).trans HP.out, HM.out.chg HC.out (by simp)⟩ HV.out HPL.out HNL.out.1 (by simp) HNL.out.2).mono ?_
    rintro e w2 ⟨rfl, hC2⟩
    have HC2 := Lib.hid (HC.out.trans hC2)
    have hO2 := (HC2.out.block _ lo (by simp)).trans HO.out
    have hR2 := (HC2.out.block _ lr (by simp)).trans HR.out
    have hX2 := (hC2.block db lx (by simp)).trans HX.out
    have HR2 := Lib.hid hR2
    clear x0 x1 x2 x3 x4 x5 o0 o1 o2 o3 o4 lx lo1 hC2
    have x0 := cell_of_block hX2 0
    have x1 := cell_of_block hX2 1
    have x2 := cell_of_block hX2 2
    have x3 := cell_of_block hX2 3
    have x4 := cell_of_block hX2 4
    have x5 := cell_of_block hX2 5
    simp only [List.getElem?_toArray, List.getElem?_cons_zero, List.getElem?_cons_succ] at x0 x1 x2 x3 x4 x5
    have o0 := cell_of_block hO2 0
    have o1 := cell_of_block hO2 1
    have o2 := cell_of_block hO2 2
    have o3 := cell_of_block hO2 3
    have o4 := cell_of_block hO2 4
    simp only [List.getElem?_toArray, List.getElem?_cons_zero, List.getElem?_cons_succ] at o0 o1 o2 o3 o4
    have r0 := cell_of_block hR2 0
    have r1 := cell_of_block hR2 1
    have r2 := cell_of_block hR2 2
    have r3 := cell_of_block hR2 3
    simp only [List.getElem?_toArray, List.getElem?_cons_zero, List.getElem?_cons_succ] at r0 r1 r2 r3
    have fr0 := frozen_of_block hR2 0
    have fr1 := frozen_of_block hR2 1
    have fr2 := frozen_of_block hR2 2
    have fr3 := frozen_of_block hR2 3
    have lx := heap_lt hX2
    have lo2 := heap_lt hO2
    have lr2 := heap_lt hR2
    clear hX2 hO2 hR2
    have MM : MdAt N L w2 p S := ⟨mb, D, C, (HC2.out.block p lp (by simp)).trans HP.out, HM.out.chg HC2.out (by simp)⟩
    generalize hev : wrongS S true false false false true vol pl n len = ev
    have HE0 := Lib.hid hev
    clear hev
    by_cases he : ev = 0
    case' neg =>
      have he' : ((ev : Int) != 0) = true := by simp; omega
      have he'' : ¬ (ev : Int) = 0 := by omega
      go_wp2_with fail
      obtain ⟨hR4, hC4⟩ := rep_store HR2.out (.int .i64 (ev : Int)) (.int .u64 0) (.slice none 0 0) (.int .i64 0)
      generalize (((w2.setCell ⟨w.heap.size + 1, 0, none⟩ (.int .i64 (ev : Int))).setCell ⟨w.heap.size + 1, 1, none⟩ (.int .u64 0)).setCell ⟨w.heap.size + 1, 2, none⟩ (.slice none 0 0)).setCell ⟨w.heap.size + 1, 3, none⟩ (.int .i64 0) = W4 at *
      have l4 := heap_lt hR4
      have z0 := cell_of_block hR4 0
      have z1 := cell_of_block hR4 1
      have z2 := cell_of_block hR4 2
      have z3 := cell_of_block hR4 3
      simp only [List.getElem?_toArray, List.getElem?_cons_zero, List.getElem?_cons_succ] at z0 z1 z2 z3
      have hcw : Chg [] w W4 := (HW.out.trans HC2.out).then hC4 (by simp)
      have hM4 := MM.chg hC4 (fun b hb => by have := HLT.out b hb; simp; omega)
      exact bodyPost_ret (v := repV ev 0 (.slice none 0 0) 0) (by simp [results, Try.results12, go_sem, repV, l4, z0, z1, z2, z3]) rfl (by unfold DoneIf; rw [HE0.out, if_neg he]; exact ⟨L, none, 0, rfl, hM4.mono (Nat.le_succ _), fun b hb => .inl hb, bytes_none, fun b hb => (by cases hb), hcw.mono (by simp)⟩)
    subst he
    have HE := HE0
    go_wp2_with fail
    refine (snap_at MM hN HV.out (wrong_next HE.out HLL.out) (wrong_there HE.out)).mono ?_
    rintro e w3 ⟨L', a', c', rfl, hMd, hL', hBy, hF, hC3⟩
    unfold repV
    try unfold Rep.none
    have hs2 := Nat.le_trans HW.out.size HC2.out.size
    have hR3 := (hC3.block _ lr2 (fun hb => by have := HLT.out _ hb; omega)).trans HR2.out
    have HR3 := Lib.hid hR3
    have HMd := Lib.hid hMd
    have HBy := Lib.hid hBy
    have HF := Lib.hid (And.intro hL' (And.intro hF hC3))
    clear x0 x1 x2 x3 x4 x5 o0 o1 o2 o3 o4 r0 r1 r2 r3 fr0 fr1 fr2 fr3 lx lo2 hMd hL' hBy hF hC3 MM
    have r0 := cell_of_block hR3 0
    have r1 := cell_of_block hR3 1
    have r2 := cell_of_block hR3 2
    have r3 := cell_of_block hR3 3
    simp only [List.getElem?_toArray, List.getElem?_cons_zero, List.getElem?_cons_succ] at r0 r1 r2 r3
    have fr0 := frozen_of_block hR3 0
    have fr1 := frozen_of_block hR3 1
    have fr2 := frozen_of_block hR3 2
    have fr3 := frozen_of_block hR3 3
    have lr3 := heap_lt hR3
    clear hR3
    go_wp2_with fail
    obtain ⟨hR4, hC4⟩ := rep_store HR3.out (.int .i64 0) (.int .u64 ((S.last : Int) + 1)) (.slice a' 0 c') (.int .i64 0)
    generalize (((w3.setCell ⟨w.heap.size + 1, 0, none⟩ (.int .i64 0)).setCell ⟨w.heap.size + 1, 1, none⟩ (.int .u64 ((S.last : Int) + 1))).setCell ⟨w.heap.size + 1, 2, none⟩ (.slice a' 0 c')).setCell ⟨w.heap.size + 1, 3, none⟩ (.int .i64 0) = W4 at *
    have l4 := heap_lt hR4
    have z0 := cell_of_block hR4 0
    have z1 := cell_of_block hR4 1
    have z2 := cell_of_block hR4 2
    have z3 := cell_of_block hR4 3
    simp only [List.getElem?_toArray, List.getElem?_cons_zero, List.getElem?_cons_succ] at z0 z1 z2 z3
    have hcw : Chg L w W4 := (((HW.out.trans HC2.out).mono (by simp)).trans HF.out.2.2).then hC4 (by simp)
    have hM4 := HMd.out.chg hC4 (fun b hb => by
      simp only [List.mem_singleton]
      rcases HF.out.1 b hb with h | h
      · have := HLT.out b h; omega
      · omega)
    refine bodyPost_ret (v := repV 0 (S.last + 1) (.slice a' 0 c') 0) (by simp [results, Try.results12, go_sem, repV, l4, z0, z1, z2, z3]) rfl ?_
    unfold DoneIf
    rw [HE.out, if_pos rfl]
    refine ⟨L', a', c', rfl, hM4, fun b hb => ?_, HBy.out.chg hC4 (fun _ b hb => ?_), fun b hb => ?_, hcw⟩
    · rcases HF.out.1 b hb with h | h
      · exact .inl h
      · exact .inr (by omega)
    · have := (HF.out.2.1 b hb).1
      simp only [List.mem_singleton]
      omega
    · exact ⟨by have := (HF.out.2.1 b hb).1; omega, (HF.out.2.1 b hb).2⟩

end Go.Proofs.Ytbejcmbdaoakbaa
