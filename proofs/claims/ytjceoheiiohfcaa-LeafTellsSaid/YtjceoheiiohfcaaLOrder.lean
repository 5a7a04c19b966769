/- catchmentlaw03.LeafOrder: the walk. -/
import Derived.Test.YtjceoheiiohfcaaLOrdA
namespace Go.Proofs.Ytjceoheiiohfcaa
open Go.RowKit
set_option linter.unusedVariables false
set_option linter.unusedSimpArgs false

set_option maxRecDepth 20000 in
set_option maxHeartbeats 4000000 in
theorem order_skip {w : World} {l : Bool} {vk vv : Value} {nk nv : Nat} {keys vals : Nat → Nat} (x y : Int) (hk : NumsIn [] w vk nk keys) (hv : NumsIn [] w vv nv vals) (h : 20 < nk ∨ 20 < nv ∨ rightB l nk nv keys vals = false ∨ nk = 0) :
    Calls Try.prog 7 #[.agg #[.bool l, vk, vv], .int .u8 x, .int .u8 y] w (LawOk w) := by
  obtain ⟨ak, ck, rfl, _⟩ := hk.cap
  obtain ⟨av, cv, rfl, _⟩ := hv.cap
  have h' : (20 : Int) < nk ∨ (¬ (20 : Int) < nk ∧ (20 : Int) < nv) ∨ (¬ (20 : Int) < nk ∧ ¬ (20 : Int) < nv ∧ rightB l nk nv keys vals = false) ∨ (¬ (20 : Int) < nk ∧ ¬ (20 : Int) < nv ∧ rightB l nk nv keys vals = true ∧ nk = 0) := by
    by_cases g1 : (20 : Int) < nk
    · exact .inl g1
    · by_cases g2 : (20 : Int) < nv
      · exact .inr (.inl ⟨g1, g2⟩)
      · cases hr : rightB l nk nv keys vals with
        | false => exact .inr (.inr (.inl ⟨g1, g2, rfl⟩))
        | true =>
          rcases h with h | h | h | h
          · omega
          · omega
          · rw [hr] at h; cases h
          · exact .inr (.inr (.inr ⟨g1, g2, rfl, h⟩))
  have hW := (Chg.refl [] w).alloc (.cells #[.bool l, .slice ak nk ck, .slice av nv cv] 24)
  have X0 := Lib.hid (new_block w (.cells #[.bool l, .slice ak nk ck, .slice av nv cv] 24))
  have cR := right_at (leaf := l) (hk.chg hW (by simp)) (hv.chg hW (by simp))
  have HW := Lib.hid hW
  clear h hk hv hW
  rcases h' with d1 | ⟨d1, d2⟩ | ⟨d1, d2, hr⟩ | ⟨d1, d2, hr, h0⟩
  · clear cR
    go_enter Try.func7, Try.ntmps7
    go_wp2_with fail
    refine (awake03 _).mono ?_
    rintro e wz ⟨rfl, hZ⟩
    have HZ := Lib.hid ((HW.out).trans hZ)
    clear hZ
    go_wp2_with fail
    go_ret
    exact law_ok HZ.out
  · clear cR
    go_enter Try.func7, Try.ntmps7
    go_wp2_with fail
    refine (awake03 _).mono ?_
    rintro e wz ⟨rfl, hZ⟩
    have HZ := Lib.hid ((HW.out).trans hZ)
    clear hZ
    go_wp2_with fail
    go_ret
    exact law_ok HZ.out
  · rw [hr] at cR
    clear hr
    go_enter Try.func7, Try.ntmps7
    go_wp2_with fail
    refine cR.mono ?_
    clear cR
    rintro e w1 ⟨rfl, hC1⟩
    have HC1 := Lib.hid (HW.out.trans hC1)
    clear hC1
    go_wp2_with fail
    refine (awake03 _).mono ?_
    rintro e wz ⟨rfl, hZ⟩
    have HZ := Lib.hid ((HC1.out).trans hZ)
    clear hZ
    go_wp2_with fail
    go_ret
    exact law_ok HZ.out
  · rw [hr] at cR
    subst h0
    clear hr
    go_enter Try.func7, Try.ntmps7
    go_wp2_with fail
    refine cR.mono ?_
    clear cR
    rintro e w1 ⟨rfl, hC1⟩
    have X1 := (hC1.block _ (heap_lt X0.out) (by simp)).trans X0.out
    have x0 := cell_of_block X1 0
    have x1 := cell_of_block X1 1
    have x2 := cell_of_block X1 2
    simp only [List.getElem?_toArray, List.getElem?_cons_zero, List.getElem?_cons_succ] at x0 x1 x2
    have HC1 := Lib.hid (HW.out.trans hC1)
    clear hC1 X1
    go_wp2_with fail
    refine (awake03 _).mono ?_
    rintro e wz ⟨rfl, hZ⟩
    have HZ := Lib.hid ((HC1.out).trans hZ)
    clear hZ
    go_wp2_with fail
    go_ret
    exact law_ok HZ.out

/-- Numbers, where what is changed is not theirs. -/
theorem NumsIn.off {A L : List Nat} {w w' : World} {v : Value} {n : Nat} {f : Nat → Nat} (h : NumsIn A w v n f) (c : Chg L w w') (hL : ∀ p c, v = .slice (some p) n c → p.block ∉ L) : NumsIn A w' v n f := by
  rcases h with h | ⟨b, off, cap, h1, h2, h3, h4, h5, h6⟩
  · exact .inl h
  · exact .inr ⟨b, off, cap, h1, h2, h3, Nat.lt_of_lt_of_le h4 c.size, h5, h6.chg c (hL _ _ h1)⟩
theorem drew_heap (w : World) : w.drew.heap = w.heap := rfl
theorem keep3 {w : World} {b o B : Nat} {x y z v : Value} (h : w.cell? ⟨b, o, none⟩ = some v) (hb : b ≠ B) : (((w.setCell ⟨B, 0, none⟩ x).setCell ⟨B, 1, none⟩ y).setCell ⟨B, 2, none⟩ z).cell? ⟨b, o, none⟩ = some v := by
  rw [World.cell?_setCell_other _ _ _ _ (by simp [hb]), World.cell?_setCell_other _ _ _ _ (by simp [hb]), World.cell?_setCell_other _ _ _ _ (by simp [hb])]
  exact h

/-- Where the law stands when the lesser node is made: lb: its block. -/
structure OrdMid (w W : World) (l : Bool) (n : Nat) (keys vals : Nat → Nat) (kb ko ck vb vo cv : Nat) (lb : Nat) (u v : Value) (n' : Nat) (keys' vals' : Nat → Nat) : Prop where
  hX : W.heap[w.heap.size]? = some (.cells #[.bool l, .slice (some ⟨kb, ko, none⟩) n ck, .slice (some ⟨vb, vo, none⟩) n cv] 24 (0, 0))
  hL : W.heap[lb]? = some (.cells #[.bool l, u, v] 24 (0, 0))
  lX : w.heap.size < lb
  hK : NumsIn [] W u n' keys'
  hV : NumsIn [] W v n' vals'
  C : Chg [] w W
  dK : ∀ p c, u = .slice (some p) n' c → p.block ≠ lb
  dV : ∀ p c, v = .slice (some p) n' c → p.block ≠ lb

theorem chg3c (w1 : World) (B : Nat) (a b c : Value) : Chg [B] w1 (((w1.setCell ⟨B, 0, none⟩ a).setCell ⟨B, 1, none⟩ b).setCell ⟨B, 2, none⟩ c) :=
  (((Chg.refl _ _).setCell (.inl (by simp)) _).setCell (.inl (by simp)) _).setCell (.inl (by simp)) _
theorem ord_two {w W : World} {l : Bool} {n : Nat} {keys vals : Nat → Nat} {kb ko ck vb vo cv lb : Nat} {u v a b : Value} {n' : Nat} {keys' vals' : Nat → Nat} (hB : W.heap[lb]? = some (.cells #[.bool l, a, b] 24 (0, 0))) (hlt : w.heap.size < lb)
    (hX : W.heap[w.heap.size]? = some (.cells #[.bool l, .slice (some ⟨kb, ko, none⟩) n ck, .slice (some ⟨vb, vo, none⟩) n cv] 24 (0, 0))) (C : Chg [] w W) (hK : NumsIn [] W u n' keys') (hV : NumsIn [] W v n' vals')
    (hK1 : ∀ p c, u = .slice (some p) n' c → p.block ≠ lb) (hV1 : ∀ p c, v = .slice (some p) n' c → p.block ≠ lb) :
    OrdMid w ((W.setCell ⟨lb, 1, none⟩ u).setCell ⟨lb, 2, none⟩ v) l n keys vals kb ko ck vb vo cv lb u v n' keys' vals' := by
  have hc : Chg [lb] W ((W.setCell ⟨lb, 1, none⟩ u).setCell ⟨lb, 2, none⟩ v) := ((Chg.refl _ _).setCell (.inl (by simp)) _).setCell (.inl (by simp)) _
  refine ⟨(hc.block _ (heap_lt hX) (by simp; omega)).trans hX, ?_, hlt, hK.off hc (by simpa using hK1), hV.off hc (by simpa using hV1), C.then hc (by simp; omega), hK1, hV1⟩
  rw [setCell_block (setCell_block hB _ _) _ _]
  rfl
theorem ord_new {w W : World} {l : Bool} {n : Nat} {keys vals : Nat → Nat} {kb ko ck vb vo cv : Nat} {u v : Value} {n' : Nat} {keys' vals' : Nat → Nat}
    (hX : W.heap[w.heap.size]? = some (.cells #[.bool l, .slice (some ⟨kb, ko, none⟩) n ck, .slice (some ⟨vb, vo, none⟩) n cv] 24 (0, 0))) (C : Chg [] w W) (hK : NumsIn [] W u n' keys') (hV : NumsIn [] W v n' vals')
    (hK1 : ∀ p c, u = .slice (some p) n' c → p.block ≠ W.heap.size) (hV1 : ∀ p c, v = .slice (some p) n' c → p.block ≠ W.heap.size) :
    OrdMid w (W.alloc (.cells #[.bool l, u, v] 24)) l n keys vals kb ko ck vb vo cv W.heap.size u v n' keys' vals' :=
  have hc := (Chg.refl [] W).alloc (.cells #[.bool l, u, v] 24)
  ⟨(hc.block _ (heap_lt hX) (by simp)).trans hX, new_block _ _, heap_lt hX, hK.chg hc (by simp), hV.chg hc (by simp), C.trans hc, hK1, hV1⟩
theorem OrdMid.drew {w W : World} {l : Bool} {n : Nat} {keys vals : Nat → Nat} {kb ko ck vb vo cv lb : Nat} {u v : Value} {n' : Nat} {keys' vals' : Nat → Nat} (h : OrdMid w W l n keys vals kb ko ck vb vo cv lb u v n' keys' vals') : OrdMid w W.drew l n keys vals kb ko ck vb vo cv lb u v n' keys' vals' :=
  have hc := Chg.drew (Chg.refl [] W)
  ⟨h.hX, h.hL, h.lX, h.hK.chg hc (by simp), h.hV.chg hc (by simp), h.C.trans hc, h.dK, h.dV⟩
theorem ord_set {w W : World} {l : Bool} {n : Nat} {keys vals : Nat → Nat} {kb ko ck vb vo cv lb : Nat} {u v a b : Value} {l0 : Value} {n' : Nat} {keys' vals' : Nat → Nat} (hB : W.heap[lb]? = some (.cells #[l0, a, b] 24 (0, 0))) (hlt : w.heap.size < lb)
    (hX : W.heap[w.heap.size]? = some (.cells #[.bool l, .slice (some ⟨kb, ko, none⟩) n ck, .slice (some ⟨vb, vo, none⟩) n cv] 24 (0, 0))) (C : Chg [] w W) (hK : NumsIn [] W u n' keys') (hV : NumsIn [] W v n' vals')
    (hK1 : ∀ p c, u = .slice (some p) n' c → p.block ≠ lb) (hV1 : ∀ p c, v = .slice (some p) n' c → p.block ≠ lb) :
    OrdMid w (((W.setCell ⟨lb, 0, none⟩ (.bool l)).setCell ⟨lb, 1, none⟩ u).setCell ⟨lb, 2, none⟩ v) l n keys vals kb ko ck vb vo cv lb u v n' keys' vals' := by
  have hc : Chg [lb] W (((W.setCell ⟨lb, 0, none⟩ (.bool l)).setCell ⟨lb, 1, none⟩ u).setCell ⟨lb, 2, none⟩ v) := (((Chg.refl _ _).setCell (.inl (by simp)) _).setCell (.inl (by simp)) _).setCell (.inl (by simp)) _
  refine ⟨(hc.block _ (heap_lt hX) (by simp; omega)).trans hX, ?_, hlt, hK.off hc (by simpa using hK1), hV.off hc (by simpa using hV1), C.then hc (by simp; omega), hK1, hV1⟩
  rw [setCell_block (setCell_block (setCell_block hB _ _) _ _) _ _]
  rfl

set_option maxRecDepth 20000 in
set_option maxHeartbeats 8000000 in
theorem order_right {w : World} {l : Bool} {n kb ko ck vb vo cv : Nat} {keys vals : Nat → Nat} (x y : Nat) (hx : x ≤ 255) (hy : y ≤ 255) (hk : NumsIn [] w (.slice (some ⟨kb, ko, none⟩) n ck) n keys) (hv : NumsIn [] w (.slice (some ⟨vb, vo, none⟩) n cv) n vals)
    (hr : rightB l n n keys vals = true) (h0 : 0 < n) (hck : n ≤ ck) (hck2 : ck ≤ 9223372036854775807) (hcv : n ≤ cv) (hcv2 : cv ≤ 9223372036854775807) :
    Calls Try.prog 7 #[.agg #[.bool l, .slice (some ⟨kb, ko, none⟩) n ck, .slice (some ⟨vb, vo, none⟩) n cv], .int .u8 (x : Int), .int .u8 (y : Int)] w (LawOk w) := by
  obtain ⟨n7, _⟩ := rightB_bd hr
  have d1 : ¬ (20 : Int) < n := by omega
  have hW := (Chg.refl [] w).alloc (.cells #[.bool l, .slice (some ⟨kb, ko, none⟩) n ck, .slice (some ⟨vb, vo, none⟩) n cv] 24)
  have X0 := Lib.hid (new_block w (.cells #[.bool l, .slice (some ⟨kb, ko, none⟩) n ck, .slice (some ⟨vb, vo, none⟩) n cv] 24))
  have K0 := Lib.hid (hk.chg hW (by simp))
  have V0 := Lib.hid (hv.chg hW (by simp))
  have cR := right_at (leaf := l) K0.out V0.out
  rw [hr] at cR
  have Hr := Lib.hid hr
  have HW := Lib.hid hW
  have HK := Lib.hid hk
  have HV := Lib.hid hv
  have bK := Lib.hid hk.bd
  have bV := Lib.hid hv.bd
  obtain ⟨i00, hi00, hz0, hz1, hz2⟩ := info_parts infoU64
  have Hi := Lib.hid hi00
  clear hi00
  have e0 : ((n : Int) == 0) = false := by simp; omega
  clear hk hv hW hr
  go_enter Try.func7, Try.ntmps7
  go_wp2_with fail
  refine cR.mono ?_
  clear cR
  rintro e w1 ⟨rfl, hC⟩
  have C1 := Lib.hid (HW.out.trans hC)
  have X1 := Lib.hid ((hC.block _ (heap_lt X0.out) (by simp)).trans X0.out)
  have K1 := Lib.hid (K0.out.chg hC (by simp))
  have V1 := Lib.hid (V0.out.chg hC (by simp))
  clear hC X0 K0 V0 HW
  have x0 := cell_of_block X1.out 0
  have x1 := cell_of_block X1.out 1
  have x2 := cell_of_block X1.out 2
  simp only [List.getElem?_toArray, List.getElem?_cons_zero, List.getElem?_cons_succ] at x0 x1 x2
  have lx := heap_lt X1.out
  obtain ⟨i, hi⟩ : ∃ i, x % n = i := ⟨_, rfl⟩
  obtain ⟨k, hk⟩ : ∃ k, y % n = k := ⟨_, rfl⟩
  have m1 : Int.tmod (x : Int) (n : Int) = (i : Int) := by rw [← hi]; rfl
  have m2 : Int.tmod (y : Int) (n : Int) = (k : Int) := by rw [← hk]; rfl
  have hin : i < n := by rw [← hi]; exact Nat.mod_lt _ h0
  have hkn : k < n := by rw [← hk]; exact Nat.mod_lt _ h0
  have u1 : IntKind.i64.wrap (x : Int) = (x : Int) := IntWalk.i64_in _ (by omega)
  have u2 : IntKind.i64.wrap (y : Int) = (y : Int) := IntWalk.i64_in _ (by omega)
  have u3 : IntKind.i64.wrap (i : Int) = (i : Int) := IntWalk.i64_in _ (by omega)
  have u4 : IntKind.i64.wrap (k : Int) = (k : Int) := IntWalk.i64_in _ (by omega)
  have n0 : (n : Int) ≠ 0 := by omega
  have i0 : (0 : Int) ≤ (i : Int) := by omega
  have i1 : (i : Int) ≤ (ck : Int) := by omega
  have i2 : (i : Int) ≤ (cv : Int) := by omega
  clear hi hk
  go_wp2_with fail
  go_quiet (fail)
  go_wp2_with fail
  have hcd := Chg.drewN (Chg.refl [] w1) nq
  have C2 := Lib.hid (C1.out.trans hcd)
  have X2 := Lib.hid ((hcd.block _ (heap_lt X1.out) (by simp)).trans X1.out)
  have K2 := Lib.hid (K1.out.chg hcd (by simp))
  have V2 := Lib.hid (V1.out.chg hcd (by simp))
  clear x0 x1 x2 lx C1 X1 K1 V1 m1 m2 u1 u2 hcd
  generalize w1.drewN nq = w2 at *
  go_cut [9] (fun s wx => ∃ lb a1 a2, s = .pointer (some ⟨lb, 0, none⟩) ∧ OrdMid w wx l n keys vals kb ko ck vb vo cv lb (.slice (some ⟨a1, 0, none⟩) i i) (.slice (some ⟨a2, 0, none⟩) i i) i keys vals)
  case first =>
    have x0 := cell_of_block X2.out 0
    have x1 := cell_of_block X2.out 1
    have x2 := cell_of_block X2.out 2
    simp only [List.getElem?_toArray, List.getElem?_cons_zero, List.getElem?_cons_succ] at x0 x1 x2
    have lx := heap_lt X2.out
    have cA1 := againN_at (w := w2.drew) ((K2.out.first (i := i) (by omega)).chg (Chg.drew (Chg.refl [] w2)) (by simp)) (by omega)
    have cA1' := againN_at (w := (w2.alloc (.cells #[.bool false, .slice none 0 0, .slice none 0 0] 24)).drew) ((K2.out.first (i := i) (by omega)).chg (((Chg.refl [] w2).alloc (.cells #[.bool false, .slice none 0 0, .slice none 0 0] 24)).drew) (by simp)) (by omega)
    have lxa := Nat.lt_of_lt_of_le lx (((Chg.refl [] w2).alloc (.cells #[.bool false, .slice none 0 0, .slice none 0 0] 24)).drew).size
    have xa0 := ((((Chg.refl [] w2).alloc (.cells #[.bool false, .slice none 0 0, .slice none 0 0] 24)).drew).cell (p := ⟨w.heap.size, 0, none⟩) lx (by simp)).trans x0
    have xa1 := ((((Chg.refl [] w2).alloc (.cells #[.bool false, .slice none 0 0, .slice none 0 0] 24)).drew).cell (p := ⟨w.heap.size, 1, none⟩) lx (by simp)).trans x1
    have xa2 := ((((Chg.refl [] w2).alloc (.cells #[.bool false, .slice none 0 0, .slice none 0 0] 24)).drew).cell (p := ⟨w.heap.size, 2, none⟩) lx (by simp)).trans x2
    go_region_held3 (fun w' => w'.cell? ⟨w.heap.size, 0, none⟩ = some (.bool l) ∧ w'.cell? ⟨w.heap.size, 1, none⟩ = some (.slice (some ⟨kb, ko, none⟩) n ck) ∧ w'.cell? ⟨w.heap.size, 2, none⟩ = some (.slice (some ⟨vb, vo, none⟩) n cv))
      (first | exact ⟨x0, x1, x2⟩ | exact ⟨xa0, xa1, xa2⟩ | exact ⟨z0, z1, z2⟩ | exact ⟨y0, y1, y2⟩ | exact ⟨keep3 y0 (by omega), keep3 y1 (by omega), keep3 y2 (by omega)⟩ | go_keep)
      (first
        | (go_at_call 10; (with_reducible refine cA1.mono ?_); rintro e w3 ⟨rfl, hR3, hC3⟩; have z0 := (hC3.cell (p := ⟨w.heap.size, 0, none⟩) lx (by simp)).trans (x0); have z1 := (hC3.cell (p := ⟨w.heap.size, 1, none⟩) lx (by simp)).trans (x1); have z2 := (hC3.cell (p := ⟨w.heap.size, 2, none⟩) lx (by simp)).trans (x2); have lz : w.heap.size < w3.heap.size := Nat.lt_of_lt_of_le lx hC3.size; have hc03 : Chg [] w2 w3 := (Chg.drew (Chg.refl [] w2)).trans hC3; have cA2 := againN_at ((V2.out.first (i := i) (by omega)).chg hc03 (by simp)) (by omega); have cA2' := againN_at ((V2.out.first (i := i) (by omega)).chg (hc03.alloc (.cells #[.bool false, .slice none 0 0, .slice none 0 0] 24)) (by simp)) (by omega); (try simp only [drew_heap, size_alloc'] at hR3); have lt3 := hR3.lt; have HR3 := Lib.hid hR3; have HC03 := Lib.hid hc03; clear hR3 hC3 hc03)
        | (go_at_call 10; (with_reducible refine cA1'.mono ?_); rintro e w3 ⟨rfl, hR3, hC3⟩; have z0 := (hC3.cell (p := ⟨w.heap.size, 0, none⟩) lxa (by simp)).trans (xa0); have z1 := (hC3.cell (p := ⟨w.heap.size, 1, none⟩) lxa (by simp)).trans (xa1); have z2 := (hC3.cell (p := ⟨w.heap.size, 2, none⟩) lxa (by simp)).trans (xa2); have lz : w.heap.size < w3.heap.size := Nat.lt_of_lt_of_le lxa hC3.size; have hc03 : Chg [] w2 w3 := (((Chg.refl [] w2).alloc (.cells #[.bool false, .slice none 0 0, .slice none 0 0] 24)).drew).trans hC3; have cA2 := againN_at ((V2.out.first (i := i) (by omega)).chg hc03 (by simp)) (by omega); have cA2' := againN_at ((V2.out.first (i := i) (by omega)).chg (hc03.alloc (.cells #[.bool false, .slice none 0 0, .slice none 0 0] 24)) (by simp)) (by omega); (try simp only [drew_heap, size_alloc'] at hR3); have lt3 := hR3.lt; have HR3 := Lib.hid hR3; have HC03 := Lib.hid hc03; have hb3 := (hC3.block w2.heap.size (heap_lt (new_block w2 (.cells #[.bool false, .slice none 0 0, .slice none 0 0] 24))) (by simp)).trans (new_block w2 (.cells #[.bool false, .slice none 0 0, .slice none 0 0] 24)); have q0 := cell_of_block hb3 0; have q1 := cell_of_block hb3 1; have q2 := cell_of_block hb3 2; have r0 := frozen_of_block hb3 0; have r1 := frozen_of_block hb3 1; have r2 := frozen_of_block hb3 2; have lq := heap_lt hb3; simp only [List.getElem?_toArray, List.getElem?_cons_zero, List.getElem?_cons_succ] at q0 q1 q2; have HB3 := Lib.hid hb3; clear hR3 hC3 hc03 hb3)
        | (go_at_call 10; (with_reducible refine cA2.mono ?_); rintro e w4 ⟨rfl, hR4, hC4⟩; have y0 := (hC4.cell (p := ⟨w.heap.size, 0, none⟩) lz (by simp)).trans (z0); have y1 := (hC4.cell (p := ⟨w.heap.size, 1, none⟩) lz (by simp)).trans (z1); have y2 := (hC4.cell (p := ⟨w.heap.size, 2, none⟩) lz (by simp)).trans (z2); (try simp only [drew_heap, size_alloc'] at hR4); have lt4 := hR4.lt; have HR4 := Lib.hid hR4; have hc34 : Chg [] w3 w4 := (Chg.refl [] w3).trans hC4; have HC04 := Lib.hid (HC03.out.trans hc34); have HR34 := Lib.hid (HR3.out.chg hc34 (by simp)); try (have hb4 := (hc34.block _ (heap_lt HB3.out) (by simp)).trans HB3.out; clear q0 q1 q2 r0 r1 r2 lq; have q0 := cell_of_block hb4 0; have q1 := cell_of_block hb4 1; have q2 := cell_of_block hb4 2; have r0 := frozen_of_block hb4 0; have r1 := frozen_of_block hb4 1; have r2 := frozen_of_block hb4 2; have lq := heap_lt hb4; simp only [List.getElem?_toArray, List.getElem?_cons_zero, List.getElem?_cons_succ] at q0 q1 q2; have HB4 := Lib.hid hb4; clear hb4); clear hR4 hC4 hc34)
        | (go_at_call 10; (with_reducible refine cA2'.mono ?_); rintro e w4 ⟨rfl, hR4, hC4⟩; have y0 := (hC4.cell (p := ⟨w.heap.size, 0, none⟩) (Nat.lt_of_lt_of_le lz (((Chg.refl [] w3).alloc (.cells #[.bool false, .slice none 0 0, .slice none 0 0] 24)).size)) (by simp)).trans (((((Chg.refl [] w3).alloc (.cells #[.bool false, .slice none 0 0, .slice none 0 0] 24)).cell (p := ⟨w.heap.size, 0, none⟩) lz (by simp)).trans z0)); have y1 := (hC4.cell (p := ⟨w.heap.size, 1, none⟩) (Nat.lt_of_lt_of_le lz (((Chg.refl [] w3).alloc (.cells #[.bool false, .slice none 0 0, .slice none 0 0] 24)).size)) (by simp)).trans (((((Chg.refl [] w3).alloc (.cells #[.bool false, .slice none 0 0, .slice none 0 0] 24)).cell (p := ⟨w.heap.size, 1, none⟩) lz (by simp)).trans z1)); have y2 := (hC4.cell (p := ⟨w.heap.size, 2, none⟩) (Nat.lt_of_lt_of_le lz (((Chg.refl [] w3).alloc (.cells #[.bool false, .slice none 0 0, .slice none 0 0] 24)).size)) (by simp)).trans (((((Chg.refl [] w3).alloc (.cells #[.bool false, .slice none 0 0, .slice none 0 0] 24)).cell (p := ⟨w.heap.size, 2, none⟩) lz (by simp)).trans z2)); (try simp only [drew_heap, size_alloc'] at hR4); have lt4 := hR4.lt; have HR4 := Lib.hid hR4; have hc34 : Chg [] w3 w4 := ((Chg.refl [] w3).alloc (.cells #[.bool false, .slice none 0 0, .slice none 0 0] 24)).trans hC4; have HC04 := Lib.hid (HC03.out.trans hc34); have HR34 := Lib.hid (HR3.out.chg hc34 (by simp)); have hb4 := (hC4.block w3.heap.size (by simp) (by simp)).trans (new_block w3 (.cells #[.bool false, .slice none 0 0, .slice none 0 0] 24)); have q0 := cell_of_block hb4 0; have q1 := cell_of_block hb4 1; have q2 := cell_of_block hb4 2; have r0 := frozen_of_block hb4 0; have r1 := frozen_of_block hb4 1; have r2 := frozen_of_block hb4 2; have lq := heap_lt hb4; simp only [List.getElem?_toArray, List.getElem?_cons_zero, List.getElem?_cons_succ] at q0 q1 q2; have HB4 := Lib.hid hb4; clear hR4 hC4 hc34 hb4))
    all_goals
      clear cA1 cA1' cA2 cA2' xa0 xa1 xa2 x0 x1 x2 y0 y1 y2 z0 z1 z2
      go_wp2_with fail
      go_meet
      first
      | (with_reducible refine ⟨_, _, _, rfl, ord_new ?_ ?_ ?_ ?_ ?_ ?_⟩
         · exact (HC04.out.block _ (heap_lt X2.out) (by simp)).trans X2.out
         · exact C2.out.trans HC04.out
         · exact row_in HR34.out (by omega)
         · exact row_in HR4.out (by omega)
         · intro p c hp; injection hp with hp; injection hp with hp; subst hp; simp <;> omega
         · intro p c hp; injection hp with hp; injection hp with hp; subst hp; simp <;> omega)
      | (with_reducible refine ⟨_, _, _, rfl, ord_set HB4.out ?_ ?_ ?_ ?_ ?_ ?_ ?_⟩
         · omega
         · exact (HC04.out.block _ (heap_lt X2.out) (by simp)).trans X2.out
         · exact C2.out.trans HC04.out
         · exact row_in HR34.out (by omega)
         · exact row_in HR4.out (by omega)
         · intro p c hp; injection hp with hp; injection hp with hp; subst hp; simp <;> omega
         · intro p c hp; injection hp with hp; injection hp with hp; subst hp; simp <;> omega)
  case rest =>
    obtain ⟨lb, a1, a2, rfl, M⟩ := hcut
    have HM := Lib.hid M
    clear M K2 V2 X2 C2
    go_upto_region 5 with fail
    go_cut [] (fun wx => ∃ u v, OrdMid w wx l n keys vals kb ko ck vb vo cv lb u v (i + (n - (i + 1))) (delF keys i) (delF vals i))
    case first =>
      have x0 := cell_of_block HM.out.hX 0
      have x1 := cell_of_block HM.out.hX 1
      have x2 := cell_of_block HM.out.hX 2
      simp only [List.getElem?_toArray, List.getElem?_cons_zero, List.getElem?_cons_succ] at x0 x1 x2
      have y0 := cell_of_block HM.out.hL 0
      have y1 := cell_of_block HM.out.hL 1
      have y2 := cell_of_block HM.out.hL 2
      simp only [List.getElem?_toArray, List.getElem?_cons_zero, List.getElem?_cons_succ] at y0 y1 y2
      have lX := HM.out.lX
      have lx := heap_lt HM.out.hX
      have ly := heap_lt HM.out.hL
      have f1 := frozen_of_block HM.out.hL 1
      have f2 := frozen_of_block HM.out.hL 2
      have j1 : (i : Int) + 1 ≤ (n : Int) := by omega
      have u5 : IntKind.i64.wrap ((i : Int) + 1) = (i : Int) + 1 := IntWalk.i64_in _ (by omega)
      have j2 : (0 : Int) ≤ (i : Int) + 1 := by omega
      have j3 : ((i : Int) + 1).toNat = i + 1 := by omega
      by_cases hm : i + 1 < n
      · have e1 : ¬ ck = i + 1 := by omega
        have e2 : ¬ cv = i + 1 := by omega
        have HO1 := Lib.hid (num_cells HM.out.hK)
        have HN1 := Lib.hid (rest_in (HK.out.chg HM.out.C (by simp)) (show i + 1 ≤ n by omega))
        refine wp_region_held_drew (S := (fun w' => w'.cell? ⟨w.heap.size, 0, none⟩ = some (.bool l) ∧ w'.cell? ⟨w.heap.size, 1, none⟩ = some (.slice (some ⟨kb, ko, none⟩) n ck) ∧ w'.cell? ⟨w.heap.size, 2, none⟩ = some (.slice (some ⟨vb, vo, none⟩) n cv))) (by kernel_rfl) (by exact ⟨x0, x1, x2⟩) (fun hHeld => ?_)
        refine wpAnyH_take (i := 0) (oi := ?_) (v := ?_) ?_ (by kernel_rfl) (by kernel_rfl) (by kernel_rfl) ?_ (Or.inl ⟨?_, ?_⟩) hHeld ?_
        rotate_left 2
        · (simp only [List.getElem?_toArray, List.getElem?_cons_succ, List.getElem?_cons_zero]; rfl)
        · exact fun _ _ _ h => h
        · rfl
        · (intro w hSw; go_simp; first | done | with_reducible rfl)
        try simp only [Act.put, List.setIfInBounds_toArray, List.set_cons_zero, List.set_cons_succ]
        refine wpAnyH_take (i := 2) (oi := ?_) (v := ?_) ?_ (by kernel_rfl) (by kernel_rfl) (by kernel_rfl) ?_ (Or.inl ⟨?_, ?_⟩) hHeld ?_
        rotate_left 2
        · (simp only [List.getElem?_toArray, List.getElem?_cons_succ, List.getElem?_cons_zero]; rfl)
        · exact fun _ _ _ h => h
        · rfl
        · (intro w hSw; go_simp; first | done | with_reducible rfl)
        try simp only [Act.put, List.setIfInBounds_toArray, List.set_cons_zero, List.set_cons_succ]
        refine wpAnyH_take (i := 3) (oi := ?_) (v := ?_) ?_ (by kernel_rfl) (by kernel_rfl) (by kernel_rfl) ?_ (Or.inl ⟨?_, ?_⟩) hHeld ?_
        rotate_left 2
        · (simp only [List.getElem?_toArray, List.getElem?_cons_succ, List.getElem?_cons_zero]; rfl)
        · exact fun _ _ _ h => h
        · rfl
        · (intro w hSw; go_simp; first | done | with_reducible rfl)
        try simp only [Act.put, List.setIfInBounds_toArray, List.set_cons_zero, List.set_cons_succ]
        refine wpAnyH_take (i := 4) (oi := ?_) (v := ?_) ?_ (by kernel_rfl) (by kernel_rfl) (by kernel_rfl) ?_ (Or.inl ⟨?_, ?_⟩) hHeld ?_
        rotate_left 2
        · (simp only [List.getElem?_toArray, List.getElem?_cons_succ, List.getElem?_cons_zero]; rfl)
        · exact fun _ _ _ h => h
        · rfl
        · (intro w hSw; go_simp; first | done | with_reducible rfl)
        try simp only [Act.put, List.setIfInBounds_toArray, List.set_cons_zero, List.set_cons_succ]
        refine wpAnyH_take (i := 5) (oi := ?_) (v := ?_) ?_ (by kernel_rfl) (by kernel_rfl) (by kernel_rfl) ?_ (Or.inl ⟨?_, ?_⟩) hHeld ?_
        rotate_left 2
        · (simp only [List.getElem?_toArray, List.getElem?_cons_succ, List.getElem?_cons_zero]; rfl)
        · exact fun _ _ _ h => h
        · rfl
        · (intro w hSw; go_simp; first | done | with_reducible rfl)
        try simp only [Act.put, List.setIfInBounds_toArray, List.set_cons_zero, List.set_cons_succ]
        refine wpAnyH_take (i := 6) (oi := ?_) (v := ?_) ?_ (by kernel_rfl) (by kernel_rfl) (by kernel_rfl) ?_ (Or.inl ⟨?_, ?_⟩) hHeld ?_
        rotate_left 2
        · (simp only [List.getElem?_toArray, List.getElem?_cons_succ, List.getElem?_cons_zero]; rfl)
        · exact fun _ _ _ h => h
        · rfl
        · (intro w hSw; go_simp; first | done | with_reducible rfl)
        try simp only [Act.put, List.setIfInBounds_toArray, List.set_cons_zero, List.set_cons_succ]
        refine wpAnyH_take (i := 8) (oi := ?_) (v := ?_) ?_ (by kernel_rfl) (by kernel_rfl) (by kernel_rfl) ?_ (Or.inl ⟨?_, ?_⟩) hHeld ?_
        rotate_left 2
        · (simp only [List.getElem?_toArray, List.getElem?_cons_succ, List.getElem?_cons_zero]; rfl)
        · exact fun _ _ _ h => h
        · rfl
        · (intro w hSw; go_simp; first | done | with_reducible rfl)
        try simp only [Act.put, List.setIfInBounds_toArray, List.set_cons_zero, List.set_cons_succ]
        refine wpAnyH_take (i := 10) (oi := ?_) (v := ?_) ?_ (by kernel_rfl) (by kernel_rfl) (by kernel_rfl) ?_ (Or.inl ⟨?_, ?_⟩) hHeld ?_
        rotate_left 2
        · (simp only [List.getElem?_toArray, List.getElem?_cons_succ, List.getElem?_cons_zero]; rfl)
        · exact fun _ _ _ h => h
        · rfl
        · (intro w hSw; go_simp; first | done | with_reducible rfl)
        try simp only [Act.put, List.setIfInBounds_toArray, List.set_cons_zero, List.set_cons_succ]
        refine wpAnyH_take (i := 11) (oi := ?_) (v := ?_) ?_ (by kernel_rfl) (by kernel_rfl) (by kernel_rfl) ?_ (Or.inl ⟨?_, ?_⟩) hHeld ?_
        rotate_left 2
        · (simp only [List.getElem?_toArray, List.getElem?_cons_succ, List.getElem?_cons_zero]; rfl)
        · exact fun _ _ _ h => h
        · rfl
        · (intro w hSw; go_simp; first | done | with_reducible rfl)
        try simp only [Act.put, List.setIfInBounds_toArray, List.set_cons_zero, List.set_cons_succ]
        refine wpAnyH_take (i := 12) (oi := ?_) (v := ?_) ?_ (by kernel_rfl) (by kernel_rfl) (by kernel_rfl) ?_ (Or.inl ⟨?_, ?_⟩) hHeld ?_
        rotate_left 2
        · (simp only [List.getElem?_toArray, List.getElem?_cons_succ, List.getElem?_cons_zero]; rfl)
        · exact fun _ _ _ h => h
        · rfl
        · (intro w hSw; go_simp; first | done | with_reducible rfl)
        try simp only [Act.put, List.setIfInBounds_toArray, List.set_cons_zero, List.set_cons_succ]
        refine wpAnyH_take (i := 13) (oi := ?_) (v := ?_) ?_ (by kernel_rfl) (by kernel_rfl) (by kernel_rfl) ?_ (Or.inl ⟨?_, ?_⟩) hHeld ?_
        rotate_left 2
        · (simp only [List.getElem?_toArray, List.getElem?_cons_succ, List.getElem?_cons_zero]; rfl)
        · exact fun _ _ _ h => h
        · rfl
        · (intro w hSw; go_simp; first | done | with_reducible rfl)
        try simp only [Act.put, List.setIfInBounds_toArray, List.set_cons_zero, List.set_cons_succ]
        refine wpAnyH_take (i := 14) (oi := ?_) (v := ?_) ?_ (by kernel_rfl) (by kernel_rfl) (by kernel_rfl) ?_ (Or.inl ⟨?_, ?_⟩) hHeld ?_
        rotate_left 2
        · (simp only [List.getElem?_toArray, List.getElem?_cons_succ, List.getElem?_cons_zero]; rfl)
        · exact fun _ _ _ h => h
        · rfl
        · (intro w hSw; go_simp; first | done | with_reducible rfl)
        try simp only [Act.put, List.setIfInBounds_toArray, List.set_cons_zero, List.set_cons_succ]
        refine wpAnyH_ready (rs := [1, 9]) (by kernel_rfl) (by simp) ?_
        refine AllReadyH.cons (o := ?_) ?_ (fun K hK => ?_) ?_
        rotate_left 1
        · (simp only [List.getElem?_toArray, List.getElem?_cons_succ, List.getElem?_cons_zero]; rfl)
        · go_simp
          refine hK.out _ _ ?_ (fun hHeld => ?_)
          · exact ⟨x0, x1, x2⟩
          clear hK K
          try simp only [Act.put, List.setIfInBounds_toArray, List.set_cons_zero, List.set_cons_succ]
          refine wpAnyH_ready (rs := [7, 9]) (by kernel_rfl) (by simp) ?_
          refine AllReadyH.cons (o := ?_) ?_ (fun K hK => ?_) ?_
          rotate_left 1
          · (simp only [List.getElem?_toArray, List.getElem?_cons_succ, List.getElem?_cons_zero]; rfl)
          · ((refine step_append_grows rfl (.tmp 59) (.tmp 64) 22 rfl 43 i00 (.int .u64 0) 1 8 Try.underlying22 Hi.out hz0 hz1 hz2 rfl (by decide) (some ⟨a1, 0, none⟩) i i ((List.range i).map fun k => Value.int .u64 (keys k : Int)) (by simp [Act.eval, Act.put]) (by simp) (by simp) (fun b hb => by injection hb with hb; subst hb; exact HO1.out) ⟨kb, ko + (i + 1), none⟩ (n - (i + 1)) (ck - (i + 1)) ((List.range (n - (i + 1))).map fun k => Value.int .u64 (keys (i + 1 + k) : Int)) (by simp [Act.eval, Act.put]) (by simp) HN1.out (by intro u hu; obtain ⟨q, _, rfl⟩ := List.mem_map.1 hu; rfl) (by omega) (by unfold maxLen; omega) (by omega) ?_); intro v5 w5 hown hgrow; obtain ⟨g5, c5, rfl, hg5, hn5⟩ := grown_nums hown (del_list keys i (n - (i + 1))) (by omega) (del_lt bK.out (by omega)); have hc5 : Chg [] wc w5 := (Chg.drew (Chg.refl [] wc)).grown hgrow (by simp); have X5 := (hc5.block _ (heap_lt HM.out.hX) (by simp)).trans HM.out.hX; have L5 := (hc5.block _ (heap_lt HM.out.hL) (by simp)).trans HM.out.hL; have p0 := cell_of_block X5 0; have p1 := cell_of_block X5 1; have p2 := cell_of_block X5 2; simp only [List.getElem?_toArray, List.getElem?_cons_zero, List.getElem?_cons_succ] at p0 p1 p2; have q0 := cell_of_block L5 0; have q1 := cell_of_block L5 1; have q2 := cell_of_block L5 2; simp only [List.getElem?_toArray, List.getElem?_cons_zero, List.getElem?_cons_succ] at q0 q1 q2; have qf1 := frozen_of_block L5 1; have qf2 := frozen_of_block L5 2; have ql := heap_lt L5; have HO2 := Lib.hid (num_cells (HM.out.hV.chg hc5 (by simp))); have HN2 := Lib.hid (rest_in (HV.out.chg (HM.out.C.trans hc5) (by simp)) (show i + 1 ≤ n by omega)); have N5 := Lib.hid hn5; have C5 := Lib.hid hc5; clear hown hgrow hn5 hc5 X5 L5)
            refine hK.out _ _ ?_ (fun hHeld => ?_)
            · exact ⟨p0, p1, p2⟩
            clear hK K
            try simp only [Act.put, List.setIfInBounds_toArray, List.set_cons_zero, List.set_cons_succ]
            refine wpAnyH_ready (rs := [9]) (by kernel_rfl) (by simp) ?_
            refine AllReadyH.cons (o := ?_) ?_ (fun K hK => ?_) AllReadyH.nil
            rotate_left 1
            · (simp only [List.getElem?_toArray, List.getElem?_cons_succ, List.getElem?_cons_zero]; rfl)
            · go_simp
              refine hK.out _ _ ?_ (fun hHeld => ?_)
              · exact ⟨p0, p1, p2⟩
              clear hK K
              try simp only [Act.put, List.setIfInBounds_toArray, List.set_cons_zero, List.set_cons_succ]
              refine wpAnyH_take (i := 16) (oi := ?_) (v := ?_) ?_ (by kernel_rfl) (by kernel_rfl) (by kernel_rfl) ?_ (Or.inl ⟨?_, ?_⟩) hHeld ?_
              rotate_left 2
              · (simp only [List.getElem?_toArray, List.getElem?_cons_succ, List.getElem?_cons_zero]; rfl)
              · exact fun _ _ _ h => h
              · rfl
              · (intro w hSw; go_simp; first | done | with_reducible rfl)
              try simp only [Act.put, List.setIfInBounds_toArray, List.set_cons_zero, List.set_cons_succ]
              refine wpAnyH_ready (rs := [15]) (by kernel_rfl) (by simp) ?_
              refine AllReadyH.cons (o := ?_) ?_ (fun K hK => ?_) AllReadyH.nil
              rotate_left 1
              · (simp only [List.getElem?_toArray, List.getElem?_cons_succ, List.getElem?_cons_zero]; rfl)
              · ((refine step_append_grows rfl (.tmp 67) (.tmp 72) 22 rfl 43 i00 (.int .u64 0) 1 8 Try.underlying22 Hi.out hz0 hz1 hz2 rfl (by decide) (some ⟨a2, 0, none⟩) i i ((List.range i).map fun k => Value.int .u64 (vals k : Int)) (by simp [Act.eval, Act.put]) (by simp) (by simp) (fun b hb => by injection hb with hb; subst hb; exact HO2.out) ⟨vb, vo + (i + 1), none⟩ (n - (i + 1)) (cv - (i + 1)) ((List.range (n - (i + 1))).map fun k => Value.int .u64 (vals (i + 1 + k) : Int)) (by simp [Act.eval, Act.put]) (by simp) HN2.out (by intro u hu; obtain ⟨q, _, rfl⟩ := List.mem_map.1 hu; rfl) (by omega) (by unfold maxLen; omega) (by omega) ?_); intro v6 w6 hown hgrow; obtain ⟨g6, c6, rfl, hg6, hn6⟩ := grown_nums hown (del_list vals i (n - (i + 1))) (by omega) (del_lt bV.out (by omega)); have hc6 : Chg [] w5 w6 := (Chg.refl [] w5).grown hgrow (by simp); have C6 := Lib.hid (C5.out.trans hc6); have X6 := (C6.out.block _ (heap_lt HM.out.hX) (by simp)).trans HM.out.hX; have L6 := (C6.out.block _ (heap_lt HM.out.hL) (by simp)).trans HM.out.hL; have r0 := cell_of_block X6 0; have r1 := cell_of_block X6 1; have r2 := cell_of_block X6 2; simp only [List.getElem?_toArray, List.getElem?_cons_zero, List.getElem?_cons_succ] at r0 r1 r2; have s0 := cell_of_block L6 0; have s1 := cell_of_block L6 1; have s2 := cell_of_block L6 2; simp only [List.getElem?_toArray, List.getElem?_cons_zero, List.getElem?_cons_succ] at s0 s1 s2; have sf1 := frozen_of_block L6 1; have sf2 := frozen_of_block L6 2; have sl := heap_lt L6; have N6 := Lib.hid hn6; have N56 := Lib.hid (N5.out.chg hc6 (by simp)); have XX := Lib.hid X6; have LL := Lib.hid L6; clear hown hgrow hn6 hc6 X6 L6)
                refine hK.out _ _ ?_ (fun hHeld => ?_)
                · exact ⟨r0, r1, r2⟩
                clear hK K
                try simp only [Act.put, List.setIfInBounds_toArray, List.set_cons_zero, List.set_cons_succ]
                refine wpAnyH_ready (rs := [17]) (by kernel_rfl) (by simp) ?_
                refine AllReadyH.cons (o := ?_) ?_ (fun K hK => ?_) AllReadyH.nil
                rotate_left 1
                · (simp only [List.getElem?_toArray, List.getElem?_cons_succ, List.getElem?_cons_zero]; rfl)
                · go_simp
                  refine hK.out _ _ ?_ (fun hHeld => ?_)
                  · exact ⟨keep1 r0 (by omega), keep1 r1 (by omega), keep1 r2 (by omega)⟩
                  clear hK K
                  try simp only [Act.put, List.setIfInBounds_toArray, List.set_cons_zero, List.set_cons_succ]
                  refine wpAnyH_take (i := 18) (oi := ?_) (v := ?_) ?_ (by kernel_rfl) (by kernel_rfl) (by kernel_rfl) ?_ (Or.inl ⟨?_, ?_⟩) hHeld ?_
                  rotate_left 2
                  · (simp only [List.getElem?_toArray, List.getElem?_cons_succ, List.getElem?_cons_zero]; rfl)
                  · exact fun _ _ _ h => h
                  · rfl
                  · (intro w hSw; go_simp; first | done | with_reducible rfl)
                  try simp only [Act.put, List.setIfInBounds_toArray, List.set_cons_zero, List.set_cons_succ]
                  refine wpAnyH_ready (rs := [19]) (by kernel_rfl) (by simp) ?_
                  refine AllReadyH.cons (o := ?_) ?_ (fun K hK => ?_) AllReadyH.nil
                  rotate_left 1
                  · (simp only [List.getElem?_toArray, List.getElem?_cons_succ, List.getElem?_cons_zero]; rfl)
                  · go_simp
                    refine hK.out _ _ ?_ (fun hHeld => ?_)
                    · exact ⟨keep1 (keep1 r0 (by omega)) (by omega), keep1 (keep1 r1 (by omega)) (by omega), keep1 (keep1 r2 (by omega)) (by omega)⟩
                    clear hK K
                    try simp only [Act.put, List.setIfInBounds_toArray, List.set_cons_zero, List.set_cons_succ]
                    refine wpAnyH_done (by kernel_rfl) ?_ _
                    go_wp2_with fail
                    go_meet
                    (with_reducible refine ⟨_, _, ord_two LL.out lX XX.out (HM.out.C.trans C6.out) N56.out N6.out ?_ ?_⟩)
                    · intro p c hp; injection hp with hp; injection hp with hp; subst hp; simp only [drew_heap] at hg5; simp; omega
                    · intro p c hp; injection hp with hp; injection hp with hp; subst hp; have := C5.out.size; simp; omega
          refine AllReadyH.cons (o := ?_) ?_ (fun K hK => ?_) AllReadyH.nil
          rotate_left 1
          · (simp only [List.getElem?_toArray, List.getElem?_cons_succ, List.getElem?_cons_zero]; rfl)
          · go_simp
            refine hK.out _ _ ?_ (fun hHeld => ?_)
            · exact ⟨x0, x1, x2⟩
            clear hK K
            try simp only [Act.put, List.setIfInBounds_toArray, List.set_cons_zero, List.set_cons_succ]
            refine wpAnyH_ready (rs := [7]) (by kernel_rfl) (by simp) ?_
            refine AllReadyH.cons (o := ?_) ?_ (fun K hK => ?_) AllReadyH.nil
            rotate_left 1
            · (simp only [List.getElem?_toArray, List.getElem?_cons_succ, List.getElem?_cons_zero]; rfl)
            · ((refine step_append_grows rfl (.tmp 59) (.tmp 64) 22 rfl 43 i00 (.int .u64 0) 1 8 Try.underlying22 Hi.out hz0 hz1 hz2 rfl (by decide) (some ⟨a1, 0, none⟩) i i ((List.range i).map fun k => Value.int .u64 (keys k : Int)) (by simp [Act.eval, Act.put]) (by simp) (by simp) (fun b hb => by injection hb with hb; subst hb; exact HO1.out) ⟨kb, ko + (i + 1), none⟩ (n - (i + 1)) (ck - (i + 1)) ((List.range (n - (i + 1))).map fun k => Value.int .u64 (keys (i + 1 + k) : Int)) (by simp [Act.eval, Act.put]) (by simp) HN1.out (by intro u hu; obtain ⟨q, _, rfl⟩ := List.mem_map.1 hu; rfl) (by omega) (by unfold maxLen; omega) (by omega) ?_); intro v5 w5 hown hgrow; obtain ⟨g5, c5, rfl, hg5, hn5⟩ := grown_nums hown (del_list keys i (n - (i + 1))) (by omega) (del_lt bK.out (by omega)); have hc5 : Chg [] wc w5 := (Chg.drew (Chg.refl [] wc)).grown hgrow (by simp); have X5 := (hc5.block _ (heap_lt HM.out.hX) (by simp)).trans HM.out.hX; have L5 := (hc5.block _ (heap_lt HM.out.hL) (by simp)).trans HM.out.hL; have p0 := cell_of_block X5 0; have p1 := cell_of_block X5 1; have p2 := cell_of_block X5 2; simp only [List.getElem?_toArray, List.getElem?_cons_zero, List.getElem?_cons_succ] at p0 p1 p2; have q0 := cell_of_block L5 0; have q1 := cell_of_block L5 1; have q2 := cell_of_block L5 2; simp only [List.getElem?_toArray, List.getElem?_cons_zero, List.getElem?_cons_succ] at q0 q1 q2; have qf1 := frozen_of_block L5 1; have qf2 := frozen_of_block L5 2; have ql := heap_lt L5; have HO2 := Lib.hid (num_cells (HM.out.hV.chg hc5 (by simp))); have HN2 := Lib.hid (rest_in (HV.out.chg (HM.out.C.trans hc5) (by simp)) (show i + 1 ≤ n by omega)); have N5 := Lib.hid hn5; have C5 := Lib.hid hc5; clear hown hgrow hn5 hc5 X5 L5)
              refine hK.out _ _ ?_ (fun hHeld => ?_)
              · exact ⟨p0, p1, p2⟩
              clear hK K
              try simp only [Act.put, List.setIfInBounds_toArray, List.set_cons_zero, List.set_cons_succ]
              refine wpAnyH_take (i := 16) (oi := ?_) (v := ?_) ?_ (by kernel_rfl) (by kernel_rfl) (by kernel_rfl) ?_ (Or.inl ⟨?_, ?_⟩) hHeld ?_
              rotate_left 2
              · (simp only [List.getElem?_toArray, List.getElem?_cons_succ, List.getElem?_cons_zero]; rfl)
              · exact fun _ _ _ h => h
              · rfl
              · (intro w hSw; go_simp; first | done | with_reducible rfl)
              try simp only [Act.put, List.setIfInBounds_toArray, List.set_cons_zero, List.set_cons_succ]
              refine wpAnyH_ready (rs := [15]) (by kernel_rfl) (by simp) ?_
              refine AllReadyH.cons (o := ?_) ?_ (fun K hK => ?_) AllReadyH.nil
              rotate_left 1
              · (simp only [List.getElem?_toArray, List.getElem?_cons_succ, List.getElem?_cons_zero]; rfl)
              · ((refine step_append_grows rfl (.tmp 67) (.tmp 72) 22 rfl 43 i00 (.int .u64 0) 1 8 Try.underlying22 Hi.out hz0 hz1 hz2 rfl (by decide) (some ⟨a2, 0, none⟩) i i ((List.range i).map fun k => Value.int .u64 (vals k : Int)) (by simp [Act.eval, Act.put]) (by simp) (by simp) (fun b hb => by injection hb with hb; subst hb; exact HO2.out) ⟨vb, vo + (i + 1), none⟩ (n - (i + 1)) (cv - (i + 1)) ((List.range (n - (i + 1))).map fun k => Value.int .u64 (vals (i + 1 + k) : Int)) (by simp [Act.eval, Act.put]) (by simp) HN2.out (by intro u hu; obtain ⟨q, _, rfl⟩ := List.mem_map.1 hu; rfl) (by omega) (by unfold maxLen; omega) (by omega) ?_); intro v6 w6 hown hgrow; obtain ⟨g6, c6, rfl, hg6, hn6⟩ := grown_nums hown (del_list vals i (n - (i + 1))) (by omega) (del_lt bV.out (by omega)); have hc6 : Chg [] w5 w6 := (Chg.refl [] w5).grown hgrow (by simp); have C6 := Lib.hid (C5.out.trans hc6); have X6 := (C6.out.block _ (heap_lt HM.out.hX) (by simp)).trans HM.out.hX; have L6 := (C6.out.block _ (heap_lt HM.out.hL) (by simp)).trans HM.out.hL; have r0 := cell_of_block X6 0; have r1 := cell_of_block X6 1; have r2 := cell_of_block X6 2; simp only [List.getElem?_toArray, List.getElem?_cons_zero, List.getElem?_cons_succ] at r0 r1 r2; have s0 := cell_of_block L6 0; have s1 := cell_of_block L6 1; have s2 := cell_of_block L6 2; simp only [List.getElem?_toArray, List.getElem?_cons_zero, List.getElem?_cons_succ] at s0 s1 s2; have sf1 := frozen_of_block L6 1; have sf2 := frozen_of_block L6 2; have sl := heap_lt L6; have N6 := Lib.hid hn6; have N56 := Lib.hid (N5.out.chg hc6 (by simp)); have XX := Lib.hid X6; have LL := Lib.hid L6; clear hown hgrow hn6 hc6 X6 L6)
                refine hK.out _ _ ?_ (fun hHeld => ?_)
                · exact ⟨r0, r1, r2⟩
                clear hK K
                try simp only [Act.put, List.setIfInBounds_toArray, List.set_cons_zero, List.set_cons_succ]
                refine wpAnyH_ready (rs := [17]) (by kernel_rfl) (by simp) ?_
                refine AllReadyH.cons (o := ?_) ?_ (fun K hK => ?_) AllReadyH.nil
                rotate_left 1
                · (simp only [List.getElem?_toArray, List.getElem?_cons_succ, List.getElem?_cons_zero]; rfl)
                · go_simp
                  refine hK.out _ _ ?_ (fun hHeld => ?_)
                  · exact ⟨keep1 r0 (by omega), keep1 r1 (by omega), keep1 r2 (by omega)⟩
                  clear hK K
                  try simp only [Act.put, List.setIfInBounds_toArray, List.set_cons_zero, List.set_cons_succ]
                  refine wpAnyH_take (i := 18) (oi := ?_) (v := ?_) ?_ (by kernel_rfl) (by kernel_rfl) (by kernel_rfl) ?_ (Or.inl ⟨?_, ?_⟩) hHeld ?_
                  rotate_left 2
                  · (simp only [List.getElem?_toArray, List.getElem?_cons_succ, List.getElem?_cons_zero]; rfl)
                  · exact fun _ _ _ h => h
                  · rfl
                  · (intro w hSw; go_simp; first | done | with_reducible rfl)
                  try simp only [Act.put, List.setIfInBounds_toArray, List.set_cons_zero, List.set_cons_succ]
                  refine wpAnyH_ready (rs := [19]) (by kernel_rfl) (by simp) ?_
                  refine AllReadyH.cons (o := ?_) ?_ (fun K hK => ?_) AllReadyH.nil
                  rotate_left 1
                  · (simp only [List.getElem?_toArray, List.getElem?_cons_succ, List.getElem?_cons_zero]; rfl)
                  · go_simp
                    refine hK.out _ _ ?_ (fun hHeld => ?_)
                    · exact ⟨keep1 (keep1 r0 (by omega)) (by omega), keep1 (keep1 r1 (by omega)) (by omega), keep1 (keep1 r2 (by omega)) (by omega)⟩
                    clear hK K
                    try simp only [Act.put, List.setIfInBounds_toArray, List.set_cons_zero, List.set_cons_succ]
                    refine wpAnyH_done (by kernel_rfl) ?_ _
                    go_wp2_with fail
                    go_meet
                    (with_reducible refine ⟨_, _, ord_two LL.out lX XX.out (HM.out.C.trans C6.out) N56.out N6.out ?_ ?_⟩)
                    · intro p c hp; injection hp with hp; injection hp with hp; subst hp; simp only [drew_heap] at hg5; simp; omega
                    · intro p c hp; injection hp with hp; injection hp with hp; subst hp; have := C5.out.size; simp; omega
        refine AllReadyH.cons (o := ?_) ?_ (fun K hK => ?_) AllReadyH.nil
        rotate_left 1
        · (simp only [List.getElem?_toArray, List.getElem?_cons_succ, List.getElem?_cons_zero]; rfl)
        · go_simp
          refine hK.out _ _ ?_ (fun hHeld => ?_)
          · exact ⟨x0, x1, x2⟩
          clear hK K
          try simp only [Act.put, List.setIfInBounds_toArray, List.set_cons_zero, List.set_cons_succ]
          refine wpAnyH_ready (rs := [1]) (by kernel_rfl) (by simp) ?_
          refine AllReadyH.cons (o := ?_) ?_ (fun K hK => ?_) AllReadyH.nil
          rotate_left 1
          · (simp only [List.getElem?_toArray, List.getElem?_cons_succ, List.getElem?_cons_zero]; rfl)
          · go_simp
            refine hK.out _ _ ?_ (fun hHeld => ?_)
            · exact ⟨x0, x1, x2⟩
            clear hK K
            try simp only [Act.put, List.setIfInBounds_toArray, List.set_cons_zero, List.set_cons_succ]
            refine wpAnyH_ready (rs := [7]) (by kernel_rfl) (by simp) ?_
            refine AllReadyH.cons (o := ?_) ?_ (fun K hK => ?_) AllReadyH.nil
            rotate_left 1
            · (simp only [List.getElem?_toArray, List.getElem?_cons_succ, List.getElem?_cons_zero]; rfl)
            · ((refine step_append_grows rfl (.tmp 59) (.tmp 64) 22 rfl 43 i00 (.int .u64 0) 1 8 Try.underlying22 Hi.out hz0 hz1 hz2 rfl (by decide) (some ⟨a1, 0, none⟩) i i ((List.range i).map fun k => Value.int .u64 (keys k : Int)) (by simp [Act.eval, Act.put]) (by simp) (by simp) (fun b hb => by injection hb with hb; subst hb; exact HO1.out) ⟨kb, ko + (i + 1), none⟩ (n - (i + 1)) (ck - (i + 1)) ((List.range (n - (i + 1))).map fun k => Value.int .u64 (keys (i + 1 + k) : Int)) (by simp [Act.eval, Act.put]) (by simp) HN1.out (by intro u hu; obtain ⟨q, _, rfl⟩ := List.mem_map.1 hu; rfl) (by omega) (by unfold maxLen; omega) (by omega) ?_); intro v5 w5 hown hgrow; obtain ⟨g5, c5, rfl, hg5, hn5⟩ := grown_nums hown (del_list keys i (n - (i + 1))) (by omega) (del_lt bK.out (by omega)); have hc5 : Chg [] wc w5 := (Chg.drew (Chg.refl [] wc)).grown hgrow (by simp); have X5 := (hc5.block _ (heap_lt HM.out.hX) (by simp)).trans HM.out.hX; have L5 := (hc5.block _ (heap_lt HM.out.hL) (by simp)).trans HM.out.hL; have p0 := cell_of_block X5 0; have p1 := cell_of_block X5 1; have p2 := cell_of_block X5 2; simp only [List.getElem?_toArray, List.getElem?_cons_zero, List.getElem?_cons_succ] at p0 p1 p2; have q0 := cell_of_block L5 0; have q1 := cell_of_block L5 1; have q2 := cell_of_block L5 2; simp only [List.getElem?_toArray, List.getElem?_cons_zero, List.getElem?_cons_succ] at q0 q1 q2; have qf1 := frozen_of_block L5 1; have qf2 := frozen_of_block L5 2; have ql := heap_lt L5; have HO2 := Lib.hid (num_cells (HM.out.hV.chg hc5 (by simp))); have HN2 := Lib.hid (rest_in (HV.out.chg (HM.out.C.trans hc5) (by simp)) (show i + 1 ≤ n by omega)); have N5 := Lib.hid hn5; have C5 := Lib.hid hc5; clear hown hgrow hn5 hc5 X5 L5)
              refine hK.out _ _ ?_ (fun hHeld => ?_)
              · exact ⟨p0, p1, p2⟩
              clear hK K
              try simp only [Act.put, List.setIfInBounds_toArray, List.set_cons_zero, List.set_cons_succ]
              refine wpAnyH_take (i := 16) (oi := ?_) (v := ?_) ?_ (by kernel_rfl) (by kernel_rfl) (by kernel_rfl) ?_ (Or.inl ⟨?_, ?_⟩) hHeld ?_
              rotate_left 2
              · (simp only [List.getElem?_toArray, List.getElem?_cons_succ, List.getElem?_cons_zero]; rfl)
              · exact fun _ _ _ h => h
              · rfl
              · (intro w hSw; go_simp; first | done | with_reducible rfl)
              try simp only [Act.put, List.setIfInBounds_toArray, List.set_cons_zero, List.set_cons_succ]
              refine wpAnyH_ready (rs := [15]) (by kernel_rfl) (by simp) ?_
              refine AllReadyH.cons (o := ?_) ?_ (fun K hK => ?_) AllReadyH.nil
              rotate_left 1
              · (simp only [List.getElem?_toArray, List.getElem?_cons_succ, List.getElem?_cons_zero]; rfl)
              · ((refine step_append_grows rfl (.tmp 67) (.tmp 72) 22 rfl 43 i00 (.int .u64 0) 1 8 Try.underlying22 Hi.out hz0 hz1 hz2 rfl (by decide) (some ⟨a2, 0, none⟩) i i ((List.range i).map fun k => Value.int .u64 (vals k : Int)) (by simp [Act.eval, Act.put]) (by simp) (by simp) (fun b hb => by injection hb with hb; subst hb; exact HO2.out) ⟨vb, vo + (i + 1), none⟩ (n - (i + 1)) (cv - (i + 1)) ((List.range (n - (i + 1))).map fun k => Value.int .u64 (vals (i + 1 + k) : Int)) (by simp [Act.eval, Act.put]) (by simp) HN2.out (by intro u hu; obtain ⟨q, _, rfl⟩ := List.mem_map.1 hu; rfl) (by omega) (by unfold maxLen; omega) (by omega) ?_); intro v6 w6 hown hgrow; obtain ⟨g6, c6, rfl, hg6, hn6⟩ := grown_nums hown (del_list vals i (n - (i + 1))) (by omega) (del_lt bV.out (by omega)); have hc6 : Chg [] w5 w6 := (Chg.refl [] w5).grown hgrow (by simp); have C6 := Lib.hid (C5.out.trans hc6); have X6 := (C6.out.block _ (heap_lt HM.out.hX) (by simp)).trans HM.out.hX; have L6 := (C6.out.block _ (heap_lt HM.out.hL) (by simp)).trans HM.out.hL; have r0 := cell_of_block X6 0; have r1 := cell_of_block X6 1; have r2 := cell_of_block X6 2; simp only [List.getElem?_toArray, List.getElem?_cons_zero, List.getElem?_cons_succ] at r0 r1 r2; have s0 := cell_of_block L6 0; have s1 := cell_of_block L6 1; have s2 := cell_of_block L6 2; simp only [List.getElem?_toArray, List.getElem?_cons_zero, List.getElem?_cons_succ] at s0 s1 s2; have sf1 := frozen_of_block L6 1; have sf2 := frozen_of_block L6 2; have sl := heap_lt L6; have N6 := Lib.hid hn6; have N56 := Lib.hid (N5.out.chg hc6 (by simp)); have XX := Lib.hid X6; have LL := Lib.hid L6; clear hown hgrow hn6 hc6 X6 L6)
                refine hK.out _ _ ?_ (fun hHeld => ?_)
                · exact ⟨r0, r1, r2⟩
                clear hK K
                try simp only [Act.put, List.setIfInBounds_toArray, List.set_cons_zero, List.set_cons_succ]
                refine wpAnyH_ready (rs := [17]) (by kernel_rfl) (by simp) ?_
                refine AllReadyH.cons (o := ?_) ?_ (fun K hK => ?_) AllReadyH.nil
                rotate_left 1
                · (simp only [List.getElem?_toArray, List.getElem?_cons_succ, List.getElem?_cons_zero]; rfl)
                · go_simp
                  refine hK.out _ _ ?_ (fun hHeld => ?_)
                  · exact ⟨keep1 r0 (by omega), keep1 r1 (by omega), keep1 r2 (by omega)⟩
                  clear hK K
                  try simp only [Act.put, List.setIfInBounds_toArray, List.set_cons_zero, List.set_cons_succ]
                  refine wpAnyH_take (i := 18) (oi := ?_) (v := ?_) ?_ (by kernel_rfl) (by kernel_rfl) (by kernel_rfl) ?_ (Or.inl ⟨?_, ?_⟩) hHeld ?_
                  rotate_left 2
                  · (simp only [List.getElem?_toArray, List.getElem?_cons_succ, List.getElem?_cons_zero]; rfl)
                  · exact fun _ _ _ h => h
                  · rfl
                  · (intro w hSw; go_simp; first | done | with_reducible rfl)
                  try simp only [Act.put, List.setIfInBounds_toArray, List.set_cons_zero, List.set_cons_succ]
                  refine wpAnyH_ready (rs := [19]) (by kernel_rfl) (by simp) ?_
                  refine AllReadyH.cons (o := ?_) ?_ (fun K hK => ?_) AllReadyH.nil
                  rotate_left 1
                  · (simp only [List.getElem?_toArray, List.getElem?_cons_succ, List.getElem?_cons_zero]; rfl)
                  · go_simp
                    refine hK.out _ _ ?_ (fun hHeld => ?_)
                    · exact ⟨keep1 (keep1 r0 (by omega)) (by omega), keep1 (keep1 r1 (by omega)) (by omega), keep1 (keep1 r2 (by omega)) (by omega)⟩
                    clear hK K
                    try simp only [Act.put, List.setIfInBounds_toArray, List.set_cons_zero, List.set_cons_succ]
                    refine wpAnyH_done (by kernel_rfl) ?_ _
                    go_wp2_with fail
                    go_meet
                    (with_reducible refine ⟨_, _, ord_two LL.out lX XX.out (HM.out.C.trans C6.out) N56.out N6.out ?_ ?_⟩)
                    · intro p c hp; injection hp with hp; injection hp with hp; subst hp; simp only [drew_heap] at hg5; simp; omega
                    · intro p c hp; injection hp with hp; injection hp with hp; subst hp; have := C5.out.size; simp; omega
      · have hz : n - (i + 1) = 0 := by omega
        have hii : i ≤ i := Nat.le_refl _
        obtain ⟨p1, e1⟩ : ∃ p, (if ck = i + 1 then (some ⟨kb, ko, none⟩ : Option Addr) else some ⟨kb, ko + (i + 1), none⟩) = some p := by split <;> exact ⟨_, rfl⟩
        obtain ⟨p2, e2⟩ : ∃ p, (if cv = i + 1 then (some ⟨vb, vo, none⟩ : Option Addr) else some ⟨vb, vo + (i + 1), none⟩) = some p := by split <;> exact ⟨_, rfl⟩
        have NK := Lib.hid (HM.out.hK.congr (g := delF keys i) (fun j hj => by unfold delF; rw [if_pos hj]))
        have NV := Lib.hid (HM.out.hV.congr (g := delF vals i) (fun j hj => by unfold delF; rw [if_pos hj]))
        refine wp_region_held_drew (S := (fun w' => w'.cell? ⟨w.heap.size, 0, none⟩ = some (.bool l) ∧ w'.cell? ⟨w.heap.size, 1, none⟩ = some (.slice (some ⟨kb, ko, none⟩) n ck) ∧ w'.cell? ⟨w.heap.size, 2, none⟩ = some (.slice (some ⟨vb, vo, none⟩) n cv))) (by kernel_rfl) (by exact ⟨x0, x1, x2⟩) (fun hHeld => ?_)
        refine wpAnyH_take (i := 0) (oi := ?_) (v := ?_) ?_ (by kernel_rfl) (by kernel_rfl) (by kernel_rfl) ?_ (Or.inl ⟨?_, ?_⟩) hHeld ?_
        rotate_left 2
        · (simp only [List.getElem?_toArray, List.getElem?_cons_succ, List.getElem?_cons_zero]; rfl)
        · exact fun _ _ _ h => h
        · rfl
        · (intro w hSw; go_simp; first | done | with_reducible rfl)
        try simp only [Act.put, List.setIfInBounds_toArray, List.set_cons_zero, List.set_cons_succ]
        refine wpAnyH_take (i := 2) (oi := ?_) (v := ?_) ?_ (by kernel_rfl) (by kernel_rfl) (by kernel_rfl) ?_ (Or.inl ⟨?_, ?_⟩) hHeld ?_
        rotate_left 2
        · (simp only [List.getElem?_toArray, List.getElem?_cons_succ, List.getElem?_cons_zero]; rfl)
        · exact fun _ _ _ h => h
        · rfl
        · (intro w hSw; go_simp; first | done | with_reducible rfl)
        try simp only [Act.put, List.setIfInBounds_toArray, List.set_cons_zero, List.set_cons_succ]
        refine wpAnyH_take (i := 3) (oi := ?_) (v := ?_) ?_ (by kernel_rfl) (by kernel_rfl) (by kernel_rfl) ?_ (Or.inl ⟨?_, ?_⟩) hHeld ?_
        rotate_left 2
        · (simp only [List.getElem?_toArray, List.getElem?_cons_succ, List.getElem?_cons_zero]; rfl)
        · exact fun _ _ _ h => h
        · rfl
        · (intro w hSw; go_simp; first | done | with_reducible rfl)
        try simp only [Act.put, List.setIfInBounds_toArray, List.set_cons_zero, List.set_cons_succ]
        refine wpAnyH_take (i := 4) (oi := ?_) (v := ?_) ?_ (by kernel_rfl) (by kernel_rfl) (by kernel_rfl) ?_ (Or.inl ⟨?_, ?_⟩) hHeld ?_
        rotate_left 2
        · (simp only [List.getElem?_toArray, List.getElem?_cons_succ, List.getElem?_cons_zero]; rfl)
        · exact fun _ _ _ h => h
        · rfl
        · (intro w hSw; go_simp; first | done | with_reducible rfl)
        try simp only [Act.put, List.setIfInBounds_toArray, List.set_cons_zero, List.set_cons_succ]
        refine wpAnyH_take (i := 5) (oi := ?_) (v := ?_) ?_ (by kernel_rfl) (by kernel_rfl) (by kernel_rfl) ?_ (Or.inl ⟨?_, ?_⟩) hHeld ?_
        rotate_left 2
        · (simp only [List.getElem?_toArray, List.getElem?_cons_succ, List.getElem?_cons_zero]; rfl)
        · exact fun _ _ _ h => h
        · rfl
        · (intro w hSw; go_simp; first | done | with_reducible rfl)
        try simp only [Act.put, List.setIfInBounds_toArray, List.set_cons_zero, List.set_cons_succ]
        refine wpAnyH_take (i := 6) (oi := ?_) (v := ?_) ?_ (by kernel_rfl) (by kernel_rfl) (by kernel_rfl) ?_ (Or.inl ⟨?_, ?_⟩) hHeld ?_
        rotate_left 2
        · (simp only [List.getElem?_toArray, List.getElem?_cons_succ, List.getElem?_cons_zero]; rfl)
        · exact fun _ _ _ h => h
        · rfl
        · (intro w hSw; go_simp; first | done | with_reducible rfl)
        try simp only [Act.put, List.setIfInBounds_toArray, List.set_cons_zero, List.set_cons_succ]
        refine wpAnyH_take (i := 8) (oi := ?_) (v := ?_) ?_ (by kernel_rfl) (by kernel_rfl) (by kernel_rfl) ?_ (Or.inl ⟨?_, ?_⟩) hHeld ?_
        rotate_left 2
        · (simp only [List.getElem?_toArray, List.getElem?_cons_succ, List.getElem?_cons_zero]; rfl)
        · exact fun _ _ _ h => h
        · rfl
        · (intro w hSw; go_simp; first | done | with_reducible rfl)
        try simp only [Act.put, List.setIfInBounds_toArray, List.set_cons_zero, List.set_cons_succ]
        refine wpAnyH_take (i := 10) (oi := ?_) (v := ?_) ?_ (by kernel_rfl) (by kernel_rfl) (by kernel_rfl) ?_ (Or.inl ⟨?_, ?_⟩) hHeld ?_
        rotate_left 2
        · (simp only [List.getElem?_toArray, List.getElem?_cons_succ, List.getElem?_cons_zero]; rfl)
        · exact fun _ _ _ h => h
        · rfl
        · (intro w hSw; go_simp; first | done | with_reducible rfl)
        try simp only [Act.put, List.setIfInBounds_toArray, List.set_cons_zero, List.set_cons_succ]
        refine wpAnyH_take (i := 11) (oi := ?_) (v := ?_) ?_ (by kernel_rfl) (by kernel_rfl) (by kernel_rfl) ?_ (Or.inl ⟨?_, ?_⟩) hHeld ?_
        rotate_left 2
        · (simp only [List.getElem?_toArray, List.getElem?_cons_succ, List.getElem?_cons_zero]; rfl)
        · exact fun _ _ _ h => h
        · rfl
        · (intro w hSw; go_simp; first | done | with_reducible rfl)
        try simp only [Act.put, List.setIfInBounds_toArray, List.set_cons_zero, List.set_cons_succ]
        refine wpAnyH_take (i := 12) (oi := ?_) (v := ?_) ?_ (by kernel_rfl) (by kernel_rfl) (by kernel_rfl) ?_ (Or.inl ⟨?_, ?_⟩) hHeld ?_
        rotate_left 2
        · (simp only [List.getElem?_toArray, List.getElem?_cons_succ, List.getElem?_cons_zero]; rfl)
        · exact fun _ _ _ h => h
        · rfl
        · (intro w hSw; go_simp; first | done | with_reducible rfl)
        try simp only [Act.put, List.setIfInBounds_toArray, List.set_cons_zero, List.set_cons_succ]
        refine wpAnyH_take (i := 13) (oi := ?_) (v := ?_) ?_ (by kernel_rfl) (by kernel_rfl) (by kernel_rfl) ?_ (Or.inl ⟨?_, ?_⟩) hHeld ?_
        rotate_left 2
        · (simp only [List.getElem?_toArray, List.getElem?_cons_succ, List.getElem?_cons_zero]; rfl)
        · exact fun _ _ _ h => h
        · rfl
        · (intro w hSw; go_simp; first | done | with_reducible rfl)
        try simp only [Act.put, List.setIfInBounds_toArray, List.set_cons_zero, List.set_cons_succ]
        refine wpAnyH_take (i := 14) (oi := ?_) (v := ?_) ?_ (by kernel_rfl) (by kernel_rfl) (by kernel_rfl) ?_ (Or.inl ⟨?_, ?_⟩) hHeld ?_
        rotate_left 2
        · (simp only [List.getElem?_toArray, List.getElem?_cons_succ, List.getElem?_cons_zero]; rfl)
        · exact fun _ _ _ h => h
        · rfl
        · (intro w hSw; go_simp; first | done | with_reducible rfl)
        try simp only [Act.put, List.setIfInBounds_toArray, List.set_cons_zero, List.set_cons_succ]
        refine wpAnyH_ready (rs := [1, 9]) (by kernel_rfl) (by simp) ?_
        refine AllReadyH.cons (o := ?_) ?_ (fun K hK => ?_) ?_
        rotate_left 1
        · (simp only [List.getElem?_toArray, List.getElem?_cons_succ, List.getElem?_cons_zero]; rfl)
        · go_simp
          refine hK.out _ _ ?_ (fun hHeld => ?_)
          · exact ⟨x0, x1, x2⟩
          clear hK K
          try simp only [Act.put, List.setIfInBounds_toArray, List.set_cons_zero, List.set_cons_succ]
          refine wpAnyH_ready (rs := [7, 9]) (by kernel_rfl) (by simp) ?_
          refine AllReadyH.cons (o := ?_) ?_ (fun K hK => ?_) ?_
          rotate_left 1
          · (simp only [List.getElem?_toArray, List.getElem?_cons_succ, List.getElem?_cons_zero]; rfl)
          · go_simp
            refine hK.out _ _ ?_ (fun hHeld => ?_)
            · exact ⟨x0, x1, x2⟩
            clear hK K
            try simp only [Act.put, List.setIfInBounds_toArray, List.set_cons_zero, List.set_cons_succ]
            refine wpAnyH_ready (rs := [9]) (by kernel_rfl) (by simp) ?_
            refine AllReadyH.cons (o := ?_) ?_ (fun K hK => ?_) AllReadyH.nil
            rotate_left 1
            · (simp only [List.getElem?_toArray, List.getElem?_cons_succ, List.getElem?_cons_zero]; rfl)
            · go_simp
              refine hK.out _ _ ?_ (fun hHeld => ?_)
              · exact ⟨x0, x1, x2⟩
              clear hK K
              try simp only [Act.put, List.setIfInBounds_toArray, List.set_cons_zero, List.set_cons_succ]
              refine wpAnyH_take (i := 16) (oi := ?_) (v := ?_) ?_ (by kernel_rfl) (by kernel_rfl) (by kernel_rfl) ?_ (Or.inl ⟨?_, ?_⟩) hHeld ?_
              rotate_left 2
              · (simp only [List.getElem?_toArray, List.getElem?_cons_succ, List.getElem?_cons_zero]; rfl)
              · exact fun _ _ _ h => h
              · rfl
              · (intro w hSw; go_simp; first | done | with_reducible rfl)
              try simp only [Act.put, List.setIfInBounds_toArray, List.set_cons_zero, List.set_cons_succ]
              refine wpAnyH_ready (rs := [15]) (by kernel_rfl) (by simp) ?_
              refine AllReadyH.cons (o := ?_) ?_ (fun K hK => ?_) AllReadyH.nil
              rotate_left 1
              · (simp only [List.getElem?_toArray, List.getElem?_cons_succ, List.getElem?_cons_zero]; rfl)
              · go_simp
                refine hK.out _ _ ?_ (fun hHeld => ?_)
                · exact ⟨x0, x1, x2⟩
                clear hK K
                try simp only [Act.put, List.setIfInBounds_toArray, List.set_cons_zero, List.set_cons_succ]
                refine wpAnyH_ready (rs := [17]) (by kernel_rfl) (by simp) ?_
                refine AllReadyH.cons (o := ?_) ?_ (fun K hK => ?_) AllReadyH.nil
                rotate_left 1
                · (simp only [List.getElem?_toArray, List.getElem?_cons_succ, List.getElem?_cons_zero]; rfl)
                · go_simp
                  refine hK.out _ _ ?_ (fun hHeld => ?_)
                  · exact ⟨keep1 x0 (by omega), keep1 x1 (by omega), keep1 x2 (by omega)⟩
                  clear hK K
                  try simp only [Act.put, List.setIfInBounds_toArray, List.set_cons_zero, List.set_cons_succ]
                  refine wpAnyH_take (i := 18) (oi := ?_) (v := ?_) ?_ (by kernel_rfl) (by kernel_rfl) (by kernel_rfl) ?_ (Or.inl ⟨?_, ?_⟩) hHeld ?_
                  rotate_left 2
                  · (simp only [List.getElem?_toArray, List.getElem?_cons_succ, List.getElem?_cons_zero]; rfl)
                  · exact fun _ _ _ h => h
                  · rfl
                  · (intro w hSw; go_simp; first | done | with_reducible rfl)
                  try simp only [Act.put, List.setIfInBounds_toArray, List.set_cons_zero, List.set_cons_succ]
                  refine wpAnyH_ready (rs := [19]) (by kernel_rfl) (by simp) ?_
                  refine AllReadyH.cons (o := ?_) ?_ (fun K hK => ?_) AllReadyH.nil
                  rotate_left 1
                  · (simp only [List.getElem?_toArray, List.getElem?_cons_succ, List.getElem?_cons_zero]; rfl)
                  · go_simp
                    refine hK.out _ _ ?_ (fun hHeld => ?_)
                    · exact ⟨keep1 (keep1 x0 (by omega)) (by omega), keep1 (keep1 x1 (by omega)) (by omega), keep1 (keep1 x2 (by omega)) (by omega)⟩
                    clear hK K
                    try simp only [Act.put, List.setIfInBounds_toArray, List.set_cons_zero, List.set_cons_succ]
                    refine wpAnyH_done (by kernel_rfl) ?_ _
                    go_wp2_with fail
                    go_meet
                    simp only [hz, Nat.add_zero]
                    (with_reducible exact ⟨_, _, (ord_two HM.out.hL lX HM.out.hX HM.out.C NK.out NV.out HM.out.dK HM.out.dV).drew⟩)
          refine AllReadyH.cons (o := ?_) ?_ (fun K hK => ?_) AllReadyH.nil
          rotate_left 1
          · (simp only [List.getElem?_toArray, List.getElem?_cons_succ, List.getElem?_cons_zero]; rfl)
          · go_simp
            refine hK.out _ _ ?_ (fun hHeld => ?_)
            · exact ⟨x0, x1, x2⟩
            clear hK K
            try simp only [Act.put, List.setIfInBounds_toArray, List.set_cons_zero, List.set_cons_succ]
            refine wpAnyH_ready (rs := [7]) (by kernel_rfl) (by simp) ?_
            refine AllReadyH.cons (o := ?_) ?_ (fun K hK => ?_) AllReadyH.nil
            rotate_left 1
            · (simp only [List.getElem?_toArray, List.getElem?_cons_succ, List.getElem?_cons_zero]; rfl)
            · go_simp
              refine hK.out _ _ ?_ (fun hHeld => ?_)
              · exact ⟨x0, x1, x2⟩
              clear hK K
              try simp only [Act.put, List.setIfInBounds_toArray, List.set_cons_zero, List.set_cons_succ]
              refine wpAnyH_take (i := 16) (oi := ?_) (v := ?_) ?_ (by kernel_rfl) (by kernel_rfl) (by kernel_rfl) ?_ (Or.inl ⟨?_, ?_⟩) hHeld ?_
              rotate_left 2
              · (simp only [List.getElem?_toArray, List.getElem?_cons_succ, List.getElem?_cons_zero]; rfl)
              · exact fun _ _ _ h => h
              · rfl
              · (intro w hSw; go_simp; first | done | with_reducible rfl)
              try simp only [Act.put, List.setIfInBounds_toArray, List.set_cons_zero, List.set_cons_succ]
              refine wpAnyH_ready (rs := [15]) (by kernel_rfl) (by simp) ?_
              refine AllReadyH.cons (o := ?_) ?_ (fun K hK => ?_) AllReadyH.nil
              rotate_left 1
              · (simp only [List.getElem?_toArray, List.getElem?_cons_succ, List.getElem?_cons_zero]; rfl)
              · go_simp
                refine hK.out _ _ ?_ (fun hHeld => ?_)
                · exact ⟨x0, x1, x2⟩
                clear hK K
                try simp only [Act.put, List.setIfInBounds_toArray, List.set_cons_zero, List.set_cons_succ]
                refine wpAnyH_ready (rs := [17]) (by kernel_rfl) (by simp) ?_
                refine AllReadyH.cons (o := ?_) ?_ (fun K hK => ?_) AllReadyH.nil
                rotate_left 1
                · (simp only [List.getElem?_toArray, List.getElem?_cons_succ, List.getElem?_cons_zero]; rfl)
                · go_simp
                  refine hK.out _ _ ?_ (fun hHeld => ?_)
                  · exact ⟨keep1 x0 (by omega), keep1 x1 (by omega), keep1 x2 (by omega)⟩
                  clear hK K
                  try simp only [Act.put, List.setIfInBounds_toArray, List.set_cons_zero, List.set_cons_succ]
                  refine wpAnyH_take (i := 18) (oi := ?_) (v := ?_) ?_ (by kernel_rfl) (by kernel_rfl) (by kernel_rfl) ?_ (Or.inl ⟨?_, ?_⟩) hHeld ?_
                  rotate_left 2
                  · (simp only [List.getElem?_toArray, List.getElem?_cons_succ, List.getElem?_cons_zero]; rfl)
                  · exact fun _ _ _ h => h
                  · rfl
                  · (intro w hSw; go_simp; first | done | with_reducible rfl)
                  try simp only [Act.put, List.setIfInBounds_toArray, List.set_cons_zero, List.set_cons_succ]
                  refine wpAnyH_ready (rs := [19]) (by kernel_rfl) (by simp) ?_
                  refine AllReadyH.cons (o := ?_) ?_ (fun K hK => ?_) AllReadyH.nil
                  rotate_left 1
                  · (simp only [List.getElem?_toArray, List.getElem?_cons_succ, List.getElem?_cons_zero]; rfl)
                  · go_simp
                    refine hK.out _ _ ?_ (fun hHeld => ?_)
                    · exact ⟨keep1 (keep1 x0 (by omega)) (by omega), keep1 (keep1 x1 (by omega)) (by omega), keep1 (keep1 x2 (by omega)) (by omega)⟩
                    clear hK K
                    try simp only [Act.put, List.setIfInBounds_toArray, List.set_cons_zero, List.set_cons_succ]
                    refine wpAnyH_done (by kernel_rfl) ?_ _
                    go_wp2_with fail
                    go_meet
                    simp only [hz, Nat.add_zero]
                    (with_reducible exact ⟨_, _, (ord_two HM.out.hL lX HM.out.hX HM.out.C NK.out NV.out HM.out.dK HM.out.dV).drew⟩)
        refine AllReadyH.cons (o := ?_) ?_ (fun K hK => ?_) AllReadyH.nil
        rotate_left 1
        · (simp only [List.getElem?_toArray, List.getElem?_cons_succ, List.getElem?_cons_zero]; rfl)
        · go_simp
          refine hK.out _ _ ?_ (fun hHeld => ?_)
          · exact ⟨x0, x1, x2⟩
          clear hK K
          try simp only [Act.put, List.setIfInBounds_toArray, List.set_cons_zero, List.set_cons_succ]
          refine wpAnyH_ready (rs := [1]) (by kernel_rfl) (by simp) ?_
          refine AllReadyH.cons (o := ?_) ?_ (fun K hK => ?_) AllReadyH.nil
          rotate_left 1
          · (simp only [List.getElem?_toArray, List.getElem?_cons_succ, List.getElem?_cons_zero]; rfl)
          · go_simp
            refine hK.out _ _ ?_ (fun hHeld => ?_)
            · exact ⟨x0, x1, x2⟩
            clear hK K
            try simp only [Act.put, List.setIfInBounds_toArray, List.set_cons_zero, List.set_cons_succ]
            refine wpAnyH_ready (rs := [7]) (by kernel_rfl) (by simp) ?_
            refine AllReadyH.cons (o := ?_) ?_ (fun K hK => ?_) AllReadyH.nil
            rotate_left 1
            · (simp only [List.getElem?_toArray, List.getElem?_cons_succ, List.getElem?_cons_zero]; rfl)
            · go_simp
              refine hK.out _ _ ?_ (fun hHeld => ?_)
              · exact ⟨x0, x1, x2⟩
              clear hK K
              try simp only [Act.put, List.setIfInBounds_toArray, List.set_cons_zero, List.set_cons_succ]
              refine wpAnyH_take (i := 16) (oi := ?_) (v := ?_) ?_ (by kernel_rfl) (by kernel_rfl) (by kernel_rfl) ?_ (Or.inl ⟨?_, ?_⟩) hHeld ?_
              rotate_left 2
              · (simp only [List.getElem?_toArray, List.getElem?_cons_succ, List.getElem?_cons_zero]; rfl)
              · exact fun _ _ _ h => h
              · rfl
              · (intro w hSw; go_simp; first | done | with_reducible rfl)
              try simp only [Act.put, List.setIfInBounds_toArray, List.set_cons_zero, List.set_cons_succ]
              refine wpAnyH_ready (rs := [15]) (by kernel_rfl) (by simp) ?_
              refine AllReadyH.cons (o := ?_) ?_ (fun K hK => ?_) AllReadyH.nil
              rotate_left 1
              · (simp only [List.getElem?_toArray, List.getElem?_cons_succ, List.getElem?_cons_zero]; rfl)
              · go_simp
                refine hK.out _ _ ?_ (fun hHeld => ?_)
                · exact ⟨x0, x1, x2⟩
                clear hK K
                try simp only [Act.put, List.setIfInBounds_toArray, List.set_cons_zero, List.set_cons_succ]
                refine wpAnyH_ready (rs := [17]) (by kernel_rfl) (by simp) ?_
                refine AllReadyH.cons (o := ?_) ?_ (fun K hK => ?_) AllReadyH.nil
                rotate_left 1
                · (simp only [List.getElem?_toArray, List.getElem?_cons_succ, List.getElem?_cons_zero]; rfl)
                · go_simp
                  refine hK.out _ _ ?_ (fun hHeld => ?_)
                  · exact ⟨keep1 x0 (by omega), keep1 x1 (by omega), keep1 x2 (by omega)⟩
                  clear hK K
                  try simp only [Act.put, List.setIfInBounds_toArray, List.set_cons_zero, List.set_cons_succ]
                  refine wpAnyH_take (i := 18) (oi := ?_) (v := ?_) ?_ (by kernel_rfl) (by kernel_rfl) (by kernel_rfl) ?_ (Or.inl ⟨?_, ?_⟩) hHeld ?_
                  rotate_left 2
                  · (simp only [List.getElem?_toArray, List.getElem?_cons_succ, List.getElem?_cons_zero]; rfl)
                  · exact fun _ _ _ h => h
                  · rfl
                  · (intro w hSw; go_simp; first | done | with_reducible rfl)
                  try simp only [Act.put, List.setIfInBounds_toArray, List.set_cons_zero, List.set_cons_succ]
                  refine wpAnyH_ready (rs := [19]) (by kernel_rfl) (by simp) ?_
                  refine AllReadyH.cons (o := ?_) ?_ (fun K hK => ?_) AllReadyH.nil
                  rotate_left 1
                  · (simp only [List.getElem?_toArray, List.getElem?_cons_succ, List.getElem?_cons_zero]; rfl)
                  · go_simp
                    refine hK.out _ _ ?_ (fun hHeld => ?_)
                    · exact ⟨keep1 (keep1 x0 (by omega)) (by omega), keep1 (keep1 x1 (by omega)) (by omega), keep1 (keep1 x2 (by omega)) (by omega)⟩
                    clear hK K
                    try simp only [Act.put, List.setIfInBounds_toArray, List.set_cons_zero, List.set_cons_succ]
                    refine wpAnyH_done (by kernel_rfl) ?_ _
                    go_wp2_with fail
                    go_meet
                    simp only [hz, Nat.add_zero]
                    (with_reducible exact ⟨_, _, (ord_two HM.out.hL lX HM.out.hX HM.out.C NK.out NV.out HM.out.dK HM.out.dV).drew⟩)
    case rest =>
      obtain ⟨u, v, M⟩ := hcut
      have en : i + (n - (i + 1)) = n - 1 := by omega
      rw [en] at M
      clear en HM
      have HM := Lib.hid M
      obtain ⟨ua, uc, rfl, _⟩ := M.hK.cap
      obtain ⟨va, vc, rfl, _⟩ := M.hV.cap
      have lX := M.lX
      clear M
      have x0 := cell_of_block HM.out.hX 0
      have x1 := cell_of_block HM.out.hX 1
      have x2 := cell_of_block HM.out.hX 2
      simp only [List.getElem?_toArray, List.getElem?_cons_zero, List.getElem?_cons_succ] at x0 x1 x2
      have y0 := cell_of_block HM.out.hL 0
      have y1 := cell_of_block HM.out.hL 1
      have y2 := cell_of_block HM.out.hL 2
      simp only [List.getElem?_toArray, List.getElem?_cons_zero, List.getElem?_cons_succ] at y0 y1 y2
      have lx := heap_lt HM.out.hX
      have ly := heap_lt HM.out.hL
      go_upto_region 6 with fail
      go_cut [86] (fun c wx => c = .bool false ∧ Chg [] wc wx)
      case first =>
        cases l with
        | true =>
          have cR := right_at (leaf := true) (w := wc.drew) (HM.out.hK.chg (Chg.drew (Chg.refl [] wc)) (by simp)) (HM.out.hV.chg (Chg.drew (Chg.refl [] wc)) (by simp))
          rw [right_del Hr.out hin, Bool.true_or] at cR
          refine wp_region_held_drew (S := (fun w' => w'.cell? ⟨w.heap.size, 0, none⟩ = some (.bool true) ∧ w'.cell? ⟨w.heap.size, 1, none⟩ = some (.slice (some ⟨kb, ko, none⟩) n ck) ∧ w'.cell? ⟨w.heap.size, 2, none⟩ = some (.slice (some ⟨vb, vo, none⟩) n cv) ∧ w'.cell? ⟨lb, 0, none⟩ = some (.bool true) ∧ w'.cell? ⟨lb, 1, none⟩ = some (.slice ua (n - 1) uc) ∧ w'.cell? ⟨lb, 2, none⟩ = some (.slice va (n - 1) vc))) (by kernel_rfl) (by exact ⟨x0, x1, x2, y0, y1, y2⟩) (fun hHeld => ?_)
          refine wpAnyH_take (i := 0) (oi := ?_) (v := ?_) ?_ (by kernel_rfl) (by kernel_rfl) (by kernel_rfl) ?_ (Or.inl ⟨?_, ?_⟩) hHeld ?_
          rotate_left 2
          · (simp only [List.getElem?_toArray, List.getElem?_cons_succ, List.getElem?_cons_zero]; rfl)
          · exact fun _ _ _ h => h
          · rfl
          · (intro w hSw; go_simp; first | done | with_reducible rfl)
          try simp only [Act.put, List.setIfInBounds_toArray, List.set_cons_zero, List.set_cons_succ]
          refine wpAnyH_take (i := 2) (oi := ?_) (v := ?_) ?_ (by kernel_rfl) (by kernel_rfl) (by kernel_rfl) ?_ (Or.inl ⟨?_, ?_⟩) hHeld ?_
          rotate_left 2
          · (simp only [List.getElem?_toArray, List.getElem?_cons_succ, List.getElem?_cons_zero]; rfl)
          · exact fun _ _ _ h => h
          · rfl
          · (intro w hSw; go_simp; first | done | with_reducible rfl)
          try simp only [Act.put, List.setIfInBounds_toArray, List.set_cons_zero, List.set_cons_succ]
          refine wpAnyH_take (i := 3) (oi := ?_) (v := ?_) ?_ (by kernel_rfl) (by kernel_rfl) (by kernel_rfl) ?_ (Or.inl ⟨?_, ?_⟩) hHeld ?_
          rotate_left 2
          · (simp only [List.getElem?_toArray, List.getElem?_cons_succ, List.getElem?_cons_zero]; rfl)
          · exact fun _ _ _ h => h
          · rfl
          · (intro w hSw; go_simp; first | done | with_reducible rfl)
          try simp only [Act.put, List.setIfInBounds_toArray, List.set_cons_zero, List.set_cons_succ]
          refine wpAnyH_ready (rs := [1]) (by kernel_rfl) (by simp) ?_
          refine AllReadyH.cons (o := ?_) ?_ (fun K hK => ?_) AllReadyH.nil
          rotate_left 1
          · (simp only [List.getElem?_toArray, List.getElem?_cons_succ, List.getElem?_cons_zero]; rfl)
          go_simp
          (go_at_call 18; refine cR.mono ?_; rintro e w5 ⟨rfl, hC5⟩; have HC5 := Lib.hid hC5; go_wp2_with fail)
          refine hK.out _ _ ?_ (fun hHeld => ?_)
          · exact ⟨(hC5.cell (p := ⟨w.heap.size, 0, none⟩) lx (by simp)).trans x0, (hC5.cell (p := ⟨w.heap.size, 1, none⟩) lx (by simp)).trans x1, (hC5.cell (p := ⟨w.heap.size, 2, none⟩) lx (by simp)).trans x2, (hC5.cell (p := ⟨lb, 0, none⟩) ly (by simp)).trans y0, (hC5.cell (p := ⟨lb, 1, none⟩) ly (by simp)).trans y1, (hC5.cell (p := ⟨lb, 2, none⟩) ly (by simp)).trans y2⟩
          clear hK K
          try simp only [Act.put, List.setIfInBounds_toArray, List.set_cons_zero, List.set_cons_succ]
          refine wpAnyH_take (i := 4) (oi := ?_) (v := ?_) ?_ (by kernel_rfl) (by kernel_rfl) (by kernel_rfl) ?_ (Or.inl ⟨?_, ?_⟩) hHeld ?_
          rotate_left 2
          · (simp only [List.getElem?_toArray, List.getElem?_cons_succ, List.getElem?_cons_zero]; rfl)
          · exact fun _ _ _ h => h
          · rfl
          · (intro w hSw; go_simp; first | done | with_reducible rfl)
          try simp only [Act.put, List.setIfInBounds_toArray, List.set_cons_zero, List.set_cons_succ]
          refine wpAnyH_take (i := 5) (oi := ?_) (v := undef) ?_ (by kernel_rfl) (by kernel_rfl) (by kernel_rfl) ?_ (Or.inr ⟨?_, rfl⟩) hHeld ?_
          rotate_left 1
          · (simp only [List.getElem?_toArray, List.getElem?_cons_succ, List.getElem?_cons_zero]; rfl)
          · exact fun _ _ _ h => h
          · rfl
          try simp only [Act.put, List.setIfInBounds_toArray, List.set_cons_zero, List.set_cons_succ]
          refine wpAnyH_take (i := 6) (oi := ?_) (v := undef) ?_ (by kernel_rfl) (by kernel_rfl) (by kernel_rfl) ?_ (Or.inr ⟨?_, rfl⟩) hHeld ?_
          rotate_left 1
          · (simp only [List.getElem?_toArray, List.getElem?_cons_succ, List.getElem?_cons_zero]; rfl)
          · exact fun _ _ _ h => h
          · rfl
          try simp only [Act.put, List.setIfInBounds_toArray, List.set_cons_zero, List.set_cons_succ]
          refine wpAnyH_take (i := 7) (oi := ?_) (v := undef) ?_ (by kernel_rfl) (by kernel_rfl) (by kernel_rfl) ?_ (Or.inr ⟨?_, rfl⟩) hHeld ?_
          rotate_left 1
          · (simp only [List.getElem?_toArray, List.getElem?_cons_succ, List.getElem?_cons_zero]; rfl)
          · exact fun _ _ _ h => h
          · rfl
          try simp only [Act.put, List.setIfInBounds_toArray, List.set_cons_zero, List.set_cons_succ]
          refine wpAnyH_take (i := 8) (oi := ?_) (v := undef) ?_ (by kernel_rfl) (by kernel_rfl) (by kernel_rfl) ?_ (Or.inr ⟨?_, rfl⟩) hHeld ?_
          rotate_left 1
          · (simp only [List.getElem?_toArray, List.getElem?_cons_succ, List.getElem?_cons_zero]; rfl)
          · exact fun _ _ _ h => h
          · rfl
          try simp only [Act.put, List.setIfInBounds_toArray, List.set_cons_zero, List.set_cons_succ]
          refine wpAnyH_take (i := 9) (oi := ?_) (v := ?_) ?_ (by kernel_rfl) (by kernel_rfl) (by kernel_rfl) ?_ (Or.inl ⟨?_, ?_⟩) hHeld ?_
          rotate_left 2
          · (simp only [List.getElem?_toArray, List.getElem?_cons_succ, List.getElem?_cons_zero]; rfl)
          · exact fun _ _ _ h => h
          · rfl
          · (intro w hSw; go_simp; first | done | with_reducible rfl)
          try simp only [Act.put, List.setIfInBounds_toArray, List.set_cons_zero, List.set_cons_succ]
          refine wpAnyH_take (i := 10) (oi := ?_) (v := ?_) ?_ (by kernel_rfl) (by kernel_rfl) (by kernel_rfl) ?_ (Or.inl ⟨?_, ?_⟩) hHeld ?_
          rotate_left 2
          · (simp only [List.getElem?_toArray, List.getElem?_cons_succ, List.getElem?_cons_zero]; rfl)
          · exact fun _ _ _ h => h
          · rfl
          · (intro w hSw; go_simp; first | done | with_reducible rfl)
          try simp only [Act.put, List.setIfInBounds_toArray, List.set_cons_zero, List.set_cons_succ]
          refine wpAnyH_done (by kernel_rfl) ?_ _
          go_wp2_with fail
          go_meet
          exact ⟨rfl, (Chg.drew (Chg.refl [] _)).trans HC5.out⟩
        | false =>
          by_cases h1 : 1 < n
          · have g1 : (1 : Int) < (n : Int) := by omega
            have cR := right_at (leaf := false) (w := wc.drew) (HM.out.hK.chg (Chg.drew (Chg.refl [] wc)) (by simp)) (HM.out.hV.chg (Chg.drew (Chg.refl [] wc)) (by simp))
            rw [right_del Hr.out hin, Bool.false_or, decide_eq_true h1] at cR
            refine wp_region_held_drew (S := (fun w' => w'.cell? ⟨w.heap.size, 0, none⟩ = some (.bool false) ∧ w'.cell? ⟨w.heap.size, 1, none⟩ = some (.slice (some ⟨kb, ko, none⟩) n ck) ∧ w'.cell? ⟨w.heap.size, 2, none⟩ = some (.slice (some ⟨vb, vo, none⟩) n cv) ∧ w'.cell? ⟨lb, 0, none⟩ = some (.bool false) ∧ w'.cell? ⟨lb, 1, none⟩ = some (.slice ua (n - 1) uc) ∧ w'.cell? ⟨lb, 2, none⟩ = some (.slice va (n - 1) vc))) (by kernel_rfl) (by exact ⟨x0, x1, x2, y0, y1, y2⟩) (fun hHeld => ?_)
            refine wpAnyH_take (i := 0) (oi := ?_) (v := ?_) ?_ (by kernel_rfl) (by kernel_rfl) (by kernel_rfl) ?_ (Or.inl ⟨?_, ?_⟩) hHeld ?_
            rotate_left 2
            · (simp only [List.getElem?_toArray, List.getElem?_cons_succ, List.getElem?_cons_zero]; rfl)
            · exact fun _ _ _ h => h
            · rfl
            · (intro w hSw; go_simp; first | done | with_reducible rfl)
            try simp only [Act.put, List.setIfInBounds_toArray, List.set_cons_zero, List.set_cons_succ]
            refine wpAnyH_take (i := 2) (oi := ?_) (v := ?_) ?_ (by kernel_rfl) (by kernel_rfl) (by kernel_rfl) ?_ (Or.inl ⟨?_, ?_⟩) hHeld ?_
            rotate_left 2
            · (simp only [List.getElem?_toArray, List.getElem?_cons_succ, List.getElem?_cons_zero]; rfl)
            · exact fun _ _ _ h => h
            · rfl
            · (intro w hSw; go_simp; first | done | with_reducible rfl)
            try simp only [Act.put, List.setIfInBounds_toArray, List.set_cons_zero, List.set_cons_succ]
            refine wpAnyH_take (i := 3) (oi := ?_) (v := ?_) ?_ (by kernel_rfl) (by kernel_rfl) (by kernel_rfl) ?_ (Or.inl ⟨?_, ?_⟩) hHeld ?_
            rotate_left 2
            · (simp only [List.getElem?_toArray, List.getElem?_cons_succ, List.getElem?_cons_zero]; rfl)
            · exact fun _ _ _ h => h
            · rfl
            · (intro w hSw; go_simp; first | done | with_reducible rfl)
            try simp only [Act.put, List.setIfInBounds_toArray, List.set_cons_zero, List.set_cons_succ]
            refine wpAnyH_ready (rs := [1]) (by kernel_rfl) (by simp) ?_
            refine AllReadyH.cons (o := ?_) ?_ (fun K hK => ?_) AllReadyH.nil
            rotate_left 1
            · (simp only [List.getElem?_toArray, List.getElem?_cons_succ, List.getElem?_cons_zero]; rfl)
            go_simp
            (go_at_call 18; refine cR.mono ?_; rintro e w5 ⟨rfl, hC5⟩; have HC5 := Lib.hid hC5; go_wp2_with fail)
            refine hK.out _ _ ?_ (fun hHeld => ?_)
            · exact ⟨(hC5.cell (p := ⟨w.heap.size, 0, none⟩) lx (by simp)).trans x0, (hC5.cell (p := ⟨w.heap.size, 1, none⟩) lx (by simp)).trans x1, (hC5.cell (p := ⟨w.heap.size, 2, none⟩) lx (by simp)).trans x2, (hC5.cell (p := ⟨lb, 0, none⟩) ly (by simp)).trans y0, (hC5.cell (p := ⟨lb, 1, none⟩) ly (by simp)).trans y1, (hC5.cell (p := ⟨lb, 2, none⟩) ly (by simp)).trans y2⟩
            clear hK K
            try simp only [Act.put, List.setIfInBounds_toArray, List.set_cons_zero, List.set_cons_succ]
            refine wpAnyH_take (i := 4) (oi := ?_) (v := ?_) ?_ (by kernel_rfl) (by kernel_rfl) (by kernel_rfl) ?_ (Or.inl ⟨?_, ?_⟩) hHeld ?_
            rotate_left 2
            · (simp only [List.getElem?_toArray, List.getElem?_cons_succ, List.getElem?_cons_zero]; rfl)
            · exact fun _ _ _ h => h
            · rfl
            · (intro w hSw; go_simp; first | done | with_reducible rfl)
            try simp only [Act.put, List.setIfInBounds_toArray, List.set_cons_zero, List.set_cons_succ]
            refine wpAnyH_take (i := 5) (oi := ?_) (v := ?_) ?_ (by kernel_rfl) (by kernel_rfl) (by kernel_rfl) ?_ (Or.inl ⟨?_, ?_⟩) hHeld ?_
            rotate_left 2
            · (simp only [List.getElem?_toArray, List.getElem?_cons_succ, List.getElem?_cons_zero]; rfl)
            · exact fun _ _ _ h => h
            · rfl
            · (intro w hSw; go_simp; first | done | with_reducible rfl)
            try simp only [Act.put, List.setIfInBounds_toArray, List.set_cons_zero, List.set_cons_succ]
            refine wpAnyH_take (i := 6) (oi := ?_) (v := ?_) ?_ (by kernel_rfl) (by kernel_rfl) (by kernel_rfl) ?_ (Or.inl ⟨?_, ?_⟩) hHeld ?_
            rotate_left 2
            · (simp only [List.getElem?_toArray, List.getElem?_cons_succ, List.getElem?_cons_zero]; rfl)
            · exact fun _ _ _ h => h
            · rfl
            · (intro w hSw; go_simp; first | done | with_reducible rfl)
            try simp only [Act.put, List.setIfInBounds_toArray, List.set_cons_zero, List.set_cons_succ]
            refine wpAnyH_take (i := 7) (oi := ?_) (v := ?_) ?_ (by kernel_rfl) (by kernel_rfl) (by kernel_rfl) ?_ (Or.inl ⟨?_, ?_⟩) hHeld ?_
            rotate_left 2
            · (simp only [List.getElem?_toArray, List.getElem?_cons_succ, List.getElem?_cons_zero]; rfl)
            · exact fun _ _ _ h => h
            · rfl
            · (intro w hSw; go_simp; first | done | with_reducible rfl)
            try simp only [Act.put, List.setIfInBounds_toArray, List.set_cons_zero, List.set_cons_succ]
            refine wpAnyH_take (i := 8) (oi := ?_) (v := ?_) ?_ (by kernel_rfl) (by kernel_rfl) (by kernel_rfl) ?_ (Or.inl ⟨?_, ?_⟩) hHeld ?_
            rotate_left 2
            · (simp only [List.getElem?_toArray, List.getElem?_cons_succ, List.getElem?_cons_zero]; rfl)
            · exact fun _ _ _ h => h
            · rfl
            · (intro w hSw; go_simp; first | done | with_reducible rfl)
            try simp only [Act.put, List.setIfInBounds_toArray, List.set_cons_zero, List.set_cons_succ]
            refine wpAnyH_take (i := 9) (oi := ?_) (v := ?_) ?_ (by kernel_rfl) (by kernel_rfl) (by kernel_rfl) ?_ (Or.inl ⟨?_, ?_⟩) hHeld ?_
            rotate_left 2
            · (simp only [List.getElem?_toArray, List.getElem?_cons_succ, List.getElem?_cons_zero]; rfl)
            · exact fun _ _ _ h => h
            · rfl
            · (intro w hSw; go_simp; first | done | with_reducible rfl)
            try simp only [Act.put, List.setIfInBounds_toArray, List.set_cons_zero, List.set_cons_succ]
            refine wpAnyH_take (i := 10) (oi := ?_) (v := ?_) ?_ (by kernel_rfl) (by kernel_rfl) (by kernel_rfl) ?_ (Or.inl ⟨?_, ?_⟩) hHeld ?_
            rotate_left 2
            · (simp only [List.getElem?_toArray, List.getElem?_cons_succ, List.getElem?_cons_zero]; rfl)
            · exact fun _ _ _ h => h
            · rfl
            · (intro w hSw; go_simp; first | done | with_reducible rfl)
            try simp only [Act.put, List.setIfInBounds_toArray, List.set_cons_zero, List.set_cons_succ]
            refine wpAnyH_done (by kernel_rfl) ?_ _
            go_wp2_with fail
            go_meet
            exact ⟨rfl, (Chg.drew (Chg.refl [] _)).trans HC5.out⟩
          · have g1 : ¬ (1 : Int) < (n : Int) := by omega
            have cR := right_at (leaf := false) (w := wc.drew) (HM.out.hK.chg (Chg.drew (Chg.refl [] wc)) (by simp)) (HM.out.hV.chg (Chg.drew (Chg.refl [] wc)) (by simp))
            rw [right_del Hr.out hin, Bool.false_or, decide_eq_false h1] at cR
            refine wp_region_held_drew (S := (fun w' => w'.cell? ⟨w.heap.size, 0, none⟩ = some (.bool false) ∧ w'.cell? ⟨w.heap.size, 1, none⟩ = some (.slice (some ⟨kb, ko, none⟩) n ck) ∧ w'.cell? ⟨w.heap.size, 2, none⟩ = some (.slice (some ⟨vb, vo, none⟩) n cv) ∧ w'.cell? ⟨lb, 0, none⟩ = some (.bool false) ∧ w'.cell? ⟨lb, 1, none⟩ = some (.slice ua (n - 1) uc) ∧ w'.cell? ⟨lb, 2, none⟩ = some (.slice va (n - 1) vc))) (by kernel_rfl) (by exact ⟨x0, x1, x2, y0, y1, y2⟩) (fun hHeld => ?_)
            refine wpAnyH_take (i := 0) (oi := ?_) (v := ?_) ?_ (by kernel_rfl) (by kernel_rfl) (by kernel_rfl) ?_ (Or.inl ⟨?_, ?_⟩) hHeld ?_
            rotate_left 2
            · (simp only [List.getElem?_toArray, List.getElem?_cons_succ, List.getElem?_cons_zero]; rfl)
            · exact fun _ _ _ h => h
            · rfl
            · (intro w hSw; go_simp; first | done | with_reducible rfl)
            try simp only [Act.put, List.setIfInBounds_toArray, List.set_cons_zero, List.set_cons_succ]
            refine wpAnyH_take (i := 2) (oi := ?_) (v := ?_) ?_ (by kernel_rfl) (by kernel_rfl) (by kernel_rfl) ?_ (Or.inl ⟨?_, ?_⟩) hHeld ?_
            rotate_left 2
            · (simp only [List.getElem?_toArray, List.getElem?_cons_succ, List.getElem?_cons_zero]; rfl)
            · exact fun _ _ _ h => h
            · rfl
            · (intro w hSw; go_simp; first | done | with_reducible rfl)
            try simp only [Act.put, List.setIfInBounds_toArray, List.set_cons_zero, List.set_cons_succ]
            refine wpAnyH_take (i := 3) (oi := ?_) (v := ?_) ?_ (by kernel_rfl) (by kernel_rfl) (by kernel_rfl) ?_ (Or.inl ⟨?_, ?_⟩) hHeld ?_
            rotate_left 2
            · (simp only [List.getElem?_toArray, List.getElem?_cons_succ, List.getElem?_cons_zero]; rfl)
            · exact fun _ _ _ h => h
            · rfl
            · (intro w hSw; go_simp; first | done | with_reducible rfl)
            try simp only [Act.put, List.setIfInBounds_toArray, List.set_cons_zero, List.set_cons_succ]
            refine wpAnyH_ready (rs := [1]) (by kernel_rfl) (by simp) ?_
            refine AllReadyH.cons (o := ?_) ?_ (fun K hK => ?_) AllReadyH.nil
            rotate_left 1
            · (simp only [List.getElem?_toArray, List.getElem?_cons_succ, List.getElem?_cons_zero]; rfl)
            go_simp
            (go_at_call 18; refine cR.mono ?_; rintro e w5 ⟨rfl, hC5⟩; have HC5 := Lib.hid hC5; go_wp2_with fail)
            refine hK.out _ _ ?_ (fun hHeld => ?_)
            · exact ⟨(hC5.cell (p := ⟨w.heap.size, 0, none⟩) lx (by simp)).trans x0, (hC5.cell (p := ⟨w.heap.size, 1, none⟩) lx (by simp)).trans x1, (hC5.cell (p := ⟨w.heap.size, 2, none⟩) lx (by simp)).trans x2, (hC5.cell (p := ⟨lb, 0, none⟩) ly (by simp)).trans y0, (hC5.cell (p := ⟨lb, 1, none⟩) ly (by simp)).trans y1, (hC5.cell (p := ⟨lb, 2, none⟩) ly (by simp)).trans y2⟩
            clear hK K
            try simp only [Act.put, List.setIfInBounds_toArray, List.set_cons_zero, List.set_cons_succ]
            refine wpAnyH_take (i := 4) (oi := ?_) (v := ?_) ?_ (by kernel_rfl) (by kernel_rfl) (by kernel_rfl) ?_ (Or.inl ⟨?_, ?_⟩) hHeld ?_
            rotate_left 2
            · (simp only [List.getElem?_toArray, List.getElem?_cons_succ, List.getElem?_cons_zero]; rfl)
            · exact fun _ _ _ h => h
            · rfl
            · (intro w hSw; go_simp; first | done | with_reducible rfl)
            try simp only [Act.put, List.setIfInBounds_toArray, List.set_cons_zero, List.set_cons_succ]
            refine wpAnyH_take (i := 5) (oi := ?_) (v := ?_) ?_ (by kernel_rfl) (by kernel_rfl) (by kernel_rfl) ?_ (Or.inl ⟨?_, ?_⟩) hHeld ?_
            rotate_left 2
            · (simp only [List.getElem?_toArray, List.getElem?_cons_succ, List.getElem?_cons_zero]; rfl)
            · exact fun _ _ _ h => h
            · rfl
            · (intro w hSw; go_simp; first | done | with_reducible rfl)
            try simp only [Act.put, List.setIfInBounds_toArray, List.set_cons_zero, List.set_cons_succ]
            refine wpAnyH_take (i := 6) (oi := ?_) (v := ?_) ?_ (by kernel_rfl) (by kernel_rfl) (by kernel_rfl) ?_ (Or.inl ⟨?_, ?_⟩) hHeld ?_
            rotate_left 2
            · (simp only [List.getElem?_toArray, List.getElem?_cons_succ, List.getElem?_cons_zero]; rfl)
            · exact fun _ _ _ h => h
            · rfl
            · (intro w hSw; go_simp; first | done | with_reducible rfl)
            try simp only [Act.put, List.setIfInBounds_toArray, List.set_cons_zero, List.set_cons_succ]
            refine wpAnyH_take (i := 7) (oi := ?_) (v := ?_) ?_ (by kernel_rfl) (by kernel_rfl) (by kernel_rfl) ?_ (Or.inl ⟨?_, ?_⟩) hHeld ?_
            rotate_left 2
            · (simp only [List.getElem?_toArray, List.getElem?_cons_succ, List.getElem?_cons_zero]; rfl)
            · exact fun _ _ _ h => h
            · rfl
            · (intro w hSw; go_simp; first | done | with_reducible rfl)
            try simp only [Act.put, List.setIfInBounds_toArray, List.set_cons_zero, List.set_cons_succ]
            refine wpAnyH_take (i := 8) (oi := ?_) (v := ?_) ?_ (by kernel_rfl) (by kernel_rfl) (by kernel_rfl) ?_ (Or.inl ⟨?_, ?_⟩) hHeld ?_
            rotate_left 2
            · (simp only [List.getElem?_toArray, List.getElem?_cons_succ, List.getElem?_cons_zero]; rfl)
            · exact fun _ _ _ h => h
            · rfl
            · (intro w hSw; go_simp; first | done | with_reducible rfl)
            try simp only [Act.put, List.setIfInBounds_toArray, List.set_cons_zero, List.set_cons_succ]
            refine wpAnyH_take (i := 9) (oi := ?_) (v := ?_) ?_ (by kernel_rfl) (by kernel_rfl) (by kernel_rfl) ?_ (Or.inl ⟨?_, ?_⟩) hHeld ?_
            rotate_left 2
            · (simp only [List.getElem?_toArray, List.getElem?_cons_succ, List.getElem?_cons_zero]; rfl)
            · exact fun _ _ _ h => h
            · rfl
            · (intro w hSw; go_simp; first | done | with_reducible rfl)
            try simp only [Act.put, List.setIfInBounds_toArray, List.set_cons_zero, List.set_cons_succ]
            refine wpAnyH_take (i := 10) (oi := ?_) (v := ?_) ?_ (by kernel_rfl) (by kernel_rfl) (by kernel_rfl) ?_ (Or.inl ⟨?_, ?_⟩) hHeld ?_
            rotate_left 2
            · (simp only [List.getElem?_toArray, List.getElem?_cons_succ, List.getElem?_cons_zero]; rfl)
            · exact fun _ _ _ h => h
            · rfl
            · (intro w hSw; go_simp; first | done | with_reducible rfl)
            try simp only [Act.put, List.setIfInBounds_toArray, List.set_cons_zero, List.set_cons_succ]
            refine wpAnyH_done (by kernel_rfl) ?_ _
            go_wp2_with fail
            go_meet
            exact ⟨by rw [decide_eq_false (show ¬ (1 : Int) < (n : Int) by omega)], (Chg.drew (Chg.refl [] _)).trans HC5.out⟩
      case rest =>
        obtain ⟨rfl, hC6⟩ := hcut
        have C6 := Lib.hid (HM.out.C.trans hC6)
        have X6 := Lib.hid ((hC6.block _ (heap_lt HM.out.hX) (by simp)).trans HM.out.hX)
        clear x0 x1 x2 y0 y1 y2 lx ly hC6 HM
        by_cases hik : i = k
        · have hd : ((i : Int) == (k : Int)) = true := by simp; omega
          clear hik
          go_wp2_with fail
          refine (awake03 _).mono ?_
          rintro e wz ⟨rfl, hZ⟩
          have HZ := Lib.hid ((C6.out).trans hZ)
          clear hZ
          go_wp2_with fail
          go_ret
          exact law_ok HZ.out
        · have hd : ((i : Int) == (k : Int)) = false := by simp; omega
          have Hik := Lib.hid hik
          clear hik
          go_wp2_with fail
          have K6 := Lib.hid (HK.out.chg C6.out (by simp))
          have V6 := Lib.hid (HV.out.chg C6.out (by simp))
          go_cut [10] (fun s wx => ∃ tb b1 b2, s = .pointer (some ⟨tb, 0, none⟩) ∧ OrdMid w wx l n keys vals kb ko ck vb vo cv tb (.slice (some ⟨b1, 0, none⟩) n n) (.slice (some ⟨b2, 0, none⟩) n n) n keys vals ∧ Row64 wx b1 n keys ∧ w.heap.size < b1 ∧ b1 ≠ b2)
          case first =>
            have x0 := cell_of_block X6.out 0
            have x1 := cell_of_block X6.out 1
            have x2 := cell_of_block X6.out 2
            simp only [List.getElem?_toArray, List.getElem?_cons_zero, List.getElem?_cons_succ] at x0 x1 x2
            have lx := heap_lt X6.out
            have cA1 := againN_at (w := wc.drew) (K6.out.chg (Chg.drew (Chg.refl [] wc)) (by simp)) (by omega)
            have cA1' := againN_at (w := (wc.alloc (.cells #[.bool false, .slice none 0 0, .slice none 0 0] 24)).drew) (K6.out.chg (((Chg.refl [] wc).alloc (.cells #[.bool false, .slice none 0 0, .slice none 0 0] 24)).drew) (by simp)) (by omega)
            have lxa := Nat.lt_of_lt_of_le lx (((Chg.refl [] wc).alloc (.cells #[.bool false, .slice none 0 0, .slice none 0 0] 24)).drew).size
            have xa0 := ((((Chg.refl [] wc).alloc (.cells #[.bool false, .slice none 0 0, .slice none 0 0] 24)).drew).cell (p := ⟨w.heap.size, 0, none⟩) lx (by simp)).trans x0
            have xa1 := ((((Chg.refl [] wc).alloc (.cells #[.bool false, .slice none 0 0, .slice none 0 0] 24)).drew).cell (p := ⟨w.heap.size, 1, none⟩) lx (by simp)).trans x1
            have xa2 := ((((Chg.refl [] wc).alloc (.cells #[.bool false, .slice none 0 0, .slice none 0 0] 24)).drew).cell (p := ⟨w.heap.size, 2, none⟩) lx (by simp)).trans x2
            go_region_held3 (fun w' => w'.cell? ⟨w.heap.size, 0, none⟩ = some (.bool l) ∧ w'.cell? ⟨w.heap.size, 1, none⟩ = some (.slice (some ⟨kb, ko, none⟩) n ck) ∧ w'.cell? ⟨w.heap.size, 2, none⟩ = some (.slice (some ⟨vb, vo, none⟩) n cv))
              (first | exact ⟨x0, x1, x2⟩ | exact ⟨xa0, xa1, xa2⟩ | exact ⟨z0, z1, z2⟩ | exact ⟨y0, y1, y2⟩ | exact ⟨keep3 y0 (by omega), keep3 y1 (by omega), keep3 y2 (by omega)⟩ | go_keep)
              (first
                | (go_at_call 10; (with_reducible refine cA1.mono ?_); rintro e w3 ⟨rfl, hR3, hC3⟩; have z0 := (hC3.cell (p := ⟨w.heap.size, 0, none⟩) lx (by simp)).trans (x0); have z1 := (hC3.cell (p := ⟨w.heap.size, 1, none⟩) lx (by simp)).trans (x1); have z2 := (hC3.cell (p := ⟨w.heap.size, 2, none⟩) lx (by simp)).trans (x2); have lz : w.heap.size < w3.heap.size := Nat.lt_of_lt_of_le lx hC3.size; have hc03 : Chg [] wc w3 := (Chg.drew (Chg.refl [] wc)).trans hC3; have cA2 := againN_at (V6.out.chg hc03 (by simp)) (by omega); have cA2' := againN_at (V6.out.chg (hc03.alloc (.cells #[.bool false, .slice none 0 0, .slice none 0 0] 24)) (by simp)) (by omega); (try simp only [drew_heap, size_alloc'] at hR3); have lt3 := hR3.lt; have HR3 := Lib.hid hR3; have HC03 := Lib.hid hc03; clear hR3 hC3 hc03)
                | (go_at_call 10; (with_reducible refine cA1'.mono ?_); rintro e w3 ⟨rfl, hR3, hC3⟩; have z0 := (hC3.cell (p := ⟨w.heap.size, 0, none⟩) lxa (by simp)).trans (xa0); have z1 := (hC3.cell (p := ⟨w.heap.size, 1, none⟩) lxa (by simp)).trans (xa1); have z2 := (hC3.cell (p := ⟨w.heap.size, 2, none⟩) lxa (by simp)).trans (xa2); have lz : w.heap.size < w3.heap.size := Nat.lt_of_lt_of_le lxa hC3.size; have hc03 : Chg [] wc w3 := (((Chg.refl [] wc).alloc (.cells #[.bool false, .slice none 0 0, .slice none 0 0] 24)).drew).trans hC3; have cA2 := againN_at (V6.out.chg hc03 (by simp)) (by omega); have cA2' := againN_at (V6.out.chg (hc03.alloc (.cells #[.bool false, .slice none 0 0, .slice none 0 0] 24)) (by simp)) (by omega); (try simp only [drew_heap, size_alloc'] at hR3); have lt3 := hR3.lt; have HR3 := Lib.hid hR3; have HC03 := Lib.hid hc03; have hb3 := (hC3.block wc.heap.size (heap_lt (new_block wc (.cells #[.bool false, .slice none 0 0, .slice none 0 0] 24))) (by simp)).trans (new_block wc (.cells #[.bool false, .slice none 0 0, .slice none 0 0] 24)); have q0 := cell_of_block hb3 0; have q1 := cell_of_block hb3 1; have q2 := cell_of_block hb3 2; have r0 := frozen_of_block hb3 0; have r1 := frozen_of_block hb3 1; have r2 := frozen_of_block hb3 2; have lq := heap_lt hb3; simp only [List.getElem?_toArray, List.getElem?_cons_zero, List.getElem?_cons_succ] at q0 q1 q2; have HB3 := Lib.hid hb3; clear hR3 hC3 hc03 hb3)
                | (go_at_call 10; (with_reducible refine cA2.mono ?_); rintro e w4 ⟨rfl, hR4, hC4⟩; have y0 := (hC4.cell (p := ⟨w.heap.size, 0, none⟩) lz (by simp)).trans (z0); have y1 := (hC4.cell (p := ⟨w.heap.size, 1, none⟩) lz (by simp)).trans (z1); have y2 := (hC4.cell (p := ⟨w.heap.size, 2, none⟩) lz (by simp)).trans (z2); (try simp only [drew_heap, size_alloc'] at hR4); have lt4 := hR4.lt; have HR4 := Lib.hid hR4; have hc34 : Chg [] w3 w4 := (Chg.refl [] w3).trans hC4; have HC04 := Lib.hid (HC03.out.trans hc34); have HR34 := Lib.hid (HR3.out.chg hc34 (by simp)); try (have hb4 := (hc34.block _ (heap_lt HB3.out) (by simp)).trans HB3.out; clear q0 q1 q2 r0 r1 r2 lq; have q0 := cell_of_block hb4 0; have q1 := cell_of_block hb4 1; have q2 := cell_of_block hb4 2; have r0 := frozen_of_block hb4 0; have r1 := frozen_of_block hb4 1; have r2 := frozen_of_block hb4 2; have lq := heap_lt hb4; simp only [List.getElem?_toArray, List.getElem?_cons_zero, List.getElem?_cons_succ] at q0 q1 q2; have HB4 := Lib.hid hb4; clear hb4); clear hR4 hC4 hc34)
                | (go_at_call 10; (with_reducible refine cA2'.mono ?_); rintro e w4 ⟨rfl, hR4, hC4⟩; have y0 := (hC4.cell (p := ⟨w.heap.size, 0, none⟩) (Nat.lt_of_lt_of_le lz (((Chg.refl [] w3).alloc (.cells #[.bool false, .slice none 0 0, .slice none 0 0] 24)).size)) (by simp)).trans (((((Chg.refl [] w3).alloc (.cells #[.bool false, .slice none 0 0, .slice none 0 0] 24)).cell (p := ⟨w.heap.size, 0, none⟩) lz (by simp)).trans z0)); have y1 := (hC4.cell (p := ⟨w.heap.size, 1, none⟩) (Nat.lt_of_lt_of_le lz (((Chg.refl [] w3).alloc (.cells #[.bool false, .slice none 0 0, .slice none 0 0] 24)).size)) (by simp)).trans (((((Chg.refl [] w3).alloc (.cells #[.bool false, .slice none 0 0, .slice none 0 0] 24)).cell (p := ⟨w.heap.size, 1, none⟩) lz (by simp)).trans z1)); have y2 := (hC4.cell (p := ⟨w.heap.size, 2, none⟩) (Nat.lt_of_lt_of_le lz (((Chg.refl [] w3).alloc (.cells #[.bool false, .slice none 0 0, .slice none 0 0] 24)).size)) (by simp)).trans (((((Chg.refl [] w3).alloc (.cells #[.bool false, .slice none 0 0, .slice none 0 0] 24)).cell (p := ⟨w.heap.size, 2, none⟩) lz (by simp)).trans z2)); (try simp only [drew_heap, size_alloc'] at hR4); have lt4 := hR4.lt; have HR4 := Lib.hid hR4; have hc34 : Chg [] w3 w4 := ((Chg.refl [] w3).alloc (.cells #[.bool false, .slice none 0 0, .slice none 0 0] 24)).trans hC4; have HC04 := Lib.hid (HC03.out.trans hc34); have HR34 := Lib.hid (HR3.out.chg hc34 (by simp)); have hb4 := (hC4.block w3.heap.size (by simp) (by simp)).trans (new_block w3 (.cells #[.bool false, .slice none 0 0, .slice none 0 0] 24)); have q0 := cell_of_block hb4 0; have q1 := cell_of_block hb4 1; have q2 := cell_of_block hb4 2; have r0 := frozen_of_block hb4 0; have r1 := frozen_of_block hb4 1; have r2 := frozen_of_block hb4 2; have lq := heap_lt hb4; simp only [List.getElem?_toArray, List.getElem?_cons_zero, List.getElem?_cons_succ] at q0 q1 q2; have HB4 := Lib.hid hb4; clear hR4 hC4 hc34 hb4))
            all_goals
              clear cA1 cA1' cA2 cA2' xa0 xa1 xa2 x0 x1 x2 y0 y1 y2 z0 z1 z2
              go_wp2_with fail
              go_meet
              first
              | (with_reducible refine ⟨_, _, _, rfl, ord_new ?_ ?_ ?_ ?_ ?_ ?_, ?_, ?_, ?_⟩
                 · exact (HC04.out.block _ (heap_lt X6.out) (by simp)).trans X6.out
                 · exact C6.out.trans HC04.out
                 · exact row_in HR34.out (by omega)
                 · exact row_in HR4.out (by omega)
                 · intro p c hp; injection hp with hp; injection hp with hp; subst hp; simp <;> omega
                 · intro p c hp; injection hp with hp; injection hp with hp; subst hp; simp <;> omega
                 · exact HR34.out.chg ((Chg.refl [] _).alloc _) (by simp)
                 · omega
                 · omega)
              | (with_reducible refine ⟨_, _, _, rfl, ord_set HB4.out ?_ ?_ ?_ ?_ ?_ ?_ ?_, ?_, ?_, ?_⟩
                 · omega
                 · exact (HC04.out.block _ (heap_lt X6.out) (by simp)).trans X6.out
                 · exact C6.out.trans HC04.out
                 · exact row_in HR34.out (by omega)
                 · exact row_in HR4.out (by omega)
                 · intro p c hp; injection hp with hp; injection hp with hp; subst hp; simp <;> omega
                 · intro p c hp; injection hp with hp; injection hp with hp; subst hp; simp <;> omega
                 · exact HR34.out.chg (chg3c _ _ _ _ _) (by simp <;> omega)
                 · omega
                 · omega)
          case rest =>
            obtain ⟨tb, b1, b2, rfl, M, hR, lb1, hb12⟩ := hcut
            have HM := Lib.hid M
            have db1 := M.dK _ _ rfl
            have db2 := M.dV _ _ rfl
            simp only at db1 db2
            have lX := M.lX
            have HR := Lib.hid hR
            obtain ⟨kbl, kc⟩ : kb < w.heap.size ∧ NumsAt w kb ko n keys := by
              obtain ⟨b', o', e, hl, _, hc⟩ := HK.out.get (i := 0) h0
              injection e with e
              injection e with e1 e2
              subst e1 e2
              exact ⟨hl, hc⟩
            have Ci := (M.C.cell (p := ⟨kb, ko + i, none⟩) kbl (by simp)).trans (kc i hin).1
            have Ck := (M.C.cell (p := ⟨kb, ko + k, none⟩) kbl (by simp)).trans (kc k hkn).1
            clear kc M hR K6 V6 X6 C6
            go_upto_region 11 with fail
            go_cut [] (fun wx => wx = ((wc.setCell ⟨b1, i, none⟩ (.int .u64 (keys k : Int))).setCell ⟨b1, k, none⟩ (.int .u64 (keys i : Int))).drew)
            case first =>
              have x0 := cell_of_block HM.out.hX 0
              have x1 := cell_of_block HM.out.hX 1
              have x2 := cell_of_block HM.out.hX 2
              simp only [List.getElem?_toArray, List.getElem?_cons_zero, List.getElem?_cons_succ] at x0 x1 x2
              have y0 := cell_of_block HM.out.hL 0
              have y1 := cell_of_block HM.out.hL 1
              have y2 := cell_of_block HM.out.hL 2
              simp only [List.getElem?_toArray, List.getElem?_cons_zero, List.getElem?_cons_succ] at y0 y1 y2
              have ci := HR.out.cell hin
              have ck' := HR.out.cell hkn
              have fi := HR.out.fz i
              have fk := HR.out.fz k
              have lr := HR.out.lt
              have j1 : (i : Int) < (n : Int) := by omega
              have j2 : (k : Int) < (n : Int) := by omega
              have j3 : (0 : Int) ≤ (k : Int) := by omega
              have hdik : ¬ i = k := Hik.out
              have hdki : ¬ k = i := fun e => Hik.out e.symm
              go_region_held3 (fun w' => w'.cell? ⟨w.heap.size, 1, none⟩ = some (.slice (some ⟨kb, ko, none⟩) n ck) ∧ w'.cell? ⟨tb, 1, none⟩ = some (.slice (some ⟨b1, 0, none⟩) n n) ∧ w'.cell? ⟨kb, ko + i, none⟩ = some (.int .u64 (keys i : Int)) ∧ w'.cell? ⟨kb, ko + k, none⟩ = some (.int .u64 (keys k : Int)))
                (first | exact ⟨x1, y1, Ci, Ck⟩ | exact ⟨keep1 x1 (by omega), keep1 y1 (by omega), keep1 Ci (by omega), keep1 Ck (by omega)⟩ | exact ⟨keep1 (keep1 x1 (by omega)) (by omega), keep1 (keep1 y1 (by omega)) (by omega), keep1 (keep1 Ci (by omega)) (by omega), keep1 (keep1 Ck (by omega)) (by omega)⟩ | go_keep) (fail)
              all_goals
                go_wp2_with fail
                go_meet
                rfl
            case rest =>
              obtain rfl := hcut
              have hS := ((HR.out.set (v := keys k) hin (bK.out k hkn)).set (v := keys i) hkn (bK.out i hin)).chg (Chg.drew (Chg.refl [] _)) (by simp)
              have hC : Chg [b1] wc ((wc.setCell ⟨b1, i, none⟩ (.int .u64 (keys k : Int))).setCell ⟨b1, k, none⟩ (.int .u64 (keys i : Int))).drew := (((Chg.refl [b1] wc).setCell (.inl (by simp)) _).setCell (.inl (by simp)) _).drew
              generalize ((wc.setCell ⟨b1, i, none⟩ (.int .u64 (keys k : Int))).setCell ⟨b1, k, none⟩ (.int .u64 (keys i : Int))).drew = w8 at *
              have nK : NumsIn [] w8 (.slice (some ⟨b1, 0, none⟩) n n) n (swF keys i k) := (row_in hS n7).congr fun j hj => by
                have := Hik.out
                unfold swF
                by_cases e1 : j = i
                · subst e1; rw [if_pos rfl, if_neg this, if_pos rfl]
                · by_cases e2 : j = k
                  · subst e2; rw [if_pos rfl, if_neg e1, if_pos rfl]
                  · rw [if_neg e2, if_neg e1, if_neg e1, if_neg e2]
              have nV := HM.out.hV.off hC (by intro p c e; injection e with e; injection e with e; subst e; simp; omega)
              have hL := (hC.block _ (heap_lt HM.out.hL) (by simp; omega)).trans HM.out.hL
              have C8 := Lib.hid (HM.out.C.then hC (by simp; omega))
              have cR := right_at (leaf := l) nK nV
              rw [right_sw Hr.out hin hkn Hik.out] at cR
              have y0 := cell_of_block hL 0
              have y1 := cell_of_block hL 1
              have y2 := cell_of_block hL 2
              simp only [List.getElem?_toArray, List.getElem?_cons_zero, List.getElem?_cons_succ] at y0 y1 y2
              have ly := heap_lt hL
              clear hS hC nK nV hL Ci Ck
              go_wp2_with fail
              refine cR.mono ?_
              clear cR y0 y1 y2 ly
              rintro e w9 ⟨rfl, hC⟩
              have C9 := Lib.hid (C8.out.trans hC)
              clear hC
              go_wp2_with fail
              refine (awake03 _).mono ?_
              rintro e wz ⟨rfl, hZ⟩
              have HZ := Lib.hid ((C9.out).trans hZ)
              clear hZ
              go_wp2_with fail
              go_ret
              exact law_ok HZ.out

theorem leafOrder_walk (v : Value) (l : Bool) (nk nv : Nat) (keys vals : Nat → Nat) (x y : Int) (w : World) (hn : IsNode w v l nk nv keys vals) (hx : (Lit.int .u8 x).wf = true) (hy : (Lit.int .u8 y).wf = true) :
    Calls Try.prog 7 #[v, .int .u8 x, .int .u8 y] w (LawOk w) := by
  obtain ⟨vk, vv, rfl, hk, hv⟩ := hn
  by_cases g1 : 20 < nk
  · exact order_skip x y hk hv (.inl g1)
  by_cases g2 : 20 < nv
  · exact order_skip x y hk hv (.inr (.inl g2))
  cases hr : rightB l nk nv keys vals with
  | false => exact order_skip x y hk hv (.inr (.inr (.inl hr)))
  | true =>
    by_cases h0 : nk = 0
    · exact order_skip x y hk hv (.inr (.inr (.inr h0)))
    · obtain ⟨n7, rfl⟩ := rightB_bd hr
      obtain ⟨a, rfl⟩ := Int.eq_ofNat_of_zero_le (bd_u8 hx).1
      obtain ⟨b, rfl⟩ := Int.eq_ofNat_of_zero_le (bd_u8 hy).1
      have hx2 := (bd_u8 hx).2
      have hy2 := (bd_u8 hy).2
      obtain ⟨ak, ck, rfl, hc1, hc2⟩ := hk.cap
      obtain ⟨av, cv, rfl, hc3, hc4⟩ := hv.cap
      obtain ⟨kb, ko, rfl, _⟩ := hk.get (i := 0) (by omega)
      obtain ⟨vb, vo, rfl, _⟩ := hv.get (i := 0) (by omega)
      exact order_right a b (by omega) (by omega) hk hv hr (by omega) hc1 hc2 hc3 hc4

end Go.Proofs.Ytjceoheiiohfcaa
