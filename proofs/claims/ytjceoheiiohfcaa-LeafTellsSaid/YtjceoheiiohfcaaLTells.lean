/- catchmentlaw03.LeafTells: the walk. -/
import Derived.Test.YtjceoheiiohfcaaRefD
import Derived.Test.YtjceoheiiohfcaaLOrder
namespace Go.Proofs.Ytjceoheiiohfcaa
open Go.RowKit
set_option linter.unusedVariables false
set_option linter.unusedSimpArgs false

theorem row_in' {w : World} {g n : Nat} {f : Nat → Nat} (h : Row64 w g n f) (hn : n ≤ 20) : NumsIn [] w (.slice (some ⟨g, 0, none⟩) n n) n f :=
  .inr ⟨g, 0, n, rfl, Nat.le_refl _, by unfold maxLen; omega, h.lt, by simp, h.nums⟩

set_option maxRecDepth 20000 in
set_option maxHeartbeats 4000000 in
theorem tells_skip {w : World} {l : Bool} {vk vv : Value} {nk nv n cap : Nat} {a : Option Addr} {keys vals : Nat → Nat} (hk : NumsIn [] w vk nk keys) (hv : NumsIn [] w vv nv vals) (h : 20 < nk ∨ 20 < nv ∨ 200 < n) :
    Calls Try.prog 3 #[.agg #[.bool l, vk, vv], .slice a n cap] w (LawOk w) := by
  obtain ⟨ak, ck, rfl, _⟩ := hk.cap
  obtain ⟨av, cv, rfl, _⟩ := hv.cap
  have h' : (20 : Int) < nk ∨ (¬ (20 : Int) < nk ∧ (20 : Int) < nv) ∨ (¬ (20 : Int) < nk ∧ ¬ (20 : Int) < nv ∧ (200 : Int) < n) := by omega
  clear h hk hv
  rcases h' with d1 | ⟨d1, d2⟩ | ⟨d1, d2, d3⟩
  all_goals
    go_enter Try.func3, Try.ntmps3
    go_wp2_with fail
    refine (awake03 _).mono ?_
    rintro e wz ⟨rfl, hZ⟩
    have HZ := Lib.hid (((Chg.refl [] w).alloc _).trans hZ)
    clear hZ
    go_wp2_with fail
    go_ret
    exact law_ok HZ.out

theorem eqN_same {l : Bool} {n m : Nat} {k v : Nat → Nat} : eqN l l n n m m k k v v = true := by
  unfold eqN
  rw [Bool.and_eq_true, Bool.and_eq_true, eqF_iff, eqF_iff]
  exact ⟨by cases l <;> rfl, ⟨rfl, fun _ _ => rfl⟩, rfl, fun _ _ => rfl⟩
/-- Where the law stands when the node was copied: ib: the copy's block. -/
structure InMid (w W : World) (l : Bool) (vk vv : Value) (ib : Nat) (u v : Value) (nk nv : Nat) (keys vals : Nat → Nat) : Prop where
  hX : W.heap[w.heap.size]? = some (.cells #[.bool l, vk, vv] 24 (0, 0))
  hI : W.heap[ib]? = some (.cells #[.bool l, u, v] 24 (0, 0))
  lI : w.heap.size < ib
  hK : NumsIn [] W u nk keys
  hV : NumsIn [] W v nv vals
  C : Chg [] w W
theorem in_new {w W : World} {l : Bool} {vk vv u v : Value} {nk nv : Nat} {keys vals : Nat → Nat} (hX : W.heap[w.heap.size]? = some (.cells #[.bool l, vk, vv] 24 (0, 0))) (C : Chg [] w W) (hK : NumsIn [] W u nk keys) (hV : NumsIn [] W v nv vals) :
    InMid w (W.alloc (.cells #[.bool l, u, v] 24)) l vk vv W.heap.size u v nk nv keys vals :=
  have hc := (Chg.refl [] W).alloc (.cells #[.bool l, u, v] 24)
  ⟨(hc.block _ (heap_lt hX) (by simp)).trans hX, new_block _ _, heap_lt hX, hK.chg hc (by simp), hV.chg hc (by simp), C.trans hc⟩
theorem in_set {w W : World} {l : Bool} {vk vv u v a b l0 : Value} {ib nk nv : Nat} {keys vals : Nat → Nat} (hB : W.heap[ib]? = some (.cells #[l0, a, b] 24 (0, 0))) (hlt : w.heap.size < ib)
    (hX : W.heap[w.heap.size]? = some (.cells #[.bool l, vk, vv] 24 (0, 0))) (C : Chg [] w W) (hK : NumsIn [] W u nk keys) (hV : NumsIn [] W v nv vals)
    (hK1 : ∀ p c, u = .slice (some p) nk c → p.block ≠ ib) (hV1 : ∀ p c, v = .slice (some p) nv c → p.block ≠ ib) :
    InMid w (((W.setCell ⟨ib, 0, none⟩ (.bool l)).setCell ⟨ib, 1, none⟩ u).setCell ⟨ib, 2, none⟩ v) l vk vv ib u v nk nv keys vals := by
  have hc := chg3c W ib (.bool l) u v
  refine ⟨(hc.block _ (heap_lt hX) (by simp; omega)).trans hX, ?_, hlt, hK.off hc (by simpa using hK1), hV.off hc (by simpa using hV1), C.then hc (by simp; omega)⟩
  rw [setCell_block (setCell_block (setCell_block hB _ _) _ _) _ _]
  rfl

set_option maxRecDepth 20000 in
set_option maxHeartbeats 8000000 in
theorem tells_main {w : World} {l : Bool} {vk vv : Value} {nk nv n cap : Nat} {a : Option Addr} {keys vals f : Nat → Nat} (hk : NumsIn [] w vk nk keys) (hv : NumsIn [] w vv nv vals) (hp : BytesIn w a n cap f) (g1 : nk ≤ 20) (g2 : nv ≤ 20) (g3 : n ≤ 200) :
    Calls Try.prog 3 #[.agg #[.bool l, vk, vv], .slice a n cap] w (LawOk w) := by
  obtain ⟨ak, ck, rfl, _⟩ := hk.cap
  obtain ⟨av, cv, rfl, _⟩ := hv.cap
  have d1 : ¬ (20 : Int) < nk := by omega
  have d2 : ¬ (20 : Int) < nv := by omega
  have d3 : ¬ (200 : Int) < n := by omega
  have hW := (Chg.refl [] w).alloc (.cells #[.bool l, .slice ak nk ck, .slice av nv cv] 24)
  have X2 := Lib.hid (new_block w (.cells #[.bool l, .slice ak nk ck, .slice av nv cv] 24))
  have K2 := Lib.hid (hk.chg hW (by simp))
  have V2 := Lib.hid (hv.chg hW (by simp))
  have C2 := Lib.hid hW
  have HK := Lib.hid hk
  have HV := Lib.hid hv
  have HP := Lib.hid hp
  clear hk hv hp hW
  go_enter Try.func3, Try.ntmps3
  go_wp2_with fail
  clear d1 d2 d3
  generalize w.alloc (.cells #[.bool l, .slice ak nk ck, .slice av nv cv] 24) = w2 at *
  go_cut [5] (fun s wx => ∃ ib k0 k1, s = .pointer (some ⟨ib, 0, none⟩) ∧ InMid w wx l (.slice ak nk ck) (.slice av nv cv) ib (.slice (some ⟨k0, 0, none⟩) nk nk) (.slice (some ⟨k1, 0, none⟩) nv nv) nk nv keys vals)
  case first =>
    have x0 := cell_of_block X2.out 0
    have x1 := cell_of_block X2.out 1
    have x2 := cell_of_block X2.out 2
    simp only [List.getElem?_toArray, List.getElem?_cons_zero, List.getElem?_cons_succ] at x0 x1 x2
    have lx := heap_lt X2.out
    have cA1 := againN_at (w := w2.drew) (K2.out.chg (Chg.drew (Chg.refl [] w2)) (by simp)) (by omega)
    have cA1' := againN_at (w := (w2.alloc (.cells #[.bool false, .slice none 0 0, .slice none 0 0] 24)).drew) (K2.out.chg (((Chg.refl [] w2).alloc (.cells #[.bool false, .slice none 0 0, .slice none 0 0] 24)).drew) (by simp)) (by omega)
    have lxa := Nat.lt_of_lt_of_le lx (((Chg.refl [] w2).alloc (.cells #[.bool false, .slice none 0 0, .slice none 0 0] 24)).drew).size
    have xa0 := ((((Chg.refl [] w2).alloc (.cells #[.bool false, .slice none 0 0, .slice none 0 0] 24)).drew).cell (p := ⟨w.heap.size, 0, none⟩) lx (by simp)).trans x0
    have xa1 := ((((Chg.refl [] w2).alloc (.cells #[.bool false, .slice none 0 0, .slice none 0 0] 24)).drew).cell (p := ⟨w.heap.size, 1, none⟩) lx (by simp)).trans x1
    have xa2 := ((((Chg.refl [] w2).alloc (.cells #[.bool false, .slice none 0 0, .slice none 0 0] 24)).drew).cell (p := ⟨w.heap.size, 2, none⟩) lx (by simp)).trans x2
    go_region_held3 (fun w' => w'.cell? ⟨w.heap.size, 0, none⟩ = some (.bool l) ∧ w'.cell? ⟨w.heap.size, 1, none⟩ = some (.slice ak nk ck) ∧ w'.cell? ⟨w.heap.size, 2, none⟩ = some (.slice av nv cv))
      (first | exact ⟨x0, x1, x2⟩ | exact ⟨xa0, xa1, xa2⟩ | exact ⟨z0, z1, z2⟩ | exact ⟨y0, y1, y2⟩ | exact ⟨keep3 y0 (by omega), keep3 y1 (by omega), keep3 y2 (by omega)⟩ | go_keep)
      (first
        | (go_at_call 10; (with_reducible refine cA1.mono ?_); rintro e w3 ⟨rfl, hR3, hC3⟩; have z0 := (hC3.cell (p := ⟨w.heap.size, 0, none⟩) lx (by simp)).trans (x0); have z1 := (hC3.cell (p := ⟨w.heap.size, 1, none⟩) lx (by simp)).trans (x1); have z2 := (hC3.cell (p := ⟨w.heap.size, 2, none⟩) lx (by simp)).trans (x2); have lz : w.heap.size < w3.heap.size := Nat.lt_of_lt_of_le lx hC3.size; have hc03 : Chg [] w2 w3 := (Chg.drew (Chg.refl [] w2)).trans hC3; have cA2 := againN_at (V2.out.chg hc03 (by simp)) (by omega); have cA2' := againN_at (V2.out.chg (hc03.alloc (.cells #[.bool false, .slice none 0 0, .slice none 0 0] 24)) (by simp)) (by omega); (try simp only [drew_heap, size_alloc'] at hR3); have lt3 := hR3.lt; have HR3 := Lib.hid hR3; have HC03 := Lib.hid hc03; clear hR3 hC3 hc03)
        | (go_at_call 10; (with_reducible refine cA1'.mono ?_); rintro e w3 ⟨rfl, hR3, hC3⟩; have z0 := (hC3.cell (p := ⟨w.heap.size, 0, none⟩) lxa (by simp)).trans (xa0); have z1 := (hC3.cell (p := ⟨w.heap.size, 1, none⟩) lxa (by simp)).trans (xa1); have z2 := (hC3.cell (p := ⟨w.heap.size, 2, none⟩) lxa (by simp)).trans (xa2); have lz : w.heap.size < w3.heap.size := Nat.lt_of_lt_of_le lxa hC3.size; have hc03 : Chg [] w2 w3 := (((Chg.refl [] w2).alloc (.cells #[.bool false, .slice none 0 0, .slice none 0 0] 24)).drew).trans hC3; have cA2 := againN_at (V2.out.chg hc03 (by simp)) (by omega); have cA2' := againN_at (V2.out.chg (hc03.alloc (.cells #[.bool false, .slice none 0 0, .slice none 0 0] 24)) (by simp)) (by omega); (try simp only [drew_heap, size_alloc'] at hR3); have lt3 := hR3.lt; have HR3 := Lib.hid hR3; have HC03 := Lib.hid hc03; have hb3 := (hC3.block w2.heap.size (heap_lt (new_block w2 (.cells #[.bool false, .slice none 0 0, .slice none 0 0] 24))) (by simp)).trans (new_block w2 (.cells #[.bool false, .slice none 0 0, .slice none 0 0] 24)); have q0 := cell_of_block hb3 0; have q1 := cell_of_block hb3 1; have q2 := cell_of_block hb3 2; have r0 := frozen_of_block hb3 0; have r1 := frozen_of_block hb3 1; have r2 := frozen_of_block hb3 2; have lq := heap_lt hb3; simp only [List.getElem?_toArray, List.getElem?_cons_zero, List.getElem?_cons_succ] at q0 q1 q2; have HB3 := Lib.hid hb3; clear hR3 hC3 hc03 hb3)
        | (go_at_call 10; (with_reducible refine cA2.mono ?_); rintro e w4 ⟨rfl, hR4, hC4⟩; have y0 := (hC4.cell (p := ⟨w.heap.size, 0, none⟩) lz (by simp)).trans (z0); have y1 := (hC4.cell (p := ⟨w.heap.size, 1, none⟩) lz (by simp)).trans (z1); have y2 := (hC4.cell (p := ⟨w.heap.size, 2, none⟩) lz (by simp)).trans (z2); (try simp only [drew_heap, size_alloc'] at hR4); have lt4 := hR4.lt; have HR4 := Lib.hid hR4; have hc34 : Chg [] w3 w4 := (Chg.refl [] w3).trans hC4; have HC04 := Lib.hid (HC03.out.trans hc34); have HR34 := Lib.hid (HR3.out.chg hc34 (by simp)); try (have hb4 := (hc34.block _ (heap_lt HB3.out) (by simp)).trans HB3.out; clear q0 q1 q2 r0 r1 r2 lq; have q0 := cell_of_block hb4 0; have q1 := cell_of_block hb4 1; have q2 := cell_of_block hb4 2; have r0 := frozen_of_block hb4 0; have r1 := frozen_of_block hb4 1; have r2 := frozen_of_block hb4 2; have lq := heap_lt hb4; simp only [List.getElem?_toArray, List.getElem?_cons_zero, List.getElem?_cons_succ] at q0 q1 q2; have HB4 := Lib.hid hb4; clear hb4); clear hR4 hC4 hc34)
        | (go_at_call 10; (with_reducible refine cA2'.mono ?_); rintro e w4 ⟨rfl, hR4, hC4⟩; have y0 := (hC4.cell (p := ⟨w.heap.size, 0, none⟩) (Nat.lt_of_lt_of_le lz (((Chg.refl [] w3).alloc (.cells #[.bool false, .slice none 0 0, .slice none 0 0] 24)).size)) (by simp)).trans (((((Chg.refl [] w3).alloc (.cells #[.bool false, .slice none 0 0, .slice none 0 0] 24)).cell (p := ⟨w.heap.size, 0, none⟩) lz (by simp)).trans z0)); have y1 := (hC4.cell (p := ⟨w.heap.size, 1, none⟩) (Nat.lt_of_lt_of_le lz (((Chg.refl [] w3).alloc (.cells #[.bool false, .slice none 0 0, .slice none 0 0] 24)).size)) (by simp)).trans (((((Chg.refl [] w3).alloc (.cells #[.bool false, .slice none 0 0, .slice none 0 0] 24)).cell (p := ⟨w.heap.size, 1, none⟩) lz (by simp)).trans z1)); have y2 := (hC4.cell (p := ⟨w.heap.size, 2, none⟩) (Nat.lt_of_lt_of_le lz (((Chg.refl [] w3).alloc (.cells #[.bool false, .slice none 0 0, .slice none 0 0] 24)).size)) (by simp)).trans (((((Chg.refl [] w3).alloc (.cells #[.bool false, .slice none 0 0, .slice none 0 0] 24)).cell (p := ⟨w.heap.size, 2, none⟩) lz (by simp)).trans z2)); (try simp only [drew_heap, size_alloc'] at hR4); have lt4 := hR4.lt; have HR4 := Lib.hid hR4; have hc34 : Chg [] w3 w4 := ((Chg.refl [] w3).alloc (.cells #[.bool false, .slice none 0 0, .slice none 0 0] 24)).trans hC4; have HC04 := Lib.hid (HC03.out.trans hc34); have HR34 := Lib.hid (HR3.out.chg hc34 (by simp)); have hb4 := (hC4.block w3.heap.size (by simp) (by simp)).trans (new_block w3 (.cells #[.bool false, .slice none 0 0, .slice none 0 0] 24)); have q0 := cell_of_block hb4 0; have q1 := cell_of_block hb4 1; have q2 := cell_of_block hb4 2; have r0 := frozen_of_block hb4 0; have r1 := frozen_of_block hb4 1; have r2 := frozen_of_block hb4 2; have lq := heap_lt hb4; simp only [List.getElem?_toArray, List.getElem?_cons_zero, List.getElem?_cons_succ] at q0 q1 q2; have HB4 := Lib.hid hb4; clear hR4 hC4 hc34 hb4))
    all_goals
      clear cA1 cA1' cA2 cA2' xa0 xa1 xa2 x0 x1 x2 y0 y1 y2 z0 z1 z2
      go_wp2_with fail
      go_meet
      first
      | (with_reducible refine ⟨_, _, _, rfl, in_new ?_ ?_ ?_ ?_⟩
         · exact (HC04.out.block _ (heap_lt X2.out) (by simp)).trans X2.out
         · exact C2.out.trans HC04.out
         · exact row_in' HR34.out (by omega)
         · exact row_in' HR4.out (by omega))
      | (with_reducible refine ⟨_, _, _, rfl, in_set HB4.out ?_ ?_ ?_ ?_ ?_ ?_ ?_⟩
         · omega
         · exact (HC04.out.block _ (heap_lt X2.out) (by simp)).trans X2.out
         · exact C2.out.trans HC04.out
         · exact row_in' HR34.out (by omega)
         · exact row_in' HR4.out (by omega)
         · intro p c hp; injection hp with hp; injection hp with hp; subst hp; simp <;> omega
         · intro p c hp; injection hp with hp; injection hp with hp; subst hp; simp <;> omega)
  case rest =>
    obtain ⟨ib, k0, k1, rfl, M⟩ := hcut
    clear X2 K2 V2 C2
    have HM := Lib.hid M
    have cA := again_at (HP.out.keep M.C)
    clear M
    go_wp2_with fail
    refine cA.mono ?_
    clear cA
    rintro e w3 ⟨dd, rfl, hlt3, hA, hC⟩
    have A3 := Lib.hid hA
    have X3 := Lib.hid ((hC.block _ (heap_lt HM.out.hX) (by simp)).trans HM.out.hX)
    have I3 := Lib.hid ((hC.block _ (heap_lt HM.out.hI) (by simp)).trans HM.out.hI)
    have K3 := Lib.hid (HM.out.hK.chg hC (by simp))
    have V3 := Lib.hid (HM.out.hV.chg hC (by simp))
    have C3 := Lib.hid (HM.out.C.trans hC)
    have lI := HM.out.lI
    have bf := Lib.hid (fun (hn : n = 128) => HP.out.le)
    clear hA hC HM
    generalize wc.heap.size = ab at *
    have y0 := cell_of_block I3.out 0
    have y1 := cell_of_block I3.out 1
    have y2 := cell_of_block I3.out 2
    simp only [List.getElem?_toArray, List.getElem?_cons_zero, List.getElem?_cons_succ] at y0 y1 y2
    have ly := heap_lt I3.out
    cases hr : rightB l nk nv keys vals with
    | true =>
      have Hr := Lib.hid hr
      clear hr
      go_wp2_with fail
      refine (enc_ok K3.out V3.out Hr.out).mono ?_
      clear y0 y1 y2 ly
      rintro e w4 ⟨p1, rfl, hp1, hB, hC⟩
      have P4 := Lib.hid (of_block_in hB (fun i _ => pageF_le l (by have := (rightB_bd Hr.out).1; omega) keys vals i))
      have X4 := Lib.hid ((hC.block _ (heap_lt X3.out) (by simp)).trans X3.out)
      have I4 := Lib.hid ((hC.block _ (heap_lt I3.out) (by simp)).trans I3.out)
      have K4 := Lib.hid (K3.out.chg hC (by simp))
      have V4 := Lib.hid (V3.out.chg hC (by simp))
      have A4 := Lib.hid (A3.out.keep hC)
      have C4 := Lib.hid (C3.out.trans hC)
      clear X3 I3 K3 V3 A3 C3
      clear hB hC
      have x0 := cell_of_block X4.out 0
      have x1 := cell_of_block X4.out 1
      have x2 := cell_of_block X4.out 2
      simp only [List.getElem?_toArray, List.getElem?_cons_zero, List.getElem?_cons_succ] at x0 x1 x2
      have lx := heap_lt X4.out
      have HK4 := Lib.hid (HK.out.chg C4.out (by simp))
      have HV4 := Lib.hid (HV.out.chg C4.out (by simp))
      go_wp2_with fail
      refine (renc_ok HK4.out HV4.out Hr.out).mono ?_
      clear x0 x1 x2 lx
      rintro e w5 ⟨q1, qc, rfl, z1, z2, z3, z4, hQ, hC⟩
      have Q5 := Lib.hid (bytes_at_in hQ z1 z2)
      have P5 := Lib.hid (P4.out.keep hC)
      have X5 := Lib.hid ((hC.block _ (heap_lt X4.out) (by simp)).trans X4.out)
      have I5 := Lib.hid ((hC.block _ (heap_lt I4.out) (by simp)).trans I4.out)
      have K5 := Lib.hid (K4.out.chg hC (by simp))
      have V5 := Lib.hid (V4.out.chg hC (by simp))
      have A5 := Lib.hid (A4.out.keep hC)
      have C5 := Lib.hid (C4.out.trans hC)
      clear X4 I4 K4 V4 A4 C4
      clear hQ hC P4
      clear HK4 HV4
      cases hd : decB n f with
      | true =>
        have cD := dec_at A5.out
        rw [hd] at cD
        have Hd := Lib.hid hd
        clear hd
        go_wp2_with fail
        refine Calls.mono cD ?_
        clear cD
        rintro e w6 hE
        obtain ⟨kb, vb, rfl, e1, e2, e3, hRK, hRV, hC0⟩ : DecOk w5 (decide (f 0 = 1)) f e w6 := hE
        have e7 := (decB_true Hd.out).2.1
        have hC := hC0.alloc (.cells #[.bool (decide (f 0 = 1)), .slice (some ⟨kb, 0, none⟩) (f 1) (f 1), .slice (some ⟨vb, 0, none⟩) (f 1) (f 1)] 24)
        have N6 := Lib.hid (new_block w6 (.cells #[.bool (decide (f 0 = 1)), .slice (some ⟨kb, 0, none⟩) (f 1) (f 1), .slice (some ⟨vb, 0, none⟩) (f 1) (f 1)] 24))
        have hn := (Chg.refl [] w6).alloc (.cells #[.bool (decide (f 0 = 1)), .slice (some ⟨kb, 0, none⟩) (f 1) (f 1), .slice (some ⟨vb, 0, none⟩) (f 1) (f 1)] 24)
        have RK6 := Lib.hid ((row_in hRK e7).chg hn (by simp))
        have RV6 := Lib.hid ((row_in hRV e7).chg hn (by simp))
        clear hn hRK hRV
        have P6 := Lib.hid (P5.out.keep hC)
        have Q6 := Lib.hid (Q5.out.keep hC)
        clear P5 Q5
        have X6 := Lib.hid ((hC.block _ (heap_lt X5.out) (by simp)).trans X5.out)
        have I6 := Lib.hid ((hC.block _ (heap_lt I5.out) (by simp)).trans I5.out)
        have K6 := Lib.hid (K5.out.chg hC (by simp))
        have V6 := Lib.hid (V5.out.chg hC (by simp))
        have A6 := Lib.hid (A5.out.keep hC)
        have C6 := Lib.hid (C5.out.trans hC)
        clear X5 I5 K5 V5 A5 C5
        clear hC hC0
        have cF := rdec_at (HP.out.keep C6.out)
        go_wp2_with fail
        refine Calls.mono cF ?_
        clear cF
        rintro e w7 hE
        obtain ⟨uk, uv, rfl, hUK, hUV, hC0⟩ : RDecOk _ (decide (f 0 = 1)) f e w7 := by
          rcases hE with ⟨_, q⟩ | ⟨q, _⟩
          · exact q
          · exact absurd ((rdec_iff (fun hn i hi => bf.out hn i (by omega))).2 Hd.out) q
        obtain ⟨ua, uc, rfl, _⟩ := hUK.cap
        obtain ⟨va, vc, rfl, _⟩ := hUV.cap
        have hC := hC0.alloc (.cells #[.bool (decide (f 0 = 1)), .slice ua (f 1) uc, .slice va (f 1) vc] 24)
        have D7 := Lib.hid (new_block w7 (.cells #[.bool (decide (f 0 = 1)), .slice ua (f 1) uc, .slice va (f 1) vc] 24))
        have N7 := Lib.hid ((hC.block _ (heap_lt N6.out) (by simp)).trans N6.out)
        have hn := (Chg.refl [] w7).alloc (.cells #[.bool (decide (f 0 = 1)), .slice ua (f 1) uc, .slice va (f 1) vc] 24)
        have RK7 := Lib.hid (RK6.out.chg hC (by simp))
        have RV7 := Lib.hid (RV6.out.chg hC (by simp))
        have UK7 := Lib.hid (hUK.chg hn (by simp))
        have UV7 := Lib.hid (hUV.chg hn (by simp))
        clear hn hUK hUV RK6 RV6
        have P7 := Lib.hid (P6.out.keep hC)
        have Q7 := Lib.hid (Q6.out.keep hC)
        clear P6 Q6
        have X7 := Lib.hid ((hC.block _ (heap_lt X6.out) (by simp)).trans X6.out)
        have I7 := Lib.hid ((hC.block _ (heap_lt I6.out) (by simp)).trans I6.out)
        have K7 := Lib.hid (K6.out.chg hC (by simp))
        have V7 := Lib.hid (V6.out.chg hC (by simp))
        have A7 := Lib.hid (A6.out.keep hC)
        have C7 := Lib.hid (C6.out.trans hC)
        clear X6 I6 K6 V6 A6 C6
        clear hC hC0 N6
        go_wp2_with fail
        have ld := heap_lt D7.out
        generalize w7.alloc (.cells #[.bool (decide (f 0 = 1)), .slice ua (f 1) uc, .slice va (f 1) vc] 24) = W7 at *
        have x0 := cell_of_block X7.out 0
        have x1 := cell_of_block X7.out 1
        have x2 := cell_of_block X7.out 2
        simp only [List.getElem?_toArray, List.getElem?_cons_zero, List.getElem?_cons_succ] at x0 x1 x2
        have lx := heap_lt X7.out
        have y0 := cell_of_block I7.out 0
        have y1 := cell_of_block I7.out 1
        have y2 := cell_of_block I7.out 2
        simp only [List.getElem?_toArray, List.getElem?_cons_zero, List.getElem?_cons_succ] at y0 y1 y2
        have ly := heap_lt I7.out
        have n0 := cell_of_block N7.out 0
        have n1 := cell_of_block N7.out 1
        have n2 := cell_of_block N7.out 2
        simp only [List.getElem?_toArray, List.getElem?_cons_zero, List.getElem?_cons_succ] at n0 n1 n2
        have ln := heap_lt N7.out
        have m0 := cell_of_block D7.out 0
        have m1 := cell_of_block D7.out 1
        have m2 := cell_of_block D7.out 2
        simp only [List.getElem?_toArray, List.getElem?_cons_zero, List.getElem?_cons_succ] at m0 m1 m2
        have lm := heap_lt D7.out
        have cE := equal_at (w := W7.drew) (P7.out.keep (Chg.drew (Chg.refl [] W7))) (Q7.out.keep (Chg.drew (Chg.refl [] W7)))
        rw [eqF_iff.2 ⟨rfl, fun _ _ => rfl⟩] at cE
        have cN := equalNodes_at (w := W7.drew) (l := (decide (f 0 = 1))) (l' := (decide (f 0 = 1))) (RK7.out.chg (Chg.drew (Chg.refl [] W7)) (by simp)) (RV7.out.chg (Chg.drew (Chg.refl [] W7)) (by simp)) (UK7.out.chg (Chg.drew (Chg.refl [] W7)) (by simp)) (UV7.out.chg (Chg.drew (Chg.refl [] W7)) (by simp))
        rw [eqN_same] at cN
        go_region_held3 (fun w' => w'.cell? ⟨w.heap.size, 0, none⟩ = some (.bool l) ∧ w'.cell? ⟨w.heap.size, 1, none⟩ = some (.slice ak nk ck) ∧ w'.cell? ⟨w.heap.size, 2, none⟩ = some (.slice av nv cv) ∧ w'.cell? ⟨ib, 0, none⟩ = some (.bool l) ∧ w'.cell? ⟨ib, 1, none⟩ = some (.slice (some ⟨k0, 0, none⟩) nk nk) ∧ w'.cell? ⟨ib, 2, none⟩ = some (.slice (some ⟨k1, 0, none⟩) nv nv) ∧ w'.cell? ⟨w6.heap.size, 0, none⟩ = some (.bool (decide (f 0 = 1))) ∧ w'.cell? ⟨w6.heap.size, 1, none⟩ = some (.slice (some ⟨kb, 0, none⟩) (f 1) (f 1)) ∧ w'.cell? ⟨w6.heap.size, 2, none⟩ = some (.slice (some ⟨vb, 0, none⟩) (f 1) (f 1)) ∧ w'.cell? ⟨w7.heap.size, 0, none⟩ = some (.bool (decide (f 0 = 1))) ∧ w'.cell? ⟨w7.heap.size, 1, none⟩ = some (.slice ua (f 1) uc) ∧ w'.cell? ⟨w7.heap.size, 2, none⟩ = some (.slice va (f 1) vc))
          (first | exact ⟨x0, x1, x2, y0, y1, y2, n0, n1, n2, m0, m1, m2⟩ | exact ⟨ax0, ax1, ax2, ay0, ay1, ay2, an0, an1, an2, am0, am1, am2⟩ | exact ⟨bx0, bx1, bx2, by0, by1, by2, bn0, bn1, bn2, bm0, bm1, bm2⟩ | exact ⟨cx0, cx1, cx2, cy0, cy1, cy2, cn0, cn1, cn2, cm0, cm1, cm2⟩ | go_keep)
          (first
            | (go_at_call 16; (with_reducible refine cE.mono ?_); rintro e w' ⟨rfl, rfl⟩)
            | (go_at_call 17; (with_reducible refine cN.mono ?_); rintro e w8 ⟨rfl, hC8⟩; have ax0 := (hC8.cell (p := ⟨w.heap.size, 0, none⟩) lx (by simp)).trans x0; have ax1 := (hC8.cell (p := ⟨w.heap.size, 1, none⟩) lx (by simp)).trans x1; have ax2 := (hC8.cell (p := ⟨w.heap.size, 2, none⟩) lx (by simp)).trans x2; have ay0 := (hC8.cell (p := ⟨ib, 0, none⟩) ly (by simp)).trans y0; have ay1 := (hC8.cell (p := ⟨ib, 1, none⟩) ly (by simp)).trans y1; have ay2 := (hC8.cell (p := ⟨ib, 2, none⟩) ly (by simp)).trans y2; have an0 := (hC8.cell (p := ⟨w6.heap.size, 0, none⟩) ln (by simp)).trans n0; have an1 := (hC8.cell (p := ⟨w6.heap.size, 1, none⟩) ln (by simp)).trans n1; have an2 := (hC8.cell (p := ⟨w6.heap.size, 2, none⟩) ln (by simp)).trans n2; have am0 := (hC8.cell (p := ⟨w7.heap.size, 0, none⟩) lm (by simp)).trans m0; have am1 := (hC8.cell (p := ⟨w7.heap.size, 1, none⟩) lm (by simp)).trans m1; have am2 := (hC8.cell (p := ⟨w7.heap.size, 2, none⟩) lm (by simp)).trans m2; have lax := Nat.lt_of_lt_of_le lx hC8.size; have lay := Nat.lt_of_lt_of_le ly hC8.size; have lan := Nat.lt_of_lt_of_le ln hC8.size; have lam := Nat.lt_of_lt_of_le lm hC8.size; have hc8 := (Chg.drew (Chg.refl [] W7)).trans hC8; have cR := right_at (leaf := l) (K7.out.chg hc8 (by simp)) (V7.out.chg hc8 (by simp)); rw [Hr.out] at cR; have HC8 := Lib.hid hc8; clear hC8 hc8)
            | (go_at_call 18; (with_reducible refine cR.mono ?_); rintro e w9 ⟨rfl, hC9⟩; have bx0 := (hC9.cell (p := ⟨w.heap.size, 0, none⟩) lax (by simp)).trans ax0; have bx1 := (hC9.cell (p := ⟨w.heap.size, 1, none⟩) lax (by simp)).trans ax1; have bx2 := (hC9.cell (p := ⟨w.heap.size, 2, none⟩) lax (by simp)).trans ax2; have by0 := (hC9.cell (p := ⟨ib, 0, none⟩) lay (by simp)).trans ay0; have by1 := (hC9.cell (p := ⟨ib, 1, none⟩) lay (by simp)).trans ay1; have by2 := (hC9.cell (p := ⟨ib, 2, none⟩) lay (by simp)).trans ay2; have bn0 := (hC9.cell (p := ⟨w6.heap.size, 0, none⟩) lan (by simp)).trans an0; have bn1 := (hC9.cell (p := ⟨w6.heap.size, 1, none⟩) lan (by simp)).trans an1; have bn2 := (hC9.cell (p := ⟨w6.heap.size, 2, none⟩) lan (by simp)).trans an2; have bm0 := (hC9.cell (p := ⟨w7.heap.size, 0, none⟩) lam (by simp)).trans am0; have bm1 := (hC9.cell (p := ⟨w7.heap.size, 1, none⟩) lam (by simp)).trans am1; have bm2 := (hC9.cell (p := ⟨w7.heap.size, 2, none⟩) lam (by simp)).trans am2; have lbx := Nat.lt_of_lt_of_le lax hC9.size; have lby := Nat.lt_of_lt_of_le lay hC9.size; have lbn := Nat.lt_of_lt_of_le lan hC9.size; have lbm := Nat.lt_of_lt_of_le lam hC9.size; have hc9 := HC8.out.trans hC9; have cQ := rright_at (leaf := l) (HK.out.chg (C7.out.trans hc9) (by simp)) (HV.out.chg (C7.out.trans hc9) (by simp)); rw [Hr.out] at cQ; have HC9 := Lib.hid hc9; clear hC9 hc9)
            | (go_at_call 19; (with_reducible refine cQ.mono ?_); rintro e w10 ⟨rfl, hC10⟩; have cx0 := (hC10.cell (p := ⟨w.heap.size, 0, none⟩) lbx (by simp)).trans bx0; have cx1 := (hC10.cell (p := ⟨w.heap.size, 1, none⟩) lbx (by simp)).trans bx1; have cx2 := (hC10.cell (p := ⟨w.heap.size, 2, none⟩) lbx (by simp)).trans bx2; have cy0 := (hC10.cell (p := ⟨ib, 0, none⟩) lby (by simp)).trans by0; have cy1 := (hC10.cell (p := ⟨ib, 1, none⟩) lby (by simp)).trans by1; have cy2 := (hC10.cell (p := ⟨ib, 2, none⟩) lby (by simp)).trans by2; have cn0 := (hC10.cell (p := ⟨w6.heap.size, 0, none⟩) lbn (by simp)).trans bn0; have cn1 := (hC10.cell (p := ⟨w6.heap.size, 1, none⟩) lbn (by simp)).trans bn1; have cn2 := (hC10.cell (p := ⟨w6.heap.size, 2, none⟩) lbn (by simp)).trans bn2; have cm0 := (hC10.cell (p := ⟨w7.heap.size, 0, none⟩) lbm (by simp)).trans bm0; have cm1 := (hC10.cell (p := ⟨w7.heap.size, 1, none⟩) lbm (by simp)).trans bm1; have cm2 := (hC10.cell (p := ⟨w7.heap.size, 2, none⟩) lbm (by simp)).trans bm2; have lcx := Nat.lt_of_lt_of_le lbx hC10.size; have lcy := Nat.lt_of_lt_of_le lby hC10.size; have lcn := Nat.lt_of_lt_of_le lbn hC10.size; have lcm := Nat.lt_of_lt_of_le lbm hC10.size; have HC10 := Lib.hid (HC9.out.trans hC10); clear hC10))
        all_goals
          have cN2 := equalNodes_at (w := w10) (l := l) (l' := l) (K7.out.chg HC10.out (by simp)) (V7.out.chg HC10.out (by simp)) (HK.out.chg (C7.out.trans HC10.out) (by simp)) (HV.out.chg (C7.out.trans HC10.out) (by simp))
          rw [eqN_same] at cN2
          go_wp2_with fail
          refine cN2.mono ?_
          clear cN2
          rintro e w11 ⟨rfl, hC11⟩
          have C11 := Lib.hid (HC10.out.trans hC11)
          have cE2 := equal_at (A7.out.keep C11.out) (HP.out.keep (C7.out.trans C11.out))
          rw [eqF_iff.2 ⟨rfl, fun _ _ => rfl⟩] at cE2
          clear hC11
          go_wp2_with fail
          refine cE2.mono ?_
          clear cE2
          rintro e w' ⟨rfl, rfl⟩
          go_wp2_with fail
          refine (awake03 _).mono ?_
          rintro e wz ⟨rfl, hZ⟩
          have HZ := Lib.hid ((C7.out.trans C11.out).trans hZ)
          clear hZ
          go_wp2_with fail
          go_ret
          exact law_ok HZ.out
      | false =>
        have cD := dec_at A5.out
        rw [hd] at cD
        have Hd := Lib.hid hd
        clear hd
        go_wp2_with fail
        refine Calls.mono cD ?_
        clear cD
        rintro e w6 hE
        obtain ⟨rfl, hC0⟩ : DecBad w5 e w6 := hE
        have hC := hC0.alloc (.cells #[.bool false, .slice none 0 0, .slice none 0 0] 24)
        have N6 := Lib.hid (new_block w6 (.cells #[.bool false, .slice none 0 0, .slice none 0 0] 24))
        have P6 := Lib.hid (P5.out.keep hC)
        have Q6 := Lib.hid (Q5.out.keep hC)
        clear P5 Q5
        have X6 := Lib.hid ((hC.block _ (heap_lt X5.out) (by simp)).trans X5.out)
        have I6 := Lib.hid ((hC.block _ (heap_lt I5.out) (by simp)).trans I5.out)
        have K6 := Lib.hid (K5.out.chg hC (by simp))
        have V6 := Lib.hid (V5.out.chg hC (by simp))
        have A6 := Lib.hid (A5.out.keep hC)
        have C6 := Lib.hid (C5.out.trans hC)
        clear X5 I5 K5 V5 A5 C5
        clear hC hC0
        have cF := rdec_at (HP.out.keep C6.out)
        go_wp2_with fail
        refine Calls.mono cF ?_
        clear cF
        rintro e w7 hE
        obtain ⟨rfl, hC0⟩ : DecBad _ e w7 := by
          rcases hE with ⟨q, _⟩ | ⟨_, q⟩
          · have := (rdec_iff (fun hn i hi => bf.out hn i (by omega))).1 q
            rw [Hd.out] at this
            cases this
          · exact q
        have hC := hC0.alloc (.cells #[.bool false, .slice none 0 0, .slice none 0 0] 24)
        have D7 := Lib.hid (new_block w7 (.cells #[.bool false, .slice none 0 0, .slice none 0 0] 24))
        have N7 := Lib.hid ((hC.block _ (heap_lt N6.out) (by simp)).trans N6.out)
        have P7 := Lib.hid (P6.out.keep hC)
        have Q7 := Lib.hid (Q6.out.keep hC)
        clear P6 Q6
        have X7 := Lib.hid ((hC.block _ (heap_lt X6.out) (by simp)).trans X6.out)
        have I7 := Lib.hid ((hC.block _ (heap_lt I6.out) (by simp)).trans I6.out)
        have K7 := Lib.hid (K6.out.chg hC (by simp))
        have V7 := Lib.hid (V6.out.chg hC (by simp))
        have A7 := Lib.hid (A6.out.keep hC)
        have C7 := Lib.hid (C6.out.trans hC)
        clear X6 I6 K6 V6 A6 C6
        clear hC hC0 N6
        go_wp2_with fail
        have ld := heap_lt D7.out
        generalize w7.alloc (.cells #[.bool false, .slice none 0 0, .slice none 0 0] 24) = W7 at *
        have x0 := cell_of_block X7.out 0
        have x1 := cell_of_block X7.out 1
        have x2 := cell_of_block X7.out 2
        simp only [List.getElem?_toArray, List.getElem?_cons_zero, List.getElem?_cons_succ] at x0 x1 x2
        have lx := heap_lt X7.out
        have y0 := cell_of_block I7.out 0
        have y1 := cell_of_block I7.out 1
        have y2 := cell_of_block I7.out 2
        simp only [List.getElem?_toArray, List.getElem?_cons_zero, List.getElem?_cons_succ] at y0 y1 y2
        have ly := heap_lt I7.out
        have n0 := cell_of_block N7.out 0
        have n1 := cell_of_block N7.out 1
        have n2 := cell_of_block N7.out 2
        simp only [List.getElem?_toArray, List.getElem?_cons_zero, List.getElem?_cons_succ] at n0 n1 n2
        have ln := heap_lt N7.out
        have m0 := cell_of_block D7.out 0
        have m1 := cell_of_block D7.out 1
        have m2 := cell_of_block D7.out 2
        simp only [List.getElem?_toArray, List.getElem?_cons_zero, List.getElem?_cons_succ] at m0 m1 m2
        have lm := heap_lt D7.out
        have cE := equal_at (w := W7.drew) (P7.out.keep (Chg.drew (Chg.refl [] W7))) (Q7.out.keep (Chg.drew (Chg.refl [] W7)))
        rw [eqF_iff.2 ⟨rfl, fun _ _ => rfl⟩] at cE
        have cN := equalNodes_at (w := W7.drew) (l := false) (l' := false) (nums_nil _ (fun _ => 0)) (nums_nil _ (fun _ => 0)) (nums_nil _ (fun _ => 0)) (nums_nil _ (fun _ => 0))
        rw [eqN_same] at cN
        go_region_held3 (fun w' => w'.cell? ⟨w.heap.size, 0, none⟩ = some (.bool l) ∧ w'.cell? ⟨w.heap.size, 1, none⟩ = some (.slice ak nk ck) ∧ w'.cell? ⟨w.heap.size, 2, none⟩ = some (.slice av nv cv) ∧ w'.cell? ⟨ib, 0, none⟩ = some (.bool l) ∧ w'.cell? ⟨ib, 1, none⟩ = some (.slice (some ⟨k0, 0, none⟩) nk nk) ∧ w'.cell? ⟨ib, 2, none⟩ = some (.slice (some ⟨k1, 0, none⟩) nv nv) ∧ w'.cell? ⟨w6.heap.size, 0, none⟩ = some (.bool false) ∧ w'.cell? ⟨w6.heap.size, 1, none⟩ = some (.slice none 0 0) ∧ w'.cell? ⟨w6.heap.size, 2, none⟩ = some (.slice none 0 0) ∧ w'.cell? ⟨w7.heap.size, 0, none⟩ = some (.bool false) ∧ w'.cell? ⟨w7.heap.size, 1, none⟩ = some (.slice none 0 0) ∧ w'.cell? ⟨w7.heap.size, 2, none⟩ = some (.slice none 0 0))
          (first | exact ⟨x0, x1, x2, y0, y1, y2, n0, n1, n2, m0, m1, m2⟩ | exact ⟨ax0, ax1, ax2, ay0, ay1, ay2, an0, an1, an2, am0, am1, am2⟩ | exact ⟨bx0, bx1, bx2, by0, by1, by2, bn0, bn1, bn2, bm0, bm1, bm2⟩ | exact ⟨cx0, cx1, cx2, cy0, cy1, cy2, cn0, cn1, cn2, cm0, cm1, cm2⟩ | go_keep)
          (first
            | (go_at_call 16; (with_reducible refine cE.mono ?_); rintro e w' ⟨rfl, rfl⟩)
            | (go_at_call 17; (with_reducible refine cN.mono ?_); rintro e w8 ⟨rfl, hC8⟩; have ax0 := (hC8.cell (p := ⟨w.heap.size, 0, none⟩) lx (by simp)).trans x0; have ax1 := (hC8.cell (p := ⟨w.heap.size, 1, none⟩) lx (by simp)).trans x1; have ax2 := (hC8.cell (p := ⟨w.heap.size, 2, none⟩) lx (by simp)).trans x2; have ay0 := (hC8.cell (p := ⟨ib, 0, none⟩) ly (by simp)).trans y0; have ay1 := (hC8.cell (p := ⟨ib, 1, none⟩) ly (by simp)).trans y1; have ay2 := (hC8.cell (p := ⟨ib, 2, none⟩) ly (by simp)).trans y2; have an0 := (hC8.cell (p := ⟨w6.heap.size, 0, none⟩) ln (by simp)).trans n0; have an1 := (hC8.cell (p := ⟨w6.heap.size, 1, none⟩) ln (by simp)).trans n1; have an2 := (hC8.cell (p := ⟨w6.heap.size, 2, none⟩) ln (by simp)).trans n2; have am0 := (hC8.cell (p := ⟨w7.heap.size, 0, none⟩) lm (by simp)).trans m0; have am1 := (hC8.cell (p := ⟨w7.heap.size, 1, none⟩) lm (by simp)).trans m1; have am2 := (hC8.cell (p := ⟨w7.heap.size, 2, none⟩) lm (by simp)).trans m2; have lax := Nat.lt_of_lt_of_le lx hC8.size; have lay := Nat.lt_of_lt_of_le ly hC8.size; have lan := Nat.lt_of_lt_of_le ln hC8.size; have lam := Nat.lt_of_lt_of_le lm hC8.size; have hc8 := (Chg.drew (Chg.refl [] W7)).trans hC8; have cR := right_at (leaf := l) (K7.out.chg hc8 (by simp)) (V7.out.chg hc8 (by simp)); rw [Hr.out] at cR; have HC8 := Lib.hid hc8; clear hC8 hc8)
            | (go_at_call 18; (with_reducible refine cR.mono ?_); rintro e w9 ⟨rfl, hC9⟩; have bx0 := (hC9.cell (p := ⟨w.heap.size, 0, none⟩) lax (by simp)).trans ax0; have bx1 := (hC9.cell (p := ⟨w.heap.size, 1, none⟩) lax (by simp)).trans ax1; have bx2 := (hC9.cell (p := ⟨w.heap.size, 2, none⟩) lax (by simp)).trans ax2; have by0 := (hC9.cell (p := ⟨ib, 0, none⟩) lay (by simp)).trans ay0; have by1 := (hC9.cell (p := ⟨ib, 1, none⟩) lay (by simp)).trans ay1; have by2 := (hC9.cell (p := ⟨ib, 2, none⟩) lay (by simp)).trans ay2; have bn0 := (hC9.cell (p := ⟨w6.heap.size, 0, none⟩) lan (by simp)).trans an0; have bn1 := (hC9.cell (p := ⟨w6.heap.size, 1, none⟩) lan (by simp)).trans an1; have bn2 := (hC9.cell (p := ⟨w6.heap.size, 2, none⟩) lan (by simp)).trans an2; have bm0 := (hC9.cell (p := ⟨w7.heap.size, 0, none⟩) lam (by simp)).trans am0; have bm1 := (hC9.cell (p := ⟨w7.heap.size, 1, none⟩) lam (by simp)).trans am1; have bm2 := (hC9.cell (p := ⟨w7.heap.size, 2, none⟩) lam (by simp)).trans am2; have lbx := Nat.lt_of_lt_of_le lax hC9.size; have lby := Nat.lt_of_lt_of_le lay hC9.size; have lbn := Nat.lt_of_lt_of_le lan hC9.size; have lbm := Nat.lt_of_lt_of_le lam hC9.size; have hc9 := HC8.out.trans hC9; have cQ := rright_at (leaf := l) (HK.out.chg (C7.out.trans hc9) (by simp)) (HV.out.chg (C7.out.trans hc9) (by simp)); rw [Hr.out] at cQ; have HC9 := Lib.hid hc9; clear hC9 hc9)
            | (go_at_call 19; (with_reducible refine cQ.mono ?_); rintro e w10 ⟨rfl, hC10⟩; have cx0 := (hC10.cell (p := ⟨w.heap.size, 0, none⟩) lbx (by simp)).trans bx0; have cx1 := (hC10.cell (p := ⟨w.heap.size, 1, none⟩) lbx (by simp)).trans bx1; have cx2 := (hC10.cell (p := ⟨w.heap.size, 2, none⟩) lbx (by simp)).trans bx2; have cy0 := (hC10.cell (p := ⟨ib, 0, none⟩) lby (by simp)).trans by0; have cy1 := (hC10.cell (p := ⟨ib, 1, none⟩) lby (by simp)).trans by1; have cy2 := (hC10.cell (p := ⟨ib, 2, none⟩) lby (by simp)).trans by2; have cn0 := (hC10.cell (p := ⟨w6.heap.size, 0, none⟩) lbn (by simp)).trans bn0; have cn1 := (hC10.cell (p := ⟨w6.heap.size, 1, none⟩) lbn (by simp)).trans bn1; have cn2 := (hC10.cell (p := ⟨w6.heap.size, 2, none⟩) lbn (by simp)).trans bn2; have cm0 := (hC10.cell (p := ⟨w7.heap.size, 0, none⟩) lbm (by simp)).trans bm0; have cm1 := (hC10.cell (p := ⟨w7.heap.size, 1, none⟩) lbm (by simp)).trans bm1; have cm2 := (hC10.cell (p := ⟨w7.heap.size, 2, none⟩) lbm (by simp)).trans bm2; have lcx := Nat.lt_of_lt_of_le lbx hC10.size; have lcy := Nat.lt_of_lt_of_le lby hC10.size; have lcn := Nat.lt_of_lt_of_le lbn hC10.size; have lcm := Nat.lt_of_lt_of_le lbm hC10.size; have HC10 := Lib.hid (HC9.out.trans hC10); clear hC10))
        all_goals
          have cN2 := equalNodes_at (w := w10) (l := l) (l' := l) (K7.out.chg HC10.out (by simp)) (V7.out.chg HC10.out (by simp)) (HK.out.chg (C7.out.trans HC10.out) (by simp)) (HV.out.chg (C7.out.trans HC10.out) (by simp))
          rw [eqN_same] at cN2
          go_wp2_with fail
          refine cN2.mono ?_
          clear cN2
          rintro e w11 ⟨rfl, hC11⟩
          have C11 := Lib.hid (HC10.out.trans hC11)
          have cE2 := equal_at (A7.out.keep C11.out) (HP.out.keep (C7.out.trans C11.out))
          rw [eqF_iff.2 ⟨rfl, fun _ _ => rfl⟩] at cE2
          clear hC11
          go_wp2_with fail
          refine cE2.mono ?_
          clear cE2
          rintro e w' ⟨rfl, rfl⟩
          go_wp2_with fail
          refine (awake03 _).mono ?_
          rintro e wz ⟨rfl, hZ⟩
          have HZ := Lib.hid ((C7.out.trans C11.out).trans hZ)
          clear hZ
          go_wp2_with fail
          go_ret
          exact law_ok HZ.out
    | false =>
      have Hr := Lib.hid hr
      clear hr
      go_wp2_with fail
      refine (enc_bad K3.out V3.out Hr.out).mono ?_
      clear y0 y1 y2 ly
      rintro e w4 ⟨rfl, hC⟩
      have X4 := Lib.hid ((hC.block _ (heap_lt X3.out) (by simp)).trans X3.out)
      have I4 := Lib.hid ((hC.block _ (heap_lt I3.out) (by simp)).trans I3.out)
      have K4 := Lib.hid (K3.out.chg hC (by simp))
      have V4 := Lib.hid (V3.out.chg hC (by simp))
      have A4 := Lib.hid (A3.out.keep hC)
      have C4 := Lib.hid (C3.out.trans hC)
      clear X3 I3 K3 V3 A3 C3
      clear hC
      have x0 := cell_of_block X4.out 0
      have x1 := cell_of_block X4.out 1
      have x2 := cell_of_block X4.out 2
      simp only [List.getElem?_toArray, List.getElem?_cons_zero, List.getElem?_cons_succ] at x0 x1 x2
      have lx := heap_lt X4.out
      have HK4 := Lib.hid (HK.out.chg C4.out (by simp))
      have HV4 := Lib.hid (HV.out.chg C4.out (by simp))
      go_wp2_with fail
      refine (renc_bad HK4.out HV4.out Hr.out).mono ?_
      clear x0 x1 x2 lx
      rintro e w5 ⟨rfl, hC⟩
      have X5 := Lib.hid ((hC.block _ (heap_lt X4.out) (by simp)).trans X4.out)
      have I5 := Lib.hid ((hC.block _ (heap_lt I4.out) (by simp)).trans I4.out)
      have K5 := Lib.hid (K4.out.chg hC (by simp))
      have V5 := Lib.hid (V4.out.chg hC (by simp))
      have A5 := Lib.hid (A4.out.keep hC)
      have C5 := Lib.hid (C4.out.trans hC)
      clear X4 I4 K4 V4 A4 C4
      clear hC
      clear HK4 HV4
      cases hd : decB n f with
      | true =>
        have cD := dec_at A5.out
        rw [hd] at cD
        have Hd := Lib.hid hd
        clear hd
        go_wp2_with fail
        refine Calls.mono cD ?_
        clear cD
        rintro e w6 hE
        obtain ⟨kb, vb, rfl, e1, e2, e3, hRK, hRV, hC0⟩ : DecOk w5 (decide (f 0 = 1)) f e w6 := hE
        have e7 := (decB_true Hd.out).2.1
        have hC := hC0.alloc (.cells #[.bool (decide (f 0 = 1)), .slice (some ⟨kb, 0, none⟩) (f 1) (f 1), .slice (some ⟨vb, 0, none⟩) (f 1) (f 1)] 24)
        have N6 := Lib.hid (new_block w6 (.cells #[.bool (decide (f 0 = 1)), .slice (some ⟨kb, 0, none⟩) (f 1) (f 1), .slice (some ⟨vb, 0, none⟩) (f 1) (f 1)] 24))
        have hn := (Chg.refl [] w6).alloc (.cells #[.bool (decide (f 0 = 1)), .slice (some ⟨kb, 0, none⟩) (f 1) (f 1), .slice (some ⟨vb, 0, none⟩) (f 1) (f 1)] 24)
        have RK6 := Lib.hid ((row_in hRK e7).chg hn (by simp))
        have RV6 := Lib.hid ((row_in hRV e7).chg hn (by simp))
        clear hn hRK hRV
        have X6 := Lib.hid ((hC.block _ (heap_lt X5.out) (by simp)).trans X5.out)
        have I6 := Lib.hid ((hC.block _ (heap_lt I5.out) (by simp)).trans I5.out)
        have K6 := Lib.hid (K5.out.chg hC (by simp))
        have V6 := Lib.hid (V5.out.chg hC (by simp))
        have A6 := Lib.hid (A5.out.keep hC)
        have C6 := Lib.hid (C5.out.trans hC)
        clear X5 I5 K5 V5 A5 C5
        clear hC hC0
        have cF := rdec_at (HP.out.keep C6.out)
        go_wp2_with fail
        refine Calls.mono cF ?_
        clear cF
        rintro e w7 hE
        obtain ⟨uk, uv, rfl, hUK, hUV, hC0⟩ : RDecOk _ (decide (f 0 = 1)) f e w7 := by
          rcases hE with ⟨_, q⟩ | ⟨q, _⟩
          · exact q
          · exact absurd ((rdec_iff (fun hn i hi => bf.out hn i (by omega))).2 Hd.out) q
        obtain ⟨ua, uc, rfl, _⟩ := hUK.cap
        obtain ⟨va, vc, rfl, _⟩ := hUV.cap
        have hC := hC0.alloc (.cells #[.bool (decide (f 0 = 1)), .slice ua (f 1) uc, .slice va (f 1) vc] 24)
        have D7 := Lib.hid (new_block w7 (.cells #[.bool (decide (f 0 = 1)), .slice ua (f 1) uc, .slice va (f 1) vc] 24))
        have N7 := Lib.hid ((hC.block _ (heap_lt N6.out) (by simp)).trans N6.out)
        have hn := (Chg.refl [] w7).alloc (.cells #[.bool (decide (f 0 = 1)), .slice ua (f 1) uc, .slice va (f 1) vc] 24)
        have RK7 := Lib.hid (RK6.out.chg hC (by simp))
        have RV7 := Lib.hid (RV6.out.chg hC (by simp))
        have UK7 := Lib.hid (hUK.chg hn (by simp))
        have UV7 := Lib.hid (hUV.chg hn (by simp))
        clear hn hUK hUV RK6 RV6
        have X7 := Lib.hid ((hC.block _ (heap_lt X6.out) (by simp)).trans X6.out)
        have I7 := Lib.hid ((hC.block _ (heap_lt I6.out) (by simp)).trans I6.out)
        have K7 := Lib.hid (K6.out.chg hC (by simp))
        have V7 := Lib.hid (V6.out.chg hC (by simp))
        have A7 := Lib.hid (A6.out.keep hC)
        have C7 := Lib.hid (C6.out.trans hC)
        clear X6 I6 K6 V6 A6 C6
        clear hC hC0 N6
        go_wp2_with fail
        have ld := heap_lt D7.out
        generalize w7.alloc (.cells #[.bool (decide (f 0 = 1)), .slice ua (f 1) uc, .slice va (f 1) vc] 24) = W7 at *
        have x0 := cell_of_block X7.out 0
        have x1 := cell_of_block X7.out 1
        have x2 := cell_of_block X7.out 2
        simp only [List.getElem?_toArray, List.getElem?_cons_zero, List.getElem?_cons_succ] at x0 x1 x2
        have lx := heap_lt X7.out
        have y0 := cell_of_block I7.out 0
        have y1 := cell_of_block I7.out 1
        have y2 := cell_of_block I7.out 2
        simp only [List.getElem?_toArray, List.getElem?_cons_zero, List.getElem?_cons_succ] at y0 y1 y2
        have ly := heap_lt I7.out
        have n0 := cell_of_block N7.out 0
        have n1 := cell_of_block N7.out 1
        have n2 := cell_of_block N7.out 2
        simp only [List.getElem?_toArray, List.getElem?_cons_zero, List.getElem?_cons_succ] at n0 n1 n2
        have ln := heap_lt N7.out
        have m0 := cell_of_block D7.out 0
        have m1 := cell_of_block D7.out 1
        have m2 := cell_of_block D7.out 2
        simp only [List.getElem?_toArray, List.getElem?_cons_zero, List.getElem?_cons_succ] at m0 m1 m2
        have lm := heap_lt D7.out
        have cE := equal_at (w := W7.drew) (bytes_nil _ (fun _ => 0)) (bytes_nil _ (fun _ => 0))
        rw [eqF_iff.2 ⟨rfl, fun _ _ => rfl⟩] at cE
        have cN := equalNodes_at (w := W7.drew) (l := (decide (f 0 = 1))) (l' := (decide (f 0 = 1))) (RK7.out.chg (Chg.drew (Chg.refl [] W7)) (by simp)) (RV7.out.chg (Chg.drew (Chg.refl [] W7)) (by simp)) (UK7.out.chg (Chg.drew (Chg.refl [] W7)) (by simp)) (UV7.out.chg (Chg.drew (Chg.refl [] W7)) (by simp))
        rw [eqN_same] at cN
        go_region_held3 (fun w' => w'.cell? ⟨w.heap.size, 0, none⟩ = some (.bool l) ∧ w'.cell? ⟨w.heap.size, 1, none⟩ = some (.slice ak nk ck) ∧ w'.cell? ⟨w.heap.size, 2, none⟩ = some (.slice av nv cv) ∧ w'.cell? ⟨ib, 0, none⟩ = some (.bool l) ∧ w'.cell? ⟨ib, 1, none⟩ = some (.slice (some ⟨k0, 0, none⟩) nk nk) ∧ w'.cell? ⟨ib, 2, none⟩ = some (.slice (some ⟨k1, 0, none⟩) nv nv) ∧ w'.cell? ⟨w6.heap.size, 0, none⟩ = some (.bool (decide (f 0 = 1))) ∧ w'.cell? ⟨w6.heap.size, 1, none⟩ = some (.slice (some ⟨kb, 0, none⟩) (f 1) (f 1)) ∧ w'.cell? ⟨w6.heap.size, 2, none⟩ = some (.slice (some ⟨vb, 0, none⟩) (f 1) (f 1)) ∧ w'.cell? ⟨w7.heap.size, 0, none⟩ = some (.bool (decide (f 0 = 1))) ∧ w'.cell? ⟨w7.heap.size, 1, none⟩ = some (.slice ua (f 1) uc) ∧ w'.cell? ⟨w7.heap.size, 2, none⟩ = some (.slice va (f 1) vc))
          (first | exact ⟨x0, x1, x2, y0, y1, y2, n0, n1, n2, m0, m1, m2⟩ | exact ⟨ax0, ax1, ax2, ay0, ay1, ay2, an0, an1, an2, am0, am1, am2⟩ | exact ⟨bx0, bx1, bx2, by0, by1, by2, bn0, bn1, bn2, bm0, bm1, bm2⟩ | exact ⟨cx0, cx1, cx2, cy0, cy1, cy2, cn0, cn1, cn2, cm0, cm1, cm2⟩ | go_keep)
          (first
            | (go_at_call 16; (with_reducible refine cE.mono ?_); rintro e w' ⟨rfl, rfl⟩)
            | (go_at_call 17; (with_reducible refine cN.mono ?_); rintro e w8 ⟨rfl, hC8⟩; have ax0 := (hC8.cell (p := ⟨w.heap.size, 0, none⟩) lx (by simp)).trans x0; have ax1 := (hC8.cell (p := ⟨w.heap.size, 1, none⟩) lx (by simp)).trans x1; have ax2 := (hC8.cell (p := ⟨w.heap.size, 2, none⟩) lx (by simp)).trans x2; have ay0 := (hC8.cell (p := ⟨ib, 0, none⟩) ly (by simp)).trans y0; have ay1 := (hC8.cell (p := ⟨ib, 1, none⟩) ly (by simp)).trans y1; have ay2 := (hC8.cell (p := ⟨ib, 2, none⟩) ly (by simp)).trans y2; have an0 := (hC8.cell (p := ⟨w6.heap.size, 0, none⟩) ln (by simp)).trans n0; have an1 := (hC8.cell (p := ⟨w6.heap.size, 1, none⟩) ln (by simp)).trans n1; have an2 := (hC8.cell (p := ⟨w6.heap.size, 2, none⟩) ln (by simp)).trans n2; have am0 := (hC8.cell (p := ⟨w7.heap.size, 0, none⟩) lm (by simp)).trans m0; have am1 := (hC8.cell (p := ⟨w7.heap.size, 1, none⟩) lm (by simp)).trans m1; have am2 := (hC8.cell (p := ⟨w7.heap.size, 2, none⟩) lm (by simp)).trans m2; have lax := Nat.lt_of_lt_of_le lx hC8.size; have lay := Nat.lt_of_lt_of_le ly hC8.size; have lan := Nat.lt_of_lt_of_le ln hC8.size; have lam := Nat.lt_of_lt_of_le lm hC8.size; have hc8 := (Chg.drew (Chg.refl [] W7)).trans hC8; have cR := right_at (leaf := l) (K7.out.chg hc8 (by simp)) (V7.out.chg hc8 (by simp)); rw [Hr.out] at cR; have HC8 := Lib.hid hc8; clear hC8 hc8)
            | (go_at_call 18; (with_reducible refine cR.mono ?_); rintro e w9 ⟨rfl, hC9⟩; have bx0 := (hC9.cell (p := ⟨w.heap.size, 0, none⟩) lax (by simp)).trans ax0; have bx1 := (hC9.cell (p := ⟨w.heap.size, 1, none⟩) lax (by simp)).trans ax1; have bx2 := (hC9.cell (p := ⟨w.heap.size, 2, none⟩) lax (by simp)).trans ax2; have by0 := (hC9.cell (p := ⟨ib, 0, none⟩) lay (by simp)).trans ay0; have by1 := (hC9.cell (p := ⟨ib, 1, none⟩) lay (by simp)).trans ay1; have by2 := (hC9.cell (p := ⟨ib, 2, none⟩) lay (by simp)).trans ay2; have bn0 := (hC9.cell (p := ⟨w6.heap.size, 0, none⟩) lan (by simp)).trans an0; have bn1 := (hC9.cell (p := ⟨w6.heap.size, 1, none⟩) lan (by simp)).trans an1; have bn2 := (hC9.cell (p := ⟨w6.heap.size, 2, none⟩) lan (by simp)).trans an2; have bm0 := (hC9.cell (p := ⟨w7.heap.size, 0, none⟩) lam (by simp)).trans am0; have bm1 := (hC9.cell (p := ⟨w7.heap.size, 1, none⟩) lam (by simp)).trans am1; have bm2 := (hC9.cell (p := ⟨w7.heap.size, 2, none⟩) lam (by simp)).trans am2; have lbx := Nat.lt_of_lt_of_le lax hC9.size; have lby := Nat.lt_of_lt_of_le lay hC9.size; have lbn := Nat.lt_of_lt_of_le lan hC9.size; have lbm := Nat.lt_of_lt_of_le lam hC9.size; have hc9 := HC8.out.trans hC9; have cQ := rright_at (leaf := l) (HK.out.chg (C7.out.trans hc9) (by simp)) (HV.out.chg (C7.out.trans hc9) (by simp)); rw [Hr.out] at cQ; have HC9 := Lib.hid hc9; clear hC9 hc9)
            | (go_at_call 19; (with_reducible refine cQ.mono ?_); rintro e w10 ⟨rfl, hC10⟩; have cx0 := (hC10.cell (p := ⟨w.heap.size, 0, none⟩) lbx (by simp)).trans bx0; have cx1 := (hC10.cell (p := ⟨w.heap.size, 1, none⟩) lbx (by simp)).trans bx1; have cx2 := (hC10.cell (p := ⟨w.heap.size, 2, none⟩) lbx (by simp)).trans bx2; have cy0 := (hC10.cell (p := ⟨ib, 0, none⟩) lby (by simp)).trans by0; have cy1 := (hC10.cell (p := ⟨ib, 1, none⟩) lby (by simp)).trans by1; have cy2 := (hC10.cell (p := ⟨ib, 2, none⟩) lby (by simp)).trans by2; have cn0 := (hC10.cell (p := ⟨w6.heap.size, 0, none⟩) lbn (by simp)).trans bn0; have cn1 := (hC10.cell (p := ⟨w6.heap.size, 1, none⟩) lbn (by simp)).trans bn1; have cn2 := (hC10.cell (p := ⟨w6.heap.size, 2, none⟩) lbn (by simp)).trans bn2; have cm0 := (hC10.cell (p := ⟨w7.heap.size, 0, none⟩) lbm (by simp)).trans bm0; have cm1 := (hC10.cell (p := ⟨w7.heap.size, 1, none⟩) lbm (by simp)).trans bm1; have cm2 := (hC10.cell (p := ⟨w7.heap.size, 2, none⟩) lbm (by simp)).trans bm2; have lcx := Nat.lt_of_lt_of_le lbx hC10.size; have lcy := Nat.lt_of_lt_of_le lby hC10.size; have lcn := Nat.lt_of_lt_of_le lbn hC10.size; have lcm := Nat.lt_of_lt_of_le lbm hC10.size; have HC10 := Lib.hid (HC9.out.trans hC10); clear hC10))
        all_goals
          have cN2 := equalNodes_at (w := w10) (l := l) (l' := l) (K7.out.chg HC10.out (by simp)) (V7.out.chg HC10.out (by simp)) (HK.out.chg (C7.out.trans HC10.out) (by simp)) (HV.out.chg (C7.out.trans HC10.out) (by simp))
          rw [eqN_same] at cN2
          go_wp2_with fail
          refine cN2.mono ?_
          clear cN2
          rintro e w11 ⟨rfl, hC11⟩
          have C11 := Lib.hid (HC10.out.trans hC11)
          have cE2 := equal_at (A7.out.keep C11.out) (HP.out.keep (C7.out.trans C11.out))
          rw [eqF_iff.2 ⟨rfl, fun _ _ => rfl⟩] at cE2
          clear hC11
          go_wp2_with fail
          refine cE2.mono ?_
          clear cE2
          rintro e w' ⟨rfl, rfl⟩
          go_wp2_with fail
          refine (awake03 _).mono ?_
          rintro e wz ⟨rfl, hZ⟩
          have HZ := Lib.hid ((C7.out.trans C11.out).trans hZ)
          clear hZ
          go_wp2_with fail
          go_ret
          exact law_ok HZ.out
      | false =>
        have cD := dec_at A5.out
        rw [hd] at cD
        have Hd := Lib.hid hd
        clear hd
        go_wp2_with fail
        refine Calls.mono cD ?_
        clear cD
        rintro e w6 hE
        obtain ⟨rfl, hC0⟩ : DecBad w5 e w6 := hE
        have hC := hC0.alloc (.cells #[.bool false, .slice none 0 0, .slice none 0 0] 24)
        have N6 := Lib.hid (new_block w6 (.cells #[.bool false, .slice none 0 0, .slice none 0 0] 24))
        have X6 := Lib.hid ((hC.block _ (heap_lt X5.out) (by simp)).trans X5.out)
        have I6 := Lib.hid ((hC.block _ (heap_lt I5.out) (by simp)).trans I5.out)
        have K6 := Lib.hid (K5.out.chg hC (by simp))
        have V6 := Lib.hid (V5.out.chg hC (by simp))
        have A6 := Lib.hid (A5.out.keep hC)
        have C6 := Lib.hid (C5.out.trans hC)
        clear X5 I5 K5 V5 A5 C5
        clear hC hC0
        have cF := rdec_at (HP.out.keep C6.out)
        go_wp2_with fail
        refine Calls.mono cF ?_
        clear cF
        rintro e w7 hE
        obtain ⟨rfl, hC0⟩ : DecBad _ e w7 := by
          rcases hE with ⟨q, _⟩ | ⟨_, q⟩
          · have := (rdec_iff (fun hn i hi => bf.out hn i (by omega))).1 q
            rw [Hd.out] at this
            cases this
          · exact q
        have hC := hC0.alloc (.cells #[.bool false, .slice none 0 0, .slice none 0 0] 24)
        have D7 := Lib.hid (new_block w7 (.cells #[.bool false, .slice none 0 0, .slice none 0 0] 24))
        have N7 := Lib.hid ((hC.block _ (heap_lt N6.out) (by simp)).trans N6.out)
        have X7 := Lib.hid ((hC.block _ (heap_lt X6.out) (by simp)).trans X6.out)
        have I7 := Lib.hid ((hC.block _ (heap_lt I6.out) (by simp)).trans I6.out)
        have K7 := Lib.hid (K6.out.chg hC (by simp))
        have V7 := Lib.hid (V6.out.chg hC (by simp))
        have A7 := Lib.hid (A6.out.keep hC)
        have C7 := Lib.hid (C6.out.trans hC)
        clear X6 I6 K6 V6 A6 C6
        clear hC hC0 N6
        go_wp2_with fail
        have ld := heap_lt D7.out
        generalize w7.alloc (.cells #[.bool false, .slice none 0 0, .slice none 0 0] 24) = W7 at *
        have x0 := cell_of_block X7.out 0
        have x1 := cell_of_block X7.out 1
        have x2 := cell_of_block X7.out 2
        simp only [List.getElem?_toArray, List.getElem?_cons_zero, List.getElem?_cons_succ] at x0 x1 x2
        have lx := heap_lt X7.out
        have y0 := cell_of_block I7.out 0
        have y1 := cell_of_block I7.out 1
        have y2 := cell_of_block I7.out 2
        simp only [List.getElem?_toArray, List.getElem?_cons_zero, List.getElem?_cons_succ] at y0 y1 y2
        have ly := heap_lt I7.out
        have n0 := cell_of_block N7.out 0
        have n1 := cell_of_block N7.out 1
        have n2 := cell_of_block N7.out 2
        simp only [List.getElem?_toArray, List.getElem?_cons_zero, List.getElem?_cons_succ] at n0 n1 n2
        have ln := heap_lt N7.out
        have m0 := cell_of_block D7.out 0
        have m1 := cell_of_block D7.out 1
        have m2 := cell_of_block D7.out 2
        simp only [List.getElem?_toArray, List.getElem?_cons_zero, List.getElem?_cons_succ] at m0 m1 m2
        have lm := heap_lt D7.out
        have cE := equal_at (w := W7.drew) (bytes_nil _ (fun _ => 0)) (bytes_nil _ (fun _ => 0))
        rw [eqF_iff.2 ⟨rfl, fun _ _ => rfl⟩] at cE
        have cN := equalNodes_at (w := W7.drew) (l := false) (l' := false) (nums_nil _ (fun _ => 0)) (nums_nil _ (fun _ => 0)) (nums_nil _ (fun _ => 0)) (nums_nil _ (fun _ => 0))
        rw [eqN_same] at cN
        go_region_held3 (fun w' => w'.cell? ⟨w.heap.size, 0, none⟩ = some (.bool l) ∧ w'.cell? ⟨w.heap.size, 1, none⟩ = some (.slice ak nk ck) ∧ w'.cell? ⟨w.heap.size, 2, none⟩ = some (.slice av nv cv) ∧ w'.cell? ⟨ib, 0, none⟩ = some (.bool l) ∧ w'.cell? ⟨ib, 1, none⟩ = some (.slice (some ⟨k0, 0, none⟩) nk nk) ∧ w'.cell? ⟨ib, 2, none⟩ = some (.slice (some ⟨k1, 0, none⟩) nv nv) ∧ w'.cell? ⟨w6.heap.size, 0, none⟩ = some (.bool false) ∧ w'.cell? ⟨w6.heap.size, 1, none⟩ = some (.slice none 0 0) ∧ w'.cell? ⟨w6.heap.size, 2, none⟩ = some (.slice none 0 0) ∧ w'.cell? ⟨w7.heap.size, 0, none⟩ = some (.bool false) ∧ w'.cell? ⟨w7.heap.size, 1, none⟩ = some (.slice none 0 0) ∧ w'.cell? ⟨w7.heap.size, 2, none⟩ = some (.slice none 0 0))
          (first | exact ⟨x0, x1, x2, y0, y1, y2, n0, n1, n2, m0, m1, m2⟩ | exact ⟨ax0, ax1, ax2, ay0, ay1, ay2, an0, an1, an2, am0, am1, am2⟩ | exact ⟨bx0, bx1, bx2, by0, by1, by2, bn0, bn1, bn2, bm0, bm1, bm2⟩ | exact ⟨cx0, cx1, cx2, cy0, cy1, cy2, cn0, cn1, cn2, cm0, cm1, cm2⟩ | go_keep)
          (first
            | (go_at_call 16; (with_reducible refine cE.mono ?_); rintro e w' ⟨rfl, rfl⟩)
            | (go_at_call 17; (with_reducible refine cN.mono ?_); rintro e w8 ⟨rfl, hC8⟩; have ax0 := (hC8.cell (p := ⟨w.heap.size, 0, none⟩) lx (by simp)).trans x0; have ax1 := (hC8.cell (p := ⟨w.heap.size, 1, none⟩) lx (by simp)).trans x1; have ax2 := (hC8.cell (p := ⟨w.heap.size, 2, none⟩) lx (by simp)).trans x2; have ay0 := (hC8.cell (p := ⟨ib, 0, none⟩) ly (by simp)).trans y0; have ay1 := (hC8.cell (p := ⟨ib, 1, none⟩) ly (by simp)).trans y1; have ay2 := (hC8.cell (p := ⟨ib, 2, none⟩) ly (by simp)).trans y2; have an0 := (hC8.cell (p := ⟨w6.heap.size, 0, none⟩) ln (by simp)).trans n0; have an1 := (hC8.cell (p := ⟨w6.heap.size, 1, none⟩) ln (by simp)).trans n1; have an2 := (hC8.cell (p := ⟨w6.heap.size, 2, none⟩) ln (by simp)).trans n2; have am0 := (hC8.cell (p := ⟨w7.heap.size, 0, none⟩) lm (by simp)).trans m0; have am1 := (hC8.cell (p := ⟨w7.heap.size, 1, none⟩) lm (by simp)).trans m1; have am2 := (hC8.cell (p := ⟨w7.heap.size, 2, none⟩) lm (by simp)).trans m2; have lax := Nat.lt_of_lt_of_le lx hC8.size; have lay := Nat.lt_of_lt_of_le ly hC8.size; have lan := Nat.lt_of_lt_of_le ln hC8.size; have lam := Nat.lt_of_lt_of_le lm hC8.size; have hc8 := (Chg.drew (Chg.refl [] W7)).trans hC8; have cR := right_at (leaf := l) (K7.out.chg hc8 (by simp)) (V7.out.chg hc8 (by simp)); rw [Hr.out] at cR; have HC8 := Lib.hid hc8; clear hC8 hc8)
            | (go_at_call 18; (with_reducible refine cR.mono ?_); rintro e w9 ⟨rfl, hC9⟩; have bx0 := (hC9.cell (p := ⟨w.heap.size, 0, none⟩) lax (by simp)).trans ax0; have bx1 := (hC9.cell (p := ⟨w.heap.size, 1, none⟩) lax (by simp)).trans ax1; have bx2 := (hC9.cell (p := ⟨w.heap.size, 2, none⟩) lax (by simp)).trans ax2; have by0 := (hC9.cell (p := ⟨ib, 0, none⟩) lay (by simp)).trans ay0; have by1 := (hC9.cell (p := ⟨ib, 1, none⟩) lay (by simp)).trans ay1; have by2 := (hC9.cell (p := ⟨ib, 2, none⟩) lay (by simp)).trans ay2; have bn0 := (hC9.cell (p := ⟨w6.heap.size, 0, none⟩) lan (by simp)).trans an0; have bn1 := (hC9.cell (p := ⟨w6.heap.size, 1, none⟩) lan (by simp)).trans an1; have bn2 := (hC9.cell (p := ⟨w6.heap.size, 2, none⟩) lan (by simp)).trans an2; have bm0 := (hC9.cell (p := ⟨w7.heap.size, 0, none⟩) lam (by simp)).trans am0; have bm1 := (hC9.cell (p := ⟨w7.heap.size, 1, none⟩) lam (by simp)).trans am1; have bm2 := (hC9.cell (p := ⟨w7.heap.size, 2, none⟩) lam (by simp)).trans am2; have lbx := Nat.lt_of_lt_of_le lax hC9.size; have lby := Nat.lt_of_lt_of_le lay hC9.size; have lbn := Nat.lt_of_lt_of_le lan hC9.size; have lbm := Nat.lt_of_lt_of_le lam hC9.size; have hc9 := HC8.out.trans hC9; have cQ := rright_at (leaf := l) (HK.out.chg (C7.out.trans hc9) (by simp)) (HV.out.chg (C7.out.trans hc9) (by simp)); rw [Hr.out] at cQ; have HC9 := Lib.hid hc9; clear hC9 hc9)
            | (go_at_call 19; (with_reducible refine cQ.mono ?_); rintro e w10 ⟨rfl, hC10⟩; have cx0 := (hC10.cell (p := ⟨w.heap.size, 0, none⟩) lbx (by simp)).trans bx0; have cx1 := (hC10.cell (p := ⟨w.heap.size, 1, none⟩) lbx (by simp)).trans bx1; have cx2 := (hC10.cell (p := ⟨w.heap.size, 2, none⟩) lbx (by simp)).trans bx2; have cy0 := (hC10.cell (p := ⟨ib, 0, none⟩) lby (by simp)).trans by0; have cy1 := (hC10.cell (p := ⟨ib, 1, none⟩) lby (by simp)).trans by1; have cy2 := (hC10.cell (p := ⟨ib, 2, none⟩) lby (by simp)).trans by2; have cn0 := (hC10.cell (p := ⟨w6.heap.size, 0, none⟩) lbn (by simp)).trans bn0; have cn1 := (hC10.cell (p := ⟨w6.heap.size, 1, none⟩) lbn (by simp)).trans bn1; have cn2 := (hC10.cell (p := ⟨w6.heap.size, 2, none⟩) lbn (by simp)).trans bn2; have cm0 := (hC10.cell (p := ⟨w7.heap.size, 0, none⟩) lbm (by simp)).trans bm0; have cm1 := (hC10.cell (p := ⟨w7.heap.size, 1, none⟩) lbm (by simp)).trans bm1; have cm2 := (hC10.cell (p := ⟨w7.heap.size, 2, none⟩) lbm (by simp)).trans bm2; have lcx := Nat.lt_of_lt_of_le lbx hC10.size; have lcy := Nat.lt_of_lt_of_le lby hC10.size; have lcn := Nat.lt_of_lt_of_le lbn hC10.size; have lcm := Nat.lt_of_lt_of_le lbm hC10.size; have HC10 := Lib.hid (HC9.out.trans hC10); clear hC10))
        all_goals
          have cN2 := equalNodes_at (w := w10) (l := l) (l' := l) (K7.out.chg HC10.out (by simp)) (V7.out.chg HC10.out (by simp)) (HK.out.chg (C7.out.trans HC10.out) (by simp)) (HV.out.chg (C7.out.trans HC10.out) (by simp))
          rw [eqN_same] at cN2
          go_wp2_with fail
          refine cN2.mono ?_
          clear cN2
          rintro e w11 ⟨rfl, hC11⟩
          have C11 := Lib.hid (HC10.out.trans hC11)
          have cE2 := equal_at (A7.out.keep C11.out) (HP.out.keep (C7.out.trans C11.out))
          rw [eqF_iff.2 ⟨rfl, fun _ _ => rfl⟩] at cE2
          clear hC11
          go_wp2_with fail
          refine cE2.mono ?_
          clear cE2
          rintro e w' ⟨rfl, rfl⟩
          go_wp2_with fail
          refine (awake03 _).mono ?_
          rintro e wz ⟨rfl, hZ⟩
          have HZ := Lib.hid ((C7.out.trans C11.out).trans hZ)
          clear hZ
          go_wp2_with fail
          go_ret
          exact law_ok HZ.out

theorem leafTells_walk (v : Value) (l : Bool) (nk nv : Nat) (keys vals : Nat → Nat) (a : Option Addr) (n cap : Nat) (f : Nat → Nat) (w : World) (hn : IsNode w v l nk nv keys vals) (hp : BytesIn w a n cap f) :
    Calls Try.prog 3 #[v, .slice a n cap] w (LawOk w) := by
  obtain ⟨vk, vv, rfl, hk, hv⟩ := hn
  by_cases g1 : 20 < nk
  · exact tells_skip hk hv (.inl g1)
  by_cases g2 : 20 < nv
  · exact tells_skip hk hv (.inr (.inl g2))
  by_cases g3 : 200 < n
  · exact tells_skip hk hv (.inr (.inr g3))
  exact tells_main hk hv hp (by omega) (by omega) (by omega)

end Go.Proofs.Ytjceoheiiohfcaa
