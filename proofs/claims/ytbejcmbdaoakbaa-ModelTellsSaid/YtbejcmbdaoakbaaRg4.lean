/- The reference of layer 24: made. (Printed by mkrmade.py.) -/
import Derived.Test.YtbejcmbdaoakbaaRg3
namespace Go.Proofs.Ytbejcmbdaoakbaa
open Go.RowKit
set_option linter.unusedVariables false
set_option linter.unusedSimpArgs false

theorem volCells_one' (x : Nat) (v : Value) : volCells [(x, v)] = [.int .u64 (x : Int), v] := rfl
theorem volVs_app (l : List (Nat × Value × PutL)) (x : Nat × Value × PutL) : volVs (l ++ [x]) = volVs l ++ [(x.1, x.2.1)] := by unfold volVs; rw [List.map_append]; rfl
theorem own_zeroV {W : World} {a : Option Addr} {n c : Nat} (h : AppSrc W 2 (.slice a n c) n []) : n = 0 := by have := h.1; simp at this; omega

set_option maxRecDepth 20000 in
set_option maxHeartbeats 4000000 in
theorem r24made_at {L : List Nat} {B : Nat} {w : World} {p : Nat} {vv pv : Value} {ps : PutL} {R : RSt} (h : RefAt L B w p vv R) (hB : B ≤ 1000000) (hla : R.last + 1 < 18446744073709551616) (hP : PutsV L w pv ps) (hps : ps.length ≤ B) :
    Calls Try.prog 37 #[.pointer (some ⟨p, 0, none⟩), pv] w fun e w' => e = .returned (repV 0 (R.last + 1) (.slice none 0 0) 0) ∧ ∃ vv' L',
      RefAt L' (B + 1) w' p vv' ⟨R.size, R.last + 1, R.vols ++ [(R.last + 1, pv, ps)]⟩ ∧ (∀ b, b ∈ L' → b ∈ L ∨ w.heap.size ≤ b) ∧ Chg [p] w w' := by
  obtain ⟨pa, pk, hpv⟩ : ∃ pa pk, pv = .slice pa ps.length pk := by
    obtain ⟨a, c, e, _⟩ := ownRow_slice hP.1
    exact ⟨a, c, e⟩
  obtain ⟨va, vc, hvv, _, _⟩ := ownRow_slice h.vols
  subst hvv
  obtain ⟨n, hn⟩ : ∃ n, n = R.vols.length := ⟨_, rfl⟩
  obtain ⟨k, hk⟩ : ∃ k, k = ps.length := ⟨_, rfl⟩
  have hn1 : n ≤ 1000000 := by have := h.bv; omega
  have hblk := h.blk
  rw [← hn] at hblk
  rw [← hk] at hpv
  subst hpv
  obtain ⟨la, hlan⟩ : ∃ la, la = R.last + 1 := ⟨_, rfl⟩
  have ew : IntKind.u64.wrap ((R.last : Int) + 1) = (la : Int) := by rw [hlan]; exact IntWalk.u64_in _ (by omega)
  rw [← hlan]
  have m0 := cell_of_block hblk 0
  have m1 := cell_of_block hblk 1
  have m2 := cell_of_block hblk 2
  simp only [List.getElem?_toArray, List.getElem?_cons_zero, List.getElem?_cons_succ] at m0 m1 m2
  have HLA := Lib.hid (And.intro hlan hla)
  have Hn := Lib.hid hn
  have Hk := Lib.hid hk
  have H := Lib.hid h
  have HP := Lib.hid hP
  have HPS := Lib.hid hps
  have HBL := Lib.hid hblk
  have hsrc : AppSrc w 2 (.slice va n vc) n (volCells (volVs R.vols)) := by
    have := AppSrc.own h.vols (volVs_one h)
    rw [← hn] at this
    exact this
  have HSW := Lib.hid hsrc
  clear h hP hps hn hk hblk hB hlan hla hsrc
  go_enter Try.func37, Try.ntmps37
  go_upto_region 1 with fail
  have hpl : p < w.heap.size := World.block_lt_of_cell? w ⟨p, 0, none⟩ m0
  have hC := (Chg.refl [] w).alloc (.cells #[.int .i64 0, .int .u64 0, .slice none 0 0, .int .i64 0] 32)
  have hB4 := new_block w (.cells #[.int .i64 0, .int .u64 0, .slice none 0 0, .int .i64 0] 32)
  have hP1 := (hC.block p hpl (by simp)).trans HBL.out
  have HC1 := Lib.hid hC
  have HSZ := Lib.hid (size_alloc' w (.cells #[.int .i64 0, .int .u64 0, .slice none 0 0, .int .i64 0] 32))
  clear m0 m1 m2 hC
  generalize w.alloc (.cells #[.int .i64 0, .int .u64 0, .slice none 0 0, .int .i64 0] 32) = W1 at *
  obtain ⟨b4, hb4⟩ : ∃ b4, b4 = w.heap.size := ⟨_, rfl⟩
  rw [← hb4] at hB4 ⊢
  have m0 := cell_of_block hP1 0
  have m1 := cell_of_block hP1 1
  have m2 := cell_of_block hP1 2
  simp only [List.getElem?_toArray, List.getElem?_cons_zero, List.getElem?_cons_succ] at m0 m1 m2
  have f1 := frozen_of_block hP1 1
  have HP1 := Lib.hid hP1
  have HB4 := Lib.hid hB4
  have HN4 := Lib.hid hb4
  clear hP1 hB4 hb4
  go_upto_region 2 with fail
  have hst1 : Chg [p] W1 (W1.setCell ⟨p, 1, none⟩ (.int .u64 (la : Int))) := (Chg.refl [p] W1).setCell (.inl (by simp)) _
  have hP2 : (W1.setCell ⟨p, 1, none⟩ (.int .u64 (la : Int))).heap[p]? = some (.cells #[.int .u64 (R.size : Int), .int .u64 (la : Int), .slice va n vc] 44 (0, 0)) := setCell_block HP1.out 1 (.int .u64 (la : Int))
  have hn4 : b4 ≠ p := by have := HN4.out; omega
  have hB4 := (hst1.block b4 (heap_lt HB4.out) (by simp [hn4])).trans HB4.out
  have HC2 : Hid (Chg [p] w (W1.setCell ⟨p, 1, none⟩ (.int .u64 (la : Int)))) := Lib.hid (((Chg.refl [p] w).then HC1.out (by simp)).then hst1 (fun x hx => .inl hx))
  have HSP : Hid (AppSrc (W1.setCell ⟨p, 1, none⟩ (.int .u64 (la : Int))) 2 (.slice va n vc) n (volCells (volVs R.vols))) := Lib.hid ((HSW.out.chg HC1.out (by simp)).chg hst1 (fun g e => by simp only [List.mem_singleton]; rintro rfl; exact row_ne (cs := []) H.out.vols H.out.blk (by decide) (by rw [← Hn.out]; exact e)))
  have hlp : p < (W1.setCell ⟨p, 1, none⟩ (.int .u64 (la : Int))).heap.size := heap_lt hP2
  have HPP := Lib.hid hP2
  clear m0 m1 m2 f1 hst1
  generalize W1.setCell ⟨p, 1, none⟩ (.int .u64 (la : Int)) = W2 at *
  have m0 := cell_of_block hP2 0
  have m1 := cell_of_block hP2 1
  have m2 := cell_of_block hP2 2
  simp only [List.getElem?_toArray, List.getElem?_cons_zero, List.getElem?_cons_succ] at m0 m1 m2
  have y0 := cell_of_block hB4 0
  have y1 := cell_of_block hB4 1
  have y2 := cell_of_block hB4 2
  have y3 := cell_of_block hB4 3
  simp only [List.getElem?_toArray, List.getElem?_cons_zero, List.getElem?_cons_succ] at y0 y1 y2 y3
  have HB4 := Lib.hid hB4
  have l4 : b4 < W2.heap.size := heap_lt hB4
  clear hP2 hB4
  go_cut [] (fun wr => Hid (∃ ax cx, wr.heap[p]? = some (.cells #[.int .u64 (R.size : Int), .int .u64 (la : Int), .slice ax (n + 1) cx] 44 (0, 0)) ∧ wr.ownsRow W2.heap.size 52 2 (.slice ax (n + 1) cx) (n + 1) (volCells (volVs R.vols) ++ [.int .u64 (la : Int), .slice pa k pk]) ∧ Chg [p] W2 wr))
  case first =>
    have HC0 := Lib.hid ((Chg.refl [] W2).drew)
    refine wp_region_held_drew (S := fun W' => W'.cell? ⟨p, 1, none⟩ = some (.int .u64 (la : Int))) (by kernel_rfl) (by exact m1) (fun hHeld => ?_)
    refine wpAnyH_take (i := 0) (oi := ?_) (v := ?_) ?_ (by kernel_rfl) (by kernel_rfl) (by kernel_rfl) ?_ (Or.inl ⟨?_, ?_⟩) hHeld ?_
    rotate_left 2
    · (simp only [List.getElem?_toArray, List.getElem?_cons_succ, List.getElem?_cons_zero]; rfl)
    · exact fun _ _ _ h => h
    · rfl
    · (rintro W' s1; go_simp; first | done | with_reducible rfl)
    try simp only [Act.put, List.setIfInBounds_toArray, List.set_cons_zero, List.set_cons_succ]
    refine wpAnyH_take (i := 2) (oi := ?_) (v := ?_) ?_ (by kernel_rfl) (by kernel_rfl) (by kernel_rfl) ?_ (Or.inl ⟨?_, ?_⟩) hHeld ?_
    rotate_left 2
    · (simp only [List.getElem?_toArray, List.getElem?_cons_succ, List.getElem?_cons_zero]; rfl)
    · exact fun _ _ _ h => h
    · rfl
    · (rintro W' s1; go_simp; first | done | with_reducible rfl)
    try simp only [Act.put, List.setIfInBounds_toArray, List.set_cons_zero, List.set_cons_succ]
    refine wpAnyH_take (i := 3) (oi := ?_) (v := ?_) ?_ (by kernel_rfl) (by kernel_rfl) (by kernel_rfl) ?_ (Or.inl ⟨?_, ?_⟩) hHeld ?_
    rotate_left 2
    · (simp only [List.getElem?_toArray, List.getElem?_cons_succ, List.getElem?_cons_zero]; rfl)
    · exact fun _ _ _ h => h
    · rfl
    · (rintro W' s1; go_simp; first | done | with_reducible rfl)
    try simp only [Act.put, List.setIfInBounds_toArray, List.set_cons_zero, List.set_cons_succ]
    refine wpAnyH_take (i := 4) (oi := ?_) (v := ?_) ?_ (by kernel_rfl) (by kernel_rfl) (by kernel_rfl) ?_ (Or.inl ⟨?_, ?_⟩) hHeld ?_
    rotate_left 2
    · (simp only [List.getElem?_toArray, List.getElem?_cons_succ, List.getElem?_cons_zero]; rfl)
    · exact fun _ _ _ h => h
    · rfl
    · (rintro W' s1; go_simp; first | done | with_reducible rfl)
    try simp only [Act.put, List.setIfInBounds_toArray, List.set_cons_zero, List.set_cons_succ]
    refine wpAnyH_take (i := 7) (oi := ?_) (v := ?_) ?_ (by kernel_rfl) (by kernel_rfl) (by kernel_rfl) ?_ (Or.inl ⟨?_, ?_⟩) hHeld ?_
    rotate_left 2
    · (simp only [List.getElem?_toArray, List.getElem?_cons_succ, List.getElem?_cons_zero]; rfl)
    · exact fun _ _ _ h => h
    · rfl
    · (rintro W' s1; go_simp; first | done | with_reducible rfl)
    try simp only [Act.put, List.setIfInBounds_toArray, List.set_cons_zero, List.set_cons_succ]
    refine wpAnyH_take (i := 8) (oi := ?_) (v := ?_) ?_ (by kernel_rfl) (by kernel_rfl) (by kernel_rfl) ?_ (Or.inl ⟨?_, ?_⟩) hHeld ?_
    rotate_left 2
    · (simp only [List.getElem?_toArray, List.getElem?_cons_succ, List.getElem?_cons_zero]; rfl)
    · exact fun _ _ _ h => h
    · rfl
    · (rintro W' s1; go_simp; first | done | with_reducible rfl)
    try simp only [Act.put, List.setIfInBounds_toArray, List.set_cons_zero, List.set_cons_succ]
    refine wpAnyH_take (i := 9) (oi := ?_) (v := ?_) ?_ (by kernel_rfl) (by kernel_rfl) (by kernel_rfl) ?_ (Or.inl ⟨?_, ?_⟩) hHeld ?_
    rotate_left 2
    · (simp only [List.getElem?_toArray, List.getElem?_cons_succ, List.getElem?_cons_zero]; rfl)
    · exact fun _ _ _ h => h
    · rfl
    · (rintro W' s1; go_simp; first | done | with_reducible rfl)
    try simp only [Act.put, List.setIfInBounds_toArray, List.set_cons_zero, List.set_cons_succ]
    refine wpAnyH_take (i := 10) (oi := ?_) (v := ?_) ?_ (by kernel_rfl) (by kernel_rfl) (by kernel_rfl) ?_ (Or.inl ⟨?_, ?_⟩) hHeld ?_
    rotate_left 2
    · (simp only [List.getElem?_toArray, List.getElem?_cons_succ, List.getElem?_cons_zero]; rfl)
    · exact fun _ _ _ h => h
    · rfl
    · (rintro W' s1; go_simp; first | done | with_reducible rfl)
    try simp only [Act.put, List.setIfInBounds_toArray, List.set_cons_zero, List.set_cons_succ]
    refine wpAnyH_take (i := 11) (oi := ?_) (v := ?_) ?_ (by kernel_rfl) (by kernel_rfl) (by kernel_rfl) ?_ (Or.inl ⟨?_, ?_⟩) hHeld ?_
    rotate_left 2
    · (simp only [List.getElem?_toArray, List.getElem?_cons_succ, List.getElem?_cons_zero]; rfl)
    · exact fun _ _ _ h => h
    · rfl
    · (rintro W' s1; go_simp; first | done | with_reducible rfl)
    try simp only [Act.put, List.setIfInBounds_toArray, List.set_cons_zero, List.set_cons_succ]
    refine wpAnyH_take (i := 12) (oi := ?_) (v := ?_) ?_ (by kernel_rfl) (by kernel_rfl) (by kernel_rfl) ?_ (Or.inl ⟨?_, ?_⟩) hHeld ?_
    rotate_left 2
    · (simp only [List.getElem?_toArray, List.getElem?_cons_succ, List.getElem?_cons_zero]; rfl)
    · exact fun _ _ _ h => h
    · rfl
    · (rintro W' s1; go_simp; first | done | with_reducible rfl)
    try simp only [Act.put, List.setIfInBounds_toArray, List.set_cons_zero, List.set_cons_succ]
    generalize W2.drew = V at *
    refine wpAnyH_ready (rs := [1, 5, 13]) (by kernel_rfl) (by simp) ?_
    refine AllReadyH.cons (o := ?_) ?_ (fun K hK => ?_) ?_
    rotate_left 1
    · (simp only [List.getElem?_toArray, List.getElem?_cons_succ, List.getElem?_cons_zero]; rfl)
    · (go_simp; have hstZ := (Chg.refl [] V).alloc (.cells #[] 52); have hnbZ := new_block V (.cells #[] 52); have HZZ := Lib.hid hnbZ; have HCZ := Lib.hid (HC0.out.trans hstZ); have HLZ := Lib.hid (HC0.out.size); clear hnbZ hstZ; generalize V.alloc (.cells #[] 52) = VZ at *)
      refine hK.out _ _ ?_ (fun hHeld => ?_)
      · exact (HCZ.out.cell (p := ⟨p, 1, none⟩) hlp (by simp)).trans m1
      clear hK K
      try simp only [Act.put, List.setIfInBounds_toArray, List.set_cons_zero, List.set_cons_succ]
      refine wpAnyH_ready (rs := [5, 13]) (by kernel_rfl) (by simp) ?_
      refine AllReadyH.cons (o := ?_) ?_ (fun K hK => ?_) ?_
      rotate_left 1
      · (simp only [List.getElem?_toArray, List.getElem?_cons_succ, List.getElem?_cons_zero]; rfl)
      · (have hlZL := (HCZ.out.cell (p := ⟨p, 2, none⟩) hlp (by simp)).trans m2; go_simp; clear hlZL; have HCZL := HCZ)
        refine hK.out _ _ ?_ (fun hHeld => ?_)
        · exact (HCZL.out.cell (p := ⟨p, 1, none⟩) hlp (by simp)).trans m1
        clear hK K
        try simp only [Act.put, List.setIfInBounds_toArray, List.set_cons_zero, List.set_cons_succ]
        refine wpAnyH_ready (rs := [6, 13]) (by kernel_rfl) (by simp) ?_
        refine AllReadyH.cons (o := ?_) ?_ (fun K hK => ?_) ?_
        rotate_left 1
        · (simp only [List.getElem?_toArray, List.getElem?_cons_succ, List.getElem?_cons_zero]; rfl)
        · (refine step_app (base := W2.heap.size) (xs := []) (news := volCells (volVs R.vols)) rfl (.tmp 13) (.tmp 17) 42 rfl rfl Try.underlying42 infoV24 (by rfl) (by omega) (by omega) (by simp [Act.eval, Act.put]) (by simp [Act.eval, Act.put]) (own_zero HZZ.out HLZ.out) (HSP.out.chg HCZL.out (by simp)) (by omega) HCZL.out.size ?_; intro vaZLA VZLA hownZLA hgZLA; rw [Nat.zero_add, List.nil_append] at hownZLA; have hstZLA : Chg [V.heap.size] VZ VZLA := (Chg.refl _ VZ).grown hgZLA (fun k hk => .inl (by rw [← (show V.heap.size = k from Option.some.inj hk)]; simp)); have HCZLA := Lib.hid (HCZL.out.then hstZLA (fun q hq => .inr (by simp only [List.mem_singleton] at hq; rw [hq]; exact HLZ.out))); have HAZLA := Lib.hid hownZLA; clear hownZLA hgZLA hstZLA)
          refine hK.out _ _ ?_ (fun hHeld => ?_)
          · exact (HCZLA.out.cell (p := ⟨p, 1, none⟩) hlp (by simp)).trans m1
          clear hK K
          try simp only [Act.put, List.setIfInBounds_toArray, List.set_cons_zero, List.set_cons_succ]
          refine wpAnyH_ready (rs := [13]) (by kernel_rfl) (by simp) ?_
          refine AllReadyH.cons (o := ?_) ?_ (fun K hK => ?_) AllReadyH.nil
          rotate_left 1
          · (simp only [List.getElem?_toArray, List.getElem?_cons_succ, List.getElem?_cons_zero]; rfl)
          · (go_simp; have hstZLAB := (Chg.refl [] VZLA).alloc (.cells #[.int .u64 (la : Int), .slice pa k pk] 52); have hnbZLAB := new_block VZLA (.cells #[.int .u64 (la : Int), .slice pa k pk] 52); have HAZLAB := Lib.hid (ownRow_chg HAZLA.out hstZLAB (by simp)); have HBZLAB := Lib.hid hnbZLAB; have HCZLAB := Lib.hid (HCZLA.out.trans hstZLAB); have HLZLAB := Lib.hid (HCZLA.out.size); clear hnbZLAB hstZLAB; generalize VZLA.alloc (.cells #[.int .u64 (la : Int), .slice pa k pk] 52) = VZLAB at *)
            refine hK.out _ _ ?_ (fun hHeld => ?_)
            · exact (HCZLAB.out.cell (p := ⟨p, 1, none⟩) hlp (by simp)).trans m1
            clear hK K
            try simp only [Act.put, List.setIfInBounds_toArray, List.set_cons_zero, List.set_cons_succ]
            refine wpAnyH_ready (rs := [14]) (by kernel_rfl) (by simp) ?_
            refine AllReadyH.cons (o := ?_) ?_ (fun K hK => ?_) AllReadyH.nil
            rotate_left 1
            · (simp only [List.getElem?_toArray, List.getElem?_cons_succ, List.getElem?_cons_zero]; rfl)
            · (refine step_app (base := W2.heap.size) (news := [.int .u64 (la : Int), .slice pa k pk]) rfl (.tmp 18) (.tmp 25) 42 rfl rfl Try.underlying42 infoV24 (by rfl) (by omega) (by omega) (by simp [Act.eval, Act.put]) (by simp [Act.eval, Act.put]) HAZLAB.out (AppSrc.blk2 HBZLAB.out rfl rfl) (by omega) HCZLAB.out.size ?_; intro vaZLABAB VZLABAB hownZLABAB hgZLABAB; have HCZLABAB := Lib.hid (HCZLAB.out.grown hgZLABAB (fun k hk => .inr (HAZLAB.out.lt k hk).1)); obtain ⟨axZLABAB, cxZLABAB, hvxZLABAB, _, _⟩ := ownRow_slice hownZLABAB; subst hvxZLABAB; have HAZLABAB := Lib.hid hownZLABAB; clear hownZLABAB hgZLABAB)
              refine hK.out _ _ ?_ (fun hHeld => ?_)
              · exact (HCZLABAB.out.cell (p := ⟨p, 1, none⟩) hlp (by simp)).trans m1
              clear hK K
              try simp only [Act.put, List.setIfInBounds_toArray, List.set_cons_zero, List.set_cons_succ]
              refine wpAnyH_take (i := 15) (oi := ?_) (v := ?_) ?_ (by kernel_rfl) (by kernel_rfl) (by kernel_rfl) ?_ (Or.inl ⟨?_, ?_⟩) hHeld ?_
              rotate_left 2
              · (simp only [List.getElem?_toArray, List.getElem?_cons_succ, List.getElem?_cons_zero]; rfl)
              · exact fun _ _ _ h => h
              · rfl
              · (rintro W' s1; go_simp; first | done | with_reducible rfl)
              try simp only [Act.put, List.setIfInBounds_toArray, List.set_cons_zero, List.set_cons_succ]
              refine wpAnyH_take (i := 16) (oi := ?_) (v := ?_) ?_ (by kernel_rfl) (by kernel_rfl) (by kernel_rfl) ?_ (Or.inl ⟨?_, ?_⟩) hHeld ?_
              rotate_left 2
              · (simp only [List.getElem?_toArray, List.getElem?_cons_succ, List.getElem?_cons_zero]; rfl)
              · exact fun _ _ _ h => h
              · rfl
              · (rintro W' s1; go_simp; first | done | with_reducible rfl)
              try simp only [Act.put, List.setIfInBounds_toArray, List.set_cons_zero, List.set_cons_succ]
              refine wpAnyH_ready (rs := [17]) (by kernel_rfl) (by simp) ?_
              refine AllReadyH.cons (o := ?_) ?_ (fun K hK => ?_) AllReadyH.nil
              rotate_left 1
              · (simp only [List.getElem?_toArray, List.getElem?_cons_succ, List.getElem?_cons_zero]; rfl)
              · (have hz := (HCZLABAB.out.block _ (heap_lt HPP.out) (by simp)).trans HPP.out; have zf0 := frozen_of_block hz 0; have z0 := cell_of_block hz 0; have zf1 := frozen_of_block hz 1; have z1 := cell_of_block hz 1; have zf2 := frozen_of_block hz 2; have z2 := cell_of_block hz 2; simp only [List.getElem?_toArray, List.getElem?_cons_zero, List.getElem?_cons_succ] at z0 z1 z2; go_simp; have h2 := setCell_block hz 2 (.slice axZLABAB (n + 1) cxZLABAB); have HZ2 := Lib.hid h2; have HCs := Lib.hid (((Chg.refl [p] W2).then HCZLABAB.out (by simp)).setCell (p := ⟨p, 2, none⟩) (.inl (by simp)) (.slice axZLABAB (n + 1) cxZLABAB)); have HAs := Lib.hid (ownRow_block (w' := VZLABAB.setCell ⟨p, 2, none⟩ (.slice axZLABAB (n + 1) cxZLABAB)) HAZLABAB.out (fun g hg => setCell_other 2 (.slice axZLABAB (n + 1) cxZLABAB) (by have := (HAZLABAB.out.lt g hg).1; omega))); clear h2 hz zf0 z0 zf1 z1 zf2 z2; generalize VZLABAB.setCell _ _ = VS at *)
                refine hK.out _ _ ?_ (fun hHeld => ?_)
                · (have q1 := cell_of_block HZ2.out 1; exact q1)
                clear hK K
                try simp only [Act.put, List.setIfInBounds_toArray, List.set_cons_zero, List.set_cons_succ]
                refine wpAnyH_done (by kernel_rfl) ?_ _
                go_wp2_with fail
                go_meet
                exact ⟨_, _, HZ2.out, HAs.out, HCs.out⟩
        refine AllReadyH.cons (o := ?_) ?_ (fun K hK => ?_) AllReadyH.nil
        rotate_left 1
        · (simp only [List.getElem?_toArray, List.getElem?_cons_succ, List.getElem?_cons_zero]; rfl)
        · (go_simp; have hstZLB := (Chg.refl [] VZ).alloc (.cells #[.int .u64 (la : Int), .slice pa k pk] 52); have hnbZLB := new_block VZ (.cells #[.int .u64 (la : Int), .slice pa k pk] 52); have HZZLB := Lib.hid ((hstZLB.block _ (heap_lt HZZ.out) (by simp)).trans HZZ.out); have HBZLB := Lib.hid hnbZLB; have HCZLB := Lib.hid (HCZL.out.trans hstZLB); have HLZLB := Lib.hid (HCZL.out.size); clear hnbZLB hstZLB; generalize VZ.alloc (.cells #[.int .u64 (la : Int), .slice pa k pk] 52) = VZLB at *)
          refine hK.out _ _ ?_ (fun hHeld => ?_)
          · exact (HCZLB.out.cell (p := ⟨p, 1, none⟩) hlp (by simp)).trans m1
          clear hK K
          try simp only [Act.put, List.setIfInBounds_toArray, List.set_cons_zero, List.set_cons_succ]
          refine wpAnyH_ready (rs := [6]) (by kernel_rfl) (by simp) ?_
          refine AllReadyH.cons (o := ?_) ?_ (fun K hK => ?_) AllReadyH.nil
          rotate_left 1
          · (simp only [List.getElem?_toArray, List.getElem?_cons_succ, List.getElem?_cons_zero]; rfl)
          · (refine step_app (base := W2.heap.size) (xs := []) (news := volCells (volVs R.vols)) rfl (.tmp 13) (.tmp 17) 42 rfl rfl Try.underlying42 infoV24 (by rfl) (by omega) (by omega) (by simp [Act.eval, Act.put]) (by simp [Act.eval, Act.put]) (own_zero HZZLB.out HLZ.out) (HSP.out.chg HCZLB.out (by simp)) (by omega) HCZLB.out.size ?_; intro vaZLBA VZLBA hownZLBA hgZLBA; rw [Nat.zero_add, List.nil_append] at hownZLBA; have hstZLBA : Chg [V.heap.size] VZLB VZLBA := (Chg.refl _ VZLB).grown hgZLBA (fun k hk => .inl (by rw [← (show V.heap.size = k from Option.some.inj hk)]; simp)); have HBZLBA := Lib.hid ((hstZLBA.block _ (heap_lt HBZLB.out) (by simp only [List.mem_singleton]; exact blk_ne HZZLB.out HBZLB.out (by simp))).trans HBZLB.out); have HCZLBA := Lib.hid (HCZLB.out.then hstZLBA (fun q hq => .inr (by simp only [List.mem_singleton] at hq; rw [hq]; exact HLZ.out))); have HAZLBA := Lib.hid hownZLBA; clear hownZLBA hgZLBA hstZLBA)
            refine hK.out _ _ ?_ (fun hHeld => ?_)
            · exact (HCZLBA.out.cell (p := ⟨p, 1, none⟩) hlp (by simp)).trans m1
            clear hK K
            try simp only [Act.put, List.setIfInBounds_toArray, List.set_cons_zero, List.set_cons_succ]
            refine wpAnyH_ready (rs := [14]) (by kernel_rfl) (by simp) ?_
            refine AllReadyH.cons (o := ?_) ?_ (fun K hK => ?_) AllReadyH.nil
            rotate_left 1
            · (simp only [List.getElem?_toArray, List.getElem?_cons_succ, List.getElem?_cons_zero]; rfl)
            · (refine step_app (base := W2.heap.size) (news := [.int .u64 (la : Int), .slice pa k pk]) rfl (.tmp 18) (.tmp 25) 42 rfl rfl Try.underlying42 infoV24 (by rfl) (by omega) (by omega) (by simp [Act.eval, Act.put]) (by simp [Act.eval, Act.put]) HAZLBA.out (AppSrc.blk2 HBZLBA.out rfl rfl) (by omega) HCZLBA.out.size ?_; intro vaZLBAAB VZLBAAB hownZLBAAB hgZLBAAB; have HCZLBAAB := Lib.hid (HCZLBA.out.grown hgZLBAAB (fun k hk => .inr (HAZLBA.out.lt k hk).1)); obtain ⟨axZLBAAB, cxZLBAAB, hvxZLBAAB, _, _⟩ := ownRow_slice hownZLBAAB; subst hvxZLBAAB; have HAZLBAAB := Lib.hid hownZLBAAB; clear hownZLBAAB hgZLBAAB)
              refine hK.out _ _ ?_ (fun hHeld => ?_)
              · exact (HCZLBAAB.out.cell (p := ⟨p, 1, none⟩) hlp (by simp)).trans m1
              clear hK K
              try simp only [Act.put, List.setIfInBounds_toArray, List.set_cons_zero, List.set_cons_succ]
              refine wpAnyH_take (i := 15) (oi := ?_) (v := ?_) ?_ (by kernel_rfl) (by kernel_rfl) (by kernel_rfl) ?_ (Or.inl ⟨?_, ?_⟩) hHeld ?_
              rotate_left 2
              · (simp only [List.getElem?_toArray, List.getElem?_cons_succ, List.getElem?_cons_zero]; rfl)
              · exact fun _ _ _ h => h
              · rfl
              · (rintro W' s1; go_simp; first | done | with_reducible rfl)
              try simp only [Act.put, List.setIfInBounds_toArray, List.set_cons_zero, List.set_cons_succ]
              refine wpAnyH_take (i := 16) (oi := ?_) (v := ?_) ?_ (by kernel_rfl) (by kernel_rfl) (by kernel_rfl) ?_ (Or.inl ⟨?_, ?_⟩) hHeld ?_
              rotate_left 2
              · (simp only [List.getElem?_toArray, List.getElem?_cons_succ, List.getElem?_cons_zero]; rfl)
              · exact fun _ _ _ h => h
              · rfl
              · (rintro W' s1; go_simp; first | done | with_reducible rfl)
              try simp only [Act.put, List.setIfInBounds_toArray, List.set_cons_zero, List.set_cons_succ]
              refine wpAnyH_ready (rs := [17]) (by kernel_rfl) (by simp) ?_
              refine AllReadyH.cons (o := ?_) ?_ (fun K hK => ?_) AllReadyH.nil
              rotate_left 1
              · (simp only [List.getElem?_toArray, List.getElem?_cons_succ, List.getElem?_cons_zero]; rfl)
              · (have hz := (HCZLBAAB.out.block _ (heap_lt HPP.out) (by simp)).trans HPP.out; have zf0 := frozen_of_block hz 0; have z0 := cell_of_block hz 0; have zf1 := frozen_of_block hz 1; have z1 := cell_of_block hz 1; have zf2 := frozen_of_block hz 2; have z2 := cell_of_block hz 2; simp only [List.getElem?_toArray, List.getElem?_cons_zero, List.getElem?_cons_succ] at z0 z1 z2; go_simp; have h2 := setCell_block hz 2 (.slice axZLBAAB (n + 1) cxZLBAAB); have HZ2 := Lib.hid h2; have HCs := Lib.hid (((Chg.refl [p] W2).then HCZLBAAB.out (by simp)).setCell (p := ⟨p, 2, none⟩) (.inl (by simp)) (.slice axZLBAAB (n + 1) cxZLBAAB)); have HAs := Lib.hid (ownRow_block (w' := VZLBAAB.setCell ⟨p, 2, none⟩ (.slice axZLBAAB (n + 1) cxZLBAAB)) HAZLBAAB.out (fun g hg => setCell_other 2 (.slice axZLBAAB (n + 1) cxZLBAAB) (by have := (HAZLBAAB.out.lt g hg).1; omega))); clear h2 hz zf0 z0 zf1 z1 zf2 z2; generalize VZLBAAB.setCell _ _ = VS at *)
                refine hK.out _ _ ?_ (fun hHeld => ?_)
                · (have q1 := cell_of_block HZ2.out 1; exact q1)
                clear hK K
                try simp only [Act.put, List.setIfInBounds_toArray, List.set_cons_zero, List.set_cons_succ]
                refine wpAnyH_done (by kernel_rfl) ?_ _
                go_wp2_with fail
                go_meet
                exact ⟨_, _, HZ2.out, HAs.out, HCs.out⟩
      refine AllReadyH.cons (o := ?_) ?_ (fun K hK => ?_) AllReadyH.nil
      rotate_left 1
      · (simp only [List.getElem?_toArray, List.getElem?_cons_succ, List.getElem?_cons_zero]; rfl)
      · (go_simp; have hstZB := (Chg.refl [] VZ).alloc (.cells #[.int .u64 (la : Int), .slice pa k pk] 52); have hnbZB := new_block VZ (.cells #[.int .u64 (la : Int), .slice pa k pk] 52); have HZZB := Lib.hid ((hstZB.block _ (heap_lt HZZ.out) (by simp)).trans HZZ.out); have HBZB := Lib.hid hnbZB; have HCZB := Lib.hid (HCZ.out.trans hstZB); have HLZB := Lib.hid (HCZ.out.size); clear hnbZB hstZB; generalize VZ.alloc (.cells #[.int .u64 (la : Int), .slice pa k pk] 52) = VZB at *)
        refine hK.out _ _ ?_ (fun hHeld => ?_)
        · exact (HCZB.out.cell (p := ⟨p, 1, none⟩) hlp (by simp)).trans m1
        clear hK K
        try simp only [Act.put, List.setIfInBounds_toArray, List.set_cons_zero, List.set_cons_succ]
        refine wpAnyH_ready (rs := [5]) (by kernel_rfl) (by simp) ?_
        refine AllReadyH.cons (o := ?_) ?_ (fun K hK => ?_) AllReadyH.nil
        rotate_left 1
        · (simp only [List.getElem?_toArray, List.getElem?_cons_succ, List.getElem?_cons_zero]; rfl)
        · (have hlZBL := (HCZB.out.cell (p := ⟨p, 2, none⟩) hlp (by simp)).trans m2; go_simp; clear hlZBL; have HCZBL := HCZB)
          refine hK.out _ _ ?_ (fun hHeld => ?_)
          · exact (HCZBL.out.cell (p := ⟨p, 1, none⟩) hlp (by simp)).trans m1
          clear hK K
          try simp only [Act.put, List.setIfInBounds_toArray, List.set_cons_zero, List.set_cons_succ]
          refine wpAnyH_ready (rs := [6]) (by kernel_rfl) (by simp) ?_
          refine AllReadyH.cons (o := ?_) ?_ (fun K hK => ?_) AllReadyH.nil
          rotate_left 1
          · (simp only [List.getElem?_toArray, List.getElem?_cons_succ, List.getElem?_cons_zero]; rfl)
          · (refine step_app (base := W2.heap.size) (xs := []) (news := volCells (volVs R.vols)) rfl (.tmp 13) (.tmp 17) 42 rfl rfl Try.underlying42 infoV24 (by rfl) (by omega) (by omega) (by simp [Act.eval, Act.put]) (by simp [Act.eval, Act.put]) (own_zero HZZB.out HLZ.out) (HSP.out.chg HCZBL.out (by simp)) (by omega) HCZBL.out.size ?_; intro vaZBLA VZBLA hownZBLA hgZBLA; rw [Nat.zero_add, List.nil_append] at hownZBLA; have hstZBLA : Chg [V.heap.size] VZB VZBLA := (Chg.refl _ VZB).grown hgZBLA (fun k hk => .inl (by rw [← (show V.heap.size = k from Option.some.inj hk)]; simp)); have HBZBLA := Lib.hid ((hstZBLA.block _ (heap_lt HBZB.out) (by simp only [List.mem_singleton]; exact blk_ne HZZB.out HBZB.out (by simp))).trans HBZB.out); have HCZBLA := Lib.hid (HCZBL.out.then hstZBLA (fun q hq => .inr (by simp only [List.mem_singleton] at hq; rw [hq]; exact HLZ.out))); have HAZBLA := Lib.hid hownZBLA; clear hownZBLA hgZBLA hstZBLA)
            refine hK.out _ _ ?_ (fun hHeld => ?_)
            · exact (HCZBLA.out.cell (p := ⟨p, 1, none⟩) hlp (by simp)).trans m1
            clear hK K
            try simp only [Act.put, List.setIfInBounds_toArray, List.set_cons_zero, List.set_cons_succ]
            refine wpAnyH_ready (rs := [14]) (by kernel_rfl) (by simp) ?_
            refine AllReadyH.cons (o := ?_) ?_ (fun K hK => ?_) AllReadyH.nil
            rotate_left 1
            · (simp only [List.getElem?_toArray, List.getElem?_cons_succ, List.getElem?_cons_zero]; rfl)
            · (refine step_app (base := W2.heap.size) (news := [.int .u64 (la : Int), .slice pa k pk]) rfl (.tmp 18) (.tmp 25) 42 rfl rfl Try.underlying42 infoV24 (by rfl) (by omega) (by omega) (by simp [Act.eval, Act.put]) (by simp [Act.eval, Act.put]) HAZBLA.out (AppSrc.blk2 HBZBLA.out rfl rfl) (by omega) HCZBLA.out.size ?_; intro vaZBLAAB VZBLAAB hownZBLAAB hgZBLAAB; have HCZBLAAB := Lib.hid (HCZBLA.out.grown hgZBLAAB (fun k hk => .inr (HAZBLA.out.lt k hk).1)); obtain ⟨axZBLAAB, cxZBLAAB, hvxZBLAAB, _, _⟩ := ownRow_slice hownZBLAAB; subst hvxZBLAAB; have HAZBLAAB := Lib.hid hownZBLAAB; clear hownZBLAAB hgZBLAAB)
              refine hK.out _ _ ?_ (fun hHeld => ?_)
              · exact (HCZBLAAB.out.cell (p := ⟨p, 1, none⟩) hlp (by simp)).trans m1
              clear hK K
              try simp only [Act.put, List.setIfInBounds_toArray, List.set_cons_zero, List.set_cons_succ]
              refine wpAnyH_take (i := 15) (oi := ?_) (v := ?_) ?_ (by kernel_rfl) (by kernel_rfl) (by kernel_rfl) ?_ (Or.inl ⟨?_, ?_⟩) hHeld ?_
              rotate_left 2
              · (simp only [List.getElem?_toArray, List.getElem?_cons_succ, List.getElem?_cons_zero]; rfl)
              · exact fun _ _ _ h => h
              · rfl
              · (rintro W' s1; go_simp; first | done | with_reducible rfl)
              try simp only [Act.put, List.setIfInBounds_toArray, List.set_cons_zero, List.set_cons_succ]
              refine wpAnyH_take (i := 16) (oi := ?_) (v := ?_) ?_ (by kernel_rfl) (by kernel_rfl) (by kernel_rfl) ?_ (Or.inl ⟨?_, ?_⟩) hHeld ?_
              rotate_left 2
              · (simp only [List.getElem?_toArray, List.getElem?_cons_succ, List.getElem?_cons_zero]; rfl)
              · exact fun _ _ _ h => h
              · rfl
              · (rintro W' s1; go_simp; first | done | with_reducible rfl)
              try simp only [Act.put, List.setIfInBounds_toArray, List.set_cons_zero, List.set_cons_succ]
              refine wpAnyH_ready (rs := [17]) (by kernel_rfl) (by simp) ?_
              refine AllReadyH.cons (o := ?_) ?_ (fun K hK => ?_) AllReadyH.nil
              rotate_left 1
              · (simp only [List.getElem?_toArray, List.getElem?_cons_succ, List.getElem?_cons_zero]; rfl)
              · (have hz := (HCZBLAAB.out.block _ (heap_lt HPP.out) (by simp)).trans HPP.out; have zf0 := frozen_of_block hz 0; have z0 := cell_of_block hz 0; have zf1 := frozen_of_block hz 1; have z1 := cell_of_block hz 1; have zf2 := frozen_of_block hz 2; have z2 := cell_of_block hz 2; simp only [List.getElem?_toArray, List.getElem?_cons_zero, List.getElem?_cons_succ] at z0 z1 z2; go_simp; have h2 := setCell_block hz 2 (.slice axZBLAAB (n + 1) cxZBLAAB); have HZ2 := Lib.hid h2; have HCs := Lib.hid (((Chg.refl [p] W2).then HCZBLAAB.out (by simp)).setCell (p := ⟨p, 2, none⟩) (.inl (by simp)) (.slice axZBLAAB (n + 1) cxZBLAAB)); have HAs := Lib.hid (ownRow_block (w' := VZBLAAB.setCell ⟨p, 2, none⟩ (.slice axZBLAAB (n + 1) cxZBLAAB)) HAZBLAAB.out (fun g hg => setCell_other 2 (.slice axZBLAAB (n + 1) cxZBLAAB) (by have := (HAZBLAAB.out.lt g hg).1; omega))); clear h2 hz zf0 z0 zf1 z1 zf2 z2; generalize VZBLAAB.setCell _ _ = VS at *)
                refine hK.out _ _ ?_ (fun hHeld => ?_)
                · (have q1 := cell_of_block HZ2.out 1; exact q1)
                clear hK K
                try simp only [Act.put, List.setIfInBounds_toArray, List.set_cons_zero, List.set_cons_succ]
                refine wpAnyH_done (by kernel_rfl) ?_ _
                go_wp2_with fail
                go_meet
                exact ⟨_, _, HZ2.out, HAs.out, HCs.out⟩
    refine AllReadyH.cons (o := ?_) ?_ (fun K hK => ?_) ?_
    rotate_left 1
    · (simp only [List.getElem?_toArray, List.getElem?_cons_succ, List.getElem?_cons_zero]; rfl)
    · (have hlL := (HC0.out.cell (p := ⟨p, 2, none⟩) hlp (by simp)).trans m2; go_simp; clear hlL; have HCL := HC0)
      refine hK.out _ _ ?_ (fun hHeld => ?_)
      · exact (HCL.out.cell (p := ⟨p, 1, none⟩) hlp (by simp)).trans m1
      clear hK K
      try simp only [Act.put, List.setIfInBounds_toArray, List.set_cons_zero, List.set_cons_succ]
      refine wpAnyH_ready (rs := [1, 13]) (by kernel_rfl) (by simp) ?_
      refine AllReadyH.cons (o := ?_) ?_ (fun K hK => ?_) ?_
      rotate_left 1
      · (simp only [List.getElem?_toArray, List.getElem?_cons_succ, List.getElem?_cons_zero]; rfl)
      · (go_simp; have hstLZ := (Chg.refl [] V).alloc (.cells #[] 52); have hnbLZ := new_block V (.cells #[] 52); have HZLZ := Lib.hid hnbLZ; have HCLZ := Lib.hid (HCL.out.trans hstLZ); have HLLZ := Lib.hid (HCL.out.size); clear hnbLZ hstLZ; generalize V.alloc (.cells #[] 52) = VLZ at *)
        refine hK.out _ _ ?_ (fun hHeld => ?_)
        · exact (HCLZ.out.cell (p := ⟨p, 1, none⟩) hlp (by simp)).trans m1
        clear hK K
        try simp only [Act.put, List.setIfInBounds_toArray, List.set_cons_zero, List.set_cons_succ]
        refine wpAnyH_ready (rs := [6, 13]) (by kernel_rfl) (by simp) ?_
        refine AllReadyH.cons (o := ?_) ?_ (fun K hK => ?_) ?_
        rotate_left 1
        · (simp only [List.getElem?_toArray, List.getElem?_cons_succ, List.getElem?_cons_zero]; rfl)
        · (refine step_app (base := W2.heap.size) (xs := []) (news := volCells (volVs R.vols)) rfl (.tmp 13) (.tmp 17) 42 rfl rfl Try.underlying42 infoV24 (by rfl) (by omega) (by omega) (by simp [Act.eval, Act.put]) (by simp [Act.eval, Act.put]) (own_zero HZLZ.out HLLZ.out) (HSP.out.chg HCLZ.out (by simp)) (by omega) HCLZ.out.size ?_; intro vaLZA VLZA hownLZA hgLZA; rw [Nat.zero_add, List.nil_append] at hownLZA; have hstLZA : Chg [V.heap.size] VLZ VLZA := (Chg.refl _ VLZ).grown hgLZA (fun k hk => .inl (by rw [← (show V.heap.size = k from Option.some.inj hk)]; simp)); have HCLZA := Lib.hid (HCLZ.out.then hstLZA (fun q hq => .inr (by simp only [List.mem_singleton] at hq; rw [hq]; exact HLLZ.out))); have HALZA := Lib.hid hownLZA; clear hownLZA hgLZA hstLZA)
          refine hK.out _ _ ?_ (fun hHeld => ?_)
          · exact (HCLZA.out.cell (p := ⟨p, 1, none⟩) hlp (by simp)).trans m1
          clear hK K
          try simp only [Act.put, List.setIfInBounds_toArray, List.set_cons_zero, List.set_cons_succ]
          refine wpAnyH_ready (rs := [13]) (by kernel_rfl) (by simp) ?_
          refine AllReadyH.cons (o := ?_) ?_ (fun K hK => ?_) AllReadyH.nil
          rotate_left 1
          · (simp only [List.getElem?_toArray, List.getElem?_cons_succ, List.getElem?_cons_zero]; rfl)
          · (go_simp; have hstLZAB := (Chg.refl [] VLZA).alloc (.cells #[.int .u64 (la : Int), .slice pa k pk] 52); have hnbLZAB := new_block VLZA (.cells #[.int .u64 (la : Int), .slice pa k pk] 52); have HALZAB := Lib.hid (ownRow_chg HALZA.out hstLZAB (by simp)); have HBLZAB := Lib.hid hnbLZAB; have HCLZAB := Lib.hid (HCLZA.out.trans hstLZAB); have HLLZAB := Lib.hid (HCLZA.out.size); clear hnbLZAB hstLZAB; generalize VLZA.alloc (.cells #[.int .u64 (la : Int), .slice pa k pk] 52) = VLZAB at *)
            refine hK.out _ _ ?_ (fun hHeld => ?_)
            · exact (HCLZAB.out.cell (p := ⟨p, 1, none⟩) hlp (by simp)).trans m1
            clear hK K
            try simp only [Act.put, List.setIfInBounds_toArray, List.set_cons_zero, List.set_cons_succ]
            refine wpAnyH_ready (rs := [14]) (by kernel_rfl) (by simp) ?_
            refine AllReadyH.cons (o := ?_) ?_ (fun K hK => ?_) AllReadyH.nil
            rotate_left 1
            · (simp only [List.getElem?_toArray, List.getElem?_cons_succ, List.getElem?_cons_zero]; rfl)
            · (refine step_app (base := W2.heap.size) (news := [.int .u64 (la : Int), .slice pa k pk]) rfl (.tmp 18) (.tmp 25) 42 rfl rfl Try.underlying42 infoV24 (by rfl) (by omega) (by omega) (by simp [Act.eval, Act.put]) (by simp [Act.eval, Act.put]) HALZAB.out (AppSrc.blk2 HBLZAB.out rfl rfl) (by omega) HCLZAB.out.size ?_; intro vaLZABAB VLZABAB hownLZABAB hgLZABAB; have HCLZABAB := Lib.hid (HCLZAB.out.grown hgLZABAB (fun k hk => .inr (HALZAB.out.lt k hk).1)); obtain ⟨axLZABAB, cxLZABAB, hvxLZABAB, _, _⟩ := ownRow_slice hownLZABAB; subst hvxLZABAB; have HALZABAB := Lib.hid hownLZABAB; clear hownLZABAB hgLZABAB)
              refine hK.out _ _ ?_ (fun hHeld => ?_)
              · exact (HCLZABAB.out.cell (p := ⟨p, 1, none⟩) hlp (by simp)).trans m1
              clear hK K
              try simp only [Act.put, List.setIfInBounds_toArray, List.set_cons_zero, List.set_cons_succ]
              refine wpAnyH_take (i := 15) (oi := ?_) (v := ?_) ?_ (by kernel_rfl) (by kernel_rfl) (by kernel_rfl) ?_ (Or.inl ⟨?_, ?_⟩) hHeld ?_
              rotate_left 2
              · (simp only [List.getElem?_toArray, List.getElem?_cons_succ, List.getElem?_cons_zero]; rfl)
              · exact fun _ _ _ h => h
              · rfl
              · (rintro W' s1; go_simp; first | done | with_reducible rfl)
              try simp only [Act.put, List.setIfInBounds_toArray, List.set_cons_zero, List.set_cons_succ]
              refine wpAnyH_take (i := 16) (oi := ?_) (v := ?_) ?_ (by kernel_rfl) (by kernel_rfl) (by kernel_rfl) ?_ (Or.inl ⟨?_, ?_⟩) hHeld ?_
              rotate_left 2
              · (simp only [List.getElem?_toArray, List.getElem?_cons_succ, List.getElem?_cons_zero]; rfl)
              · exact fun _ _ _ h => h
              · rfl
              · (rintro W' s1; go_simp; first | done | with_reducible rfl)
              try simp only [Act.put, List.setIfInBounds_toArray, List.set_cons_zero, List.set_cons_succ]
              refine wpAnyH_ready (rs := [17]) (by kernel_rfl) (by simp) ?_
              refine AllReadyH.cons (o := ?_) ?_ (fun K hK => ?_) AllReadyH.nil
              rotate_left 1
              · (simp only [List.getElem?_toArray, List.getElem?_cons_succ, List.getElem?_cons_zero]; rfl)
              · (have hz := (HCLZABAB.out.block _ (heap_lt HPP.out) (by simp)).trans HPP.out; have zf0 := frozen_of_block hz 0; have z0 := cell_of_block hz 0; have zf1 := frozen_of_block hz 1; have z1 := cell_of_block hz 1; have zf2 := frozen_of_block hz 2; have z2 := cell_of_block hz 2; simp only [List.getElem?_toArray, List.getElem?_cons_zero, List.getElem?_cons_succ] at z0 z1 z2; go_simp; have h2 := setCell_block hz 2 (.slice axLZABAB (n + 1) cxLZABAB); have HZ2 := Lib.hid h2; have HCs := Lib.hid (((Chg.refl [p] W2).then HCLZABAB.out (by simp)).setCell (p := ⟨p, 2, none⟩) (.inl (by simp)) (.slice axLZABAB (n + 1) cxLZABAB)); have HAs := Lib.hid (ownRow_block (w' := VLZABAB.setCell ⟨p, 2, none⟩ (.slice axLZABAB (n + 1) cxLZABAB)) HALZABAB.out (fun g hg => setCell_other 2 (.slice axLZABAB (n + 1) cxLZABAB) (by have := (HALZABAB.out.lt g hg).1; omega))); clear h2 hz zf0 z0 zf1 z1 zf2 z2; generalize VLZABAB.setCell _ _ = VS at *)
                refine hK.out _ _ ?_ (fun hHeld => ?_)
                · (have q1 := cell_of_block HZ2.out 1; exact q1)
                clear hK K
                try simp only [Act.put, List.setIfInBounds_toArray, List.set_cons_zero, List.set_cons_succ]
                refine wpAnyH_done (by kernel_rfl) ?_ _
                go_wp2_with fail
                go_meet
                exact ⟨_, _, HZ2.out, HAs.out, HCs.out⟩
        refine AllReadyH.cons (o := ?_) ?_ (fun K hK => ?_) AllReadyH.nil
        rotate_left 1
        · (simp only [List.getElem?_toArray, List.getElem?_cons_succ, List.getElem?_cons_zero]; rfl)
        · (go_simp; have hstLZB := (Chg.refl [] VLZ).alloc (.cells #[.int .u64 (la : Int), .slice pa k pk] 52); have hnbLZB := new_block VLZ (.cells #[.int .u64 (la : Int), .slice pa k pk] 52); have HZLZB := Lib.hid ((hstLZB.block _ (heap_lt HZLZ.out) (by simp)).trans HZLZ.out); have HBLZB := Lib.hid hnbLZB; have HCLZB := Lib.hid (HCLZ.out.trans hstLZB); have HLLZB := Lib.hid (HCLZ.out.size); clear hnbLZB hstLZB; generalize VLZ.alloc (.cells #[.int .u64 (la : Int), .slice pa k pk] 52) = VLZB at *)
          refine hK.out _ _ ?_ (fun hHeld => ?_)
          · exact (HCLZB.out.cell (p := ⟨p, 1, none⟩) hlp (by simp)).trans m1
          clear hK K
          try simp only [Act.put, List.setIfInBounds_toArray, List.set_cons_zero, List.set_cons_succ]
          refine wpAnyH_ready (rs := [6]) (by kernel_rfl) (by simp) ?_
          refine AllReadyH.cons (o := ?_) ?_ (fun K hK => ?_) AllReadyH.nil
          rotate_left 1
          · (simp only [List.getElem?_toArray, List.getElem?_cons_succ, List.getElem?_cons_zero]; rfl)
          · (refine step_app (base := W2.heap.size) (xs := []) (news := volCells (volVs R.vols)) rfl (.tmp 13) (.tmp 17) 42 rfl rfl Try.underlying42 infoV24 (by rfl) (by omega) (by omega) (by simp [Act.eval, Act.put]) (by simp [Act.eval, Act.put]) (own_zero HZLZB.out HLLZ.out) (HSP.out.chg HCLZB.out (by simp)) (by omega) HCLZB.out.size ?_; intro vaLZBA VLZBA hownLZBA hgLZBA; rw [Nat.zero_add, List.nil_append] at hownLZBA; have hstLZBA : Chg [V.heap.size] VLZB VLZBA := (Chg.refl _ VLZB).grown hgLZBA (fun k hk => .inl (by rw [← (show V.heap.size = k from Option.some.inj hk)]; simp)); have HBLZBA := Lib.hid ((hstLZBA.block _ (heap_lt HBLZB.out) (by simp only [List.mem_singleton]; exact blk_ne HZLZB.out HBLZB.out (by simp))).trans HBLZB.out); have HCLZBA := Lib.hid (HCLZB.out.then hstLZBA (fun q hq => .inr (by simp only [List.mem_singleton] at hq; rw [hq]; exact HLLZ.out))); have HALZBA := Lib.hid hownLZBA; clear hownLZBA hgLZBA hstLZBA)
            refine hK.out _ _ ?_ (fun hHeld => ?_)
            · exact (HCLZBA.out.cell (p := ⟨p, 1, none⟩) hlp (by simp)).trans m1
            clear hK K
            try simp only [Act.put, List.setIfInBounds_toArray, List.set_cons_zero, List.set_cons_succ]
            refine wpAnyH_ready (rs := [14]) (by kernel_rfl) (by simp) ?_
            refine AllReadyH.cons (o := ?_) ?_ (fun K hK => ?_) AllReadyH.nil
            rotate_left 1
            · (simp only [List.getElem?_toArray, List.getElem?_cons_succ, List.getElem?_cons_zero]; rfl)
            · (refine step_app (base := W2.heap.size) (news := [.int .u64 (la : Int), .slice pa k pk]) rfl (.tmp 18) (.tmp 25) 42 rfl rfl Try.underlying42 infoV24 (by rfl) (by omega) (by omega) (by simp [Act.eval, Act.put]) (by simp [Act.eval, Act.put]) HALZBA.out (AppSrc.blk2 HBLZBA.out rfl rfl) (by omega) HCLZBA.out.size ?_; intro vaLZBAAB VLZBAAB hownLZBAAB hgLZBAAB; have HCLZBAAB := Lib.hid (HCLZBA.out.grown hgLZBAAB (fun k hk => .inr (HALZBA.out.lt k hk).1)); obtain ⟨axLZBAAB, cxLZBAAB, hvxLZBAAB, _, _⟩ := ownRow_slice hownLZBAAB; subst hvxLZBAAB; have HALZBAAB := Lib.hid hownLZBAAB; clear hownLZBAAB hgLZBAAB)
              refine hK.out _ _ ?_ (fun hHeld => ?_)
              · exact (HCLZBAAB.out.cell (p := ⟨p, 1, none⟩) hlp (by simp)).trans m1
              clear hK K
              try simp only [Act.put, List.setIfInBounds_toArray, List.set_cons_zero, List.set_cons_succ]
              refine wpAnyH_take (i := 15) (oi := ?_) (v := ?_) ?_ (by kernel_rfl) (by kernel_rfl) (by kernel_rfl) ?_ (Or.inl ⟨?_, ?_⟩) hHeld ?_
              rotate_left 2
              · (simp only [List.getElem?_toArray, List.getElem?_cons_succ, List.getElem?_cons_zero]; rfl)
              · exact fun _ _ _ h => h
              · rfl
              · (rintro W' s1; go_simp; first | done | with_reducible rfl)
              try simp only [Act.put, List.setIfInBounds_toArray, List.set_cons_zero, List.set_cons_succ]
              refine wpAnyH_take (i := 16) (oi := ?_) (v := ?_) ?_ (by kernel_rfl) (by kernel_rfl) (by kernel_rfl) ?_ (Or.inl ⟨?_, ?_⟩) hHeld ?_
              rotate_left 2
              · (simp only [List.getElem?_toArray, List.getElem?_cons_succ, List.getElem?_cons_zero]; rfl)
              · exact fun _ _ _ h => h
              · rfl
              · (rintro W' s1; go_simp; first | done | with_reducible rfl)
              try simp only [Act.put, List.setIfInBounds_toArray, List.set_cons_zero, List.set_cons_succ]
              refine wpAnyH_ready (rs := [17]) (by kernel_rfl) (by simp) ?_
              refine AllReadyH.cons (o := ?_) ?_ (fun K hK => ?_) AllReadyH.nil
              rotate_left 1
              · (simp only [List.getElem?_toArray, List.getElem?_cons_succ, List.getElem?_cons_zero]; rfl)
              · (have hz := (HCLZBAAB.out.block _ (heap_lt HPP.out) (by simp)).trans HPP.out; have zf0 := frozen_of_block hz 0; have z0 := cell_of_block hz 0; have zf1 := frozen_of_block hz 1; have z1 := cell_of_block hz 1; have zf2 := frozen_of_block hz 2; have z2 := cell_of_block hz 2; simp only [List.getElem?_toArray, List.getElem?_cons_zero, List.getElem?_cons_succ] at z0 z1 z2; go_simp; have h2 := setCell_block hz 2 (.slice axLZBAAB (n + 1) cxLZBAAB); have HZ2 := Lib.hid h2; have HCs := Lib.hid (((Chg.refl [p] W2).then HCLZBAAB.out (by simp)).setCell (p := ⟨p, 2, none⟩) (.inl (by simp)) (.slice axLZBAAB (n + 1) cxLZBAAB)); have HAs := Lib.hid (ownRow_block (w' := VLZBAAB.setCell ⟨p, 2, none⟩ (.slice axLZBAAB (n + 1) cxLZBAAB)) HALZBAAB.out (fun g hg => setCell_other 2 (.slice axLZBAAB (n + 1) cxLZBAAB) (by have := (HALZBAAB.out.lt g hg).1; omega))); clear h2 hz zf0 z0 zf1 z1 zf2 z2; generalize VLZBAAB.setCell _ _ = VS at *)
                refine hK.out _ _ ?_ (fun hHeld => ?_)
                · (have q1 := cell_of_block HZ2.out 1; exact q1)
                clear hK K
                try simp only [Act.put, List.setIfInBounds_toArray, List.set_cons_zero, List.set_cons_succ]
                refine wpAnyH_done (by kernel_rfl) ?_ _
                go_wp2_with fail
                go_meet
                exact ⟨_, _, HZ2.out, HAs.out, HCs.out⟩
      refine AllReadyH.cons (o := ?_) ?_ (fun K hK => ?_) AllReadyH.nil
      rotate_left 1
      · (simp only [List.getElem?_toArray, List.getElem?_cons_succ, List.getElem?_cons_zero]; rfl)
      · (go_simp; have hstLB := (Chg.refl [] V).alloc (.cells #[.int .u64 (la : Int), .slice pa k pk] 52); have hnbLB := new_block V (.cells #[.int .u64 (la : Int), .slice pa k pk] 52); have HBLB := Lib.hid hnbLB; have HCLB := Lib.hid (HCL.out.trans hstLB); have HLLB := Lib.hid (HCL.out.size); clear hnbLB hstLB; generalize V.alloc (.cells #[.int .u64 (la : Int), .slice pa k pk] 52) = VLB at *)
        refine hK.out _ _ ?_ (fun hHeld => ?_)
        · exact (HCLB.out.cell (p := ⟨p, 1, none⟩) hlp (by simp)).trans m1
        clear hK K
        try simp only [Act.put, List.setIfInBounds_toArray, List.set_cons_zero, List.set_cons_succ]
        refine wpAnyH_ready (rs := [1]) (by kernel_rfl) (by simp) ?_
        refine AllReadyH.cons (o := ?_) ?_ (fun K hK => ?_) AllReadyH.nil
        rotate_left 1
        · (simp only [List.getElem?_toArray, List.getElem?_cons_succ, List.getElem?_cons_zero]; rfl)
        · (go_simp; have hstLBZ := (Chg.refl [] VLB).alloc (.cells #[] 52); have hnbLBZ := new_block VLB (.cells #[] 52); have HBLBZ := Lib.hid ((hstLBZ.block _ (heap_lt HBLB.out) (by simp)).trans HBLB.out); have HZLBZ := Lib.hid hnbLBZ; have HCLBZ := Lib.hid (HCLB.out.trans hstLBZ); have HLLBZ := Lib.hid (HCLB.out.size); clear hnbLBZ hstLBZ; generalize VLB.alloc (.cells #[] 52) = VLBZ at *)
          refine hK.out _ _ ?_ (fun hHeld => ?_)
          · exact (HCLBZ.out.cell (p := ⟨p, 1, none⟩) hlp (by simp)).trans m1
          clear hK K
          try simp only [Act.put, List.setIfInBounds_toArray, List.set_cons_zero, List.set_cons_succ]
          refine wpAnyH_ready (rs := [6]) (by kernel_rfl) (by simp) ?_
          refine AllReadyH.cons (o := ?_) ?_ (fun K hK => ?_) AllReadyH.nil
          rotate_left 1
          · (simp only [List.getElem?_toArray, List.getElem?_cons_succ, List.getElem?_cons_zero]; rfl)
          · (refine step_app (base := W2.heap.size) (xs := []) (news := volCells (volVs R.vols)) rfl (.tmp 13) (.tmp 17) 42 rfl rfl Try.underlying42 infoV24 (by rfl) (by omega) (by omega) (by simp [Act.eval, Act.put]) (by simp [Act.eval, Act.put]) (own_zero HZLBZ.out HLLBZ.out) (HSP.out.chg HCLBZ.out (by simp)) (by omega) HCLBZ.out.size ?_; intro vaLBZA VLBZA hownLBZA hgLBZA; rw [Nat.zero_add, List.nil_append] at hownLBZA; have hstLBZA : Chg [VLB.heap.size] VLBZ VLBZA := (Chg.refl _ VLBZ).grown hgLBZA (fun k hk => .inl (by rw [← (show VLB.heap.size = k from Option.some.inj hk)]; simp)); have HBLBZA := Lib.hid ((hstLBZA.block _ (heap_lt HBLBZ.out) (by simp only [List.mem_singleton]; exact blk_ne HZLBZ.out HBLBZ.out (by simp))).trans HBLBZ.out); have HCLBZA := Lib.hid (HCLBZ.out.then hstLBZA (fun q hq => .inr (by simp only [List.mem_singleton] at hq; rw [hq]; exact HLLBZ.out))); have HALBZA := Lib.hid hownLBZA; clear hownLBZA hgLBZA hstLBZA)
            refine hK.out _ _ ?_ (fun hHeld => ?_)
            · exact (HCLBZA.out.cell (p := ⟨p, 1, none⟩) hlp (by simp)).trans m1
            clear hK K
            try simp only [Act.put, List.setIfInBounds_toArray, List.set_cons_zero, List.set_cons_succ]
            refine wpAnyH_ready (rs := [14]) (by kernel_rfl) (by simp) ?_
            refine AllReadyH.cons (o := ?_) ?_ (fun K hK => ?_) AllReadyH.nil
            rotate_left 1
            · (simp only [List.getElem?_toArray, List.getElem?_cons_succ, List.getElem?_cons_zero]; rfl)
            · (refine step_app (base := W2.heap.size) (news := [.int .u64 (la : Int), .slice pa k pk]) rfl (.tmp 18) (.tmp 25) 42 rfl rfl Try.underlying42 infoV24 (by rfl) (by omega) (by omega) (by simp [Act.eval, Act.put]) (by simp [Act.eval, Act.put]) HALBZA.out (AppSrc.blk2 HBLBZA.out rfl rfl) (by omega) HCLBZA.out.size ?_; intro vaLBZAAB VLBZAAB hownLBZAAB hgLBZAAB; have HCLBZAAB := Lib.hid (HCLBZA.out.grown hgLBZAAB (fun k hk => .inr (HALBZA.out.lt k hk).1)); obtain ⟨axLBZAAB, cxLBZAAB, hvxLBZAAB, _, _⟩ := ownRow_slice hownLBZAAB; subst hvxLBZAAB; have HALBZAAB := Lib.hid hownLBZAAB; clear hownLBZAAB hgLBZAAB)
              refine hK.out _ _ ?_ (fun hHeld => ?_)
              · exact (HCLBZAAB.out.cell (p := ⟨p, 1, none⟩) hlp (by simp)).trans m1
              clear hK K
              try simp only [Act.put, List.setIfInBounds_toArray, List.set_cons_zero, List.set_cons_succ]
              refine wpAnyH_take (i := 15) (oi := ?_) (v := ?_) ?_ (by kernel_rfl) (by kernel_rfl) (by kernel_rfl) ?_ (Or.inl ⟨?_, ?_⟩) hHeld ?_
              rotate_left 2
              · (simp only [List.getElem?_toArray, List.getElem?_cons_succ, List.getElem?_cons_zero]; rfl)
              · exact fun _ _ _ h => h
              · rfl
              · (rintro W' s1; go_simp; first | done | with_reducible rfl)
              try simp only [Act.put, List.setIfInBounds_toArray, List.set_cons_zero, List.set_cons_succ]
              refine wpAnyH_take (i := 16) (oi := ?_) (v := ?_) ?_ (by kernel_rfl) (by kernel_rfl) (by kernel_rfl) ?_ (Or.inl ⟨?_, ?_⟩) hHeld ?_
              rotate_left 2
              · (simp only [List.getElem?_toArray, List.getElem?_cons_succ, List.getElem?_cons_zero]; rfl)
              · exact fun _ _ _ h => h
              · rfl
              · (rintro W' s1; go_simp; first | done | with_reducible rfl)
              try simp only [Act.put, List.setIfInBounds_toArray, List.set_cons_zero, List.set_cons_succ]
              refine wpAnyH_ready (rs := [17]) (by kernel_rfl) (by simp) ?_
              refine AllReadyH.cons (o := ?_) ?_ (fun K hK => ?_) AllReadyH.nil
              rotate_left 1
              · (simp only [List.getElem?_toArray, List.getElem?_cons_succ, List.getElem?_cons_zero]; rfl)
              · (have hz := (HCLBZAAB.out.block _ (heap_lt HPP.out) (by simp)).trans HPP.out; have zf0 := frozen_of_block hz 0; have z0 := cell_of_block hz 0; have zf1 := frozen_of_block hz 1; have z1 := cell_of_block hz 1; have zf2 := frozen_of_block hz 2; have z2 := cell_of_block hz 2; simp only [List.getElem?_toArray, List.getElem?_cons_zero, List.getElem?_cons_succ] at z0 z1 z2; go_simp; have h2 := setCell_block hz 2 (.slice axLBZAAB (n + 1) cxLBZAAB); have HZ2 := Lib.hid h2; have HCs := Lib.hid (((Chg.refl [p] W2).then HCLBZAAB.out (by simp)).setCell (p := ⟨p, 2, none⟩) (.inl (by simp)) (.slice axLBZAAB (n + 1) cxLBZAAB)); have HAs := Lib.hid (ownRow_block (w' := VLBZAAB.setCell ⟨p, 2, none⟩ (.slice axLBZAAB (n + 1) cxLBZAAB)) HALBZAAB.out (fun g hg => setCell_other 2 (.slice axLBZAAB (n + 1) cxLBZAAB) (by have := (HALBZAAB.out.lt g hg).1; omega))); clear h2 hz zf0 z0 zf1 z1 zf2 z2; generalize VLBZAAB.setCell _ _ = VS at *)
                refine hK.out _ _ ?_ (fun hHeld => ?_)
                · (have q1 := cell_of_block HZ2.out 1; exact q1)
                clear hK K
                try simp only [Act.put, List.setIfInBounds_toArray, List.set_cons_zero, List.set_cons_succ]
                refine wpAnyH_done (by kernel_rfl) ?_ _
                go_wp2_with fail
                go_meet
                exact ⟨_, _, HZ2.out, HAs.out, HCs.out⟩
    refine AllReadyH.cons (o := ?_) ?_ (fun K hK => ?_) AllReadyH.nil
    rotate_left 1
    · (simp only [List.getElem?_toArray, List.getElem?_cons_succ, List.getElem?_cons_zero]; rfl)
    · (go_simp; have hstB := (Chg.refl [] V).alloc (.cells #[.int .u64 (la : Int), .slice pa k pk] 52); have hnbB := new_block V (.cells #[.int .u64 (la : Int), .slice pa k pk] 52); have HBB := Lib.hid hnbB; have HCB := Lib.hid (HC0.out.trans hstB); have HLB := Lib.hid (HC0.out.size); clear hnbB hstB; generalize V.alloc (.cells #[.int .u64 (la : Int), .slice pa k pk] 52) = VB at *)
      refine hK.out _ _ ?_ (fun hHeld => ?_)
      · exact (HCB.out.cell (p := ⟨p, 1, none⟩) hlp (by simp)).trans m1
      clear hK K
      try simp only [Act.put, List.setIfInBounds_toArray, List.set_cons_zero, List.set_cons_succ]
      refine wpAnyH_ready (rs := [1, 5]) (by kernel_rfl) (by simp) ?_
      refine AllReadyH.cons (o := ?_) ?_ (fun K hK => ?_) ?_
      rotate_left 1
      · (simp only [List.getElem?_toArray, List.getElem?_cons_succ, List.getElem?_cons_zero]; rfl)
      · (go_simp; have hstBZ := (Chg.refl [] VB).alloc (.cells #[] 52); have hnbBZ := new_block VB (.cells #[] 52); have HBBZ := Lib.hid ((hstBZ.block _ (heap_lt HBB.out) (by simp)).trans HBB.out); have HZBZ := Lib.hid hnbBZ; have HCBZ := Lib.hid (HCB.out.trans hstBZ); have HLBZ := Lib.hid (HCB.out.size); clear hnbBZ hstBZ; generalize VB.alloc (.cells #[] 52) = VBZ at *)
        refine hK.out _ _ ?_ (fun hHeld => ?_)
        · exact (HCBZ.out.cell (p := ⟨p, 1, none⟩) hlp (by simp)).trans m1
        clear hK K
        try simp only [Act.put, List.setIfInBounds_toArray, List.set_cons_zero, List.set_cons_succ]
        refine wpAnyH_ready (rs := [5]) (by kernel_rfl) (by simp) ?_
        refine AllReadyH.cons (o := ?_) ?_ (fun K hK => ?_) AllReadyH.nil
        rotate_left 1
        · (simp only [List.getElem?_toArray, List.getElem?_cons_succ, List.getElem?_cons_zero]; rfl)
        · (have hlBZL := (HCBZ.out.cell (p := ⟨p, 2, none⟩) hlp (by simp)).trans m2; go_simp; clear hlBZL; have HCBZL := HCBZ)
          refine hK.out _ _ ?_ (fun hHeld => ?_)
          · exact (HCBZL.out.cell (p := ⟨p, 1, none⟩) hlp (by simp)).trans m1
          clear hK K
          try simp only [Act.put, List.setIfInBounds_toArray, List.set_cons_zero, List.set_cons_succ]
          refine wpAnyH_ready (rs := [6]) (by kernel_rfl) (by simp) ?_
          refine AllReadyH.cons (o := ?_) ?_ (fun K hK => ?_) AllReadyH.nil
          rotate_left 1
          · (simp only [List.getElem?_toArray, List.getElem?_cons_succ, List.getElem?_cons_zero]; rfl)
          · (refine step_app (base := W2.heap.size) (xs := []) (news := volCells (volVs R.vols)) rfl (.tmp 13) (.tmp 17) 42 rfl rfl Try.underlying42 infoV24 (by rfl) (by omega) (by omega) (by simp [Act.eval, Act.put]) (by simp [Act.eval, Act.put]) (own_zero HZBZ.out HLBZ.out) (HSP.out.chg HCBZL.out (by simp)) (by omega) HCBZL.out.size ?_; intro vaBZLA VBZLA hownBZLA hgBZLA; rw [Nat.zero_add, List.nil_append] at hownBZLA; have hstBZLA : Chg [VB.heap.size] VBZ VBZLA := (Chg.refl _ VBZ).grown hgBZLA (fun k hk => .inl (by rw [← (show VB.heap.size = k from Option.some.inj hk)]; simp)); have HBBZLA := Lib.hid ((hstBZLA.block _ (heap_lt HBBZ.out) (by simp only [List.mem_singleton]; exact blk_ne HZBZ.out HBBZ.out (by simp))).trans HBBZ.out); have HCBZLA := Lib.hid (HCBZL.out.then hstBZLA (fun q hq => .inr (by simp only [List.mem_singleton] at hq; rw [hq]; exact HLBZ.out))); have HABZLA := Lib.hid hownBZLA; clear hownBZLA hgBZLA hstBZLA)
            refine hK.out _ _ ?_ (fun hHeld => ?_)
            · exact (HCBZLA.out.cell (p := ⟨p, 1, none⟩) hlp (by simp)).trans m1
            clear hK K
            try simp only [Act.put, List.setIfInBounds_toArray, List.set_cons_zero, List.set_cons_succ]
            refine wpAnyH_ready (rs := [14]) (by kernel_rfl) (by simp) ?_
            refine AllReadyH.cons (o := ?_) ?_ (fun K hK => ?_) AllReadyH.nil
            rotate_left 1
            · (simp only [List.getElem?_toArray, List.getElem?_cons_succ, List.getElem?_cons_zero]; rfl)
            · (refine step_app (base := W2.heap.size) (news := [.int .u64 (la : Int), .slice pa k pk]) rfl (.tmp 18) (.tmp 25) 42 rfl rfl Try.underlying42 infoV24 (by rfl) (by omega) (by omega) (by simp [Act.eval, Act.put]) (by simp [Act.eval, Act.put]) HABZLA.out (AppSrc.blk2 HBBZLA.out rfl rfl) (by omega) HCBZLA.out.size ?_; intro vaBZLAAB VBZLAAB hownBZLAAB hgBZLAAB; have HCBZLAAB := Lib.hid (HCBZLA.out.grown hgBZLAAB (fun k hk => .inr (HABZLA.out.lt k hk).1)); obtain ⟨axBZLAAB, cxBZLAAB, hvxBZLAAB, _, _⟩ := ownRow_slice hownBZLAAB; subst hvxBZLAAB; have HABZLAAB := Lib.hid hownBZLAAB; clear hownBZLAAB hgBZLAAB)
              refine hK.out _ _ ?_ (fun hHeld => ?_)
              · exact (HCBZLAAB.out.cell (p := ⟨p, 1, none⟩) hlp (by simp)).trans m1
              clear hK K
              try simp only [Act.put, List.setIfInBounds_toArray, List.set_cons_zero, List.set_cons_succ]
              refine wpAnyH_take (i := 15) (oi := ?_) (v := ?_) ?_ (by kernel_rfl) (by kernel_rfl) (by kernel_rfl) ?_ (Or.inl ⟨?_, ?_⟩) hHeld ?_
              rotate_left 2
              · (simp only [List.getElem?_toArray, List.getElem?_cons_succ, List.getElem?_cons_zero]; rfl)
              · exact fun _ _ _ h => h
              · rfl
              · (rintro W' s1; go_simp; first | done | with_reducible rfl)
              try simp only [Act.put, List.setIfInBounds_toArray, List.set_cons_zero, List.set_cons_succ]
              refine wpAnyH_take (i := 16) (oi := ?_) (v := ?_) ?_ (by kernel_rfl) (by kernel_rfl) (by kernel_rfl) ?_ (Or.inl ⟨?_, ?_⟩) hHeld ?_
              rotate_left 2
              · (simp only [List.getElem?_toArray, List.getElem?_cons_succ, List.getElem?_cons_zero]; rfl)
              · exact fun _ _ _ h => h
              · rfl
              · (rintro W' s1; go_simp; first | done | with_reducible rfl)
              try simp only [Act.put, List.setIfInBounds_toArray, List.set_cons_zero, List.set_cons_succ]
              refine wpAnyH_ready (rs := [17]) (by kernel_rfl) (by simp) ?_
              refine AllReadyH.cons (o := ?_) ?_ (fun K hK => ?_) AllReadyH.nil
              rotate_left 1
              · (simp only [List.getElem?_toArray, List.getElem?_cons_succ, List.getElem?_cons_zero]; rfl)
              · (have hz := (HCBZLAAB.out.block _ (heap_lt HPP.out) (by simp)).trans HPP.out; have zf0 := frozen_of_block hz 0; have z0 := cell_of_block hz 0; have zf1 := frozen_of_block hz 1; have z1 := cell_of_block hz 1; have zf2 := frozen_of_block hz 2; have z2 := cell_of_block hz 2; simp only [List.getElem?_toArray, List.getElem?_cons_zero, List.getElem?_cons_succ] at z0 z1 z2; go_simp; have h2 := setCell_block hz 2 (.slice axBZLAAB (n + 1) cxBZLAAB); have HZ2 := Lib.hid h2; have HCs := Lib.hid (((Chg.refl [p] W2).then HCBZLAAB.out (by simp)).setCell (p := ⟨p, 2, none⟩) (.inl (by simp)) (.slice axBZLAAB (n + 1) cxBZLAAB)); have HAs := Lib.hid (ownRow_block (w' := VBZLAAB.setCell ⟨p, 2, none⟩ (.slice axBZLAAB (n + 1) cxBZLAAB)) HABZLAAB.out (fun g hg => setCell_other 2 (.slice axBZLAAB (n + 1) cxBZLAAB) (by have := (HABZLAAB.out.lt g hg).1; omega))); clear h2 hz zf0 z0 zf1 z1 zf2 z2; generalize VBZLAAB.setCell _ _ = VS at *)
                refine hK.out _ _ ?_ (fun hHeld => ?_)
                · (have q1 := cell_of_block HZ2.out 1; exact q1)
                clear hK K
                try simp only [Act.put, List.setIfInBounds_toArray, List.set_cons_zero, List.set_cons_succ]
                refine wpAnyH_done (by kernel_rfl) ?_ _
                go_wp2_with fail
                go_meet
                exact ⟨_, _, HZ2.out, HAs.out, HCs.out⟩
      refine AllReadyH.cons (o := ?_) ?_ (fun K hK => ?_) AllReadyH.nil
      rotate_left 1
      · (simp only [List.getElem?_toArray, List.getElem?_cons_succ, List.getElem?_cons_zero]; rfl)
      · (have hlBL := (HCB.out.cell (p := ⟨p, 2, none⟩) hlp (by simp)).trans m2; go_simp; clear hlBL; have HCBL := HCB)
        refine hK.out _ _ ?_ (fun hHeld => ?_)
        · exact (HCBL.out.cell (p := ⟨p, 1, none⟩) hlp (by simp)).trans m1
        clear hK K
        try simp only [Act.put, List.setIfInBounds_toArray, List.set_cons_zero, List.set_cons_succ]
        refine wpAnyH_ready (rs := [1]) (by kernel_rfl) (by simp) ?_
        refine AllReadyH.cons (o := ?_) ?_ (fun K hK => ?_) AllReadyH.nil
        rotate_left 1
        · (simp only [List.getElem?_toArray, List.getElem?_cons_succ, List.getElem?_cons_zero]; rfl)
        · (go_simp; have hstBLZ := (Chg.refl [] VB).alloc (.cells #[] 52); have hnbBLZ := new_block VB (.cells #[] 52); have HBBLZ := Lib.hid ((hstBLZ.block _ (heap_lt HBB.out) (by simp)).trans HBB.out); have HZBLZ := Lib.hid hnbBLZ; have HCBLZ := Lib.hid (HCBL.out.trans hstBLZ); have HLBLZ := Lib.hid (HCBL.out.size); clear hnbBLZ hstBLZ; generalize VB.alloc (.cells #[] 52) = VBLZ at *)
          refine hK.out _ _ ?_ (fun hHeld => ?_)
          · exact (HCBLZ.out.cell (p := ⟨p, 1, none⟩) hlp (by simp)).trans m1
          clear hK K
          try simp only [Act.put, List.setIfInBounds_toArray, List.set_cons_zero, List.set_cons_succ]
          refine wpAnyH_ready (rs := [6]) (by kernel_rfl) (by simp) ?_
          refine AllReadyH.cons (o := ?_) ?_ (fun K hK => ?_) AllReadyH.nil
          rotate_left 1
          · (simp only [List.getElem?_toArray, List.getElem?_cons_succ, List.getElem?_cons_zero]; rfl)
          · (refine step_app (base := W2.heap.size) (xs := []) (news := volCells (volVs R.vols)) rfl (.tmp 13) (.tmp 17) 42 rfl rfl Try.underlying42 infoV24 (by rfl) (by omega) (by omega) (by simp [Act.eval, Act.put]) (by simp [Act.eval, Act.put]) (own_zero HZBLZ.out HLBLZ.out) (HSP.out.chg HCBLZ.out (by simp)) (by omega) HCBLZ.out.size ?_; intro vaBLZA VBLZA hownBLZA hgBLZA; rw [Nat.zero_add, List.nil_append] at hownBLZA; have hstBLZA : Chg [VB.heap.size] VBLZ VBLZA := (Chg.refl _ VBLZ).grown hgBLZA (fun k hk => .inl (by rw [← (show VB.heap.size = k from Option.some.inj hk)]; simp)); have HBBLZA := Lib.hid ((hstBLZA.block _ (heap_lt HBBLZ.out) (by simp only [List.mem_singleton]; exact blk_ne HZBLZ.out HBBLZ.out (by simp))).trans HBBLZ.out); have HCBLZA := Lib.hid (HCBLZ.out.then hstBLZA (fun q hq => .inr (by simp only [List.mem_singleton] at hq; rw [hq]; exact HLBLZ.out))); have HABLZA := Lib.hid hownBLZA; clear hownBLZA hgBLZA hstBLZA)
            refine hK.out _ _ ?_ (fun hHeld => ?_)
            · exact (HCBLZA.out.cell (p := ⟨p, 1, none⟩) hlp (by simp)).trans m1
            clear hK K
            try simp only [Act.put, List.setIfInBounds_toArray, List.set_cons_zero, List.set_cons_succ]
            refine wpAnyH_ready (rs := [14]) (by kernel_rfl) (by simp) ?_
            refine AllReadyH.cons (o := ?_) ?_ (fun K hK => ?_) AllReadyH.nil
            rotate_left 1
            · (simp only [List.getElem?_toArray, List.getElem?_cons_succ, List.getElem?_cons_zero]; rfl)
            · (refine step_app (base := W2.heap.size) (news := [.int .u64 (la : Int), .slice pa k pk]) rfl (.tmp 18) (.tmp 25) 42 rfl rfl Try.underlying42 infoV24 (by rfl) (by omega) (by omega) (by simp [Act.eval, Act.put]) (by simp [Act.eval, Act.put]) HABLZA.out (AppSrc.blk2 HBBLZA.out rfl rfl) (by omega) HCBLZA.out.size ?_; intro vaBLZAAB VBLZAAB hownBLZAAB hgBLZAAB; have HCBLZAAB := Lib.hid (HCBLZA.out.grown hgBLZAAB (fun k hk => .inr (HABLZA.out.lt k hk).1)); obtain ⟨axBLZAAB, cxBLZAAB, hvxBLZAAB, _, _⟩ := ownRow_slice hownBLZAAB; subst hvxBLZAAB; have HABLZAAB := Lib.hid hownBLZAAB; clear hownBLZAAB hgBLZAAB)
              refine hK.out _ _ ?_ (fun hHeld => ?_)
              · exact (HCBLZAAB.out.cell (p := ⟨p, 1, none⟩) hlp (by simp)).trans m1
              clear hK K
              try simp only [Act.put, List.setIfInBounds_toArray, List.set_cons_zero, List.set_cons_succ]
              refine wpAnyH_take (i := 15) (oi := ?_) (v := ?_) ?_ (by kernel_rfl) (by kernel_rfl) (by kernel_rfl) ?_ (Or.inl ⟨?_, ?_⟩) hHeld ?_
              rotate_left 2
              · (simp only [List.getElem?_toArray, List.getElem?_cons_succ, List.getElem?_cons_zero]; rfl)
              · exact fun _ _ _ h => h
              · rfl
              · (rintro W' s1; go_simp; first | done | with_reducible rfl)
              try simp only [Act.put, List.setIfInBounds_toArray, List.set_cons_zero, List.set_cons_succ]
              refine wpAnyH_take (i := 16) (oi := ?_) (v := ?_) ?_ (by kernel_rfl) (by kernel_rfl) (by kernel_rfl) ?_ (Or.inl ⟨?_, ?_⟩) hHeld ?_
              rotate_left 2
              · (simp only [List.getElem?_toArray, List.getElem?_cons_succ, List.getElem?_cons_zero]; rfl)
              · exact fun _ _ _ h => h
              · rfl
              · (rintro W' s1; go_simp; first | done | with_reducible rfl)
              try simp only [Act.put, List.setIfInBounds_toArray, List.set_cons_zero, List.set_cons_succ]
              refine wpAnyH_ready (rs := [17]) (by kernel_rfl) (by simp) ?_
              refine AllReadyH.cons (o := ?_) ?_ (fun K hK => ?_) AllReadyH.nil
              rotate_left 1
              · (simp only [List.getElem?_toArray, List.getElem?_cons_succ, List.getElem?_cons_zero]; rfl)
              · (have hz := (HCBLZAAB.out.block _ (heap_lt HPP.out) (by simp)).trans HPP.out; have zf0 := frozen_of_block hz 0; have z0 := cell_of_block hz 0; have zf1 := frozen_of_block hz 1; have z1 := cell_of_block hz 1; have zf2 := frozen_of_block hz 2; have z2 := cell_of_block hz 2; simp only [List.getElem?_toArray, List.getElem?_cons_zero, List.getElem?_cons_succ] at z0 z1 z2; go_simp; have h2 := setCell_block hz 2 (.slice axBLZAAB (n + 1) cxBLZAAB); have HZ2 := Lib.hid h2; have HCs := Lib.hid (((Chg.refl [p] W2).then HCBLZAAB.out (by simp)).setCell (p := ⟨p, 2, none⟩) (.inl (by simp)) (.slice axBLZAAB (n + 1) cxBLZAAB)); have HAs := Lib.hid (ownRow_block (w' := VBLZAAB.setCell ⟨p, 2, none⟩ (.slice axBLZAAB (n + 1) cxBLZAAB)) HABLZAAB.out (fun g hg => setCell_other 2 (.slice axBLZAAB (n + 1) cxBLZAAB) (by have := (HABLZAAB.out.lt g hg).1; omega))); clear h2 hz zf0 z0 zf1 z1 zf2 z2; generalize VBLZAAB.setCell _ _ = VS at *)
                refine hK.out _ _ ?_ (fun hHeld => ?_)
                · (have q1 := cell_of_block HZ2.out 1; exact q1)
                clear hK K
                try simp only [Act.put, List.setIfInBounds_toArray, List.set_cons_zero, List.set_cons_succ]
                refine wpAnyH_done (by kernel_rfl) ?_ _
                go_wp2_with fail
                go_meet
                exact ⟨_, _, HZ2.out, HAs.out, HCs.out⟩
  case rest =>
    obtain ⟨ax, cx, hq, hown, hch⟩ := hcut.out
    rename World => W4
    have HNO := Lib.hid hown
    have HNQ := Lib.hid hq
    have HCw : Hid (Chg [p] w W4) := Lib.hid (HC2.out.then hch (fun q hq => .inl hq))
    have HC4 := Lib.hid hch
    have hb := (hch.block b4 l4 (by simp [hn4])).trans HB4.out
    have HBB4 := Lib.hid hb
    clear hcut hown hch y0 y1 y2 y3 m0 m1 m2
    have m0 := cell_of_block hq 0
    have m1 := cell_of_block hq 1
    have m2 := cell_of_block hq 2
    simp only [List.getElem?_toArray, List.getElem?_cons_zero, List.getElem?_cons_succ] at m0 m1 m2
    have y0 := cell_of_block hb 0
    have y1 := cell_of_block hb 1
    have y2 := cell_of_block hb 2
    have y3 := cell_of_block hb 3
    simp only [List.getElem?_toArray, List.getElem?_cons_zero, List.getElem?_cons_succ] at y0 y1 y2 y3
    have f0 := frozen_of_block hb 0
    have f1 := frozen_of_block hb 1
    have f2 := frozen_of_block hb 2
    have f3 := frozen_of_block hb 3
    clear hq hb
    go_wp2_with fail
    have h4 : ((((W4.setCell ⟨b4, 0, none⟩ (.int .i64 0)).setCell ⟨b4, 1, none⟩ (.int .u64 (la : Int))).setCell ⟨b4, 2, none⟩ (.slice none 0 0)).setCell ⟨b4, 3, none⟩ (.int .i64 0)).heap[b4]? = some (.cells #[.int .i64 0, .int .u64 (la : Int), .slice none 0 0, .int .i64 0] 32 (0, 0)) := setCell_block (setCell_block (setCell_block (setCell_block HBB4.out 0 (.int .i64 0)) 1 (.int .u64 (la : Int))) 2 (.slice none 0 0)) 3 (.int .i64 0)
    have hC5 : Chg [b4] W4 ((((W4.setCell ⟨b4, 0, none⟩ (.int .i64 0)).setCell ⟨b4, 1, none⟩ (.int .u64 (la : Int))).setCell ⟨b4, 2, none⟩ (.slice none 0 0)).setCell ⟨b4, 3, none⟩ (.int .i64 0)) := ((((Chg.refl [b4] W4).setCell (.inl (by simp)) _).setCell (.inl (by simp)) _).setCell (.inl (by simp)) _).setCell (.inl (by simp)) _
    clear m0 m1 m2 y0 y1 y2 y3 f0 f1 f2 f3
    generalize (((W4.setCell ⟨b4, 0, none⟩ (.int .i64 0)).setCell ⟨b4, 1, none⟩ (.int .u64 (la : Int))).setCell ⟨b4, 2, none⟩ (.slice none 0 0)).setCell ⟨b4, 3, none⟩ (.int .i64 0) = W5 at *
    have z0 := cell_of_block h4 0
    have z1 := cell_of_block h4 1
    have z2 := cell_of_block h4 2
    have z3 := cell_of_block h4 3
    simp only [List.getElem?_toArray, List.getElem?_cons_zero, List.getElem?_cons_succ] at z0 z1 z2 z3
    obtain ⟨g, c, hax, hgc, _, hgb, hgl, _⟩ := ownRow_cells HNO.out (by omega)
    injection hax with e1 _ e3
    subst e1 e3
    have hlen : (R.vols ++ [(la, Value.slice pa k pk, ps)]).length = n + 1 := by rw [List.length_append, ← Hn.out]; rfl
    have hCh : Chg [p] w W5 := HCw.out.then hC5 (fun x hx => .inr (by simp only [List.mem_singleton] at hx; rw [hx, HN4.out]; exact Nat.le_refl _))
    have hb4l : b4 < W2.heap.size := l4
    have hg4 : g ≠ b4 := by omega
    refine bodyPost_ret (v := repV 0 la (.slice none 0 0) 0) (by simp [results, Try.results37, go_sem, repV, z0, z1, z2, z3]) rfl ⟨rfl, .slice (some ⟨g, 0, none⟩) (R.vols ++ [(la, Value.slice pa k pk, ps)]).length cx, g :: L, RefAt.again H.out hCh (fun b hb => by simp [hb]) ?_ ?_ (by simp) ?_ ?_ H.out.size (by have := HLA.out; omega) (by have := H.out.bv; rw [hlen, Hn.out]; omega), ?_, hCh⟩
    · rw [hlen]
      exact (hC5.block p (heap_lt HNQ.out) (by simp; omega)).trans HNQ.out
    · rw [hlen, volVs_app, volCells_app]
      exact ownRow_base (ownRow_chg HNO.out hC5 (fun b e => by have : g = b := Option.some.inj e; simp only [List.mem_singleton]; omega))
    · intro b hb
      have hs5 := hC5.size
      simp only [List.mem_cons] at hb
      rcases hb with rfl | hb
      · omega
      · have := H.out.lt b hb; have := HCw.out.size; omega
    · intro x hx
      rcases List.mem_append.1 hx with hx | hx
      · exact .inl hx
      · rw [List.mem_singleton.1 hx]
        have hp := HP.out.chg hCh (fun b e => by simp only [List.mem_singleton]; rintro rfl; exact row_ne (cs := []) HP.out.1 H.out.blk (by decide) e)
        exact .inr ⟨⟨hp.1, fun b e => List.mem_cons_of_mem _ (hp.2.1 b e), hp.2.2⟩, by have := HLA.out; omega, Nat.le_succ_of_le HPS.out⟩
    · intro b hb
      simp only [List.mem_cons] at hb
      rcases hb with rfl | hb
      · exact .inr (Nat.le_trans HC2.out.size hgb)
      · exact .inl hb

end Go.Proofs.Ytbejcmbdaoakbaa
