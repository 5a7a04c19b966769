/- The reference of layer 24: put. -/
import Derived.Test.YtbejcmbdaoakbaaRg2
namespace Go.Proofs.Ytbejcmbdaoakbaa
open Go.RowKit
set_option linter.unusedVariables false
set_option linter.unusedSimpArgs false

theorem blk_ne {W : World} {a b : Nat} {cs ds : Array Value} {e e' : TypeId} {f f' : Nat × Nat} (h1 : W.heap[a]? = some (.cells cs e f)) (h2 : W.heap[b]? = some (.cells ds e' f')) (h : cs.size ≠ ds.size) : b ≠ a := by
  rintro rfl
  rw [h1] at h2
  injection h2 with h2
  injection h2 with h2
  rw [h2] at h
  exact h rfl
theorem AppSrc.blk2 {W : World} {b : Nat} {x y : Value} {e : TypeId} (h : W.heap[b]? = some (.cells #[x, y] e (0, 0))) (hx : x.oneCell' = true) (hy : y.oneCell' = true) : AppSrc W 2 (.slice (some ⟨b, 0, none⟩) 1 1) 1 [x, y] :=
  AppSrc.blk h rfl (by intro u hu; simp only [List.mem_cons, List.not_mem_nil, or_false] at hu; rcases hu with rfl | rfl <;> assumption)
theorem AppSrc.blk1 {W : World} {b : Nat} {x : Value} {e : TypeId} (h : W.heap[b]? = some (.cells #[x] e (0, 0))) (hx : x.oneCell' = true) : AppSrc W 1 (.slice (some ⟨b, 0, none⟩) 1 1) 1 [x] :=
  AppSrc.blk h rfl (by intro u hu; simp only [List.mem_cons, List.not_mem_nil, or_false] at hu; rcases hu with rfl; assumption)
theorem own_zero {W : World} {base size b : Nat} {e : TypeId} (h : W.heap[b]? = some (.cells #[] e (0, 0))) (hb : base ≤ b) : W.ownsRow base e size (.slice (some ⟨b, 0, none⟩) 0 0) 0 [] :=
  ⟨by simp, .inr ⟨b, 0, #[], rfl, hb, h, Nat.zero_le _, by unfold maxLen; omega, by simp, by simp⟩⟩

theorem ownRow_base {W : World} {base size n : Nat} {e : TypeId} {v : Value} {xs : List Value} (h : W.ownsRow base e size v n xs) : W.ownsRow 0 e size v n xs := by
  refine ⟨h.1, ?_⟩
  rcases h.2 with h | ⟨g, c, cur, h1, h2, h3⟩
  · exact .inl h
  · exact .inr ⟨g, c, cur, h1, Nat.zero_le _, h3⟩
theorem volVs_set (l : List (Nat × Value × PutL)) (i : Nat) (x : Nat × Value × PutL) : volVs (l.set i x) = (volVs l).set i (x.1, x.2.1) := by unfold volVs; rw [List.map_set]
/-- The reference behind a put: another list of volumes. -/
theorem RefAt.again {L L' : List Nat} {B : Nat} {w w' : World} {p g c size last : Nat} {vv : Value} {R : RSt} {l : List (Nat × Value × PutL)} (h : RefAt L B w p vv R) (hc : Chg [p] w w') (hL : ∀ b, b ∈ L → b ∈ L')
    (hb : w'.heap[p]? = some (.cells #[.int .u64 (size : Int), .int .u64 (last : Int), .slice (some ⟨g, 0, none⟩) l.length c] 44 (0, 0))) (hv : w'.ownsRow 0 52 2 (.slice (some ⟨g, 0, none⟩) l.length c) l.length (volCells (volVs l)))
    (hg : g ∈ L') (hlt : ∀ b, b ∈ L' → b < w'.heap.size) (hl : ∀ x, x ∈ l → x ∈ R.vols ∨ (PutsV L' w' x.2.1 x.2.2 ∧ x.1 < 18446744073709551616 ∧ x.2.2.length ≤ B + 1)) (hs : size < 18446744073709551616) (hla : last < 18446744073709551616) (hn : l.length ≤ B + 1) :
    RefAt L' (B + 1) w' p (.slice (some ⟨g, 0, none⟩) l.length c) ⟨size, last, l⟩ where
  blk := hb
  vols := hv
  vin := fun b e => by have : g = b := Option.some.inj e; rw [← this]; exact hg
  puts := fun x hx => by
    rcases hl x hx with h' | h'
    · have hp := h.puts x h'
      have := hp.chg hc (fun b e => by simp only [List.mem_singleton]; rintro rfl; exact row_ne (cs := []) hp.1 h.blk (by decide) e)
      exact ⟨this.1, fun b e => hL b (this.2.1 b e), this.2.2⟩
    · exact h'.1
  pin := hL p h.pin
  lt := hlt
  size := hs
  last := hla
  ids := fun x hx => by
    rcases hl x hx with h' | h'
    · exact h.ids x h'
    · exact h'.2.1
  bv := hn
  bp := fun x hx => by
    rcases hl x hx with h' | h'
    · exact Nat.le_succ_of_le (h.bp x h')
    · exact h'.2.2

set_option maxRecDepth 20000 in
set_option maxHeartbeats 4000000 in
theorem r24put_at {L : List Nat} {B : Nat} {w : World} {p i qn : Nat} {qt : ByteArray} {vv : Value} {R : RSt} (h : RefAt L B w p vv R) (hB : B ≤ 1000000) (hi : i < R.vols.length) (hq : qn < 18446744073709551616) :
    Calls Try.prog 40 #[.pointer (some ⟨p, 0, none⟩), .int .i64 (i : Int), .agg #[.int .u64 (qn : Int), .string qt]] w fun e w' => e = .returned (.tuple #[]) ∧ ∃ vv' nv L',
      RefAt L' (B + 1) w' p vv' { R with vols := R.vols.set i ((R.vols[i]!).1, nv, (R.vols[i]!).2.2 ++ [(qn, qt)]) } ∧ (∀ b, b ∈ L' → b ∈ L ∨ w.heap.size ≤ b) ∧ Chg [p] w w' := by
  have hm : R.vols[i]! ∈ R.vols := by rw [getElem!_pos R.vols i hi]; exact List.getElem_mem _
  obtain ⟨t, ht⟩ : ∃ t, t = R.vols[i]! := ⟨_, rfl⟩
  have hput := h.puts _ hm
  have hbp := h.bp _ hm
  obtain ⟨g, c, hv, hc, hgL, c0, c1⟩ := h.cell hi
  rw [← ht] at hput hbp c0 c1 ⊢
  obtain ⟨id, pv, ps⟩ := t
  simp only at hput hbp c0 c1 ⊢
  obtain ⟨pa, pc, hpv, _, _⟩ := ownRow_slice hput.1
  subst hv hpv
  obtain ⟨n, hn⟩ : ∃ n, n = R.vols.length := ⟨_, rfl⟩
  obtain ⟨k, hk⟩ : ∃ k, k = ps.length := ⟨_, rfl⟩
  have hn1 : n ≤ 1000000 := by have := h.bv; omega
  have hk1 : k ≤ 1000000 := by omega
  have hblk := h.blk
  rw [← hn] at hblk hi hc
  rw [← hk] at c1
  have i1 : (i : Int) < (n : Int) := by omega
  have m0 := cell_of_block hblk 0
  have m1 := cell_of_block hblk 1
  have m2 := cell_of_block hblk 2
  simp only [List.getElem?_toArray, List.getElem?_cons_zero, List.getElem?_cons_succ] at m0 m1 m2
  have Hn := Lib.hid hn
  have Hk := Lib.hid hk
  have H := Lib.hid h
  have HP := Lib.hid hput
  have HT := Lib.hid ht
  have HQ := Lib.hid hq
  clear h hm hput hbp ht hq hn hk hblk hB
  go_enter Try.func40, Try.ntmps40
  go_upto_region 1 with fail
  have hpl : p < w.heap.size := World.block_lt_of_cell? w ⟨p, 0, none⟩ m0
  have hgl : g < w.heap.size := World.block_lt_of_cell? w ⟨g, i * 2, none⟩ c0
  have hC := (Chg.refl [] w).alloc (.cells #[.int .u64 (qn : Int), .string qt] 89)
  have hB5 := new_block w (.cells #[.int .u64 (qn : Int), .string qt] 89)
  have m0 := (hC.cell (p := ⟨p, 0, none⟩) hpl (by simp)).trans m0
  have m1 := (hC.cell (p := ⟨p, 1, none⟩) hpl (by simp)).trans m1
  have m2 := (hC.cell (p := ⟨p, 2, none⟩) hpl (by simp)).trans m2
  have c0 := (hC.cell (p := ⟨g, i * 2, none⟩) hgl (by simp)).trans c0
  have c1 := (hC.cell (p := ⟨g, i * 2 + 1, none⟩) hgl (by simp)).trans c1
  have HC := Lib.hid hC
  have HB5 := Lib.hid hB5
  have HSZ := Lib.hid (size_alloc' w (.cells #[.int .u64 (qn : Int), .string qt] 89))
  clear hC hB5
  generalize w.alloc (.cells #[.int .u64 (qn : Int), .string qt] 89) = W1 at *
  have hpl : p < W1.heap.size := by have := HSZ.out; omega
  have hgl : g < W1.heap.size := by have := HSZ.out; omega
  go_upto_region 2 with fail
  -- region 2
  have hC2 := (Chg.refl [] W1).alloc (.cells #[.int .u64 (id : Int), .slice pa k pc] 52)
  have hBq := new_block W1 (.cells #[.int .u64 (id : Int), .slice pa k pc] 52)
  have HC2 := Lib.hid (HC.out.trans hC2)
  have HSP : Hid (AppSrc (W1.alloc (.cells #[.int .u64 (id : Int), .slice pa k pc] 52)) 2 (.slice pa k pc) k (putCells ps)) := Lib.hid (by
    have h1 := HP.out.1
    rw [← Hk.out] at h1
    exact (AppSrc.own h1 (putCells_one ps)).chg (HC.out.trans hC2) (by simp))
  have hq := (hC2.block _ (heap_lt HB5.out) (by simp)).trans HB5.out
  have HSZ2 := Lib.hid (size_alloc' W1 (.cells #[.int .u64 (id : Int), .slice pa k pc] 52))
  have HM0 : Hid ((W1.alloc (.cells #[.int .u64 (id : Int), .slice pa k pc] 52)).heap[p]? = w.heap[p]?) := Lib.hid (HC2.out.block p H.out.heap_p (by simp))
  have m0 := (hC2.cell (p := ⟨p, 0, none⟩) hpl (by simp)).trans m0
  have m1 := (hC2.cell (p := ⟨p, 1, none⟩) hpl (by simp)).trans m1
  have m2 := (hC2.cell (p := ⟨p, 2, none⟩) hpl (by simp)).trans m2
  clear hC2
  generalize W1.alloc (.cells #[.int .u64 (id : Int), .slice pa k pc] 52) = W2 at *
  obtain ⟨b5, hb5⟩ : ∃ b5, b5 = w.heap.size := ⟨_, rfl⟩
  obtain ⟨bq, hbq⟩ : ∃ bq, bq = W1.heap.size := ⟨_, rfl⟩
  rw [← hb5] at hq ⊢
  rw [← hbq] at hBq ⊢
  have x0 := cell_of_block hq 0
  have x1 := cell_of_block hq 1
  simp only [List.getElem?_toArray, List.getElem?_cons_zero, List.getElem?_cons_succ] at x0 x1
  have y0 := cell_of_block hBq 0
  have y1 := cell_of_block hBq 1
  simp only [List.getElem?_toArray, List.getElem?_cons_zero, List.getElem?_cons_succ] at y0 y1
  have l5 : b5 < W2.heap.size := heap_lt hq
  have lq : bq < W2.heap.size := heap_lt hBq
  have HNUM := Lib.hid (And.intro hb5 hbq)
  have HNE5 : Hid (b5 ≠ bq) := Lib.hid (by have h3 := HSZ.out; omega)
  have HBq := Lib.hid hBq
  clear hq hBq hb5 hbq
  go_cut [] (fun wr => Hid (∃ nv, wr.heap[bq]? = some (.cells #[.int .u64 (id : Int), nv] 52 (0, 0)) ∧ wr.ownsRow W2.heap.size 89 2 nv (k + 1) (putCells ps ++ [.int .u64 (qn : Int), .string qt]) ∧ Chg [bq] W2 wr))
  case first =>
    have HC0 := Lib.hid ((Chg.refl [] W2).drew)
    refine wp_region_held_drew (S := fun W' => W'.cell? ⟨b5, 0, none⟩ = some (.int .u64 (qn : Int)) ∧ W'.cell? ⟨b5, 1, none⟩ = some (.string qt)) (by kernel_rfl) (by exact ⟨x0, x1⟩) (fun hHeld => ?_)
    refine wpAnyH_take (i := 1) (oi := ?_) (v := ?_) ?_ (by kernel_rfl) (by kernel_rfl) (by kernel_rfl) ?_ (Or.inl ⟨?_, ?_⟩) hHeld ?_
    rotate_left 2
    · (simp only [List.getElem?_toArray, List.getElem?_cons_succ, List.getElem?_cons_zero]; rfl)
    · exact fun _ _ _ h => h
    · rfl
    · (rintro W' ⟨s1, s2⟩; go_simp; first | done | with_reducible rfl)
    try simp only [Act.put, List.setIfInBounds_toArray, List.set_cons_zero, List.set_cons_succ]
    refine wpAnyH_take (i := 4) (oi := ?_) (v := ?_) ?_ (by kernel_rfl) (by kernel_rfl) (by kernel_rfl) ?_ (Or.inl ⟨?_, ?_⟩) hHeld ?_
    rotate_left 2
    · (simp only [List.getElem?_toArray, List.getElem?_cons_succ, List.getElem?_cons_zero]; rfl)
    · exact fun _ _ _ h => h
    · rfl
    · (rintro W' ⟨s1, s2⟩; go_simp; first | done | with_reducible rfl)
    try simp only [Act.put, List.setIfInBounds_toArray, List.set_cons_zero, List.set_cons_succ]
    generalize W2.drew = V at *
    refine wpAnyH_ready (rs := [0, 2, 5]) (by kernel_rfl) (by simp) ?_
    refine AllReadyH.cons (o := ?_) ?_ (fun K hK => ?_) ?_
    rotate_left 1
    · (simp only [List.getElem?_toArray, List.getElem?_cons_succ, List.getElem?_cons_zero]; rfl)
    · (go_simp; have hstZ := (Chg.refl [] V).alloc (.cells #[] 89); have hnbZ := new_block V (.cells #[] 89); have HZZ := Lib.hid hnbZ; have HCZ := Lib.hid (HC0.out.trans hstZ); have HLZ := Lib.hid (HC0.out.size); clear hnbZ hstZ; generalize V.alloc (.cells #[] 89) = VZ at *)
      refine hK.out _ _ ?_ (fun hHeld => ?_)
      · exact ⟨(HCZ.out.cell (p := ⟨b5, 0, none⟩) l5 (by simp)).trans x0, (HCZ.out.cell (p := ⟨b5, 1, none⟩) l5 (by simp)).trans x1⟩
      clear hK K
      try simp only [Act.put, List.setIfInBounds_toArray, List.set_cons_zero, List.set_cons_succ]
      refine wpAnyH_ready (rs := [2, 5]) (by kernel_rfl) (by simp) ?_
      refine AllReadyH.cons (o := ?_) ?_ (fun K hK => ?_) ?_
      rotate_left 1
      · (simp only [List.getElem?_toArray, List.getElem?_cons_succ, List.getElem?_cons_zero]; rfl)
      · (have hlZL := (HCZ.out.cell (p := ⟨bq, 1, none⟩) lq (by simp)).trans y1; go_simp; clear hlZL; have HCZL := HCZ)
        refine hK.out _ _ ?_ (fun hHeld => ?_)
        · exact ⟨(HCZL.out.cell (p := ⟨b5, 0, none⟩) l5 (by simp)).trans x0, (HCZL.out.cell (p := ⟨b5, 1, none⟩) l5 (by simp)).trans x1⟩
        clear hK K
        try simp only [Act.put, List.setIfInBounds_toArray, List.set_cons_zero, List.set_cons_succ]
        refine wpAnyH_ready (rs := [3, 5]) (by kernel_rfl) (by simp) ?_
        refine AllReadyH.cons (o := ?_) ?_ (fun K hK => ?_) ?_
        rotate_left 1
        · (simp only [List.getElem?_toArray, List.getElem?_cons_succ, List.getElem?_cons_zero]; rfl)
        · (refine step_app (base := W2.heap.size) (xs := []) (news := putCells ps) rfl (.tmp 14) (.tmp 16) 50 rfl rfl Try.underlying50 infoP24 (by rfl) (by omega) (by omega) (by simp [Act.eval, Act.put]) (by simp [Act.eval, Act.put]) (own_zero HZZ.out HLZ.out) (HSP.out.chg HCZL.out (by simp)) (by omega) HCZL.out.size ?_; intro vaZLA VZLA hownZLA hgZLA; rw [Nat.zero_add, List.nil_append] at hownZLA; have hstZLA : Chg [V.heap.size] VZ VZLA := (Chg.refl _ VZ).grown hgZLA (fun k hk => .inl (by rw [← (show V.heap.size = k from Option.some.inj hk)]; simp)); have HCZLA := Lib.hid (HCZL.out.then hstZLA (fun q hq => .inr (by simp only [List.mem_singleton] at hq; rw [hq]; exact HLZ.out))); have HAZLA := Lib.hid hownZLA; clear hownZLA hgZLA hstZLA)
          refine hK.out _ _ ?_ (fun hHeld => ?_)
          · exact ⟨(HCZLA.out.cell (p := ⟨b5, 0, none⟩) l5 (by simp)).trans x0, (HCZLA.out.cell (p := ⟨b5, 1, none⟩) l5 (by simp)).trans x1⟩
          clear hK K
          try simp only [Act.put, List.setIfInBounds_toArray, List.set_cons_zero, List.set_cons_succ]
          refine wpAnyH_ready (rs := [5]) (by kernel_rfl) (by simp) ?_
          refine AllReadyH.cons (o := ?_) ?_ (fun K hK => ?_) AllReadyH.nil
          rotate_left 1
          · (simp only [List.getElem?_toArray, List.getElem?_cons_succ, List.getElem?_cons_zero]; rfl)
          · (go_simp; have hstZLAB := (Chg.refl [] VZLA).alloc (.cells #[.int .u64 (qn : Int), .string qt] 89); have hnbZLAB := new_block VZLA (.cells #[.int .u64 (qn : Int), .string qt] 89); have HAZLAB := Lib.hid (ownRow_chg HAZLA.out hstZLAB (by simp)); have HBZLAB := Lib.hid hnbZLAB; have HCZLAB := Lib.hid (HCZLA.out.trans hstZLAB); have HLZLAB := Lib.hid (HCZLA.out.size); clear hnbZLAB hstZLAB; generalize VZLA.alloc (.cells #[.int .u64 (qn : Int), .string qt] 89) = VZLAB at *)
            refine hK.out _ _ ?_ (fun hHeld => ?_)
            · exact ⟨(HCZLAB.out.cell (p := ⟨b5, 0, none⟩) l5 (by simp)).trans x0, (HCZLAB.out.cell (p := ⟨b5, 1, none⟩) l5 (by simp)).trans x1⟩
            clear hK K
            try simp only [Act.put, List.setIfInBounds_toArray, List.set_cons_zero, List.set_cons_succ]
            refine wpAnyH_ready (rs := [6]) (by kernel_rfl) (by simp) ?_
            refine AllReadyH.cons (o := ?_) ?_ (fun K hK => ?_) AllReadyH.nil
            rotate_left 1
            · (simp only [List.getElem?_toArray, List.getElem?_cons_succ, List.getElem?_cons_zero]; rfl)
            · (refine step_app (base := W2.heap.size) (news := [.int .u64 (qn : Int), .string qt]) rfl (.tmp 17) (.tmp 19) 50 rfl rfl Try.underlying50 infoP24 (by rfl) (by omega) (by omega) (by simp [Act.eval, Act.put]) (by simp [Act.eval, Act.put]) HAZLAB.out (AppSrc.blk2 HBZLAB.out rfl rfl) (by omega) HCZLAB.out.size ?_; intro vaZLABAB VZLABAB hownZLABAB hgZLABAB; have HCZLABAB := Lib.hid (HCZLAB.out.grown hgZLABAB (fun k hk => .inr (HAZLAB.out.lt k hk).1)); obtain ⟨axZLABAB, cxZLABAB, hvxZLABAB, _, _⟩ := ownRow_slice hownZLABAB; subst hvxZLABAB; have HAZLABAB := Lib.hid hownZLABAB; clear hownZLABAB hgZLABAB)
              refine hK.out _ _ ?_ (fun hHeld => ?_)
              · exact ⟨(HCZLABAB.out.cell (p := ⟨b5, 0, none⟩) l5 (by simp)).trans x0, (HCZLABAB.out.cell (p := ⟨b5, 1, none⟩) l5 (by simp)).trans x1⟩
              clear hK K
              try simp only [Act.put, List.setIfInBounds_toArray, List.set_cons_zero, List.set_cons_succ]
              refine wpAnyH_take (i := 7) (oi := ?_) (v := ?_) ?_ (by kernel_rfl) (by kernel_rfl) (by kernel_rfl) ?_ (Or.inl ⟨?_, ?_⟩) hHeld ?_
              rotate_left 2
              · (simp only [List.getElem?_toArray, List.getElem?_cons_succ, List.getElem?_cons_zero]; rfl)
              · exact fun _ _ _ h => h
              · rfl
              · (rintro W' ⟨s1, s2⟩; go_simp; first | done | with_reducible rfl)
              try simp only [Act.put, List.setIfInBounds_toArray, List.set_cons_zero, List.set_cons_succ]
              refine wpAnyH_ready (rs := [8]) (by kernel_rfl) (by simp) ?_
              refine AllReadyH.cons (o := ?_) ?_ (fun K hK => ?_) AllReadyH.nil
              rotate_left 1
              · (simp only [List.getElem?_toArray, List.getElem?_cons_succ, List.getElem?_cons_zero]; rfl)
              · (have hz := (HCZLABAB.out.block _ (heap_lt HBq.out) (by simp)).trans HBq.out; have zf0 := frozen_of_block hz 0; have z0 := cell_of_block hz 0; have zf1 := frozen_of_block hz 1; have z1 := cell_of_block hz 1; simp only [List.getElem?_toArray, List.getElem?_cons_zero, List.getElem?_cons_succ] at z0 z1; go_simp; have h2 := setCell_block hz 1 (.slice axZLABAB (k + 1) cxZLABAB); have HZ2 := Lib.hid h2; have HCs := Lib.hid (((Chg.refl [bq] W2).then HCZLABAB.out (by simp)).setCell (p := ⟨bq, 1, none⟩) (.inl (by simp)) (.slice axZLABAB (k + 1) cxZLABAB)); have HAs := Lib.hid (ownRow_block (w' := VZLABAB.setCell ⟨bq, 1, none⟩ (.slice axZLABAB (k + 1) cxZLABAB)) HAZLABAB.out (fun g hg => setCell_other 1 (.slice axZLABAB (k + 1) cxZLABAB) (by have := (HAZLABAB.out.lt g hg).1; omega))); clear h2 hz zf0 z0 zf1 z1; generalize VZLABAB.setCell _ _ = VS at *)
                refine hK.out _ _ ?_ (fun hHeld => ?_)
                · exact ⟨(HCs.out.cell (p := ⟨b5, 0, none⟩) l5 (by simp [HNE5.out])).trans x0, (HCs.out.cell (p := ⟨b5, 1, none⟩) l5 (by simp [HNE5.out])).trans x1⟩
                clear hK K
                try simp only [Act.put, List.setIfInBounds_toArray, List.set_cons_zero, List.set_cons_succ]
                refine wpAnyH_done (by kernel_rfl) ?_ _
                go_wp2_with fail
                go_meet
                exact ⟨(.slice axZLABAB (k + 1) cxZLABAB), HZ2.out, HAs.out, HCs.out⟩
        refine AllReadyH.cons (o := ?_) ?_ (fun K hK => ?_) AllReadyH.nil
        rotate_left 1
        · (simp only [List.getElem?_toArray, List.getElem?_cons_succ, List.getElem?_cons_zero]; rfl)
        · (go_simp; have hstZLB := (Chg.refl [] VZ).alloc (.cells #[.int .u64 (qn : Int), .string qt] 89); have hnbZLB := new_block VZ (.cells #[.int .u64 (qn : Int), .string qt] 89); have HZZLB := Lib.hid ((hstZLB.block _ (heap_lt HZZ.out) (by simp)).trans HZZ.out); have HBZLB := Lib.hid hnbZLB; have HCZLB := Lib.hid (HCZL.out.trans hstZLB); have HLZLB := Lib.hid (HCZL.out.size); clear hnbZLB hstZLB; generalize VZ.alloc (.cells #[.int .u64 (qn : Int), .string qt] 89) = VZLB at *)
          refine hK.out _ _ ?_ (fun hHeld => ?_)
          · exact ⟨(HCZLB.out.cell (p := ⟨b5, 0, none⟩) l5 (by simp)).trans x0, (HCZLB.out.cell (p := ⟨b5, 1, none⟩) l5 (by simp)).trans x1⟩
          clear hK K
          try simp only [Act.put, List.setIfInBounds_toArray, List.set_cons_zero, List.set_cons_succ]
          refine wpAnyH_ready (rs := [3]) (by kernel_rfl) (by simp) ?_
          refine AllReadyH.cons (o := ?_) ?_ (fun K hK => ?_) AllReadyH.nil
          rotate_left 1
          · (simp only [List.getElem?_toArray, List.getElem?_cons_succ, List.getElem?_cons_zero]; rfl)
          · (refine step_app (base := W2.heap.size) (xs := []) (news := putCells ps) rfl (.tmp 14) (.tmp 16) 50 rfl rfl Try.underlying50 infoP24 (by rfl) (by omega) (by omega) (by simp [Act.eval, Act.put]) (by simp [Act.eval, Act.put]) (own_zero HZZLB.out HLZ.out) (HSP.out.chg HCZLB.out (by simp)) (by omega) HCZLB.out.size ?_; intro vaZLBA VZLBA hownZLBA hgZLBA; rw [Nat.zero_add, List.nil_append] at hownZLBA; have hstZLBA : Chg [V.heap.size] VZLB VZLBA := (Chg.refl _ VZLB).grown hgZLBA (fun k hk => .inl (by rw [← (show V.heap.size = k from Option.some.inj hk)]; simp)); have HBZLBA := Lib.hid ((hstZLBA.block _ (heap_lt HBZLB.out) (by simp only [List.mem_singleton]; exact blk_ne HZZLB.out HBZLB.out (by simp))).trans HBZLB.out); have HCZLBA := Lib.hid (HCZLB.out.then hstZLBA (fun q hq => .inr (by simp only [List.mem_singleton] at hq; rw [hq]; exact HLZ.out))); have HAZLBA := Lib.hid hownZLBA; clear hownZLBA hgZLBA hstZLBA)
            refine hK.out _ _ ?_ (fun hHeld => ?_)
            · exact ⟨(HCZLBA.out.cell (p := ⟨b5, 0, none⟩) l5 (by simp)).trans x0, (HCZLBA.out.cell (p := ⟨b5, 1, none⟩) l5 (by simp)).trans x1⟩
            clear hK K
            try simp only [Act.put, List.setIfInBounds_toArray, List.set_cons_zero, List.set_cons_succ]
            refine wpAnyH_ready (rs := [6]) (by kernel_rfl) (by simp) ?_
            refine AllReadyH.cons (o := ?_) ?_ (fun K hK => ?_) AllReadyH.nil
            rotate_left 1
            · (simp only [List.getElem?_toArray, List.getElem?_cons_succ, List.getElem?_cons_zero]; rfl)
            · (refine step_app (base := W2.heap.size) (news := [.int .u64 (qn : Int), .string qt]) rfl (.tmp 17) (.tmp 19) 50 rfl rfl Try.underlying50 infoP24 (by rfl) (by omega) (by omega) (by simp [Act.eval, Act.put]) (by simp [Act.eval, Act.put]) HAZLBA.out (AppSrc.blk2 HBZLBA.out rfl rfl) (by omega) HCZLBA.out.size ?_; intro vaZLBAAB VZLBAAB hownZLBAAB hgZLBAAB; have HCZLBAAB := Lib.hid (HCZLBA.out.grown hgZLBAAB (fun k hk => .inr (HAZLBA.out.lt k hk).1)); obtain ⟨axZLBAAB, cxZLBAAB, hvxZLBAAB, _, _⟩ := ownRow_slice hownZLBAAB; subst hvxZLBAAB; have HAZLBAAB := Lib.hid hownZLBAAB; clear hownZLBAAB hgZLBAAB)
              refine hK.out _ _ ?_ (fun hHeld => ?_)
              · exact ⟨(HCZLBAAB.out.cell (p := ⟨b5, 0, none⟩) l5 (by simp)).trans x0, (HCZLBAAB.out.cell (p := ⟨b5, 1, none⟩) l5 (by simp)).trans x1⟩
              clear hK K
              try simp only [Act.put, List.setIfInBounds_toArray, List.set_cons_zero, List.set_cons_succ]
              refine wpAnyH_take (i := 7) (oi := ?_) (v := ?_) ?_ (by kernel_rfl) (by kernel_rfl) (by kernel_rfl) ?_ (Or.inl ⟨?_, ?_⟩) hHeld ?_
              rotate_left 2
              · (simp only [List.getElem?_toArray, List.getElem?_cons_succ, List.getElem?_cons_zero]; rfl)
              · exact fun _ _ _ h => h
              · rfl
              · (rintro W' ⟨s1, s2⟩; go_simp; first | done | with_reducible rfl)
              try simp only [Act.put, List.setIfInBounds_toArray, List.set_cons_zero, List.set_cons_succ]
              refine wpAnyH_ready (rs := [8]) (by kernel_rfl) (by simp) ?_
              refine AllReadyH.cons (o := ?_) ?_ (fun K hK => ?_) AllReadyH.nil
              rotate_left 1
              · (simp only [List.getElem?_toArray, List.getElem?_cons_succ, List.getElem?_cons_zero]; rfl)
              · (have hz := (HCZLBAAB.out.block _ (heap_lt HBq.out) (by simp)).trans HBq.out; have zf0 := frozen_of_block hz 0; have z0 := cell_of_block hz 0; have zf1 := frozen_of_block hz 1; have z1 := cell_of_block hz 1; simp only [List.getElem?_toArray, List.getElem?_cons_zero, List.getElem?_cons_succ] at z0 z1; go_simp; have h2 := setCell_block hz 1 (.slice axZLBAAB (k + 1) cxZLBAAB); have HZ2 := Lib.hid h2; have HCs := Lib.hid (((Chg.refl [bq] W2).then HCZLBAAB.out (by simp)).setCell (p := ⟨bq, 1, none⟩) (.inl (by simp)) (.slice axZLBAAB (k + 1) cxZLBAAB)); have HAs := Lib.hid (ownRow_block (w' := VZLBAAB.setCell ⟨bq, 1, none⟩ (.slice axZLBAAB (k + 1) cxZLBAAB)) HAZLBAAB.out (fun g hg => setCell_other 1 (.slice axZLBAAB (k + 1) cxZLBAAB) (by have := (HAZLBAAB.out.lt g hg).1; omega))); clear h2 hz zf0 z0 zf1 z1; generalize VZLBAAB.setCell _ _ = VS at *)
                refine hK.out _ _ ?_ (fun hHeld => ?_)
                · exact ⟨(HCs.out.cell (p := ⟨b5, 0, none⟩) l5 (by simp [HNE5.out])).trans x0, (HCs.out.cell (p := ⟨b5, 1, none⟩) l5 (by simp [HNE5.out])).trans x1⟩
                clear hK K
                try simp only [Act.put, List.setIfInBounds_toArray, List.set_cons_zero, List.set_cons_succ]
                refine wpAnyH_done (by kernel_rfl) ?_ _
                go_wp2_with fail
                go_meet
                exact ⟨(.slice axZLBAAB (k + 1) cxZLBAAB), HZ2.out, HAs.out, HCs.out⟩
      refine AllReadyH.cons (o := ?_) ?_ (fun K hK => ?_) AllReadyH.nil
      rotate_left 1
      · (simp only [List.getElem?_toArray, List.getElem?_cons_succ, List.getElem?_cons_zero]; rfl)
      · (go_simp; have hstZB := (Chg.refl [] VZ).alloc (.cells #[.int .u64 (qn : Int), .string qt] 89); have hnbZB := new_block VZ (.cells #[.int .u64 (qn : Int), .string qt] 89); have HZZB := Lib.hid ((hstZB.block _ (heap_lt HZZ.out) (by simp)).trans HZZ.out); have HBZB := Lib.hid hnbZB; have HCZB := Lib.hid (HCZ.out.trans hstZB); have HLZB := Lib.hid (HCZ.out.size); clear hnbZB hstZB; generalize VZ.alloc (.cells #[.int .u64 (qn : Int), .string qt] 89) = VZB at *)
        refine hK.out _ _ ?_ (fun hHeld => ?_)
        · exact ⟨(HCZB.out.cell (p := ⟨b5, 0, none⟩) l5 (by simp)).trans x0, (HCZB.out.cell (p := ⟨b5, 1, none⟩) l5 (by simp)).trans x1⟩
        clear hK K
        try simp only [Act.put, List.setIfInBounds_toArray, List.set_cons_zero, List.set_cons_succ]
        refine wpAnyH_ready (rs := [2]) (by kernel_rfl) (by simp) ?_
        refine AllReadyH.cons (o := ?_) ?_ (fun K hK => ?_) AllReadyH.nil
        rotate_left 1
        · (simp only [List.getElem?_toArray, List.getElem?_cons_succ, List.getElem?_cons_zero]; rfl)
        · (have hlZBL := (HCZB.out.cell (p := ⟨bq, 1, none⟩) lq (by simp)).trans y1; go_simp; clear hlZBL; have HCZBL := HCZB)
          refine hK.out _ _ ?_ (fun hHeld => ?_)
          · exact ⟨(HCZBL.out.cell (p := ⟨b5, 0, none⟩) l5 (by simp)).trans x0, (HCZBL.out.cell (p := ⟨b5, 1, none⟩) l5 (by simp)).trans x1⟩
          clear hK K
          try simp only [Act.put, List.setIfInBounds_toArray, List.set_cons_zero, List.set_cons_succ]
          refine wpAnyH_ready (rs := [3]) (by kernel_rfl) (by simp) ?_
          refine AllReadyH.cons (o := ?_) ?_ (fun K hK => ?_) AllReadyH.nil
          rotate_left 1
          · (simp only [List.getElem?_toArray, List.getElem?_cons_succ, List.getElem?_cons_zero]; rfl)
          · (refine step_app (base := W2.heap.size) (xs := []) (news := putCells ps) rfl (.tmp 14) (.tmp 16) 50 rfl rfl Try.underlying50 infoP24 (by rfl) (by omega) (by omega) (by simp [Act.eval, Act.put]) (by simp [Act.eval, Act.put]) (own_zero HZZB.out HLZ.out) (HSP.out.chg HCZBL.out (by simp)) (by omega) HCZBL.out.size ?_; intro vaZBLA VZBLA hownZBLA hgZBLA; rw [Nat.zero_add, List.nil_append] at hownZBLA; have hstZBLA : Chg [V.heap.size] VZB VZBLA := (Chg.refl _ VZB).grown hgZBLA (fun k hk => .inl (by rw [← (show V.heap.size = k from Option.some.inj hk)]; simp)); have HBZBLA := Lib.hid ((hstZBLA.block _ (heap_lt HBZB.out) (by simp only [List.mem_singleton]; exact blk_ne HZZB.out HBZB.out (by simp))).trans HBZB.out); have HCZBLA := Lib.hid (HCZBL.out.then hstZBLA (fun q hq => .inr (by simp only [List.mem_singleton] at hq; rw [hq]; exact HLZ.out))); have HAZBLA := Lib.hid hownZBLA; clear hownZBLA hgZBLA hstZBLA)
            refine hK.out _ _ ?_ (fun hHeld => ?_)
            · exact ⟨(HCZBLA.out.cell (p := ⟨b5, 0, none⟩) l5 (by simp)).trans x0, (HCZBLA.out.cell (p := ⟨b5, 1, none⟩) l5 (by simp)).trans x1⟩
            clear hK K
            try simp only [Act.put, List.setIfInBounds_toArray, List.set_cons_zero, List.set_cons_succ]
            refine wpAnyH_ready (rs := [6]) (by kernel_rfl) (by simp) ?_
            refine AllReadyH.cons (o := ?_) ?_ (fun K hK => ?_) AllReadyH.nil
            rotate_left 1
            · (simp only [List.getElem?_toArray, List.getElem?_cons_succ, List.getElem?_cons_zero]; rfl)
            · (refine step_app (base := W2.heap.size) (news := [.int .u64 (qn : Int), .string qt]) rfl (.tmp 17) (.tmp 19) 50 rfl rfl Try.underlying50 infoP24 (by rfl) (by omega) (by omega) (by simp [Act.eval, Act.put]) (by simp [Act.eval, Act.put]) HAZBLA.out (AppSrc.blk2 HBZBLA.out rfl rfl) (by omega) HCZBLA.out.size ?_; intro vaZBLAAB VZBLAAB hownZBLAAB hgZBLAAB; have HCZBLAAB := Lib.hid (HCZBLA.out.grown hgZBLAAB (fun k hk => .inr (HAZBLA.out.lt k hk).1)); obtain ⟨axZBLAAB, cxZBLAAB, hvxZBLAAB, _, _⟩ := ownRow_slice hownZBLAAB; subst hvxZBLAAB; have HAZBLAAB := Lib.hid hownZBLAAB; clear hownZBLAAB hgZBLAAB)
              refine hK.out _ _ ?_ (fun hHeld => ?_)
              · exact ⟨(HCZBLAAB.out.cell (p := ⟨b5, 0, none⟩) l5 (by simp)).trans x0, (HCZBLAAB.out.cell (p := ⟨b5, 1, none⟩) l5 (by simp)).trans x1⟩
              clear hK K
              try simp only [Act.put, List.setIfInBounds_toArray, List.set_cons_zero, List.set_cons_succ]
              refine wpAnyH_take (i := 7) (oi := ?_) (v := ?_) ?_ (by kernel_rfl) (by kernel_rfl) (by kernel_rfl) ?_ (Or.inl ⟨?_, ?_⟩) hHeld ?_
              rotate_left 2
              · (simp only [List.getElem?_toArray, List.getElem?_cons_succ, List.getElem?_cons_zero]; rfl)
              · exact fun _ _ _ h => h
              · rfl
              · (rintro W' ⟨s1, s2⟩; go_simp; first | done | with_reducible rfl)
              try simp only [Act.put, List.setIfInBounds_toArray, List.set_cons_zero, List.set_cons_succ]
              refine wpAnyH_ready (rs := [8]) (by kernel_rfl) (by simp) ?_
              refine AllReadyH.cons (o := ?_) ?_ (fun K hK => ?_) AllReadyH.nil
              rotate_left 1
              · (simp only [List.getElem?_toArray, List.getElem?_cons_succ, List.getElem?_cons_zero]; rfl)
              · (have hz := (HCZBLAAB.out.block _ (heap_lt HBq.out) (by simp)).trans HBq.out; have zf0 := frozen_of_block hz 0; have z0 := cell_of_block hz 0; have zf1 := frozen_of_block hz 1; have z1 := cell_of_block hz 1; simp only [List.getElem?_toArray, List.getElem?_cons_zero, List.getElem?_cons_succ] at z0 z1; go_simp; have h2 := setCell_block hz 1 (.slice axZBLAAB (k + 1) cxZBLAAB); have HZ2 := Lib.hid h2; have HCs := Lib.hid (((Chg.refl [bq] W2).then HCZBLAAB.out (by simp)).setCell (p := ⟨bq, 1, none⟩) (.inl (by simp)) (.slice axZBLAAB (k + 1) cxZBLAAB)); have HAs := Lib.hid (ownRow_block (w' := VZBLAAB.setCell ⟨bq, 1, none⟩ (.slice axZBLAAB (k + 1) cxZBLAAB)) HAZBLAAB.out (fun g hg => setCell_other 1 (.slice axZBLAAB (k + 1) cxZBLAAB) (by have := (HAZBLAAB.out.lt g hg).1; omega))); clear h2 hz zf0 z0 zf1 z1; generalize VZBLAAB.setCell _ _ = VS at *)
                refine hK.out _ _ ?_ (fun hHeld => ?_)
                · exact ⟨(HCs.out.cell (p := ⟨b5, 0, none⟩) l5 (by simp [HNE5.out])).trans x0, (HCs.out.cell (p := ⟨b5, 1, none⟩) l5 (by simp [HNE5.out])).trans x1⟩
                clear hK K
                try simp only [Act.put, List.setIfInBounds_toArray, List.set_cons_zero, List.set_cons_succ]
                refine wpAnyH_done (by kernel_rfl) ?_ _
                go_wp2_with fail
                go_meet
                exact ⟨(.slice axZBLAAB (k + 1) cxZBLAAB), HZ2.out, HAs.out, HCs.out⟩
    refine AllReadyH.cons (o := ?_) ?_ (fun K hK => ?_) ?_
    rotate_left 1
    · (simp only [List.getElem?_toArray, List.getElem?_cons_succ, List.getElem?_cons_zero]; rfl)
    · (have hlL := (HC0.out.cell (p := ⟨bq, 1, none⟩) lq (by simp)).trans y1; go_simp; clear hlL; have HCL := HC0)
      refine hK.out _ _ ?_ (fun hHeld => ?_)
      · exact ⟨(HCL.out.cell (p := ⟨b5, 0, none⟩) l5 (by simp)).trans x0, (HCL.out.cell (p := ⟨b5, 1, none⟩) l5 (by simp)).trans x1⟩
      clear hK K
      try simp only [Act.put, List.setIfInBounds_toArray, List.set_cons_zero, List.set_cons_succ]
      refine wpAnyH_ready (rs := [0, 5]) (by kernel_rfl) (by simp) ?_
      refine AllReadyH.cons (o := ?_) ?_ (fun K hK => ?_) ?_
      rotate_left 1
      · (simp only [List.getElem?_toArray, List.getElem?_cons_succ, List.getElem?_cons_zero]; rfl)
      · (go_simp; have hstLZ := (Chg.refl [] V).alloc (.cells #[] 89); have hnbLZ := new_block V (.cells #[] 89); have HZLZ := Lib.hid hnbLZ; have HCLZ := Lib.hid (HCL.out.trans hstLZ); have HLLZ := Lib.hid (HCL.out.size); clear hnbLZ hstLZ; generalize V.alloc (.cells #[] 89) = VLZ at *)
        refine hK.out _ _ ?_ (fun hHeld => ?_)
        · exact ⟨(HCLZ.out.cell (p := ⟨b5, 0, none⟩) l5 (by simp)).trans x0, (HCLZ.out.cell (p := ⟨b5, 1, none⟩) l5 (by simp)).trans x1⟩
        clear hK K
        try simp only [Act.put, List.setIfInBounds_toArray, List.set_cons_zero, List.set_cons_succ]
        refine wpAnyH_ready (rs := [3, 5]) (by kernel_rfl) (by simp) ?_
        refine AllReadyH.cons (o := ?_) ?_ (fun K hK => ?_) ?_
        rotate_left 1
        · (simp only [List.getElem?_toArray, List.getElem?_cons_succ, List.getElem?_cons_zero]; rfl)
        · (refine step_app (base := W2.heap.size) (xs := []) (news := putCells ps) rfl (.tmp 14) (.tmp 16) 50 rfl rfl Try.underlying50 infoP24 (by rfl) (by omega) (by omega) (by simp [Act.eval, Act.put]) (by simp [Act.eval, Act.put]) (own_zero HZLZ.out HLLZ.out) (HSP.out.chg HCLZ.out (by simp)) (by omega) HCLZ.out.size ?_; intro vaLZA VLZA hownLZA hgLZA; rw [Nat.zero_add, List.nil_append] at hownLZA; have hstLZA : Chg [V.heap.size] VLZ VLZA := (Chg.refl _ VLZ).grown hgLZA (fun k hk => .inl (by rw [← (show V.heap.size = k from Option.some.inj hk)]; simp)); have HCLZA := Lib.hid (HCLZ.out.then hstLZA (fun q hq => .inr (by simp only [List.mem_singleton] at hq; rw [hq]; exact HLLZ.out))); have HALZA := Lib.hid hownLZA; clear hownLZA hgLZA hstLZA)
          refine hK.out _ _ ?_ (fun hHeld => ?_)
          · exact ⟨(HCLZA.out.cell (p := ⟨b5, 0, none⟩) l5 (by simp)).trans x0, (HCLZA.out.cell (p := ⟨b5, 1, none⟩) l5 (by simp)).trans x1⟩
          clear hK K
          try simp only [Act.put, List.setIfInBounds_toArray, List.set_cons_zero, List.set_cons_succ]
          refine wpAnyH_ready (rs := [5]) (by kernel_rfl) (by simp) ?_
          refine AllReadyH.cons (o := ?_) ?_ (fun K hK => ?_) AllReadyH.nil
          rotate_left 1
          · (simp only [List.getElem?_toArray, List.getElem?_cons_succ, List.getElem?_cons_zero]; rfl)
          · (go_simp; have hstLZAB := (Chg.refl [] VLZA).alloc (.cells #[.int .u64 (qn : Int), .string qt] 89); have hnbLZAB := new_block VLZA (.cells #[.int .u64 (qn : Int), .string qt] 89); have HALZAB := Lib.hid (ownRow_chg HALZA.out hstLZAB (by simp)); have HBLZAB := Lib.hid hnbLZAB; have HCLZAB := Lib.hid (HCLZA.out.trans hstLZAB); have HLLZAB := Lib.hid (HCLZA.out.size); clear hnbLZAB hstLZAB; generalize VLZA.alloc (.cells #[.int .u64 (qn : Int), .string qt] 89) = VLZAB at *)
            refine hK.out _ _ ?_ (fun hHeld => ?_)
            · exact ⟨(HCLZAB.out.cell (p := ⟨b5, 0, none⟩) l5 (by simp)).trans x0, (HCLZAB.out.cell (p := ⟨b5, 1, none⟩) l5 (by simp)).trans x1⟩
            clear hK K
            try simp only [Act.put, List.setIfInBounds_toArray, List.set_cons_zero, List.set_cons_succ]
            refine wpAnyH_ready (rs := [6]) (by kernel_rfl) (by simp) ?_
            refine AllReadyH.cons (o := ?_) ?_ (fun K hK => ?_) AllReadyH.nil
            rotate_left 1
            · (simp only [List.getElem?_toArray, List.getElem?_cons_succ, List.getElem?_cons_zero]; rfl)
            · (refine step_app (base := W2.heap.size) (news := [.int .u64 (qn : Int), .string qt]) rfl (.tmp 17) (.tmp 19) 50 rfl rfl Try.underlying50 infoP24 (by rfl) (by omega) (by omega) (by simp [Act.eval, Act.put]) (by simp [Act.eval, Act.put]) HALZAB.out (AppSrc.blk2 HBLZAB.out rfl rfl) (by omega) HCLZAB.out.size ?_; intro vaLZABAB VLZABAB hownLZABAB hgLZABAB; have HCLZABAB := Lib.hid (HCLZAB.out.grown hgLZABAB (fun k hk => .inr (HALZAB.out.lt k hk).1)); obtain ⟨axLZABAB, cxLZABAB, hvxLZABAB, _, _⟩ := ownRow_slice hownLZABAB; subst hvxLZABAB; have HALZABAB := Lib.hid hownLZABAB; clear hownLZABAB hgLZABAB)
              refine hK.out _ _ ?_ (fun hHeld => ?_)
              · exact ⟨(HCLZABAB.out.cell (p := ⟨b5, 0, none⟩) l5 (by simp)).trans x0, (HCLZABAB.out.cell (p := ⟨b5, 1, none⟩) l5 (by simp)).trans x1⟩
              clear hK K
              try simp only [Act.put, List.setIfInBounds_toArray, List.set_cons_zero, List.set_cons_succ]
              refine wpAnyH_take (i := 7) (oi := ?_) (v := ?_) ?_ (by kernel_rfl) (by kernel_rfl) (by kernel_rfl) ?_ (Or.inl ⟨?_, ?_⟩) hHeld ?_
              rotate_left 2
              · (simp only [List.getElem?_toArray, List.getElem?_cons_succ, List.getElem?_cons_zero]; rfl)
              · exact fun _ _ _ h => h
              · rfl
              · (rintro W' ⟨s1, s2⟩; go_simp; first | done | with_reducible rfl)
              try simp only [Act.put, List.setIfInBounds_toArray, List.set_cons_zero, List.set_cons_succ]
              refine wpAnyH_ready (rs := [8]) (by kernel_rfl) (by simp) ?_
              refine AllReadyH.cons (o := ?_) ?_ (fun K hK => ?_) AllReadyH.nil
              rotate_left 1
              · (simp only [List.getElem?_toArray, List.getElem?_cons_succ, List.getElem?_cons_zero]; rfl)
              · (have hz := (HCLZABAB.out.block _ (heap_lt HBq.out) (by simp)).trans HBq.out; have zf0 := frozen_of_block hz 0; have z0 := cell_of_block hz 0; have zf1 := frozen_of_block hz 1; have z1 := cell_of_block hz 1; simp only [List.getElem?_toArray, List.getElem?_cons_zero, List.getElem?_cons_succ] at z0 z1; go_simp; have h2 := setCell_block hz 1 (.slice axLZABAB (k + 1) cxLZABAB); have HZ2 := Lib.hid h2; have HCs := Lib.hid (((Chg.refl [bq] W2).then HCLZABAB.out (by simp)).setCell (p := ⟨bq, 1, none⟩) (.inl (by simp)) (.slice axLZABAB (k + 1) cxLZABAB)); have HAs := Lib.hid (ownRow_block (w' := VLZABAB.setCell ⟨bq, 1, none⟩ (.slice axLZABAB (k + 1) cxLZABAB)) HALZABAB.out (fun g hg => setCell_other 1 (.slice axLZABAB (k + 1) cxLZABAB) (by have := (HALZABAB.out.lt g hg).1; omega))); clear h2 hz zf0 z0 zf1 z1; generalize VLZABAB.setCell _ _ = VS at *)
                refine hK.out _ _ ?_ (fun hHeld => ?_)
                · exact ⟨(HCs.out.cell (p := ⟨b5, 0, none⟩) l5 (by simp [HNE5.out])).trans x0, (HCs.out.cell (p := ⟨b5, 1, none⟩) l5 (by simp [HNE5.out])).trans x1⟩
                clear hK K
                try simp only [Act.put, List.setIfInBounds_toArray, List.set_cons_zero, List.set_cons_succ]
                refine wpAnyH_done (by kernel_rfl) ?_ _
                go_wp2_with fail
                go_meet
                exact ⟨(.slice axLZABAB (k + 1) cxLZABAB), HZ2.out, HAs.out, HCs.out⟩
        refine AllReadyH.cons (o := ?_) ?_ (fun K hK => ?_) AllReadyH.nil
        rotate_left 1
        · (simp only [List.getElem?_toArray, List.getElem?_cons_succ, List.getElem?_cons_zero]; rfl)
        · (go_simp; have hstLZB := (Chg.refl [] VLZ).alloc (.cells #[.int .u64 (qn : Int), .string qt] 89); have hnbLZB := new_block VLZ (.cells #[.int .u64 (qn : Int), .string qt] 89); have HZLZB := Lib.hid ((hstLZB.block _ (heap_lt HZLZ.out) (by simp)).trans HZLZ.out); have HBLZB := Lib.hid hnbLZB; have HCLZB := Lib.hid (HCLZ.out.trans hstLZB); have HLLZB := Lib.hid (HCLZ.out.size); clear hnbLZB hstLZB; generalize VLZ.alloc (.cells #[.int .u64 (qn : Int), .string qt] 89) = VLZB at *)
          refine hK.out _ _ ?_ (fun hHeld => ?_)
          · exact ⟨(HCLZB.out.cell (p := ⟨b5, 0, none⟩) l5 (by simp)).trans x0, (HCLZB.out.cell (p := ⟨b5, 1, none⟩) l5 (by simp)).trans x1⟩
          clear hK K
          try simp only [Act.put, List.setIfInBounds_toArray, List.set_cons_zero, List.set_cons_succ]
          refine wpAnyH_ready (rs := [3]) (by kernel_rfl) (by simp) ?_
          refine AllReadyH.cons (o := ?_) ?_ (fun K hK => ?_) AllReadyH.nil
          rotate_left 1
          · (simp only [List.getElem?_toArray, List.getElem?_cons_succ, List.getElem?_cons_zero]; rfl)
          · (refine step_app (base := W2.heap.size) (xs := []) (news := putCells ps) rfl (.tmp 14) (.tmp 16) 50 rfl rfl Try.underlying50 infoP24 (by rfl) (by omega) (by omega) (by simp [Act.eval, Act.put]) (by simp [Act.eval, Act.put]) (own_zero HZLZB.out HLLZ.out) (HSP.out.chg HCLZB.out (by simp)) (by omega) HCLZB.out.size ?_; intro vaLZBA VLZBA hownLZBA hgLZBA; rw [Nat.zero_add, List.nil_append] at hownLZBA; have hstLZBA : Chg [V.heap.size] VLZB VLZBA := (Chg.refl _ VLZB).grown hgLZBA (fun k hk => .inl (by rw [← (show V.heap.size = k from Option.some.inj hk)]; simp)); have HBLZBA := Lib.hid ((hstLZBA.block _ (heap_lt HBLZB.out) (by simp only [List.mem_singleton]; exact blk_ne HZLZB.out HBLZB.out (by simp))).trans HBLZB.out); have HCLZBA := Lib.hid (HCLZB.out.then hstLZBA (fun q hq => .inr (by simp only [List.mem_singleton] at hq; rw [hq]; exact HLLZ.out))); have HALZBA := Lib.hid hownLZBA; clear hownLZBA hgLZBA hstLZBA)
            refine hK.out _ _ ?_ (fun hHeld => ?_)
            · exact ⟨(HCLZBA.out.cell (p := ⟨b5, 0, none⟩) l5 (by simp)).trans x0, (HCLZBA.out.cell (p := ⟨b5, 1, none⟩) l5 (by simp)).trans x1⟩
            clear hK K
            try simp only [Act.put, List.setIfInBounds_toArray, List.set_cons_zero, List.set_cons_succ]
            refine wpAnyH_ready (rs := [6]) (by kernel_rfl) (by simp) ?_
            refine AllReadyH.cons (o := ?_) ?_ (fun K hK => ?_) AllReadyH.nil
            rotate_left 1
            · (simp only [List.getElem?_toArray, List.getElem?_cons_succ, List.getElem?_cons_zero]; rfl)
            · (refine step_app (base := W2.heap.size) (news := [.int .u64 (qn : Int), .string qt]) rfl (.tmp 17) (.tmp 19) 50 rfl rfl Try.underlying50 infoP24 (by rfl) (by omega) (by omega) (by simp [Act.eval, Act.put]) (by simp [Act.eval, Act.put]) HALZBA.out (AppSrc.blk2 HBLZBA.out rfl rfl) (by omega) HCLZBA.out.size ?_; intro vaLZBAAB VLZBAAB hownLZBAAB hgLZBAAB; have HCLZBAAB := Lib.hid (HCLZBA.out.grown hgLZBAAB (fun k hk => .inr (HALZBA.out.lt k hk).1)); obtain ⟨axLZBAAB, cxLZBAAB, hvxLZBAAB, _, _⟩ := ownRow_slice hownLZBAAB; subst hvxLZBAAB; have HALZBAAB := Lib.hid hownLZBAAB; clear hownLZBAAB hgLZBAAB)
              refine hK.out _ _ ?_ (fun hHeld => ?_)
              · exact ⟨(HCLZBAAB.out.cell (p := ⟨b5, 0, none⟩) l5 (by simp)).trans x0, (HCLZBAAB.out.cell (p := ⟨b5, 1, none⟩) l5 (by simp)).trans x1⟩
              clear hK K
              try simp only [Act.put, List.setIfInBounds_toArray, List.set_cons_zero, List.set_cons_succ]
              refine wpAnyH_take (i := 7) (oi := ?_) (v := ?_) ?_ (by kernel_rfl) (by kernel_rfl) (by kernel_rfl) ?_ (Or.inl ⟨?_, ?_⟩) hHeld ?_
              rotate_left 2
              · (simp only [List.getElem?_toArray, List.getElem?_cons_succ, List.getElem?_cons_zero]; rfl)
              · exact fun _ _ _ h => h
              · rfl
              · (rintro W' ⟨s1, s2⟩; go_simp; first | done | with_reducible rfl)
              try simp only [Act.put, List.setIfInBounds_toArray, List.set_cons_zero, List.set_cons_succ]
              refine wpAnyH_ready (rs := [8]) (by kernel_rfl) (by simp) ?_
              refine AllReadyH.cons (o := ?_) ?_ (fun K hK => ?_) AllReadyH.nil
              rotate_left 1
              · (simp only [List.getElem?_toArray, List.getElem?_cons_succ, List.getElem?_cons_zero]; rfl)
              · (have hz := (HCLZBAAB.out.block _ (heap_lt HBq.out) (by simp)).trans HBq.out; have zf0 := frozen_of_block hz 0; have z0 := cell_of_block hz 0; have zf1 := frozen_of_block hz 1; have z1 := cell_of_block hz 1; simp only [List.getElem?_toArray, List.getElem?_cons_zero, List.getElem?_cons_succ] at z0 z1; go_simp; have h2 := setCell_block hz 1 (.slice axLZBAAB (k + 1) cxLZBAAB); have HZ2 := Lib.hid h2; have HCs := Lib.hid (((Chg.refl [bq] W2).then HCLZBAAB.out (by simp)).setCell (p := ⟨bq, 1, none⟩) (.inl (by simp)) (.slice axLZBAAB (k + 1) cxLZBAAB)); have HAs := Lib.hid (ownRow_block (w' := VLZBAAB.setCell ⟨bq, 1, none⟩ (.slice axLZBAAB (k + 1) cxLZBAAB)) HALZBAAB.out (fun g hg => setCell_other 1 (.slice axLZBAAB (k + 1) cxLZBAAB) (by have := (HALZBAAB.out.lt g hg).1; omega))); clear h2 hz zf0 z0 zf1 z1; generalize VLZBAAB.setCell _ _ = VS at *)
                refine hK.out _ _ ?_ (fun hHeld => ?_)
                · exact ⟨(HCs.out.cell (p := ⟨b5, 0, none⟩) l5 (by simp [HNE5.out])).trans x0, (HCs.out.cell (p := ⟨b5, 1, none⟩) l5 (by simp [HNE5.out])).trans x1⟩
                clear hK K
                try simp only [Act.put, List.setIfInBounds_toArray, List.set_cons_zero, List.set_cons_succ]
                refine wpAnyH_done (by kernel_rfl) ?_ _
                go_wp2_with fail
                go_meet
                exact ⟨(.slice axLZBAAB (k + 1) cxLZBAAB), HZ2.out, HAs.out, HCs.out⟩
      refine AllReadyH.cons (o := ?_) ?_ (fun K hK => ?_) AllReadyH.nil
      rotate_left 1
      · (simp only [List.getElem?_toArray, List.getElem?_cons_succ, List.getElem?_cons_zero]; rfl)
      · (go_simp; have hstLB := (Chg.refl [] V).alloc (.cells #[.int .u64 (qn : Int), .string qt] 89); have hnbLB := new_block V (.cells #[.int .u64 (qn : Int), .string qt] 89); have HBLB := Lib.hid hnbLB; have HCLB := Lib.hid (HCL.out.trans hstLB); have HLLB := Lib.hid (HCL.out.size); clear hnbLB hstLB; generalize V.alloc (.cells #[.int .u64 (qn : Int), .string qt] 89) = VLB at *)
        refine hK.out _ _ ?_ (fun hHeld => ?_)
        · exact ⟨(HCLB.out.cell (p := ⟨b5, 0, none⟩) l5 (by simp)).trans x0, (HCLB.out.cell (p := ⟨b5, 1, none⟩) l5 (by simp)).trans x1⟩
        clear hK K
        try simp only [Act.put, List.setIfInBounds_toArray, List.set_cons_zero, List.set_cons_succ]
        refine wpAnyH_ready (rs := [0]) (by kernel_rfl) (by simp) ?_
        refine AllReadyH.cons (o := ?_) ?_ (fun K hK => ?_) AllReadyH.nil
        rotate_left 1
        · (simp only [List.getElem?_toArray, List.getElem?_cons_succ, List.getElem?_cons_zero]; rfl)
        · (go_simp; have hstLBZ := (Chg.refl [] VLB).alloc (.cells #[] 89); have hnbLBZ := new_block VLB (.cells #[] 89); have HBLBZ := Lib.hid ((hstLBZ.block _ (heap_lt HBLB.out) (by simp)).trans HBLB.out); have HZLBZ := Lib.hid hnbLBZ; have HCLBZ := Lib.hid (HCLB.out.trans hstLBZ); have HLLBZ := Lib.hid (HCLB.out.size); clear hnbLBZ hstLBZ; generalize VLB.alloc (.cells #[] 89) = VLBZ at *)
          refine hK.out _ _ ?_ (fun hHeld => ?_)
          · exact ⟨(HCLBZ.out.cell (p := ⟨b5, 0, none⟩) l5 (by simp)).trans x0, (HCLBZ.out.cell (p := ⟨b5, 1, none⟩) l5 (by simp)).trans x1⟩
          clear hK K
          try simp only [Act.put, List.setIfInBounds_toArray, List.set_cons_zero, List.set_cons_succ]
          refine wpAnyH_ready (rs := [3]) (by kernel_rfl) (by simp) ?_
          refine AllReadyH.cons (o := ?_) ?_ (fun K hK => ?_) AllReadyH.nil
          rotate_left 1
          · (simp only [List.getElem?_toArray, List.getElem?_cons_succ, List.getElem?_cons_zero]; rfl)
          · (refine step_app (base := W2.heap.size) (xs := []) (news := putCells ps) rfl (.tmp 14) (.tmp 16) 50 rfl rfl Try.underlying50 infoP24 (by rfl) (by omega) (by omega) (by simp [Act.eval, Act.put]) (by simp [Act.eval, Act.put]) (own_zero HZLBZ.out HLLBZ.out) (HSP.out.chg HCLBZ.out (by simp)) (by omega) HCLBZ.out.size ?_; intro vaLBZA VLBZA hownLBZA hgLBZA; rw [Nat.zero_add, List.nil_append] at hownLBZA; have hstLBZA : Chg [VLB.heap.size] VLBZ VLBZA := (Chg.refl _ VLBZ).grown hgLBZA (fun k hk => .inl (by rw [← (show VLB.heap.size = k from Option.some.inj hk)]; simp)); have HBLBZA := Lib.hid ((hstLBZA.block _ (heap_lt HBLBZ.out) (by simp only [List.mem_singleton]; exact blk_ne HZLBZ.out HBLBZ.out (by simp))).trans HBLBZ.out); have HCLBZA := Lib.hid (HCLBZ.out.then hstLBZA (fun q hq => .inr (by simp only [List.mem_singleton] at hq; rw [hq]; exact HLLBZ.out))); have HALBZA := Lib.hid hownLBZA; clear hownLBZA hgLBZA hstLBZA)
            refine hK.out _ _ ?_ (fun hHeld => ?_)
            · exact ⟨(HCLBZA.out.cell (p := ⟨b5, 0, none⟩) l5 (by simp)).trans x0, (HCLBZA.out.cell (p := ⟨b5, 1, none⟩) l5 (by simp)).trans x1⟩
            clear hK K
            try simp only [Act.put, List.setIfInBounds_toArray, List.set_cons_zero, List.set_cons_succ]
            refine wpAnyH_ready (rs := [6]) (by kernel_rfl) (by simp) ?_
            refine AllReadyH.cons (o := ?_) ?_ (fun K hK => ?_) AllReadyH.nil
            rotate_left 1
            · (simp only [List.getElem?_toArray, List.getElem?_cons_succ, List.getElem?_cons_zero]; rfl)
            · (refine step_app (base := W2.heap.size) (news := [.int .u64 (qn : Int), .string qt]) rfl (.tmp 17) (.tmp 19) 50 rfl rfl Try.underlying50 infoP24 (by rfl) (by omega) (by omega) (by simp [Act.eval, Act.put]) (by simp [Act.eval, Act.put]) HALBZA.out (AppSrc.blk2 HBLBZA.out rfl rfl) (by omega) HCLBZA.out.size ?_; intro vaLBZAAB VLBZAAB hownLBZAAB hgLBZAAB; have HCLBZAAB := Lib.hid (HCLBZA.out.grown hgLBZAAB (fun k hk => .inr (HALBZA.out.lt k hk).1)); obtain ⟨axLBZAAB, cxLBZAAB, hvxLBZAAB, _, _⟩ := ownRow_slice hownLBZAAB; subst hvxLBZAAB; have HALBZAAB := Lib.hid hownLBZAAB; clear hownLBZAAB hgLBZAAB)
              refine hK.out _ _ ?_ (fun hHeld => ?_)
              · exact ⟨(HCLBZAAB.out.cell (p := ⟨b5, 0, none⟩) l5 (by simp)).trans x0, (HCLBZAAB.out.cell (p := ⟨b5, 1, none⟩) l5 (by simp)).trans x1⟩
              clear hK K
              try simp only [Act.put, List.setIfInBounds_toArray, List.set_cons_zero, List.set_cons_succ]
              refine wpAnyH_take (i := 7) (oi := ?_) (v := ?_) ?_ (by kernel_rfl) (by kernel_rfl) (by kernel_rfl) ?_ (Or.inl ⟨?_, ?_⟩) hHeld ?_
              rotate_left 2
              · (simp only [List.getElem?_toArray, List.getElem?_cons_succ, List.getElem?_cons_zero]; rfl)
              · exact fun _ _ _ h => h
              · rfl
              · (rintro W' ⟨s1, s2⟩; go_simp; first | done | with_reducible rfl)
              try simp only [Act.put, List.setIfInBounds_toArray, List.set_cons_zero, List.set_cons_succ]
              refine wpAnyH_ready (rs := [8]) (by kernel_rfl) (by simp) ?_
              refine AllReadyH.cons (o := ?_) ?_ (fun K hK => ?_) AllReadyH.nil
              rotate_left 1
              · (simp only [List.getElem?_toArray, List.getElem?_cons_succ, List.getElem?_cons_zero]; rfl)
              · (have hz := (HCLBZAAB.out.block _ (heap_lt HBq.out) (by simp)).trans HBq.out; have zf0 := frozen_of_block hz 0; have z0 := cell_of_block hz 0; have zf1 := frozen_of_block hz 1; have z1 := cell_of_block hz 1; simp only [List.getElem?_toArray, List.getElem?_cons_zero, List.getElem?_cons_succ] at z0 z1; go_simp; have h2 := setCell_block hz 1 (.slice axLBZAAB (k + 1) cxLBZAAB); have HZ2 := Lib.hid h2; have HCs := Lib.hid (((Chg.refl [bq] W2).then HCLBZAAB.out (by simp)).setCell (p := ⟨bq, 1, none⟩) (.inl (by simp)) (.slice axLBZAAB (k + 1) cxLBZAAB)); have HAs := Lib.hid (ownRow_block (w' := VLBZAAB.setCell ⟨bq, 1, none⟩ (.slice axLBZAAB (k + 1) cxLBZAAB)) HALBZAAB.out (fun g hg => setCell_other 1 (.slice axLBZAAB (k + 1) cxLBZAAB) (by have := (HALBZAAB.out.lt g hg).1; omega))); clear h2 hz zf0 z0 zf1 z1; generalize VLBZAAB.setCell _ _ = VS at *)
                refine hK.out _ _ ?_ (fun hHeld => ?_)
                · exact ⟨(HCs.out.cell (p := ⟨b5, 0, none⟩) l5 (by simp [HNE5.out])).trans x0, (HCs.out.cell (p := ⟨b5, 1, none⟩) l5 (by simp [HNE5.out])).trans x1⟩
                clear hK K
                try simp only [Act.put, List.setIfInBounds_toArray, List.set_cons_zero, List.set_cons_succ]
                refine wpAnyH_done (by kernel_rfl) ?_ _
                go_wp2_with fail
                go_meet
                exact ⟨(.slice axLBZAAB (k + 1) cxLBZAAB), HZ2.out, HAs.out, HCs.out⟩
    refine AllReadyH.cons (o := ?_) ?_ (fun K hK => ?_) AllReadyH.nil
    rotate_left 1
    · (simp only [List.getElem?_toArray, List.getElem?_cons_succ, List.getElem?_cons_zero]; rfl)
    · (go_simp; have hstB := (Chg.refl [] V).alloc (.cells #[.int .u64 (qn : Int), .string qt] 89); have hnbB := new_block V (.cells #[.int .u64 (qn : Int), .string qt] 89); have HBB := Lib.hid hnbB; have HCB := Lib.hid (HC0.out.trans hstB); have HLB := Lib.hid (HC0.out.size); clear hnbB hstB; generalize V.alloc (.cells #[.int .u64 (qn : Int), .string qt] 89) = VB at *)
      refine hK.out _ _ ?_ (fun hHeld => ?_)
      · exact ⟨(HCB.out.cell (p := ⟨b5, 0, none⟩) l5 (by simp)).trans x0, (HCB.out.cell (p := ⟨b5, 1, none⟩) l5 (by simp)).trans x1⟩
      clear hK K
      try simp only [Act.put, List.setIfInBounds_toArray, List.set_cons_zero, List.set_cons_succ]
      refine wpAnyH_ready (rs := [0, 2]) (by kernel_rfl) (by simp) ?_
      refine AllReadyH.cons (o := ?_) ?_ (fun K hK => ?_) ?_
      rotate_left 1
      · (simp only [List.getElem?_toArray, List.getElem?_cons_succ, List.getElem?_cons_zero]; rfl)
      · (go_simp; have hstBZ := (Chg.refl [] VB).alloc (.cells #[] 89); have hnbBZ := new_block VB (.cells #[] 89); have HBBZ := Lib.hid ((hstBZ.block _ (heap_lt HBB.out) (by simp)).trans HBB.out); have HZBZ := Lib.hid hnbBZ; have HCBZ := Lib.hid (HCB.out.trans hstBZ); have HLBZ := Lib.hid (HCB.out.size); clear hnbBZ hstBZ; generalize VB.alloc (.cells #[] 89) = VBZ at *)
        refine hK.out _ _ ?_ (fun hHeld => ?_)
        · exact ⟨(HCBZ.out.cell (p := ⟨b5, 0, none⟩) l5 (by simp)).trans x0, (HCBZ.out.cell (p := ⟨b5, 1, none⟩) l5 (by simp)).trans x1⟩
        clear hK K
        try simp only [Act.put, List.setIfInBounds_toArray, List.set_cons_zero, List.set_cons_succ]
        refine wpAnyH_ready (rs := [2]) (by kernel_rfl) (by simp) ?_
        refine AllReadyH.cons (o := ?_) ?_ (fun K hK => ?_) AllReadyH.nil
        rotate_left 1
        · (simp only [List.getElem?_toArray, List.getElem?_cons_succ, List.getElem?_cons_zero]; rfl)
        · (have hlBZL := (HCBZ.out.cell (p := ⟨bq, 1, none⟩) lq (by simp)).trans y1; go_simp; clear hlBZL; have HCBZL := HCBZ)
          refine hK.out _ _ ?_ (fun hHeld => ?_)
          · exact ⟨(HCBZL.out.cell (p := ⟨b5, 0, none⟩) l5 (by simp)).trans x0, (HCBZL.out.cell (p := ⟨b5, 1, none⟩) l5 (by simp)).trans x1⟩
          clear hK K
          try simp only [Act.put, List.setIfInBounds_toArray, List.set_cons_zero, List.set_cons_succ]
          refine wpAnyH_ready (rs := [3]) (by kernel_rfl) (by simp) ?_
          refine AllReadyH.cons (o := ?_) ?_ (fun K hK => ?_) AllReadyH.nil
          rotate_left 1
          · (simp only [List.getElem?_toArray, List.getElem?_cons_succ, List.getElem?_cons_zero]; rfl)
          · (refine step_app (base := W2.heap.size) (xs := []) (news := putCells ps) rfl (.tmp 14) (.tmp 16) 50 rfl rfl Try.underlying50 infoP24 (by rfl) (by omega) (by omega) (by simp [Act.eval, Act.put]) (by simp [Act.eval, Act.put]) (own_zero HZBZ.out HLBZ.out) (HSP.out.chg HCBZL.out (by simp)) (by omega) HCBZL.out.size ?_; intro vaBZLA VBZLA hownBZLA hgBZLA; rw [Nat.zero_add, List.nil_append] at hownBZLA; have hstBZLA : Chg [VB.heap.size] VBZ VBZLA := (Chg.refl _ VBZ).grown hgBZLA (fun k hk => .inl (by rw [← (show VB.heap.size = k from Option.some.inj hk)]; simp)); have HBBZLA := Lib.hid ((hstBZLA.block _ (heap_lt HBBZ.out) (by simp only [List.mem_singleton]; exact blk_ne HZBZ.out HBBZ.out (by simp))).trans HBBZ.out); have HCBZLA := Lib.hid (HCBZL.out.then hstBZLA (fun q hq => .inr (by simp only [List.mem_singleton] at hq; rw [hq]; exact HLBZ.out))); have HABZLA := Lib.hid hownBZLA; clear hownBZLA hgBZLA hstBZLA)
            refine hK.out _ _ ?_ (fun hHeld => ?_)
            · exact ⟨(HCBZLA.out.cell (p := ⟨b5, 0, none⟩) l5 (by simp)).trans x0, (HCBZLA.out.cell (p := ⟨b5, 1, none⟩) l5 (by simp)).trans x1⟩
            clear hK K
            try simp only [Act.put, List.setIfInBounds_toArray, List.set_cons_zero, List.set_cons_succ]
            refine wpAnyH_ready (rs := [6]) (by kernel_rfl) (by simp) ?_
            refine AllReadyH.cons (o := ?_) ?_ (fun K hK => ?_) AllReadyH.nil
            rotate_left 1
            · (simp only [List.getElem?_toArray, List.getElem?_cons_succ, List.getElem?_cons_zero]; rfl)
            · (refine step_app (base := W2.heap.size) (news := [.int .u64 (qn : Int), .string qt]) rfl (.tmp 17) (.tmp 19) 50 rfl rfl Try.underlying50 infoP24 (by rfl) (by omega) (by omega) (by simp [Act.eval, Act.put]) (by simp [Act.eval, Act.put]) HABZLA.out (AppSrc.blk2 HBBZLA.out rfl rfl) (by omega) HCBZLA.out.size ?_; intro vaBZLAAB VBZLAAB hownBZLAAB hgBZLAAB; have HCBZLAAB := Lib.hid (HCBZLA.out.grown hgBZLAAB (fun k hk => .inr (HABZLA.out.lt k hk).1)); obtain ⟨axBZLAAB, cxBZLAAB, hvxBZLAAB, _, _⟩ := ownRow_slice hownBZLAAB; subst hvxBZLAAB; have HABZLAAB := Lib.hid hownBZLAAB; clear hownBZLAAB hgBZLAAB)
              refine hK.out _ _ ?_ (fun hHeld => ?_)
              · exact ⟨(HCBZLAAB.out.cell (p := ⟨b5, 0, none⟩) l5 (by simp)).trans x0, (HCBZLAAB.out.cell (p := ⟨b5, 1, none⟩) l5 (by simp)).trans x1⟩
              clear hK K
              try simp only [Act.put, List.setIfInBounds_toArray, List.set_cons_zero, List.set_cons_succ]
              refine wpAnyH_take (i := 7) (oi := ?_) (v := ?_) ?_ (by kernel_rfl) (by kernel_rfl) (by kernel_rfl) ?_ (Or.inl ⟨?_, ?_⟩) hHeld ?_
              rotate_left 2
              · (simp only [List.getElem?_toArray, List.getElem?_cons_succ, List.getElem?_cons_zero]; rfl)
              · exact fun _ _ _ h => h
              · rfl
              · (rintro W' ⟨s1, s2⟩; go_simp; first | done | with_reducible rfl)
              try simp only [Act.put, List.setIfInBounds_toArray, List.set_cons_zero, List.set_cons_succ]
              refine wpAnyH_ready (rs := [8]) (by kernel_rfl) (by simp) ?_
              refine AllReadyH.cons (o := ?_) ?_ (fun K hK => ?_) AllReadyH.nil
              rotate_left 1
              · (simp only [List.getElem?_toArray, List.getElem?_cons_succ, List.getElem?_cons_zero]; rfl)
              · (have hz := (HCBZLAAB.out.block _ (heap_lt HBq.out) (by simp)).trans HBq.out; have zf0 := frozen_of_block hz 0; have z0 := cell_of_block hz 0; have zf1 := frozen_of_block hz 1; have z1 := cell_of_block hz 1; simp only [List.getElem?_toArray, List.getElem?_cons_zero, List.getElem?_cons_succ] at z0 z1; go_simp; have h2 := setCell_block hz 1 (.slice axBZLAAB (k + 1) cxBZLAAB); have HZ2 := Lib.hid h2; have HCs := Lib.hid (((Chg.refl [bq] W2).then HCBZLAAB.out (by simp)).setCell (p := ⟨bq, 1, none⟩) (.inl (by simp)) (.slice axBZLAAB (k + 1) cxBZLAAB)); have HAs := Lib.hid (ownRow_block (w' := VBZLAAB.setCell ⟨bq, 1, none⟩ (.slice axBZLAAB (k + 1) cxBZLAAB)) HABZLAAB.out (fun g hg => setCell_other 1 (.slice axBZLAAB (k + 1) cxBZLAAB) (by have := (HABZLAAB.out.lt g hg).1; omega))); clear h2 hz zf0 z0 zf1 z1; generalize VBZLAAB.setCell _ _ = VS at *)
                refine hK.out _ _ ?_ (fun hHeld => ?_)
                · exact ⟨(HCs.out.cell (p := ⟨b5, 0, none⟩) l5 (by simp [HNE5.out])).trans x0, (HCs.out.cell (p := ⟨b5, 1, none⟩) l5 (by simp [HNE5.out])).trans x1⟩
                clear hK K
                try simp only [Act.put, List.setIfInBounds_toArray, List.set_cons_zero, List.set_cons_succ]
                refine wpAnyH_done (by kernel_rfl) ?_ _
                go_wp2_with fail
                go_meet
                exact ⟨(.slice axBZLAAB (k + 1) cxBZLAAB), HZ2.out, HAs.out, HCs.out⟩
      refine AllReadyH.cons (o := ?_) ?_ (fun K hK => ?_) AllReadyH.nil
      rotate_left 1
      · (simp only [List.getElem?_toArray, List.getElem?_cons_succ, List.getElem?_cons_zero]; rfl)
      · (have hlBL := (HCB.out.cell (p := ⟨bq, 1, none⟩) lq (by simp)).trans y1; go_simp; clear hlBL; have HCBL := HCB)
        refine hK.out _ _ ?_ (fun hHeld => ?_)
        · exact ⟨(HCBL.out.cell (p := ⟨b5, 0, none⟩) l5 (by simp)).trans x0, (HCBL.out.cell (p := ⟨b5, 1, none⟩) l5 (by simp)).trans x1⟩
        clear hK K
        try simp only [Act.put, List.setIfInBounds_toArray, List.set_cons_zero, List.set_cons_succ]
        refine wpAnyH_ready (rs := [0]) (by kernel_rfl) (by simp) ?_
        refine AllReadyH.cons (o := ?_) ?_ (fun K hK => ?_) AllReadyH.nil
        rotate_left 1
        · (simp only [List.getElem?_toArray, List.getElem?_cons_succ, List.getElem?_cons_zero]; rfl)
        · (go_simp; have hstBLZ := (Chg.refl [] VB).alloc (.cells #[] 89); have hnbBLZ := new_block VB (.cells #[] 89); have HBBLZ := Lib.hid ((hstBLZ.block _ (heap_lt HBB.out) (by simp)).trans HBB.out); have HZBLZ := Lib.hid hnbBLZ; have HCBLZ := Lib.hid (HCBL.out.trans hstBLZ); have HLBLZ := Lib.hid (HCBL.out.size); clear hnbBLZ hstBLZ; generalize VB.alloc (.cells #[] 89) = VBLZ at *)
          refine hK.out _ _ ?_ (fun hHeld => ?_)
          · exact ⟨(HCBLZ.out.cell (p := ⟨b5, 0, none⟩) l5 (by simp)).trans x0, (HCBLZ.out.cell (p := ⟨b5, 1, none⟩) l5 (by simp)).trans x1⟩
          clear hK K
          try simp only [Act.put, List.setIfInBounds_toArray, List.set_cons_zero, List.set_cons_succ]
          refine wpAnyH_ready (rs := [3]) (by kernel_rfl) (by simp) ?_
          refine AllReadyH.cons (o := ?_) ?_ (fun K hK => ?_) AllReadyH.nil
          rotate_left 1
          · (simp only [List.getElem?_toArray, List.getElem?_cons_succ, List.getElem?_cons_zero]; rfl)
          · (refine step_app (base := W2.heap.size) (xs := []) (news := putCells ps) rfl (.tmp 14) (.tmp 16) 50 rfl rfl Try.underlying50 infoP24 (by rfl) (by omega) (by omega) (by simp [Act.eval, Act.put]) (by simp [Act.eval, Act.put]) (own_zero HZBLZ.out HLBLZ.out) (HSP.out.chg HCBLZ.out (by simp)) (by omega) HCBLZ.out.size ?_; intro vaBLZA VBLZA hownBLZA hgBLZA; rw [Nat.zero_add, List.nil_append] at hownBLZA; have hstBLZA : Chg [VB.heap.size] VBLZ VBLZA := (Chg.refl _ VBLZ).grown hgBLZA (fun k hk => .inl (by rw [← (show VB.heap.size = k from Option.some.inj hk)]; simp)); have HBBLZA := Lib.hid ((hstBLZA.block _ (heap_lt HBBLZ.out) (by simp only [List.mem_singleton]; exact blk_ne HZBLZ.out HBBLZ.out (by simp))).trans HBBLZ.out); have HCBLZA := Lib.hid (HCBLZ.out.then hstBLZA (fun q hq => .inr (by simp only [List.mem_singleton] at hq; rw [hq]; exact HLBLZ.out))); have HABLZA := Lib.hid hownBLZA; clear hownBLZA hgBLZA hstBLZA)
            refine hK.out _ _ ?_ (fun hHeld => ?_)
            · exact ⟨(HCBLZA.out.cell (p := ⟨b5, 0, none⟩) l5 (by simp)).trans x0, (HCBLZA.out.cell (p := ⟨b5, 1, none⟩) l5 (by simp)).trans x1⟩
            clear hK K
            try simp only [Act.put, List.setIfInBounds_toArray, List.set_cons_zero, List.set_cons_succ]
            refine wpAnyH_ready (rs := [6]) (by kernel_rfl) (by simp) ?_
            refine AllReadyH.cons (o := ?_) ?_ (fun K hK => ?_) AllReadyH.nil
            rotate_left 1
            · (simp only [List.getElem?_toArray, List.getElem?_cons_succ, List.getElem?_cons_zero]; rfl)
            · (refine step_app (base := W2.heap.size) (news := [.int .u64 (qn : Int), .string qt]) rfl (.tmp 17) (.tmp 19) 50 rfl rfl Try.underlying50 infoP24 (by rfl) (by omega) (by omega) (by simp [Act.eval, Act.put]) (by simp [Act.eval, Act.put]) HABLZA.out (AppSrc.blk2 HBBLZA.out rfl rfl) (by omega) HCBLZA.out.size ?_; intro vaBLZAAB VBLZAAB hownBLZAAB hgBLZAAB; have HCBLZAAB := Lib.hid (HCBLZA.out.grown hgBLZAAB (fun k hk => .inr (HABLZA.out.lt k hk).1)); obtain ⟨axBLZAAB, cxBLZAAB, hvxBLZAAB, _, _⟩ := ownRow_slice hownBLZAAB; subst hvxBLZAAB; have HABLZAAB := Lib.hid hownBLZAAB; clear hownBLZAAB hgBLZAAB)
              refine hK.out _ _ ?_ (fun hHeld => ?_)
              · exact ⟨(HCBLZAAB.out.cell (p := ⟨b5, 0, none⟩) l5 (by simp)).trans x0, (HCBLZAAB.out.cell (p := ⟨b5, 1, none⟩) l5 (by simp)).trans x1⟩
              clear hK K
              try simp only [Act.put, List.setIfInBounds_toArray, List.set_cons_zero, List.set_cons_succ]
              refine wpAnyH_take (i := 7) (oi := ?_) (v := ?_) ?_ (by kernel_rfl) (by kernel_rfl) (by kernel_rfl) ?_ (Or.inl ⟨?_, ?_⟩) hHeld ?_
              rotate_left 2
              · (simp only [List.getElem?_toArray, List.getElem?_cons_succ, List.getElem?_cons_zero]; rfl)
              · exact fun _ _ _ h => h
              · rfl
              · (rintro W' ⟨s1, s2⟩; go_simp; first | done | with_reducible rfl)
              try simp only [Act.put, List.setIfInBounds_toArray, List.set_cons_zero, List.set_cons_succ]
              refine wpAnyH_ready (rs := [8]) (by kernel_rfl) (by simp) ?_
              refine AllReadyH.cons (o := ?_) ?_ (fun K hK => ?_) AllReadyH.nil
              rotate_left 1
              · (simp only [List.getElem?_toArray, List.getElem?_cons_succ, List.getElem?_cons_zero]; rfl)
              · (have hz := (HCBLZAAB.out.block _ (heap_lt HBq.out) (by simp)).trans HBq.out; have zf0 := frozen_of_block hz 0; have z0 := cell_of_block hz 0; have zf1 := frozen_of_block hz 1; have z1 := cell_of_block hz 1; simp only [List.getElem?_toArray, List.getElem?_cons_zero, List.getElem?_cons_succ] at z0 z1; go_simp; have h2 := setCell_block hz 1 (.slice axBLZAAB (k + 1) cxBLZAAB); have HZ2 := Lib.hid h2; have HCs := Lib.hid (((Chg.refl [bq] W2).then HCBLZAAB.out (by simp)).setCell (p := ⟨bq, 1, none⟩) (.inl (by simp)) (.slice axBLZAAB (k + 1) cxBLZAAB)); have HAs := Lib.hid (ownRow_block (w' := VBLZAAB.setCell ⟨bq, 1, none⟩ (.slice axBLZAAB (k + 1) cxBLZAAB)) HABLZAAB.out (fun g hg => setCell_other 1 (.slice axBLZAAB (k + 1) cxBLZAAB) (by have := (HABLZAAB.out.lt g hg).1; omega))); clear h2 hz zf0 z0 zf1 z1; generalize VBLZAAB.setCell _ _ = VS at *)
                refine hK.out _ _ ?_ (fun hHeld => ?_)
                · exact ⟨(HCs.out.cell (p := ⟨b5, 0, none⟩) l5 (by simp [HNE5.out])).trans x0, (HCs.out.cell (p := ⟨b5, 1, none⟩) l5 (by simp [HNE5.out])).trans x1⟩
                clear hK K
                try simp only [Act.put, List.setIfInBounds_toArray, List.set_cons_zero, List.set_cons_succ]
                refine wpAnyH_done (by kernel_rfl) ?_ _
                go_wp2_with fail
                go_meet
                exact ⟨(.slice axBLZAAB (k + 1) cxBLZAAB), HZ2.out, HAs.out, HCs.out⟩
  case rest =>
    obtain ⟨nv, hq, hown, hch⟩ := hcut.out
    obtain ⟨na, nc, hnv, _, _⟩ := ownRow_slice hown
    subst hnv
    rename World => W4
    have hpW : p < W2.heap.size := World.block_lt_of_cell? W2 ⟨p, 0, none⟩ m0
    have npq : p ≠ bq := by have h1 := HNUM.out.2; omega
    have HNO := Lib.hid hown
    have HNQ := Lib.hid hq
    have HC4 := Lib.hid ((HC2.out.then (L := []) (Chg.refl [] W2) (by simp)).trans (Chg.refl [] W2))
    have HCw : Hid (Chg [] w W4) := Lib.hid (HC2.out.then hch (fun q hq => by simp only [List.mem_singleton] at hq; have h1 := HNUM.out.2; have h2 := HSZ.out; right; omega))
    have m0 := (hch.cell (p := ⟨p, 0, none⟩) hpW (by simp [npq])).trans m0
    have m1 := (hch.cell (p := ⟨p, 1, none⟩) hpW (by simp [npq])).trans m1
    have m2 := (hch.cell (p := ⟨p, 2, none⟩) hpW (by simp [npq])).trans m2
    have HMP : Hid (W4.heap[p]? = w.heap[p]?) := Lib.hid ((hch.block p hpW (by simp [npq])).trans HM0.out)
    clear hcut hq hown hch
    have hvl := ownRow_chg H.out.vols HCw.out (by simp)
    have hsv : AppSrc W4 2 (.slice (some ⟨g, 0, none⟩) n c) n (volCells (volVs R.vols)) := by
      have := AppSrc.own hvl (volVs_one H.out)
      rw [← Hn.out] at this
      exact this
    have hZc := (Chg.refl [] W4).alloc (.cells #[] 52)
    obtain ⟨va, V5, hrun, hown, hg⟩ := run_app (w := W4.alloc (.cells #[] 52)) (base := W4.heap.size) (t := 42) Try.underlying42 infoV24 rfl (by omega) (by omega) (own_zero (new_block W4 (.cells #[] 52)) (Nat.le_refl _)) (hsv.chg hZc (by simp)) (by omega) hZc.size
    rw [Nat.zero_add, List.nil_append] at hown
    obtain ⟨ga, ca, hva, hca, _, hgb, _, hcell⟩ := ownRow_cells hown (by omega)
    subst hva
    have hst : Chg [] W4 V5 := hZc.grown hg (fun k hk => .inr (by have : W4.heap.size = k := Option.some.inj hk; omega))
    have HO5 := Lib.hid hown
    have HC5 := Lib.hid hst
    have hMP := ((hst.block p (World.block_lt_of_cell? W4 ⟨p, 0, none⟩ m0) (by simp)).trans HMP.out).trans H.out.blk
    rw [← Hn.out] at hMP
    have HMP5 := Lib.hid hMP
    have f0 := frozen_of_block hMP 2
    have m2' := cell_of_block hMP 2
    simp only [List.getElem?_toArray, List.getElem?_cons_zero, List.getElem?_cons_succ] at m2'
    have hlp4 : p < W4.heap.size := World.block_lt_of_cell? W4 ⟨p, 0, none⟩ m0
    have m2z := (hZc.cell (p := ⟨p, 2, none⟩) hlp4 (by simp)).trans m2
    have HNQ5 := Lib.hid ((hst.block bq (heap_lt HNQ.out) (by simp)).trans HNQ.out)
    have HNO5 := Lib.hid (ownRow_chg HNO.out hst (by simp))
    have HPG := Lib.hid (And.intro hlp4 hgb)
    have HRUN := Lib.hid hrun
    clear hvl hsv hZc hown hg hcell hst hMP m0 m1 m2 hrun
    go_upto_region 4 with (at_builtin; refine Lib.wpList_append_run _ rfl _ _ _ _ rfl _ _ rfl rfl _ _ HRUN.out ?_)
    have hMP := HMP5.out
    have h5 : (V5.setCell ⟨p, 2, none⟩ (.slice (some ⟨ga, 0, none⟩) n ca)).heap[p]? = some (.cells #[.int .u64 (R.size : Int), .int .u64 (R.last : Int), .slice (some ⟨ga, 0, none⟩) n ca] 44 (0, 0)) := setCell_block hMP 2 (.slice (some ⟨ga, 0, none⟩) n ca)
    have hC5 : Chg [p] V5 (V5.setCell ⟨p, 2, none⟩ (.slice (some ⟨ga, 0, none⟩) n ca)) := (Chg.refl [p] V5).setCell (.inl (by simp)) _
    have HMS := Lib.hid h5
    have HC5s := Lib.hid hC5
    have hNQ := (setCell_other (w := V5) (b := p) 2 (.slice (some ⟨ga, 0, none⟩) n ca) (k := bq) (Ne.symm npq)).trans HNQ5.out
    have hVO := ownRow_block (w' := V5.setCell ⟨p, 2, none⟩ (.slice (some ⟨ga, 0, none⟩) n ca)) HO5.out (fun k e => setCell_other 2 _ (by have : ga = k := Option.some.inj e; omega))
    have HVO := Lib.hid hVO
    have HNQ6 := Lib.hid hNQ
    have HNO6 := Lib.hid (ownRow_block (w' := V5.setCell ⟨p, 2, none⟩ (.slice (some ⟨ga, 0, none⟩) n ca)) HNO5.out (fun k e => setCell_other 2 _ (by have := (HNO5.out.lt k e).1; omega)))
    clear hMP f0 m2' m2z hC5
    generalize V5.setCell ⟨p, 2, none⟩ (.slice (some ⟨ga, 0, none⟩) n ca) = V6 at *
    have q0 := cell_of_block hNQ 0
    have q1 := cell_of_block hNQ 1
    simp only [List.getElem?_toArray, List.getElem?_cons_zero, List.getElem?_cons_succ] at q0 q1
    have r0 := cell_of_block h5 0
    have r1 := cell_of_block h5 1
    have r2 := cell_of_block h5 2
    simp only [List.getElem?_toArray, List.getElem?_cons_zero, List.getElem?_cons_succ] at r0 r1 r2
    obtain ⟨gn, cn, hgn, hcn, _, hgnb, hgnl, _⟩ := ownRow_cells HNO.out (by omega)
    injection hgn with e1 _ e3
    subst e1 e3
    obtain ⟨hga, hgb2⟩ : ga < V6.heap.size ∧ gn < W4.heap.size := ⟨(HVO.out.lt ga rfl).2, hgnl⟩
    have hvc := ownRow_cells HVO.out (by omega)
    obtain ⟨_, _, hve, _, _, _, _, hvcell⟩ := hvc
    injection hve with e1 _ e3
    injection e1 with e1
    injection e1 with e1
    subst e1 e3
    have hg1 := volCells_get (volVs R.vols) i (by unfold volVs; rw [List.length_map, ← Hn.out]; exact hi)
    have k0 := (hvcell (i * 2) (by omega)).trans hg1.1
    have k1 := (hvcell (i * 2 + 1) (by omega)).trans hg1.2
    obtain ⟨cur, hvb⟩ : ∃ cur, V6.heap[ga]? = some (.cells cur 52 (0, 0)) := by
      rcases HVO.out.2 with ⟨e, _⟩ | ⟨g', c', cur, e, _, hh, _⟩
      · cases e
      · injection e with e
        injection e with e
        injection e with e
        subst e
        exact ⟨cur, hh⟩
    have HVB := Lib.hid hvb
    have HGG := Lib.hid (And.intro hga (And.intro hgb2 hgnb))
    have lpp : p < V6.heap.size := heap_lt HMS.out
    have lqq : bq < V6.heap.size := heap_lt HNQ6.out
    have nga : bq ≠ ga := by have := heap_lt HNQ.out; omega
    have ngp : p ≠ ga := by omega
    have HK := Lib.hid (And.intro k0 k1)
    clear hvcell hg1 hvb hNQ h5 hVO hgnl k0 k1
    refine wp_region_held_drew (S := fun W' => W'.cell? ⟨p, 2, none⟩ = some (.slice (some ⟨ga, 0, none⟩) n ca) ∧ W'.cell? ⟨bq, 0, none⟩ = some (.int .u64 (id : Int)) ∧ W'.cell? ⟨bq, 1, none⟩ = some (.slice (some ⟨gn, 0, none⟩) (k + 1) nc)) (by kernel_rfl) (by exact ⟨r2, q0, q1⟩) (fun hHeld => ?_)
    refine wpAnyH_take (i := 0) (oi := ?_) (v := ?_) ?_ (by kernel_rfl) (by kernel_rfl) (by kernel_rfl) ?_ (Or.inl ⟨?_, ?_⟩) hHeld ?_
    rotate_left 2
    · (simp only [List.getElem?_toArray, List.getElem?_cons_succ, List.getElem?_cons_zero]; rfl)
    · exact fun _ _ _ h => h
    · rfl
    · (rintro W' ⟨s0, s1, s2⟩; go_simp; first | done | with_reducible rfl)
    try simp only [Act.put, List.setIfInBounds_toArray, List.set_cons_zero, List.set_cons_succ]
    refine wpAnyH_take (i := 1) (oi := ?_) (v := ?_) ?_ (by kernel_rfl) (by kernel_rfl) (by kernel_rfl) ?_ (Or.inl ⟨?_, ?_⟩) hHeld ?_
    rotate_left 2
    · (simp only [List.getElem?_toArray, List.getElem?_cons_succ, List.getElem?_cons_zero]; rfl)
    · exact fun _ _ _ h => h
    · rfl
    · (rintro W' ⟨s0, s1, s2⟩; go_simp; first | done | with_reducible rfl)
    try simp only [Act.put, List.setIfInBounds_toArray, List.set_cons_zero, List.set_cons_succ]
    refine wpAnyH_take (i := 2) (oi := ?_) (v := ?_) ?_ (by kernel_rfl) (by kernel_rfl) (by kernel_rfl) ?_ (Or.inl ⟨?_, ?_⟩) hHeld ?_
    rotate_left 2
    · (simp only [List.getElem?_toArray, List.getElem?_cons_succ, List.getElem?_cons_zero]; rfl)
    · exact fun _ _ _ h => h
    · rfl
    · (rintro W' ⟨s0, s1, s2⟩; go_simp; first | done | with_reducible rfl)
    try simp only [Act.put, List.setIfInBounds_toArray, List.set_cons_zero, List.set_cons_succ]
    refine wpAnyH_take (i := 3) (oi := ?_) (v := ?_) ?_ (by kernel_rfl) (by kernel_rfl) (by kernel_rfl) ?_ (Or.inl ⟨?_, ?_⟩) hHeld ?_
    rotate_left 2
    · (simp only [List.getElem?_toArray, List.getElem?_cons_succ, List.getElem?_cons_zero]; rfl)
    · exact fun _ _ _ h => h
    · rfl
    · (rintro W' ⟨s0, s1, s2⟩; go_simp; first | done | with_reducible rfl)
    try simp only [Act.put, List.setIfInBounds_toArray, List.set_cons_zero, List.set_cons_succ]
    refine wpAnyH_take (i := 4) (oi := ?_) (v := ?_) ?_ (by kernel_rfl) (by kernel_rfl) (by kernel_rfl) ?_ (Or.inl ⟨?_, ?_⟩) hHeld ?_
    rotate_left 2
    · (simp only [List.getElem?_toArray, List.getElem?_cons_succ, List.getElem?_cons_zero]; rfl)
    · exact fun _ _ _ h => h
    · rfl
    · (rintro W' ⟨s0, s1, s2⟩; go_simp; first | done | with_reducible rfl)
    try simp only [Act.put, List.setIfInBounds_toArray, List.set_cons_zero, List.set_cons_succ]
    refine wpAnyH_take (i := 5) (oi := ?_) (v := ?_) ?_ (by kernel_rfl) (by kernel_rfl) (by kernel_rfl) ?_ (Or.inl ⟨?_, ?_⟩) hHeld ?_
    rotate_left 2
    · (simp only [List.getElem?_toArray, List.getElem?_cons_succ, List.getElem?_cons_zero]; rfl)
    · exact fun _ _ _ h => h
    · rfl
    · (rintro W' ⟨s0, s1, s2⟩; go_simp; first | done | with_reducible rfl)
    try simp only [Act.put, List.setIfInBounds_toArray, List.set_cons_zero, List.set_cons_succ]
    refine wpAnyH_take (i := 6) (oi := ?_) (v := ?_) ?_ (by kernel_rfl) (by kernel_rfl) (by kernel_rfl) ?_ (Or.inl ⟨?_, ?_⟩) hHeld ?_
    rotate_left 2
    · (simp only [List.getElem?_toArray, List.getElem?_cons_succ, List.getElem?_cons_zero]; rfl)
    · exact fun _ _ _ h => h
    · rfl
    · (rintro W' ⟨s0, s1, s2⟩; go_simp; first | done | with_reducible rfl)
    try simp only [Act.put, List.setIfInBounds_toArray, List.set_cons_zero, List.set_cons_succ]
    have HC0 := Lib.hid ((Chg.refl [] V6).drew)
    generalize V6.drew = V7 at *
    have lp7 : p < V7.heap.size := Nat.lt_of_lt_of_le lpp HC0.out.size
    have lq7 : bq < V7.heap.size := Nat.lt_of_lt_of_le lqq HC0.out.size
    refine wpAnyH_ready (rs := [7]) (by kernel_rfl) (by simp) ?_
    refine AllReadyH.cons (o := ?_) ?_ (fun K hK => ?_) AllReadyH.nil
    rotate_left 1
    · (simp only [List.getElem?_toArray, List.getElem?_cons_succ, List.getElem?_cons_zero]; rfl)
    · (have hb7 := (HC0.out.block ga hga (by simp)).trans HVB.out; have fa0 := frozen_of_block hb7 (i * 2); have fa1 := frozen_of_block hb7 (i * 2 + 1); have k0 := (HC0.out.cell (p := ⟨ga, i * 2, none⟩) hga (by simp)).trans HK.out.1; have k1 := (HC0.out.cell (p := ⟨ga, i * 2 + 1, none⟩) hga (by simp)).trans HK.out.2; go_simp; have HSET := Lib.hid (ownRow_set2 (i := i) (x := id) (y := .slice (some ⟨gn, 0, none⟩) (k + 1) nc) (l := volVs R.vols) (ownRow_chg HVO.out HC0.out (by simp)) hi); have HC8 : Hid (Chg [ga] V7 ((V7.setCell ⟨ga, i * 2, none⟩ (.int .u64 (id : Int))).setCell ⟨ga, i * 2 + 1, none⟩ (.slice (some ⟨gn, 0, none⟩) (k + 1) nc))) := Lib.hid (((Chg.refl [ga] V7).setCell (.inl (by simp)) _).setCell (.inl (by simp)) _); clear hb7 fa0 fa1 k0 k1; generalize (V7.setCell ⟨ga, i * 2, none⟩ (.int .u64 (id : Int))).setCell ⟨ga, i * 2 + 1, none⟩ (.slice (some ⟨gn, 0, none⟩) (k + 1) nc) = V8 at *)
      refine hK.out _ _ ?_ (fun hHeld => ?_)
      · exact ⟨(HC8.out.cell (p := ⟨p, 2, none⟩) lp7 (by simp [ngp])).trans ((HC0.out.cell (p := ⟨p, 2, none⟩) lpp (by simp)).trans r2), (HC8.out.cell (p := ⟨bq, 0, none⟩) lq7 (by simp [nga])).trans ((HC0.out.cell (p := ⟨bq, 0, none⟩) lqq (by simp)).trans q0), (HC8.out.cell (p := ⟨bq, 1, none⟩) lq7 (by simp [nga])).trans ((HC0.out.cell (p := ⟨bq, 1, none⟩) lqq (by simp)).trans q1)⟩
      clear hK K
      try simp only [Act.put, List.setIfInBounds_toArray, List.set_cons_zero, List.set_cons_succ]
      refine wpAnyH_done (by kernel_rfl) ?_ _
      go_end0
      have hlen : (R.vols.set i (id, .slice (some ⟨gn, 0, none⟩) (k + 1) nc, ps ++ [(qn, qt)])).length = n := by rw [List.length_set, Hn.out]
      have hg4 : w.heap.size ≤ ga := Nat.le_trans HCw.out.size hgb
      have hgn4 : w.heap.size ≤ gn := Nat.le_trans HC2.out.size hgnb
      have hCA : Chg [p] w V5 := (Chg.refl [p] w).then (HCw.out.trans HC5.out) (by simp)
      have hCh : Chg [p] w V8 := ((hCA.then HC5s.out (fun x hx => .inl hx)).then HC0.out (by simp)).then HC8.out (fun x hx => .inr (by simp only [List.mem_singleton] at hx; omega))
      have hs8 := Nat.le_trans HC0.out.size HC8.out.size
      have hs4 := Nat.le_trans HC5.out.size HC5s.out.size
      have hmem : (id, Value.slice pa k pc, ps) ∈ R.vols := by
        have h1 := HT.out
        rw [Hk.out, h1, getElem!_pos R.vols i (by rw [← Hn.out]; exact hi)]
        exact List.getElem_mem _
      refine ⟨rfl, .slice (some ⟨ga, 0, none⟩) (R.vols.set i (id, .slice (some ⟨gn, 0, none⟩) (k + 1) nc, ps ++ [(qn, qt)])).length ca, .slice (some ⟨gn, 0, none⟩) (k + 1) nc, ga :: gn :: L, RefAt.again H.out hCh (fun b hb => by simp [hb]) ?_ ?_ (by simp) ?_ ?_ H.out.size H.out.last (by have := H.out.bv; rw [hlen, Hn.out]; omega), ?_, hCh⟩
      · rw [hlen]
        exact (HC8.out.block p lp7 (by simp [ngp])).trans ((HC0.out.block p lpp (by simp)).trans HMS.out)
      · rw [hlen, volVs_set]
        exact ownRow_base HSET.out
      · intro b hb
        simp only [List.mem_cons] at hb
        rcases hb with rfl | rfl | hb
        · omega
        · omega
        · have := H.out.lt b hb; have := HCw.out.size; omega
      · intro x hx
        rcases List.mem_or_eq_of_mem_set hx with hx | rfl
        · exact .inl hx
        · refine .inr ⟨⟨?_, ?_, ?_⟩, (H.out.ids (id, Value.slice pa k pc, ps) hmem), ?_⟩
          · rw [putCells_app, List.length_append, ← Hk.out]
            exact ownRow_base (ownRow_chg (ownRow_chg HNO6.out HC0.out (by simp)) HC8.out (fun b e => by have : gn = b := Option.some.inj e; simp only [List.mem_singleton]; omega))
          · intro b e
            have : gn = b := Option.some.inj e
            simp [this]
          · intro q hq
            rcases List.mem_append.1 hq with h1 | h1
            · exact HP.out.2.2 q h1
            · rw [List.mem_singleton.1 h1]; exact HQ.out
          · have := H.out.bp (id, Value.slice pa k pc, ps) hmem
            simp only [List.length_append, List.length_cons, List.length_nil] at this ⊢
            omega
      · intro b hb
        simp only [List.mem_cons] at hb
        rcases hb with rfl | rfl | hb
        · exact .inr hg4
        · exact .inr hgn4
        · exact .inl hb

end Go.Proofs.Ytbejcmbdaoakbaa
