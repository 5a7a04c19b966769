/- The reference of layer 24: a string as bytes. -/
import Derived.Test.YtbejcmbdaoakbaaRg7
import Derived.Lib.ConvBytes
import Derived.Test.YtbejcmbdaoakbaaRg8
namespace Go.Proofs.Ytbejcmbdaoakbaa
open Go.RowKit
set_option linter.unusedVariables false
set_option linter.unusedSimpArgs false

theorem convback_at {w : World} {n : Nat} {f : Nat → Nat} (hn : n ≤ 1000000) (hf : ∀ i, i < n → f i < 256) : ∃ c w', (convert 9 24 (.string (bstr n f))).run Try.prog w = .ok (.slice (some ⟨w.heap.size, 0, none⟩) n c) w' ∧ BytesIn w' (some ⟨w.heap.size, 0, none⟩) n c f ∧ Chg [] w w' ∧ w.heap.size < w'.heap.size := by
  have hr := Lib.run_convert_string_bytes (P := Try.prog) w 9 24 5 (bstr n f) Try.underlying9 Try.underlying24 Try.underlying5
  have hs := bstr_size n f
  rw [hs] at hr
  have hG := grownCap_ge w n 0 5
  have hM := grownCap_le_maxLen w n 0 5 (by unfold maxLen; omega)
  refine ⟨_, _, hr, ⟨hG, hM, fun h => (by cases h), fun b hb h0 => ?_⟩, ⟨rfl, rfl, rfl, ?_, fun j hj _ => Lib.bytesWorld_at_old w 5 (bstr n f) j hj⟩, ?_⟩
  · injection hb with hb
    refine ⟨w.heap.size, 0, hb.symm, ?_⟩
    intro i hi
    have h1 := hf i hi
    refine ⟨?_, by omega⟩
    rw [Nat.zero_add, Lib.bytesWorld_cell w 5 (bstr n f) i (by rw [hs]; exact hi)]
    have : ((bstr n f).data.toList.getD i 0).toNat = f i := by
      unfold bstr
      rw [strOfNums_data, List.map_map]
      simp [List.getD, hi]
      omega
    rw [this]
  · rw [Lib.bytesWorld_size]; omega
  · rw [Lib.bytesWorld_size]; omega

end Go.Proofs.Ytbejcmbdaoakbaa
/- The reference of layer 24: Do, a read. (Printed by mkrdo4.py.) -/
namespace Go.Proofs.Ytbejcmbdaoakbaa
open Go.RowKit
set_option linter.unusedVariables false
set_option linter.unusedSimpArgs false

set_option maxRecDepth 20000 in
set_option maxHeartbeats 4000000 in
theorem rdo_readN {L : List Nat} {B : Nat} {w : World} {p i vol pl n dl dc : Nat} {da : Option Addr} {vv : Value} {R : RSt} (h : RefAt L B w p vv R) (hB : B ≤ 1000000) (hix : ixOf R.vols vol = (i : Int)) (hi : i < R.vols.length) (hbk : blockOf (R.vols[i]!).2.2 pl = ⟨#[]⟩) (hw : wrongR R 4 vol pl n dl = 0) :
    Calls Try.prog 18 #[.pointer (some ⟨p, 0, none⟩), .agg #[.int .u8 4, .int .u64 (vol : Int), .int .u64 (pl : Int), .int .u64 (n : Int), .slice da dl dc]] w fun e w' => ∃ a c, e = .returned (repV 0 0 (.slice a 128 c) 0) ∧ BytesIn w' a 128 c (fun _ => 0) ∧ (∀ b, a = some b → w.heap.size ≤ b.block) ∧ Chg [] w w' := by
  obtain ⟨va, vc, hvv, _, _⟩ := ownRow_slice h.vols
  subst hvv
  have HBK0 := Lib.hid hbk
  have HPP := Lib.hid hi
  clear hbk
  have HIX := Lib.hid hix
  clear hix
  have H := Lib.hid h
  have HBN := Lib.hid hB
  have HWR := Lib.hid hw
  clear h hB hw
  go_enter Try.func18, Try.ntmps18
  go_upto_region 1 with fail
  have h3 := (Chg.refl [] w).alloc (.cells #[.int .u8 4, .int .u64 (vol : Int), .int .u64 (pl : Int), .int .u64 (n : Int), .slice da dl dc] 26)
  have h4 := (Chg.refl [] (w.alloc (.cells #[.int .u8 4, .int .u64 (vol : Int), .int .u64 (pl : Int), .int .u64 (n : Int), .slice da dl dc] 26))).alloc (.cells #[.int .i64 0, .int .u64 0, .slice none 0 0, .int .i64 0] 32)
  have n3 := new_block w (.cells #[.int .u8 4, .int .u64 (vol : Int), .int .u64 (pl : Int), .int .u64 (n : Int), .slice da dl dc] 26)
  have n4 := new_block (w.alloc (.cells #[.int .u8 4, .int .u64 (vol : Int), .int .u64 (pl : Int), .int .u64 (n : Int), .slice da dl dc] 26)) (.cells #[.int .i64 0, .int .u64 0, .slice none 0 0, .int .i64 0] 32)
  have n3 := (h4.block _ (heap_lt n3) (by simp)).trans n3
  have hsz := size_alloc' w (.cells #[.int .u8 4, .int .u64 (vol : Int), .int .u64 (pl : Int), .int .u64 (n : Int), .slice da dl dc] 26)
  rw [hsz] at n4
  have HC := Lib.hid (h3.trans h4)
  obtain ⟨b4, hb4⟩ : ∃ b4, b4 = w.heap.size + 1 := ⟨_, rfl⟩
  rw [← hb4] at n4
  have HN := Lib.hid (And.intro n3 (And.intro n4 hb4))
  clear h3 h4 n3 n4 hsz
  generalize hWW : (w.alloc (.cells #[.int .u8 4, .int .u64 (vol : Int), .int .u64 (pl : Int), .int .u64 (n : Int), .slice da dl dc] 26)).alloc (.cells #[.int .i64 0, .int .u64 0, .slice none 0 0, .int .i64 0] 32) = W at *
  obtain ⟨b3, hb3⟩ : ∃ b3, b3 = w.heap.size := ⟨_, rfl⟩
  have HB3 := Lib.hid hb3
  rw [← hb4, ← hb3]
  clear hWW hb3 hb4
  have hR := H.out.chg HC.out (by simp)
  have HW : Hid (Calls Try.prog 35 #[.pointer (some ⟨p, 0, none⟩), .agg #[.int .u8 4, .int .u64 (vol : Int), .int .u64 (pl : Int), .int .u64 (n : Int), .slice da dl dc]] W fun e w' => e = .returned (.int .i64 ((wrongR R 4 vol pl n dl : Nat) : Int)) ∧ Chg [] W w') := Lib.hid (r24wrong_at (code := 4) hR HBN.out (by omega))
  have n3 : W.heap[b3]? = some (.cells #[.int .u8 4, .int .u64 (vol : Int), .int .u64 (pl : Int), .int .u64 (n : Int), .slice da dl dc] 26 (0, 0)) := by rw [HB3.out]; exact HN.out.1
  have n4 := HN.out.2.1
  have x0 := cell_of_block n3 0
  have x1 := cell_of_block n3 1
  have x2 := cell_of_block n3 2
  have x3 := cell_of_block n3 3
  have x4 := cell_of_block n3 4
  simp only [List.getElem?_toArray, List.getElem?_cons_zero, List.getElem?_cons_succ] at x0 x1 x2 x3 x4
  clear hR n3 n4
  go_wp2_with fail
  refine HW.out.mono ?_
  rintro e w2 ⟨rfl, hC2⟩
  rw [HWR.out]
  have HC2 := Lib.hid (HC.out.trans hC2)
  have hR := H.out.chg HC2.out (by simp)
  have n3 : w2.heap[b3]? = some (.cells #[.int .u8 4, .int .u64 (vol : Int), .int .u64 (pl : Int), .int .u64 (n : Int), .slice da dl dc] 26 (0, 0)) := by rw [HB3.out]; exact (hC2.block _ (heap_lt HN.out.1) (by simp)).trans HN.out.1
  have n4 := (hC2.block _ (heap_lt HN.out.2.1) (by simp)).trans HN.out.2.1
  have hp2 := hR.blk
  have HR2 := Lib.hid hR
  have HN3 := Lib.hid n3
  have HN4 := Lib.hid n4
  have hb4w : w.heap.size ≤ b4 := by have := HN.out.2.2; omega
  have hpb : p ≠ b4 := by have := H.out.heap_p; omega
  have hpb3 : p ≠ b3 := by have := H.out.heap_p; have := HB3.out; omega
  clear hR hC2 x0 x1 x2 x3 x4 HW
  have x0 := cell_of_block n3 0
  have x1 := cell_of_block n3 1
  have x2 := cell_of_block n3 2
  have x3 := cell_of_block n3 3
  have x4 := cell_of_block n3 4
  simp only [List.getElem?_toArray, List.getElem?_cons_zero, List.getElem?_cons_succ] at x0 x1 x2 x3 x4
  have y0 := cell_of_block n4 0
  have y1 := cell_of_block n4 1
  have y2 := cell_of_block n4 2
  have y3 := cell_of_block n4 3
  simp only [List.getElem?_toArray, List.getElem?_cons_zero, List.getElem?_cons_succ] at y0 y1 y2 y3
  have m0 := cell_of_block hp2 0
  have m1 := cell_of_block hp2 1
  have m2 := cell_of_block hp2 2
  simp only [List.getElem?_toArray, List.getElem?_cons_zero, List.getElem?_cons_succ] at m0 m1 m2
  have f0 := frozen_of_block n4 0
  have f1 := frozen_of_block n4 1
  have f2 := frozen_of_block n4 2
  have f3 := frozen_of_block n4 3
  clear n3 n4 hp2
  obtain ⟨g, c, hvg, hgc, hgL, c0, c1⟩ := HR2.out.cell hi
  injection hvg with e1 _ e3
  subst e1 e3
  have hmem : R.vols[i]! ∈ R.vols := by rw [getElem!_pos R.vols i hi]; exact List.getElem_mem _
  have hpu := HR2.out.puts _ hmem
  have hbp := HR2.out.bp _ hmem
  obtain ⟨t, ht⟩ : ∃ t, t = R.vols[i]! := ⟨_, rfl⟩
  rw [← ht] at hpu hbp c0 c1
  have HT := Lib.hid ht
  clear ht
  obtain ⟨id, pv, ps⟩ := t
  simp only at hpu hbp c0 c1
  obtain ⟨pa, pk, hpv, _, _⟩ := ownRow_slice hpu.1
  obtain ⟨kn, hkn⟩ : ∃ k, k = ps.length := ⟨_, rfl⟩
  rw [← hkn] at hpv
  subst hpv
  have HPU := Lib.hid hpu
  have HBP := Lib.hid hbp
  have HKN := Lib.hid hkn
  obtain ⟨nv, hnv⟩ : ∃ k, k = R.vols.length := ⟨_, rfl⟩
  rw [← hnv] at m2 hgc hi
  have HNV := Lib.hid hnv
  have i1 : (i : Int) < (nv : Int) := by omega
  have hlen6 : ps.length ≤ 1000000 := Nat.le_trans hbp HBN.out
  obtain ⟨st, hst⟩ : ∃ st, st = blockOf ps pl := ⟨_, rfl⟩
  have hblk := r24Block_at (id := id) (x := pl) (HPU.out.chg ((Chg.refl [] w2).drew) (by simp)) hlen6
  rw [← hst] at hblk
  have HBLK := Lib.hid hblk
  have HST : Hid (st = blockOf (R.vols[i]!).2.2 pl) := Lib.hid (by rw [← HT.out]; exact hst)
  have lp : p < w2.heap.size := World.block_lt_of_cell? w2 ⟨p, 2, none⟩ m2
  have lg : g < w2.heap.size := World.block_lt_of_cell? w2 ⟨g, i * 2, none⟩ c0
  have l3 : b3 < w2.heap.size := World.block_lt_of_cell? w2 ⟨b3, 2, none⟩ x2
  clear hmem hpu hbp hkn hnv hblk hst
  have HAT := Lib.hid (r24at_at (v := vol) HR2.out HBN.out)
  go_wp2_with fail
  refine HAT.out.mono ?_
  rintro e w3 ⟨rfl, rfl⟩
  rw [HIX.out]
  clear HAT
  go_upto_region 13 with fail
  go_cut [7] (fun s wz => s = .string st ∧ Hid (Chg [] w2 wz))
  case first =>
    refine wp_region_held_drew (S := fun W' => W'.cell? ⟨p, 2, none⟩ = some (.slice (some ⟨g, 0, none⟩) nv vc) ∧ W'.cell? ⟨g, i * 2, none⟩ = some (.int .u64 (id : Int)) ∧ W'.cell? ⟨g, i * 2 + 1, none⟩ = some (.slice pa kn pk) ∧ W'.cell? ⟨b3, 2, none⟩ = some (.int .u64 (pl : Int))) (by kernel_rfl) (by exact ⟨m2, c0, c1, x2⟩) (fun hHeld => ?_)
    refine wpAnyH_take (i := 0) (oi := ?_) (v := ?_) ?_ (by kernel_rfl) (by kernel_rfl) (by kernel_rfl) ?_ (Or.inl ⟨?_, ?_⟩) hHeld ?_
    rotate_left 2
    · (simp only [List.getElem?_toArray, List.getElem?_cons_succ, List.getElem?_cons_zero]; rfl)
    · exact fun _ _ _ h => h
    · rfl
    · (rintro W' ⟨s0, s1, s2, s3⟩; go_simp; first | done | with_reducible rfl)
    try simp only [Act.put, List.setIfInBounds_toArray, List.set_cons_zero, List.set_cons_succ]
    refine wpAnyH_take (i := 1) (oi := ?_) (v := ?_) ?_ (by kernel_rfl) (by kernel_rfl) (by kernel_rfl) ?_ (Or.inl ⟨?_, ?_⟩) hHeld ?_
    rotate_left 2
    · (simp only [List.getElem?_toArray, List.getElem?_cons_succ, List.getElem?_cons_zero]; rfl)
    · exact fun _ _ _ h => h
    · rfl
    · (rintro W' ⟨s0, s1, s2, s3⟩; go_simp; first | done | with_reducible rfl)
    try simp only [Act.put, List.setIfInBounds_toArray, List.set_cons_zero, List.set_cons_succ]
    refine wpAnyH_take (i := 2) (oi := ?_) (v := ?_) ?_ (by kernel_rfl) (by kernel_rfl) (by kernel_rfl) ?_ (Or.inl ⟨?_, ?_⟩) hHeld ?_
    rotate_left 2
    · (simp only [List.getElem?_toArray, List.getElem?_cons_succ, List.getElem?_cons_zero]; rfl)
    · exact fun _ _ _ h => h
    · rfl
    · (rintro W' ⟨s0, s1, s2, s3⟩; go_simp; first | done | with_reducible rfl)
    try simp only [Act.put, List.setIfInBounds_toArray, List.set_cons_zero, List.set_cons_succ]
    refine wpAnyH_take (i := 3) (oi := ?_) (v := ?_) ?_ (by kernel_rfl) (by kernel_rfl) (by kernel_rfl) ?_ (Or.inl ⟨?_, ?_⟩) hHeld ?_
    rotate_left 2
    · (simp only [List.getElem?_toArray, List.getElem?_cons_succ, List.getElem?_cons_zero]; rfl)
    · exact fun _ _ _ h => h
    · rfl
    · (rintro W' ⟨s0, s1, s2, s3⟩; go_simp; first | done | with_reducible rfl)
    try simp only [Act.put, List.setIfInBounds_toArray, List.set_cons_zero, List.set_cons_succ]
    refine wpAnyH_take (i := 4) (oi := ?_) (v := ?_) ?_ (by kernel_rfl) (by kernel_rfl) (by kernel_rfl) ?_ (Or.inl ⟨?_, ?_⟩) hHeld ?_
    rotate_left 2
    · (simp only [List.getElem?_toArray, List.getElem?_cons_succ, List.getElem?_cons_zero]; rfl)
    · exact fun _ _ _ h => h
    · rfl
    · (rintro W' ⟨s0, s1, s2, s3⟩; go_simp; first | done | with_reducible rfl)
    try simp only [Act.put, List.setIfInBounds_toArray, List.set_cons_zero, List.set_cons_succ]
    refine wpAnyH_take (i := 5) (oi := ?_) (v := ?_) ?_ (by kernel_rfl) (by kernel_rfl) (by kernel_rfl) ?_ (Or.inl ⟨?_, ?_⟩) hHeld ?_
    rotate_left 2
    · (simp only [List.getElem?_toArray, List.getElem?_cons_succ, List.getElem?_cons_zero]; rfl)
    · exact fun _ _ _ h => h
    · rfl
    · (rintro W' ⟨s0, s1, s2, s3⟩; go_simp; first | done | with_reducible rfl)
    try simp only [Act.put, List.setIfInBounds_toArray, List.set_cons_zero, List.set_cons_succ]
    refine wpAnyH_take (i := 6) (oi := ?_) (v := ?_) ?_ (by kernel_rfl) (by kernel_rfl) (by kernel_rfl) ?_ (Or.inl ⟨?_, ?_⟩) hHeld ?_
    rotate_left 2
    · (simp only [List.getElem?_toArray, List.getElem?_cons_succ, List.getElem?_cons_zero]; rfl)
    · exact fun _ _ _ h => h
    · rfl
    · (rintro W' ⟨s0, s1, s2, s3⟩; go_simp; first | done | with_reducible rfl)
    try simp only [Act.put, List.setIfInBounds_toArray, List.set_cons_zero, List.set_cons_succ]
    refine wpAnyH_take (i := 7) (oi := ?_) (v := ?_) ?_ (by kernel_rfl) (by kernel_rfl) (by kernel_rfl) ?_ (Or.inl ⟨?_, ?_⟩) hHeld ?_
    rotate_left 2
    · (simp only [List.getElem?_toArray, List.getElem?_cons_succ, List.getElem?_cons_zero]; rfl)
    · exact fun _ _ _ h => h
    · rfl
    · (rintro W' ⟨s0, s1, s2, s3⟩; go_simp; first | done | with_reducible rfl)
    try simp only [Act.put, List.setIfInBounds_toArray, List.set_cons_zero, List.set_cons_succ]
    refine wpAnyH_take (i := 8) (oi := ?_) (v := ?_) ?_ (by kernel_rfl) (by kernel_rfl) (by kernel_rfl) ?_ (Or.inl ⟨?_, ?_⟩) hHeld ?_
    rotate_left 2
    · (simp only [List.getElem?_toArray, List.getElem?_cons_succ, List.getElem?_cons_zero]; rfl)
    · exact fun _ _ _ h => h
    · rfl
    · (rintro W' ⟨s0, s1, s2, s3⟩; go_simp; first | done | with_reducible rfl)
    try simp only [Act.put, List.setIfInBounds_toArray, List.set_cons_zero, List.set_cons_succ]
    refine wpAnyH_ready (rs := [9]) (by kernel_rfl) (by simp) ?_
    refine AllReadyH.cons (o := ?_) ?_ (fun K hK => ?_) AllReadyH.nil
    rotate_left 1
    · (simp only [List.getElem?_toArray, List.getElem?_cons_succ, List.getElem?_cons_zero]; rfl)
    go_simp
    (refine HBLK.out.mono ?_; rintro e w9 ⟨rfl, hC9⟩; have HC9 := Lib.hid (((Chg.refl [] w2).drew).trans hC9); clear hC9 HBLK)
    refine hK.out _ _ ?_ (fun hHeld => ?_)
    · exact ⟨(HC9.out.cell (p := ⟨p, 2, none⟩) lp (by simp)).trans m2, (HC9.out.cell (p := ⟨g, i * 2, none⟩) lg (by simp)).trans c0, (HC9.out.cell (p := ⟨g, i * 2 + 1, none⟩) lg (by simp)).trans c1, (HC9.out.cell (p := ⟨b3, 2, none⟩) l3 (by simp)).trans x2⟩
    clear hK K
    try simp only [Act.put, List.setIfInBounds_toArray, List.set_cons_zero, List.set_cons_succ]
    refine wpAnyH_take (i := 10) (oi := ?_) (v := ?_) ?_ (by kernel_rfl) (by kernel_rfl) (by kernel_rfl) ?_ (Or.inl ⟨?_, ?_⟩) hHeld ?_
    rotate_left 2
    · (simp only [List.getElem?_toArray, List.getElem?_cons_succ, List.getElem?_cons_zero]; rfl)
    · exact fun _ _ _ h => h
    · rfl
    · (rintro W' ⟨s0, s1, s2, s3⟩; go_simp; first | done | with_reducible rfl)
    try simp only [Act.put, List.setIfInBounds_toArray, List.set_cons_zero, List.set_cons_succ]
    refine wpAnyH_done (by kernel_rfl) ?_ _
    go_wp2_with fail
    go_meet
    exact ⟨rfl, HC9.out⟩
  case rest =>
    obtain ⟨rfl, hX⟩ := hcut
    rename World => w4
    have HX := Lib.hid hX.out
    clear hX y0 y1 y2 y3 f0 f1 f2 f3 m0 m1 m2 c0 c1 x0 x1 x2 x3 x4 HBLK
    have hse : st = ⟨#[]⟩ := by rw [HST.out]; exact HBK0.out
    subst hse
    go_wp2_with fail
    refine (r24noughts_at (w := w4)).mono ?_
    rintro e w5 ⟨rfl, hC5⟩
    have HX5 := Lib.hid (HX.out.trans hC5)
    obtain ⟨cc, w6, hrun, hB6, hC6, hl6⟩ := convback_at (w := w5) (n := 128) (f := fun _ => 0) (by omega) (fun _ _ => by omega)
    clear hC5
    obtain ⟨ba, hba⟩ : ∃ ba, ba = w5.heap.size := ⟨_, rfl⟩
    rw [← hba] at hrun hB6
    have HBA := Lib.hid hba
    have HB6 := Lib.hid hB6
    have HX6 := Lib.hid (HX5.out.trans hC6)
    have HL6 := Lib.hid hl6
    clear hba hB6 hC6 hl6
    have hn6 := (HX6.out.block b4 (heap_lt HN4.out) (by simp)).trans HN4.out
    have HN6 := Lib.hid hn6
    have y0 := cell_of_block hn6 0
    have y1 := cell_of_block hn6 1
    have y2 := cell_of_block hn6 2
    have y3 := cell_of_block hn6 3
    simp only [List.getElem?_toArray, List.getElem?_cons_zero, List.getElem?_cons_succ] at y0 y1 y2 y3
    have f0 := frozen_of_block hn6 0
    have f1 := frozen_of_block hn6 1
    have f2 := frozen_of_block hn6 2
    have f3 := frozen_of_block hn6 3
    clear hn6
    go_wp2_with fail
    have h4 : (((((w6).setCell ⟨b4, 0, none⟩ (.int .i64 0)).setCell ⟨b4, 1, none⟩ (.int .u64 0)).setCell ⟨b4, 2, none⟩ (.slice (some ⟨ba, 0, none⟩) 128 cc)).setCell ⟨b4, 3, none⟩ (.int .i64 0)).heap[b4]? = some (.cells #[.int .i64 0, .int .u64 0, .slice (some ⟨ba, 0, none⟩) 128 cc, .int .i64 0] 32 (0, 0)) := setCell_block (setCell_block (setCell_block (setCell_block (HN6.out) 0 (.int .i64 0)) 1 (.int .u64 0)) 2 (.slice (some ⟨ba, 0, none⟩) 128 cc)) 3 (.int .i64 0)
    have hC5 : Chg [b4] w6 (((((w6).setCell ⟨b4, 0, none⟩ (.int .i64 0)).setCell ⟨b4, 1, none⟩ (.int .u64 0)).setCell ⟨b4, 2, none⟩ (.slice (some ⟨ba, 0, none⟩) 128 cc)).setCell ⟨b4, 3, none⟩ (.int .i64 0)) := ((((Chg.refl [b4] w6).setCell (.inl (by simp)) _).setCell (.inl (by simp)) _).setCell (.inl (by simp)) _).setCell (.inl (by simp)) _
    clear f0 f1 f2 f3 hrun y0 y1 y2 y3
    generalize ((((w6).setCell ⟨b4, 0, none⟩ (.int .i64 0)).setCell ⟨b4, 1, none⟩ (.int .u64 0)).setCell ⟨b4, 2, none⟩ (.slice (some ⟨ba, 0, none⟩) 128 cc)).setCell ⟨b4, 3, none⟩ (.int .i64 0) = W5 at *
    have z0 := cell_of_block h4 0
    have z1 := cell_of_block h4 1
    have z2 := cell_of_block h4 2
    have z3 := cell_of_block h4 3
    simp only [List.getElem?_toArray, List.getElem?_cons_zero, List.getElem?_cons_succ] at z0 z1 z2 z3
    (try simp only [Exit.inBlock, Exit.then])
    refine bodyPost_ret (v := repV 0 0 (.slice (some ⟨ba, 0, none⟩) 128 cc) 0) (by simp [results, Try.results18, go_sem, repV, z0, z1, z2, z3]) rfl ?_
    have hba4 : ba ≠ b4 := by have := HBA.out; have := heap_lt HN4.out; have := HX5.out.size; omega
    exact ⟨_, _, rfl, HB6.out.chg hC5 (fun _ b e => by injection e with e; rw [← e]; simp [hba4]), fun b e => by injection e with e; rw [← e]; have := HBA.out; have := HX5.out.size; have := HC2.out.size; simp only; omega, (HC2.out.trans HX6.out).then hC5 (fun x hx => .inr (by simp only [List.mem_singleton] at hx; rw [hx]; exact hb4w))⟩

set_option maxRecDepth 20000 in
set_option maxHeartbeats 4000000 in
theorem rdo_readS {L : List Nat} {B : Nat} {w : World} {p i vol pl n dl dc : Nat} {da : Option Addr} {vv : Value} {R : RSt} {f : Nat → Nat} (h : RefAt L B w p vv R) (hB : B ≤ 1000000) (hix : ixOf R.vols vol = (i : Int)) (hi : i < R.vols.length) (hf : ∀ i, i < 128 → f i < 256) (hbk : blockOf (R.vols[i]!).2.2 pl = bstr 128 f) (hw : wrongR R 4 vol pl n dl = 0) :
    Calls Try.prog 18 #[.pointer (some ⟨p, 0, none⟩), .agg #[.int .u8 4, .int .u64 (vol : Int), .int .u64 (pl : Int), .int .u64 (n : Int), .slice da dl dc]] w fun e w' => ∃ a c, e = .returned (repV 0 0 (.slice a 128 c) 0) ∧ BytesIn w' a 128 c f ∧ (∀ b, a = some b → w.heap.size ≤ b.block) ∧ Chg [] w w' := by
  obtain ⟨va, vc, hvv, _, _⟩ := ownRow_slice h.vols
  subst hvv
  have HBK0 := Lib.hid hbk
  have HPP := Lib.hid hi
  clear hbk
  have HF := Lib.hid hf
  clear hf
  have HIX := Lib.hid hix
  clear hix
  have H := Lib.hid h
  have HBN := Lib.hid hB
  have HWR := Lib.hid hw
  clear h hB hw
  go_enter Try.func18, Try.ntmps18
  go_upto_region 1 with fail
  have h3 := (Chg.refl [] w).alloc (.cells #[.int .u8 4, .int .u64 (vol : Int), .int .u64 (pl : Int), .int .u64 (n : Int), .slice da dl dc] 26)
  have h4 := (Chg.refl [] (w.alloc (.cells #[.int .u8 4, .int .u64 (vol : Int), .int .u64 (pl : Int), .int .u64 (n : Int), .slice da dl dc] 26))).alloc (.cells #[.int .i64 0, .int .u64 0, .slice none 0 0, .int .i64 0] 32)
  have n3 := new_block w (.cells #[.int .u8 4, .int .u64 (vol : Int), .int .u64 (pl : Int), .int .u64 (n : Int), .slice da dl dc] 26)
  have n4 := new_block (w.alloc (.cells #[.int .u8 4, .int .u64 (vol : Int), .int .u64 (pl : Int), .int .u64 (n : Int), .slice da dl dc] 26)) (.cells #[.int .i64 0, .int .u64 0, .slice none 0 0, .int .i64 0] 32)
  have n3 := (h4.block _ (heap_lt n3) (by simp)).trans n3
  have hsz := size_alloc' w (.cells #[.int .u8 4, .int .u64 (vol : Int), .int .u64 (pl : Int), .int .u64 (n : Int), .slice da dl dc] 26)
  rw [hsz] at n4
  have HC := Lib.hid (h3.trans h4)
  obtain ⟨b4, hb4⟩ : ∃ b4, b4 = w.heap.size + 1 := ⟨_, rfl⟩
  rw [← hb4] at n4
  have HN := Lib.hid (And.intro n3 (And.intro n4 hb4))
  clear h3 h4 n3 n4 hsz
  generalize hWW : (w.alloc (.cells #[.int .u8 4, .int .u64 (vol : Int), .int .u64 (pl : Int), .int .u64 (n : Int), .slice da dl dc] 26)).alloc (.cells #[.int .i64 0, .int .u64 0, .slice none 0 0, .int .i64 0] 32) = W at *
  obtain ⟨b3, hb3⟩ : ∃ b3, b3 = w.heap.size := ⟨_, rfl⟩
  have HB3 := Lib.hid hb3
  rw [← hb4, ← hb3]
  clear hWW hb3 hb4
  have hR := H.out.chg HC.out (by simp)
  have HW : Hid (Calls Try.prog 35 #[.pointer (some ⟨p, 0, none⟩), .agg #[.int .u8 4, .int .u64 (vol : Int), .int .u64 (pl : Int), .int .u64 (n : Int), .slice da dl dc]] W fun e w' => e = .returned (.int .i64 ((wrongR R 4 vol pl n dl : Nat) : Int)) ∧ Chg [] W w') := Lib.hid (r24wrong_at (code := 4) hR HBN.out (by omega))
  have n3 : W.heap[b3]? = some (.cells #[.int .u8 4, .int .u64 (vol : Int), .int .u64 (pl : Int), .int .u64 (n : Int), .slice da dl dc] 26 (0, 0)) := by rw [HB3.out]; exact HN.out.1
  have n4 := HN.out.2.1
  have x0 := cell_of_block n3 0
  have x1 := cell_of_block n3 1
  have x2 := cell_of_block n3 2
  have x3 := cell_of_block n3 3
  have x4 := cell_of_block n3 4
  simp only [List.getElem?_toArray, List.getElem?_cons_zero, List.getElem?_cons_succ] at x0 x1 x2 x3 x4
  clear hR n3 n4
  go_wp2_with fail
  refine HW.out.mono ?_
  rintro e w2 ⟨rfl, hC2⟩
  rw [HWR.out]
  have HC2 := Lib.hid (HC.out.trans hC2)
  have hR := H.out.chg HC2.out (by simp)
  have n3 : w2.heap[b3]? = some (.cells #[.int .u8 4, .int .u64 (vol : Int), .int .u64 (pl : Int), .int .u64 (n : Int), .slice da dl dc] 26 (0, 0)) := by rw [HB3.out]; exact (hC2.block _ (heap_lt HN.out.1) (by simp)).trans HN.out.1
  have n4 := (hC2.block _ (heap_lt HN.out.2.1) (by simp)).trans HN.out.2.1
  have hp2 := hR.blk
  have HR2 := Lib.hid hR
  have HN3 := Lib.hid n3
  have HN4 := Lib.hid n4
  have hb4w : w.heap.size ≤ b4 := by have := HN.out.2.2; omega
  have hpb : p ≠ b4 := by have := H.out.heap_p; omega
  have hpb3 : p ≠ b3 := by have := H.out.heap_p; have := HB3.out; omega
  clear hR hC2 x0 x1 x2 x3 x4 HW
  have x0 := cell_of_block n3 0
  have x1 := cell_of_block n3 1
  have x2 := cell_of_block n3 2
  have x3 := cell_of_block n3 3
  have x4 := cell_of_block n3 4
  simp only [List.getElem?_toArray, List.getElem?_cons_zero, List.getElem?_cons_succ] at x0 x1 x2 x3 x4
  have y0 := cell_of_block n4 0
  have y1 := cell_of_block n4 1
  have y2 := cell_of_block n4 2
  have y3 := cell_of_block n4 3
  simp only [List.getElem?_toArray, List.getElem?_cons_zero, List.getElem?_cons_succ] at y0 y1 y2 y3
  have m0 := cell_of_block hp2 0
  have m1 := cell_of_block hp2 1
  have m2 := cell_of_block hp2 2
  simp only [List.getElem?_toArray, List.getElem?_cons_zero, List.getElem?_cons_succ] at m0 m1 m2
  have f0 := frozen_of_block n4 0
  have f1 := frozen_of_block n4 1
  have f2 := frozen_of_block n4 2
  have f3 := frozen_of_block n4 3
  clear n3 n4 hp2
  obtain ⟨g, c, hvg, hgc, hgL, c0, c1⟩ := HR2.out.cell hi
  injection hvg with e1 _ e3
  subst e1 e3
  have hmem : R.vols[i]! ∈ R.vols := by rw [getElem!_pos R.vols i hi]; exact List.getElem_mem _
  have hpu := HR2.out.puts _ hmem
  have hbp := HR2.out.bp _ hmem
  obtain ⟨t, ht⟩ : ∃ t, t = R.vols[i]! := ⟨_, rfl⟩
  rw [← ht] at hpu hbp c0 c1
  have HT := Lib.hid ht
  clear ht
  obtain ⟨id, pv, ps⟩ := t
  simp only at hpu hbp c0 c1
  obtain ⟨pa, pk, hpv, _, _⟩ := ownRow_slice hpu.1
  obtain ⟨kn, hkn⟩ : ∃ k, k = ps.length := ⟨_, rfl⟩
  rw [← hkn] at hpv
  subst hpv
  have HPU := Lib.hid hpu
  have HBP := Lib.hid hbp
  have HKN := Lib.hid hkn
  obtain ⟨nv, hnv⟩ : ∃ k, k = R.vols.length := ⟨_, rfl⟩
  rw [← hnv] at m2 hgc hi
  have HNV := Lib.hid hnv
  have i1 : (i : Int) < (nv : Int) := by omega
  have hlen6 : ps.length ≤ 1000000 := Nat.le_trans hbp HBN.out
  obtain ⟨st, hst⟩ : ∃ st, st = blockOf ps pl := ⟨_, rfl⟩
  have hblk := r24Block_at (id := id) (x := pl) (HPU.out.chg ((Chg.refl [] w2).drew) (by simp)) hlen6
  rw [← hst] at hblk
  have HBLK := Lib.hid hblk
  have HST : Hid (st = blockOf (R.vols[i]!).2.2 pl) := Lib.hid (by rw [← HT.out]; exact hst)
  have lp : p < w2.heap.size := World.block_lt_of_cell? w2 ⟨p, 2, none⟩ m2
  have lg : g < w2.heap.size := World.block_lt_of_cell? w2 ⟨g, i * 2, none⟩ c0
  have l3 : b3 < w2.heap.size := World.block_lt_of_cell? w2 ⟨b3, 2, none⟩ x2
  clear hmem hpu hbp hkn hnv hblk hst
  have HAT := Lib.hid (r24at_at (v := vol) HR2.out HBN.out)
  go_wp2_with fail
  refine HAT.out.mono ?_
  rintro e w3 ⟨rfl, rfl⟩
  rw [HIX.out]
  clear HAT
  go_upto_region 13 with fail
  go_cut [7] (fun s wz => s = .string st ∧ Hid (Chg [] w2 wz))
  case first =>
    refine wp_region_held_drew (S := fun W' => W'.cell? ⟨p, 2, none⟩ = some (.slice (some ⟨g, 0, none⟩) nv vc) ∧ W'.cell? ⟨g, i * 2, none⟩ = some (.int .u64 (id : Int)) ∧ W'.cell? ⟨g, i * 2 + 1, none⟩ = some (.slice pa kn pk) ∧ W'.cell? ⟨b3, 2, none⟩ = some (.int .u64 (pl : Int))) (by kernel_rfl) (by exact ⟨m2, c0, c1, x2⟩) (fun hHeld => ?_)
    refine wpAnyH_take (i := 0) (oi := ?_) (v := ?_) ?_ (by kernel_rfl) (by kernel_rfl) (by kernel_rfl) ?_ (Or.inl ⟨?_, ?_⟩) hHeld ?_
    rotate_left 2
    · (simp only [List.getElem?_toArray, List.getElem?_cons_succ, List.getElem?_cons_zero]; rfl)
    · exact fun _ _ _ h => h
    · rfl
    · (rintro W' ⟨s0, s1, s2, s3⟩; go_simp; first | done | with_reducible rfl)
    try simp only [Act.put, List.setIfInBounds_toArray, List.set_cons_zero, List.set_cons_succ]
    refine wpAnyH_take (i := 1) (oi := ?_) (v := ?_) ?_ (by kernel_rfl) (by kernel_rfl) (by kernel_rfl) ?_ (Or.inl ⟨?_, ?_⟩) hHeld ?_
    rotate_left 2
    · (simp only [List.getElem?_toArray, List.getElem?_cons_succ, List.getElem?_cons_zero]; rfl)
    · exact fun _ _ _ h => h
    · rfl
    · (rintro W' ⟨s0, s1, s2, s3⟩; go_simp; first | done | with_reducible rfl)
    try simp only [Act.put, List.setIfInBounds_toArray, List.set_cons_zero, List.set_cons_succ]
    refine wpAnyH_take (i := 2) (oi := ?_) (v := ?_) ?_ (by kernel_rfl) (by kernel_rfl) (by kernel_rfl) ?_ (Or.inl ⟨?_, ?_⟩) hHeld ?_
    rotate_left 2
    · (simp only [List.getElem?_toArray, List.getElem?_cons_succ, List.getElem?_cons_zero]; rfl)
    · exact fun _ _ _ h => h
    · rfl
    · (rintro W' ⟨s0, s1, s2, s3⟩; go_simp; first | done | with_reducible rfl)
    try simp only [Act.put, List.setIfInBounds_toArray, List.set_cons_zero, List.set_cons_succ]
    refine wpAnyH_take (i := 3) (oi := ?_) (v := ?_) ?_ (by kernel_rfl) (by kernel_rfl) (by kernel_rfl) ?_ (Or.inl ⟨?_, ?_⟩) hHeld ?_
    rotate_left 2
    · (simp only [List.getElem?_toArray, List.getElem?_cons_succ, List.getElem?_cons_zero]; rfl)
    · exact fun _ _ _ h => h
    · rfl
    · (rintro W' ⟨s0, s1, s2, s3⟩; go_simp; first | done | with_reducible rfl)
    try simp only [Act.put, List.setIfInBounds_toArray, List.set_cons_zero, List.set_cons_succ]
    refine wpAnyH_take (i := 4) (oi := ?_) (v := ?_) ?_ (by kernel_rfl) (by kernel_rfl) (by kernel_rfl) ?_ (Or.inl ⟨?_, ?_⟩) hHeld ?_
    rotate_left 2
    · (simp only [List.getElem?_toArray, List.getElem?_cons_succ, List.getElem?_cons_zero]; rfl)
    · exact fun _ _ _ h => h
    · rfl
    · (rintro W' ⟨s0, s1, s2, s3⟩; go_simp; first | done | with_reducible rfl)
    try simp only [Act.put, List.setIfInBounds_toArray, List.set_cons_zero, List.set_cons_succ]
    refine wpAnyH_take (i := 5) (oi := ?_) (v := ?_) ?_ (by kernel_rfl) (by kernel_rfl) (by kernel_rfl) ?_ (Or.inl ⟨?_, ?_⟩) hHeld ?_
    rotate_left 2
    · (simp only [List.getElem?_toArray, List.getElem?_cons_succ, List.getElem?_cons_zero]; rfl)
    · exact fun _ _ _ h => h
    · rfl
    · (rintro W' ⟨s0, s1, s2, s3⟩; go_simp; first | done | with_reducible rfl)
    try simp only [Act.put, List.setIfInBounds_toArray, List.set_cons_zero, List.set_cons_succ]
    refine wpAnyH_take (i := 6) (oi := ?_) (v := ?_) ?_ (by kernel_rfl) (by kernel_rfl) (by kernel_rfl) ?_ (Or.inl ⟨?_, ?_⟩) hHeld ?_
    rotate_left 2
    · (simp only [List.getElem?_toArray, List.getElem?_cons_succ, List.getElem?_cons_zero]; rfl)
    · exact fun _ _ _ h => h
    · rfl
    · (rintro W' ⟨s0, s1, s2, s3⟩; go_simp; first | done | with_reducible rfl)
    try simp only [Act.put, List.setIfInBounds_toArray, List.set_cons_zero, List.set_cons_succ]
    refine wpAnyH_take (i := 7) (oi := ?_) (v := ?_) ?_ (by kernel_rfl) (by kernel_rfl) (by kernel_rfl) ?_ (Or.inl ⟨?_, ?_⟩) hHeld ?_
    rotate_left 2
    · (simp only [List.getElem?_toArray, List.getElem?_cons_succ, List.getElem?_cons_zero]; rfl)
    · exact fun _ _ _ h => h
    · rfl
    · (rintro W' ⟨s0, s1, s2, s3⟩; go_simp; first | done | with_reducible rfl)
    try simp only [Act.put, List.setIfInBounds_toArray, List.set_cons_zero, List.set_cons_succ]
    refine wpAnyH_take (i := 8) (oi := ?_) (v := ?_) ?_ (by kernel_rfl) (by kernel_rfl) (by kernel_rfl) ?_ (Or.inl ⟨?_, ?_⟩) hHeld ?_
    rotate_left 2
    · (simp only [List.getElem?_toArray, List.getElem?_cons_succ, List.getElem?_cons_zero]; rfl)
    · exact fun _ _ _ h => h
    · rfl
    · (rintro W' ⟨s0, s1, s2, s3⟩; go_simp; first | done | with_reducible rfl)
    try simp only [Act.put, List.setIfInBounds_toArray, List.set_cons_zero, List.set_cons_succ]
    refine wpAnyH_ready (rs := [9]) (by kernel_rfl) (by simp) ?_
    refine AllReadyH.cons (o := ?_) ?_ (fun K hK => ?_) AllReadyH.nil
    rotate_left 1
    · (simp only [List.getElem?_toArray, List.getElem?_cons_succ, List.getElem?_cons_zero]; rfl)
    go_simp
    (refine HBLK.out.mono ?_; rintro e w9 ⟨rfl, hC9⟩; have HC9 := Lib.hid (((Chg.refl [] w2).drew).trans hC9); clear hC9 HBLK)
    refine hK.out _ _ ?_ (fun hHeld => ?_)
    · exact ⟨(HC9.out.cell (p := ⟨p, 2, none⟩) lp (by simp)).trans m2, (HC9.out.cell (p := ⟨g, i * 2, none⟩) lg (by simp)).trans c0, (HC9.out.cell (p := ⟨g, i * 2 + 1, none⟩) lg (by simp)).trans c1, (HC9.out.cell (p := ⟨b3, 2, none⟩) l3 (by simp)).trans x2⟩
    clear hK K
    try simp only [Act.put, List.setIfInBounds_toArray, List.set_cons_zero, List.set_cons_succ]
    refine wpAnyH_take (i := 10) (oi := ?_) (v := ?_) ?_ (by kernel_rfl) (by kernel_rfl) (by kernel_rfl) ?_ (Or.inl ⟨?_, ?_⟩) hHeld ?_
    rotate_left 2
    · (simp only [List.getElem?_toArray, List.getElem?_cons_succ, List.getElem?_cons_zero]; rfl)
    · exact fun _ _ _ h => h
    · rfl
    · (rintro W' ⟨s0, s1, s2, s3⟩; go_simp; first | done | with_reducible rfl)
    try simp only [Act.put, List.setIfInBounds_toArray, List.set_cons_zero, List.set_cons_succ]
    refine wpAnyH_done (by kernel_rfl) ?_ _
    go_wp2_with fail
    go_meet
    exact ⟨rfl, HC9.out⟩
  case rest =>
    obtain ⟨rfl, hX⟩ := hcut
    rename World => w4
    have HX := Lib.hid hX.out
    clear hX y0 y1 y2 y3 f0 f1 f2 f3 m0 m1 m2 c0 c1 x0 x1 x2 x3 x4 HBLK
    have hse : st = bstr 128 f := by rw [HST.out]; exact HBK0.out
    have hne : st ≠ ⟨#[]⟩ := by rw [hse]; intro e; have := congrArg ByteArray.size e; rw [bstr_size] at this; cases this
    have d3 : st.toList.isEmpty = false := str_isEmpty st hne
    have d4 : ¬ st.toList = [] := fun q => by rw [q] at d3; cases d3
    have HX5 := Lib.hid HX.out
    obtain ⟨cc, w6, hrun, hB6, hC6, hl6⟩ := convback_at (w := w4) (n := 128) (f := f) (by omega) HF.out
    rw [← hse] at hrun
    clear hse hne
    obtain ⟨ba, hba⟩ : ∃ ba, ba = w4.heap.size := ⟨_, rfl⟩
    rw [← hba] at hrun hB6
    have HBA := Lib.hid hba
    have HB6 := Lib.hid hB6
    have HX6 := Lib.hid (HX5.out.trans hC6)
    have HL6 := Lib.hid hl6
    clear hba hB6 hC6 hl6
    have hn6 := (HX6.out.block b4 (heap_lt HN4.out) (by simp)).trans HN4.out
    have HN6 := Lib.hid hn6
    have y0 := cell_of_block hn6 0
    have y1 := cell_of_block hn6 1
    have y2 := cell_of_block hn6 2
    have y3 := cell_of_block hn6 3
    simp only [List.getElem?_toArray, List.getElem?_cons_zero, List.getElem?_cons_succ] at y0 y1 y2 y3
    have f0 := frozen_of_block hn6 0
    have f1 := frozen_of_block hn6 1
    have f2 := frozen_of_block hn6 2
    have f3 := frozen_of_block hn6 3
    clear hn6
    go_wp2_with fail
    have h4 : (((((w6).setCell ⟨b4, 0, none⟩ (.int .i64 0)).setCell ⟨b4, 1, none⟩ (.int .u64 0)).setCell ⟨b4, 2, none⟩ (.slice (some ⟨ba, 0, none⟩) 128 cc)).setCell ⟨b4, 3, none⟩ (.int .i64 0)).heap[b4]? = some (.cells #[.int .i64 0, .int .u64 0, .slice (some ⟨ba, 0, none⟩) 128 cc, .int .i64 0] 32 (0, 0)) := setCell_block (setCell_block (setCell_block (setCell_block (HN6.out) 0 (.int .i64 0)) 1 (.int .u64 0)) 2 (.slice (some ⟨ba, 0, none⟩) 128 cc)) 3 (.int .i64 0)
    have hC5 : Chg [b4] w6 (((((w6).setCell ⟨b4, 0, none⟩ (.int .i64 0)).setCell ⟨b4, 1, none⟩ (.int .u64 0)).setCell ⟨b4, 2, none⟩ (.slice (some ⟨ba, 0, none⟩) 128 cc)).setCell ⟨b4, 3, none⟩ (.int .i64 0)) := ((((Chg.refl [b4] w6).setCell (.inl (by simp)) _).setCell (.inl (by simp)) _).setCell (.inl (by simp)) _).setCell (.inl (by simp)) _
    clear f0 f1 f2 f3 hrun y0 y1 y2 y3
    generalize ((((w6).setCell ⟨b4, 0, none⟩ (.int .i64 0)).setCell ⟨b4, 1, none⟩ (.int .u64 0)).setCell ⟨b4, 2, none⟩ (.slice (some ⟨ba, 0, none⟩) 128 cc)).setCell ⟨b4, 3, none⟩ (.int .i64 0) = W5 at *
    have z0 := cell_of_block h4 0
    have z1 := cell_of_block h4 1
    have z2 := cell_of_block h4 2
    have z3 := cell_of_block h4 3
    simp only [List.getElem?_toArray, List.getElem?_cons_zero, List.getElem?_cons_succ] at z0 z1 z2 z3
    (try simp only [Exit.inBlock, Exit.then])
    refine bodyPost_ret (v := repV 0 0 (.slice (some ⟨ba, 0, none⟩) 128 cc) 0) (by simp [results, Try.results18, go_sem, repV, z0, z1, z2, z3]) rfl ?_
    have hba4 : ba ≠ b4 := by have := HBA.out; have := heap_lt HN4.out; have := HX5.out.size; omega
    exact ⟨_, _, rfl, HB6.out.chg hC5 (fun _ b e => by injection e with e; rw [← e]; simp [hba4]), fun b e => by injection e with e; rw [← e]; have := HBA.out; have := HX5.out.size; have := HC2.out.size; simp only; omega, (HC2.out.trans HX6.out).then hC5 (fun x hx => .inr (by simp only [List.mem_singleton] at hx; rw [hx]; exact hb4w))⟩

end Go.Proofs.Ytbejcmbdaoakbaa
/- The reference of layer 24: Do, a drop. (Printed by mkrdrop.py.) -/
namespace Go.Proofs.Ytbejcmbdaoakbaa
open Go.RowKit
set_option linter.unusedVariables false
set_option linter.unusedSimpArgs false

def addB (v : Value) (L : List Nat) : List Nat := match v.ownBlock with | some b => b :: L | none => L
theorem mem_addB {v : Value} {L : List Nat} {b : Nat} : b ∈ addB v L ↔ v.ownBlock = some b ∨ b ∈ L := by
  unfold addB
  cases h : v.ownBlock with
  | none => simp
  | some x => simp [eq_comm]
/-- The reference behind a drop: another list of volumes, nil or not. -/
theorem RefAt.again' {L : List Nat} {B : Nat} {w w' : World} {p size last base : Nat} {vv vn : Value} {R : RSt} {l : List (Nat × Value × PutL)} (h : RefAt L B w p vv R) (hc : Chg [p] w w')
    (hb : w'.heap[p]? = some (.cells #[.int .u64 (size : Int), .int .u64 (last : Int), vn] 44 (0, 0))) (hv : w'.ownsRow base 52 2 vn l.length (volCells (volVs l)))
    (hl : ∀ x, x ∈ l → x ∈ R.vols) (hs : size < 18446744073709551616) (hla : last < 18446744073709551616) (hn : l.length ≤ B) :
    RefAt (addB vn L) (B + 1) w' p vn ⟨size, last, l⟩ where
  blk := hb
  vols := ownRow_base hv
  vin := fun b e => mem_addB.2 (.inl e)
  puts := fun x hx => by
    have hp := h.puts x (hl x hx)
    have := hp.chg hc (fun b e => by simp only [List.mem_singleton]; rintro rfl; exact row_ne (cs := []) hp.1 h.blk (by decide) e)
    exact ⟨this.1, fun b e => mem_addB.2 (.inr (this.2.1 b e)), this.2.2⟩
  pin := mem_addB.2 (.inr h.pin)
  lt := fun b hb => by
    rcases mem_addB.1 hb with e | e
    · exact (hv.lt b e).2
    · exact Nat.lt_of_lt_of_le (h.lt b e) hc.size
  size := hs
  last := hla
  ids := fun x hx => h.ids x (hl x hx)
  bv := Nat.le_succ_of_le hn
  bp := fun x hx => Nat.le_succ_of_le (h.bp x (hl x hx))

theorem volCells_take (l : List (Nat × Value)) (i : Nat) : volCells (l.take i) = (volCells l).take (i * 2) := by
  induction l generalizing i with
  | nil => simp [volCells]
  | cons p r ih =>
    cases i with
    | zero => simp [volCells]
    | succ k => rw [show (k + 1) * 2 = k * 2 + 1 + 1 by omega]; simp only [List.take_succ_cons, volCells, ih]
theorem volCells_drop (l : List (Nat × Value)) (i : Nat) : volCells (l.drop i) = (volCells l).drop (i * 2) := by
  induction l generalizing i with
  | nil => simp [volCells]
  | cons p r ih =>
    cases i with
    | zero => simp [volCells]
    | succ k => rw [show (k + 1) * 2 = k * 2 + 1 + 1 by omega]; simp only [List.drop_succ_cons, volCells, ih]
theorem srcV {W : World} {base n g c j m k : Nat} {l l' : List (Nat × Value)} (h : W.ownsRow base 52 2 (.slice (some ⟨g, 0, none⟩) n c) n (volCells l)) (h1 : ∀ u, u ∈ volCells l → u.oneCell' = true) (hm : l'.length = m) (hj : j + m ≤ n) (hl : ∀ x, x < m * 2 → (volCells l')[x]? = (volCells l)[j * 2 + x]?) : AppSrc W 2 (.slice (some ⟨g, j * 2, none⟩) m k) m (volCells l') := by
  have hlt : ∀ x u, (volCells l')[x]? = some u → x < m * 2 := fun x u hu => by
    have := (List.getElem?_eq_some_iff.1 hu).1
    rw [volCells_len, hm] at this; exact this
  refine ⟨by rw [volCells_len, hm], fun u hu => ?_, .inl ⟨g, j * 2, k, rfl, (h.lt g rfl).2, fun x u hu => ?_⟩⟩
  · obtain ⟨x, hx⟩ := List.getElem?_of_mem hu
    have hx2 := hl x (hlt x u hx)
    rw [hx] at hx2
    exact h1 u (List.mem_of_getElem? hx2.symm)
  · have hx := hlt x u hu
    rcases h.2 with ⟨e, _⟩ | ⟨g', cp, cur, e, hb, hg, r1, r2, r3, r4⟩
    · cases e
    · injection e with e _ _
      injection e with e
      injection e with e
      subst e
      rw [cell_of_block hg, ← hu, hl x hx, ← r4, List.getElem?_take_of_lt (by omega), Array.getElem?_toList]
theorem srcV_take {W : World} {base n g c i k : Nat} {l : List (Nat × Value)} (h : W.ownsRow base 52 2 (.slice (some ⟨g, 0, none⟩) n c) n (volCells l)) (h1 : ∀ u, u ∈ volCells l → u.oneCell' = true) (hn : n = l.length) (hi : i ≤ n) : AppSrc W 2 (.slice (some ⟨g, 0, none⟩) i k) i (volCells (l.take i)) := by
  have := srcV (j := 0) (m := i) (k := k) (l' := l.take i) h h1 (by rw [List.length_take]; omega) (by omega) (fun x hx => by rw [volCells_take, List.getElem?_take_of_lt hx, Nat.zero_mul, Nat.zero_add])
  rw [Nat.zero_mul] at this
  exact this
theorem srcV_drop {W : World} {base n g c i : Nat} {l : List (Nat × Value)} (h : W.ownsRow base 52 2 (.slice (some ⟨g, 0, none⟩) n c) n (volCells l)) (h1 : ∀ u, u ∈ volCells l → u.oneCell' = true) (hn : n = l.length) (hi : i ≤ n) (hc : n ≤ c) : AppSrc W 2 (.slice (if c = i then some ⟨g, 0, none⟩ else some ⟨g, i * 2, none⟩) (n - i) (c - i)) (n - i) (volCells (l.drop i)) := by
  by_cases e : c = i
  · rw [if_pos e]
    have := srcV (j := 0) (m := n - i) (k := c - i) (l' := l.drop i) h h1 (by rw [List.length_drop]; omega) (by omega) (fun x hx => by omega)
    rw [Nat.zero_mul] at this
    exact this
  · rw [if_neg e]
    exact srcV (l' := l.drop i) h h1 (by rw [List.length_drop]; omega) (by omega) (fun x hx => by rw [volCells_drop, List.getElem?_drop])

theorem rdo_dropped {L : List Nat} {B : Nat} {w VE : World} {p i nv nn cx : Nat} {vv : Value} {ax : Option Addr} {R : RSt} (h : RefAt L B w p vv R) (hc : Chg [] w VE) (hpb : w.heap[p]? = some (.cells #[.int .u64 (R.size : Int), .int .u64 (R.last : Int), vv] 44 (0, 0)))
    (ho : VE.ownsRow w.heap.size 52 2 (.slice ax nn cx) nn (volCells ((volVs R.vols).take i ++ (volVs R.vols).drop (i + 1)))) (hnv : nv = R.vols.length) (hnn : nn = i + (nv - (i + 1))) (hi : i < nv) :
    RefAt (addB (.slice ax nn cx) L) (B + 1) (VE.setCell ⟨p, 2, none⟩ (.slice ax nn cx)) p (.slice ax nn cx) ⟨R.size, R.last, R.vols.take i ++ R.vols.drop (i + 1)⟩ := by
  have hp := (hc.block p (heap_lt hpb) (by simp)).trans hpb
  have hlen : (R.vols.take i ++ R.vols.drop (i + 1)).length = nn := by rw [List.length_append, List.length_take, List.length_drop]; omega
  have hvs : volVs (R.vols.take i ++ R.vols.drop (i + 1)) = (volVs R.vols).take i ++ (volVs R.vols).drop (i + 1) := by unfold volVs; rw [List.map_append, List.map_take, List.map_drop]
  refine RefAt.again' (base := w.heap.size) h (((Chg.refl [p] w).then hc (by simp)).setCell (.inl (by simp)) _) (setCell_block hp 2 _) ?_ (fun x hx => ?_) h.size h.last (by have := h.bv; omega)
  · rw [hlen, hvs]
    exact ownRow_block ho (fun k e => setCell_other 2 _ (by have := (ho.lt k e).1; have := heap_lt hpb; omega))
  · rcases List.mem_append.1 hx with hx | hx
    · exact List.mem_of_mem_take hx
    · exact List.mem_of_mem_drop hx

set_option maxRecDepth 20000 in
set_option maxHeartbeats 4000000 in
theorem rdo_drop {L : List Nat} {B : Nat} {w : World} {p i vol pl n dl dc : Nat} {da : Option Addr} {vv : Value} {R : RSt} (h : RefAt L B w p vv R) (hB : B ≤ 1000000) (hix : ixOf R.vols vol = (i : Int)) (hi : i < R.vols.length) (hw : wrongR R 2 vol pl n dl = 0) :
    Calls Try.prog 18 #[.pointer (some ⟨p, 0, none⟩), .agg #[.int .u8 2, .int .u64 (vol : Int), .int .u64 (pl : Int), .int .u64 (n : Int), .slice da dl dc]] w fun e w' => ∃ vv' L', e = .returned (repV 0 0 (.slice none 0 0) 0) ∧ RefAt L' (B + 1) w' p vv' ⟨R.size, R.last, R.vols.take i ++ R.vols.drop (i + 1)⟩ ∧ (∀ b, b ∈ L' → b ∈ L ∨ w.heap.size ≤ b) ∧ Chg [p] w w' := by
  obtain ⟨va, vc, hvv, _, _⟩ := ownRow_slice h.vols
  subst hvv
  have HPP := Lib.hid hi
  have HIX := Lib.hid hix
  clear hix
  have H := Lib.hid h
  have HBN := Lib.hid hB
  have HWR := Lib.hid hw
  clear h hB hw
  go_enter Try.func18, Try.ntmps18
  go_upto_region 1 with fail
  have h3 := (Chg.refl [] w).alloc (.cells #[.int .u8 2, .int .u64 (vol : Int), .int .u64 (pl : Int), .int .u64 (n : Int), .slice da dl dc] 26)
  have h4 := (Chg.refl [] (w.alloc (.cells #[.int .u8 2, .int .u64 (vol : Int), .int .u64 (pl : Int), .int .u64 (n : Int), .slice da dl dc] 26))).alloc (.cells #[.int .i64 0, .int .u64 0, .slice none 0 0, .int .i64 0] 32)
  have n3 := new_block w (.cells #[.int .u8 2, .int .u64 (vol : Int), .int .u64 (pl : Int), .int .u64 (n : Int), .slice da dl dc] 26)
  have n4 := new_block (w.alloc (.cells #[.int .u8 2, .int .u64 (vol : Int), .int .u64 (pl : Int), .int .u64 (n : Int), .slice da dl dc] 26)) (.cells #[.int .i64 0, .int .u64 0, .slice none 0 0, .int .i64 0] 32)
  have n3 := (h4.block _ (heap_lt n3) (by simp)).trans n3
  have hsz := size_alloc' w (.cells #[.int .u8 2, .int .u64 (vol : Int), .int .u64 (pl : Int), .int .u64 (n : Int), .slice da dl dc] 26)
  rw [hsz] at n4
  have HC := Lib.hid (h3.trans h4)
  obtain ⟨b4, hb4⟩ : ∃ b4, b4 = w.heap.size + 1 := ⟨_, rfl⟩
  rw [← hb4] at n4
  have HN := Lib.hid (And.intro n3 (And.intro n4 hb4))
  clear h3 h4 n3 n4 hsz
  generalize hWW : (w.alloc (.cells #[.int .u8 2, .int .u64 (vol : Int), .int .u64 (pl : Int), .int .u64 (n : Int), .slice da dl dc] 26)).alloc (.cells #[.int .i64 0, .int .u64 0, .slice none 0 0, .int .i64 0] 32) = W at *
  obtain ⟨b3, hb3⟩ : ∃ b3, b3 = w.heap.size := ⟨_, rfl⟩
  have HB3 := Lib.hid hb3
  rw [← hb4, ← hb3]
  clear hWW hb3 hb4
  have hR := H.out.chg HC.out (by simp)
  have HW : Hid (Calls Try.prog 35 #[.pointer (some ⟨p, 0, none⟩), .agg #[.int .u8 2, .int .u64 (vol : Int), .int .u64 (pl : Int), .int .u64 (n : Int), .slice da dl dc]] W fun e w' => e = .returned (.int .i64 ((wrongR R 2 vol pl n dl : Nat) : Int)) ∧ Chg [] W w') := Lib.hid (r24wrong_at (code := 2) hR HBN.out (by omega))
  have n3 : W.heap[b3]? = some (.cells #[.int .u8 2, .int .u64 (vol : Int), .int .u64 (pl : Int), .int .u64 (n : Int), .slice da dl dc] 26 (0, 0)) := by rw [HB3.out]; exact HN.out.1
  have n4 := HN.out.2.1
  have x0 := cell_of_block n3 0
  have x1 := cell_of_block n3 1
  have x2 := cell_of_block n3 2
  have x3 := cell_of_block n3 3
  have x4 := cell_of_block n3 4
  simp only [List.getElem?_toArray, List.getElem?_cons_zero, List.getElem?_cons_succ] at x0 x1 x2 x3 x4
  clear hR n3 n4
  go_wp2_with fail
  refine HW.out.mono ?_
  rintro e w2 ⟨rfl, hC2⟩
  rw [HWR.out]
  have HC2 := Lib.hid (HC.out.trans hC2)
  have hR := H.out.chg HC2.out (by simp)
  have n3 : w2.heap[b3]? = some (.cells #[.int .u8 2, .int .u64 (vol : Int), .int .u64 (pl : Int), .int .u64 (n : Int), .slice da dl dc] 26 (0, 0)) := by rw [HB3.out]; exact (hC2.block _ (heap_lt HN.out.1) (by simp)).trans HN.out.1
  have n4 := (hC2.block _ (heap_lt HN.out.2.1) (by simp)).trans HN.out.2.1
  have hp2 := hR.blk
  have HR2 := Lib.hid hR
  have HN3 := Lib.hid n3
  have HN4 := Lib.hid n4
  have hb4w : w.heap.size ≤ b4 := by have := HN.out.2.2; omega
  have hpb : p ≠ b4 := by have := H.out.heap_p; omega
  have hpb3 : p ≠ b3 := by have := H.out.heap_p; have := HB3.out; omega
  clear hR hC2 x0 x1 x2 x3 x4 HW
  have x0 := cell_of_block n3 0
  have x1 := cell_of_block n3 1
  have x2 := cell_of_block n3 2
  have x3 := cell_of_block n3 3
  have x4 := cell_of_block n3 4
  simp only [List.getElem?_toArray, List.getElem?_cons_zero, List.getElem?_cons_succ] at x0 x1 x2 x3 x4
  have y0 := cell_of_block n4 0
  have y1 := cell_of_block n4 1
  have y2 := cell_of_block n4 2
  have y3 := cell_of_block n4 3
  simp only [List.getElem?_toArray, List.getElem?_cons_zero, List.getElem?_cons_succ] at y0 y1 y2 y3
  have m0 := cell_of_block hp2 0
  have m1 := cell_of_block hp2 1
  have m2 := cell_of_block hp2 2
  simp only [List.getElem?_toArray, List.getElem?_cons_zero, List.getElem?_cons_succ] at m0 m1 m2
  have f0 := frozen_of_block n4 0
  have f1 := frozen_of_block n4 1
  have f2 := frozen_of_block n4 2
  have f3 := frozen_of_block n4 3
  clear n3 n4 hp2
  obtain ⟨g, c, hvg, hgc, hgL, c0, c1⟩ := HR2.out.cell hi
  injection hvg with e1 _ e3
  subst e1 e3
  have HGC := Lib.hid hgc
  have hvo := HR2.out.vols
  have hv1 := volVs_one HR2.out
  have hvl : R.vols.length = (volVs R.vols).length := by unfold volVs; rw [List.length_map]
  have HSA := Lib.hid (srcV_take (i := i) (k := vc) hvo hv1 hvl (by omega))
  have HSD := Lib.hid (srcV_drop (i := i + 1) hvo hv1 hvl (by omega) hgc)
  obtain ⟨nv, hnv⟩ : ∃ k, k = R.vols.length := ⟨_, rfl⟩
  rw [← hnv] at m2 hgc hi HSD
  have HNV := Lib.hid hnv
  have HI := Lib.hid hi
  have i1 : (i : Int) < (nv : Int) := by omega
  have i2 : (i : Int) ≤ (vc : Int) := by omega
  have i3 : (i : Int) + 1 ≤ (nv : Int) := by omega
  have i4 : (0 : Int) ≤ (i : Int) + 1 := by omega
  have hnB : nv ≤ 1000000 := by have := HR2.out.bv; have := HBN.out; omega
  have hw1 : IntKind.i64.wrap ((i : Int) + 1) = ((i + 1 : Nat) : Int) := by rw [show (i : Int) + 1 = ((i + 1 : Nat) : Int) by omega]; exact IntWalk.i64_in _ (by omega)
  clear hvo hv1 hvl hnv c0 c1
  have HPB : Hid (w2.heap[p]? = some (.cells #[.int .u64 (R.size : Int), .int .u64 (R.last : Int), .slice (some ⟨g, 0, none⟩) nv vc] 44 (0, 0))) := Lib.hid (by rw [HNV.out]; exact HR2.out.blk)
  rw [← HNV.out] at HR2
  have lp : p < w2.heap.size := heap_lt HPB.out
  have HAT := Lib.hid (r24at_at (v := vol) HR2.out HBN.out)
  go_wp2_with fail
  refine HAT.out.mono ?_
  rintro e w3 ⟨rfl, rfl⟩
  rw [HIX.out]
  clear HAT
  go_upto_region 9 with fail
  refine wp_region_held_drew (S := fun _ => True) (by kernel_rfl) (by trivial) (fun hHeld => ?_)
  refine wpAnyH_take (i := 0) (oi := ?_) (v := ?_) ?_ (by kernel_rfl) (by kernel_rfl) (by kernel_rfl) ?_ (Or.inl ⟨?_, ?_⟩) hHeld ?_
  rotate_left 2
  · (simp only [List.getElem?_toArray, List.getElem?_cons_succ, List.getElem?_cons_zero]; rfl)
  · exact fun _ _ _ h => h
  · rfl
  · (rintro W' _; go_simp; first | done | with_reducible rfl)
  try simp only [Act.put, List.setIfInBounds_toArray, List.set_cons_zero, List.set_cons_succ]
  refine wpAnyH_take (i := 2) (oi := ?_) (v := ?_) ?_ (by kernel_rfl) (by kernel_rfl) (by kernel_rfl) ?_ (Or.inl ⟨?_, ?_⟩) hHeld ?_
  rotate_left 2
  · (simp only [List.getElem?_toArray, List.getElem?_cons_succ, List.getElem?_cons_zero]; rfl)
  · exact fun _ _ _ h => h
  · rfl
  · (rintro W' _; go_simp; first | done | with_reducible rfl)
  try simp only [Act.put, List.setIfInBounds_toArray, List.set_cons_zero, List.set_cons_succ]
  refine wpAnyH_take (i := 3) (oi := ?_) (v := ?_) ?_ (by kernel_rfl) (by kernel_rfl) (by kernel_rfl) ?_ (Or.inl ⟨?_, ?_⟩) hHeld ?_
  rotate_left 2
  · (simp only [List.getElem?_toArray, List.getElem?_cons_succ, List.getElem?_cons_zero]; rfl)
  · exact fun _ _ _ h => h
  · rfl
  · (rintro W' _; go_simp; first | done | with_reducible rfl)
  try simp only [Act.put, List.setIfInBounds_toArray, List.set_cons_zero, List.set_cons_succ]
  refine wpAnyH_take (i := 4) (oi := ?_) (v := ?_) ?_ (by kernel_rfl) (by kernel_rfl) (by kernel_rfl) ?_ (Or.inl ⟨?_, ?_⟩) hHeld ?_
  rotate_left 2
  · (simp only [List.getElem?_toArray, List.getElem?_cons_succ, List.getElem?_cons_zero]; rfl)
  · exact fun _ _ _ h => h
  · rfl
  · (rintro W' _; go_simp; first | done | with_reducible rfl)
  try simp only [Act.put, List.setIfInBounds_toArray, List.set_cons_zero, List.set_cons_succ]
  refine wpAnyH_take (i := 6) (oi := ?_) (v := ?_) ?_ (by kernel_rfl) (by kernel_rfl) (by kernel_rfl) ?_ (Or.inl ⟨?_, ?_⟩) hHeld ?_
  rotate_left 2
  · (simp only [List.getElem?_toArray, List.getElem?_cons_succ, List.getElem?_cons_zero]; rfl)
  · exact fun _ _ _ h => h
  · rfl
  · (rintro W' _; go_simp; first | done | with_reducible rfl)
  try simp only [Act.put, List.setIfInBounds_toArray, List.set_cons_zero, List.set_cons_succ]
  refine wpAnyH_take (i := 9) (oi := ?_) (v := ?_) ?_ (by kernel_rfl) (by kernel_rfl) (by kernel_rfl) ?_ (Or.inl ⟨?_, ?_⟩) hHeld ?_
  rotate_left 2
  · (simp only [List.getElem?_toArray, List.getElem?_cons_succ, List.getElem?_cons_zero]; rfl)
  · exact fun _ _ _ h => h
  · rfl
  · (rintro W' _; go_simp; first | done | with_reducible rfl)
  try simp only [Act.put, List.setIfInBounds_toArray, List.set_cons_zero, List.set_cons_succ]
  refine wpAnyH_take (i := 10) (oi := ?_) (v := ?_) ?_ (by kernel_rfl) (by kernel_rfl) (by kernel_rfl) ?_ (Or.inl ⟨?_, ?_⟩) hHeld ?_
  rotate_left 2
  · (simp only [List.getElem?_toArray, List.getElem?_cons_succ, List.getElem?_cons_zero]; rfl)
  · exact fun _ _ _ h => h
  · rfl
  · (rintro W' _; go_simp; first | done | with_reducible rfl)
  try simp only [Act.put, List.setIfInBounds_toArray, List.set_cons_zero, List.set_cons_succ]
  refine wpAnyH_take (i := 11) (oi := ?_) (v := ?_) ?_ (by kernel_rfl) (by kernel_rfl) (by kernel_rfl) ?_ (Or.inl ⟨?_, ?_⟩) hHeld ?_
  rotate_left 2
  · (simp only [List.getElem?_toArray, List.getElem?_cons_succ, List.getElem?_cons_zero]; rfl)
  · exact fun _ _ _ h => h
  · rfl
  · (rintro W' _; go_simp; first | done | with_reducible rfl)
  try simp only [Act.put, List.setIfInBounds_toArray, List.set_cons_zero, List.set_cons_succ]
  refine wpAnyH_take (i := 13) (oi := ?_) (v := ?_) ?_ (by kernel_rfl) (by kernel_rfl) (by kernel_rfl) ?_ (Or.inl ⟨?_, ?_⟩) hHeld ?_
  rotate_left 2
  · (simp only [List.getElem?_toArray, List.getElem?_cons_succ, List.getElem?_cons_zero]; rfl)
  · exact fun _ _ _ h => h
  · rfl
  · (rintro W' _; go_simp; first | done | with_reducible rfl)
  try simp only [Act.put, List.setIfInBounds_toArray, List.set_cons_zero, List.set_cons_succ]
  refine wpAnyH_take (i := 14) (oi := ?_) (v := ?_) ?_ (by kernel_rfl) (by kernel_rfl) (by kernel_rfl) ?_ (Or.inl ⟨?_, ?_⟩) hHeld ?_
  rotate_left 2
  · (simp only [List.getElem?_toArray, List.getElem?_cons_succ, List.getElem?_cons_zero]; rfl)
  · exact fun _ _ _ h => h
  · rfl
  · (rintro W' _; go_simp; first | done | with_reducible rfl)
  try simp only [Act.put, List.setIfInBounds_toArray, List.set_cons_zero, List.set_cons_succ]
  have HC0 := Lib.hid ((Chg.refl [] w2).drew)
  generalize w2.drew = V at *
  refine wpAnyH_ready (rs := [1, 5, 12]) (by kernel_rfl) (by simp) ?_
  refine AllReadyH.cons (o := ?_) ?_ (fun K hK => ?_) ?_
  rotate_left 1
  · (simp only [List.getElem?_toArray, List.getElem?_cons_succ, List.getElem?_cons_zero]; rfl)
  · (go_simp; have hst := (Chg.refl [] V).alloc (.cells #[] 52); have hnb := new_block V (.cells #[] 52); have HZZZ := Lib.hid hnb; have HCCZ := Lib.hid (HC0.out.trans hst); have HLLZ := Lib.hid (HC0.out.size); clear hnb hst; generalize V.alloc (.cells #[] 52) = VZ at *)
    refine hK.out _ _ ?_ (fun hHeld => ?_)
    · trivial
    clear hK K
    try simp only [Act.put, List.setIfInBounds_toArray, List.set_cons_zero, List.set_cons_succ]
    refine wpAnyH_ready (rs := [5, 12]) (by kernel_rfl) (by simp) ?_
    refine AllReadyH.cons (o := ?_) ?_ (fun K hK => ?_) ?_
    rotate_left 1
    · (simp only [List.getElem?_toArray, List.getElem?_cons_succ, List.getElem?_cons_zero]; rfl)
    · (have hl := (HCCZ.out.cell (p := ⟨p, 2, none⟩) lp (by simp)).trans m2; go_simp; clear hl; have HCCZL := HCCZ)
      refine hK.out _ _ ?_ (fun hHeld => ?_)
      · trivial
      clear hK K
      try simp only [Act.put, List.setIfInBounds_toArray, List.set_cons_zero, List.set_cons_succ]
      refine wpAnyH_take (i := 7) (oi := ?_) (v := ?_) ?_ (by kernel_rfl) (by kernel_rfl) (by kernel_rfl) ?_ (Or.inl ⟨?_, ?_⟩) hHeld ?_
      rotate_left 2
      · (simp only [List.getElem?_toArray, List.getElem?_cons_succ, List.getElem?_cons_zero]; rfl)
      · exact fun _ _ _ h => h
      · rfl
      · (rintro W' _; go_simp; first | done | with_reducible rfl)
      try simp only [Act.put, List.setIfInBounds_toArray, List.set_cons_zero, List.set_cons_succ]
      refine wpAnyH_ready (rs := [8, 12]) (by kernel_rfl) (by simp) ?_
      refine AllReadyH.cons (o := ?_) ?_ (fun K hK => ?_) ?_
      rotate_left 1
      · (simp only [List.getElem?_toArray, List.getElem?_cons_succ, List.getElem?_cons_zero]; rfl)
      · (refine step_app (base := w2.heap.size) (xs := []) (news := volCells ((volVs R.vols).take i)) rfl (.tmp 28) (.tmp 34) 42 rfl rfl Try.underlying42 infoV24 (by rfl) (by omega) (by omega) (by simp [Act.eval, Act.put]) (by simp [Act.eval, Act.put]) (own_zero HZZZ.out HLLZ.out) (HSA.out.chg HCCZL.out (by simp)) (by omega) HCCZL.out.size ?_; intro vaZLA VZLA hown hg; rw [Nat.zero_add, List.nil_append] at hown; have hst : Chg [V.heap.size] VZ VZLA := (Chg.refl _ VZ).grown hg (fun k hk => .inl (by rw [← (show V.heap.size = k from Option.some.inj hk)]; simp)); have HCCZLA := Lib.hid (HCCZL.out.then hst (fun q hq => .inr (by simp only [List.mem_singleton] at hq; rw [hq]; exact HLLZ.out))); have HAAZLA := Lib.hid hown; clear hown hg hst)
        refine hK.out _ _ ?_ (fun hHeld => ?_)
        · trivial
        clear hK K
        try simp only [Act.put, List.setIfInBounds_toArray, List.set_cons_zero, List.set_cons_succ]
        refine wpAnyH_ready (rs := [12]) (by kernel_rfl) (by simp) ?_
        refine AllReadyH.cons (o := ?_) ?_ (fun K hK => ?_) AllReadyH.nil
        rotate_left 1
        · (simp only [List.getElem?_toArray, List.getElem?_cons_succ, List.getElem?_cons_zero]; rfl)
        · (have hl := (HCCZLA.out.cell (p := ⟨p, 2, none⟩) lp (by simp)).trans m2; go_simp; clear hl; have HCCZLAM := HCCZLA)
          refine hK.out _ _ ?_ (fun hHeld => ?_)
          · trivial
          clear hK K
          try simp only [Act.put, List.setIfInBounds_toArray, List.set_cons_zero, List.set_cons_succ]
          refine wpAnyH_take (i := 15) (oi := ?_) (v := ?_) ?_ (by kernel_rfl) (by kernel_rfl) (by kernel_rfl) ?_ (Or.inl ⟨?_, ?_⟩) hHeld ?_
          rotate_left 2
          · (simp only [List.getElem?_toArray, List.getElem?_cons_succ, List.getElem?_cons_zero]; rfl)
          · exact fun _ _ _ h => h
          · rfl
          · (rintro W' _; go_simp; first | done | with_reducible rfl)
          try simp only [Act.put, List.setIfInBounds_toArray, List.set_cons_zero, List.set_cons_succ]
          refine wpAnyH_ready (rs := [16]) (by kernel_rfl) (by simp) ?_
          refine AllReadyH.cons (o := ?_) ?_ (fun K hK => ?_) AllReadyH.nil
          rotate_left 1
          · (simp only [List.getElem?_toArray, List.getElem?_cons_succ, List.getElem?_cons_zero]; rfl)
          · (refine step_app (base := w2.heap.size) (news := volCells ((volVs R.vols).drop (i + 1))) rfl (.tmp 35) (.tmp 42) 42 rfl rfl Try.underlying42 infoV24 (by rfl) (by omega) (by omega) (by simp [Act.eval, Act.put]) (by simp [Act.eval, Act.put]) HAAZLA.out (HSD.out.chg HCCZLAM.out (by simp)) (by omega) HCCZLAM.out.size ?_; intro vz VE hown hg; have HCE := Lib.hid (HCCZLAM.out.grown hg (fun k hk => .inr (HAAZLA.out.lt k hk).1)); rw [← volCells_app] at hown; obtain ⟨ax, cx, hvx, _, _⟩ := ownRow_slice hown; obtain ⟨nn, hnn⟩ : ∃ k, k = i + (nv - (i + 1)) := ⟨_, rfl⟩; rw [← hnn] at hown hvx; subst hvx; have HAE := Lib.hid hown; have HNN := Lib.hid hnn; clear hown hg hnn)
            refine hK.out _ _ ?_ (fun hHeld => ?_)
            · trivial
            clear hK K
            try simp only [Act.put, List.setIfInBounds_toArray, List.set_cons_zero, List.set_cons_succ]
            refine wpAnyH_take (i := 17) (oi := ?_) (v := ?_) ?_ (by kernel_rfl) (by kernel_rfl) (by kernel_rfl) ?_ (Or.inl ⟨?_, ?_⟩) hHeld ?_
            rotate_left 2
            · (simp only [List.getElem?_toArray, List.getElem?_cons_succ, List.getElem?_cons_zero]; rfl)
            · exact fun _ _ _ h => h
            · rfl
            · (rintro W' _; go_simp; first | done | with_reducible rfl)
            try simp only [Act.put, List.setIfInBounds_toArray, List.set_cons_zero, List.set_cons_succ]
            refine wpAnyH_take (i := 18) (oi := ?_) (v := ?_) ?_ (by kernel_rfl) (by kernel_rfl) (by kernel_rfl) ?_ (Or.inl ⟨?_, ?_⟩) hHeld ?_
            rotate_left 2
            · (simp only [List.getElem?_toArray, List.getElem?_cons_succ, List.getElem?_cons_zero]; rfl)
            · exact fun _ _ _ h => h
            · rfl
            · (rintro W' _; go_simp; first | done | with_reducible rfl)
            try simp only [Act.put, List.setIfInBounds_toArray, List.set_cons_zero, List.set_cons_succ]
            refine wpAnyH_ready (rs := [19]) (by kernel_rfl) (by simp) ?_
            refine AllReadyH.cons (o := ?_) ?_ (fun K hK => ?_) AllReadyH.nil
            rotate_left 1
            · (simp only [List.getElem?_toArray, List.getElem?_cons_succ, List.getElem?_cons_zero]; rfl)
            · (have hz := (HCE.out.block _ (heap_lt HPB.out) (by simp)).trans HPB.out; have zf2 := frozen_of_block hz 2; have z2 := cell_of_block hz 2; simp only [List.getElem?_toArray, List.getElem?_cons_zero, List.getElem?_cons_succ] at z2; go_simp; have hR' := rdo_dropped HR2.out HCE.out HPB.out HAE.out HNV.out HNN.out HI.out; have hC' : Chg [p] w2 (VE.setCell ⟨p, 2, none⟩ (.slice ax nn cx)) := ((Chg.refl [p] w2).then HCE.out (by simp)).setCell (.inl (by simp)) _; have hL' : ∀ b, b ∈ addB (.slice ax nn cx) L → b ∈ L ∨ w2.heap.size ≤ b := fun b hb => (mem_addB.1 hb).elim (fun e => .inr (HAE.out.lt b e).1) .inl; clear hz zf2 z2; generalize VE.setCell ⟨p, 2, none⟩ (.slice ax nn cx) = w4 at *)
              refine hK.out _ _ ?_ (fun hHeld => ?_)
              · trivial
              clear hK K
              try simp only [Act.put, List.setIfInBounds_toArray, List.set_cons_zero, List.set_cons_succ]
              refine wpAnyH_done (by kernel_rfl) ?_ _
              have hn4 := (hC'.block b4 (heap_lt HN4.out) (by simp; omega)).trans HN4.out
              have HN5 := Lib.hid hn4
              have HR5 := Lib.hid hR'
              have HL5 := Lib.hid hL'
              have HC5 := Lib.hid hC'
              clear y0 y1 y2 y3 f0 f1 f2 f3 hR' hL' hC'
              have y0 := cell_of_block hn4 0
              have y1 := cell_of_block hn4 1
              have y2 := cell_of_block hn4 2
              have y3 := cell_of_block hn4 3
              simp only [List.getElem?_toArray, List.getElem?_cons_zero, List.getElem?_cons_succ] at y0 y1 y2 y3
              have f0 := frozen_of_block hn4 0
              have f1 := frozen_of_block hn4 1
              have f2 := frozen_of_block hn4 2
              have f3 := frozen_of_block hn4 3
              clear hn4
              go_wp2_with fail
              all_goals
                have h4 : (((((w4).setCell ⟨b4, 0, none⟩ (.int .i64 0)).setCell ⟨b4, 1, none⟩ (.int .u64 0)).setCell ⟨b4, 2, none⟩ (.slice none 0 0)).setCell ⟨b4, 3, none⟩ (.int .i64 0)).heap[b4]? = some (.cells #[.int .i64 0, .int .u64 0, .slice none 0 0, .int .i64 0] 32 (0, 0)) := setCell_block (setCell_block (setCell_block (setCell_block (HN5.out) 0 (.int .i64 0)) 1 (.int .u64 0)) 2 (.slice none 0 0)) 3 (.int .i64 0)
                have hC5 : Chg [b4] w4 (((((w4).setCell ⟨b4, 0, none⟩ (.int .i64 0)).setCell ⟨b4, 1, none⟩ (.int .u64 0)).setCell ⟨b4, 2, none⟩ (.slice none 0 0)).setCell ⟨b4, 3, none⟩ (.int .i64 0)) := ((((Chg.refl [b4] w4).setCell (.inl (by simp)) _).setCell (.inl (by simp)) _).setCell (.inl (by simp)) _).setCell (.inl (by simp)) _
                clear f0 f1 f2 f3 y0 y1 y2 y3
                generalize ((((w4).setCell ⟨b4, 0, none⟩ (.int .i64 0)).setCell ⟨b4, 1, none⟩ (.int .u64 0)).setCell ⟨b4, 2, none⟩ (.slice none 0 0)).setCell ⟨b4, 3, none⟩ (.int .i64 0) = W5 at *
                have z0 := cell_of_block h4 0
                have z1 := cell_of_block h4 1
                have z2 := cell_of_block h4 2
                have z3 := cell_of_block h4 3
                simp only [List.getElem?_toArray, List.getElem?_cons_zero, List.getElem?_cons_succ] at z0 z1 z2 z3
                (try simp only [Exit.inBlock, Exit.then])
                refine bodyPost_ret (v := repV 0 0 (.slice none 0 0) 0) (by simp [results, Try.results18, go_sem, repV, z0, z1, z2, z3]) rfl ?_
                exact ⟨rfl, _, _, rdo_fin HR5.out HL5.out H.out.lt hb4w (heap_lt HN4.out) hC5, fun b hb => (HL5.out b hb).imp (fun h => h) (fun h => Nat.le_trans HC2.out.size h), (((Chg.refl [p] w).then HC2.out (by simp)).then HC5.out (fun x hx => .inl hx)).then hC5 (fun x hx => .inr (by simp only [List.mem_singleton] at hx; rw [hx]; exact hb4w))⟩
      refine AllReadyH.cons (o := ?_) ?_ (fun K hK => ?_) AllReadyH.nil
      rotate_left 1
      · (simp only [List.getElem?_toArray, List.getElem?_cons_succ, List.getElem?_cons_zero]; rfl)
      · (have hl := (HCCZL.out.cell (p := ⟨p, 2, none⟩) lp (by simp)).trans m2; go_simp; clear hl; have HCCZLM := HCCZL)
        refine hK.out _ _ ?_ (fun hHeld => ?_)
        · trivial
        clear hK K
        try simp only [Act.put, List.setIfInBounds_toArray, List.set_cons_zero, List.set_cons_succ]
        refine wpAnyH_take (i := 15) (oi := ?_) (v := ?_) ?_ (by kernel_rfl) (by kernel_rfl) (by kernel_rfl) ?_ (Or.inl ⟨?_, ?_⟩) hHeld ?_
        rotate_left 2
        · (simp only [List.getElem?_toArray, List.getElem?_cons_succ, List.getElem?_cons_zero]; rfl)
        · exact fun _ _ _ h => h
        · rfl
        · (rintro W' _; go_simp; first | done | with_reducible rfl)
        try simp only [Act.put, List.setIfInBounds_toArray, List.set_cons_zero, List.set_cons_succ]
        refine wpAnyH_ready (rs := [8]) (by kernel_rfl) (by simp) ?_
        refine AllReadyH.cons (o := ?_) ?_ (fun K hK => ?_) AllReadyH.nil
        rotate_left 1
        · (simp only [List.getElem?_toArray, List.getElem?_cons_succ, List.getElem?_cons_zero]; rfl)
        · (refine step_app (base := w2.heap.size) (xs := []) (news := volCells ((volVs R.vols).take i)) rfl (.tmp 28) (.tmp 34) 42 rfl rfl Try.underlying42 infoV24 (by rfl) (by omega) (by omega) (by simp [Act.eval, Act.put]) (by simp [Act.eval, Act.put]) (own_zero HZZZ.out HLLZ.out) (HSA.out.chg HCCZLM.out (by simp)) (by omega) HCCZLM.out.size ?_; intro vaZLMA VZLMA hown hg; rw [Nat.zero_add, List.nil_append] at hown; have hst : Chg [V.heap.size] VZ VZLMA := (Chg.refl _ VZ).grown hg (fun k hk => .inl (by rw [← (show V.heap.size = k from Option.some.inj hk)]; simp)); have HCCZLMA := Lib.hid (HCCZLM.out.then hst (fun q hq => .inr (by simp only [List.mem_singleton] at hq; rw [hq]; exact HLLZ.out))); have HAAZLMA := Lib.hid hown; clear hown hg hst)
          refine hK.out _ _ ?_ (fun hHeld => ?_)
          · trivial
          clear hK K
          try simp only [Act.put, List.setIfInBounds_toArray, List.set_cons_zero, List.set_cons_succ]
          refine wpAnyH_ready (rs := [16]) (by kernel_rfl) (by simp) ?_
          refine AllReadyH.cons (o := ?_) ?_ (fun K hK => ?_) AllReadyH.nil
          rotate_left 1
          · (simp only [List.getElem?_toArray, List.getElem?_cons_succ, List.getElem?_cons_zero]; rfl)
          · (refine step_app (base := w2.heap.size) (news := volCells ((volVs R.vols).drop (i + 1))) rfl (.tmp 35) (.tmp 42) 42 rfl rfl Try.underlying42 infoV24 (by rfl) (by omega) (by omega) (by simp [Act.eval, Act.put]) (by simp [Act.eval, Act.put]) HAAZLMA.out (HSD.out.chg HCCZLMA.out (by simp)) (by omega) HCCZLMA.out.size ?_; intro vz VE hown hg; have HCE := Lib.hid (HCCZLMA.out.grown hg (fun k hk => .inr (HAAZLMA.out.lt k hk).1)); rw [← volCells_app] at hown; obtain ⟨ax, cx, hvx, _, _⟩ := ownRow_slice hown; obtain ⟨nn, hnn⟩ : ∃ k, k = i + (nv - (i + 1)) := ⟨_, rfl⟩; rw [← hnn] at hown hvx; subst hvx; have HAE := Lib.hid hown; have HNN := Lib.hid hnn; clear hown hg hnn)
            refine hK.out _ _ ?_ (fun hHeld => ?_)
            · trivial
            clear hK K
            try simp only [Act.put, List.setIfInBounds_toArray, List.set_cons_zero, List.set_cons_succ]
            refine wpAnyH_take (i := 17) (oi := ?_) (v := ?_) ?_ (by kernel_rfl) (by kernel_rfl) (by kernel_rfl) ?_ (Or.inl ⟨?_, ?_⟩) hHeld ?_
            rotate_left 2
            · (simp only [List.getElem?_toArray, List.getElem?_cons_succ, List.getElem?_cons_zero]; rfl)
            · exact fun _ _ _ h => h
            · rfl
            · (rintro W' _; go_simp; first | done | with_reducible rfl)
            try simp only [Act.put, List.setIfInBounds_toArray, List.set_cons_zero, List.set_cons_succ]
            refine wpAnyH_take (i := 18) (oi := ?_) (v := ?_) ?_ (by kernel_rfl) (by kernel_rfl) (by kernel_rfl) ?_ (Or.inl ⟨?_, ?_⟩) hHeld ?_
            rotate_left 2
            · (simp only [List.getElem?_toArray, List.getElem?_cons_succ, List.getElem?_cons_zero]; rfl)
            · exact fun _ _ _ h => h
            · rfl
            · (rintro W' _; go_simp; first | done | with_reducible rfl)
            try simp only [Act.put, List.setIfInBounds_toArray, List.set_cons_zero, List.set_cons_succ]
            refine wpAnyH_ready (rs := [19]) (by kernel_rfl) (by simp) ?_
            refine AllReadyH.cons (o := ?_) ?_ (fun K hK => ?_) AllReadyH.nil
            rotate_left 1
            · (simp only [List.getElem?_toArray, List.getElem?_cons_succ, List.getElem?_cons_zero]; rfl)
            · (have hz := (HCE.out.block _ (heap_lt HPB.out) (by simp)).trans HPB.out; have zf2 := frozen_of_block hz 2; have z2 := cell_of_block hz 2; simp only [List.getElem?_toArray, List.getElem?_cons_zero, List.getElem?_cons_succ] at z2; go_simp; have hR' := rdo_dropped HR2.out HCE.out HPB.out HAE.out HNV.out HNN.out HI.out; have hC' : Chg [p] w2 (VE.setCell ⟨p, 2, none⟩ (.slice ax nn cx)) := ((Chg.refl [p] w2).then HCE.out (by simp)).setCell (.inl (by simp)) _; have hL' : ∀ b, b ∈ addB (.slice ax nn cx) L → b ∈ L ∨ w2.heap.size ≤ b := fun b hb => (mem_addB.1 hb).elim (fun e => .inr (HAE.out.lt b e).1) .inl; clear hz zf2 z2; generalize VE.setCell ⟨p, 2, none⟩ (.slice ax nn cx) = w4 at *)
              refine hK.out _ _ ?_ (fun hHeld => ?_)
              · trivial
              clear hK K
              try simp only [Act.put, List.setIfInBounds_toArray, List.set_cons_zero, List.set_cons_succ]
              refine wpAnyH_done (by kernel_rfl) ?_ _
              have hn4 := (hC'.block b4 (heap_lt HN4.out) (by simp; omega)).trans HN4.out
              have HN5 := Lib.hid hn4
              have HR5 := Lib.hid hR'
              have HL5 := Lib.hid hL'
              have HC5 := Lib.hid hC'
              clear y0 y1 y2 y3 f0 f1 f2 f3 hR' hL' hC'
              have y0 := cell_of_block hn4 0
              have y1 := cell_of_block hn4 1
              have y2 := cell_of_block hn4 2
              have y3 := cell_of_block hn4 3
              simp only [List.getElem?_toArray, List.getElem?_cons_zero, List.getElem?_cons_succ] at y0 y1 y2 y3
              have f0 := frozen_of_block hn4 0
              have f1 := frozen_of_block hn4 1
              have f2 := frozen_of_block hn4 2
              have f3 := frozen_of_block hn4 3
              clear hn4
              go_wp2_with fail
              all_goals
                have h4 : (((((w4).setCell ⟨b4, 0, none⟩ (.int .i64 0)).setCell ⟨b4, 1, none⟩ (.int .u64 0)).setCell ⟨b4, 2, none⟩ (.slice none 0 0)).setCell ⟨b4, 3, none⟩ (.int .i64 0)).heap[b4]? = some (.cells #[.int .i64 0, .int .u64 0, .slice none 0 0, .int .i64 0] 32 (0, 0)) := setCell_block (setCell_block (setCell_block (setCell_block (HN5.out) 0 (.int .i64 0)) 1 (.int .u64 0)) 2 (.slice none 0 0)) 3 (.int .i64 0)
                have hC5 : Chg [b4] w4 (((((w4).setCell ⟨b4, 0, none⟩ (.int .i64 0)).setCell ⟨b4, 1, none⟩ (.int .u64 0)).setCell ⟨b4, 2, none⟩ (.slice none 0 0)).setCell ⟨b4, 3, none⟩ (.int .i64 0)) := ((((Chg.refl [b4] w4).setCell (.inl (by simp)) _).setCell (.inl (by simp)) _).setCell (.inl (by simp)) _).setCell (.inl (by simp)) _
                clear f0 f1 f2 f3 y0 y1 y2 y3
                generalize ((((w4).setCell ⟨b4, 0, none⟩ (.int .i64 0)).setCell ⟨b4, 1, none⟩ (.int .u64 0)).setCell ⟨b4, 2, none⟩ (.slice none 0 0)).setCell ⟨b4, 3, none⟩ (.int .i64 0) = W5 at *
                have z0 := cell_of_block h4 0
                have z1 := cell_of_block h4 1
                have z2 := cell_of_block h4 2
                have z3 := cell_of_block h4 3
                simp only [List.getElem?_toArray, List.getElem?_cons_zero, List.getElem?_cons_succ] at z0 z1 z2 z3
                (try simp only [Exit.inBlock, Exit.then])
                refine bodyPost_ret (v := repV 0 0 (.slice none 0 0) 0) (by simp [results, Try.results18, go_sem, repV, z0, z1, z2, z3]) rfl ?_
                exact ⟨rfl, _, _, rdo_fin HR5.out HL5.out H.out.lt hb4w (heap_lt HN4.out) hC5, fun b hb => (HL5.out b hb).imp (fun h => h) (fun h => Nat.le_trans HC2.out.size h), (((Chg.refl [p] w).then HC2.out (by simp)).then HC5.out (fun x hx => .inl hx)).then hC5 (fun x hx => .inr (by simp only [List.mem_singleton] at hx; rw [hx]; exact hb4w))⟩
    refine AllReadyH.cons (o := ?_) ?_ (fun K hK => ?_) AllReadyH.nil
    rotate_left 1
    · (simp only [List.getElem?_toArray, List.getElem?_cons_succ, List.getElem?_cons_zero]; rfl)
    · (have hl := (HCCZ.out.cell (p := ⟨p, 2, none⟩) lp (by simp)).trans m2; go_simp; clear hl; have HCCZM := HCCZ)
      refine hK.out _ _ ?_ (fun hHeld => ?_)
      · trivial
      clear hK K
      try simp only [Act.put, List.setIfInBounds_toArray, List.set_cons_zero, List.set_cons_succ]
      refine wpAnyH_take (i := 15) (oi := ?_) (v := ?_) ?_ (by kernel_rfl) (by kernel_rfl) (by kernel_rfl) ?_ (Or.inl ⟨?_, ?_⟩) hHeld ?_
      rotate_left 2
      · (simp only [List.getElem?_toArray, List.getElem?_cons_succ, List.getElem?_cons_zero]; rfl)
      · exact fun _ _ _ h => h
      · rfl
      · (rintro W' _; go_simp; first | done | with_reducible rfl)
      try simp only [Act.put, List.setIfInBounds_toArray, List.set_cons_zero, List.set_cons_succ]
      refine wpAnyH_ready (rs := [5]) (by kernel_rfl) (by simp) ?_
      refine AllReadyH.cons (o := ?_) ?_ (fun K hK => ?_) AllReadyH.nil
      rotate_left 1
      · (simp only [List.getElem?_toArray, List.getElem?_cons_succ, List.getElem?_cons_zero]; rfl)
      · (have hl := (HCCZM.out.cell (p := ⟨p, 2, none⟩) lp (by simp)).trans m2; go_simp; clear hl; have HCCZML := HCCZM)
        refine hK.out _ _ ?_ (fun hHeld => ?_)
        · trivial
        clear hK K
        try simp only [Act.put, List.setIfInBounds_toArray, List.set_cons_zero, List.set_cons_succ]
        refine wpAnyH_take (i := 7) (oi := ?_) (v := ?_) ?_ (by kernel_rfl) (by kernel_rfl) (by kernel_rfl) ?_ (Or.inl ⟨?_, ?_⟩) hHeld ?_
        rotate_left 2
        · (simp only [List.getElem?_toArray, List.getElem?_cons_succ, List.getElem?_cons_zero]; rfl)
        · exact fun _ _ _ h => h
        · rfl
        · (rintro W' _; go_simp; first | done | with_reducible rfl)
        try simp only [Act.put, List.setIfInBounds_toArray, List.set_cons_zero, List.set_cons_succ]
        refine wpAnyH_ready (rs := [8]) (by kernel_rfl) (by simp) ?_
        refine AllReadyH.cons (o := ?_) ?_ (fun K hK => ?_) AllReadyH.nil
        rotate_left 1
        · (simp only [List.getElem?_toArray, List.getElem?_cons_succ, List.getElem?_cons_zero]; rfl)
        · (refine step_app (base := w2.heap.size) (xs := []) (news := volCells ((volVs R.vols).take i)) rfl (.tmp 28) (.tmp 34) 42 rfl rfl Try.underlying42 infoV24 (by rfl) (by omega) (by omega) (by simp [Act.eval, Act.put]) (by simp [Act.eval, Act.put]) (own_zero HZZZ.out HLLZ.out) (HSA.out.chg HCCZML.out (by simp)) (by omega) HCCZML.out.size ?_; intro vaZMLA VZMLA hown hg; rw [Nat.zero_add, List.nil_append] at hown; have hst : Chg [V.heap.size] VZ VZMLA := (Chg.refl _ VZ).grown hg (fun k hk => .inl (by rw [← (show V.heap.size = k from Option.some.inj hk)]; simp)); have HCCZMLA := Lib.hid (HCCZML.out.then hst (fun q hq => .inr (by simp only [List.mem_singleton] at hq; rw [hq]; exact HLLZ.out))); have HAAZMLA := Lib.hid hown; clear hown hg hst)
          refine hK.out _ _ ?_ (fun hHeld => ?_)
          · trivial
          clear hK K
          try simp only [Act.put, List.setIfInBounds_toArray, List.set_cons_zero, List.set_cons_succ]
          refine wpAnyH_ready (rs := [16]) (by kernel_rfl) (by simp) ?_
          refine AllReadyH.cons (o := ?_) ?_ (fun K hK => ?_) AllReadyH.nil
          rotate_left 1
          · (simp only [List.getElem?_toArray, List.getElem?_cons_succ, List.getElem?_cons_zero]; rfl)
          · (refine step_app (base := w2.heap.size) (news := volCells ((volVs R.vols).drop (i + 1))) rfl (.tmp 35) (.tmp 42) 42 rfl rfl Try.underlying42 infoV24 (by rfl) (by omega) (by omega) (by simp [Act.eval, Act.put]) (by simp [Act.eval, Act.put]) HAAZMLA.out (HSD.out.chg HCCZMLA.out (by simp)) (by omega) HCCZMLA.out.size ?_; intro vz VE hown hg; have HCE := Lib.hid (HCCZMLA.out.grown hg (fun k hk => .inr (HAAZMLA.out.lt k hk).1)); rw [← volCells_app] at hown; obtain ⟨ax, cx, hvx, _, _⟩ := ownRow_slice hown; obtain ⟨nn, hnn⟩ : ∃ k, k = i + (nv - (i + 1)) := ⟨_, rfl⟩; rw [← hnn] at hown hvx; subst hvx; have HAE := Lib.hid hown; have HNN := Lib.hid hnn; clear hown hg hnn)
            refine hK.out _ _ ?_ (fun hHeld => ?_)
            · trivial
            clear hK K
            try simp only [Act.put, List.setIfInBounds_toArray, List.set_cons_zero, List.set_cons_succ]
            refine wpAnyH_take (i := 17) (oi := ?_) (v := ?_) ?_ (by kernel_rfl) (by kernel_rfl) (by kernel_rfl) ?_ (Or.inl ⟨?_, ?_⟩) hHeld ?_
            rotate_left 2
            · (simp only [List.getElem?_toArray, List.getElem?_cons_succ, List.getElem?_cons_zero]; rfl)
            · exact fun _ _ _ h => h
            · rfl
            · (rintro W' _; go_simp; first | done | with_reducible rfl)
            try simp only [Act.put, List.setIfInBounds_toArray, List.set_cons_zero, List.set_cons_succ]
            refine wpAnyH_take (i := 18) (oi := ?_) (v := ?_) ?_ (by kernel_rfl) (by kernel_rfl) (by kernel_rfl) ?_ (Or.inl ⟨?_, ?_⟩) hHeld ?_
            rotate_left 2
            · (simp only [List.getElem?_toArray, List.getElem?_cons_succ, List.getElem?_cons_zero]; rfl)
            · exact fun _ _ _ h => h
            · rfl
            · (rintro W' _; go_simp; first | done | with_reducible rfl)
            try simp only [Act.put, List.setIfInBounds_toArray, List.set_cons_zero, List.set_cons_succ]
            refine wpAnyH_ready (rs := [19]) (by kernel_rfl) (by simp) ?_
            refine AllReadyH.cons (o := ?_) ?_ (fun K hK => ?_) AllReadyH.nil
            rotate_left 1
            · (simp only [List.getElem?_toArray, List.getElem?_cons_succ, List.getElem?_cons_zero]; rfl)
            · (have hz := (HCE.out.block _ (heap_lt HPB.out) (by simp)).trans HPB.out; have zf2 := frozen_of_block hz 2; have z2 := cell_of_block hz 2; simp only [List.getElem?_toArray, List.getElem?_cons_zero, List.getElem?_cons_succ] at z2; go_simp; have hR' := rdo_dropped HR2.out HCE.out HPB.out HAE.out HNV.out HNN.out HI.out; have hC' : Chg [p] w2 (VE.setCell ⟨p, 2, none⟩ (.slice ax nn cx)) := ((Chg.refl [p] w2).then HCE.out (by simp)).setCell (.inl (by simp)) _; have hL' : ∀ b, b ∈ addB (.slice ax nn cx) L → b ∈ L ∨ w2.heap.size ≤ b := fun b hb => (mem_addB.1 hb).elim (fun e => .inr (HAE.out.lt b e).1) .inl; clear hz zf2 z2; generalize VE.setCell ⟨p, 2, none⟩ (.slice ax nn cx) = w4 at *)
              refine hK.out _ _ ?_ (fun hHeld => ?_)
              · trivial
              clear hK K
              try simp only [Act.put, List.setIfInBounds_toArray, List.set_cons_zero, List.set_cons_succ]
              refine wpAnyH_done (by kernel_rfl) ?_ _
              have hn4 := (hC'.block b4 (heap_lt HN4.out) (by simp; omega)).trans HN4.out
              have HN5 := Lib.hid hn4
              have HR5 := Lib.hid hR'
              have HL5 := Lib.hid hL'
              have HC5 := Lib.hid hC'
              clear y0 y1 y2 y3 f0 f1 f2 f3 hR' hL' hC'
              have y0 := cell_of_block hn4 0
              have y1 := cell_of_block hn4 1
              have y2 := cell_of_block hn4 2
              have y3 := cell_of_block hn4 3
              simp only [List.getElem?_toArray, List.getElem?_cons_zero, List.getElem?_cons_succ] at y0 y1 y2 y3
              have f0 := frozen_of_block hn4 0
              have f1 := frozen_of_block hn4 1
              have f2 := frozen_of_block hn4 2
              have f3 := frozen_of_block hn4 3
              clear hn4
              go_wp2_with fail
              all_goals
                have h4 : (((((w4).setCell ⟨b4, 0, none⟩ (.int .i64 0)).setCell ⟨b4, 1, none⟩ (.int .u64 0)).setCell ⟨b4, 2, none⟩ (.slice none 0 0)).setCell ⟨b4, 3, none⟩ (.int .i64 0)).heap[b4]? = some (.cells #[.int .i64 0, .int .u64 0, .slice none 0 0, .int .i64 0] 32 (0, 0)) := setCell_block (setCell_block (setCell_block (setCell_block (HN5.out) 0 (.int .i64 0)) 1 (.int .u64 0)) 2 (.slice none 0 0)) 3 (.int .i64 0)
                have hC5 : Chg [b4] w4 (((((w4).setCell ⟨b4, 0, none⟩ (.int .i64 0)).setCell ⟨b4, 1, none⟩ (.int .u64 0)).setCell ⟨b4, 2, none⟩ (.slice none 0 0)).setCell ⟨b4, 3, none⟩ (.int .i64 0)) := ((((Chg.refl [b4] w4).setCell (.inl (by simp)) _).setCell (.inl (by simp)) _).setCell (.inl (by simp)) _).setCell (.inl (by simp)) _
                clear f0 f1 f2 f3 y0 y1 y2 y3
                generalize ((((w4).setCell ⟨b4, 0, none⟩ (.int .i64 0)).setCell ⟨b4, 1, none⟩ (.int .u64 0)).setCell ⟨b4, 2, none⟩ (.slice none 0 0)).setCell ⟨b4, 3, none⟩ (.int .i64 0) = W5 at *
                have z0 := cell_of_block h4 0
                have z1 := cell_of_block h4 1
                have z2 := cell_of_block h4 2
                have z3 := cell_of_block h4 3
                simp only [List.getElem?_toArray, List.getElem?_cons_zero, List.getElem?_cons_succ] at z0 z1 z2 z3
                (try simp only [Exit.inBlock, Exit.then])
                refine bodyPost_ret (v := repV 0 0 (.slice none 0 0) 0) (by simp [results, Try.results18, go_sem, repV, z0, z1, z2, z3]) rfl ?_
                exact ⟨rfl, _, _, rdo_fin HR5.out HL5.out H.out.lt hb4w (heap_lt HN4.out) hC5, fun b hb => (HL5.out b hb).imp (fun h => h) (fun h => Nat.le_trans HC2.out.size h), (((Chg.refl [p] w).then HC2.out (by simp)).then HC5.out (fun x hx => .inl hx)).then hC5 (fun x hx => .inr (by simp only [List.mem_singleton] at hx; rw [hx]; exact hb4w))⟩
  refine AllReadyH.cons (o := ?_) ?_ (fun K hK => ?_) ?_
  rotate_left 1
  · (simp only [List.getElem?_toArray, List.getElem?_cons_succ, List.getElem?_cons_zero]; rfl)
  · (have hl := (HC0.out.cell (p := ⟨p, 2, none⟩) lp (by simp)).trans m2; go_simp; clear hl; have HCCL := HC0)
    refine hK.out _ _ ?_ (fun hHeld => ?_)
    · trivial
    clear hK K
    try simp only [Act.put, List.setIfInBounds_toArray, List.set_cons_zero, List.set_cons_succ]
    refine wpAnyH_take (i := 7) (oi := ?_) (v := ?_) ?_ (by kernel_rfl) (by kernel_rfl) (by kernel_rfl) ?_ (Or.inl ⟨?_, ?_⟩) hHeld ?_
    rotate_left 2
    · (simp only [List.getElem?_toArray, List.getElem?_cons_succ, List.getElem?_cons_zero]; rfl)
    · exact fun _ _ _ h => h
    · rfl
    · (rintro W' _; go_simp; first | done | with_reducible rfl)
    try simp only [Act.put, List.setIfInBounds_toArray, List.set_cons_zero, List.set_cons_succ]
    refine wpAnyH_ready (rs := [1, 12]) (by kernel_rfl) (by simp) ?_
    refine AllReadyH.cons (o := ?_) ?_ (fun K hK => ?_) ?_
    rotate_left 1
    · (simp only [List.getElem?_toArray, List.getElem?_cons_succ, List.getElem?_cons_zero]; rfl)
    · (go_simp; have hst := (Chg.refl [] V).alloc (.cells #[] 52); have hnb := new_block V (.cells #[] 52); have HZZLZ := Lib.hid hnb; have HCCLZ := Lib.hid (HCCL.out.trans hst); have HLLLZ := Lib.hid (HCCL.out.size); clear hnb hst; generalize V.alloc (.cells #[] 52) = VLZ at *)
      refine hK.out _ _ ?_ (fun hHeld => ?_)
      · trivial
      clear hK K
      try simp only [Act.put, List.setIfInBounds_toArray, List.set_cons_zero, List.set_cons_succ]
      refine wpAnyH_ready (rs := [8, 12]) (by kernel_rfl) (by simp) ?_
      refine AllReadyH.cons (o := ?_) ?_ (fun K hK => ?_) ?_
      rotate_left 1
      · (simp only [List.getElem?_toArray, List.getElem?_cons_succ, List.getElem?_cons_zero]; rfl)
      · (refine step_app (base := w2.heap.size) (xs := []) (news := volCells ((volVs R.vols).take i)) rfl (.tmp 28) (.tmp 34) 42 rfl rfl Try.underlying42 infoV24 (by rfl) (by omega) (by omega) (by simp [Act.eval, Act.put]) (by simp [Act.eval, Act.put]) (own_zero HZZLZ.out HLLLZ.out) (HSA.out.chg HCCLZ.out (by simp)) (by omega) HCCLZ.out.size ?_; intro vaLZA VLZA hown hg; rw [Nat.zero_add, List.nil_append] at hown; have hst : Chg [V.heap.size] VLZ VLZA := (Chg.refl _ VLZ).grown hg (fun k hk => .inl (by rw [← (show V.heap.size = k from Option.some.inj hk)]; simp)); have HCCLZA := Lib.hid (HCCLZ.out.then hst (fun q hq => .inr (by simp only [List.mem_singleton] at hq; rw [hq]; exact HLLLZ.out))); have HAALZA := Lib.hid hown; clear hown hg hst)
        refine hK.out _ _ ?_ (fun hHeld => ?_)
        · trivial
        clear hK K
        try simp only [Act.put, List.setIfInBounds_toArray, List.set_cons_zero, List.set_cons_succ]
        refine wpAnyH_ready (rs := [12]) (by kernel_rfl) (by simp) ?_
        refine AllReadyH.cons (o := ?_) ?_ (fun K hK => ?_) AllReadyH.nil
        rotate_left 1
        · (simp only [List.getElem?_toArray, List.getElem?_cons_succ, List.getElem?_cons_zero]; rfl)
        · (have hl := (HCCLZA.out.cell (p := ⟨p, 2, none⟩) lp (by simp)).trans m2; go_simp; clear hl; have HCCLZAM := HCCLZA)
          refine hK.out _ _ ?_ (fun hHeld => ?_)
          · trivial
          clear hK K
          try simp only [Act.put, List.setIfInBounds_toArray, List.set_cons_zero, List.set_cons_succ]
          refine wpAnyH_take (i := 15) (oi := ?_) (v := ?_) ?_ (by kernel_rfl) (by kernel_rfl) (by kernel_rfl) ?_ (Or.inl ⟨?_, ?_⟩) hHeld ?_
          rotate_left 2
          · (simp only [List.getElem?_toArray, List.getElem?_cons_succ, List.getElem?_cons_zero]; rfl)
          · exact fun _ _ _ h => h
          · rfl
          · (rintro W' _; go_simp; first | done | with_reducible rfl)
          try simp only [Act.put, List.setIfInBounds_toArray, List.set_cons_zero, List.set_cons_succ]
          refine wpAnyH_ready (rs := [16]) (by kernel_rfl) (by simp) ?_
          refine AllReadyH.cons (o := ?_) ?_ (fun K hK => ?_) AllReadyH.nil
          rotate_left 1
          · (simp only [List.getElem?_toArray, List.getElem?_cons_succ, List.getElem?_cons_zero]; rfl)
          · (refine step_app (base := w2.heap.size) (news := volCells ((volVs R.vols).drop (i + 1))) rfl (.tmp 35) (.tmp 42) 42 rfl rfl Try.underlying42 infoV24 (by rfl) (by omega) (by omega) (by simp [Act.eval, Act.put]) (by simp [Act.eval, Act.put]) HAALZA.out (HSD.out.chg HCCLZAM.out (by simp)) (by omega) HCCLZAM.out.size ?_; intro vz VE hown hg; have HCE := Lib.hid (HCCLZAM.out.grown hg (fun k hk => .inr (HAALZA.out.lt k hk).1)); rw [← volCells_app] at hown; obtain ⟨ax, cx, hvx, _, _⟩ := ownRow_slice hown; obtain ⟨nn, hnn⟩ : ∃ k, k = i + (nv - (i + 1)) := ⟨_, rfl⟩; rw [← hnn] at hown hvx; subst hvx; have HAE := Lib.hid hown; have HNN := Lib.hid hnn; clear hown hg hnn)
            refine hK.out _ _ ?_ (fun hHeld => ?_)
            · trivial
            clear hK K
            try simp only [Act.put, List.setIfInBounds_toArray, List.set_cons_zero, List.set_cons_succ]
            refine wpAnyH_take (i := 17) (oi := ?_) (v := ?_) ?_ (by kernel_rfl) (by kernel_rfl) (by kernel_rfl) ?_ (Or.inl ⟨?_, ?_⟩) hHeld ?_
            rotate_left 2
            · (simp only [List.getElem?_toArray, List.getElem?_cons_succ, List.getElem?_cons_zero]; rfl)
            · exact fun _ _ _ h => h
            · rfl
            · (rintro W' _; go_simp; first | done | with_reducible rfl)
            try simp only [Act.put, List.setIfInBounds_toArray, List.set_cons_zero, List.set_cons_succ]
            refine wpAnyH_take (i := 18) (oi := ?_) (v := ?_) ?_ (by kernel_rfl) (by kernel_rfl) (by kernel_rfl) ?_ (Or.inl ⟨?_, ?_⟩) hHeld ?_
            rotate_left 2
            · (simp only [List.getElem?_toArray, List.getElem?_cons_succ, List.getElem?_cons_zero]; rfl)
            · exact fun _ _ _ h => h
            · rfl
            · (rintro W' _; go_simp; first | done | with_reducible rfl)
            try simp only [Act.put, List.setIfInBounds_toArray, List.set_cons_zero, List.set_cons_succ]
            refine wpAnyH_ready (rs := [19]) (by kernel_rfl) (by simp) ?_
            refine AllReadyH.cons (o := ?_) ?_ (fun K hK => ?_) AllReadyH.nil
            rotate_left 1
            · (simp only [List.getElem?_toArray, List.getElem?_cons_succ, List.getElem?_cons_zero]; rfl)
            · (have hz := (HCE.out.block _ (heap_lt HPB.out) (by simp)).trans HPB.out; have zf2 := frozen_of_block hz 2; have z2 := cell_of_block hz 2; simp only [List.getElem?_toArray, List.getElem?_cons_zero, List.getElem?_cons_succ] at z2; go_simp; have hR' := rdo_dropped HR2.out HCE.out HPB.out HAE.out HNV.out HNN.out HI.out; have hC' : Chg [p] w2 (VE.setCell ⟨p, 2, none⟩ (.slice ax nn cx)) := ((Chg.refl [p] w2).then HCE.out (by simp)).setCell (.inl (by simp)) _; have hL' : ∀ b, b ∈ addB (.slice ax nn cx) L → b ∈ L ∨ w2.heap.size ≤ b := fun b hb => (mem_addB.1 hb).elim (fun e => .inr (HAE.out.lt b e).1) .inl; clear hz zf2 z2; generalize VE.setCell ⟨p, 2, none⟩ (.slice ax nn cx) = w4 at *)
              refine hK.out _ _ ?_ (fun hHeld => ?_)
              · trivial
              clear hK K
              try simp only [Act.put, List.setIfInBounds_toArray, List.set_cons_zero, List.set_cons_succ]
              refine wpAnyH_done (by kernel_rfl) ?_ _
              have hn4 := (hC'.block b4 (heap_lt HN4.out) (by simp; omega)).trans HN4.out
              have HN5 := Lib.hid hn4
              have HR5 := Lib.hid hR'
              have HL5 := Lib.hid hL'
              have HC5 := Lib.hid hC'
              clear y0 y1 y2 y3 f0 f1 f2 f3 hR' hL' hC'
              have y0 := cell_of_block hn4 0
              have y1 := cell_of_block hn4 1
              have y2 := cell_of_block hn4 2
              have y3 := cell_of_block hn4 3
              simp only [List.getElem?_toArray, List.getElem?_cons_zero, List.getElem?_cons_succ] at y0 y1 y2 y3
              have f0 := frozen_of_block hn4 0
              have f1 := frozen_of_block hn4 1
              have f2 := frozen_of_block hn4 2
              have f3 := frozen_of_block hn4 3
              clear hn4
              go_wp2_with fail
              all_goals
                have h4 : (((((w4).setCell ⟨b4, 0, none⟩ (.int .i64 0)).setCell ⟨b4, 1, none⟩ (.int .u64 0)).setCell ⟨b4, 2, none⟩ (.slice none 0 0)).setCell ⟨b4, 3, none⟩ (.int .i64 0)).heap[b4]? = some (.cells #[.int .i64 0, .int .u64 0, .slice none 0 0, .int .i64 0] 32 (0, 0)) := setCell_block (setCell_block (setCell_block (setCell_block (HN5.out) 0 (.int .i64 0)) 1 (.int .u64 0)) 2 (.slice none 0 0)) 3 (.int .i64 0)
                have hC5 : Chg [b4] w4 (((((w4).setCell ⟨b4, 0, none⟩ (.int .i64 0)).setCell ⟨b4, 1, none⟩ (.int .u64 0)).setCell ⟨b4, 2, none⟩ (.slice none 0 0)).setCell ⟨b4, 3, none⟩ (.int .i64 0)) := ((((Chg.refl [b4] w4).setCell (.inl (by simp)) _).setCell (.inl (by simp)) _).setCell (.inl (by simp)) _).setCell (.inl (by simp)) _
                clear f0 f1 f2 f3 y0 y1 y2 y3
                generalize ((((w4).setCell ⟨b4, 0, none⟩ (.int .i64 0)).setCell ⟨b4, 1, none⟩ (.int .u64 0)).setCell ⟨b4, 2, none⟩ (.slice none 0 0)).setCell ⟨b4, 3, none⟩ (.int .i64 0) = W5 at *
                have z0 := cell_of_block h4 0
                have z1 := cell_of_block h4 1
                have z2 := cell_of_block h4 2
                have z3 := cell_of_block h4 3
                simp only [List.getElem?_toArray, List.getElem?_cons_zero, List.getElem?_cons_succ] at z0 z1 z2 z3
                (try simp only [Exit.inBlock, Exit.then])
                refine bodyPost_ret (v := repV 0 0 (.slice none 0 0) 0) (by simp [results, Try.results18, go_sem, repV, z0, z1, z2, z3]) rfl ?_
                exact ⟨rfl, _, _, rdo_fin HR5.out HL5.out H.out.lt hb4w (heap_lt HN4.out) hC5, fun b hb => (HL5.out b hb).imp (fun h => h) (fun h => Nat.le_trans HC2.out.size h), (((Chg.refl [p] w).then HC2.out (by simp)).then HC5.out (fun x hx => .inl hx)).then hC5 (fun x hx => .inr (by simp only [List.mem_singleton] at hx; rw [hx]; exact hb4w))⟩
      refine AllReadyH.cons (o := ?_) ?_ (fun K hK => ?_) AllReadyH.nil
      rotate_left 1
      · (simp only [List.getElem?_toArray, List.getElem?_cons_succ, List.getElem?_cons_zero]; rfl)
      · (have hl := (HCCLZ.out.cell (p := ⟨p, 2, none⟩) lp (by simp)).trans m2; go_simp; clear hl; have HCCLZM := HCCLZ)
        refine hK.out _ _ ?_ (fun hHeld => ?_)
        · trivial
        clear hK K
        try simp only [Act.put, List.setIfInBounds_toArray, List.set_cons_zero, List.set_cons_succ]
        refine wpAnyH_take (i := 15) (oi := ?_) (v := ?_) ?_ (by kernel_rfl) (by kernel_rfl) (by kernel_rfl) ?_ (Or.inl ⟨?_, ?_⟩) hHeld ?_
        rotate_left 2
        · (simp only [List.getElem?_toArray, List.getElem?_cons_succ, List.getElem?_cons_zero]; rfl)
        · exact fun _ _ _ h => h
        · rfl
        · (rintro W' _; go_simp; first | done | with_reducible rfl)
        try simp only [Act.put, List.setIfInBounds_toArray, List.set_cons_zero, List.set_cons_succ]
        refine wpAnyH_ready (rs := [8]) (by kernel_rfl) (by simp) ?_
        refine AllReadyH.cons (o := ?_) ?_ (fun K hK => ?_) AllReadyH.nil
        rotate_left 1
        · (simp only [List.getElem?_toArray, List.getElem?_cons_succ, List.getElem?_cons_zero]; rfl)
        · (refine step_app (base := w2.heap.size) (xs := []) (news := volCells ((volVs R.vols).take i)) rfl (.tmp 28) (.tmp 34) 42 rfl rfl Try.underlying42 infoV24 (by rfl) (by omega) (by omega) (by simp [Act.eval, Act.put]) (by simp [Act.eval, Act.put]) (own_zero HZZLZ.out HLLLZ.out) (HSA.out.chg HCCLZM.out (by simp)) (by omega) HCCLZM.out.size ?_; intro vaLZMA VLZMA hown hg; rw [Nat.zero_add, List.nil_append] at hown; have hst : Chg [V.heap.size] VLZ VLZMA := (Chg.refl _ VLZ).grown hg (fun k hk => .inl (by rw [← (show V.heap.size = k from Option.some.inj hk)]; simp)); have HCCLZMA := Lib.hid (HCCLZM.out.then hst (fun q hq => .inr (by simp only [List.mem_singleton] at hq; rw [hq]; exact HLLLZ.out))); have HAALZMA := Lib.hid hown; clear hown hg hst)
          refine hK.out _ _ ?_ (fun hHeld => ?_)
          · trivial
          clear hK K
          try simp only [Act.put, List.setIfInBounds_toArray, List.set_cons_zero, List.set_cons_succ]
          refine wpAnyH_ready (rs := [16]) (by kernel_rfl) (by simp) ?_
          refine AllReadyH.cons (o := ?_) ?_ (fun K hK => ?_) AllReadyH.nil
          rotate_left 1
          · (simp only [List.getElem?_toArray, List.getElem?_cons_succ, List.getElem?_cons_zero]; rfl)
          · (refine step_app (base := w2.heap.size) (news := volCells ((volVs R.vols).drop (i + 1))) rfl (.tmp 35) (.tmp 42) 42 rfl rfl Try.underlying42 infoV24 (by rfl) (by omega) (by omega) (by simp [Act.eval, Act.put]) (by simp [Act.eval, Act.put]) HAALZMA.out (HSD.out.chg HCCLZMA.out (by simp)) (by omega) HCCLZMA.out.size ?_; intro vz VE hown hg; have HCE := Lib.hid (HCCLZMA.out.grown hg (fun k hk => .inr (HAALZMA.out.lt k hk).1)); rw [← volCells_app] at hown; obtain ⟨ax, cx, hvx, _, _⟩ := ownRow_slice hown; obtain ⟨nn, hnn⟩ : ∃ k, k = i + (nv - (i + 1)) := ⟨_, rfl⟩; rw [← hnn] at hown hvx; subst hvx; have HAE := Lib.hid hown; have HNN := Lib.hid hnn; clear hown hg hnn)
            refine hK.out _ _ ?_ (fun hHeld => ?_)
            · trivial
            clear hK K
            try simp only [Act.put, List.setIfInBounds_toArray, List.set_cons_zero, List.set_cons_succ]
            refine wpAnyH_take (i := 17) (oi := ?_) (v := ?_) ?_ (by kernel_rfl) (by kernel_rfl) (by kernel_rfl) ?_ (Or.inl ⟨?_, ?_⟩) hHeld ?_
            rotate_left 2
            · (simp only [List.getElem?_toArray, List.getElem?_cons_succ, List.getElem?_cons_zero]; rfl)
            · exact fun _ _ _ h => h
            · rfl
            · (rintro W' _; go_simp; first | done | with_reducible rfl)
            try simp only [Act.put, List.setIfInBounds_toArray, List.set_cons_zero, List.set_cons_succ]
            refine wpAnyH_take (i := 18) (oi := ?_) (v := ?_) ?_ (by kernel_rfl) (by kernel_rfl) (by kernel_rfl) ?_ (Or.inl ⟨?_, ?_⟩) hHeld ?_
            rotate_left 2
            · (simp only [List.getElem?_toArray, List.getElem?_cons_succ, List.getElem?_cons_zero]; rfl)
            · exact fun _ _ _ h => h
            · rfl
            · (rintro W' _; go_simp; first | done | with_reducible rfl)
            try simp only [Act.put, List.setIfInBounds_toArray, List.set_cons_zero, List.set_cons_succ]
            refine wpAnyH_ready (rs := [19]) (by kernel_rfl) (by simp) ?_
            refine AllReadyH.cons (o := ?_) ?_ (fun K hK => ?_) AllReadyH.nil
            rotate_left 1
            · (simp only [List.getElem?_toArray, List.getElem?_cons_succ, List.getElem?_cons_zero]; rfl)
            · (have hz := (HCE.out.block _ (heap_lt HPB.out) (by simp)).trans HPB.out; have zf2 := frozen_of_block hz 2; have z2 := cell_of_block hz 2; simp only [List.getElem?_toArray, List.getElem?_cons_zero, List.getElem?_cons_succ] at z2; go_simp; have hR' := rdo_dropped HR2.out HCE.out HPB.out HAE.out HNV.out HNN.out HI.out; have hC' : Chg [p] w2 (VE.setCell ⟨p, 2, none⟩ (.slice ax nn cx)) := ((Chg.refl [p] w2).then HCE.out (by simp)).setCell (.inl (by simp)) _; have hL' : ∀ b, b ∈ addB (.slice ax nn cx) L → b ∈ L ∨ w2.heap.size ≤ b := fun b hb => (mem_addB.1 hb).elim (fun e => .inr (HAE.out.lt b e).1) .inl; clear hz zf2 z2; generalize VE.setCell ⟨p, 2, none⟩ (.slice ax nn cx) = w4 at *)
              refine hK.out _ _ ?_ (fun hHeld => ?_)
              · trivial
              clear hK K
              try simp only [Act.put, List.setIfInBounds_toArray, List.set_cons_zero, List.set_cons_succ]
              refine wpAnyH_done (by kernel_rfl) ?_ _
              have hn4 := (hC'.block b4 (heap_lt HN4.out) (by simp; omega)).trans HN4.out
              have HN5 := Lib.hid hn4
              have HR5 := Lib.hid hR'
              have HL5 := Lib.hid hL'
              have HC5 := Lib.hid hC'
              clear y0 y1 y2 y3 f0 f1 f2 f3 hR' hL' hC'
              have y0 := cell_of_block hn4 0
              have y1 := cell_of_block hn4 1
              have y2 := cell_of_block hn4 2
              have y3 := cell_of_block hn4 3
              simp only [List.getElem?_toArray, List.getElem?_cons_zero, List.getElem?_cons_succ] at y0 y1 y2 y3
              have f0 := frozen_of_block hn4 0
              have f1 := frozen_of_block hn4 1
              have f2 := frozen_of_block hn4 2
              have f3 := frozen_of_block hn4 3
              clear hn4
              go_wp2_with fail
              all_goals
                have h4 : (((((w4).setCell ⟨b4, 0, none⟩ (.int .i64 0)).setCell ⟨b4, 1, none⟩ (.int .u64 0)).setCell ⟨b4, 2, none⟩ (.slice none 0 0)).setCell ⟨b4, 3, none⟩ (.int .i64 0)).heap[b4]? = some (.cells #[.int .i64 0, .int .u64 0, .slice none 0 0, .int .i64 0] 32 (0, 0)) := setCell_block (setCell_block (setCell_block (setCell_block (HN5.out) 0 (.int .i64 0)) 1 (.int .u64 0)) 2 (.slice none 0 0)) 3 (.int .i64 0)
                have hC5 : Chg [b4] w4 (((((w4).setCell ⟨b4, 0, none⟩ (.int .i64 0)).setCell ⟨b4, 1, none⟩ (.int .u64 0)).setCell ⟨b4, 2, none⟩ (.slice none 0 0)).setCell ⟨b4, 3, none⟩ (.int .i64 0)) := ((((Chg.refl [b4] w4).setCell (.inl (by simp)) _).setCell (.inl (by simp)) _).setCell (.inl (by simp)) _).setCell (.inl (by simp)) _
                clear f0 f1 f2 f3 y0 y1 y2 y3
                generalize ((((w4).setCell ⟨b4, 0, none⟩ (.int .i64 0)).setCell ⟨b4, 1, none⟩ (.int .u64 0)).setCell ⟨b4, 2, none⟩ (.slice none 0 0)).setCell ⟨b4, 3, none⟩ (.int .i64 0) = W5 at *
                have z0 := cell_of_block h4 0
                have z1 := cell_of_block h4 1
                have z2 := cell_of_block h4 2
                have z3 := cell_of_block h4 3
                simp only [List.getElem?_toArray, List.getElem?_cons_zero, List.getElem?_cons_succ] at z0 z1 z2 z3
                (try simp only [Exit.inBlock, Exit.then])
                refine bodyPost_ret (v := repV 0 0 (.slice none 0 0) 0) (by simp [results, Try.results18, go_sem, repV, z0, z1, z2, z3]) rfl ?_
                exact ⟨rfl, _, _, rdo_fin HR5.out HL5.out H.out.lt hb4w (heap_lt HN4.out) hC5, fun b hb => (HL5.out b hb).imp (fun h => h) (fun h => Nat.le_trans HC2.out.size h), (((Chg.refl [p] w).then HC2.out (by simp)).then HC5.out (fun x hx => .inl hx)).then hC5 (fun x hx => .inr (by simp only [List.mem_singleton] at hx; rw [hx]; exact hb4w))⟩
    refine AllReadyH.cons (o := ?_) ?_ (fun K hK => ?_) AllReadyH.nil
    rotate_left 1
    · (simp only [List.getElem?_toArray, List.getElem?_cons_succ, List.getElem?_cons_zero]; rfl)
    · (have hl := (HCCL.out.cell (p := ⟨p, 2, none⟩) lp (by simp)).trans m2; go_simp; clear hl; have HCCLM := HCCL)
      refine hK.out _ _ ?_ (fun hHeld => ?_)
      · trivial
      clear hK K
      try simp only [Act.put, List.setIfInBounds_toArray, List.set_cons_zero, List.set_cons_succ]
      refine wpAnyH_take (i := 15) (oi := ?_) (v := ?_) ?_ (by kernel_rfl) (by kernel_rfl) (by kernel_rfl) ?_ (Or.inl ⟨?_, ?_⟩) hHeld ?_
      rotate_left 2
      · (simp only [List.getElem?_toArray, List.getElem?_cons_succ, List.getElem?_cons_zero]; rfl)
      · exact fun _ _ _ h => h
      · rfl
      · (rintro W' _; go_simp; first | done | with_reducible rfl)
      try simp only [Act.put, List.setIfInBounds_toArray, List.set_cons_zero, List.set_cons_succ]
      refine wpAnyH_ready (rs := [1]) (by kernel_rfl) (by simp) ?_
      refine AllReadyH.cons (o := ?_) ?_ (fun K hK => ?_) AllReadyH.nil
      rotate_left 1
      · (simp only [List.getElem?_toArray, List.getElem?_cons_succ, List.getElem?_cons_zero]; rfl)
      · (go_simp; have hst := (Chg.refl [] V).alloc (.cells #[] 52); have hnb := new_block V (.cells #[] 52); have HZZLMZ := Lib.hid hnb; have HCCLMZ := Lib.hid (HCCLM.out.trans hst); have HLLLMZ := Lib.hid (HCCLM.out.size); clear hnb hst; generalize V.alloc (.cells #[] 52) = VLMZ at *)
        refine hK.out _ _ ?_ (fun hHeld => ?_)
        · trivial
        clear hK K
        try simp only [Act.put, List.setIfInBounds_toArray, List.set_cons_zero, List.set_cons_succ]
        refine wpAnyH_ready (rs := [8]) (by kernel_rfl) (by simp) ?_
        refine AllReadyH.cons (o := ?_) ?_ (fun K hK => ?_) AllReadyH.nil
        rotate_left 1
        · (simp only [List.getElem?_toArray, List.getElem?_cons_succ, List.getElem?_cons_zero]; rfl)
        · (refine step_app (base := w2.heap.size) (xs := []) (news := volCells ((volVs R.vols).take i)) rfl (.tmp 28) (.tmp 34) 42 rfl rfl Try.underlying42 infoV24 (by rfl) (by omega) (by omega) (by simp [Act.eval, Act.put]) (by simp [Act.eval, Act.put]) (own_zero HZZLMZ.out HLLLMZ.out) (HSA.out.chg HCCLMZ.out (by simp)) (by omega) HCCLMZ.out.size ?_; intro vaLMZA VLMZA hown hg; rw [Nat.zero_add, List.nil_append] at hown; have hst : Chg [V.heap.size] VLMZ VLMZA := (Chg.refl _ VLMZ).grown hg (fun k hk => .inl (by rw [← (show V.heap.size = k from Option.some.inj hk)]; simp)); have HCCLMZA := Lib.hid (HCCLMZ.out.then hst (fun q hq => .inr (by simp only [List.mem_singleton] at hq; rw [hq]; exact HLLLMZ.out))); have HAALMZA := Lib.hid hown; clear hown hg hst)
          refine hK.out _ _ ?_ (fun hHeld => ?_)
          · trivial
          clear hK K
          try simp only [Act.put, List.setIfInBounds_toArray, List.set_cons_zero, List.set_cons_succ]
          refine wpAnyH_ready (rs := [16]) (by kernel_rfl) (by simp) ?_
          refine AllReadyH.cons (o := ?_) ?_ (fun K hK => ?_) AllReadyH.nil
          rotate_left 1
          · (simp only [List.getElem?_toArray, List.getElem?_cons_succ, List.getElem?_cons_zero]; rfl)
          · (refine step_app (base := w2.heap.size) (news := volCells ((volVs R.vols).drop (i + 1))) rfl (.tmp 35) (.tmp 42) 42 rfl rfl Try.underlying42 infoV24 (by rfl) (by omega) (by omega) (by simp [Act.eval, Act.put]) (by simp [Act.eval, Act.put]) HAALMZA.out (HSD.out.chg HCCLMZA.out (by simp)) (by omega) HCCLMZA.out.size ?_; intro vz VE hown hg; have HCE := Lib.hid (HCCLMZA.out.grown hg (fun k hk => .inr (HAALMZA.out.lt k hk).1)); rw [← volCells_app] at hown; obtain ⟨ax, cx, hvx, _, _⟩ := ownRow_slice hown; obtain ⟨nn, hnn⟩ : ∃ k, k = i + (nv - (i + 1)) := ⟨_, rfl⟩; rw [← hnn] at hown hvx; subst hvx; have HAE := Lib.hid hown; have HNN := Lib.hid hnn; clear hown hg hnn)
            refine hK.out _ _ ?_ (fun hHeld => ?_)
            · trivial
            clear hK K
            try simp only [Act.put, List.setIfInBounds_toArray, List.set_cons_zero, List.set_cons_succ]
            refine wpAnyH_take (i := 17) (oi := ?_) (v := ?_) ?_ (by kernel_rfl) (by kernel_rfl) (by kernel_rfl) ?_ (Or.inl ⟨?_, ?_⟩) hHeld ?_
            rotate_left 2
            · (simp only [List.getElem?_toArray, List.getElem?_cons_succ, List.getElem?_cons_zero]; rfl)
            · exact fun _ _ _ h => h
            · rfl
            · (rintro W' _; go_simp; first | done | with_reducible rfl)
            try simp only [Act.put, List.setIfInBounds_toArray, List.set_cons_zero, List.set_cons_succ]
            refine wpAnyH_take (i := 18) (oi := ?_) (v := ?_) ?_ (by kernel_rfl) (by kernel_rfl) (by kernel_rfl) ?_ (Or.inl ⟨?_, ?_⟩) hHeld ?_
            rotate_left 2
            · (simp only [List.getElem?_toArray, List.getElem?_cons_succ, List.getElem?_cons_zero]; rfl)
            · exact fun _ _ _ h => h
            · rfl
            · (rintro W' _; go_simp; first | done | with_reducible rfl)
            try simp only [Act.put, List.setIfInBounds_toArray, List.set_cons_zero, List.set_cons_succ]
            refine wpAnyH_ready (rs := [19]) (by kernel_rfl) (by simp) ?_
            refine AllReadyH.cons (o := ?_) ?_ (fun K hK => ?_) AllReadyH.nil
            rotate_left 1
            · (simp only [List.getElem?_toArray, List.getElem?_cons_succ, List.getElem?_cons_zero]; rfl)
            · (have hz := (HCE.out.block _ (heap_lt HPB.out) (by simp)).trans HPB.out; have zf2 := frozen_of_block hz 2; have z2 := cell_of_block hz 2; simp only [List.getElem?_toArray, List.getElem?_cons_zero, List.getElem?_cons_succ] at z2; go_simp; have hR' := rdo_dropped HR2.out HCE.out HPB.out HAE.out HNV.out HNN.out HI.out; have hC' : Chg [p] w2 (VE.setCell ⟨p, 2, none⟩ (.slice ax nn cx)) := ((Chg.refl [p] w2).then HCE.out (by simp)).setCell (.inl (by simp)) _; have hL' : ∀ b, b ∈ addB (.slice ax nn cx) L → b ∈ L ∨ w2.heap.size ≤ b := fun b hb => (mem_addB.1 hb).elim (fun e => .inr (HAE.out.lt b e).1) .inl; clear hz zf2 z2; generalize VE.setCell ⟨p, 2, none⟩ (.slice ax nn cx) = w4 at *)
              refine hK.out _ _ ?_ (fun hHeld => ?_)
              · trivial
              clear hK K
              try simp only [Act.put, List.setIfInBounds_toArray, List.set_cons_zero, List.set_cons_succ]
              refine wpAnyH_done (by kernel_rfl) ?_ _
              have hn4 := (hC'.block b4 (heap_lt HN4.out) (by simp; omega)).trans HN4.out
              have HN5 := Lib.hid hn4
              have HR5 := Lib.hid hR'
              have HL5 := Lib.hid hL'
              have HC5 := Lib.hid hC'
              clear y0 y1 y2 y3 f0 f1 f2 f3 hR' hL' hC'
              have y0 := cell_of_block hn4 0
              have y1 := cell_of_block hn4 1
              have y2 := cell_of_block hn4 2
              have y3 := cell_of_block hn4 3
              simp only [List.getElem?_toArray, List.getElem?_cons_zero, List.getElem?_cons_succ] at y0 y1 y2 y3
              have f0 := frozen_of_block hn4 0
              have f1 := frozen_of_block hn4 1
              have f2 := frozen_of_block hn4 2
              have f3 := frozen_of_block hn4 3
              clear hn4
              go_wp2_with fail
              all_goals
                have h4 : (((((w4).setCell ⟨b4, 0, none⟩ (.int .i64 0)).setCell ⟨b4, 1, none⟩ (.int .u64 0)).setCell ⟨b4, 2, none⟩ (.slice none 0 0)).setCell ⟨b4, 3, none⟩ (.int .i64 0)).heap[b4]? = some (.cells #[.int .i64 0, .int .u64 0, .slice none 0 0, .int .i64 0] 32 (0, 0)) := setCell_block (setCell_block (setCell_block (setCell_block (HN5.out) 0 (.int .i64 0)) 1 (.int .u64 0)) 2 (.slice none 0 0)) 3 (.int .i64 0)
                have hC5 : Chg [b4] w4 (((((w4).setCell ⟨b4, 0, none⟩ (.int .i64 0)).setCell ⟨b4, 1, none⟩ (.int .u64 0)).setCell ⟨b4, 2, none⟩ (.slice none 0 0)).setCell ⟨b4, 3, none⟩ (.int .i64 0)) := ((((Chg.refl [b4] w4).setCell (.inl (by simp)) _).setCell (.inl (by simp)) _).setCell (.inl (by simp)) _).setCell (.inl (by simp)) _
                clear f0 f1 f2 f3 y0 y1 y2 y3
                generalize ((((w4).setCell ⟨b4, 0, none⟩ (.int .i64 0)).setCell ⟨b4, 1, none⟩ (.int .u64 0)).setCell ⟨b4, 2, none⟩ (.slice none 0 0)).setCell ⟨b4, 3, none⟩ (.int .i64 0) = W5 at *
                have z0 := cell_of_block h4 0
                have z1 := cell_of_block h4 1
                have z2 := cell_of_block h4 2
                have z3 := cell_of_block h4 3
                simp only [List.getElem?_toArray, List.getElem?_cons_zero, List.getElem?_cons_succ] at z0 z1 z2 z3
                (try simp only [Exit.inBlock, Exit.then])
                refine bodyPost_ret (v := repV 0 0 (.slice none 0 0) 0) (by simp [results, Try.results18, go_sem, repV, z0, z1, z2, z3]) rfl ?_
                exact ⟨rfl, _, _, rdo_fin HR5.out HL5.out H.out.lt hb4w (heap_lt HN4.out) hC5, fun b hb => (HL5.out b hb).imp (fun h => h) (fun h => Nat.le_trans HC2.out.size h), (((Chg.refl [p] w).then HC2.out (by simp)).then HC5.out (fun x hx => .inl hx)).then hC5 (fun x hx => .inr (by simp only [List.mem_singleton] at hx; rw [hx]; exact hb4w))⟩
  refine AllReadyH.cons (o := ?_) ?_ (fun K hK => ?_) AllReadyH.nil
  rotate_left 1
  · (simp only [List.getElem?_toArray, List.getElem?_cons_succ, List.getElem?_cons_zero]; rfl)
  · (have hl := (HC0.out.cell (p := ⟨p, 2, none⟩) lp (by simp)).trans m2; go_simp; clear hl; have HCCM := HC0)
    refine hK.out _ _ ?_ (fun hHeld => ?_)
    · trivial
    clear hK K
    try simp only [Act.put, List.setIfInBounds_toArray, List.set_cons_zero, List.set_cons_succ]
    refine wpAnyH_take (i := 15) (oi := ?_) (v := ?_) ?_ (by kernel_rfl) (by kernel_rfl) (by kernel_rfl) ?_ (Or.inl ⟨?_, ?_⟩) hHeld ?_
    rotate_left 2
    · (simp only [List.getElem?_toArray, List.getElem?_cons_succ, List.getElem?_cons_zero]; rfl)
    · exact fun _ _ _ h => h
    · rfl
    · (rintro W' _; go_simp; first | done | with_reducible rfl)
    try simp only [Act.put, List.setIfInBounds_toArray, List.set_cons_zero, List.set_cons_succ]
    refine wpAnyH_ready (rs := [1, 5]) (by kernel_rfl) (by simp) ?_
    refine AllReadyH.cons (o := ?_) ?_ (fun K hK => ?_) ?_
    rotate_left 1
    · (simp only [List.getElem?_toArray, List.getElem?_cons_succ, List.getElem?_cons_zero]; rfl)
    · (go_simp; have hst := (Chg.refl [] V).alloc (.cells #[] 52); have hnb := new_block V (.cells #[] 52); have HZZMZ := Lib.hid hnb; have HCCMZ := Lib.hid (HCCM.out.trans hst); have HLLMZ := Lib.hid (HCCM.out.size); clear hnb hst; generalize V.alloc (.cells #[] 52) = VMZ at *)
      refine hK.out _ _ ?_ (fun hHeld => ?_)
      · trivial
      clear hK K
      try simp only [Act.put, List.setIfInBounds_toArray, List.set_cons_zero, List.set_cons_succ]
      refine wpAnyH_ready (rs := [5]) (by kernel_rfl) (by simp) ?_
      refine AllReadyH.cons (o := ?_) ?_ (fun K hK => ?_) AllReadyH.nil
      rotate_left 1
      · (simp only [List.getElem?_toArray, List.getElem?_cons_succ, List.getElem?_cons_zero]; rfl)
      · (have hl := (HCCMZ.out.cell (p := ⟨p, 2, none⟩) lp (by simp)).trans m2; go_simp; clear hl; have HCCMZL := HCCMZ)
        refine hK.out _ _ ?_ (fun hHeld => ?_)
        · trivial
        clear hK K
        try simp only [Act.put, List.setIfInBounds_toArray, List.set_cons_zero, List.set_cons_succ]
        refine wpAnyH_take (i := 7) (oi := ?_) (v := ?_) ?_ (by kernel_rfl) (by kernel_rfl) (by kernel_rfl) ?_ (Or.inl ⟨?_, ?_⟩) hHeld ?_
        rotate_left 2
        · (simp only [List.getElem?_toArray, List.getElem?_cons_succ, List.getElem?_cons_zero]; rfl)
        · exact fun _ _ _ h => h
        · rfl
        · (rintro W' _; go_simp; first | done | with_reducible rfl)
        try simp only [Act.put, List.setIfInBounds_toArray, List.set_cons_zero, List.set_cons_succ]
        refine wpAnyH_ready (rs := [8]) (by kernel_rfl) (by simp) ?_
        refine AllReadyH.cons (o := ?_) ?_ (fun K hK => ?_) AllReadyH.nil
        rotate_left 1
        · (simp only [List.getElem?_toArray, List.getElem?_cons_succ, List.getElem?_cons_zero]; rfl)
        · (refine step_app (base := w2.heap.size) (xs := []) (news := volCells ((volVs R.vols).take i)) rfl (.tmp 28) (.tmp 34) 42 rfl rfl Try.underlying42 infoV24 (by rfl) (by omega) (by omega) (by simp [Act.eval, Act.put]) (by simp [Act.eval, Act.put]) (own_zero HZZMZ.out HLLMZ.out) (HSA.out.chg HCCMZL.out (by simp)) (by omega) HCCMZL.out.size ?_; intro vaMZLA VMZLA hown hg; rw [Nat.zero_add, List.nil_append] at hown; have hst : Chg [V.heap.size] VMZ VMZLA := (Chg.refl _ VMZ).grown hg (fun k hk => .inl (by rw [← (show V.heap.size = k from Option.some.inj hk)]; simp)); have HCCMZLA := Lib.hid (HCCMZL.out.then hst (fun q hq => .inr (by simp only [List.mem_singleton] at hq; rw [hq]; exact HLLMZ.out))); have HAAMZLA := Lib.hid hown; clear hown hg hst)
          refine hK.out _ _ ?_ (fun hHeld => ?_)
          · trivial
          clear hK K
          try simp only [Act.put, List.setIfInBounds_toArray, List.set_cons_zero, List.set_cons_succ]
          refine wpAnyH_ready (rs := [16]) (by kernel_rfl) (by simp) ?_
          refine AllReadyH.cons (o := ?_) ?_ (fun K hK => ?_) AllReadyH.nil
          rotate_left 1
          · (simp only [List.getElem?_toArray, List.getElem?_cons_succ, List.getElem?_cons_zero]; rfl)
          · (refine step_app (base := w2.heap.size) (news := volCells ((volVs R.vols).drop (i + 1))) rfl (.tmp 35) (.tmp 42) 42 rfl rfl Try.underlying42 infoV24 (by rfl) (by omega) (by omega) (by simp [Act.eval, Act.put]) (by simp [Act.eval, Act.put]) HAAMZLA.out (HSD.out.chg HCCMZLA.out (by simp)) (by omega) HCCMZLA.out.size ?_; intro vz VE hown hg; have HCE := Lib.hid (HCCMZLA.out.grown hg (fun k hk => .inr (HAAMZLA.out.lt k hk).1)); rw [← volCells_app] at hown; obtain ⟨ax, cx, hvx, _, _⟩ := ownRow_slice hown; obtain ⟨nn, hnn⟩ : ∃ k, k = i + (nv - (i + 1)) := ⟨_, rfl⟩; rw [← hnn] at hown hvx; subst hvx; have HAE := Lib.hid hown; have HNN := Lib.hid hnn; clear hown hg hnn)
            refine hK.out _ _ ?_ (fun hHeld => ?_)
            · trivial
            clear hK K
            try simp only [Act.put, List.setIfInBounds_toArray, List.set_cons_zero, List.set_cons_succ]
            refine wpAnyH_take (i := 17) (oi := ?_) (v := ?_) ?_ (by kernel_rfl) (by kernel_rfl) (by kernel_rfl) ?_ (Or.inl ⟨?_, ?_⟩) hHeld ?_
            rotate_left 2
            · (simp only [List.getElem?_toArray, List.getElem?_cons_succ, List.getElem?_cons_zero]; rfl)
            · exact fun _ _ _ h => h
            · rfl
            · (rintro W' _; go_simp; first | done | with_reducible rfl)
            try simp only [Act.put, List.setIfInBounds_toArray, List.set_cons_zero, List.set_cons_succ]
            refine wpAnyH_take (i := 18) (oi := ?_) (v := ?_) ?_ (by kernel_rfl) (by kernel_rfl) (by kernel_rfl) ?_ (Or.inl ⟨?_, ?_⟩) hHeld ?_
            rotate_left 2
            · (simp only [List.getElem?_toArray, List.getElem?_cons_succ, List.getElem?_cons_zero]; rfl)
            · exact fun _ _ _ h => h
            · rfl
            · (rintro W' _; go_simp; first | done | with_reducible rfl)
            try simp only [Act.put, List.setIfInBounds_toArray, List.set_cons_zero, List.set_cons_succ]
            refine wpAnyH_ready (rs := [19]) (by kernel_rfl) (by simp) ?_
            refine AllReadyH.cons (o := ?_) ?_ (fun K hK => ?_) AllReadyH.nil
            rotate_left 1
            · (simp only [List.getElem?_toArray, List.getElem?_cons_succ, List.getElem?_cons_zero]; rfl)
            · (have hz := (HCE.out.block _ (heap_lt HPB.out) (by simp)).trans HPB.out; have zf2 := frozen_of_block hz 2; have z2 := cell_of_block hz 2; simp only [List.getElem?_toArray, List.getElem?_cons_zero, List.getElem?_cons_succ] at z2; go_simp; have hR' := rdo_dropped HR2.out HCE.out HPB.out HAE.out HNV.out HNN.out HI.out; have hC' : Chg [p] w2 (VE.setCell ⟨p, 2, none⟩ (.slice ax nn cx)) := ((Chg.refl [p] w2).then HCE.out (by simp)).setCell (.inl (by simp)) _; have hL' : ∀ b, b ∈ addB (.slice ax nn cx) L → b ∈ L ∨ w2.heap.size ≤ b := fun b hb => (mem_addB.1 hb).elim (fun e => .inr (HAE.out.lt b e).1) .inl; clear hz zf2 z2; generalize VE.setCell ⟨p, 2, none⟩ (.slice ax nn cx) = w4 at *)
              refine hK.out _ _ ?_ (fun hHeld => ?_)
              · trivial
              clear hK K
              try simp only [Act.put, List.setIfInBounds_toArray, List.set_cons_zero, List.set_cons_succ]
              refine wpAnyH_done (by kernel_rfl) ?_ _
              have hn4 := (hC'.block b4 (heap_lt HN4.out) (by simp; omega)).trans HN4.out
              have HN5 := Lib.hid hn4
              have HR5 := Lib.hid hR'
              have HL5 := Lib.hid hL'
              have HC5 := Lib.hid hC'
              clear y0 y1 y2 y3 f0 f1 f2 f3 hR' hL' hC'
              have y0 := cell_of_block hn4 0
              have y1 := cell_of_block hn4 1
              have y2 := cell_of_block hn4 2
              have y3 := cell_of_block hn4 3
              simp only [List.getElem?_toArray, List.getElem?_cons_zero, List.getElem?_cons_succ] at y0 y1 y2 y3
              have f0 := frozen_of_block hn4 0
              have f1 := frozen_of_block hn4 1
              have f2 := frozen_of_block hn4 2
              have f3 := frozen_of_block hn4 3
              clear hn4
              go_wp2_with fail
              all_goals
                have h4 : (((((w4).setCell ⟨b4, 0, none⟩ (.int .i64 0)).setCell ⟨b4, 1, none⟩ (.int .u64 0)).setCell ⟨b4, 2, none⟩ (.slice none 0 0)).setCell ⟨b4, 3, none⟩ (.int .i64 0)).heap[b4]? = some (.cells #[.int .i64 0, .int .u64 0, .slice none 0 0, .int .i64 0] 32 (0, 0)) := setCell_block (setCell_block (setCell_block (setCell_block (HN5.out) 0 (.int .i64 0)) 1 (.int .u64 0)) 2 (.slice none 0 0)) 3 (.int .i64 0)
                have hC5 : Chg [b4] w4 (((((w4).setCell ⟨b4, 0, none⟩ (.int .i64 0)).setCell ⟨b4, 1, none⟩ (.int .u64 0)).setCell ⟨b4, 2, none⟩ (.slice none 0 0)).setCell ⟨b4, 3, none⟩ (.int .i64 0)) := ((((Chg.refl [b4] w4).setCell (.inl (by simp)) _).setCell (.inl (by simp)) _).setCell (.inl (by simp)) _).setCell (.inl (by simp)) _
                clear f0 f1 f2 f3 y0 y1 y2 y3
                generalize ((((w4).setCell ⟨b4, 0, none⟩ (.int .i64 0)).setCell ⟨b4, 1, none⟩ (.int .u64 0)).setCell ⟨b4, 2, none⟩ (.slice none 0 0)).setCell ⟨b4, 3, none⟩ (.int .i64 0) = W5 at *
                have z0 := cell_of_block h4 0
                have z1 := cell_of_block h4 1
                have z2 := cell_of_block h4 2
                have z3 := cell_of_block h4 3
                simp only [List.getElem?_toArray, List.getElem?_cons_zero, List.getElem?_cons_succ] at z0 z1 z2 z3
                (try simp only [Exit.inBlock, Exit.then])
                refine bodyPost_ret (v := repV 0 0 (.slice none 0 0) 0) (by simp [results, Try.results18, go_sem, repV, z0, z1, z2, z3]) rfl ?_
                exact ⟨rfl, _, _, rdo_fin HR5.out HL5.out H.out.lt hb4w (heap_lt HN4.out) hC5, fun b hb => (HL5.out b hb).imp (fun h => h) (fun h => Nat.le_trans HC2.out.size h), (((Chg.refl [p] w).then HC2.out (by simp)).then HC5.out (fun x hx => .inl hx)).then hC5 (fun x hx => .inr (by simp only [List.mem_singleton] at hx; rw [hx]; exact hb4w))⟩
    refine AllReadyH.cons (o := ?_) ?_ (fun K hK => ?_) AllReadyH.nil
    rotate_left 1
    · (simp only [List.getElem?_toArray, List.getElem?_cons_succ, List.getElem?_cons_zero]; rfl)
    · (have hl := (HCCM.out.cell (p := ⟨p, 2, none⟩) lp (by simp)).trans m2; go_simp; clear hl; have HCCML := HCCM)
      refine hK.out _ _ ?_ (fun hHeld => ?_)
      · trivial
      clear hK K
      try simp only [Act.put, List.setIfInBounds_toArray, List.set_cons_zero, List.set_cons_succ]
      refine wpAnyH_take (i := 7) (oi := ?_) (v := ?_) ?_ (by kernel_rfl) (by kernel_rfl) (by kernel_rfl) ?_ (Or.inl ⟨?_, ?_⟩) hHeld ?_
      rotate_left 2
      · (simp only [List.getElem?_toArray, List.getElem?_cons_succ, List.getElem?_cons_zero]; rfl)
      · exact fun _ _ _ h => h
      · rfl
      · (rintro W' _; go_simp; first | done | with_reducible rfl)
      try simp only [Act.put, List.setIfInBounds_toArray, List.set_cons_zero, List.set_cons_succ]
      refine wpAnyH_ready (rs := [1]) (by kernel_rfl) (by simp) ?_
      refine AllReadyH.cons (o := ?_) ?_ (fun K hK => ?_) AllReadyH.nil
      rotate_left 1
      · (simp only [List.getElem?_toArray, List.getElem?_cons_succ, List.getElem?_cons_zero]; rfl)
      · (go_simp; have hst := (Chg.refl [] V).alloc (.cells #[] 52); have hnb := new_block V (.cells #[] 52); have HZZMLZ := Lib.hid hnb; have HCCMLZ := Lib.hid (HCCML.out.trans hst); have HLLMLZ := Lib.hid (HCCML.out.size); clear hnb hst; generalize V.alloc (.cells #[] 52) = VMLZ at *)
        refine hK.out _ _ ?_ (fun hHeld => ?_)
        · trivial
        clear hK K
        try simp only [Act.put, List.setIfInBounds_toArray, List.set_cons_zero, List.set_cons_succ]
        refine wpAnyH_ready (rs := [8]) (by kernel_rfl) (by simp) ?_
        refine AllReadyH.cons (o := ?_) ?_ (fun K hK => ?_) AllReadyH.nil
        rotate_left 1
        · (simp only [List.getElem?_toArray, List.getElem?_cons_succ, List.getElem?_cons_zero]; rfl)
        · (refine step_app (base := w2.heap.size) (xs := []) (news := volCells ((volVs R.vols).take i)) rfl (.tmp 28) (.tmp 34) 42 rfl rfl Try.underlying42 infoV24 (by rfl) (by omega) (by omega) (by simp [Act.eval, Act.put]) (by simp [Act.eval, Act.put]) (own_zero HZZMLZ.out HLLMLZ.out) (HSA.out.chg HCCMLZ.out (by simp)) (by omega) HCCMLZ.out.size ?_; intro vaMLZA VMLZA hown hg; rw [Nat.zero_add, List.nil_append] at hown; have hst : Chg [V.heap.size] VMLZ VMLZA := (Chg.refl _ VMLZ).grown hg (fun k hk => .inl (by rw [← (show V.heap.size = k from Option.some.inj hk)]; simp)); have HCCMLZA := Lib.hid (HCCMLZ.out.then hst (fun q hq => .inr (by simp only [List.mem_singleton] at hq; rw [hq]; exact HLLMLZ.out))); have HAAMLZA := Lib.hid hown; clear hown hg hst)
          refine hK.out _ _ ?_ (fun hHeld => ?_)
          · trivial
          clear hK K
          try simp only [Act.put, List.setIfInBounds_toArray, List.set_cons_zero, List.set_cons_succ]
          refine wpAnyH_ready (rs := [16]) (by kernel_rfl) (by simp) ?_
          refine AllReadyH.cons (o := ?_) ?_ (fun K hK => ?_) AllReadyH.nil
          rotate_left 1
          · (simp only [List.getElem?_toArray, List.getElem?_cons_succ, List.getElem?_cons_zero]; rfl)
          · (refine step_app (base := w2.heap.size) (news := volCells ((volVs R.vols).drop (i + 1))) rfl (.tmp 35) (.tmp 42) 42 rfl rfl Try.underlying42 infoV24 (by rfl) (by omega) (by omega) (by simp [Act.eval, Act.put]) (by simp [Act.eval, Act.put]) HAAMLZA.out (HSD.out.chg HCCMLZA.out (by simp)) (by omega) HCCMLZA.out.size ?_; intro vz VE hown hg; have HCE := Lib.hid (HCCMLZA.out.grown hg (fun k hk => .inr (HAAMLZA.out.lt k hk).1)); rw [← volCells_app] at hown; obtain ⟨ax, cx, hvx, _, _⟩ := ownRow_slice hown; obtain ⟨nn, hnn⟩ : ∃ k, k = i + (nv - (i + 1)) := ⟨_, rfl⟩; rw [← hnn] at hown hvx; subst hvx; have HAE := Lib.hid hown; have HNN := Lib.hid hnn; clear hown hg hnn)
            refine hK.out _ _ ?_ (fun hHeld => ?_)
            · trivial
            clear hK K
            try simp only [Act.put, List.setIfInBounds_toArray, List.set_cons_zero, List.set_cons_succ]
            refine wpAnyH_take (i := 17) (oi := ?_) (v := ?_) ?_ (by kernel_rfl) (by kernel_rfl) (by kernel_rfl) ?_ (Or.inl ⟨?_, ?_⟩) hHeld ?_
            rotate_left 2
            · (simp only [List.getElem?_toArray, List.getElem?_cons_succ, List.getElem?_cons_zero]; rfl)
            · exact fun _ _ _ h => h
            · rfl
            · (rintro W' _; go_simp; first | done | with_reducible rfl)
            try simp only [Act.put, List.setIfInBounds_toArray, List.set_cons_zero, List.set_cons_succ]
            refine wpAnyH_take (i := 18) (oi := ?_) (v := ?_) ?_ (by kernel_rfl) (by kernel_rfl) (by kernel_rfl) ?_ (Or.inl ⟨?_, ?_⟩) hHeld ?_
            rotate_left 2
            · (simp only [List.getElem?_toArray, List.getElem?_cons_succ, List.getElem?_cons_zero]; rfl)
            · exact fun _ _ _ h => h
            · rfl
            · (rintro W' _; go_simp; first | done | with_reducible rfl)
            try simp only [Act.put, List.setIfInBounds_toArray, List.set_cons_zero, List.set_cons_succ]
            refine wpAnyH_ready (rs := [19]) (by kernel_rfl) (by simp) ?_
            refine AllReadyH.cons (o := ?_) ?_ (fun K hK => ?_) AllReadyH.nil
            rotate_left 1
            · (simp only [List.getElem?_toArray, List.getElem?_cons_succ, List.getElem?_cons_zero]; rfl)
            · (have hz := (HCE.out.block _ (heap_lt HPB.out) (by simp)).trans HPB.out; have zf2 := frozen_of_block hz 2; have z2 := cell_of_block hz 2; simp only [List.getElem?_toArray, List.getElem?_cons_zero, List.getElem?_cons_succ] at z2; go_simp; have hR' := rdo_dropped HR2.out HCE.out HPB.out HAE.out HNV.out HNN.out HI.out; have hC' : Chg [p] w2 (VE.setCell ⟨p, 2, none⟩ (.slice ax nn cx)) := ((Chg.refl [p] w2).then HCE.out (by simp)).setCell (.inl (by simp)) _; have hL' : ∀ b, b ∈ addB (.slice ax nn cx) L → b ∈ L ∨ w2.heap.size ≤ b := fun b hb => (mem_addB.1 hb).elim (fun e => .inr (HAE.out.lt b e).1) .inl; clear hz zf2 z2; generalize VE.setCell ⟨p, 2, none⟩ (.slice ax nn cx) = w4 at *)
              refine hK.out _ _ ?_ (fun hHeld => ?_)
              · trivial
              clear hK K
              try simp only [Act.put, List.setIfInBounds_toArray, List.set_cons_zero, List.set_cons_succ]
              refine wpAnyH_done (by kernel_rfl) ?_ _
              have hn4 := (hC'.block b4 (heap_lt HN4.out) (by simp; omega)).trans HN4.out
              have HN5 := Lib.hid hn4
              have HR5 := Lib.hid hR'
              have HL5 := Lib.hid hL'
              have HC5 := Lib.hid hC'
              clear y0 y1 y2 y3 f0 f1 f2 f3 hR' hL' hC'
              have y0 := cell_of_block hn4 0
              have y1 := cell_of_block hn4 1
              have y2 := cell_of_block hn4 2
              have y3 := cell_of_block hn4 3
              simp only [List.getElem?_toArray, List.getElem?_cons_zero, List.getElem?_cons_succ] at y0 y1 y2 y3
              have f0 := frozen_of_block hn4 0
              have f1 := frozen_of_block hn4 1
              have f2 := frozen_of_block hn4 2
              have f3 := frozen_of_block hn4 3
              clear hn4
              go_wp2_with fail
              all_goals
                have h4 : (((((w4).setCell ⟨b4, 0, none⟩ (.int .i64 0)).setCell ⟨b4, 1, none⟩ (.int .u64 0)).setCell ⟨b4, 2, none⟩ (.slice none 0 0)).setCell ⟨b4, 3, none⟩ (.int .i64 0)).heap[b4]? = some (.cells #[.int .i64 0, .int .u64 0, .slice none 0 0, .int .i64 0] 32 (0, 0)) := setCell_block (setCell_block (setCell_block (setCell_block (HN5.out) 0 (.int .i64 0)) 1 (.int .u64 0)) 2 (.slice none 0 0)) 3 (.int .i64 0)
                have hC5 : Chg [b4] w4 (((((w4).setCell ⟨b4, 0, none⟩ (.int .i64 0)).setCell ⟨b4, 1, none⟩ (.int .u64 0)).setCell ⟨b4, 2, none⟩ (.slice none 0 0)).setCell ⟨b4, 3, none⟩ (.int .i64 0)) := ((((Chg.refl [b4] w4).setCell (.inl (by simp)) _).setCell (.inl (by simp)) _).setCell (.inl (by simp)) _).setCell (.inl (by simp)) _
                clear f0 f1 f2 f3 y0 y1 y2 y3
                generalize ((((w4).setCell ⟨b4, 0, none⟩ (.int .i64 0)).setCell ⟨b4, 1, none⟩ (.int .u64 0)).setCell ⟨b4, 2, none⟩ (.slice none 0 0)).setCell ⟨b4, 3, none⟩ (.int .i64 0) = W5 at *
                have z0 := cell_of_block h4 0
                have z1 := cell_of_block h4 1
                have z2 := cell_of_block h4 2
                have z3 := cell_of_block h4 3
                simp only [List.getElem?_toArray, List.getElem?_cons_zero, List.getElem?_cons_succ] at z0 z1 z2 z3
                (try simp only [Exit.inBlock, Exit.then])
                refine bodyPost_ret (v := repV 0 0 (.slice none 0 0) 0) (by simp [results, Try.results18, go_sem, repV, z0, z1, z2, z3]) rfl ?_
                exact ⟨rfl, _, _, rdo_fin HR5.out HL5.out H.out.lt hb4w (heap_lt HN4.out) hC5, fun b hb => (HL5.out b hb).imp (fun h => h) (fun h => Nat.le_trans HC2.out.size h), (((Chg.refl [p] w).then HC2.out (by simp)).then HC5.out (fun x hx => .inl hx)).then hC5 (fun x hx => .inr (by simp only [List.mem_singleton] at hx; rw [hx]; exact hb4w))⟩

end Go.Proofs.Ytbejcmbdaoakbaa
/- The model beside its reference (layer 24): plain relation, and what each operation does to both. -/
namespace Go.Proofs.Ytbejcmbdaoakbaa
open Go.RowKit Go.Sort Go.Maps
set_option linter.unusedVariables false
set_option linter.unusedSimpArgs false

/-- A volume and its puts tell the same. -/
def VolR (D : VD) (ps : PutL) : Prop := ∀ x, blockOf ps x = if has D (kU x) then bstr 128 (byteOf' (blkAt D x)) else ⟨#[]⟩
structure RelS (S : St) (R : RSt) : Prop where
  size : S.size = R.size
  last : S.last = R.last
  cnt : S.cnt = R.vols.length
  ids : IdList S (R.vols.map (fun x => x.1))
  vol : ∀ x, x ∈ R.vols → VolR (S.volOf x.1) x.2.2

theorem bstr_ne (f : Nat → Nat) : bstr 128 f ≠ ⟨#[]⟩ := fun e => by
  have := congrArg ByteArray.size e
  rw [bstr_size] at this
  cases this
theorem bstr_congr {n : Nat} {f g : Nat → Nat} (h : ∀ i, i < n → f i = g i) : bstr n f = bstr n g := by
  unfold bstr
  congr 1
  exact List.map_congr_left fun i hi => by rw [h i (by simpa using hi)]
theorem BytesIn.congr {w : World} {a : Option Addr} {n cap : Nat} {f g : Nat → Nat} (h : BytesIn w a n cap f) (e : ∀ i, i < n → f i = g i) : BytesIn w a n cap g := by
  obtain ⟨h1, h2, h3, h4⟩ := h
  refine ⟨h1, h2, h3, fun b hb h0 => ?_⟩
  obtain ⟨k, o, rfl, hk⟩ := h4 b hb h0
  exact ⟨k, o, rfl, fun i hi => by rw [← e i hi]; exact hk i hi⟩
theorem snoc_ind {α : Type} {P : List α → Prop} (h0 : P []) (h1 : ∀ l a, P l → P (l ++ [a])) (l : List α) : P l := by
  have : ∀ n (l : List α), l.length = n → P l := by
    intro n
    induction n with
    | zero => intro l h; rw [List.eq_nil_of_length_eq_zero h]; exact h0
    | succ n ih =>
      intro l h
      have hne : l ≠ [] := fun e => by rw [e] at h; cases h
      rw [← List.dropLast_concat_getLast hne]
      exact h1 _ _ (ih _ (by rw [List.length_dropLast]; omega))
  exact this _ l rfl
theorem blockOf_putsT (ps : PutL) (x : Nat) : ∀ s : List Nat, blockOf (ps ++ putsT s) x = if x ∈ s then ⟨#[]⟩ else blockOf ps x := by
  intro s
  refine snoc_ind (P := fun s => blockOf (ps ++ putsT s) x = if x ∈ s then ⟨#[]⟩ else blockOf ps x) ?_ ?_ s
  · simp [putsT]
  · intro s y ih
    rw [putsT_app, ← List.append_assoc]
    show blockOf (ps ++ putsT s ++ [(y, ⟨#[]⟩)]) x = _
    rw [blockOf_snoc, ih]
    simp only [List.mem_append, List.mem_singleton]
    by_cases e : y = x
    · simp [e]
    · have e' : ¬ x = y := fun q => e q.symm
      simp [e, e']

theorem byte_lt {cs : Array Value} (h : isBlk (.agg cs) = true) {i : Nat} (hi : i < 128) : byteOf' (.agg cs) i < 256 := by
  simp only [isBlk, Bool.and_eq_true, decide_eq_true_eq] at h
  obtain ⟨hs, ha⟩ := h
  have hm : isU8 (cs[i]'(by omega)) = true := (Array.all_eq_true.1 ha) i (by omega)
  unfold byteOf'
  simp only [Array.getElem?_eq_getElem (show i < cs.size by omega)]
  unfold isU8 at hm
  split at hm
  · rename_i n e
    simp only [e]
    simp only [Bool.and_eq_true, decide_eq_true_eq] at hm
    omega
  · cases hm

theorem VolR.has_iff {D : VD} {ps : PutL} (h : VolR D ps) (x : Nat) : has D (kU x) = true ↔ blockOf ps x ≠ ⟨#[]⟩ := by
  rw [h x]
  cases has D (kU x) with
  | false => simp
  | true => simp [bstr_ne]
theorem VolR.new : VolR (.map []) [] := fun x => rfl
theorem VolR.put {D : VD} {ps : PutL} (h : VolR D ps) (c : Canon D) {p : Nat} {f : Nat → Nat} : VolR (D.put (kU p) (blkV f)) (ps ++ [(p, bstr 128 f)]) := by
  intro x
  rw [blockOf_snoc]
  by_cases e : x = p
  · subst e
    rw [if_pos rfl, has_put_same (canon_map c) (kU_is x), if_pos rfl, blk_put_same c]
    exact bstr_congr fun i hi => (byte_u8s hi).symm
  · rw [if_neg (fun q => e q.symm), has_put_other (fun q => e (kU_inj q)), blk_put_other e]
    exact h x
theorem VolR.pl {D : VD} {ps : PutL} (h : VolR D ps) {l : List Nat} (hl : PlR ps ps.length l) : PlList (some D) l := by
  refine ⟨hl.1, fun x => ?_⟩
  show _ ↔ has D (kU x) = true
  rw [hl.2, h.has_iff]
  constructor
  · exact fun h => h.2
  · intro hne
    refine ⟨?_, hne⟩
    clear h hl
    revert hne
    refine snoc_ind (P := fun ps => blockOf ps x ≠ ⟨#[]⟩ → ∃ j, j < ps.length ∧ (ps[j]!).1 = x) ?_ ?_ ps
    · exact fun hne => absurd rfl hne
    · intro ps q ih hne
      rw [blockOf_snoc] at hne
      by_cases e : q.1 = x
      · exact ⟨ps.length, by simp, by rw [getElem!_pos _ _ (by simp)]; simpa using e⟩
      · rw [if_neg e] at hne
        obtain ⟨j, hj, he⟩ := ih hne
        refine ⟨j, by simp; omega, ?_⟩
        rw [getElem!_pos _ j hj] at he
        rw [getElem!_pos _ j (by simp; omega), List.getElem_append_left hj]
        exact he
theorem selT_in (a n : Nat) (l : List Nat) : selT a n l = l.filter (inT a n) := by
  unfold selT
  refine List.filter_congr fun x _ => ?_
  unfold inT
  rw [← Bool.decide_and]
  exact decide_eq_decide.2 (by omega)
theorem VolR.trim {D : VD} {ps : PutL} (h : VolR D ps) (g : GoodV D) {a n : Nat} {l : List Nat} (hl : PlR ps ps.length l) : VolR (Lib.deleteFuncD (pdT a n) D) (ps ++ putsT (selT a n l)) := by
  intro x
  rw [blockOf_putsT, has_trim g, selT_in]
  have hx := (h.pl hl).2 x
  cases ht : inT a n x with
  | true =>
    by_cases hm : x ∈ l
    · simp [hm, ht]
    · have hf : has D (kU x) = false := by
        cases hq : has D (kU x) with
        | false => rfl
        | true => exact absurd (hx.2 hq) hm
      have := h x
      rw [hf] at this
      simp [hm, this]
  | false =>
    rw [blk_trim g ht, h x]
    simp [ht]
theorem GoodV.trim {D : VD} (g : GoodV D) (a n : Nat) : GoodV (Lib.deleteFuncD (pdT a n) D) := by
  obtain ⟨⟨es, rfl, s, hk⟩, hn⟩ := g
  have hk' : ∀ p ∈ es.filter (fun p => !pdT a n p.1 p.2), WideAt.IsKeyLit p.1 := fun p hp => hk p (List.mem_filter.1 hp).1
  refine ⟨⟨_, rfl, s.filter _, hk'⟩, fun k h => ?_⟩
  obtain ⟨p, hp, e⟩ := List.mem_map.1 ((has_mem hk').1 h)
  exact hn k ((has_mem hk).2 (List.mem_map.2 ⟨p, (List.mem_filter.1 hp).1, e⟩))

/-! ### which volume -/
theorem RelS.at_some {S : St} {R : RSt} (h : RelS S R) {v : Nat} {D : VD} (hv : S.vols (kU v) = some D) : ∃ i, i < R.vols.length ∧ ixOf R.vols v = (i : Int) ∧ (R.vols[i]!).1 = v ∧ R.vols[i]! ∈ R.vols ∧ VolR D (R.vols[i]!).2.2 := by
  have hm : v ∈ R.vols.map (fun x => x.1) := (h.ids.2 v).2 (by rw [hv]; rfl)
  obtain ⟨x, hx, he⟩ := List.mem_map.1 hm
  obtain ⟨i, hi, rfl⟩ := List.getElem_of_mem hx
  have e : R.vols[i]! = R.vols[i] := getElem!_pos R.vols i hi
  refine ⟨i, hi, ixOf_here hi (by rw [e]; exact he) (fun j hj q => ?_), by rw [e]; exact he, by rw [e]; exact hx, ?_⟩
  · have hp := List.pairwise_iff_getElem.1 h.ids.1 j i (by simp; omega) (by simp; omega) hj
    simp only [List.getElem_map] at hp
    rw [getElem!_pos R.vols j (by omega)] at q
    omega
  · have := h.vol _ hx
    rw [he, volOf_is hv] at this
    rw [e]
    exact this
theorem RelS.at_none {S : St} {R : RSt} (h : RelS S R) {v : Nat} (hv : (S.vols (kU v)).isSome = false) : ixOf R.vols v = -1 := by
  refine ixOf_none fun j hj q => ?_
  have := (h.ids.2 v).1 (List.mem_map.2 ⟨R.vols[j]!, by rw [getElem!_pos R.vols j hj]; exact List.getElem_mem hj, q⟩)
  rw [hv] at this
  cases this
theorem RelS.ix_neg {S : St} {R : RSt} (h : RelS S R) (v : Nat) : ixOf R.vols v < 0 ↔ (S.vols (kU v)).isSome = false := by
  cases hq : S.vols (kU v) with
  | none => rw [h.at_none (by rw [hq]; rfl)]; simp
  | some D =>
    obtain ⟨i, _, e, _⟩ := h.at_some hq
    rw [e]
    simp

theorem RelS.wrong {S : St} {R : RSt} (h : RelS S R) (hl : S.last < 1000000) (o : Opn) : wrongR R o.code o.vol o.pl o.n o.len = errOf S o := by
  have hn : ¬ S.last = 18446744073709551615 := by omega
  unfold wrongR errOf
  by_cases h0 : o.code = 0 ∨ 9 < o.code
  · rw [if_pos h0, if_pos h0]
  · rw [if_neg h0, if_neg h0]
    have h9 : o.code = 1 ∨ o.code = 2 ∨ o.code = 3 ∨ o.code = 4 ∨ o.code = 5 ∨ o.code = 6 ∨ o.code = 7 ∨ o.code = 8 ∨ o.code = 9 := by omega
    simp only [h.ix_neg, ← h.size]
    rcases h9 with e | e | e | e | e | e | e | e | e <;> rw [e] <;> simp [wrongS, flagsOf, hn]

/-! ### what each operation does -/
theorem RelS.new {n : Nat} : RelS (St.new n) ⟨n, 0, []⟩ where
  size := rfl
  last := rfl
  cnt := rfl
  ids := ⟨.nil, fun x => by simp [St.new]⟩
  vol := fun x hx => by cases hx

theorem RelS.made {S : St} {R : RSt} (h : RelS S R) (hle : ∀ x, x ∈ R.vols → x.1 ≤ S.last) {D : VD} {v : Value} {ps : PutL} (hV : VolR D ps) : RelS (S.made D) ⟨R.size, R.last + 1, R.vols ++ [(R.last + 1, v, ps)]⟩ := by
  have hno : (S.vols (kU (S.last + 1))).isSome = false := by
    cases hq : (S.vols (kU (S.last + 1))).isSome with
    | false => rfl
    | true =>
      obtain ⟨x, hx, e⟩ := List.mem_map.1 ((h.ids.2 _).2 hq)
      have := hle x hx
      omega
  have hv0 : ∀ x, x ∈ R.vols → (S.made D).vols (kU x.1) = S.vols (kU x.1) := fun x hx => upd_other (fun q => by have := hle x hx; have := kU_inj q; omega)
  refine { size := h.size, last := by show S.last + 1 = R.last + 1; rw [h.last], cnt := ?_, ids := ?_, vol := ?_ }
  · show (if (S.vols (kU (S.last + 1))).isSome then S.cnt else S.cnt + 1) = _
    rw [hno, h.cnt]
    simp
  · refine ⟨?_, fun x => ?_⟩
    · rw [List.map_append]
      refine List.pairwise_append.2 ⟨h.ids.1, List.pairwise_singleton _ _, fun a ha b hb => ?_⟩
      obtain ⟨y, hy, rfl⟩ := List.mem_map.1 ha
      simp at hb
      have := hle y hy
      have := h.last
      omega
    · rw [List.map_append, List.mem_append, h.ids.2]
      simp only [List.map_cons, List.map_nil, List.mem_singleton]
      by_cases e : x = S.last + 1
      · subst e
        rw [made_vol, h.last]
        simp
      · have : (S.made D).vols (kU x) = S.vols (kU x) := upd_other (fun q => e (kU_inj q))
        have := h.last
        rw [‹(S.made D).vols (kU x) = _›]
        constructor
        · rintro (q | q)
          · exact q
          · exact absurd q (by omega)
        · exact .inl
  · intro x hx
    simp only [List.mem_append, List.mem_singleton] at hx
    rcases hx with hx | rfl
    · have : (S.made D).volOf x.1 = S.volOf x.1 := by unfold St.volOf; rw [hv0 x hx]
      rw [this]
      exact h.vol x hx
    · have : (S.made D).volOf (R.last + 1) = D := volOf_is (by rw [← h.last]; exact made_vol S D)
      show VolR ((S.made D).volOf (R.last + 1)) ps
      rw [this]
      exact hV

theorem RelS.drop {S : St} {R : RSt} (h : RelS S R) {v i : Nat} {D : VD} (hv : S.vols (kU v) = some D) (hi : i < R.vols.length) (he : (R.vols[i]!).1 = v) : RelS (S.drop v) ⟨R.size, R.last, R.vols.take i ++ R.vols.drop (i + 1)⟩ := by
  have hsub : (R.vols.take i ++ R.vols.drop (i + 1)).Sublist R.vols := by
    rw [← List.eraseIdx_eq_take_drop_succ]
    exact List.eraseIdx_sublist ..
  have hne : ∀ x, x ∈ R.vols.take i ++ R.vols.drop (i + 1) → x.1 ≠ v := by
    intro x hx q
    rw [getElem!_pos R.vols i hi] at he
    rw [List.mem_append] at hx
    rcases hx with hx | hx
    · obtain ⟨j, hj, e⟩ := List.getElem_of_mem hx
      rw [List.length_take] at hj
      rw [List.getElem_take] at e
      have hp := List.pairwise_iff_getElem.1 h.ids.1 j i (by simp; omega) (by simp; omega) (by omega)
      simp only [List.getElem_map] at hp
      rw [e, q, he] at hp
      omega
    · obtain ⟨j, hj, e⟩ := List.getElem_of_mem hx
      rw [List.length_drop] at hj
      rw [List.getElem_drop] at e
      have hp := List.pairwise_iff_getElem.1 h.ids.1 i (i + 1 + j) (by simp; omega) (by simp; omega) (by omega)
      simp only [List.getElem_map] at hp
      rw [e, q, he] at hp
      omega
  have hot : ∀ x, x ≠ v → (S.drop v).vols (kU x) = S.vols (kU x) := fun x hx => upd_other (fun q => hx (kU_inj q))
  refine { size := h.size, last := h.last, cnt := ?_, ids := ?_, vol := ?_ }
  · show (if (S.vols (kU v)).isSome then S.cnt - 1 else S.cnt) = _
    rw [hv, h.cnt, List.length_append, List.length_take, List.length_drop]
    simp
    omega
  · refine ⟨h.ids.1.sublist (hsub.map _), fun x => ?_⟩
    by_cases e : x = v
    · subst e
      have : (S.drop x).vols (kU x) = none := upd_same
      rw [this]
      simp only [Option.isSome_none, Bool.false_eq_true, iff_false]
      intro hm
      obtain ⟨y, hy, q⟩ := List.mem_map.1 hm
      exact hne y hy q
    · rw [hot x e, ← h.ids.2 x]
      constructor
      · exact fun hm => (hsub.map (fun x => x.1)).subset hm
      · intro hm
        obtain ⟨y, hy, q⟩ := List.mem_map.1 hm
        refine List.mem_map.2 ⟨y, ?_, q⟩
        have hsp : R.vols = R.vols.take i ++ R.vols[i]! :: R.vols.drop (i + 1) := by
          rw [getElem!_pos R.vols i hi, ← List.drop_eq_getElem_cons hi, List.take_append_drop]
        rw [hsp] at hy
        simp only [List.mem_append, List.mem_cons] at hy ⊢
        rcases hy with hy | hy | hy
        · exact .inl hy
        · rw [hy, he] at q; exact absurd q.symm e
        · exact .inr hy
  · intro x hx
    have : (S.drop v).volOf x.1 = S.volOf x.1 := by unfold St.volOf; rw [hot x.1 (hne x hx)]
    rw [this]
    exact h.vol x (hsub.subset hx)

theorem RelS.setVol {S : St} {R : RSt} (h : RelS S R) {v i : Nat} {D D' : VD} (hv : S.vols (kU v) = some D) (hi : i < R.vols.length) (he : (R.vols[i]!).1 = v) {nv : Value} {ps : PutL} (hV : VolR D' ps) :
    RelS (S.setVol v D') { R with vols := R.vols.set i ((R.vols[i]!).1, nv, ps) } := by
  have hids : (R.vols.set i ((R.vols[i]!).1, nv, ps)).map (fun x => x.1) = R.vols.map (fun x => x.1) := by
    refine List.ext_getElem (by simp) fun j h1 h2 => ?_
    simp only [List.getElem_map, List.getElem_set]
    split
    · rename_i e; subst e; rw [getElem!_pos R.vols i hi]
    · rfl
  have hot : ∀ x, x ≠ v → (S.setVol v D').vols (kU x) = S.vols (kU x) := fun x hx => upd_other (fun q => hx (kU_inj q))
  refine { size := h.size, last := h.last, cnt := ?_, ids := ?_, vol := ?_ }
  · show S.cnt = _
    rw [h.cnt]; simp
  · show IdList _ ((R.vols.set i ((R.vols[i]!).1, nv, ps)).map (fun x => x.1))
    rw [hids]
    refine ⟨h.ids.1, fun x => ?_⟩
    rw [h.ids.2]
    by_cases e : x = v
    · subst e; rw [hv, set_vol]; rfl
    · rw [hot x e]
  · intro x hx
    obtain ⟨j, hj, e⟩ := List.getElem_of_mem hx
    have hj' : j < R.vols.length := by simpa using hj
    rw [List.getElem_set] at e
    by_cases q : i = j
    · rw [if_pos q] at e
      subst e
      show VolR ((S.setVol v D').volOf (R.vols[i]!).1) ps
      rw [he, volOf_is set_vol]
      exact hV
    · rw [if_neg q] at e
      have hne : x.1 ≠ v := by
        have he2 : (R.vols[i]'hi).1 = v := by rw [← getElem!_pos R.vols i hi]; exact he
        rw [← e, ← he2]
        rcases Nat.lt_or_gt_of_ne q with hlt | hlt
        · have hp := List.pairwise_iff_getElem.1 h.ids.1 i j (by simp; omega) (by simp; omega) hlt
          simp only [List.getElem_map] at hp
          omega
        · have hp := List.pairwise_iff_getElem.1 h.ids.1 j i (by simp; omega) (by simp; omega) hlt
          simp only [List.getElem_map] at hp
          omega
      have : (S.setVol v D').volOf x.1 = S.volOf x.1 := by unfold St.volOf; rw [hot x.1 hne]
      rw [this]
      exact h.vol x (by rw [← e]; exact List.getElem_mem hj')

end Go.Proofs.Ytbejcmbdaoakbaa
/- The reference's Do, whatever the operation, beside the model's state. -/
namespace Go.Proofs.Ytbejcmbdaoakbaa
open Go.RowKit Go.Sort Go.Maps
set_option linter.unusedVariables false
set_option linter.unusedSimpArgs false

/-- What the reference's Do leaves: a reply that tells R', and a state beside S'. -/
def RDone (L : List Nat) (B : Nat) (w : World) (p : Nat) (S' : St) (Rp : Rep) (e : Ending) (w' : World) : Prop :=
  ∃ vv' L' R' a c, e = .returned (repV Rp.err Rp.vol (.slice a Rp.n c) Rp.cnt) ∧ BytesIn w' a Rp.n c Rp.f ∧ RefAt L' (B + 41) w' p vv' R' ∧ RelS S' R' ∧ (∀ b, b ∈ L' → b ∈ L ∨ w.heap.size ≤ b) ∧ Chg [p] w w'

theorem RefAt.pin_lt {L : List Nat} {B : Nat} {w : World} {p : Nat} {vv : Value} {R : RSt} (h : RefAt L B w p vv R) : p < w.heap.size := heap_lt h.blk

set_option maxRecDepth 20000 in
theorem rdo_at {L Lm : List Nat} {B N : Nat} {w wm : World} {p pm : Nat} {vv v : Value} {R : RSt} {S : St} {o : Opn} (h : RefAt L B w p vv R) (hB : 2 * B ≤ 1000000) (hr : RelS S R) (M : MdAt N Lm wm pm S) (hN : N ≤ 41) (hl : S.last < 1000000) (ho : IsOp w v o) :
    Calls Try.prog 18 #[.pointer (some ⟨p, 0, none⟩), v] w (RDone L B w p (stOf S o) (repOf S o)) := by
  obtain ⟨da, dc, rfl, hb, hO⟩ := ho
  have hw := hr.wrong hl o
  have hB1 : B ≤ 1000000 := by omega
  have hle : ∀ x, x ∈ R.vols → x.1 ≤ S.last := fun x hx => (id_lt M hr.ids x.1 (List.mem_map.2 ⟨x, hx, rfl⟩)).1
  have hla : R.last + 1 < 18446744073709551616 := by rw [← hr.last]; omega
  have hO' := hO
  by_cases he : errOf S o = 0
  case neg =>
    refine (rdo_err h hB1 hO.code he hw).mono ?_
    rintro e w' ⟨rfl, hc⟩
    refine ⟨vv, L, R, none, 0, ?_, ?_, (h.chg hc (by simp)).mono (Nat.le_add_right _ _), ?_, fun b hb => .inl hb, hc.mono (by simp)⟩
    · unfold repOf; rw [if_pos he]
    · unfold repOf; rw [if_pos he]; exact bytes_none
    · rw [st_err he]; exact hr
  rw [he] at hw
  obtain ⟨code, vol, pl, n, len, f⟩ := o
  have hc9 : code = 1 ∨ code = 2 ∨ code = 3 ∨ code = 4 ∨ code = 5 ∨ code = 6 ∨ code = 7 ∨ code = 8 ∨ code = 9 := by
    have : ¬ (code = 0 ∨ 9 < code) := fun q => by unfold errOf at he; rw [if_pos q] at he; cases he
    omega
  have hvol : (code = 2 ∨ code = 3 ∨ code = 4 ∨ code = 5 ∨ code = 6) → S.vols (kU vol) = some (S.volOf vol) := by
    intro q
    have he' := he
    unfold errOf at he'
    rw [if_neg (by show ¬ (code = 0 ∨ 9 < code); omega)] at he'
    rcases q with rfl | rfl | rfl | rfl | rfl <;> exact wrong_there he'
  have hst := stOf_ok he
  have hrp := repOf_ok he
  rcases hc9 with rfl | rfl | rfl | rfl | rfl | rfl | rfl | rfl | rfl
  · -- new
    rw [show stOf S _ = S.made (.map []) by rw [hst]; rfl, show repOf S _ = ⟨0, S.last + 1, 0, fun _ => 0, 0⟩ by rw [hrp]; rfl]
    refine (rdo_new h hB1 hla hw).mono ?_
    rintro e w' ⟨vv', L', rfl, hR, hL, hC⟩
    exact ⟨vv', L', _, none, 0, by rw [hr.last], bytes_none, hR.mono (by omega), hr.made hle VolR.new, hL, hC⟩
  · -- drop
    have hv := hvol (by simp)
    obtain ⟨i, hi, hix, he1, hm, hV⟩ := hr.at_some hv
    rw [show stOf S _ = S.drop vol by rw [hst]; rfl, show repOf S _ = ⟨0, 0, 0, fun _ => 0, 0⟩ by rw [hrp]; rfl]
    refine (rdo_drop h hB1 hix hi hw).mono ?_
    rintro e w' ⟨vv', L', rfl, hR, hL, hC⟩
    exact ⟨vv', L', _, none, 0, rfl, bytes_none, hR.mono (by omega), hr.drop hv hi he1, hL, hC⟩
  · -- copy
    have hv := hvol (by simp)
    obtain ⟨i, hi, hix, he1, hm, hV⟩ := hr.at_some hv
    rw [show stOf S _ = S.made (S.volOf vol) by rw [hst]; rfl, show repOf S _ = ⟨0, S.last + 1, 0, fun _ => 0, 0⟩ by rw [hrp]; rfl]
    refine (rdo_copy h hB1 hix hi hla hw).mono ?_
    rintro e w' ⟨vv', L', rfl, hR, hL, hC⟩
    exact ⟨vv', L', _, none, 0, by rw [hr.last], bytes_none, hR.mono (by omega), hr.made hle hV, hL, hC⟩
  · -- read
    have hv := hvol (by simp)
    obtain ⟨i, hi, hix, he1, hm, hV⟩ := hr.at_some hv
    rw [show stOf S _ = S by rw [hst]; rfl, show repOf S _ = ⟨0, 0, 128, byteOf' (blkAt (S.volOf vol) pl), 0⟩ by rw [hrp]; rfl]
    cases hh : has (S.volOf vol) (kU pl) with
    | false =>
      have hbk : blockOf (R.vols[i]!).2.2 pl = ⟨#[]⟩ := by rw [hV pl, hh]; rfl
      refine (rdo_readN h hB1 hix hi hbk hw).mono ?_
      rintro e w' ⟨a, c, rfl, hA, _, hC⟩
      exact ⟨vv, L, R, a, c, rfl, hA.congr fun i hi => by rw [blk_none hh]; exact (byte_z hi).symm, (h.chg hC (by simp)).mono (Nat.le_add_right _ _), hr, fun b hb => .inl hb, hC.mono (by simp)⟩
    | true =>
      have hbk : blockOf (R.vols[i]!).2.2 pl = bstr 128 (byteOf' (blkAt (S.volOf vol) pl)) := by rw [hV pl, hh]; rfl
      have hf : ∀ i, i < 128 → byteOf' (blkAt (S.volOf vol) pl) i < 256 := fun i hi => by
        obtain ⟨cs, e1, e2⟩ := vol_blk M hv hh
        have e3 : blkAt (S.volOf vol) pl = .agg cs := by unfold blkAt; rw [atKey_indep hh _ .nil, e1]
        rw [e3]
        exact byte_lt e2 hi
      refine (rdo_readS h hB1 hix hi hf hbk hw).mono ?_
      rintro e w' ⟨a, c, rfl, hA, _, hC⟩
      exact ⟨vv, L, R, a, c, rfl, hA, (h.chg hC (by simp)).mono (Nat.le_add_right _ _), hr, fun b hb => .inl hb, hC.mono (by simp)⟩
  · -- write
    have hv := hvol (by simp)
    obtain ⟨i, hi, hix, he1, hm, hV⟩ := hr.at_some hv
    have hlen : len = 128 := by
      have he' := he
      unfold errOf at he'
      rw [if_neg (by show ¬ (5 = 0 ∨ 9 < 5); omega)] at he'
      exact wrong_data he'
    subst hlen
    rw [show stOf S _ = S.setVol vol ((S.volOf vol).put (kU pl) (blkV f)) by rw [hst]; rfl, show repOf S _ = ⟨0, 0, 0, fun _ => 0, 0⟩ by rw [hrp]; rfl]
    refine (rdo_put h hB1 hix hi hO.pl hb hw).mono ?_
    rintro e w' ⟨vv', nv, L', rfl, hR, hL, hC⟩
    exact ⟨vv', L', _, none, 0, rfl, bytes_none, hR.mono (by omega), hr.setVol hv hi he1 (hV.put (good_of M hv).1), hL, hC⟩
  · -- trim
    have hv := hvol (by simp)
    obtain ⟨i, hi, hix, he1, hm, hV⟩ := hr.at_some hv
    have g := good_of M hv
    rw [show stOf S _ = S.setVol vol (Lib.deleteFuncD (pdT pl n) (S.volOf vol)) by rw [hst]; rfl, show repOf S _ = ⟨0, 0, 0, fun _ => 0, size (S.volOf vol) - size (Lib.deleteFuncD (pdT pl n) (S.volOf vol))⟩ by rw [hrp]; rfl]
    refine (rdo_trim h hB1 hix hi hB hO.pl hO.n hw).mono ?_
    rintro e w' ⟨l, hP, rfl, vv', nv, L', hR, hL, hC⟩
    have hpl := hV.pl hP
    have hcnt := (cnt_trim g (g.trim pl n) hpl).1
    have hln : (selT pl n l).length ≤ 41 := by
      have h1 := selT_len pl n l
      have h2 := pl_size g hpl
      have h3 := vol_size M hv
      omega
    refine ⟨vv', L', _, none, 0, ?_, bytes_none, hR.mono (Nat.add_le_add_left hln B), hr.setVol hv hi he1 (hV.trim g hP), hL, hC⟩
    rw [selT_in, hcnt]
  · rw [show stOf S _ = S by rw [hst]; rfl, show repOf S _ = Rep.none by rw [hrp]; rfl]
    refine (rdo_no7 h hB1 hw).mono ?_
    rintro e w' ⟨rfl, hC⟩
    exact ⟨vv, L, R, none, 0, rfl, bytes_none, (h.chg hC (by simp)).mono (Nat.le_add_right _ _), hr, fun b hb => .inl hb, hC.mono (by simp)⟩
  · rw [show stOf S _ = S by rw [hst]; rfl, show repOf S _ = Rep.none by rw [hrp]; rfl]
    refine (rdo_no8 h hB1 hw).mono ?_
    rintro e w' ⟨rfl, hC⟩
    exact ⟨vv, L, R, none, 0, rfl, bytes_none, (h.chg hC (by simp)).mono (Nat.le_add_right _ _), hr, fun b hb => .inl hb, hC.mono (by simp)⟩
  · rw [show stOf S _ = S by rw [hst]; rfl, show repOf S _ = ⟨0, 0, 0, fun _ => 0, S.cnt⟩ by rw [hrp]; rfl]
    refine (rdo_len h hB1 hw).mono ?_
    rintro e w' ⟨rfl, hC⟩
    exact ⟨vv, L, R, none, 0, by rw [hr.cnt], bytes_none, (h.chg hC (by simp)).mono (Nat.le_add_right _ _), hr, fun b hb => .inl hb, hC.mono (by simp)⟩

end Go.Proofs.Ytbejcmbdaoakbaa
/- What ModelTells' walk needs besides: a copy of bytes that may be written over, lists of numbers, both models under way. -/
namespace Go.Proofs.Ytbejcmbdaoakbaa
open Go.RowKit Go.Sort Go.Maps
set_option linter.unusedVariables false
set_option linter.unusedSimpArgs false

/-- Bytes that fill the head of a block of their own. -/
def U8Blk (w : World) (b n : Nat) (f : Nat → Nat) : Prop := ∃ cs z, w.heap[b]? = some (.cells cs 5 z) ∧ n ≤ z.1 ∧ ∀ i, i < n → cs[i]? = some (.int .u8 (f i : Int)) ∧ f i ≤ 255
theorem U8Blk.frozen {w : World} {b n i : Nat} {f : Nat → Nat} (h : U8Blk w b n f) (hi : i < n) : w.frozen? ⟨b, i, none⟩ = false := by
  obtain ⟨cs, z, h1, h2, _⟩ := h
  have : ¬ z.1 ≤ i := by omega
  simp [World.frozen?, h1, this]
theorem U8Blk.lt {w : World} {b n : Nat} {f : Nat → Nat} (h : U8Blk w b n f) : b < w.heap.size := by obtain ⟨cs, z, h1, _⟩ := h; exact heap_lt h1
theorem U8Blk.cell {w : World} {b n i : Nat} {f : Nat → Nat} (h : U8Blk w b n f) (hi : i < n) : w.cell? ⟨b, i, none⟩ = some (.int .u8 (f i : Int)) ∧ f i ≤ 255 := by
  obtain ⟨cs, z, h1, h2, h3⟩ := h
  exact ⟨(cell_of_block h1 i).trans (h3 i hi).1, (h3 i hi).2⟩
theorem U8Blk.bytes {w : World} {b n d : Nat} {f : Nat → Nat} (h : U8Blk w b n f) (h1 : n ≤ d) (h2 : d ≤ maxLen) : BytesIn w (some ⟨b, 0, none⟩) n d f := by
  refine ⟨h1, h2, (fun h => by cases h), fun x hx _ => ?_⟩
  injection hx with hx
  subst hx
  exact ⟨b, 0, rfl, fun i hi => ⟨by rw [Nat.zero_add]; exact (h.cell hi).1, (h.cell hi).2⟩⟩
theorem U8Blk.chg {w w' : World} {b n : Nat} {f : Nat → Nat} {L : List Nat} (h : U8Blk w b n f) (c : Chg L w w') (hb : b ∉ L) : U8Blk w' b n f := by
  obtain ⟨cs, z, h1, h2⟩ := h
  exact ⟨cs, z, (c.block b (heap_lt h1) hb).trans h1, h2⟩
theorem U8Blk.put {w : World} {b n j y : Nat} {f : Nat → Nat} (h : U8Blk w b n f) (hy : y ≤ 255) : U8Blk (w.setCell ⟨b, j, none⟩ (.int .u8 (y : Int))) b n (fun i => if i = j then y else f i) := by
  obtain ⟨cs, z, h1, hz, h2⟩ := h
  refine ⟨cs.setIfInBounds j (.int .u8 (y : Int)), z, setCell_block h1 j _, hz, fun i hi => ?_⟩
  have hsz : i < cs.size := (Array.getElem?_eq_some_iff.1 (h2 i hi).1).1
  rw [Array.getElem?_setIfInBounds]
  by_cases e : i = j
  · subst e
    rw [if_pos rfl, if_pos hsz]
    simp [hy]
  · rw [if_neg (fun q => e q.symm)]
    simp only [e, if_false]
    exact h2 i hi

theorem againB_at {w : World} {a : Option Addr} {n c : Nat} {f : Nat → Nat} (h1 : BytesIn w a n c f) :
    Calls Try.prog 17 #[.slice a n c] w fun e w' => ∃ d, e = .returned (.slice (some ⟨w.heap.size, 0, none⟩) n d) ∧ w.heap.size < w'.heap.size ∧ U8Blk w' w.heap.size n f ∧ n ≤ d ∧ d ≤ maxLen ∧ Chg [] w w' := by
  have c1 := conv_at h1
  have hn : n ≤ maxLen := Nat.le_trans h1.1 h1.2.1
  have c2 := run_bytes_of_string (P := Try.prog) w 9 24 5 (bstr n f) Try.underlying9 Try.underlying24 Try.underlying5
  have Hle := Lib.hid h1.le
  have hd1 := grownCap_ge w n 0 5
  have hd2 := grownCap_le_maxLen w n 0 5 hn
  rw [bstr_size] at c2
  generalize grownCap w n 0 5 = d at *
  have HD := Lib.hid (And.intro hd1 hd2)
  clear h1 hd1 hd2 hn
  go_enter Try.func17, Try.ntmps17
  go_wp2_with fail
  go_ret
  refine ⟨d, rfl, ?_, ⟨_, _, heap_alloc_new w _, ?_, fun i hi => ⟨bytesRow_get Hle.out hi, Hle.out i hi⟩⟩, HD.out.1, HD.out.2, ((Chg.refl [] w).alloc _).drew⟩
  case refine_2 =>
    show n ≤ (bytesRow (bstr n f) d).size
    unfold bytesRow
    have := bstr_size n f
    simp only [Array.size_append, Array.size_map]
    show n ≤ (bstr n f).size + _
    omega
  show w.heap.size < (w.alloc _).heap.size
  rw [size_alloc']; exact Nat.lt_succ_self _

/-- Two lists of no number. -/
theorem eqNums_no {w : World} {a b : Option Addr} {c d : Nat} : Calls Try.prog 23 #[.slice a 0 c, .slice b 0 d] w fun e w' => e = .returned (.bool true) ∧ Chg [] w w' := by
  go_enter Try.func23, Try.ntmps23
  go_wp2_with fail
  go_loopg [5] 0 (fun gg s wr => s = .int .i64 0 ∧ Hid (Chg [] w wr))
  case atStart => exact ⟨rfl, Lib.hid (Chg.refl _ _)⟩
  case round =>
    obtain ⟨rfl, hX⟩ := hrel
    go_wp2_with fail
    go_ret
    exact ⟨rfl, hX.out⟩
theorem eqNums2_at {w : World} {B1 base : Nat} {v u : Value} {l m : List Nat} (h1 : ListU w B1 v l) (h2 : w.ownsRow base 23 1 u m.length (uVs m)) (he : l = m) (hm : ∀ x, x ∈ m → x < 18446744073709551616) (hl : l.length ≤ 1000000) :
    Calls Try.prog 23 #[v, u] w fun e w' => e = .returned (.bool true) ∧ Chg [] w w' := by
  subst he
  by_cases h0 : l = []
  · subst h0
    obtain ⟨a, c, rfl, _⟩ := ownRow_slice h2
    rcases h1 with ⟨_, rfl⟩ | ⟨h, _⟩
    · exact eqNums_no
    · exact absurd rfl h
  · have h3 : ListU w base u l := by
      rcases h2.2 with ⟨_, h⟩ | ⟨g, cap, cur, rfl, hb, hg, r1, r2, r3, r4⟩
      · exact absurd (List.eq_nil_of_length_eq_zero h) h0
      · exact .inr ⟨h0, g, cap, rfl, r1, hb, rowD_of_own hg (by rw [r4]; rfl) hm⟩
    refine (eqNums_at h1 h3 hl).mono ?_
    rintro e w' ⟨rfl, hc⟩
    exact ⟨by simp, hc⟩

theorem quiet_last {N : Nat} {L : List Nat} {w : World} {p : Nat} {S : St} (h : MdAt N L w p S) {m : Nat} (hm : S.last = m) (n : Nat) :
    Calls Try.prog 22 #[.pointer (some ⟨p, 0, none⟩)] (w.drewN n) fun e w' => e = .returned (.int .u64 (m : Int)) ∧ ∃ k, w' = w.drewN k :=
  (last_at (h.chg (Chg.drewN (Chg.refl [] w) n) (by simp))).mono fun e w' ⟨he, hw⟩ => ⟨by rw [he, hm], n, hw.symm⟩

/-- Both under way. -/
structure TelR (w wr : World) (p q k sz : Nat) (L Lr : List Nat) (S : St) (R : RSt) (vv : Value) : Prop where
  m : MdAt k L wr p S
  r : RefAt Lr (41 * k) wr q vv R
  rel : RelS S R
  ap : ∀ x, x ∈ L → x ∉ Lr
  nm : ∀ x, x ∈ L → w.heap.size ≤ x
  nr : ∀ x, x ∈ Lr → w.heap.size ≤ x
  last : S.last ≤ k
  size : S.size = sz
  chg : Chg [] w wr
theorem TelR.step {w wr w' : World} {p q k sz : Nat} {L Lr : List Nat} {S : St} {R : RSt} {vv : Value} (h : TelR w wr p q k sz L Lr S R vv) (c : Chg [] wr w') : TelR w w' p q k sz L Lr S R vv :=
  { h with m := h.m.chg c (by simp), r := h.r.chg c (by simp), chg := h.chg.trans c }

theorem row_zero {w : World} {base size : Nat} {e : TypeId} : w.ownsRow base e size (.slice none 0 0) 0 [] := ⟨by simp, .inl ⟨rfl, rfl⟩⟩
theorem refAt_new {w : World} {n : Nat} (hn : n < 18446744073709551616) : RefAt [w.heap.size] 0 (w.alloc (.cells #[.int .u64 (n : Int), .int .u64 0, .slice none 0 0] 44)) w.heap.size (.slice none 0 0) ⟨n, 0, []⟩ where
  blk := new_block w _
  vols := row_zero
  vin := fun g h => by cases h
  puts := fun x hx => by cases hx
  pin := by simp
  lt := fun b hb => by simp at hb; subst hb; simp
  size := hn
  last := by show 0 < 18446744073709551616; omega
  ids := fun x hx => by cases hx
  bv := Nat.le_refl _
  bp := fun x hx => by cases hx

theorem u8_up {x : Nat} (h : x ≤ 255) : ∃ y : Nat, y ≤ 255 ∧ IntKind.u8.wrap ((x : Int) + 1) = (y : Int) := by
  refine ⟨(x + 1) % 256, by omega, ?_⟩
  rw [IntKind.wrap_u8]
  omega

end Go.Proofs.Ytbejcmbdaoakbaa
