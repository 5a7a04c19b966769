/- What a code asks for, done: read, write. (Printed by mkmr.py.) -/
import Derived.Test.YtbejcmbdaoakbaaMdQ
import Derived.Lib.SliceRun
import Derived.Laws.Cover3
import Derived.Deep.MidRow
namespace Go.Proofs.Ytbejcmbdaoakbaa
open Go.RowKit Go.Maps
set_option linter.unusedVariables false
set_option linter.unusedSimpArgs false

theorem app_some' {w : World} {base e n : Nat} {v : Value} {xs : List Value} (h : w.ownsRow base e 1 v (0 + n) ([] ++ xs)) (hn : 0 < n) :
    ∃ g cap cur, v = .slice (some ⟨g, 0, none⟩) n cap ∧ base ≤ g ∧ w.heap[g]? = some (.cells cur e (0, 0)) ∧ n ≤ cap ∧ cap ≤ maxLen ∧ cur.size = cap * 1 ∧ cur.toList.take n = xs := by
  rcases h.2 with ⟨_, h0⟩ | ⟨g, cap, cur, h1, h2, h3, h4, h5, h6, h7⟩
  · omega
  · refine ⟨g, cap, cur, ?_, h2, h3, ?_, h5, h6, ?_⟩
    · rw [h1, Nat.zero_add]
    · omega
    · simpa using h7

theorem bytes_append {w : World} {b off n : Nat} {f : Nat → Nat} (h : BytesAt w b off n f) : ∀ j u, ((List.range n).map fun i => Value.int .u8 (f i : Int))[j]? = some u → w.cell? ((⟨b, off, none⟩ : Addr).add j) = some u := by
  intro j u hj
  simp only [List.getElem?_map] at hj
  by_cases hlt : j < n
  · simp [hlt] at hj
    subst hj
    have e : (⟨b, off, none⟩ : Addr).add j = ⟨b, off + j, none⟩ := by unfold Addr.add; split <;> simp_all
    rw [e]
    exact (h j hlt).1
  · simp [hlt] at hj

set_option maxRecDepth 20000 in
set_option maxHeartbeats 1000000 in
theorem clone8_at {w : World} {b off n cap : Nat} {f : Nat → Nat} (h : BytesAt w b off n f) (hn : n ≤ 100000) (h0 : 0 < n) :
    Calls Try.prog 52 #[.slice (some ⟨b, off, none⟩) n cap] w fun e w' => ∃ g c, e = .returned (.slice (some ⟨g, 0, none⟩) n c) ∧ n ≤ c ∧ c ≤ maxLen ∧ w.heap.size ≤ g ∧ g < w'.heap.size ∧ BytesAt w' g 0 n f ∧ Chg [] w w' := by
  have hb2 := h.chg ((Chg.refl [] w).alloc (.cells #[] 5)) (by simp)
  have Hn := Lib.hid (bytes_append hb2)
  have H := Lib.hid h
  obtain ⟨i0, hi, hz0, hz1, hz2⟩ := info_parts infoU8
  have Hi := Lib.hid hi
  have he := fun w : World => Lib.run_eql_slice_nil (P := Try.prog) w 24 5 (some ⟨b, off, none⟩) n cap 0 0 Try.underlying24
  clear h hb2 hi
  go_enter Try.func52, Try.ntmps52
  go_wp2_with (at_builtin; refine wpList_append_own _ rfl _ _ 24 rfl w.heap.size 5 i0 (.int .u8 0) 1 1 Try.underlying24 Hi.out hz0 hz1 hz2 rfl (by decide) _ 0 [] rfl (World.ownsRow_made w #[] 0 (Nat.le_refl _) (Nat.zero_le _) rfl) ⟨b, off, none⟩ n cap ((List.range n).map fun i => Value.int .u8 (f i : Int)) rfl ?c0 Hn.out ?c1 ?c2 ?c3 ?c4 ?_)
  case c0 => simp
  case c1 => intro u hu; obtain ⟨a, _, rfl⟩ := List.mem_map.1 hu; rfl
  case c2 => unfold maxLen; omega
  case c3 => omega
  case c4 => simp
  intro v' w1 hown hgrow _
  obtain ⟨g, c, cur, rfl, q1, q2, q3, q4, q5, q6⟩ := app_some' (n := n) (xs := (List.range n).map fun i => Value.int .u8 (f i : Int)) (by rw [Nat.zero_add, List.nil_append]; exact hown) h0
  have HO := Lib.hid (And.intro q2 q6)
  have HG := Lib.hid hgrow
  clear q2 q6 hown hgrow
  go_wp2_with fail
  go_ret
  have hlt := heap_lt HO.out.1
  refine ⟨g, c, rfl, q3, q4, q1, hlt, fun i hi => ⟨?_, (H.out i hi).2⟩, ?_⟩
  · rw [cell_of_block HO.out.1, Nat.zero_add]
    have := congrArg (fun l => l[i]?) HO.out.2
    simp only [List.getElem?_take, if_pos hi, List.getElem?_map, List.getElem?_range hi, Option.map_some, Array.getElem?_toList] at this
    exact this
  · exact ((Chg.refl [] w).alloc _).grown HG.out (fun k hk => .inr (by simp [Value.ownBlock] at hk; omega))


/-- The bytes of a block. -/
def byteOf' (v : Value) (i : Nat) : Nat := match v with | .agg cs => (match cs[i]? with | some (.int _ n) => n.toNat | _ => 0) | _ => 0
theorem blk_bytes {w : World} {b : Nat} {cs : Array Value} (hb : w.heap[b]? = some (.cells cs 71 (0, 0))) (h : isBlk (.agg cs) = true) : BytesAt w b 0 128 (byteOf' (.agg cs)) := by
  obtain ⟨cs', e, h1, h2⟩ := isBlk_inv h
  injection e with e
  subst e
  intro i hi
  have hlt : i < cs.size := by omega
  have hu : isU8 cs[i] = true := by
    unfold isBlk at h
    simp only [Bool.and_eq_true, decide_eq_true_eq] at h
    exact Array.all_eq_true.1 h.2 i hlt
  rw [Nat.zero_add, cell_of_block hb, Array.getElem?_eq_getElem hlt]
  unfold byteOf'
  simp only [Array.getElem?_eq_getElem hlt]
  generalize cs[i] = v at hu
  unfold isU8 at hu
  split at hu
  · rename_i n
    simp only [Bool.and_eq_true, decide_eq_true_eq] at hu
    have : ((n.toNat : Nat) : Int) = n := Int.toNat_of_nonneg hu.1
    simp only [this]
    exact ⟨by first | trivial | rfl, by omega⟩
  · cases hu

set_option maxRecDepth 20000 in
set_option maxHeartbeats 4000000 in
theorem read_at {N : Nat} {L : List Nat} {w : World} {p code vol pl n : Nat} {dv : Value} {S : St} (h : MdAt N L w p S) (hN : N ≤ 1000000) (hv : vol < 18446744073709551616) (hpl : pl < 18446744073709551616) {Dv : VD} (hk : S.vols (kU vol) = some Dv) :
    Calls Try.prog 51 #[.pointer (some ⟨p, 0, none⟩), opV code vol pl n dv] w (Done N L w p S ⟨0, 0, 128, byteOf' (blkAt Dv pl), 0⟩) := by
  obtain ⟨mb, D, C, hp, M⟩ := h
  unfold mdRow at hp
  unfold opV
  have lp := heap_lt hp
  have hW : Chg [] w ((w.alloc (.cells #[.int .u8 (code : Int), .int .u64 (vol : Int), .int .u64 (pl : Int), .int .u64 (n : Int), dv] 26)).alloc (.cells #[.int .i64 0, .int .u64 0, .slice none 0 0, .int .i64 0] 32)) := ((Chg.refl [] w).alloc _).alloc _
  have hP := (hW.block p lp (by simp)).trans hp
  have hO := new_block21 w (.cells #[.int .u8 (code : Int), .int .u64 (vol : Int), .int .u64 (pl : Int), .int .u64 (n : Int), dv] 26) (.cells #[.int .i64 0, .int .u64 0, .slice none 0 0, .int .i64 0] 32)
  have hR := new_block2 w (.cells #[.int .u8 (code : Int), .int .u64 (vol : Int), .int .u64 (pl : Int), .int .u64 (n : Int), dv] 26) (.cells #[.int .i64 0, .int .u64 0, .slice none 0 0, .int .i64 0] 32)
  have hM := M.chg hW (by simp)
  have hlt := M.lt
  have HVL := Lib.hid hv
  have HPL := Lib.hid hpl
  have hat := M.vol_at hp hk
  have HAT := Lib.hid hat
  obtain ⟨cs, hcs, hsz, -⟩ := isBlk_inv (look_blk hat.2.2.2.2 hpl).2
  have hbk := (look_blk hat.2.2.2.2 hpl).2
  rw [hcs] at hbk
  have HCS := Lib.hid hcs
  have HBK := Lib.hid hbk
  have zb := zeroBlk
  clear hv hpl hk hat hcs hbk
  clear hp M lp
  go_enter Try.func51, Try.ntmps51
  go_upto_region 1 with fail
  generalize ((w.alloc (.cells #[.int .u8 (code : Int), .int .u64 (vol : Int), .int .u64 (pl : Int), .int .u64 (n : Int), dv] 26)).alloc (.cells #[.int .i64 0, .int .u64 0, .slice none 0 0, .int .i64 0] 32)) = W at *
  have x0 := cell_of_block hP 0
  have x1 := cell_of_block hP 1
  have x2 := cell_of_block hP 2
  simp only [List.getElem?_toArray, List.getElem?_cons_zero, List.getElem?_cons_succ] at x0 x1 x2
  have o0 := cell_of_block hO 0
  have o1 := cell_of_block hO 1
  have o2 := cell_of_block hO 2
  have o3 := cell_of_block hO 3
  have o4 := cell_of_block hO 4
  simp only [List.getElem?_toArray, List.getElem?_cons_zero, List.getElem?_cons_succ] at o0 o1 o2 o3 o4
  have r0 := cell_of_block hR 0
  have r1 := cell_of_block hR 1
  have r2 := cell_of_block hR 2
  have r3 := cell_of_block hR 3
  simp only [List.getElem?_toArray, List.getElem?_cons_zero, List.getElem?_cons_succ] at r0 r1 r2 r3
  have lp := heap_lt hP
  have lo := heap_lt hO
  have lr := heap_lt hR
  have fr0 := frozen_of_block hR 0
  have fr1 := frozen_of_block hR 1
  have fr2 := frozen_of_block hR 2
  have fr3 := frozen_of_block hR 3
  have HP := Lib.hid hP
  have HO := Lib.hid hO
  have HR := Lib.hid hR
  have HM := Lib.hid hM
  have HW := Lib.hid hW
  have HLT := Lib.hid hlt
  clear hP hO hR hM hW hlt
  have HVW := Lib.hid (own_chg HAT.out.2.2.2.2 HW.out (by simp))
  refine wp_region_held_drew (S := fun W' => W'.cell? ⟨p, 2, none⟩ = some (.map (some mb)) ∧ W'.cell? ⟨w.heap.size, 1, none⟩ = some (.int .u64 (vol : Int)) ∧ W'.cell? ⟨w.heap.size, 2, none⟩ = some (.int .u64 (pl : Int)) ∧ OwnM W' mb N D ∧ OwnV W' (tok (D.atKey (kU vol) .nil)) N Dv) (by kernel_rfl) (by exact ⟨x2, o1, o2, HM.out.own, HVW.out⟩) (fun hHeld => ?_)
  refine wpAnyH_take (i := 0) (oi := ?_) (v := ?_) ?_ (by kernel_rfl) (by kernel_rfl) (by kernel_rfl) ?_ (Or.inl ⟨?_, ?_⟩) hHeld ?_
  rotate_left 2
  · (simp only [List.getElem?_toArray, List.getElem?_cons_succ, List.getElem?_cons_zero]; rfl)
  · exact fun _ _ _ h => h
  · rfl
  · (rintro W' ⟨s1, s2, s3, s4, s5⟩; have s6 := look_vol s4 HVL.out HAT.out.1; have s7 := (look_blk s5 HPL.out).1; rw [HCS.out] at s7; go_simp; first | done | with_reducible rfl)
  try simp only [Act.put, List.setIfInBounds_toArray, List.set_cons_zero, List.set_cons_succ]
  refine wpAnyH_take (i := 1) (oi := ?_) (v := ?_) ?_ (by kernel_rfl) (by kernel_rfl) (by kernel_rfl) ?_ (Or.inl ⟨?_, ?_⟩) hHeld ?_
  rotate_left 2
  · (simp only [List.getElem?_toArray, List.getElem?_cons_succ, List.getElem?_cons_zero]; rfl)
  · exact fun _ _ _ h => h
  · rfl
  · (rintro W' ⟨s1, s2, s3, s4, s5⟩; have s6 := look_vol s4 HVL.out HAT.out.1; have s7 := (look_blk s5 HPL.out).1; rw [HCS.out] at s7; go_simp; first | done | with_reducible rfl)
  try simp only [Act.put, List.setIfInBounds_toArray, List.set_cons_zero, List.set_cons_succ]
  refine wpAnyH_take (i := 2) (oi := ?_) (v := ?_) ?_ (by kernel_rfl) (by kernel_rfl) (by kernel_rfl) ?_ (Or.inl ⟨?_, ?_⟩) hHeld ?_
  rotate_left 2
  · (simp only [List.getElem?_toArray, List.getElem?_cons_succ, List.getElem?_cons_zero]; rfl)
  · exact fun _ _ _ h => h
  · rfl
  · (rintro W' ⟨s1, s2, s3, s4, s5⟩; have s6 := look_vol s4 HVL.out HAT.out.1; have s7 := (look_blk s5 HPL.out).1; rw [HCS.out] at s7; go_simp; first | done | with_reducible rfl)
  try simp only [Act.put, List.setIfInBounds_toArray, List.set_cons_zero, List.set_cons_succ]
  refine wpAnyH_take (i := 3) (oi := ?_) (v := ?_) ?_ (by kernel_rfl) (by kernel_rfl) (by kernel_rfl) ?_ (Or.inl ⟨?_, ?_⟩) hHeld ?_
  rotate_left 2
  · (simp only [List.getElem?_toArray, List.getElem?_cons_succ, List.getElem?_cons_zero]; rfl)
  · exact fun _ _ _ h => h
  · rfl
  · (rintro W' ⟨s1, s2, s3, s4, s5⟩; have s6 := look_vol s4 HVL.out HAT.out.1; have s7 := (look_blk s5 HPL.out).1; rw [HCS.out] at s7; go_simp; first | done | with_reducible rfl)
  try simp only [Act.put, List.setIfInBounds_toArray, List.set_cons_zero, List.set_cons_succ]
  refine wpAnyH_take (i := 4) (oi := ?_) (v := ?_) ?_ (by kernel_rfl) (by kernel_rfl) (by kernel_rfl) ?_ (Or.inl ⟨?_, ?_⟩) hHeld ?_
  rotate_left 2
  · (simp only [List.getElem?_toArray, List.getElem?_cons_succ, List.getElem?_cons_zero]; rfl)
  · exact fun _ _ _ h => h
  · rfl
  · (rintro W' ⟨s1, s2, s3, s4, s5⟩; have s6 := look_vol s4 HVL.out HAT.out.1; have s7 := (look_blk s5 HPL.out).1; rw [HCS.out] at s7; go_simp; first | done | with_reducible rfl)
  try simp only [Act.put, List.setIfInBounds_toArray, List.set_cons_zero, List.set_cons_succ]
  refine wpAnyH_take (i := 5) (oi := ?_) (v := ?_) ?_ (by kernel_rfl) (by kernel_rfl) (by kernel_rfl) ?_ (Or.inl ⟨?_, ?_⟩) hHeld ?_
  rotate_left 2
  · (simp only [List.getElem?_toArray, List.getElem?_cons_succ, List.getElem?_cons_zero]; rfl)
  · exact fun _ _ _ h => h
  · rfl
  · (rintro W' ⟨s1, s2, s3, s4, s5⟩; have s6 := look_vol s4 HVL.out HAT.out.1; have s7 := (look_blk s5 HPL.out).1; rw [HCS.out] at s7; go_simp; first | done | with_reducible rfl)
  try simp only [Act.put, List.setIfInBounds_toArray, List.set_cons_zero, List.set_cons_succ]
  refine wpAnyH_take (i := 6) (oi := ?_) (v := ?_) ?_ (by kernel_rfl) (by kernel_rfl) (by kernel_rfl) ?_ (Or.inl ⟨?_, ?_⟩) hHeld ?_
  rotate_left 2
  · (simp only [List.getElem?_toArray, List.getElem?_cons_succ, List.getElem?_cons_zero]; rfl)
  · exact fun _ _ _ h => h
  · rfl
  · (rintro W' ⟨s1, s2, s3, s4, s5⟩; have s6 := look_vol s4 HVL.out HAT.out.1; have s7 := (look_blk s5 HPL.out).1; rw [HCS.out] at s7; go_simp; first | done | with_reducible rfl)
  try simp only [Act.put, List.setIfInBounds_toArray, List.set_cons_zero, List.set_cons_succ]
  refine wpAnyH_take (i := 7) (oi := ?_) (v := ?_) ?_ (by kernel_rfl) (by kernel_rfl) (by kernel_rfl) ?_ (Or.inl ⟨?_, ?_⟩) hHeld ?_
  rotate_left 2
  · (simp only [List.getElem?_toArray, List.getElem?_cons_succ, List.getElem?_cons_zero]; rfl)
  · exact fun _ _ _ h => h
  · rfl
  · (rintro W' ⟨s1, s2, s3, s4, s5⟩; have s6 := look_vol s4 HVL.out HAT.out.1; have s7 := (look_blk s5 HPL.out).1; rw [HCS.out] at s7; go_simp; first | done | with_reducible rfl)
  try simp only [Act.put, List.setIfInBounds_toArray, List.set_cons_zero, List.set_cons_succ]
  refine wpAnyH_take (i := 8) (oi := ?_) (v := ?_) ?_ (by kernel_rfl) (by kernel_rfl) (by kernel_rfl) ?_ (Or.inl ⟨?_, ?_⟩) hHeld ?_
  rotate_left 2
  · (simp only [List.getElem?_toArray, List.getElem?_cons_succ, List.getElem?_cons_zero]; rfl)
  · exact fun _ _ _ h => h
  · rfl
  · (rintro W' ⟨s1, s2, s3, s4, s5⟩; have s6 := look_vol s4 HVL.out HAT.out.1; have s7 := (look_blk s5 HPL.out).1; rw [HCS.out] at s7; go_simp; first | done | with_reducible rfl)
  try simp only [Act.put, List.setIfInBounds_toArray, List.set_cons_zero, List.set_cons_succ]
  refine wpAnyH_take (i := 9) (oi := ?_) (v := ?_) ?_ (by kernel_rfl) (by kernel_rfl) (by kernel_rfl) ?_ (Or.inl ⟨?_, ?_⟩) hHeld ?_
  rotate_left 2
  · (simp only [List.getElem?_toArray, List.getElem?_cons_succ, List.getElem?_cons_zero]; rfl)
  · exact fun _ _ _ h => h
  · rfl
  · (rintro W' ⟨s1, s2, s3, s4, s5⟩; have s6 := look_vol s4 HVL.out HAT.out.1; have s7 := (look_blk s5 HPL.out).1; rw [HCS.out] at s7; go_simp; first | done | with_reducible rfl)
  try simp only [Act.put, List.setIfInBounds_toArray, List.set_cons_zero, List.set_cons_succ]
  refine wpAnyH_ready (rs := [10]) (by kernel_rfl) (by simp) ?_
  refine AllReadyH.cons (o := ?_) ?_ (fun K hK => ?_) AllReadyH.nil
  rotate_left 1
  · (simp only [List.getElem?_toArray, List.getElem?_cons_succ, List.getElem?_cons_zero]; rfl)
  · go_simp
    refine hK.out _ _ ?_ (fun hHeld => ?_)
    · exact ⟨(((Chg.refl [W.heap.size] W).alloc _).drew.cell (p := ⟨p, 2, none⟩) lp (by simp; omega)).trans x2, (((Chg.refl [W.heap.size] W).alloc _).drew.cell (p := ⟨w.heap.size, 1, none⟩) lo (by simp; omega)).trans o1, (((Chg.refl [W.heap.size] W).alloc _).drew.cell (p := ⟨w.heap.size, 2, none⟩) lo (by simp; omega)).trans o2, own_chg HM.out.own ((Chg.refl [W.heap.size] W).alloc _).drew (by simp; have := HM.out.own.lt; omega), own_chg HVW.out ((Chg.refl [W.heap.size] W).alloc _).drew (by simp; have := HVW.out.lt; omega)⟩
    clear hK K
    try simp only [Act.put, List.setIfInBounds_toArray, List.set_cons_zero, List.set_cons_succ]
    refine wpAnyH_ready (rs := [11]) (by kernel_rfl) (by simp) ?_
    refine AllReadyH.cons (o := ?_) ?_ (fun K hK => ?_) AllReadyH.nil
    rotate_left 1
    · (simp only [List.getElem?_toArray, List.getElem?_cons_succ, List.getElem?_cons_zero]; rfl)
    · (have hst : (storeCells ⟨W.heap.size, 0, none⟩ cs.toList 0).run Try.prog (W.alloc (.cells zBlk 71)).drew = .ok () (W.alloc (.cells cs 71)).drew := run_storeCells_new (P := Try.prog) W.drew 71 zBlk cs (by rw [infoBlk, hsz]) (by simp [zBlk, hsz]) (blk_one HBK.out).2; go_simp)
      refine hK.out _ _ ?_ (fun hHeld => ?_)
      · exact ⟨(((Chg.refl [W.heap.size] W).alloc _).drew.cell (p := ⟨p, 2, none⟩) lp (by simp; omega)).trans x2, (((Chg.refl [W.heap.size] W).alloc _).drew.cell (p := ⟨w.heap.size, 1, none⟩) lo (by simp; omega)).trans o1, (((Chg.refl [W.heap.size] W).alloc _).drew.cell (p := ⟨w.heap.size, 2, none⟩) lo (by simp; omega)).trans o2, own_chg HM.out.own ((Chg.refl [W.heap.size] W).alloc _).drew (by simp; have := HM.out.own.lt; omega), own_chg HVW.out ((Chg.refl [W.heap.size] W).alloc _).drew (by simp; have := HVW.out.lt; omega)⟩
      clear hK K
      try simp only [Act.put, List.setIfInBounds_toArray, List.set_cons_zero, List.set_cons_succ]
      refine wpAnyH_done (by kernel_rfl) ?_ _
      have HC1 := Lib.hid (((Chg.refl [] W).alloc (.cells cs 71)).drew)
      have HB1 := Lib.hid (show (W.alloc (.cells cs 71)).drew.heap[W.heap.size]? = some (.cells cs 71 (0, 0)) from new_block W _)
      have HR1 := Lib.hid ((HC1.out.block _ lr (by simp)).trans HR.out)
      generalize (W.alloc (.cells cs 71)).drew = W1 at *
      clear x0 x1 x2 o0 o1 o2 o3 o4 r0 r1 r2 r3 fr0 fr1 fr2 fr3 hst zb
      have lb := heap_lt HB1.out
      go_wp2_with fail
      refine (clone8_at (blk_bytes HB1.out HBK.out) (by omega) (by omega)).mono ?_
      rintro e w2 ⟨g, c, rfl, k1, k2, k3, k4, hB, hC2⟩
      have HB2 := Lib.hid hB
      have HC2 := Lib.hid hC2
      have hR2 := (hC2.block _ (heap_lt HR1.out) (by simp)).trans HR1.out
      have HR2 := Lib.hid hR2
      have r0 := cell_of_block hR2 0
      have r1 := cell_of_block hR2 1
      have r2 := cell_of_block hR2 2
      have r3 := cell_of_block hR2 3
      simp only [List.getElem?_toArray, List.getElem?_cons_zero, List.getElem?_cons_succ] at r0 r1 r2 r3
      have fr0 := frozen_of_block hR2 0
      have fr1 := frozen_of_block hR2 1
      have fr2 := frozen_of_block hR2 2
      have fr3 := frozen_of_block hR2 3
      have lr2 := heap_lt hR2
      clear hR2 hB hC2
      go_wp2_with fail
      obtain ⟨hR4, hC4⟩ := rep_store HR2.out (.int .i64 0) (.int .u64 0) (.slice (some ⟨g, 0, none⟩) 128 c) (.int .i64 0)
      generalize (((w2.setCell ⟨w.heap.size + 1, 0, none⟩ (.int .i64 0)).setCell ⟨w.heap.size + 1, 1, none⟩ (.int .u64 0)).setCell ⟨w.heap.size + 1, 2, none⟩ (.slice (some ⟨g, 0, none⟩) 128 c)).setCell ⟨w.heap.size + 1, 3, none⟩ (.int .i64 0) = W4 at *
      have l4 := heap_lt hR4
      have z0 := cell_of_block hR4 0
      have z1 := cell_of_block hR4 1
      have z2 := cell_of_block hR4 2
      have z3 := cell_of_block hR4 3
      simp only [List.getElem?_toArray, List.getElem?_cons_zero, List.getElem?_cons_succ] at z0 z1 z2 z3
      have hc : Chg [] w W4 := ((HW.out.trans HC1.out).trans HC2.out).then hC4 (by simp)
      have hM4 := ((HM.out.chg HC1.out (by simp)).chg HC2.out (by simp)).chg hC4 (fun b hb => by have := HLT.out b hb; simp; omega)
      have hP4 := (hC4.block p (Nat.lt_of_lt_of_le lp (Nat.le_trans HC1.out.size HC2.out.size)) (by simp; have := HLT.out p HM.out.pin; omega)).trans ((HC2.out.block p (Nat.lt_of_lt_of_le lp HC1.out.size) (by simp)).trans ((HC1.out.block p lp (by simp)).trans HP.out))
      have hs1 := HC1.out.size
      have hB4 := HB2.out.chg hC4 (by simp; omega)
      refine bodyPost_ret (v := repV 0 0 (.slice (some ⟨g, 0, none⟩) 128 c) 0) (by simp [results, Try.results51, go_sem, repV, l4, z0, z1, z2, z3]) rfl ⟨L, some ⟨g, 0, none⟩, c, rfl, ⟨mb, D, C, hP4, hM4.mono (Nat.le_succ _)⟩, fun b hb => .inl hb, ?_, ?_, hc.mono (by simp)⟩
      · rw [HCS.out]
        exact ⟨k1, k2, (fun h => by cases h), (fun b hb _ => by injection hb with hb; subst hb; exact ⟨_, _, rfl, hB4⟩)⟩
      · intro b hb
        injection hb with hb
        subst hb
        refine ⟨by show w.heap.size ≤ g; omega, fun hm => ?_⟩
        have := HLT.out g hm
        omega

theorem own_no_cell {H : Type} {P : Program} {k : TypeId} {R : Value → Option (DataW H × List MemPlace)} {w : World} {b n : Nat} {D : DataW H} (h : w.ownsMap P k R b n D) (i : Nat) : w.cell? ⟨b, i, none⟩ = none := by
  obtain ⟨es, clock, hb, _⟩ := h
  simp [World.cell?, hb]
theorem u8s_size (n : Nat) (f : Nat → Nat) : (u8s n f).size = n := by simp [u8s]
theorem all_u8s {n : Nat} {f : Nat → Nat} (hf : ∀ i, i < n → f i ≤ 255) : (u8s n f).all isU8 = true := by
  refine Array.all_eq_true.2 fun i hi => ?_
  have hi' : i < n := by rw [u8s_size] at hi; exact hi
  have h := u8s_get (n := n) (f := f) hi'
  rw [Array.getElem?_eq_getElem hi] at h
  injection h with h
  rw [h]
  have := hf i hi'
  unfold isU8
  simp
  omega
theorem blk_of_bytes {f : Nat → Nat} (hf : ∀ i, i < 128 → f i ≤ 255) : isBlk (.agg (u8s 128 f)) = true := by
  show (decide ((u8s 128 f).size = 128) && (u8s 128 f).all isU8) = true
  rw [all_u8s hf, u8s_size]
  rfl
theorem load_bytes_n {w : World} {k o n : Nat} {f : Nat → Nat} (h : BytesAt w k o n f) : (loadCellsFrom ⟨k, o, none⟩ 0 n #[]).run Try.prog w = .ok (u8s n f) w := by
  have := run_loadCells_list (P := Try.prog) w ⟨k, o, none⟩ (u8s n f).toList (fun j v hv => by
    have hadd : (⟨k, o, none⟩ : Addr).add j = ⟨k, o + j, none⟩ := by unfold Addr.add; split <;> simp_all
    rw [hadd]
    have hj : j < n := by
      by_cases hj : j < n
      · exact hj
      · rw [Array.getElem?_toList, Array.getElem?_eq_none (by rw [u8s_size]; omega)] at hv; cases hv
    rw [Array.getElem?_toList, u8s_get hj] at hv
    injection hv with hv
    rw [← hv]
    exact (h j hj).1)
  simp only [loadCells, Array.length_toList, u8s_size, Array.toArray_toList] at this
  exact this
theorem load_bytes {w : World} {k o : Nat} {f : Nat → Nat} (h : BytesAt w k o 128 f) : (loadCellsFrom ⟨k, o, none⟩ 0 128 #[]).run Try.prog w = .ok (u8s 128 f) w := load_bytes_n h
theorem yields_blk {ops : Array Oper} {S : World → Prop} {op : Oper} {a : Act} {k o : Nat} {f : Nat → Nat} (hw : Region.wanted op (yielded ops a.tmps) = true) (x : Operand) (ho : op.op = .load 71 x) (hx : a.eval x = .pointer (some ⟨k, o, none⟩)) (hS : ∀ w, S w → BytesAt w k o 128 f) :
    YieldsIf Try.prog ops S op (.agg (u8s 128 f)) a := by
  have := yieldsIf_load_mid (P := Try.prog) (ops := ops) (S := S) hw 71 x ho k o hx (u8s 128 f).toList _ (fun w h j v hv => by
    have hj : j < 128 := by
      by_cases hj : j < 128
      · exact hj
      · rw [Array.getElem?_toList, Array.getElem?_eq_none (by rw [u8s_size]; omega)] at hv; cases hv
    rw [Array.getElem?_toList, u8s_get hj] at hv
    injection hv with hv
    rw [← hv]
    exact (hS w h j hj).1) Try.underlying71 rfl (by rw [infoBlk, Array.length_toList, u8s_size])
  rw [Array.toArray_toList] at this
  exact this

set_option maxRecDepth 20000 in
set_option maxHeartbeats 4000000 in
theorem write_at {N : Nat} {L : List Nat} {w : World} {p code vol pl n : Nat} {S : St} (h : MdAt N L w p S) (hN : N ≤ 1000000) (hv : vol < 18446744073709551616) (hpl : pl < 18446744073709551616) {Dv : VD} (hk : S.vols (kU vol) = some Dv) {k o cap : Nat} {f : Nat → Nat} (hB : BytesAt w k o 128 f) (hcap : 128 ≤ cap) :
    Calls Try.prog 53 #[.pointer (some ⟨p, 0, none⟩), opV code vol pl n (.slice (some ⟨k, o, none⟩) 128 cap)] w (Done N L w p (S.setVol vol (Dv.put (kU pl) (.held (.agg (u8s 128 f))))) Rep.none) := by
  obtain ⟨mb, D, C, hp, M⟩ := h
  unfold mdRow at hp
  unfold opV
  have lp := heap_lt hp
  have hW : Chg [] w ((w.alloc (.cells #[.int .u8 (code : Int), .int .u64 (vol : Int), .int .u64 (pl : Int), .int .u64 (n : Int), (.slice (some ⟨k, o, none⟩) 128 cap)] 26)).alloc (.cells #[.int .i64 0, .int .u64 0, .slice none 0 0, .int .i64 0] 32)) := ((Chg.refl [] w).alloc _).alloc _
  have hP := (hW.block p lp (by simp)).trans hp
  have hO := new_block21 w (.cells #[.int .u8 (code : Int), .int .u64 (vol : Int), .int .u64 (pl : Int), .int .u64 (n : Int), (.slice (some ⟨k, o, none⟩) 128 cap)] 26) (.cells #[.int .i64 0, .int .u64 0, .slice none 0 0, .int .i64 0] 32)
  have hR := new_block2 w (.cells #[.int .u8 (code : Int), .int .u64 (vol : Int), .int .u64 (pl : Int), .int .u64 (n : Int), (.slice (some ⟨k, o, none⟩) 128 cap)] 26) (.cells #[.int .i64 0, .int .u64 0, .slice none 0 0, .int .i64 0] 32)
  have hM := M.chg hW (by simp)
  have hlt := M.lt
  have HVL := Lib.hid hv
  have HPL := Lib.hid hpl
  have HAT := Lib.hid (M.vol_at hp hk)
  have hBW := hB.chg hW (by simp)
  have HBW := Lib.hid hBW
  have HF := Lib.hid (blk_of_bytes (f := f) (fun i hi => (hB i hi).2))
  have HNN := Lib.hid (show N < maxLen by unfold maxLen; omega)
  have har := fun w => run_arrayAt (P := Try.prog) w 71 5 128 (some ⟨k, o, none⟩) 128 cap Try.underlying71 (Nat.le_refl _)
  clear hv hpl hk hB hBW hcap
  clear hp M lp
  go_enter Try.func53, Try.ntmps53
  go_upto_region 1 with fail
  generalize ((w.alloc (.cells #[.int .u8 (code : Int), .int .u64 (vol : Int), .int .u64 (pl : Int), .int .u64 (n : Int), (.slice (some ⟨k, o, none⟩) 128 cap)] 26)).alloc (.cells #[.int .i64 0, .int .u64 0, .slice none 0 0, .int .i64 0] 32)) = W at *
  have x0 := cell_of_block hP 0
  have x1 := cell_of_block hP 1
  have x2 := cell_of_block hP 2
  simp only [List.getElem?_toArray, List.getElem?_cons_zero, List.getElem?_cons_succ] at x0 x1 x2
  have o0 := cell_of_block hO 0
  have o1 := cell_of_block hO 1
  have o2 := cell_of_block hO 2
  have o3 := cell_of_block hO 3
  have o4 := cell_of_block hO 4
  simp only [List.getElem?_toArray, List.getElem?_cons_zero, List.getElem?_cons_succ] at o0 o1 o2 o3 o4
  have r0 := cell_of_block hR 0
  have r1 := cell_of_block hR 1
  have r2 := cell_of_block hR 2
  have r3 := cell_of_block hR 3
  simp only [List.getElem?_toArray, List.getElem?_cons_zero, List.getElem?_cons_succ] at r0 r1 r2 r3
  have lp := heap_lt hP
  have lo := heap_lt hO
  have lr := heap_lt hR
  have fr0 := frozen_of_block hR 0
  have fr1 := frozen_of_block hR 1
  have fr2 := frozen_of_block hR 2
  have fr3 := frozen_of_block hR 3
  have HP := Lib.hid hP
  have HO := Lib.hid hO
  have HR := Lib.hid hR
  have HM := Lib.hid hM
  have HW := Lib.hid hW
  have HLT := Lib.hid hlt
  clear hP hO hR hM hW hlt
  have HVW := Lib.hid (own_chg HAT.out.2.2.2.2 HW.out (by simp))
  have htl := HLT.out _ HAT.out.2.1
  have HKT := Lib.hid (show k ≠ tok (D.atKey (kU vol) .nil) from fun e => by
    have h1 := (HBW.out 0 (by omega)).1
    rw [e, own_no_cell HVW.out] at h1
    cases h1)
  refine wp_region_held_drew (S := fun W' => W'.cell? ⟨p, 2, none⟩ = some (.map (some mb)) ∧ W'.cell? ⟨w.heap.size, 1, none⟩ = some (.int .u64 (vol : Int)) ∧ W'.cell? ⟨w.heap.size, 2, none⟩ = some (.int .u64 (pl : Int)) ∧ W'.cell? ⟨w.heap.size, 4, none⟩ = some (.slice (some ⟨k, o, none⟩) 128 cap) ∧ OwnM W' mb N D ∧ BytesAt W' k o 128 f) (by kernel_rfl) (by exact ⟨x2, o1, o2, o4, HM.out.own, HBW.out⟩) (fun hHeld => ?_)
  refine wpAnyH_take (i := 0) (oi := ?_) (v := ?_) ?_ (by kernel_rfl) (by kernel_rfl) (by kernel_rfl) ?_ (Or.inl ⟨?_, ?_⟩) hHeld ?_
  rotate_left 2
  · (simp only [List.getElem?_toArray, List.getElem?_cons_succ, List.getElem?_cons_zero]; rfl)
  · exact fun _ _ _ h => h
  · rfl
  · (rintro W' ⟨s1, s2, s3, s4, s5, s6⟩; have s7 := look_vol s5 HVL.out HAT.out.1; go_simp; first | done | with_reducible rfl)
  try simp only [Act.put, List.setIfInBounds_toArray, List.set_cons_zero, List.set_cons_succ]
  refine wpAnyH_take (i := 1) (oi := ?_) (v := ?_) ?_ (by kernel_rfl) (by kernel_rfl) (by kernel_rfl) ?_ (Or.inl ⟨?_, ?_⟩) hHeld ?_
  rotate_left 2
  · (simp only [List.getElem?_toArray, List.getElem?_cons_succ, List.getElem?_cons_zero]; rfl)
  · exact fun _ _ _ h => h
  · rfl
  · (rintro W' ⟨s1, s2, s3, s4, s5, s6⟩; have s7 := look_vol s5 HVL.out HAT.out.1; go_simp; first | done | with_reducible rfl)
  try simp only [Act.put, List.setIfInBounds_toArray, List.set_cons_zero, List.set_cons_succ]
  refine wpAnyH_take (i := 2) (oi := ?_) (v := ?_) ?_ (by kernel_rfl) (by kernel_rfl) (by kernel_rfl) ?_ (Or.inl ⟨?_, ?_⟩) hHeld ?_
  rotate_left 2
  · (simp only [List.getElem?_toArray, List.getElem?_cons_succ, List.getElem?_cons_zero]; rfl)
  · exact fun _ _ _ h => h
  · rfl
  · (rintro W' ⟨s1, s2, s3, s4, s5, s6⟩; have s7 := look_vol s5 HVL.out HAT.out.1; go_simp; first | done | with_reducible rfl)
  try simp only [Act.put, List.setIfInBounds_toArray, List.set_cons_zero, List.set_cons_succ]
  refine wpAnyH_take (i := 3) (oi := ?_) (v := ?_) ?_ (by kernel_rfl) (by kernel_rfl) (by kernel_rfl) ?_ (Or.inl ⟨?_, ?_⟩) hHeld ?_
  rotate_left 2
  · (simp only [List.getElem?_toArray, List.getElem?_cons_succ, List.getElem?_cons_zero]; rfl)
  · exact fun _ _ _ h => h
  · rfl
  · (rintro W' ⟨s1, s2, s3, s4, s5, s6⟩; have s7 := look_vol s5 HVL.out HAT.out.1; go_simp; first | done | with_reducible rfl)
  try simp only [Act.put, List.setIfInBounds_toArray, List.set_cons_zero, List.set_cons_succ]
  refine wpAnyH_take (i := 4) (oi := ?_) (v := ?_) ?_ (by kernel_rfl) (by kernel_rfl) (by kernel_rfl) ?_ (Or.inl ⟨?_, ?_⟩) hHeld ?_
  rotate_left 2
  · (simp only [List.getElem?_toArray, List.getElem?_cons_succ, List.getElem?_cons_zero]; rfl)
  · exact fun _ _ _ h => h
  · rfl
  · (rintro W' ⟨s1, s2, s3, s4, s5, s6⟩; have s7 := look_vol s5 HVL.out HAT.out.1; go_simp; first | done | with_reducible rfl)
  try simp only [Act.put, List.setIfInBounds_toArray, List.set_cons_zero, List.set_cons_succ]
  refine wpAnyH_take (i := 5) (oi := ?_) (v := ?_) ?_ (by kernel_rfl) (by kernel_rfl) (by kernel_rfl) ?_ (Or.inl ⟨?_, ?_⟩) hHeld ?_
  rotate_left 2
  · (simp only [List.getElem?_toArray, List.getElem?_cons_succ, List.getElem?_cons_zero]; rfl)
  · exact fun _ _ _ h => h
  · rfl
  · (rintro W' ⟨s1, s2, s3, s4, s5, s6⟩; have s7 := look_vol s5 HVL.out HAT.out.1; go_simp; first | done | with_reducible rfl)
  try simp only [Act.put, List.setIfInBounds_toArray, List.set_cons_zero, List.set_cons_succ]
  refine wpAnyH_take (i := 6) (oi := ?_) (v := ?_) ?_ (by kernel_rfl) (by kernel_rfl) (by kernel_rfl) ?_ (Or.inl ⟨?_, ?_⟩) hHeld ?_
  rotate_left 2
  · (simp only [List.getElem?_toArray, List.getElem?_cons_succ, List.getElem?_cons_zero]; rfl)
  · exact fun _ _ _ h => h
  · rfl
  · (rintro W' ⟨s1, s2, s3, s4, s5, s6⟩; have s7 := look_vol s5 HVL.out HAT.out.1; go_simp; first | done | with_reducible rfl)
  try simp only [Act.put, List.setIfInBounds_toArray, List.set_cons_zero, List.set_cons_succ]
  refine wpAnyH_take (i := 7) (oi := ?_) (v := ?_) ?_ (by kernel_rfl) (by kernel_rfl) (by kernel_rfl) ?_ (Or.inl ⟨?_, ?_⟩) hHeld ?_
  rotate_left 2
  · (simp only [List.getElem?_toArray, List.getElem?_cons_succ, List.getElem?_cons_zero]; rfl)
  · exact fun _ _ _ h => h
  · rfl
  · (rintro W' ⟨s1, s2, s3, s4, s5, s6⟩; have s7 := look_vol s5 HVL.out HAT.out.1; go_simp; first | done | with_reducible rfl)
  try simp only [Act.put, List.setIfInBounds_toArray, List.set_cons_zero, List.set_cons_succ]
  refine wpAnyH_take (i := 8) (oi := ?_) (v := ?_) ?_ (by kernel_rfl) (by kernel_rfl) (by kernel_rfl) ?_ (Or.inl ⟨?_, ?_⟩) hHeld ?_
  rotate_left 2
  · (simp only [List.getElem?_toArray, List.getElem?_cons_succ, List.getElem?_cons_zero]; rfl)
  · exact fun _ _ _ h => h
  · rfl
  · (rintro W' ⟨s1, s2, s3, s4, s5, s6⟩; have s7 := look_vol s5 HVL.out HAT.out.1; go_simp; first | done | with_reducible rfl)
  try simp only [Act.put, List.setIfInBounds_toArray, List.set_cons_zero, List.set_cons_succ]
  refine wpAnyH_take (i := 9) (oi := ?_) (v := ?_) ?_ (by kernel_rfl) (by kernel_rfl) (by kernel_rfl) ?_ (Or.inl ⟨?_, ?_⟩) hHeld ?_
  rotate_left 2
  · (simp only [List.getElem?_toArray, List.getElem?_cons_succ, List.getElem?_cons_zero]; rfl)
  · exact fun _ _ _ h => h
  · rfl
  · (rintro W' ⟨s1, s2, s3, s4, s5, s6⟩; have s7 := look_vol s5 HVL.out HAT.out.1; go_simp; first | done | with_reducible rfl)
  try simp only [Act.put, List.setIfInBounds_toArray, List.set_cons_zero, List.set_cons_succ]
  refine wpAnyH_take (i := 10) (oi := ?_) (v := ?_) ?_ (by kernel_rfl) (by kernel_rfl) (by kernel_rfl) ?_ (Or.inl ⟨?_, ?_⟩) hHeld ?_
  rotate_left 2
  · (simp only [List.getElem?_toArray, List.getElem?_cons_succ, List.getElem?_cons_zero]; rfl)
  · exact fun _ _ _ h => h
  · rfl
  · (rintro W' ⟨s1, s2, s3, s4, s5, s6⟩; have s7 := look_vol s5 HVL.out HAT.out.1; go_simp; first | done | with_reducible rfl)
  try simp only [Act.put, List.setIfInBounds_toArray, List.set_cons_zero, List.set_cons_succ]
  refine wpAnyH_take (i := 11) (oi := ?_) (v := ?_) ?_ (by kernel_rfl) (by kernel_rfl) (by kernel_rfl) ?_ (Or.inl ⟨?_, ?_⟩) hHeld ?_
  rotate_left 2
  · (simp only [List.getElem?_toArray, List.getElem?_cons_succ, List.getElem?_cons_zero]; rfl)
  · exact fun _ _ _ h => h
  · rfl
  · (rintro W' ⟨s1, s2, s3, s4, s5, s6⟩; have s7 := look_vol s5 HVL.out HAT.out.1; go_simp; first | done | with_reducible rfl)
  try simp only [Act.put, List.setIfInBounds_toArray, List.set_cons_zero, List.set_cons_succ]
  refine wpAnyH_take (i := 12) (oi := ?_) (v := .agg (u8s 128 f)) ?_ (by kernel_rfl) (by kernel_rfl) (by kernel_rfl) ?_ (yields_blk (k := k) (o := o) ?_ (.tmp 16) ?_ ?_ (fun w' hw => hw.2.2.2.2.2)) hHeld ?_
  rotate_left 1
  · (simp only [List.getElem?_toArray, List.getElem?_cons_succ, List.getElem?_cons_zero]; rfl)
  · exact fun _ _ _ h => h
  · rfl
  · rfl
  · rfl
  try simp only [Act.put, List.setIfInBounds_toArray, List.set_cons_zero, List.set_cons_succ]
  refine wpAnyH_ready (rs := [13]) (by kernel_rfl) (by simp) ?_
  refine AllReadyH.cons (o := ?_) ?_ (fun K hK => ?_) AllReadyH.nil
  rotate_left 1
  · (simp only [List.getElem?_toArray, List.getElem?_cons_succ, List.getElem?_cons_zero]; rfl)
  · (obtain ⟨w3, hrun, hown3, hg3⟩ := HVW.out.drew.update KU Try.underlying68 HNN.out (kU_key HPL.out) (RB_mk HF.out); have HG := Lib.hid ((Chg.refl [tok (D.atKey (kU vol) .nil)] W).drew.trans ((Chg.refl _ _).grown hg3 (by simp))); clear hg3; go_simp)
    refine hK.out _ _ ?_ (fun hHeld => ?_)
    · exact ⟨(HG.out.cell (p := ⟨p, 2, none⟩) lp (by simp; exact fun e => HAT.out.2.2.2.1 e.symm)).trans x2, (HG.out.cell (p := ⟨w.heap.size, 1, none⟩) lo (by simp; omega)).trans o1, (HG.out.cell (p := ⟨w.heap.size, 2, none⟩) lo (by simp; omega)).trans o2, (HG.out.cell (p := ⟨w.heap.size, 4, none⟩) lo (by simp; omega)).trans o4, own_chg HM.out.own HG.out (by simp; exact fun e => HAT.out.2.2.1 e.symm), HBW.out.chg HG.out (by simp; exact HKT.out)⟩
    clear hK K
    try simp only [Act.put, List.setIfInBounds_toArray, List.set_cons_zero, List.set_cons_succ]
    refine wpAnyH_done (by kernel_rfl) ?_ _
    have hR1 := (HG.out.block (w.heap.size + 1) lr (by simp; omega)).trans HR.out
    have HR1 := Lib.hid hR1
    clear x0 x1 x2 o0 o1 o2 o3 o4 r0 r1 r2 r3 fr0 fr1 fr2 fr3 lo hrun
    have r0 := cell_of_block hR1 0
    have r1 := cell_of_block hR1 1
    have r2 := cell_of_block hR1 2
    have r3 := cell_of_block hR1 3
    simp only [List.getElem?_toArray, List.getElem?_cons_zero, List.getElem?_cons_succ] at r0 r1 r2 r3
    have fr0 := frozen_of_block hR1 0
    have fr1 := frozen_of_block hR1 1
    have fr2 := frozen_of_block hR1 2
    have fr3 := frozen_of_block hR1 3
    have lr1 := heap_lt hR1
    clear hR1
    go_wp2_with fail
    obtain ⟨hR4, hC4⟩ := rep_store HR1.out (.int .i64 0) (.int .u64 0) (.slice none 0 0) (.int .i64 0)
    generalize (((w3.setCell ⟨w.heap.size + 1, 0, none⟩ (.int .i64 0)).setCell ⟨w.heap.size + 1, 1, none⟩ (.int .u64 0)).setCell ⟨w.heap.size + 1, 2, none⟩ (.slice none 0 0)).setCell ⟨w.heap.size + 1, 3, none⟩ (.int .i64 0) = W4 at *
    have l4 := heap_lt hR4
    have z0 := cell_of_block hR4 0
    have z1 := cell_of_block hR4 1
    have z2 := cell_of_block hR4 2
    have z3 := cell_of_block hR4 3
    simp only [List.getElem?_toArray, List.getElem?_cons_zero, List.getElem?_cons_succ] at z0 z1 z2 z3
    have hc : Chg L w W4 := ((HW.out.mono (by simp)).trans (HG.out.mono (fun b hb => by simp at hb; rw [hb]; exact HAT.out.2.1))).then hC4 (by simp)
    have hM3 := HM.out.chgVol HAT.out.1 rfl HG.out hown3
    have hM4 := hM3.chg hC4 (fun b hb => by have := HLT.out b hb; simp; omega)
    have hP4 := (hC4.block p (Nat.lt_of_lt_of_le lp HG.out.size) (by simp; have := HLT.out p HM.out.pin; omega)).trans ((HG.out.block p lp (by simp; exact fun e => HAT.out.2.2.2.1 e.symm)).trans HP.out)
    exact bodyPost_ret (v := repV 0 0 (.slice none 0 0) 0) (by simp [results, Try.results53, go_sem, repV, l4, z0, z1, z2, z3]) rfl ⟨L, none, 0, rfl, ⟨mb, _, _, hP4, hM4⟩, fun b hb => .inl hb, bytes_none, fun b hb => (by cases hb), hc⟩

end Go.Proofs.Ytbejcmbdaoakbaa
