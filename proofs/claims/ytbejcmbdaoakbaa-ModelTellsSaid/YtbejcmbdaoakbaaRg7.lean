/- The reference of layer 24: trim. -/
import Derived.Test.YtbejcmbdaoakbaaRg6
import Derived.BigQuiet
namespace Go.Proofs.Ytbejcmbdaoakbaa
open Go.RowKit
set_option linter.unusedVariables false
set_option linter.unusedSimpArgs false

/-- The places that a trim takes. -/
def selT (pl n : Nat) (l : List Nat) : List Nat := l.filter fun x => decide (pl ≤ x ∧ x - pl < n)
theorem selT_take (pl n : Nat) (l : List Nat) (i : Nat) (h : i < l.length) : selT pl n (l.take (i + 1)) = selT pl n (l.take i) ++ (if pl ≤ l[i]! ∧ l[i]! - pl < n then [l[i]!] else []) := by
  unfold selT
  rw [List.take_succ_eq_append_getElem h, List.filter_append, getElem!_pos l i h]
  congr 1
  by_cases hc : pl ≤ l[i] ∧ l[i] - pl < n
  · rw [if_pos hc]; simp [hc]
  · rw [if_neg hc]
    simp only [List.filter_cons, List.filter_nil]
    rw [if_neg (by simpa using hc)]
theorem selT_len (pl n : Nat) (l : List Nat) : (selT pl n l).length ≤ l.length := List.length_filter_le ..
/-- The puts that a trim adds. -/
def putsT (l : List Nat) : PutL := l.map fun x => (x, ⟨#[]⟩)
theorem putsT_app (a b : List Nat) : putsT (a ++ b) = putsT a ++ putsT b := List.map_append

def TrimAt (L : List Nat) (B : Nat) (w : World) (p at' : Nat) (R : RSt) (ps : PutL) (id : Nat) (l : List Nat) (wr : World) : Prop :=
  ∃ vv' nv L', RefAt L' (B + l.length) wr p vv' { R with vols := R.vols.set at' (id, nv, ps ++ putsT l) } ∧ (∀ b, b ∈ L' → b ∈ L ∨ w.heap.size ≤ b) ∧ Chg [p] w wr

theorem set_get! {l : List (Nat × Value × PutL)} {i : Nat} {x : Nat × Value × PutL} (h : i < l.length) : (l.set i x)[i]! = x := by
  rw [getElem!_pos (l.set i x) i (by rw [List.length_set]; exact h), List.getElem_set_self]
theorem set_self! {l : List (Nat × Value × PutL)} {i : Nat} (h : i < l.length) : l.set i (l[i]!) = l := by
  rw [getElem!_pos l i h, List.set_getElem_self]

theorem TrimAt.quiet {L : List Nat} {B : Nat} {w wr w3 : World} {p at' id : Nat} {R : RSt} {ps : PutL} {l : List Nat} (h : TrimAt L B w p at' R ps id l wr) (c : Chg [] wr w3) : TrimAt L B w p at' R ps id l w3 := by
  obtain ⟨vv', nv, L', hR, hL, hc⟩ := h
  exact ⟨vv', nv, L', hR.chg c (by simp), hL, hc.then c (by simp)⟩
theorem TrimAt.more {L L' L3 : List Nat} {B : Nat} {w wr w3 : World} {p at' id y : Nat} {vv3 nv nv3 : Value} {R : RSt} {ps : PutL} {l : List Nat} (hi : at' < R.vols.length) (hL : ∀ b, b ∈ L' → b ∈ L ∨ w.heap.size ≤ b) (hc : Chg [p] w wr)
    (hR3 : RefAt L3 (B + l.length + 1) w3 p vv3 { R with vols := (R.vols.set at' (id, nv, ps ++ putsT l)).set at' (((R.vols.set at' (id, nv, ps ++ putsT l))[at']!).1, nv3, ((R.vols.set at' (id, nv, ps ++ putsT l))[at']!).2.2 ++ [(y, ⟨#[]⟩)]) })
    (hL3 : ∀ b, b ∈ L3 → b ∈ L' ∨ wr.heap.size ≤ b) (hc3 : Chg [p] wr w3) : TrimAt L B w p at' R ps id (l ++ [y]) w3 := by
  rw [set_get! hi, List.set_set] at hR3
  refine ⟨vv3, nv3, L3, ?_, fun b hb => ?_, hc.then hc3 (fun x hx => .inl hx)⟩
  · rw [putsT_app, ← List.append_assoc, List.length_append]
    exact hR3
  · rcases hL3 b hb with h | h
    · exact hL b h
    · exact .inr (Nat.le_trans hc.size h)

set_option maxRecDepth 20000 in
set_option maxHeartbeats 8000000 in
theorem r24trim_at {L : List Nat} {B : Nat} {w : World} {p at' code vol pl n : Nat} {dv : Value} {vv : Value} {R : RSt} (h : RefAt L B w p vv R) (hB : 2 * B ≤ 1000000) (hi : at' < R.vols.length) (hpl : pl < 18446744073709551616) (hn : n < 18446744073709551616) :
    Calls Try.prog 41 #[.pointer (some ⟨p, 0, none⟩), .int .i64 (at' : Int), .agg #[.int .u8 (code : Int), .int .u64 (vol : Int), .int .u64 (pl : Int), .int .u64 (n : Int), dv]] w fun e w' =>
      ∃ l, PlR (R.vols[at']!).2.2 (R.vols[at']!).2.2.length l ∧ e = .returned (.int .i64 ((selT pl n l).length : Int)) ∧ TrimAt L B w p at' R (R.vols[at']!).2.2 (R.vols[at']!).1 (selT pl n l) w' := by
  have hm : R.vols[at']! ∈ R.vols := by rw [getElem!_pos R.vols at' hi]; exact List.getElem_mem _
  have hself := set_self! hi
  obtain ⟨t, ht⟩ : ∃ t, t = R.vols[at']! := ⟨_, rfl⟩
  have hput := h.puts _ hm
  have hbp := h.bp _ hm
  obtain ⟨g, c, hv, hc, hgL, c0, c1⟩ := h.cell hi
  rw [← ht] at hput hbp c0 c1 hself ⊢
  obtain ⟨id, pv, ps⟩ := t
  simp only at hput hbp c0 c1 ⊢
  subst hv
  obtain ⟨nv0, hnv0⟩ : ∃ k, k = R.vols.length := ⟨_, rfl⟩
  have hn1 : nv0 ≤ 1000000 := by have := h.bv; omega
  have hblk := h.blk
  rw [← hnv0] at hblk hi hc
  have i1 : (at' : Int) < (nv0 : Int) := by omega
  obtain ⟨pa, pc, hpv, _, _⟩ := ownRow_slice hput.1
  obtain ⟨kn, hkn⟩ : ∃ k, k = ps.length := ⟨_, rfl⟩
  rw [← hkn] at hpv
  have hk1 : kn ≤ B := by omega
  have m0 := cell_of_block hblk 0
  have m1 := cell_of_block hblk 1
  have m2 := cell_of_block hblk 2
  simp only [List.getElem?_toArray, List.getElem?_cons_zero, List.getElem?_cons_succ] at m0 m1 m2
  have hpw : p < w.heap.size := heap_lt hblk
  have hgw : g < w.heap.size := World.block_lt_of_cell? w ⟨g, at' * 2, none⟩ c0
  have HB1 := Lib.hid hB
  have hC := (Chg.refl [] w).alloc (.cells #[.int .u8 (code : Int), .int .u64 (vol : Int), .int .u64 (pl : Int), .int .u64 (n : Int), dv] 26)
  have hb := new_block w (.cells #[.int .u8 (code : Int), .int .u64 (vol : Int), .int .u64 (pl : Int), .int .u64 (n : Int), dv] 26)
  have H := Lib.hid h
  have HPU := Lib.hid hput
  have HID := Lib.hid (And.intro hnv0 (And.intro hself hkn))
  have HBD := Lib.hid (And.intro hpl hn)
  have HPC := Lib.hid (r24Places_at (id := id) (hput.chg hC (by simp)) (by omega))
  subst hpv
  clear h hm hput hbp hself ht hnv0 hkn hblk hpl hn hB
  go_enter Try.func41, Try.ntmps41
  go_upto_region 1 with fail
  have m0 := (hC.cell (p := ⟨p, 0, none⟩) hpw (by simp)).trans m0
  have m2 := (hC.cell (p := ⟨p, 2, none⟩) hpw (by simp)).trans m2
  have c0 := (hC.cell (p := ⟨g, at' * 2, none⟩) hgw (by simp)).trans c0
  have c1 := (hC.cell (p := ⟨g, at' * 2 + 1, none⟩) hgw (by simp)).trans c1
  have HC := Lib.hid hC
  have HBK := Lib.hid hb
  clear hC hb
  generalize w.alloc (.cells #[.int .u8 (code : Int), .int .u64 (vol : Int), .int .u64 (pl : Int), .int .u64 (n : Int), dv] 26) = W at *
  obtain ⟨b, hbe⟩ : ∃ b, b = w.heap.size := ⟨_, rfl⟩
  have HBE := Lib.hid hbe
  rw [← hbe]
  clear hbe
  go_wp2_with fail
  refine HPC.out.mono ?_
  rintro e w2 ⟨v, l, rfl, hPl, hown, hlk, hC2⟩
  obtain ⟨a, cl, hv, hlc, _⟩ := ownRow_slice hown
  obtain ⟨len, hlen⟩ : ∃ k, k = l.length := ⟨_, rfl⟩
  rw [← hlen] at hv hown hlk
  subst hv
  have hlk1 : len ≤ B := by have := HID.out.2.2; omega
  have HPL := Lib.hid hPl
  have HOW := Lib.hid hown
  have HLE := Lib.hid hlen
  have HC2 := Lib.hid (HC.out.trans hC2)
  have HWW := Lib.hid (HC.out.size)
  have hbk2 : w2.heap[b]? = some (.cells #[.int .u8 (code : Int), .int .u64 (vol : Int), .int .u64 (pl : Int), .int .u64 (n : Int), dv] 26 (0, 0)) := by
    have := (hC2.block _ (heap_lt HBK.out) (by simp)).trans HBK.out
    rw [← HBE.out] at this
    exact this
  have HBK2 := Lib.hid hbk2
  have hB6 : len ≤ 1000000 := by have := HB1.out; omega
  clear hPl hown hlen hlc hC2 hbk2 m0 m1 m2 c0 c1 hlk HPC
  go_wp2_with fail
  go_loopg [7, 9] len (fun gg s7 s9 wr => ∃ (i cnt : Nat), gg = len - i ∧ i ≤ len ∧ cnt ≤ i ∧ s9 = .int .i64 (i : Int) ∧ s7 = .int .i64 (cnt : Int) ∧ Hid (cnt = (selT pl n (l.take i)).length ∧ TrimAt L B w p at' R ps id (selT pl n (l.take i)) wr ∧ (∀ x, x < w2.heap.size → w.heap.size ≤ x → wr.heap[x]? = w2.heap[x]?) ∧ w2.heap.size ≤ wr.heap.size))
  case atStart =>
    have hs : TrimAt L B w p at' R ps id (selT pl n (l.take 0)) w2 := by
      refine ⟨.slice (some ⟨g, 0, none⟩) R.vols.length c, .slice pa kn pc, L, ?_, fun b hb => .inl hb, (Chg.refl [p] w).then HC2.out (by simp)⟩
      show RefAt L (B + 0) w2 p _ { R with vols := R.vols.set at' (id, .slice pa kn pc, ps ++ []) }
      rw [List.append_nil, HID.out.2.1]
      exact H.out.chg HC2.out (by simp)
    exact ⟨0, 0, rfl, Nat.zero_le _, Nat.le_refl _, by go_num, by go_num, ⟨rfl, hs, fun _ _ _ => rfl, Nat.le_refl _⟩⟩
  case round =>
    obtain ⟨i, cnt, hgg, hin, hcn, rfl, rfl, hX⟩ := hrel
    obtain ⟨hcnt, hTr, hsame, hsz⟩ := hX.out
    have HGG := Lib.hid hgg
    have HCN := Lib.hid hcnt
    have HTR := Lib.hid hTr
    have HSA := Lib.hid hsame
    have HSZ := Lib.hid hsz
    have hbw : wr.heap[b]? = some (.cells #[.int .u8 (code : Int), .int .u64 (vol : Int), .int .u64 (pl : Int), .int .u64 (n : Int), dv] 26 (0, 0)) := (hsame b (heap_lt HBK2.out) (by rw [HBE.out]; exact Nat.le_refl _)).trans HBK2.out
    have x0 := cell_of_block hbw 0
    have x1 := cell_of_block hbw 1
    have x2 := cell_of_block hbw 2
    have x3 := cell_of_block hbw 3
    have x4 := cell_of_block hbw 4
    simp only [List.getElem?_toArray, List.getElem?_cons_zero, List.getElem?_cons_succ] at x0 x1 x2 x3 x4
    clear hgg hcnt hTr hsame hsz hX hbw
    by_cases hil : i < len
    · have k1 : (i : Int) < (len : Int) := by omega
      have hrow := ownRow_block (w' := wr) HOW.out (fun g e => HSA.out g ((HOW.out.lt g e).2) (Nat.le_trans HWW.out ((HOW.out.lt g e).1)))
      obtain ⟨ga, ha, hc⟩ : ∃ ga, a = some ⟨ga, 0, none⟩ ∧ wr.cell? ⟨ga, i, none⟩ = some (.int .u64 ((l[i]! : Nat) : Int)) := by
        rcases hrow.2 with ⟨e, e2⟩ | ⟨g, cp, cur, e, hb, hg, r1, r2, r3, r4⟩
        · omega
        · injection e with e _ _
          refine ⟨g, e, ?_⟩
          rw [cell_of_block hg, ← uVs_get l i (by have := HLE.out; omega), ← r4, List.getElem?_take_of_lt (by omega), Array.getElem?_toList]
      subst ha
      have hst := selT_take pl n l i (by rw [← HLE.out]; exact hil)
      obtain ⟨y, hy⟩ : ∃ y, y = l[i]! := ⟨_, rfl⟩
      rw [← hy] at hc hst
      have HST := Lib.hid hst
      have hy64 : y < 18446744073709551616 := by
        have hm : y ∈ l := by rw [hy, getElem!_pos l i (by rw [← HLE.out]; exact hil)]; exact List.getElem_mem _
        obtain ⟨⟨j, hj, e⟩, _⟩ := (HPL.out.2 y).1 hm
        rw [← e, getElem!_pos ps j hj]
        exact HPU.out.2.2 _ (List.getElem_mem _)
      have HY := Lib.hid hy64
      clear hrow hst hy hy64
      by_cases h1 : pl ≤ y
      · obtain ⟨z, hz⟩ : ∃ z, z = y - pl := ⟨_, rfl⟩
        have ew : IntKind.u64.wrap ((y : Int) - (pl : Int)) = (z : Int) := by rw [show (y : Int) - (pl : Int) = (z : Int) by omega]; exact IntWalk.u64_in _ (by have := HY.out; omega)
        have j1 : (pl : Int) ≤ (y : Int) := by omega
        have e1 : decide ((pl : Int) ≤ (y : Int)) = true := by simp; omega
        have f1 : decide (pl ≤ y) = true := by simp; omega
        by_cases h2 : z < n
        · have j2 : (z : Int) < (n : Int) := by omega
          have e2 : decide ((z : Int) < (n : Int)) = true := by simp; omega
          have f2 : decide (z < n) = true := by simp; omega
          have HSE := Lib.hid (HST.out.trans (by rw [if_pos ⟨h1, by omega⟩]) : selT pl n (l.take (i + 1)) = selT pl n (l.take i) ++ [y])
          clear hz
          go_wp2_with fail
          go_quiet (fail)
          obtain ⟨vv', nv, L', hR, hL', hch⟩ := HTR.out
          have cp := r24put_at (qn := y) (qt := ⟨#[]⟩) (i := at') (hR.chg ((Chg.refl [] wr).drewN nq) (by simp)) (by have := HB1.out; have := HCN.out; omega) (by rw [List.length_set, ← HID.out.1]; exact hi) HY.out
          have CP := Lib.hid cp
          have HLL := Lib.hid (And.intro hL' hch)
          have HQ := Lib.hid ((Chg.refl [] wr).drewN nq)
          have hcq := (HQ.out.cell (p := ⟨ga, i, none⟩) (World.block_lt_of_cell? wr ⟨ga, i, none⟩ hc) (by simp)).trans hc
          clear cp hL' hch hR x0 x1 x2 x3 x4 HTR
          go_wp2_with fail
          refine CP.out.mono ?_
          rintro e w3 ⟨rfl, vv3, nv3, L3, hR3, hL3, hc3⟩
          have HN := Lib.hid (TrimAt.more (by rw [← HID.out.1]; exact hi) HLL.out.1 (HLL.out.2.then HQ.out (by simp)) hR3 hL3 hc3)
          have HS3 := Lib.hid hc3
          clear hR3 hL3 hc3 CP
          go_wp2_with fail
          go_roundg (len - (i + 1))
          case measure => have := HGG.out; omega
          case rel =>
            refine ⟨i + 1, cnt + 1, rfl, by omega, by omega, by go_num, by go_num, ⟨?_, ?_, fun x hx hw => ?_, ?_⟩⟩
            · rw [HSE.out, List.length_append, ← HCN.out]; rfl
            · rw [HSE.out]; exact HN.out
            · have hxp : x ≠ p := by have := H.out.heap_p; omega
              exact (HS3.out.block x (Nat.lt_of_lt_of_le hx (Nat.le_trans HSZ.out HQ.out.size)) (by simp [hxp])).trans ((HQ.out.block x (Nat.lt_of_lt_of_le hx HSZ.out) (by simp)).trans (HSA.out x hx hw))
            · exact Nat.le_trans HSZ.out (Nat.le_trans HQ.out.size HS3.out.size)
        · have j2 : ¬ (z : Int) < (n : Int) := by omega
          have e2 : decide ((z : Int) < (n : Int)) = false := by simp; omega
          have f2 : decide (z < n) = false := by simp; omega
          have HSE := Lib.hid (HST.out.trans (by rw [if_neg (by omega)]; exact List.append_nil _) : selT pl n (l.take (i + 1)) = selT pl n (l.take i))
          clear hz
          go_wp2_with fail
          go_quiet (fail)
          have HQ := Lib.hid ((Chg.refl [] wr).drewN nq)
          clear x0 x1 x2 x3 x4 hc
          go_wp2_with fail
          go_roundg (len - (i + 1))
          case measure => have := HGG.out; omega
          case rel =>
            refine ⟨i + 1, cnt, rfl, by omega, by omega, by go_num, rfl, ⟨?_, ?_, fun x hx hw => ?_, ?_⟩⟩
            · rw [HSE.out]; exact HCN.out
            · rw [HSE.out]; exact HTR.out.quiet HQ.out
            · exact (HQ.out.block x (Nat.lt_of_lt_of_le hx HSZ.out) (by simp)).trans (HSA.out x hx hw)
            · exact Nat.le_trans HSZ.out HQ.out.size
      · have j1 : ¬ (pl : Int) ≤ (y : Int) := by omega
        have e1 : decide ((pl : Int) ≤ (y : Int)) = false := by simp; omega
        have f1 : decide (pl ≤ y) = false := by simp; omega
        have HSE := Lib.hid (HST.out.trans (by rw [if_neg (by omega)]; exact List.append_nil _) : selT pl n (l.take (i + 1)) = selT pl n (l.take i))
        go_wp2_with fail
        go_quiet (fail)
        have HQ := Lib.hid ((Chg.refl [] wr).drewN nq)
        clear x0 x1 x2 x3 x4 hc
        go_wp2_with fail
        go_roundg (len - (i + 1))
        case measure => have := HGG.out; omega
        case rel =>
          refine ⟨i + 1, cnt, rfl, by omega, by omega, by go_num, rfl, ⟨?_, ?_, fun x hx hw => ?_, ?_⟩⟩
          · rw [HSE.out]; exact HCN.out
          · rw [HSE.out]; exact HTR.out.quiet HQ.out
          · exact (HQ.out.block x (Nat.lt_of_lt_of_le hx HSZ.out) (by simp)).trans (HSA.out x hx hw)
          · exact Nat.le_trans HSZ.out HQ.out.size
    · obtain rfl : i = len := by omega
      have k1 : ¬ (i : Int) < (i : Int) := by omega
      go_wp2_with fail
      go_ret
      have hf : l.take i = l := by rw [HLE.out, List.take_length]
      have ht := HTR.out
      have hc := HCN.out
      rw [hf] at ht hc
      exact ⟨l, HPL.out, by rw [hc]; rfl, ht⟩

end Go.Proofs.Ytbejcmbdaoakbaa
