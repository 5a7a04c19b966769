/- Package disk: what is read of a disk (or of a copy): Len, Read, Cached, Copy; slices.Clone of bytes. · Package disk: Cached and Copy of a disk on which nothing waits; slices.Clone of blocks. (Printed by mkdsk6.py.) · Package index: what a page of numbers is; right, Encode. -/
import Derived.Test.YtkhcaclndepgbaaGreatZr06
import Derived.Test.YtkhcaclndepgbaaGreatZr02
set_option linter.unusedVariables false
set_option linter.unusedSimpArgs false
set_option maxRecDepth 100000
set_option maxHeartbeats 20000000
namespace Go.Proofs.YtkhcaclndepgbaaGreat
open Go.RowKit
theorem laid_all {V : Nat → Value} {f : Nat → Nat} : fnRow 128 (laid V (fun i => .int .u8 (f i : Int)) 0 128) = u8s 128 f := by
 apply Array.ext_getElem?
 intro i
 by_cases hi : i < 128
 ·rw [fnRow_get hi, u8s_get hi]
  unfold laid
  rw [if_pos (by omega), Nat.sub_zero]
 ·rw [Array.getElem?_eq_none (by rw [fnRow_size]; omega), Array.getElem?_eq_none (by simp [u8s]; omega)]
structure DiskRd (w : World) (p bb cap : Nat) (wv : Value) (D : Dk) : Prop where
 n1 : 1 ≤ D.n
 n2 : D.n ≤ 4096
 le : ∀ b, b < D.n → ∀ i, i < 128 → D.data b i ≤ 255
 cp : D.n ≤ cap ∧ cap ≤ 9223372036854775807
 top : w.heap[p]? = some (.cells #[.slice (some ⟨bb, 0, none⟩) D.n cap, wv, .int .i64 (-1), .bool false] 156 (0, 0))
 ty : ∃ cur, w.heap[bb]? = some (.cells cur 169 (0, 0))
 blk : ∀ b, b < D.n → ∀ i, i < 128 → w.cell? ⟨bb, b * 128 + i, none⟩ = some (.int .u8 (D.data b i : Int))
 wts : w.ownsRow 0 171 129 wv D.waits.length (wrCells D.waits)
 wle : ∀ x, x ∈ D.waits → x.1 < D.n ∧ ∀ i, i < 128 → x.2 i ≤ 255
 wl : D.waits.length ≤ 1000000
theorem DiskAt.rd {w : World} {p bb : Nat} {wv : Value} {D : Dk} (h : DiskAt w p bb wv D) : DiskRd w p bb D.n wv D :=
  { n1 := h.n1, n2 := h.n2, le := h.le, cp := ⟨Nat.le_refl _, by have := h.n2; omega⟩, top := h.top, ty := ⟨_, h.blk⟩, wts := h.wts, wle := h.wle, wl := h.wl,
    blk := fun b hb i hi => by
      rw [cell_of_block h.blk, rowD, u8s_get (by omega)]
      rw [show (b * 128 + i) / 128 = b by omega, show (b * 128 + i) % 128 = i by omega] }
def Dk.rd (D : Dk) (b : Nat) : Nat → Nat := fl D.data D.waits b
section
variable {w w' : World} {p bb cap : Nat} {wv : Value} {D : Dk}
theorem DiskRd.chg {L : List Nat} (h : DiskRd w p bb cap wv D) (c : Chg L w w') (h1 : p ∉ L) (h2 : bb ∉ L) (h3 : ∀ k, wv.ownBlock = some k → k ∉ L) : DiskRd w' p bb cap wv D := by
 obtain ⟨cur, hcur⟩ := h.ty
 exact { h with top := (c.block p (heap_lt h.top) h1).trans h.top, ty := ⟨cur, (c.block bb (heap_lt hcur) h2).trans hcur⟩, blk := fun b hb i hi => (c.cell (p := ⟨bb, b * 128 + i, none⟩) (heap_lt hcur) h2).trans (h.blk b hb i hi), wts := ownRow_chg h.wts c h3 }
theorem DiskRd.lt (h : DiskRd w p bb cap wv D) : p < w.heap.size ∧ bb < w.heap.size := ⟨heap_lt h.top, by obtain ⟨cur, hcur⟩ := h.ty; exact heap_lt hcur⟩
theorem DiskRd.rd_le (h : DiskRd w p bb cap wv D) {b : Nat} (hb : b < D.n) : ∀ i, i < 128 → D.rd b i ≤ 255 := fl_le (d := D.data) _ _ h.le (fun x hx => (h.wle x hx).2) b hb
theorem rdMay_at (h : DiskRd w p bb cap wv D) : Calls Tryz.prog 104 #[.pointer (some ⟨p, 0, none⟩)] w fun e w' => e = .returned (.int .i64 0) ∧ w = w' := by
 have ht := h.top
 have c0 := cell_of_block ht 0
 have c1 := cell_of_block ht 1
 have c2 := cell_of_block ht 2
 have c3 := cell_of_block ht 3
 simp only [List.getElem?_toArray, List.getElem?_cons_zero, List.getElem?_cons_succ] at c0 c1 c2 c3
 have hn := Lib.run_eql_slice_nil (P := Tryz.prog) w 149 169 (some ⟨bb, 0, none⟩) D.n cap 0 0 Tryz.underlying149
 go_enter Tryz.func104, Tryz.ntmps104
 go_wp2_with fail
 go_ret
 exact ⟨rfl, rfl⟩
theorem rdLen_at (h : DiskRd w p bb cap wv D) : Calls Tryz.prog 43 #[.pointer (some ⟨p, 0, none⟩)] w fun e w' => e = .returned (.int .i64 (D.n : Int)) ∧ w = w' := by
 have ht := h.top
 have c0 := cell_of_block ht 0
 have c1 := cell_of_block ht 1
 have c2 := cell_of_block ht 2
 have c3 := cell_of_block ht 3
 simp only [List.getElem?_toArray, List.getElem?_cons_zero, List.getElem?_cons_succ] at c0 c1 c2 c3
 go_enter Tryz.func43, Tryz.ntmps43
 go_wp2_with fail
 go_ret
 exact ⟨rfl, rfl⟩
end
theorem dRead_bad {w : World} {p bb cap : Nat} {wv : Value} {D : Dk} (h : DiskRd w p bb cap wv D) (at' : Int) (ha : at' < 0 ∨ (D.n : Int) ≤ at') :
  Calls Tryz.prog 44 #[.pointer (some ⟨p, 0, none⟩), .int .i64 at'] w fun e w' => e = .returned (.tuple #[.slice none 0 0, .int .i64 2]) ∧ w = w' := by
 have ht := h.top
 have cm := rdMay_at h
 have c0 := cell_of_block ht 0
 have c1 := cell_of_block ht 1
 have c2 := cell_of_block ht 2
 have c3 := cell_of_block ht 3
 simp only [List.getElem?_toArray, List.getElem?_cons_zero, List.getElem?_cons_succ] at c0 c1 c2 c3
 clear h ht
 by_cases h0 : at' < 0
 case' neg => have h1 : (D.n : Int) ≤ at' := by omega
 all_goals
  clear ha
  go_enter Tryz.func44, Tryz.ntmps44
  go_wp2_with fail
  refine cm.mono ?_
  rintro e w' ⟨rfl, rfl⟩
  go_wp2_with fail
  exact bodyPost_ret (v := .tuple #[.slice none 0 0, .int .i64 2]) (by simp [results, Tryz.results44, go_sem]) rfl ⟨rfl, rfl⟩
theorem dRead_at {w : World} {p bb cap at' : Nat} {wv : Value} {D : Dk} (h : DiskRd w p bb cap wv D) (ha : at' < D.n) :
  Calls Tryz.prog 44 #[.pointer (some ⟨p, 0, none⟩), .int .i64 (at' : Int)] w fun e w' => e = .returned (.tuple #[.slice (some ⟨w.heap.size, 0, none⟩) 128 128, .int .i64 0]) ∧ w'.heap[w.heap.size]? = some (.cells (u8s 128 (D.rd at')) 5 (0, 0)) ∧ Chg [] w w' := by
 have ht := h.top
 have cm := rdMay_at h
 have hmk : (Instr.makeSlice 22 (.int .i64 128) (.int .i64 128)).run Tryz.prog w = .ok (.slice (some ⟨w.heap.size, 0, none⟩) 128 128) (w.alloc (.cells (zrow 128 (.int .u8 0)) 5)) := run_make1 (P := Tryz.prog) 22 5 Tryz.underlying22 infoU8 rfl .i64 .i64 128 (by omega) (by omega) w
 rw [zrow_u8s] at hmk
 have b1 : ¬ (at' : Int) < 0 := by omega
 have b2 : (at' : Int) < (D.n : Int) := by omega
 have HH := Lib.hid h
 have c0 := cell_of_block ht 0
 have c1 := cell_of_block ht 1
 have c2 := cell_of_block ht 2
 have c3 := cell_of_block ht 3
 simp only [List.getElem?_toArray, List.getElem?_cons_zero, List.getElem?_cons_succ] at c0 c1 c2 c3
 clear h ht
 go_enter Tryz.func44, Tryz.ntmps44
 go_wp2_with fail
 refine cm.mono ?_
 rintro e w' ⟨rfl, rfl⟩
 clear cm
 go_upto_region 7 with fail
 have hc1 := (Chg.refl [] w).alloc (.cells (u8s 128 (fun _ => 0)) 5)
 have hx := new_block w (.cells (u8s 128 (fun _ => 0)) 5)
 generalize w.alloc (.cells (u8s 128 (fun _ => 0)) 5) = W at *
 have HD := Lib.hid (HH.out.chg hc1 (by simp) (by simp) (by simp))
 have HC := Lib.hid hc1
 have HX := Lib.hid hx
 have ht := HD.out.top
 clear c0 c1 c2 c3 hc1 hx hmk
 have c0 := cell_of_block ht 0
 have c1 := cell_of_block ht 1
 have c2 := cell_of_block ht 2
 have c3 := cell_of_block ht 3
 simp only [List.getElem?_toArray, List.getElem?_cons_zero, List.getElem?_cons_succ] at c0 c1 c2 c3
 have cl := dcLast_at (at' := at') c1 HD.out.wts HD.out.wl
 clear ht
 go_wp2_with fail
 refine cl.mono ?_
 rintro e w2 ⟨rfl, hc2⟩
 have HD2 := Lib.hid (HD.out.chg hc2 (by simp) (by simp) (by simp))
 have HX2 := Lib.hid ((hc2.block _ (heap_lt HX.out) (by simp)).trans HX.out)
 have HC2 := Lib.hid (HC.out.trans hc2)
 clear hc2 cl c0 c1 c2 c3
 have ht := HD2.out.top
 obtain ⟨a, c, hwv, _, _⟩ := ownRow_slice HD2.out.wts
 obtain ⟨n, hn⟩ : ∃ n, n = D.waits.length := ⟨_, rfl⟩
 rw [← hn] at hwv ⊢
 rw [hwv] at ht
 have HWV := Lib.hid hwv
 have HN := Lib.hid hn
 obtain ⟨l1, l2, l3⟩ := lastIx_fl D.waits D.data at' n (by omega)
 rw [hn, List.take_length] at l3
 obtain ⟨ix, hix⟩ : ∃ ix, ix = lastIx D.waits at' n := ⟨_, rfl⟩
 rw [← hn] at l3
 rw [← hix] at l1 l2 l3 ⊢
 have HL3 := Lib.hid l3
 have c0 := cell_of_block ht 0
 have c1 := cell_of_block ht 1
 have c2 := cell_of_block ht 2
 have c3 := cell_of_block ht 3
 simp only [List.getElem?_toArray, List.getElem?_cons_zero, List.getElem?_cons_succ] at c0 c1 c2 c3
 clear ht hwv hn hix l3
 by_cases hi : ix < 0
 ·rw [if_pos hi] at HL3
  have i1 : ¬ (0 : Int) ≤ ix := by omega
  go_wp2_with (refine wpList_copy_fn rfl (.tmp 45) (.tmp 53) 22 22 rfl 5 Tryz.underlying22 (by kernel_rfl) w.heap.size 0 128 128 (some ⟨bb, at' * 128, none⟩) 128 128 rfl rfl 128 (fun _ => .int .u8 0) 5 HX2.out 128 (by decide) (fun i => .int .u8 (D.data at' i : Int)) (fun _ => ⟨bb, at' * 128, rfl, fun j hj => HD2.out.blk at' ha j hj⟩) (fun j _ => rfl) (by omega) ?_; intro w3 HF3 HC3; have HC3 := Lib.hid HC3)
  have hf := HF3.out
  rw [laid_all] at hf
  refine bodyPost_ret (v := .tuple #[.slice (some ⟨w.heap.size, 0, none⟩) 128 128, .int .i64 0]) (by simp [results, Tryz.results44, go_sem]) rfl ⟨rfl, ?_, HC2.out.then HC3.out (fun q hq => by simp only [List.mem_singleton] at hq; subst hq; exact .inr (Nat.le_refl _))⟩
  rw [hf]
  unfold Dk.rd
  rw [HL3.out]
 ·rw [if_neg hi] at HL3
  obtain ⟨i, rfl⟩ : ∃ i : Nat, ix = (i : Int) := ⟨ix.toNat, by omega⟩
  rw [Int.toNat_natCast] at HL3
  have hin : i < D.waits.length := by have := HN.out; omega
  obtain ⟨g, cg, e1, _, _, _, hgl, hcell⟩ := ownRow_cells HD2.out.wts (by omega)
  rw [HWV.out] at e1
  injection e1 with e1a e1b e1c
  subst e1a
  have HCE : Hid (∀ j, j < 128 → w2.cell? ⟨g, i * 129 + 1 + j, none⟩ = some (.int .u8 ((D.waits[i]!).2 j : Int))) := Lib.hid fun j hj => by
   rw [show i * 129 + 1 + j = i * 129 + (1 + j) by omega]
   refine (hcell _ (by omega)).trans ((wrCells_get D.waits i (1 + j) hin (by omega)).trans ?_)
   unfold wrV
   rw [if_neg (by omega), Nat.add_sub_cancel_left, getElem!_pos D.waits i hin]
  have i1 : (0 : Int) ≤ (i : Int) := by omega
  have i2 : (i : Int) < (n : Int) := by have := HN.out; omega
  clear hcell e1b e1c hi
  go_wp2_with (refine wpList_copy_fn rfl (.tmp 34) (.tmp 43) 22 22 rfl 5 Tryz.underlying22 (by kernel_rfl) w.heap.size 0 128 128 (some ⟨g, i * 129 + 1, none⟩) 128 128 rfl rfl 128 (fun _ => .int .u8 0) 5 HX2.out 128 (by decide) (fun j => .int .u8 ((D.waits[i]!).2 j : Int)) (fun _ => ⟨g, i * 129 + 1, rfl, fun j hj => HCE.out j hj⟩) (fun j _ => rfl) (by omega) ?_; intro w3 HF3 HC3; have HC3 := Lib.hid HC3)
  have hf := HF3.out
  rw [laid_all] at hf
  refine bodyPost_ret (v := .tuple #[.slice (some ⟨w.heap.size, 0, none⟩) 128 128, .int .i64 0]) (by simp [results, Tryz.results44, go_sem]) rfl ⟨rfl, ?_, HC2.out.then HC3.out (fun q hq => by simp only [List.mem_singleton] at hq; subst hq; exact .inr (Nat.le_refl _))⟩
  rw [hf]
  unfold Dk.rd
  rw [HL3.out]
end Go.Proofs.YtkhcaclndepgbaaGreat
namespace Go.Proofs.YtkhcaclndepgbaaGreat
open Go.RowKit
end Go.Proofs.YtkhcaclndepgbaaGreat
namespace Go.Proofs.YtkhcaclndepgbaaGreat
open Go.RowKit
def idxK (n : Nat) (l : Nat → Nat) (k i : Nat) : Nat := if i = 0 then n else if i < 1 + 2 * k then byteAt (l ((i - 1) / 2)) (1 - (i - 1) % 2) else 0
def idxB (n : Nat) (l : Nat → Nat) : Nat → Nat := idxK n l n
def pageI (kind n : Nat) (l : Nat → Nat) : Nat → Nat := sealP kind (1 + 2 * n) (idxB n l)
theorem idxK_zero (n : Nat) (l : Nat → Nat) (h : n < 256) : putF (fun _ => 0) 0 1 n = idxK n l 0 := by
 funext i
 unfold putF idxK byteAt
 by_cases h0 : i = 0
 ·subst h0; simp; omega
 ·rw [if_neg (by omega), if_neg h0, if_neg (by omega)]
theorem idxK_succ (n : Nat) (l : Nat → Nat) (k : Nat) : putF (idxK n l k) (1 + 2 * k) 2 (l k) = idxK n l (k + 1) := by
 funext i
 unfold putF idxK
 by_cases h : 1 + 2 * k ≤ i ∧ i < 1 + 2 * k + 2
 ·rw [if_pos h, if_neg (by omega), if_pos (by omega), show (i - 1) / 2 = k by omega, show 1 + 2 * k + 2 - 1 - i = 1 - (i - 1) % 2 by omega]
 ·rw [if_neg h]
  by_cases h0 : i = 0
  ·rw [if_pos h0, if_pos h0]
  ·rw [if_neg h0, if_neg h0]
   by_cases h1 : i < 1 + 2 * k
   ·rw [if_pos h1, if_pos (by omega)]
   ·rw [if_neg h1, if_neg (by omega)]
theorem byteAt_le (v k : Nat) : byteAt v k ≤ 255 := by unfold byteAt; have := Nat.mod_lt (v / 256 ^ k) (show 0 < 256 by omega); omega
theorem idxK_le {n : Nat} {l : Nat → Nat} {k : Nat} (hn : n ≤ 255) (i : Nat) : idxK n l k i ≤ 255 := by
 unfold idxK
 split
 ·exact hn
 ·split
  ·exact byteAt_le _ _
  ·omega
theorem preP_le {kind n : Nat} {f : Nat → Nat} (hk : kind ≤ 255) (hf : ∀ i, i < n → f i ≤ 255) (i : Nat) : preP kind n f i ≤ 255 := by
 unfold preP
 split
 ·exact hk
 ·split
  ·exact hf _ (by omega)
  ·omega
theorem sealP_lo {kind n : Nat} {f : Nat → Nat} {i : Nat} (h : i < 124) : sealP kind n f i = preP kind n f i := by
 unfold sealP putF
 rw [if_neg (by omega)]
theorem sealP_le {kind n : Nat} {f : Nat → Nat} (hk : kind ≤ 255) (hf : ∀ i, i < n → f i ≤ 255) (i : Nat) : sealP kind n f i ≤ 255 := by
 unfold sealP putF
 split
 ·exact byteAt_le _ _
 ·exact preP_le hk hf i
theorem num_byte (v p : Nat) : ∀ s, s ≤ p → num (fun i => byteAt v (p - 1 - i)) 0 s = v / 256 ^ (p - s) % 256 ^ s
 | 0, _ => by simp [num, Nat.mod_one]
 | s + 1, h => by
  have ih := num_byte v p s (by omega)
  unfold num
  rw [ih, Nat.zero_add]
  show _ * 256 + byteAt v (p - 1 - s) = _
  unfold byteAt
  have e1 : p - s = (p - (s + 1)) + 1 := by omega
  have e2 : p - 1 - s = p - (s + 1) := by omega
  rw [e1, e2, Nat.pow_succ, ← Nat.div_div_eq_div_mul]
  generalize v / 256 ^ (p - (s + 1)) = x
  rw [Nat.pow_succ, Nat.mul_comm (256 ^ s) 256, Nat.mod_mul]
  omega
theorem num_congr {f g : Nat → Nat} {p q : Nat} : ∀ s, (∀ i, i < s → f (p + i) = g (q + i)) → num f p s = num g q s
 | 0, _ => rfl
 | s + 1, h => by
  unfold num
  rw [num_congr s (fun i hi => h i (by omega)), h s (by omega)]
theorem num_putF (f : Nat → Nat) (p s v : Nat) (hv : v < 256 ^ s) : num (putF f p s v) p s = v := by
 have e : num (putF f p s v) p s = num (fun i => byteAt v (s - 1 - i)) 0 s := num_congr s fun i hi => by
  unfold putF
  rw [if_pos (by omega), Nat.zero_add]
  congr 1
  omega
 rw [e, num_byte v s s (Nat.le_refl _), Nat.sub_self]
 simp
 exact Nat.mod_eq_of_lt hv
theorem sumB_congr {f g : Nat → Nat} : ∀ k, (∀ i, i < k → f i = g i) → sumB f k = sumB g k
 | 0, _ => rfl
 | k + 1, h => by unfold sumB; rw [sumB_congr k (fun i hi => h i (by omega)), h k (by omega)]
theorem seal_ok (kind n : Nat) (f : Nat → Nat) : pageOK (sealP kind n f) := by
 unfold pageOK
 rw [sumB_congr (g := preP kind n f) 124 (fun i hi => sealP_lo hi)]
 exact num_putF _ _ _ _ (by have := sumB_lt (preP kind n f) 124; omega)
theorem pageOK_congr {f g : Nat → Nat} (h : ∀ i, i < 128 → f i = g i) (hf : pageOK f) : pageOK g := by
 unfold pageOK at *
 rw [← num_congr (f := f) (g := g) (p := 124) (q := 124) 4 (fun i hi => h _ (by omega)), ← sumB_congr (f := f) (g := g) 124 (fun i hi => h _ (by omega))]
 exact hf
theorem pageI_at (kind n : Nat) (l : Nat → Nat) {i : Nat} (h : i < 123) : pageI kind n l (1 + i) = idxB n l i := by
 unfold pageI
 rw [sealP_lo (by omega)]
 unfold preP
 rw [if_neg (by omega)]
 by_cases h1 : 1 + i < 1 + (1 + 2 * n)
 ·rw [if_pos h1, Nat.add_sub_cancel_left]
 ·rw [if_neg h1]
  unfold idxB idxK
  rw [if_neg (by omega), if_neg (by omega)]
theorem pageI_kind (kind n : Nat) (l : Nat → Nat) : pageI kind n l 0 = kind := by
 unfold pageI
 rw [sealP_lo (by omega)]
 rfl
theorem idxB_num {n : Nat} {l : Nat → Nat} (hl : ∀ i, i < n → l i < 65536) {k : Nat} : num (idxB n l) (1 + 2 * k) 2 = if k < n then l k else 0 := by
 have e : ∀ j, j < 2 → idxB n l (1 + 2 * k + j) = if k < n then byteAt (l k) (1 - j) else 0 := fun j hj => by
  unfold idxB idxK
  rw [if_neg (by omega)]
  by_cases hk : k < n
  ·rw [if_pos (by omega), if_pos hk, show (1 + 2 * k + j - 1) / 2 = k by omega, show (1 + 2 * k + j - 1) % 2 = j by omega]
  ·rw [if_neg (by omega), if_neg hk]
 show (0 * 256 + idxB n l (1 + 2 * k + 0)) * 256 + idxB n l (1 + 2 * k + 1) = _
 rw [e 0 (by omega), e 1 (by omega)]
 by_cases hk : k < n
 ·have := hl k hk
  simp only [if_pos hk, byteAt]
  omega
 ·simp [hk]
theorem ixRight_at {w : World} {kind : Nat} (h : kind = 4 ∨ kind = 5) : Calls Tryz.prog 181 #[.int .u8 (kind : Int)] w fun e w' => e = .returned (.bool true) ∧ w = w' := by
 rcases h with rfl | rfl
 all_goals
  go_enter Tryz.func181, Tryz.ntmps181
  go_wp2_with fail
  go_ret
  exact ⟨rfl, rfl⟩
def U16In (w : World) (a : Option Addr) (n : Nat) (l : Nat → Nat) : Prop := (∀ i, i < n → l i < 65536) ∧ (0 < n → ∃ g o, a = some ⟨g, o, none⟩ ∧ g < w.heap.size ∧ ∀ i, i < n → w.cell? ⟨g, o + i, none⟩ = some (.int .u16 (l i : Int)))
theorem U16In.chg {L : List Nat} {w w' : World} {a : Option Addr} {n : Nat} {l : Nat → Nat} (h : U16In w a n l) (c : Chg L w w') (hL : ∀ x, a = some x → x.block ∉ L) : U16In w' a n l := by
 refine ⟨h.1, fun h0 => ?_⟩
 obtain ⟨g, o, rfl, hg, hc⟩ := h.2 h0
 exact ⟨g, o, rfl, Nat.lt_of_lt_of_le hg c.size, fun i hi => (c.cell (p := ⟨g, o + i, none⟩) hg (hL ⟨g, o, none⟩ rfl)).trans (hc i hi)⟩
theorem ixEncode_at {w : World} {kind n cap : Nat} {a : Option Addr} {l : Nat → Nat} (hk : kind = 4 ∨ kind = 5) (hn : n ≤ 61) (h : U16In w a n l) :
  Calls Tryz.prog 143 #[.int .u8 (kind : Int), .slice a n cap] w fun e w' => ∃ g, e = .returned (.tuple #[.slice (some ⟨g, 0, none⟩) 128 128, .int .i64 0]) ∧ w'.heap[g]? = some (.cells (u8s 128 (pageI kind n l)) 5 (0, 0)) ∧ w.heap.size ≤ g ∧ Chg [] w w' := by
 have cr := ixRight_at (w := w) hk
 have hmk : (Instr.makeSlice 22 (.int .i64 (1 + 2 * (n : Int))) (.int .i64 (1 + 2 * (n : Int)))).run Tryz.prog w = .ok (.slice (some ⟨w.heap.size, 0, none⟩) (1 + 2 * n) (1 + 2 * n)) (w.alloc (.cells (u8s (1 + 2 * n) (fun _ => 0)) 5)) := by
  have := run_make1 (P := Tryz.prog) 22 5 Tryz.underlying22 infoU8 rfl .i64 .i64 (1 + 2 * n) (by omega) (by omega) w
  rw [zrow_u8s] at this
  rw [show (1 + 2 * (n : Int)) = ((1 + 2 * n : Nat) : Int) by omega]
  exact this
 have H := Lib.hid h
 have i1 : (n : Int) ≤ 61 := by omega
 have HK : Hid (kind ≤ 255) := Lib.hid (by omega)
 clear h hk
 go_enter Tryz.func143, Tryz.ntmps143
 go_wp2_with fail
 refine cr.mono ?_
 rintro e w' ⟨rfl, rfl⟩
 clear cr
 go_upto_region 4 with fail
 have hx := new_block w (.cells (u8s (1 + 2 * n) (fun _ => 0)) 5)
 have hc1 := (Chg.refl [] w).alloc (.cells (u8s (1 + 2 * n) (fun _ => 0)) 5)
 generalize w.alloc (.cells (u8s (1 + 2 * n) (fun _ => 0)) 5) = W at *
 obtain ⟨b, hb⟩ : ∃ b, b = w.heap.size := ⟨_, rfl⟩
 rw [← hb] at hx ⊢
 obtain ⟨m, hm⟩ : ∃ m, m = 1 + 2 * n := ⟨_, rfl⟩
 rw [← hm] at hx ⊢
 have HC := Lib.hid hc1
 have HB := Lib.hid hb
 have HM := Lib.hid hm
 have cp := put_at hx 0 m m 0 1 n (by omega) (by omega) (by omega) (by omega) (by omega) (by omega)
 clear hmk hx hc1 hm hb
 go_wp2_with fail
 refine cp.mono ?_
 rintro e w2 ⟨rfl, hb2, hc2⟩
 rw [Nat.zero_add, idxK_zero n l (by omega)] at hb2
 have HC2 := Lib.hid (HC.out.then hc2 (fun q hq => by simp only [List.mem_singleton] at hq; subst hq; exact .inr (by rw [HB.out]; exact Nat.le_refl _)))
 have HB2 := Lib.hid hb2
 clear hb2 hc2 cp HC
 go_wp2_with fail
 go_loopg [28] n (fun gg s wr => ∃ k : Nat, gg = n - k ∧ k ≤ n ∧ s = .int .i64 (k : Int) ∧ Hid (wr.heap[b]? = some (.cells (u8s m (idxK n l k)) 5 (0, 0)) ∧ Chg [] w wr))
 case atStart => exact ⟨0, rfl, Nat.zero_le _, by go_num, Lib.hid ⟨HB2.out, HC2.out⟩⟩
 case round =>
  obtain ⟨k, hgg, hkn, rfl, hX⟩ := hrel
  obtain ⟨wo, rfl⟩ : ∃ wo : World, wo = wr := ⟨_, rfl⟩
  have HX := Lib.hid hX.out
  have HGG := Lib.hid hgg
  clear hX hgg
  by_cases hk : k < n
  case' neg =>
   obtain rfl : k = n := by omega
   have hin : BytesIn wo (some ⟨b, 0, none⟩) m m (idxB k l) := ⟨Nat.le_refl _, by unfold maxLen; have := HM.out; omega, (fun e => by cases e), fun x hx _ => by
    injection hx with hx
    subst hx
    exact ⟨b, 0, rfl, fun i hi => ⟨by rw [Nat.zero_add, cell_of_block HX.out.1, u8s_get hi]; rfl, idxK_le (by omega) i⟩⟩⟩
   have cs := seal_at hin (by have := HM.out; omega) kind HK.out
   go_wp2_with fail
   refine cs.mono ?_
   rintro e w3 ⟨rfl, hb3, hc3⟩
   have HS := Lib.hid (And.intro hb3 hc3)
   clear hb3 hc3 cs hin
   go_wp2_with fail
   refine bodyPost_ret (v := .tuple #[.slice (some ⟨wo.heap.size, 0, none⟩) 128 128, .int .i64 0]) (by simp [results, Tryz.results143, go_sem]) rfl ⟨_, rfl, ?_, HX.out.2.size, HX.out.2.trans HS.out.2⟩
   rw [HS.out.1, HM.out]
   rfl
  case' pos =>
   obtain ⟨g, o, rfl, hgl, hcell⟩ := H.out.2 (by omega)
   have cv := (HX.out.2.cell (p := ⟨g, o + k, none⟩) hgl (by simp)).trans (hcell k hk)
   have hlk := H.out.1 k hk
   have cp := put_at HX.out.1 0 m m (1 + 2 * k) 2 (l k) (by omega) (by have := HM.out; omega) (by omega) (by omega) (by have := HM.out; omega) (by omega)
   rw [Nat.zero_add, idxK_succ, show ((1 + 2 * k : Nat) : Int) = 1 + 2 * (k : Int) from by omega] at cp
   have CP := Lib.hid cp
   have i2 : (k : Int) < (n : Int) := by omega
   obtain ⟨v, hv⟩ : ∃ v, v = l k := ⟨_, rfl⟩
   rw [← hv] at cv CP hlk
   clear hcell cp hgl hv
   go_wp2_with fail
   refine CP.out.mono ?_
   rintro e w3 ⟨rfl, hb3, hc3⟩
   have HS := Lib.hid (And.intro hb3 (HX.out.2.then hc3 (fun q hq => by simp only [List.mem_singleton] at hq; subst hq; exact .inr (by rw [HB.out]; exact Nat.le_refl _))))
   clear hb3 hc3
   go_wp2_with fail
   go_roundg (n - (k + 1))
   case measure => rw [HGG.out]; omega
   case rel => exact ⟨k + 1, rfl, by omega, by go_num, HS⟩
end Go.Proofs.YtkhcaclndepgbaaGreat
