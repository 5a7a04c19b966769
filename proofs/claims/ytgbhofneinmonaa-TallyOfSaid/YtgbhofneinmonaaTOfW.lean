/- tally.Of; the reference's Of. -/
import Derived.Test.YtgbhofneinmonaaRef8B
import Derived.Test.YtgbhofneinmonaaRowB
import Derived.Deep.RegionHeld3
namespace Go.Proofs.Ytgbhofneinmonaa
open Go.RowKit
set_option linter.unusedVariables false
set_option linter.unusedSimpArgs false

theorem IsRow.chg {k : IntKind} {w w' : World} {a : Option Addr} {len cap : Nat} {zs : List Int} (h : IsRow k w a len cap zs) (c : Chg [] w w') : IsRow k w' a len cap zs := by
  rcases h with h | ⟨x, hx, h1, h2, h3, h4, h5⟩
  · exact .inl h
  · refine .inr ⟨x, hx, h1, h2, h3, fun i hi => ?_, h5⟩
    have hb := World.block_lt_of_cell? w _ (h4 i hi)
    exact (c.cell hb (by simp)).trans (h4 i hi)

def ofF (zs : List Int) (k i : Nat) : Nat := if i < k then (zs.getD i 0).toNat else 0
def ofK (zs : List Int) (n k : Nat) : Tal := ⟨n, ofF zs k, ofF zs k⟩
def ofT (zs : List Int) (n : Nat) : Tal := ofK zs n n
theorem ofK_zero (zs : List Int) (n : Nat) : ofK zs n 0 = Tal.new n := by
  unfold ofK Tal.new
  have : ofF zs 0 = fun _ => 0 := by funext i; simp [ofF]
  rw [this]
theorem ofF_succ {zs : List Int} {k v : Nat} (h : zs.getD k 0 = (v : Int)) : ofF zs (k + 1) = fun i => if i = k then v else ofF zs k i := by
  funext i
  unfold ofF
  by_cases e : i = k
  · subst e; rw [if_pos (by omega), if_pos rfl, h]; simp
  · rw [if_neg e]
    by_cases e2 : i < k
    · rw [if_pos (by omega), if_pos e2]
    · rw [if_neg (by omega), if_neg e2]
theorem ofF_at (zs : List Int) (k : Nat) : ofF zs k k = 0 := by simp [ofF]
theorem ofF_le {zs : List Int} {k i : Nat} {n : Nat} (h : ∀ j, j < n → 0 ≤ zs.getD j 0 ∧ zs.getD j 0 ≤ 65535) (hi : i < n) : ofF zs k i ≤ 65535 := by
  unfold ofF
  split
  · have := h i hi; omega
  · omega

theorem of_frees {zs : List Int} {n k v : Nat} (hk : k < n) (h : zs.getD k 0 = (v : Int)) : (ofK zs n (k + 1)).frees + (if v = 0 then 0 else 1) = (ofK zs n k).frees := by
  have e := cnt_upd (n := n) (k := k) (p := (ofK zs n k).free) (q := (ofK zs n (k + 1)).free) hk (fun i _ hne => by
    simp only [Tal.free, ofK, ofF_succ h]
    rw [if_neg hne])
  have e1 : (ofK zs n k).free k = true := by simp [Tal.free, ofK, ofF_at]
  have e2 : (ofK zs n (k + 1)).free k = (v == 0) := by simp [Tal.free, ofK, ofF_succ h]
  rw [e1, e2] at e
  show cnt n (ofK zs n (k + 1)).free + _ = cnt n (ofK zs n k).free
  by_cases hv : v = 0
  · simp [hv] at e ⊢; omega
  · simp [hv] at e ⊢; omega
theorem of_waits (zs : List Int) (n k : Nat) : (ofK zs n k).waits = 0 := cnt_zero fun i _ => by
  simp only [Tal.waitB, ofK]
  by_cases q1 : ofF zs k i = 0 <;> simp [q1]

section
variable {w : World} {t bc bk n k v : Nat} {zs : List Int} (h : TallyAt w t bc bk (ofK zs n k)) (hk : k < n) (hv : zs.getD k 0 = (v : Int)) (hb : v ≤ 65535)
include h hk hv hb
omit hk in
theorem of_keep (w' : World) (hc : w'.heap[bc]? = some (.cells (u16s n (ofF zs (k + 1))) 84 (0, 0)))
    (ht : w'.heap[t]? = some (.cells #[.slice (some ⟨bc, 0, none⟩) n n, .map (some bk), .int .i64 ((ofK zs n (k + 1)).frees : Int), .int .i64 0] 42 (0, 0))) (hm : w'.heap[bk]? = w.heap[bk]?) : TallyAt w' t bc bk (ofK zs n (k + 1)) := by
  have hle : ∀ i, i < n → ofF zs (k + 1) i ≤ 65535 := fun i hi => by
    rw [ofF_succ hv]
    show (if i = k then v else ofF zs k i) ≤ 65535
    split
    · exact hb
    · exact h.now i hi
  refine ⟨h.n1, h.n2, hle, hle, ?_, hc, ?_, h.ne⟩
  · rw [of_waits]; exact ht
  · exact (h.map.congr fun i _ => by simp [Tal.keptAt, ofK]).same hm
theorem of_step0 (h0 : v = 0) : TallyAt (w.setCell ⟨bc, k, none⟩ (.int .u16 0)) t bc bk (ofK zs n (k + 1)) := by
  have e := of_frees hk hv
  rw [if_pos h0, Nat.add_zero] at e
  refine of_keep h hv hb _ ?_ ?_ (setCell_other _ _ h.ne2.symm)
  · rw [setCell_block h.cs]
    have := u16s_set (f := ofF zs k) (v := 0) hk
    rw [ofF_succ hv, h0]
    exact congrArg (fun x => some (Obj.cells x 84 (0, 0))) this
  · rw [setCell_other _ _ h.ne, e]
    have := h.top
    rw [of_waits] at this
    exact this
theorem of_step1 (h0 : v ≠ 0) : TallyAt ((w.setCell ⟨bc, k, none⟩ (.int .u16 (v : Int))).setCell ⟨t, 2, none⟩ (.int .i64 (((ofK zs n k).frees : Int) - 1))) t bc bk (ofK zs n (k + 1)) := by
  have e := of_frees hk hv
  rw [if_neg h0] at e
  refine of_keep h hv hb _ ?_ ?_ ?_
  · rw [setCell_other _ _ h.ne.symm, setCell_block h.cs]
    have := u16s_set (f := ofF zs k) (v := v) hk
    rw [ofF_succ hv]
    exact congrArg (fun x => some (Obj.cells x 84 (0, 0))) this
  · have ht : (w.setCell ⟨bc, k, none⟩ (.int .u16 (v : Int))).heap[t]? = _ := (setCell_other _ _ h.ne).trans h.top
    rw [setCell_block ht, of_waits]
    have e3 : ((ofK zs n k).frees : Int) - 1 = ((ofK zs n (k + 1)).frees : Int) := by omega
    rw [e3]
    rfl
  · rw [setCell_other _ _ h.ne1.symm, setCell_other _ _ h.ne2.symm]
end

set_option maxRecDepth 20000 in
set_option maxHeartbeats 2000000 in
theorem tof_at {w : World} {a : Option Addr} {n cap : Nat} {zs : List Int} (hr : IsRow .u16 w a n cap zs) (h1 : 1 ≤ n) (h2 : n ≤ 4096) :
    Calls Try.prog 42 #[.slice a n cap] w fun e w' => ∃ t bc bk, e = .returned (.tuple #[.pointer (some ⟨t, 0, none⟩), .int .i64 0]) ∧ TallyAt w' t bc bk (ofT zs n) ∧ Chg [] w w' ∧ w.heap.size ≤ t ∧ w.heap.size ≤ bc ∧ w.heap.size ≤ bk := by
  obtain ⟨hcap, hm⟩ := hr.cap_le
  unfold maxLen at hm
  have HR := Lib.hid hr
  clear hr
  go_enter Try.func42, Try.ntmps42
  go_wp2_with fail
  refine (tnew_ex n _ h1 h2).mono ?_
  rintro e w1 ⟨t, bc, bk, rfl, hT, hC1, l1, l2, l3⟩
  have L : w.heap.size ≤ t ∧ w.heap.size ≤ bc ∧ w.heap.size ≤ bk := ⟨l1, l2, l3⟩
  have HC1 := Lib.hid hC1
  clear hC1
  rw [← ofK_zero zs] at hT
  go_wp2_with fail
  go_loopw [19] (fun s wr => ∃ k : Nat, k ≤ n ∧ s = .int .i64 (k : Int) ∧ TallyAt wr t bc bk (ofK zs n k) ∧ Chg [] w wr) (fun s _ => n - (intOf s).toNat)
  case atStart => exact ⟨0, Nat.zero_le _, rfl, hT, HC1.out⟩
  case round =>
    obtain ⟨k, hk, rfl, hTk, hCk⟩ := hrel
    by_cases hlk : k < n
    · obtain ⟨b, off, rfl, hbl, hc, hwf⟩ := HR.out.get (i := k) hlk
      have hc2 := (hCk.cell (p := ⟨b, off + k, none⟩) hbl (by simp)).trans hc
      obtain ⟨z0, z1⟩ := bd_u16 hwf
      obtain ⟨v, hv⟩ := Int.eq_ofNat_of_zero_le z0
      rw [hv] at hc2
      have hvb : v ≤ 65535 := by omega
      have c0 := hTk.c0
      have c2 := hTk.c2
      have fz := hTk.fz 2
      have ne := hTk.ne
      have ne' := hTk.ne.symm
      have fc := hTk.cfz k
      have cc := hTk.cc (i := k) hlk
      have fl := hTk.frees_le
      have i0 : (0 : Int) ≤ (k : Int) := by omega
      have i1 : (k : Int) < (n : Int) := by omega
      have HCk := Lib.hid hCk
      have HT := Lib.hid hT
      have Hv := Lib.hid hv
      have HTk := Lib.hid hTk
      clear hT hCk hv hc hwf z0 z1 hTk
      by_cases h0 : v = 0
      · have E := Lib.hid (of_step0 HTk.out hlk Hv.out hvb h0)
        subst h0
        go_wp2_with fail
        go_roundw
        case rel => exact ⟨k + 1, by omega, by go_num, E.out, Chg.setCell HCk.out (.inr (by show w.heap.size ≤ bc; omega)) _⟩
        case measure => simp [intOf]; omega
      · have E := Lib.hid (of_step1 HTk.out hlk Hv.out hvb h0)
        have hp : (0 : Int) < (v : Int) := by omega
        clear h0
        go_wp2_with fail
        go_roundw
        case rel => exact ⟨k + 1, by omega, by go_num, E.out, Chg.setCell (Chg.setCell HCk.out (.inr (by show w.heap.size ≤ bc; omega)) _) (.inr (by show w.heap.size ≤ t; omega)) _⟩
        case measure => simp [intOf]; omega
    · obtain rfl : k = n := by omega
      go_wp2_with fail
      go_ret2
      exact ⟨t, bc, bk, rfl, hTk, hCk, l1, l2, l3⟩

/-! the reference's Of -/
theorem r8new_end2 {w : World} {n : Nat} {o : Obj} :
    (((w.alloc o).alloc (.cells (zrow n (.int .i64 0)) 3)).alloc (.cells (zrow n (.int .i64 0)) 3)).drew.heap[w.heap.size + 1]? = some (.cells (zrow n (.int .i64 0)) 3 (0, 0)) ∧
    (((w.alloc o).alloc (.cells (zrow n (.int .i64 0)) 3)).alloc (.cells (zrow n (.int .i64 0)) 3)).drew.heap[w.heap.size + 1 + 1]? = some (.cells (zrow n (.int .i64 0)) 3 (0, 0)) ∧
    Chg [] w (((w.alloc o).alloc (.cells (zrow n (.int .i64 0)) 3)).alloc (.cells (zrow n (.int .i64 0)) 3)).drew := by
  have x1 := new_block21 (w.alloc o) (.cells (zrow n (.int .i64 0)) 3) (.cells (zrow n (.int .i64 0)) 3)
  have x2 := new_block2 (w.alloc o) (.cells (zrow n (.int .i64 0)) 3) (.cells (zrow n (.int .i64 0)) 3)
  simp only [size_alloc'] at x1 x2
  exact ⟨x1, x2, ((((Chg.refl _ _).alloc _).alloc _).alloc _).drew⟩

set_option maxRecDepth 20000 in
set_option maxHeartbeats 1000000 in
theorem r8new_blk (n : Nat) (w : World) (h1 : 1 ≤ n) (h2 : n ≤ 4096) :
    Calls Try.prog 30 #[.int .i64 (n : Int)] w fun e w' => ∃ g1 g2, e = .returned (.tuple #[.agg #[.slice (some ⟨g1, 0, none⟩) n n, .slice (some ⟨g2, 0, none⟩) n n], .int .i64 0]) ∧ g1 ≠ g2 ∧ w.heap.size ≤ g1 ∧ w.heap.size ≤ g2 ∧
      w'.heap[g1]? = some (.cells (zrow n (.int .i64 0)) 3 (0, 0)) ∧ w'.heap[g2]? = some (.cells (zrow n (.int .i64 0)) 3 (0, 0)) ∧ Chg [] w w' := by
  have hmk := run_make1 (P := Try.prog) 50 3 Try.underlying50 infoInt8 rfl .i64 .i64 n (by omega) (by omega)
  go_enter Try.func30, Try.ntmps30
  go_wp2
  go_region
  · go_wp2
    obtain ⟨q1, q2, q3⟩ := r8new_end2 (w := w) (n := n) (o := .cells #[.slice (some ⟨w.heap.size + 1, 0, none⟩) n n, .slice (some ⟨w.heap.size + 1 + 1, 0, none⟩) n n] 52)
    exact bodyPost_ret (v := .tuple #[.agg #[.slice (some ⟨w.heap.size + 1, 0, none⟩) n n, .slice (some ⟨w.heap.size + 1 + 1, 0, none⟩) n n], .int .i64 0]) (by simp [results, Try.results30, go_sem]) rfl
      ⟨_, _, rfl, by omega, by omega, by omega, q1, q2, q3⟩
  · go_wp2
    obtain ⟨q1, q2, q3⟩ := r8new_end2 (w := w) (n := n) (o := .cells #[.slice (some ⟨w.heap.size + 1 + 1, 0, none⟩) n n, .slice (some ⟨w.heap.size + 1, 0, none⟩) n n] 52)
    exact bodyPost_ret (v := .tuple #[.agg #[.slice (some ⟨w.heap.size + 1 + 1, 0, none⟩) n n, .slice (some ⟨w.heap.size + 1, 0, none⟩) n n], .int .i64 0]) (by simp [results, Try.results30, go_sem]) rfl
      ⟨_, _, rfl, by omega, by omega, by omega, q2, q1, q3⟩

/-- A block of n numbers. -/
def i64s (n : Nat) (f : Nat → Nat) : Array Value := Array.ofFn (n := n) fun i => .int .i64 ((f i : Nat) : Int)
theorem i64s_get {n : Nat} {f : Nat → Nat} {i : Nat} (h : i < n) : (i64s n f)[i]? = some (.int .i64 ((f i : Nat) : Int)) := by
  simp [i64s, h]
theorem i64s_set {n : Nat} {f : Nat → Nat} {i v : Nat} (h : i < n) : (i64s n f).setIfInBounds i (.int .i64 (v : Int)) = i64s n (fun j => if j = i then v else f j) := by
  apply Array.ext_getElem?
  intro j
  by_cases hj : j < n
  · rw [i64s_get hj, Array.getElem?_setIfInBounds]
    by_cases e : j = i
    · subst e; simp [i64s, h]
    · rw [if_neg (fun q => e q.symm), i64s_get hj]; simp [e]
  · simp [i64s, hj]
theorem zrow_i64s (n : Nat) : zrow n (.int .i64 0) = i64s n (fun _ => 0) := by
  apply Array.ext
  · simp [zrow, i64s]
  · intro i h1 h2
    simp [zrow, i64s]
theorem RN_of {A : List Nat} {w : World} {g n cap : Nat} {f : Nat → Nat} (h : w.heap[g]? = some (.cells (i64s n f) 3 (0, 0))) (hA : g ∉ A) (h1 : n ≤ cap) (h2 : cap ≤ maxLen) : RN A w (.slice (some ⟨g, 0, none⟩) n cap) n f :=
  ⟨g, cap, rfl, h1, h2, heap_lt h, hA, fun i hi => by rw [cell_of_block h, i64s_get hi]⟩

theorem keep1 {w : World} {b o B i : Nat} {x v : Value} (h : w.cell? ⟨b, o, none⟩ = some v) (hb : b ≠ B) : (w.setCell ⟨B, i, none⟩ x).cell? ⟨b, o, none⟩ = some v := by
  rw [World.cell?_setCell_other _ _ _ _ (by simp [hb])]
  exact h
theorem keep1d {w : World} {b o B i : Nat} {x v : Value} (h : w.cell? ⟨b, o, none⟩ = some v) (hb : b ≠ B) : (w.setCell ⟨B, i, none⟩ x).drew.cell? ⟨b, o, none⟩ = some v := keep1 h hb
theorem keep2d {w : World} {b o B i B' i' : Nat} {x x' v : Value} (h : w.cell? ⟨b, o, none⟩ = some v) (hb : b ≠ B) (hb' : b ≠ B') : ((w.setCell ⟨B, i, none⟩ x).setCell ⟨B', i', none⟩ x').drew.cell? ⟨b, o, none⟩ = some v := keep1 (keep1 h hb) hb'

set_option maxRecDepth 20000 in
set_option maxHeartbeats 2000000 in
theorem r8of_at {w : World} {a : Option Addr} {n cap : Nat} {zs : List Int} (hr : IsRow .u16 w a n cap zs) (A : List Nat) (hA : ∀ k, k ∈ A → k < w.heap.size) (h1 : 1 ≤ n) (h2 : n ≤ 4096) :
    Calls Try.prog 43 #[.slice a n cap] w fun e w' => ∃ v1 v2, e = .returned (.tuple #[.agg #[v1, v2], .int .i64 0]) ∧ RefT A w' v1 v2 (ofT zs n) ∧ Chg [] w w' := by
  obtain ⟨hcap, hm⟩ := hr.cap_le
  unfold maxLen at hm
  have HR := Lib.hid hr
  clear hr
  go_enter Try.func43, Try.ntmps43
  go_wp2_with fail
  refine (r8new_blk n _ h1 h2).mono ?_
  rintro e w1 ⟨g1, g2, rfl, hne, l1, l2, x1, x2, hC1⟩
  simp only [size_alloc'] at l1 l2
  have hC := ((Chg.refl [] w).alloc (.cells #[.slice none 0 0, .slice none 0 0] 52)).trans hC1
  have hR0 := (hC1.block w.heap.size (by simp) (by simp)).trans (new_block w (.cells #[.slice none 0 0, .slice none 0 0] 52))
  have s1 := hC1.size
  simp only [size_alloc'] at s1
  have HX1 := Lib.hid x1
  have HX2 := Lib.hid x2
  have HR0 := Lib.hid hR0
  have HC := Lib.hid hC
  clear x1 x2 hR0 hC hC1
  have HB := Lib.hid (new_block w1 (.cells #[.slice (some ⟨g1, 0, none⟩) n n, .slice (some ⟨g2, 0, none⟩) n n] 52))
  have HCB := Lib.hid (HC.out.alloc (.cells #[.slice (some ⟨g1, 0, none⟩) n n, .slice (some ⟨g2, 0, none⟩) n n] 52))
  have H1 := Lib.hid ((Below.heap_alloc w1 (.cells #[.slice (some ⟨g1, 0, none⟩) n n, .slice (some ⟨g2, 0, none⟩) n n] 52) g1 (heap_lt HX1.out)).trans HX1.out)
  have H2 := Lib.hid ((Below.heap_alloc w1 (.cells #[.slice (some ⟨g1, 0, none⟩) n n, .slice (some ⟨g2, 0, none⟩) n n] 52) g2 (heap_lt HX2.out)).trans HX2.out)
  have H0 := Lib.hid ((Below.heap_alloc w1 (.cells #[.slice (some ⟨g1, 0, none⟩) n n, .slice (some ⟨g2, 0, none⟩) n n] 52) w.heap.size (heap_lt HR0.out)).trans HR0.out)
  have b1 := heap_lt HX1.out
  have b2 := heap_lt HX2.out
  go_wp2_with fail
  generalize w1.alloc (.cells #[.slice (some ⟨g1, 0, none⟩) n n, .slice (some ⟨g2, 0, none⟩) n n] 52) = W at *
  generalize w1.heap.size = B at *
  rw [zrow_i64s] at H1 H2
  have hz : ofF zs 0 = fun _ => 0 := by funext i; simp [ofF]
  rw [← hz] at H1 H2
  clear hz HX1 HX2 HR0 HC
  go_loopw [6] (fun s wr => ∃ k : Nat, k ≤ n ∧ s = .int .i64 (k : Int) ∧ wr.heap[g1]? = some (.cells (i64s n (ofF zs k)) 3 (0, 0)) ∧ wr.heap[g2]? = some (.cells (i64s n (ofF zs k)) 3 (0, 0)) ∧
    wr.heap[B]? = some (.cells #[.slice (some ⟨g1, 0, none⟩) n n, .slice (some ⟨g2, 0, none⟩) n n] 52 (0, 0)) ∧ wr.heap[w.heap.size]? = some (.cells #[.slice none 0 0, .slice none 0 0] 52 (0, 0)) ∧ Chg [] w wr) (fun s _ => n - (intOf s).toNat)
  case atStart => exact ⟨0, Nat.zero_le _, rfl, H1.out, H2.out, HB.out, H0.out, HCB.out⟩
  case round =>
    obtain ⟨k, hk, rfl, h1', h2', hB, h0', hCk⟩ := hrel
    have HCk := Lib.hid hCk
    have K1 := Lib.hid h1'
    have K2 := Lib.hid h2'
    have KB := Lib.hid hB
    have K0 := Lib.hid h0'
    have y0 := cell_of_block hB 0
    have y1 := cell_of_block hB 1
    have u0 := cell_of_block h0' 0
    have u1 := cell_of_block h0' 1
    have v0 := frozen_of_block h0' 0
    have v1 := frozen_of_block h0' 1
    simp only [List.getElem?_toArray, List.getElem?_cons_zero, List.getElem?_cons_succ] at y0 y1 u0 u1
    clear h1' h2' hB h0' H1 H2 HB H0 HCB
    by_cases hlk : k < n
    · obtain ⟨b, off, rfl, hbl, hc, hwf⟩ := HR.out.get (i := k) hlk
      have hc2 := (hCk.cell (p := ⟨b, off + k, none⟩) hbl (by simp)).trans hc
      obtain ⟨z0, z1⟩ := bd_u16 hwf
      obtain ⟨v, hv⟩ := Int.eq_ofNat_of_zero_le z0
      rw [hv] at hc2
      have hvb : v ≤ 65535 := by omega
      have e1 := (cell_of_block K1.out k).trans (i64s_get hlk)
      have e2 := (cell_of_block K2.out k).trans (i64s_get hlk)
      have f1 := frozen_of_block K1.out k
      have f2 := frozen_of_block K2.out k
      have i0 : (0 : Int) ≤ (k : Int) := by omega
      have i1 : (k : Int) < (n : Int) := by omega
      have ne2 := hne.symm
      have hwr : IntKind.i64.wrap (v : Int) = (v : Int) := IntWalk.i64_in _ (by omega)
      have Hv := Lib.hid hv
      clear hCk hv hc hwf z0 z1
      go_wp2_with fail
      go_region_held3 (fun w' => w'.cell? ⟨B, 0, none⟩ = some (.slice (some ⟨g1, 0, none⟩) n n) ∧ w'.cell? ⟨B, 1, none⟩ = some (.slice (some ⟨g2, 0, none⟩) n n) ∧ w'.cell? ⟨b, off + k, none⟩ = some (.int .u16 (v : Int)))
        (first | exact ⟨keep1d y0 (by omega), keep1d y1 (by omega), keep1d hc2 (by omega)⟩ | exact ⟨keep2d y0 (by omega) (by omega), keep2d y1 (by omega) (by omega), keep2d hc2 (by omega) (by omega)⟩ | go_keep) (fail)
      go_wp2_with fail
      go_roundw
      case rel =>
        have e : i64s n (ofF zs (k + 1)) = (i64s n (ofF zs k)).setIfInBounds k (.int .i64 (v : Int)) := by rw [i64s_set hlk, ofF_succ Hv.out]
        have hc3 : Chg [] w ((wr.setCell ⟨g1, k, none⟩ (.int .i64 (v : Int))).setCell ⟨g2, k, none⟩ (.int .i64 (v : Int))) := (HCk.out.setCell (.inr (by show w.heap.size ≤ g1; omega)) _).setCell (.inr (by show w.heap.size ≤ g2; omega)) _
        refine ⟨k + 1, by omega, by go_num, ?_, ?_, ?_, ?_, hc3.drew⟩
        · show ((wr.setCell ⟨g1, k, none⟩ (.int .i64 (v : Int))).setCell ⟨g2, k, none⟩ (.int .i64 (v : Int))).heap[g1]? = _
          rw [setCell_other _ _ hne, setCell_block K1.out, e]
        · show ((wr.setCell ⟨g1, k, none⟩ (.int .i64 (v : Int))).setCell ⟨g2, k, none⟩ (.int .i64 (v : Int))).heap[g2]? = _
          rw [setCell_block ((setCell_other _ _ hne.symm).trans K2.out), e]
        · show ((wr.setCell ⟨g1, k, none⟩ (.int .i64 (v : Int))).setCell ⟨g2, k, none⟩ (.int .i64 (v : Int))).heap[B]? = _
          rw [setCell_other _ _ (by omega), setCell_other _ _ (by omega)]; exact KB.out
        · show ((wr.setCell ⟨g1, k, none⟩ (.int .i64 (v : Int))).setCell ⟨g2, k, none⟩ (.int .i64 (v : Int))).heap[w.heap.size]? = _
          rw [setCell_other _ _ (by omega), setCell_other _ _ (by omega)]; exact K0.out
      case measure => simp [intOf]; omega
    · obtain rfl : k = n := by omega
      go_wp2_with fail
      have hc2 : Chg [] w ((wr.setCell ⟨w.heap.size, 0, none⟩ (.slice (some ⟨g1, 0, none⟩) k k)).setCell ⟨w.heap.size, 1, none⟩ (.slice (some ⟨g2, 0, none⟩) k k)) := (hCk.setCell (.inr (Nat.le_refl _)) _).setCell (.inr (Nat.le_refl _)) _
      have r1 : ((wr.setCell ⟨w.heap.size, 0, none⟩ (.slice (some ⟨g1, 0, none⟩) k k)).setCell ⟨w.heap.size, 1, none⟩ (.slice (some ⟨g2, 0, none⟩) k k)).heap[g1]? = some (.cells (i64s k (ofF zs k)) 3 (0, 0)) := by
        rw [setCell_other _ _ (by omega), setCell_other _ _ (by omega)]; exact K1.out
      have r2 : ((wr.setCell ⟨w.heap.size, 0, none⟩ (.slice (some ⟨g1, 0, none⟩) k k)).setCell ⟨w.heap.size, 1, none⟩ (.slice (some ⟨g2, 0, none⟩) k k)).heap[g2]? = some (.cells (i64s k (ofF zs k)) 3 (0, 0)) := by
        rw [setCell_other _ _ (by omega), setCell_other _ _ (by omega)]; exact K2.out
      have hle : ∀ i, i < k → ofF zs k i ≤ 65535 := fun i hi => by
        obtain ⟨_, _, _, _, _, hwf⟩ := HR.out.get (i := i) hi
        have := bd_u16 hwf
        unfold ofF
        rw [if_pos hi]
        omega
      exact bodyPost_ret (v := .tuple #[.agg #[.slice (some ⟨g1, 0, none⟩) k k, .slice (some ⟨g2, 0, none⟩) k k], .int .i64 0]) (by simp [results, Try.results43, go_sem, u0, u1]) rfl
        ⟨_, _, rfl, ⟨h1, h2, hle, hle, RN_of r1 (fun h => by have := hA _ h; omega) (Nat.le_refl _) (by unfold maxLen; omega), RN_of r2 (fun h => by have := hA _ h; omega) (Nat.le_refl _) (by unfold maxLen; omega)⟩, hc2⟩

set_option maxHeartbeats 1000000 in
theorem tof_bad {w : World} {a : Option Addr} {n cap : Nat} (h : n < 1 ∨ 4096 < n) :
    Calls Try.prog 42 #[.slice a n cap] w fun e w' => e = .returned (.tuple #[.pointer none, .int .i64 2]) ∧ w = w' := by
  have H : Hid ((n : Int) < 1 ∨ 4096 < (n : Int)) := Lib.hid (by omega)
  clear h
  go_enter Try.func42, Try.ntmps42
  go_wp2_with fail
  refine (tnew_bad n _ H.out).mono ?_
  rintro e w' ⟨rfl, rfl⟩
  go_wp2_with fail
  go_ret2
  exact ⟨rfl, rfl⟩
set_option maxRecDepth 20000 in
set_option maxHeartbeats 1000000 in
theorem r8of_bad {w : World} {a : Option Addr} {n cap : Nat} (h : n < 1 ∨ 4096 < n) :
    Calls Try.prog 43 #[.slice a n cap] w fun e w' => e = .returned (.tuple #[.agg #[.slice none 0 0, .slice none 0 0], .int .i64 2]) ∧ Chg [] w w' := by
  have H : Hid ((n : Int) < 1 ∨ 4096 < (n : Int)) := Lib.hid (by omega)
  clear h
  go_enter Try.func43, Try.ntmps43
  go_wp2_with fail
  refine (r8new_bad n _ H.out).mono ?_
  rintro e w1 ⟨rfl, hC1⟩
  have hC := ((Chg.refl [] w).alloc (.cells #[.slice none 0 0, .slice none 0 0] 52)).trans hC1
  have hR0 := (hC1.block w.heap.size (by simp) (by simp)).trans (new_block w (.cells #[.slice none 0 0, .slice none 0 0] 52))
  have hR := (Below.heap_alloc w1 (.cells #[.slice none 0 0, .slice none 0 0] 52) w.heap.size (heap_lt hR0)).trans hR0
  have hCB := hC.alloc (.cells #[.slice none 0 0, .slice none 0 0] 52)
  have y := new_block w1 (.cells #[.slice none 0 0, .slice none 0 0] 52)
  have y0 := cell_of_block y 0
  have y1 := cell_of_block y 1
  have u0 := cell_of_block hR 0
  have u1 := cell_of_block hR 1
  have v0 := frozen_of_block hR 0
  have v1 := frozen_of_block hR 1
  simp only [List.getElem?_toArray, List.getElem?_cons_zero, List.getElem?_cons_succ] at y0 y1 u0 u1
  have HCB := Lib.hid hCB
  clear hC1 hC hR0 hR y hCB
  go_wp2_with fail
  generalize w1.alloc (.cells #[.slice none 0 0, .slice none 0 0] 52) = W at *
  generalize w1.heap.size = B at *
  go_loop [6] (fun s => s = .int .i64 0) (fun _ => 0)
  case atStart => rfl
  case round =>
    subst hrel
    go_wp2_with fail
    exact bodyPost_ret (v := .tuple #[.agg #[.slice none 0 0, .slice none 0 0], .int .i64 2]) (by simp [results, Try.results43, go_sem, u0, u1]) rfl
      ⟨rfl, (HCB.out.setCell (.inr (Nat.le_refl _)) _).setCell (.inr (Nat.le_refl _)) _⟩

end Go.Proofs.Ytgbhofneinmonaa
