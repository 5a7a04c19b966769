/- Layer 11's statements: done, an operation on a base and on a state that tells of it. -/
import Derived.Test.YtkhcaclndepgbaaGreatZd43
import Derived.Deep.RegionHeld3
import Derived.Deep.MidRow
set_option linter.unusedVariables false
set_option linter.unusedSimpArgs false
set_option maxRecDepth 100000
set_option maxHeartbeats 20000000
namespace Go.Proofs.YtkhcaclndepgbaaGreat
open Go.RowKit
def fromI (B : Int) (n : Nat) : Nat := ((B.tmod n + n).tmod n).toNat
theorem fromI_lt {B : Int} {n : Nat} (hn : 1 ≤ n) : fromI B n < n := by
 have h1 := Int.lt_tmod_of_pos B (show (0 : Int) < n by omega)
 have h2 := Int.tmod_lt_of_pos B (show (0 : Int) < n by omega)
 have h3 := Int.tmod_lt_of_pos (B.tmod n + n) (show (0 : Int) < n by omega)
 have h4 := Int.tmod_nonneg (n : Int) (show 0 ≤ B.tmod n + n by omega)
 unfold fromI
 omega
theorem fromI_eq {B : Int} {n : Nat} (hn : 1 ≤ n) : (B.tmod n + n).tmod n = (fromI B n : Int) := by
 have h1 := Int.lt_tmod_of_pos B (show (0 : Int) < n by omega)
 have h4 := Int.tmod_nonneg (n : Int) (show 0 ≤ B.tmod n + n by omega)
 unfold fromI
 omega
theorem fromI_wrap {B : Int} {n : Nat} (hn : 1 ≤ n) (hn2 : n ≤ 4096) : IntKind.i64.wrap (B.tmod n + n) = B.tmod n + n := by
 have h1 := Int.lt_tmod_of_pos B (show (0 : Int) < n by omega)
 have h2 := Int.tmod_lt_of_pos B (show (0 : Int) < n by omega)
 exact IntWalk.i64_in _ (by omega)
structure DnAt (w W : World) (N mc md sb ob rb d x : Nat) (a : Int) (M : Bm) (S : St) (R : Nat → Value) : Prop where
 s : W.heap[sb]? = some (.cells (fnRow 18 (S.v mc md)) 72 (0, 0))
 o : W.heap[ob]? = some (.cells #[.int .u8 (d : Int), .int .i64 a, .int .u16 (x : Int)] 74 (0, 0))
 r : W.heap[rb]? = some (.cells (fnRow 18 R) 72 (0, 0))
 m : StAt W N mc md S
 lt : w.heap.size ≤ sb ∧ sb < ob ∧ ob < rb ∧ rb < mc ∧ rb < md
 c : Chg M.L w W
theorem DnAt.chg {w W W' : World} {N mc md sb ob rb d x : Nat} {a : Int} {M : Bm} {S : St} {R : Nat → Value} {L : List Nat} (h : DnAt w W N mc md sb ob rb d x a M S R) (c : Chg L W W') (hL : ∀ q, q ∈ L → q ∈ M.L ∨ rb < q ∧ q ≠ mc ∧ q ≠ md) (hM : ∀ q, q ∈ M.L → q < w.heap.size) : DnAt w W' N mc md sb ob rb d x a M S R := by
 have hn : ∀ q, w.heap.size ≤ q → (q ≤ rb ∨ q = mc ∨ q = md) → q ∉ L := fun q hq hq2 hm => by
  rcases hL q hm with g | g
  ·have := hM q g; omega
  ·omega
 have l := h.lt
 exact ⟨(c.block sb (heap_lt h.s) (hn sb (by omega) (by omega))).trans h.s, (c.block ob (heap_lt h.o) (hn ob (by omega) (by omega))).trans h.o, (c.block rb (heap_lt h.r) (hn rb (by omega) (by omega))).trans h.r, h.m.chg c (hn mc (by omega) (by omega)) (hn md (by omega) (by omega)), h.lt,
  h.c.then c (fun q hq => by rcases hL q hq with g | g; exact .inl g; exact .inr (by omega))⟩
structure DnEnd (w : World) (N G K : Nat) (M : Bm) (F : List Nat) (B : Bs) (e : Ending) (w' : World) : Prop where
 out : ∃ mc md S B', e = .returned (.tuple #[.agg (fnRow 18 (S.v mc md)), .bool true]) ∧ StAt w' N mc md S ∧ w.heap.size ≤ mc ∧ w.heap.size ≤ md ∧ BaseAt w' M F B' ∧ Good N G B' ∧ KeptB B B' ∧ StRel N B' S ∧ (∀ b, S.c b ≤ K + 1) ∧ (∀ i, i < 8 → S.m i < 18446744073709551616) ∧ Chg M.L w w'
theorem dn_ret {w W : World} {F : List Nat} {N G K mc md sb ob rb d x : Nat} {a : Int} {M : Bm} {B B' : Bs} {S' : St} {a' : Act} (h : DnAt w W N mc md sb ob rb d x a M S' (S'.v mc md)) (hb : BaseAt W M (sb :: rb :: mc :: md :: F) B') (hg : Good N G B') (kb : KeptB B B') (r : StRel N B' S') (hk : ∀ b, S'.c b ≤ K + 1) (hm : ∀ i, i < 8 → S'.m i < 18446744073709551616)
  (h6 : a'.tmps.getD 6 undef = .pointer (some ⟨rb, 0, none⟩)) (h7 : a'.tmps.getD 7 undef = .bool true) (hd : a'.defers = []) : bodyPost Tryz.prog Tryz.f41 (DnEnd w N G K M F B) .ret a' W := by
 have l := h.lt
 have hr := results_ct (P := Tryz.prog) (fn := Tryz.f41) (tmps := a'.tmps) (a := 6) (b := 7) (by kernel_rfl) h6 (loadRow Tryz.underlying72 rfl infoState (rowCells h.r))
 rw [h7] at hr
 exact bodyPost_ret hr hd ⟨mc, md, S', B', rfl, h.m, by omega, by omega, hb.sub (fun x hx => by simp [hx]), hg, kb, r, hk, hm, h.c⟩
theorem DnAt.stored {w W W' : World} {N mc md sb ob rb d x : Nat} {a : Int} {M : Bm} {S : St} {R U : Nat → Value} (h : DnAt w W N mc md sb ob rb d x a M S R) (hr : W'.heap[rb]? = some (.cells (fnRow 18 (laid R U 0 18)) 72 (0, 0))) (c : Chg [rb] W W') : DnAt w W' N mc md sb ob rb d x a M S U := by
 rw [laid_whole] at hr
 have l := h.lt
 exact ⟨(c.block sb (heap_lt h.s) (by simp; omega)).trans h.s, (c.block ob (heap_lt h.o) (by simp; omega)).trans h.o, hr, h.m.chg c (by simp; omega) (by simp; omega), h.lt, h.c.then c (fun q hq => by simp only [List.mem_singleton] at hq; exact .inr (by omega))⟩
theorem DnAt.to {w W W' : World} {N mc md sb ob rb d x : Nat} {a : Int} {M : Bm} {S S' : St} {R : Nat → Value} (h : DnAt w W N mc md sb ob rb d x a M S R) (c : Chg [mc, md] W W') (hm : StAt W' N mc md S') (hv : ∀ i, S'.v mc md i = S.v mc md i) : DnAt w W' N mc md sb ob rb d x a M S' R := by
 have l := h.lt
 refine ⟨?_, (c.block ob (heap_lt h.o) (by simp; omega)).trans h.o, (c.block rb (heap_lt h.r) (by simp; omega)).trans h.r, hm, l, h.c.then c (fun q hq => by simp only [List.mem_cons, List.not_mem_nil, or_false] at hq; exact .inr (by omega))⟩
 rw [show S'.v mc md = S.v mc md from funext hv]
 exact (c.block sb (heap_lt h.s) (by simp; omega)).trans h.s
theorem St.cV_set {S : St} {k n : Nat} (hn : n ≠ 0) (i : Nat) : (if i = k then some (.int .i64 (n : Int)) else S.cV i) = (S.set k n).cV i := by
 unfold St.cV St.set
 by_cases e : i = k
 ·simp only [if_pos e, if_neg hn]
 ·simp only [if_neg e]
theorem St.cV_del {S : St} {k : Nat} (i : Nat) : (if i = k then none else S.cV i) = (S.set k 0).cV i := by
 unfold St.cV St.set
 by_cases e : i = k
 ·simp only [if_pos e, if_true]
 ·simp only [if_neg e]
theorem St.dV_set {S : St} {k n : Nat} (hn : n ≠ 0) (hk : S.c k ≠ 0) (i : Nat) : S.dV i = (S.set k n).dV i := by
 unfold St.dV St.set
 by_cases e : i = k
 ·subst e; simp only [if_true, if_neg hn, if_neg hk]
 ·simp only [if_neg e]
theorem St.dV_del {S : St} {k : Nat} (i : Nat) : (if i = k then none else S.dV i) = (S.set k 0).dV i := by
 unfold St.dV St.set
 by_cases e : i = k
 ·simp only [if_pos e, if_true]
 ·simp only [if_neg e]
theorem fnRow_put {n i : Nat} {V : Nat → Value} (v : Value) : (fnRow n V).setIfInBounds i v = fnRow n (fun j => if j = i then v else V j) := by
 apply Array.ext_getElem?
 intro j
 by_cases hj : j < n
 ·rw [fnRow_get hj, Array.getElem?_setIfInBounds]
  by_cases e : i = j
  ·subst e; simp [fnRow_size, hj]
  ·rw [if_neg e, fnRow_get hj, if_neg (fun q => e q.symm)]
 ·rw [Array.getElem?_eq_none (by rw [Array.size_setIfInBounds, fnRow_size]; omega), Array.getElem?_eq_none (by rw [fnRow_size]; omega)]
theorem DnAt.mark {w W : World} {N mc md sb ob rb d x i n : Nat} {a : Int} {M : Bm} {S : St} {R : Nat → Value} (h : DnAt w W N mc md sb ob rb d x a M S R) : DnAt w (W.setCell ⟨sb, 10 + i, none⟩ (.int .u64 (n : Int))) N mc md sb ob rb d x a M (S.mark i n) R := by
 have l := h.lt
 have c : Chg [sb] W (W.setCell ⟨sb, 10 + i, none⟩ (.int .u64 (n : Int))) := (Chg.refl [sb] W).setCell (.inl (by simp)) _
 have hm := h.m.chg c (by simp; omega) (by simp; omega)
 refine ⟨?_, (c.block ob (heap_lt h.o) (by simp; omega)).trans h.o, (c.block rb (heap_lt h.r) (by simp; omega)).trans h.r, ⟨hm.c, hm.d, hm.ne⟩, l, h.c.then c (fun q hq => by simp only [List.mem_singleton] at hq; exact .inr (by omega))⟩
 rw [setCell_block h.s, fnRow_put]
 congr 3
 funext j
 show _ = (S.mark i n).v mc md j
 unfold St.v St.mark
 by_cases e : j = 10 + i
 ·subst e
  simp only [if_true, if_neg (show ¬ 10 + i = 0 by omega), if_neg (show ¬ 10 + i = 1 by omega), if_neg (show ¬ 10 + i < 10 by omega), if_pos (show 10 + i - 10 = i by omega)]
 ·simp only [if_neg e]
  by_cases h0 : j = 0
  ·simp only [if_pos h0]
  ·by_cases h1 : j = 1
   ·simp only [if_neg h0, if_pos h1]
   ·by_cases h2 : j < 10
    ·simp only [if_neg h0, if_neg h1, if_pos h2]
    ·simp only [if_neg h0, if_neg h1, if_neg h2, if_neg (show ¬ j - 10 = i by omega)]
theorem DnAt.root {w W : World} {N mc md sb ob rb d x i n : Nat} {a : Int} {M : Bm} {S : St} {R : Nat → Value} (h : DnAt w W N mc md sb ob rb d x a M S R) (hi : i < 8) : DnAt w (W.setCell ⟨sb, 2 + i, none⟩ (.int .i64 (n : Int))) N mc md sb ob rb d x a M (S.root i n) R := by
 have l := h.lt
 have c : Chg [sb] W (W.setCell ⟨sb, 2 + i, none⟩ (.int .i64 (n : Int))) := (Chg.refl [sb] W).setCell (.inl (by simp)) _
 have hm := h.m.chg c (by simp; omega) (by simp; omega)
 refine ⟨?_, (c.block ob (heap_lt h.o) (by simp; omega)).trans h.o, (c.block rb (heap_lt h.r) (by simp; omega)).trans h.r, ⟨hm.c, hm.d, hm.ne⟩, l, h.c.then c (fun q hq => by simp only [List.mem_singleton] at hq; exact .inr (by omega))⟩
 rw [setCell_block h.s, fnRow_put]
 congr 3
 funext j
 show _ = (S.root i n).v mc md j
 unfold St.v St.root
 by_cases e : j = 2 + i
 ·subst e
  simp only [if_true, if_neg (show ¬ 2 + i = 0 by omega), if_neg (show ¬ 2 + i = 1 by omega), if_pos (show 2 + i < 10 by omega), if_pos (show 2 + i - 2 = i by omega)]
 ·simp only [if_neg e]
  by_cases h0 : j = 0
  ·simp only [if_pos h0]
  ·by_cases h1 : j = 1
   ·simp only [if_neg h0, if_pos h1]
   ·by_cases h2 : j < 10
    ·simp only [if_neg h0, if_neg h1, if_pos h2, if_neg (show ¬ j - 2 = i by omega)]
    ·simp only [if_neg h0, if_neg h1, if_neg h2]
theorem St.cV_put {S : St} {k : Nat} {f : Nat → Nat} (i : Nat) : (if i = k then some (.int .i64 1) else S.cV i) = ((S.set k 1).fill k f).cV i := by
 unfold St.cV St.fill St.set
 by_cases e : i = k
 ·simp [e]
 ·simp only [if_neg e]
theorem St.dV_put {S : St} {k : Nat} {f : Nat → Nat} (i : Nat) : (if i = k then some (.agg #[.string (bstr 128 f)]) else S.dV i) = ((S.set k 1).fill k f).dV i := by
 unfold St.dV St.fill St.set
 by_cases e : i = k
 ·simp [e]
 ·simp only [if_neg e]
theorem St.dV_fill {S : St} {k : Nat} {f : Nat → Nat} (hk : S.c k ≠ 0) (i : Nat) : (if i = k then some (.agg #[.string (bstr 128 f)]) else S.dV i) = (S.fill k f).dV i := by
 unfold St.dV St.fill
 by_cases e : i = k
 ·subst e; simp [hk]
 ·simp only [if_neg e]
def DnS (sb ob mc md x : Nat) (w : World) : Prop := (w.cell? ⟨sb, 0, none⟩ = some (.map (some mc)) ∧ w.cell? ⟨sb, 1, none⟩ = some (.map (some md))) ∧ w.cell? ⟨ob, 2, none⟩ = some (.int .u16 (x : Int))
theorem DnAt.cells {w W : World} {N mc md sb ob rb d x : Nat} {a : Int} {M : Bm} {S : St} {R : Nat → Value} (h : DnAt w W N mc md sb ob rb d x a M S R) : DnS sb ob mc md x W :=
 ⟨⟨(cell_fn h.s (by omega)).trans rfl, (cell_fn h.s (by omega)).trans rfl⟩, cell_of_block h.o 2⟩
theorem DnS.keep {sb ob mc md x m : Nat} {wa wb : World} (h : DnS sb ob mc md x wa) (c : Chg [m] wa wb) (hm : sb < m ∧ ob < m) (hs : sb < wa.heap.size ∧ ob < wa.heap.size) : DnS sb ob mc md x wb :=
 ⟨⟨(c.cell (p := ⟨sb, 0, none⟩) hs.1 (by simp only [List.mem_singleton]; show ¬ sb = m; omega)).trans h.1.1, (c.cell (p := ⟨sb, 1, none⟩) hs.1 (by simp only [List.mem_singleton]; show ¬ sb = m; omega)).trans h.1.2⟩, (c.cell (p := ⟨ob, 2, none⟩) hs.2 (by simp only [List.mem_singleton]; show ¬ ob = m; omega)).trans h.2⟩
theorem done11_at {w : World} {N G K mc md : Nat} {M : Bm} {F : List Nat} {B : Bs} {S : St} (h : BaseAt w M F B) (hF : ∀ q, q ∈ F → q < w.heap.size) (hg : Good N G B) (s : StAt w N mc md S) (r : StRel N B S) (hk : ∀ b, S.c b ≤ K) (hK : K < 1000) (hm : ∀ i, i < 8 → S.m i < 18446744073709551616) (d x : Nat) (a : Int) (hd : d ≤ 255) (hx : x ≤ 65535) (ha : -9223372036854775808 ≤ a ∧ a ≤ 9223372036854775807) :
  Calls Tryz.prog 41 #[.pointer (some ⟨M.b, 0, none⟩), .agg (fnRow 18 (S.v mc md)), .agg #[.int .u8 (d : Int), .int .i64 a, .int .u16 (x : Int)]] w (DnEnd w N G K M F B) := by
 have hN : 16 ≤ N ∧ N ≤ 4096 := by have := hg.ok.n; rw [hg.n] at this; exact this
 have HB := Lib.hid h
 have HFF := Lib.hid hF
 have HS := Lib.hid s
 have HR := Lib.hid (And.intro r (And.intro hk (And.intro hK hm)))
 have HG := Lib.hid hg
 clear h hF s r hk hK hg hm
 go_enter Tryz.func41, Tryz.ntmps41
 go_upto_region 1 with (first
  | (refine wpList_boxAgg rfl 72 (.tmp 1) rfl (cells := fnRow 18 (S.v mc md)) rfl ?_)
  | (refine wpList_boxAgg rfl 74 (.tmp 2) rfl (cells := #[.int .u8 (d : Int), .int .i64 a, .int .u16 (x : Int)]) rfl ?_))
 have hc0 := (((Chg.refl [] w).alloc (.cells (fnRow 18 (S.v mc md)) 72)).alloc (.cells #[.int .u8 (d : Int), .int .i64 a, .int .u16 (x : Int)] 74)).alloc (.cells (fnRow 18 zState) 72)
 have ks := new_block21 w (.cells (fnRow 18 (S.v mc md)) 72) (.cells #[.int .u8 (d : Int), .int .i64 a, .int .u16 (x : Int)] 74)
 have ko := new_block2 w (.cells (fnRow 18 (S.v mc md)) 72) (.cells #[.int .u8 (d : Int), .int .i64 a, .int .u16 (x : Int)] 74)
 have kr := new_block ((w.alloc (.cells (fnRow 18 (S.v mc md)) 72)).alloc (.cells #[.int .u8 (d : Int), .int .i64 a, .int .u16 (x : Int)] 74)) (.cells (fnRow 18 zState) 72)
 have hw2 : ((w.alloc (.cells (fnRow 18 (S.v mc md)) 72)).alloc (.cells #[.int .u8 (d : Int), .int .i64 a, .int .u16 (x : Int)] 74)).heap.size = w.heap.size + 1 + 1 := by simp
 rw [hw2] at kr
 generalize hW2 : (w.alloc (.cells (fnRow 18 (S.v mc md)) 72)).alloc (.cells #[.int .u8 (d : Int), .int .i64 a, .int .u16 (x : Int)] 74) = W2 at *
 have hcr := (Chg.refl [] W2).alloc (.cells (fnRow 18 zState) 72)
 replace ks := (hcr.block _ (heap_lt ks) (by simp)).trans ks
 replace ko := (hcr.block _ (heap_lt ko) (by simp)).trans ko
 have hw3 : (W2.alloc (.cells (fnRow 18 zState) 72)).heap.size = w.heap.size + 3 := by simp [hw2]
 rw [zState_row] at hc0 ks ko hw3 kr
 replace kr := kr.trans (show _ = some (Obj.cells (fnRow 18 zState) 72 (0, 0)) from by rw [zState_row])
 clear hcr hw2 hW2
 generalize W2.alloc _ = W0 at *
 clear W2
 obtain ⟨sb, hsb⟩ : ∃ sb, sb = w.heap.size := ⟨_, rfl⟩
 obtain ⟨ob, hob⟩ : ∃ ob, ob = w.heap.size + 1 := ⟨_, rfl⟩
 obtain ⟨rb, hrb⟩ : ∃ rb, rb = w.heap.size + 1 + 1 := ⟨_, rfl⟩
 rw [← hrb, ← hob, ← hsb]
 rw [← hsb] at ks
 rw [← hob] at ko
 rw [← hrb] at kr
 have hs0 := HS.out.chg hc0 (by simp) (by simp)
 have cC := copied_at hs0 (by omega)
 have CC := Lib.hid cC
 have H0 := Lib.hid (And.intro ks (And.intro ko (And.intro kr (And.intro hc0 hw3))))
 have HL := Lib.hid (And.intro hsb (And.intro hob hrb))
 have y0 : W0.cell? ⟨sb, 0, none⟩ = some (.map (some mc)) := (cell_fn ks (by omega)).trans rfl
 clear ks ko kr hc0 hw3 hsb hob hrb hs0 cC y0
 go_upto_region 2 with (first
  | (refine wpList_loadV rfl (.tmp 4) rfl Tryz.underlying72 rfl infoState rfl (rowCells H0.out.1) ?_)
  | (go_at_call 46; refine CC.out.mono ?_; rintro e w2 ⟨mc2, md2, rfl, hs2, hg1, hg2, hc2⟩; have H2 := Lib.hid (And.intro hs2 (And.intro hg1 (And.intro hg2 (And.intro hc2 ((hc2.block sb (heap_lt H0.out.1) (by simp)).trans H0.out.1))))); clear hs2 hg1 hg2 hc2)
  | (refine wpList_storeRow (t := 72) (T := 72) (b := sb) (o := 0) (n := 18) (N := 18) (V := S.v mc md) (U := S.v mc2 md2) rfl (.tmp 4) (.tmp 18) rfl rfl rfl H2.out.2.2.2.2 (by omega) infoState (fun i _ => S.one _ _ i) ?_; intro w3 hr3 hc3; have H3 := Lib.hid (And.intro hr3 hc3); clear hr3 hc3))
 have hr3 := H3.out.1
 rw [laid_whole] at hr3
 have hM : ∀ q, q ∈ M.L → q < w.heap.size := fun q hq => HB.out.ltL hq
 have HD : Hid (DnAt w w3 N mc2 md2 sb ob rb d x a M S zState) := Lib.hid (by
  have l := HL.out
  have h0 := H0.out
  have h2 := H2.out
  have c23 : Chg [sb] W0 w3 := (h2.2.2.2.1.mono (by simp)).trans H3.out.2
  have nm : mc2 ≠ sb ∧ md2 ≠ sb := by omega
  exact ⟨hr3, (c23.block ob (heap_lt h0.2.1) (by simp; omega)).trans h0.2.1, (c23.block rb (heap_lt h0.2.2.1) (by simp; omega)).trans h0.2.2.1, h2.1.chg H3.out.2 (by simp [nm.1]) (by simp [nm.2]), by omega,
   (h0.2.2.2.1.mono (by simp)).then c23 (fun q hq => by simp only [List.mem_singleton] at hq; exact .inr (by omega))⟩)
 have hb3 : BaseAt w3 M (sb :: rb :: mc2 :: md2 :: F) B := ((((HB.out.new (q := md2) (by have := HD.out.lt; omega)).new (q := mc2) (by have := HD.out.lt; omega)).new (q := rb) (by have := HD.out.lt; omega)).new (q := sb) (by have := HD.out.lt; omega)).chg (L := [sb]) (by
  have l := HL.out
  have h0 := H0.out
  have h2 := H2.out
  exact (h0.2.2.2.1.mono (by simp)).trans ((h2.2.2.2.1.mono (by simp)).trans H3.out.2)) (by simp)
 have HML := Lib.hid hM
 have cB := hb3.cBlocks
 rw [HG.out.n] at cB
 have H4 := Lib.hid hb3
 clear H0 H2 H3 CC HL HS HB hr3 hM hb3
 clear W0
 go_frame
 go_wp2_with fail
 refine (cB).mono ?_
 rintro e w' ⟨rfl, rfl⟩
 clear cB
 have y1 : w3.cell? ⟨ob, 1, none⟩ = some (.int .i64 a) := cell_of_block HD.out.o 1
 have e2 := fromI_eq (B := a) (n := N) (by omega)
 have e1 := fromI_wrap (B := a) (n := N) (by omega) (by omega)
 have hfl := fromI_lt (B := a) (n := N) (by omega)
 have hz2 : ((N : Int) == 0) = false := by simp; omega
 obtain ⟨fr, hfr⟩ : ∃ fr, fr = fromI a N := ⟨_, rfl⟩
 rw [← hfr] at e2 hfl
 clear hfr
 go_upto_region 3 with fail
 rw [show max (N : Int) 1 = (N : Int) from by omega]
 go_quiet (fail)
 clear e1 e2 y1
 have HD4 := Lib.hid (HD.out.chg (Chg.drewN (Chg.refl [] w3) nq) (by simp) HML.out)
 have H5 := Lib.hid (H4.out.chg (Chg.drewN (Chg.refl [] w3) nq) (by simp))
 clear HD H4
 generalize w3.drewN nq = W0 at *
 have c0 : W0.cell? ⟨sb, 0, none⟩ = some (.map (some mc2)) := (cell_fn HD4.out.s (by omega)).trans rfl
 go_wp2_with (refine wpList_krange rfl _ rfl Tryz.underlying3 Tryz.underlying68 HD4.out.m.c rfl ?_; intro w6 hkr hg6 hs6; have H7 := Lib.hid (And.intro hkr (And.intro hg6 hs6)); clear hkr hg6 hs6)
 go_frame
 obtain ⟨it, hit⟩ : ∃ it, it = W0.heap.size := ⟨_, rfl⟩
 rw [← hit] at H7 ⊢
 have HIT := Lib.hid (And.intro hit (heap_lt HD4.out.r))
 clear hit c0
 go_loopw [9] (fun s wr => ∃ left : Nat → Bool, (s = .int .i64 (-1) ∨ ∃ k, k < N ∧ S.c k ≠ 0 ∧ s = .int .i64 (k : Int)) ∧ Hid (KR Tryz.prog 3 goodI wr mc2 it N S.cV left ∧ Chg [it] W0 wr)) (fun _ wr => wr.rangeLeft mc2 it)
 case atStart => exact ⟨_, .inl rfl, Lib.hid ⟨H7.out.1, (Chg.refl [it] W0).grown H7.out.2.1 (fun k hk => by cases hk)⟩⟩
 case round =>
  obtain ⟨left, hsel, HX⟩ := hrel
  have hd9 := HD4.out.chg HX.out.2 (fun q hq => by simp only [List.mem_singleton] at hq; have h1 := HIT.out; have h2 := HD4.out.m.c.lt; have h3 := HD4.out.m.d.lt; exact .inr (by omega)) HML.out
  have hb9 : BaseAt wr M (sb :: rb :: mc2 :: md2 :: F) B := H5.out.chg ((Chg.refl [] W0).then HX.out.2 (fun q hq => by simp only [List.mem_singleton] at hq; subst hq; exact .inr (by rw [HIT.out.1]; exact Nat.le_refl _))) (by simp)
  have H9 := Lib.hid (And.intro hd9 hb9)
  clear hd9 hb9
  go_upto_region 6 with (refine wpList_knext rfl _ rfl Tryz.underlying3 HX.out.1 rfl ?_ ?_)
  ·intro hl0
   clear hl0
   have y0 : wr.cell? ⟨ob, 0, none⟩ = some (.int .u8 (d : Int)) := cell_of_block H9.out.1.o 0
   have H10 := Lib.hid H9.out
   have HRT := Lib.hid (show ∀ i, (zState i).oneCell' = true from zState_one)
   clear H9 HX HD4 H5 H7 HIT
   clear hz2
   have hmod : d % 6 = 0 ∨ d % 6 = 1 ∨ d % 6 = 2 ∨ d % 6 = 3 ∨ d % 6 = 4 ∨ d % 6 = 5 := by omega
   rcases hmod with hm | hm | hm | hm | hm | hm
   ·have d0 : ((d : Int) % 6 == 0) = true := by simp; omega
    have d1 : ((d : Int) % 6 == 1) = false := by simp; omega
    have d2 : ((d : Int) % 6 == 2) = false := by simp; omega
    have d3 : ((d : Int) % 6 == 3) = false := by simp; omega
    have d4 : ((d : Int) % 6 == 4) = false := by simp; omega
    clear hm
    clear hsel
    have y2 : wr.cell? ⟨ob, 2, none⟩ = some (.int .u16 (x : Int)) := cell_of_block H10.out.1.o 2
    have cb := block11_at (n := x) wr hx
    go_wp2_with fail
    refine cb.mono ?_
    clear cb
    rintro e w4 ⟨g, rfl, hg, hby, hc4⟩
    have H11 := Lib.hid (H10.out.1.chg hc4 (by simp) HML.out)
    have H12 := Lib.hid (H10.out.2.chg hc4 (by simp))
    have HBY := Lib.hid (And.intro hg hby)
    clear hg hby hc4 y0 y2
    by_cases hr : B.room = 0
    ·have cp := H12.out.cFull (v := some ⟨g, 0, none⟩) (c := 128) hr
     have HRZ := Lib.hid hr
     clear hr
     go_wp2_with fail
     refine (cp).mono ?_
     rintro e w' ⟨rfl, rfl⟩
     clear cp
     go_upto_region 15 with fail
     clear d0
     have H13 := Lib.hid (And.intro (H11.out.chg (Chg.refl [] w4).drew (by simp) HML.out) (H12.out.chg (Chg.refl [] w4).drew (by simp)))
     have cu := (show Calls Tryz.prog 16 #[.pointer (some ⟨M.b, 0, none⟩)] w4.drew (fun e w' => e = .returned (.int .i64 B.room) ∧ BaseAt w' M (sb :: rb :: mc2 :: md2 :: F) B ∧ Chg M.L w4.drew w') from (H13.out.2.cRoom).mono (fun e w' q => ⟨q.1, q.2 ▸ H13.out.2, q.2 ▸ Chg.refl M.L _⟩))
     rw [HRZ.out] at cu
     have CU := Lib.hid cu
     obtain ⟨V, hV⟩ : ∃ V, V = S.v mc2 md2 := ⟨_, rfl⟩
     have HV := Lib.hid hV
     have hcl : ∀ j, j < 18 → (w4).cell? ⟨sb, 0 + j, none⟩ = some (V j) := by rw [hV]; exact rowCells H11.out.s
     clear cu hV
     refine wp_region_held_drew (S := fun W' => ∀ j, j < 18 → W'.cell? ⟨sb, 0 + j, none⟩ = some (V j)) (by kernel_rfl) (by exact hcl) (fun hHeld => ?_)
     clear hcl
     refine wpAnyH_take (i := 0) (oi := ?_) (v := .agg (fnRow 18 V)) ?_ (by kernel_rfl) (by kernel_rfl) (by kernel_rfl) ?_ (yields_row (n := 18) (V := V) Tryz.underlying72 rfl (by kernel_rfl) ?_ (.tmp 4) ?_ ?_ (fun w' hw => hw)) hHeld ?_
     rotate_left 1
     ·(simp only [List.getElem?_toArray, List.getElem?_cons_succ, List.getElem?_cons_zero]; rfl)
     ·exact fun _ _ _ h => h
     ·rfl
     ·rfl
     ·(first | rfl | simp [Act.eval, Act.put])
     try simp only [Act.put, List.setIfInBounds_toArray, List.set_cons_zero, List.set_cons_succ]
     refine wpAnyH_take (i := 1) (oi := ?_) (v := ?_) ?_ (by kernel_rfl) (by kernel_rfl) (by kernel_rfl) ?_ (Or.inl ⟨?_, ?_⟩) hHeld ?_
     rotate_left 2
     ·(simp only [List.getElem?_toArray, List.getElem?_cons_succ, List.getElem?_cons_zero]; rfl)
     ·exact fun _ _ _ h => h
     ·rfl
     ·(rintro W' hSw; go_simp; first | done | with_reducible rfl)
     try simp only [Act.put, List.setIfInBounds_toArray, List.set_cons_zero, List.set_cons_succ]
     refine wpAnyH_ready (rs := [2]) (by kernel_rfl) (by simp) ?_
     refine AllReadyH.cons (o := ?_) ?_ (fun K hK => ?_) AllReadyH.nil
     rotate_left 1
     ·(simp only [List.getElem?_toArray, List.getElem?_cons_succ, List.getElem?_cons_zero]; rfl)
     (go_simp; refine CU.out.mono ?_; rintro e w5 ⟨rfl, hb5, hc5⟩; have H14 := Lib.hid (And.intro (H13.out.1.chg hc5 (fun q hq => .inl hq) HML.out) hb5); clear hb5 hc5)
     refine hK.out _ _ ?_ (fun hHeld => ?_)
     ·(rw [HV.out]; exact rowCells H14.out.1.s)
     clear hK K
     try simp only [Act.put, List.setIfInBounds_toArray, List.set_cons_zero, List.set_cons_succ]
     refine wpAnyH_take (i := 3) (oi := ?_) (v := ?_) ?_ (by kernel_rfl) (by kernel_rfl) (by kernel_rfl) ?_ (Or.inl ⟨?_, ?_⟩) hHeld ?_
     rotate_left 2
     ·(simp only [List.getElem?_toArray, List.getElem?_cons_succ, List.getElem?_cons_zero]; rfl)
     ·exact fun _ _ _ h => h
     ·rfl
     ·(rintro W' hSw; go_simp; first | done | with_reducible rfl)
     try simp only [Act.put, List.setIfInBounds_toArray, List.set_cons_zero, List.set_cons_succ]
     have hrn : (storeCells ⟨rb, 0, none⟩ (fnRow 18 V).toList).run Tryz.prog w5 = .ok () (w5.setCells rb 0 (fnRow 18 V).toList) := run_storeCells_row (P := Tryz.prog) (U := V) (V := zState) (N := 18) (T := 72) H14.out.1.r (by omega) (fun i _ => by rw [HV.out]; exact St.one _ _ _ i) (o := 0) (n := 18)
     have hrs := fnRow_size 18 V
     have hsl := setCells_laid (o := 0) (n := 18) (U := V) (V := zState) (N := 18) (t := 72) H14.out.1.r
     generalize w5.setCells rb 0 (fnRow 18 V).toList = w8 at hrn hsl
     have H8 := Lib.hid hsl
     clear hsl
     refine wpAnyH_ready (rs := [4]) (by kernel_rfl) (by simp) ?_
     refine AllReadyH.cons (o := ?_) ?_ (fun K hK => ?_) AllReadyH.nil
     rotate_left 1
     ·(simp only [List.getElem?_toArray, List.getElem?_cons_succ, List.getElem?_cons_zero]; rfl)
     (go_simp)
     refine hK.out _ _ ?_ (fun hHeld => ?_)
     ·(rw [HV.out]; exact rowCells (H14.out.1.stored H8.out.1 H8.out.2).s)
     clear hK K
     try simp only [Act.put, List.setIfInBounds_toArray, List.set_cons_zero, List.set_cons_succ]
     clear hrn hrs
     refine wpAnyH_take (i := 5) (oi := ?_) (v := ?_) ?_ (by kernel_rfl) (by kernel_rfl) (by kernel_rfl) ?_ (Or.inl ⟨?_, ?_⟩) hHeld ?_
     rotate_left 2
     ·(simp only [List.getElem?_toArray, List.getElem?_cons_succ, List.getElem?_cons_zero]; rfl)
     ·exact fun _ _ _ h => h
     ·rfl
     ·(rintro W' hSw; go_simp; first | done | with_reducible rfl)
     try simp only [Act.put, List.setIfInBounds_toArray, List.set_cons_zero, List.set_cons_succ]
     refine wpAnyH_done (by kernel_rfl) ?_ _
     have h9 := H14.out.1.stored H8.out.1 H8.out.2
     have h10 := H14.out.2.chg H8.out.2 (by simp)
     rw [HV.out] at h9
     have H9 := Lib.hid (And.intro h9 h10)
     clear h9 h10
     go_wp2_with fail
     exact dn_ret H9.out.1 H9.out.2 HG.out (KeptB.rfl' B) HR.out.1 (fun b => by have := HR.out.2.1 b; omega) HR.out.2.2.2 rfl rfl rfl
    ·have hr1 : 0 < B.room := by unfold Bs.room at hr ⊢; omega
     have hp := HR.out.1.put HG.out hr1 (f := blkF x) (fun i _ => blkF_le x i)
     have cp := bPut_at (c := 128) H12.out (fun q hq => by simp only [List.mem_cons] at hq; have h1 := heap_lt H11.out.s; have h2 := heap_lt H11.out.r; have h3 := H11.out.m.c.lt; have h4 := H11.out.m.d.lt; have h5 := H11.out.lt; rcases hq with e|e|e|e|e; (· omega); (· omega); (· omega); (· omega); (· have h6 := HFF.out q e; omega)) HBY.out.2 (fun hm => by have h1 := HML.out g hm; have h2 := H10.out.1.lt; have h3 := heap_lt H10.out.1.s; have h4 := HBY.out.1; omega) hr1
     obtain ⟨k, hkk⟩ : ∃ k, k = B.at_ := ⟨_, rfl⟩
     rw [← hkk] at hp cp
     obtain ⟨hk, hck, hp⟩ := hp
     have HP := Lib.hid hp
     have CP := Lib.hid cp
     clear hp cp hkk hr hr1
     go_wp2_with fail
     refine CP.out.mono ?_
     clear CP
     rintro e w5 ⟨rfl, hb5, hc5⟩
     have H14 := Lib.hid (And.intro (H11.out.chg hc5 (fun q hq => .inl hq) HML.out) hb5)
     clear hb5 hc5
     have c0 : w5.cell? ⟨sb, 0, none⟩ = some (.map (some mc2)) := (cell_fn H14.out.1.s (by omega)).trans rfl
     have lk := (H14.out.1.m.c.look (t := 68) Tryz.underlying3 Tryz.underlying68 (zero_int w5) rfl hk hN.2).1
     rw [show S.cV k = none from by unfold St.cV; rw [if_pos hck]] at lk
     simp only [Option.getD_none, Option.isSome_none] at lk
     go_upto_region 19 with fail
     clear lk c0 d0 d1 d2 d3 d4
     have H13 := Lib.hid (And.intro (H14.out.1.chg (Chg.refl [] w5).drew (by simp) HML.out) (H14.out.2.chg (Chg.refl [] w5).drew (by simp)))
     have hcl : DnS sb ob mc2 md2 x w5 := H14.out.1.cells
     have cb := block11_at (n := x) w5.drew hx
     have CB := Lib.hid cb
     clear cb
     refine wp_region_held_drew (S := DnS sb ob mc2 md2 x) (by kernel_rfl) (by exact hcl) (fun hHeld => ?_)
     clear hcl
     refine wpAnyH_take (i := 0) (oi := ?_) (v := ?_) ?_ (by kernel_rfl) (by kernel_rfl) (by kernel_rfl) ?_ (Or.inl ⟨?_, ?_⟩) hHeld ?_
     rotate_left 2
     ·(simp only [List.getElem?_toArray, List.getElem?_cons_succ, List.getElem?_cons_zero]; rfl)
     ·exact fun _ _ _ h => h
     ·rfl
     ·(rintro W' ⟨⟨s0, s1⟩, s2⟩; go_simp; first | done | with_reducible rfl)
     try simp only [Act.put, List.setIfInBounds_toArray, List.set_cons_zero, List.set_cons_succ]
     refine wpAnyH_take (i := 1) (oi := ?_) (v := ?_) ?_ (by kernel_rfl) (by kernel_rfl) (by kernel_rfl) ?_ (Or.inl ⟨?_, ?_⟩) hHeld ?_
     rotate_left 2
     ·(simp only [List.getElem?_toArray, List.getElem?_cons_succ, List.getElem?_cons_zero]; rfl)
     ·exact fun _ _ _ h => h
     ·rfl
     ·(rintro W' ⟨⟨s0, s1⟩, s2⟩; go_simp; first | done | with_reducible rfl)
     try simp only [Act.put, List.setIfInBounds_toArray, List.set_cons_zero, List.set_cons_succ]
     refine wpAnyH_take (i := 2) (oi := ?_) (v := ?_) ?_ (by kernel_rfl) (by kernel_rfl) (by kernel_rfl) ?_ (Or.inl ⟨?_, ?_⟩) hHeld ?_
     rotate_left 2
     ·(simp only [List.getElem?_toArray, List.getElem?_cons_succ, List.getElem?_cons_zero]; rfl)
     ·exact fun _ _ _ h => h
     ·rfl
     ·(rintro W' ⟨⟨s0, s1⟩, s2⟩; go_simp; first | done | with_reducible rfl)
     try simp only [Act.put, List.setIfInBounds_toArray, List.set_cons_zero, List.set_cons_succ]
     refine wpAnyH_take (i := 3) (oi := ?_) (v := ?_) ?_ (by kernel_rfl) (by kernel_rfl) (by kernel_rfl) ?_ (Or.inl ⟨?_, ?_⟩) hHeld ?_
     rotate_left 2
     ·(simp only [List.getElem?_toArray, List.getElem?_cons_succ, List.getElem?_cons_zero]; rfl)
     ·exact fun _ _ _ h => h
     ·rfl
     ·(rintro W' ⟨⟨s0, s1⟩, s2⟩; go_simp; first | done | with_reducible rfl)
     try simp only [Act.put, List.setIfInBounds_toArray, List.set_cons_zero, List.set_cons_succ]
     refine wpAnyH_take (i := 4) (oi := ?_) (v := ?_) ?_ (by kernel_rfl) (by kernel_rfl) (by kernel_rfl) ?_ (Or.inl ⟨?_, ?_⟩) hHeld ?_
     rotate_left 2
     ·(simp only [List.getElem?_toArray, List.getElem?_cons_succ, List.getElem?_cons_zero]; rfl)
     ·exact fun _ _ _ h => h
     ·rfl
     ·(rintro W' ⟨⟨s0, s1⟩, s2⟩; go_simp; first | done | with_reducible rfl)
     try simp only [Act.put, List.setIfInBounds_toArray, List.set_cons_zero, List.set_cons_succ]
     refine wpAnyH_take (i := 5) (oi := ?_) (v := ?_) ?_ (by kernel_rfl) (by kernel_rfl) (by kernel_rfl) ?_ (Or.inl ⟨?_, ?_⟩) hHeld ?_
     rotate_left 2
     ·(simp only [List.getElem?_toArray, List.getElem?_cons_succ, List.getElem?_cons_zero]; rfl)
     ·exact fun _ _ _ h => h
     ·rfl
     ·(rintro W' ⟨⟨s0, s1⟩, s2⟩; go_simp; first | done | with_reducible rfl)
     try simp only [Act.put, List.setIfInBounds_toArray, List.set_cons_zero, List.set_cons_succ]
     refine wpAnyH_take (i := 6) (oi := ?_) (v := ?_) ?_ (by kernel_rfl) (by kernel_rfl) (by kernel_rfl) ?_ (Or.inl ⟨?_, ?_⟩) hHeld ?_
     rotate_left 2
     ·(simp only [List.getElem?_toArray, List.getElem?_cons_succ, List.getElem?_cons_zero]; rfl)
     ·exact fun _ _ _ h => h
     ·rfl
     ·(rintro W' ⟨⟨s0, s1⟩, s2⟩; go_simp; first | done | with_reducible rfl)
     try simp only [Act.put, List.setIfInBounds_toArray, List.set_cons_zero, List.set_cons_succ]
     refine wpAnyH_take (i := 7) (oi := ?_) (v := ?_) ?_ (by kernel_rfl) (by kernel_rfl) (by kernel_rfl) ?_ (Or.inl ⟨?_, ?_⟩) hHeld ?_
     rotate_left 2
     ·(simp only [List.getElem?_toArray, List.getElem?_cons_succ, List.getElem?_cons_zero]; rfl)
     ·exact fun _ _ _ h => h
     ·rfl
     ·(rintro W' ⟨⟨s0, s1⟩, s2⟩; go_simp; first | done | with_reducible rfl)
     try simp only [Act.put, List.setIfInBounds_toArray, List.set_cons_zero, List.set_cons_succ]
     refine wpAnyH_ready (rs := [8]) (by kernel_rfl) (by simp) ?_
     refine AllReadyH.cons (o := ?_) ?_ (fun K hK => ?_) AllReadyH.nil
     rotate_left 1
     ·(simp only [List.getElem?_toArray, List.getElem?_cons_succ, List.getElem?_cons_zero]; rfl)
     (go_simp; refine CB.out.mono ?_; rintro e w6 ⟨g2, rfl, hg2, hby2, hc6⟩; have H15 := Lib.hid (And.intro (H13.out.1.chg hc6 (by simp) HML.out) (And.intro (H13.out.2.chg hc6 (by simp)) hby2)); clear hg2 hby2 hc6)
     refine hK.out _ _ ?_ (fun hHeld => ?_)
     ·exact H15.out.1.cells
     clear hK K
     try simp only [Act.put, List.setIfInBounds_toArray, List.set_cons_zero, List.set_cons_succ]
     refine wpAnyH_ready (rs := [9]) (by kernel_rfl) (by simp) ?_
     refine AllReadyH.cons (o := ?_) ?_ (fun K hK => ?_) AllReadyH.nil
     rotate_left 1
     ·(simp only [List.getElem?_toArray, List.getElem?_cons_succ, List.getElem?_cons_zero]; rfl)
     (have hcv := conv_at (bytes_in H15.out.2.2 (Nat.le_refl _) (by unfold maxLen; omega)); go_simp)
     refine hK.out _ _ ?_ (fun hHeld => ?_)
     ·exact H15.out.1.cells
     clear hK K
     try simp only [Act.put, List.setIfInBounds_toArray, List.set_cons_zero, List.set_cons_succ]
     refine wpAnyH_take (i := 10) (oi := ?_) (v := ?_) ?_ (by kernel_rfl) (by kernel_rfl) (by kernel_rfl) ?_ (Or.inl ⟨?_, ?_⟩) hHeld ?_
     rotate_left 2
     ·(simp only [List.getElem?_toArray, List.getElem?_cons_succ, List.getElem?_cons_zero]; rfl)
     ·exact fun _ _ _ h => h
     ·rfl
     ·(rintro W' ⟨⟨s0, s1⟩, s2⟩; go_simp; first | done | with_reducible rfl)
     try simp only [Act.put, List.setIfInBounds_toArray, List.set_cons_zero, List.set_cons_succ]
     refine wpAnyH_ready (rs := [11]) (by kernel_rfl) (by simp) ?_
     refine AllReadyH.cons (o := ?_) ?_ (fun K hK => ?_) AllReadyH.nil
     rotate_left 1
     ·(simp only [List.getElem?_toArray, List.getElem?_cons_succ, List.getElem?_cons_zero]; rfl)
     (have hmx := H15.out.1.m.c; obtain ⟨wA, hrun, hm2, ht2⟩ := hmx.put (t := 68) (k := k) (v := .int .i64 1) Tryz.underlying3 Tryz.underlying68 hk hN.2 rfl; have HZA := Lib.hid (And.intro hm2 (mapTurned_chg ht2)); clear hm2 ht2 hmx; go_simp; clear hrun)
     refine hK.out _ _ ?_ (fun hHeld => ?_)
     ·exact H15.out.1.cells.keep HZA.out.2 (by have h1 := H15.out.1.lt; omega) (by have h1 := H15.out.1.lt; have h2 := heap_lt H15.out.1.s; have h3 := heap_lt H15.out.1.o; exact ⟨h2, h3⟩)
     clear hK K
     try simp only [Act.put, List.setIfInBounds_toArray, List.set_cons_zero, List.set_cons_succ]
     refine wpAnyH_ready (rs := [12]) (by kernel_rfl) (by simp) ?_
     refine AllReadyH.cons (o := ?_) ?_ (fun K hK => ?_) AllReadyH.nil
     rotate_left 1
     ·(simp only [List.getElem?_toArray, List.getElem?_cons_succ, List.getElem?_cons_zero]; rfl)
     (have hmx := H15.out.1.m.d.chg HZA.out.2 (by simp; exact fun q => H15.out.1.m.ne q.symm); obtain ⟨wB, hrun, hm2, ht2⟩ := hmx.put (t := 69) (k := k) (v := .agg #[.string (bstr 128 (blkF x))]) Tryz.underlying3 Tryz.underlying69 hk hN.2 rfl; have HZB := Lib.hid (And.intro hm2 (mapTurned_chg ht2)); clear hm2 ht2 hmx; go_simp; clear hrun)
     refine hK.out _ _ ?_ (fun hHeld => ?_)
     ·exact (H15.out.1.cells.keep HZA.out.2 (by have h1 := H15.out.1.lt; omega) (by have h1 := H15.out.1.lt; have h2 := heap_lt H15.out.1.s; have h3 := heap_lt H15.out.1.o; exact ⟨h2, h3⟩)).keep HZB.out.2 (by have h1 := H15.out.1.lt; omega) (by have h2 := heap_lt H15.out.1.s; have h3 := heap_lt H15.out.1.o; have h4 := HZA.out.2.size; omega)
     clear hK K
     try simp only [Act.put, List.setIfInBounds_toArray, List.set_cons_zero, List.set_cons_succ]
     refine wpAnyH_done (by kernel_rfl) ?_ _
     have h16 := H15.out.1.to (S' := (S.set k 1).fill k (blkF x)) ((HZA.out.2.mono (by simp)).trans (HZB.out.2.mono (by simp))) ⟨(HZA.out.1.chg HZB.out.2 (by simp; exact H15.out.1.m.ne)).congr (fun i _ => St.cV_put i), HZB.out.1.congr (fun i _ => St.dV_put i), H15.out.1.m.ne⟩ (fun i => rfl)
     have b16 := (H15.out.2.1.chg HZA.out.2 (by simp)).chg HZB.out.2 (by simp)
     have H16 := Lib.hid (And.intro h16 b16)
     clear h16 b16
     go_upto_region 39 with fail
     go_wp2_with (first
      | (refine wpList_loadV rfl (.tmp 4) rfl Tryz.underlying72 rfl infoState rfl (rowCells H16.out.1.s) ?_)
      | (refine wpList_storeRow (t := 72) (T := 72) (b := rb) (o := 0) (n := 18) (N := 18) (V := zState) (U := ((S.set k 1).fill k (blkF x)).v mc2 md2) rfl (.tmp 6) (.tmp 202) rfl rfl rfl H16.out.1.r (by omega) infoState (fun i _ => S.one _ _ i) ?_; intro w8 hr8 hc8; have H8 := Lib.hid (And.intro hr8 hc8); clear hr8 hc8))
     exact dn_ret (H16.out.1.stored H8.out.1 H8.out.2) (H16.out.2.chg H8.out.2 (by simp)) HP.out.1 HP.out.2.1 HP.out.2.2 (fun b => by have h1 := HR.out.2.1 b; show (if b = k then 1 else S.c b) ≤ K + 1; split <;> omega) HR.out.2.2.2 rfl rfl rfl
   ·have d0 : ((d : Int) % 6 == 0) = false := by simp; omega
    have d1 : ((d : Int) % 6 == 1) = true := by simp; omega
    have d2 : ((d : Int) % 6 == 2) = false := by simp; omega
    have d3 : ((d : Int) % 6 == 3) = false := by simp; omega
    have d4 : ((d : Int) % 6 == 4) = false := by simp; omega
    clear hm
    rcases hsel with rfl | ⟨k, hk, hck, rfl⟩
    ·go_upto_region 39 with fail
     clear d0 d1 d2 d3 d4 y0
     go_wp2_with (first
      | (refine wpList_loadV rfl (.tmp 4) rfl Tryz.underlying72 rfl infoState rfl (rowCells H10.out.1.s) ?_)
      | (refine wpList_storeRow (t := 72) (T := 72) (b := rb) (o := 0) (n := 18) (N := 18) (V := zState) (U := S.v mc2 md2) rfl (.tmp 6) (.tmp 202) rfl rfl rfl H10.out.1.r (by omega) infoState (fun i _ => S.one _ _ i) ?_; intro w8 hr8 hc8; have H8 := Lib.hid (And.intro hr8 hc8); clear hr8 hc8))
     exact dn_ret (H10.out.1.stored H8.out.1 H8.out.2) (H10.out.2.chg H8.out.2 (by simp)) HG.out (KeptB.rfl' B) HR.out.1 (fun b => by have := HR.out.2.1 b; omega) HR.out.2.2.2 rfl rfl rfl
    ·have cf := H10.out.2.cFresh (k : Int) (WalkArith.wf_i64 (by omega))
     rw [show B.freshB (k : Int) = (B.fr k).isSome from by unfold Bs.freshB; rw [decide_eq_true (show (0 : Int) ≤ (k : Int) by omega), decide_eq_true (show (k : Int) < (B.T.n : Int) by rw [HG.out.n]; omega)]; rfl] at cf
     have i1 : (0 : Int) ≤ (k : Int) := by omega
     cases hfk : (B.fr k).isSome with
     | false =>
      rw [hfk] at cf
      go_wp2_with fail
      refine (cf).mono ?_
      rintro e w' ⟨rfl, rfl⟩
      clear cf hfk
      go_upto_region 39 with fail
      clear d0 d1 d2 d3 d4 y0
      go_wp2_with (first
       | (refine wpList_loadV rfl (.tmp 4) rfl Tryz.underlying72 rfl infoState rfl (rowCells H10.out.1.s) ?_)
       | (refine wpList_storeRow (t := 72) (T := 72) (b := rb) (o := 0) (n := 18) (N := 18) (V := zState) (U := S.v mc2 md2) rfl (.tmp 6) (.tmp 202) rfl rfl rfl H10.out.1.r (by omega) infoState (fun i _ => S.one _ _ i) ?_; intro w8 hr8 hc8; have H8 := Lib.hid (And.intro hr8 hc8); clear hr8 hc8))
      exact dn_ret (H10.out.1.stored H8.out.1 H8.out.2) (H10.out.2.chg H8.out.2 (by simp)) HG.out (KeptB.rfl' B) HR.out.1 (fun b => by have := HR.out.2.1 b; omega) HR.out.2.2.2 rfl rfl rfl
     | true =>
      rw [hfk] at cf
      go_wp2_with fail
      refine (cf).mono ?_
      rintro e w' ⟨rfl, rfl⟩
      clear cf
      go_upto_region 22 with fail
      clear d0 d1 d2 d3 d4 y0 i1
      have H13 := Lib.hid (And.intro (H10.out.1.chg (Chg.refl [] wr).drew (by simp) HML.out) (H10.out.2.chg (Chg.refl [] wr).drew (by simp)))
      have hcl : DnS sb ob mc2 md2 x wr := H10.out.1.cells
      have cb := block11_at (n := x) wr.drew hx
      have CB := Lib.hid cb
      clear cb
      refine wp_region_held_drew (S := DnS sb ob mc2 md2 x) (by kernel_rfl) (by exact hcl) (fun hHeld => ?_)
      clear hcl
      refine wpAnyH_take (i := 0) (oi := ?_) (v := ?_) ?_ (by kernel_rfl) (by kernel_rfl) (by kernel_rfl) ?_ (Or.inl ⟨?_, ?_⟩) hHeld ?_
      rotate_left 2
      ·(simp only [List.getElem?_toArray, List.getElem?_cons_succ, List.getElem?_cons_zero]; rfl)
      ·exact fun _ _ _ h => h
      ·rfl
      ·(rintro W' ⟨⟨s0, s1⟩, s2⟩; go_simp; first | done | with_reducible rfl)
      try simp only [Act.put, List.setIfInBounds_toArray, List.set_cons_zero, List.set_cons_succ]
      refine wpAnyH_take (i := 1) (oi := ?_) (v := ?_) ?_ (by kernel_rfl) (by kernel_rfl) (by kernel_rfl) ?_ (Or.inl ⟨?_, ?_⟩) hHeld ?_
      rotate_left 2
      ·(simp only [List.getElem?_toArray, List.getElem?_cons_succ, List.getElem?_cons_zero]; rfl)
      ·exact fun _ _ _ h => h
      ·rfl
      ·(rintro W' ⟨⟨s0, s1⟩, s2⟩; go_simp; first | done | with_reducible rfl)
      try simp only [Act.put, List.setIfInBounds_toArray, List.set_cons_zero, List.set_cons_succ]
      refine wpAnyH_take (i := 2) (oi := ?_) (v := ?_) ?_ (by kernel_rfl) (by kernel_rfl) (by kernel_rfl) ?_ (Or.inl ⟨?_, ?_⟩) hHeld ?_
      rotate_left 2
      ·(simp only [List.getElem?_toArray, List.getElem?_cons_succ, List.getElem?_cons_zero]; rfl)
      ·exact fun _ _ _ h => h
      ·rfl
      ·(rintro W' ⟨⟨s0, s1⟩, s2⟩; go_simp; first | done | with_reducible rfl)
      try simp only [Act.put, List.setIfInBounds_toArray, List.set_cons_zero, List.set_cons_succ]
      refine wpAnyH_take (i := 3) (oi := ?_) (v := ?_) ?_ (by kernel_rfl) (by kernel_rfl) (by kernel_rfl) ?_ (Or.inl ⟨?_, ?_⟩) hHeld ?_
      rotate_left 2
      ·(simp only [List.getElem?_toArray, List.getElem?_cons_succ, List.getElem?_cons_zero]; rfl)
      ·exact fun _ _ _ h => h
      ·rfl
      ·(rintro W' ⟨⟨s0, s1⟩, s2⟩; go_simp; first | done | with_reducible rfl)
      try simp only [Act.put, List.setIfInBounds_toArray, List.set_cons_zero, List.set_cons_succ]
      refine wpAnyH_take (i := 4) (oi := ?_) (v := ?_) ?_ (by kernel_rfl) (by kernel_rfl) (by kernel_rfl) ?_ (Or.inl ⟨?_, ?_⟩) hHeld ?_
      rotate_left 2
      ·(simp only [List.getElem?_toArray, List.getElem?_cons_succ, List.getElem?_cons_zero]; rfl)
      ·exact fun _ _ _ h => h
      ·rfl
      ·(rintro W' ⟨⟨s0, s1⟩, s2⟩; go_simp; first | done | with_reducible rfl)
      try simp only [Act.put, List.setIfInBounds_toArray, List.set_cons_zero, List.set_cons_succ]
      refine wpAnyH_ready (rs := [5]) (by kernel_rfl) (by simp) ?_
      refine AllReadyH.cons (o := ?_) ?_ (fun K hK => ?_) AllReadyH.nil
      rotate_left 1
      ·(simp only [List.getElem?_toArray, List.getElem?_cons_succ, List.getElem?_cons_zero]; rfl)
      (go_simp; refine CB.out.mono ?_; rintro e w6 ⟨g2, rfl, hg2, hby2, hc6⟩; have H15 := Lib.hid (And.intro (H13.out.1.chg hc6 (by simp) HML.out) (And.intro (H13.out.2.chg hc6 (by simp)) hby2)); clear hg2 hby2 hc6)
      refine hK.out _ _ ?_ (fun hHeld => ?_)
      ·exact H15.out.1.cells
      clear hK K
      try simp only [Act.put, List.setIfInBounds_toArray, List.set_cons_zero, List.set_cons_succ]
      refine wpAnyH_ready (rs := [6]) (by kernel_rfl) (by simp) ?_
      refine AllReadyH.cons (o := ?_) ?_ (fun K hK => ?_) AllReadyH.nil
      rotate_left 1
      ·(simp only [List.getElem?_toArray, List.getElem?_cons_succ, List.getElem?_cons_zero]; rfl)
      (have hcv := conv_at (bytes_in H15.out.2.2 (Nat.le_refl _) (by unfold maxLen; omega)); go_simp)
      refine hK.out _ _ ?_ (fun hHeld => ?_)
      ·exact H15.out.1.cells
      clear hK K
      try simp only [Act.put, List.setIfInBounds_toArray, List.set_cons_zero, List.set_cons_succ]
      refine wpAnyH_take (i := 7) (oi := ?_) (v := ?_) ?_ (by kernel_rfl) (by kernel_rfl) (by kernel_rfl) ?_ (Or.inl ⟨?_, ?_⟩) hHeld ?_
      rotate_left 2
      ·(simp only [List.getElem?_toArray, List.getElem?_cons_succ, List.getElem?_cons_zero]; rfl)
      ·exact fun _ _ _ h => h
      ·rfl
      ·(rintro W' ⟨⟨s0, s1⟩, s2⟩; go_simp; first | done | with_reducible rfl)
      try simp only [Act.put, List.setIfInBounds_toArray, List.set_cons_zero, List.set_cons_succ]
      refine wpAnyH_ready (rs := [8]) (by kernel_rfl) (by simp) ?_
      refine AllReadyH.cons (o := ?_) ?_ (fun K hK => ?_) AllReadyH.nil
      rotate_left 1
      ·(simp only [List.getElem?_toArray, List.getElem?_cons_succ, List.getElem?_cons_zero]; rfl)
      (have hmx := H15.out.1.m.d; obtain ⟨wB, hrun, hm2, ht2⟩ := hmx.put (t := 69) (k := k) (v := .agg #[.string (bstr 128 (blkF x))]) Tryz.underlying3 Tryz.underlying69 hk hN.2 rfl; have HZB := Lib.hid (And.intro hm2 (mapTurned_chg ht2)); clear hm2 ht2 hmx; go_simp; clear hrun)
      refine hK.out _ _ ?_ (fun hHeld => ?_)
      ·exact H15.out.1.cells.keep HZB.out.2 (by have h1 := H15.out.1.lt; omega) (by have h1 := H15.out.1.lt; have h2 := heap_lt H15.out.1.s; have h3 := heap_lt H15.out.1.o; exact ⟨h2, h3⟩)
      clear hK K
      try simp only [Act.put, List.setIfInBounds_toArray, List.set_cons_zero, List.set_cons_succ]
      refine wpAnyH_done (by kernel_rfl) ?_ _
      have H11 := Lib.hid (H15.out.1.to (S' := S.fill k (blkF x)) (HZB.out.2.mono (by simp)) ⟨(H15.out.1.m.c.chg HZB.out.2 (by simp; exact H15.out.1.m.ne)).congr (fun i _ => rfl), HZB.out.1.congr (fun i _ => St.dV_fill hck i), H15.out.1.m.ne⟩ (fun i => rfl))
      have H12 := Lib.hid (H15.out.2.1.chg HZB.out.2 (by simp))
      have HU := Lib.hid (HR.out.1.over HG.out hfk (f := blkF x) (fun i _ => blkF_le x i))
      clear H15 HZB CB H13
      go_upto_region 23 with fail
      have H13 := Lib.hid (And.intro (H11.out.chg (Chg.refl [] wB).drew (by simp) HML.out) (H12.out.chg (Chg.refl [] wB).drew (by simp)))
      have cb := block11_at (n := x) wB.drew hx
      have CB := Lib.hid cb
      obtain ⟨V, hV⟩ : ∃ V, V = (S.fill k (blkF x)).v mc2 md2 := ⟨_, rfl⟩
      have HV := Lib.hid hV
      have hcl : (∀ j, j < 18 → wB.cell? ⟨sb, 0 + j, none⟩ = some (V j)) ∧ wB.cell? ⟨ob, 2, none⟩ = some (.int .u16 (x : Int)) := ⟨by rw [hV]; exact rowCells H11.out.s, cell_of_block H11.out.o 2⟩
      clear cb hV
      refine wp_region_held_drew (S := fun W' => (∀ j, j < 18 → W'.cell? ⟨sb, 0 + j, none⟩ = some (V j)) ∧ W'.cell? ⟨ob, 2, none⟩ = some (.int .u16 (x : Int))) (by kernel_rfl) (by exact hcl) (fun hHeld => ?_)
      clear hcl
      refine wpAnyH_take (i := 0) (oi := ?_) (v := .agg (fnRow 18 V)) ?_ (by kernel_rfl) (by kernel_rfl) (by kernel_rfl) ?_ (yields_row (n := 18) (V := V) Tryz.underlying72 rfl (by kernel_rfl) ?_ (.tmp 4) ?_ ?_ (fun w' hw => hw.1)) hHeld ?_
      rotate_left 1
      ·(simp only [List.getElem?_toArray, List.getElem?_cons_succ, List.getElem?_cons_zero]; rfl)
      ·exact fun _ _ _ h => h
      ·rfl
      ·rfl
      ·(first | rfl | simp [Act.eval, Act.put])
      try simp only [Act.put, List.setIfInBounds_toArray, List.set_cons_zero, List.set_cons_succ]
      refine wpAnyH_take (i := 1) (oi := ?_) (v := ?_) ?_ (by kernel_rfl) (by kernel_rfl) (by kernel_rfl) ?_ (Or.inl ⟨?_, ?_⟩) hHeld ?_
      rotate_left 2
      ·(simp only [List.getElem?_toArray, List.getElem?_cons_succ, List.getElem?_cons_zero]; rfl)
      ·exact fun _ _ _ h => h
      ·rfl
      ·(rintro W' ⟨s0, s2⟩; go_simp; first | done | with_reducible rfl)
      try simp only [Act.put, List.setIfInBounds_toArray, List.set_cons_zero, List.set_cons_succ]
      refine wpAnyH_take (i := 2) (oi := ?_) (v := ?_) ?_ (by kernel_rfl) (by kernel_rfl) (by kernel_rfl) ?_ (Or.inl ⟨?_, ?_⟩) hHeld ?_
      rotate_left 2
      ·(simp only [List.getElem?_toArray, List.getElem?_cons_succ, List.getElem?_cons_zero]; rfl)
      ·exact fun _ _ _ h => h
      ·rfl
      ·(rintro W' ⟨s0, s2⟩; go_simp; first | done | with_reducible rfl)
      try simp only [Act.put, List.setIfInBounds_toArray, List.set_cons_zero, List.set_cons_succ]
      refine wpAnyH_take (i := 3) (oi := ?_) (v := ?_) ?_ (by kernel_rfl) (by kernel_rfl) (by kernel_rfl) ?_ (Or.inl ⟨?_, ?_⟩) hHeld ?_
      rotate_left 2
      ·(simp only [List.getElem?_toArray, List.getElem?_cons_succ, List.getElem?_cons_zero]; rfl)
      ·exact fun _ _ _ h => h
      ·rfl
      ·(rintro W' ⟨s0, s2⟩; go_simp; first | done | with_reducible rfl)
      try simp only [Act.put, List.setIfInBounds_toArray, List.set_cons_zero, List.set_cons_succ]
      refine wpAnyH_take (i := 4) (oi := ?_) (v := ?_) ?_ (by kernel_rfl) (by kernel_rfl) (by kernel_rfl) ?_ (Or.inl ⟨?_, ?_⟩) hHeld ?_
      rotate_left 2
      ·(simp only [List.getElem?_toArray, List.getElem?_cons_succ, List.getElem?_cons_zero]; rfl)
      ·exact fun _ _ _ h => h
      ·rfl
      ·(rintro W' ⟨s0, s2⟩; go_simp; first | done | with_reducible rfl)
      try simp only [Act.put, List.setIfInBounds_toArray, List.set_cons_zero, List.set_cons_succ]
      refine wpAnyH_ready (rs := [5]) (by kernel_rfl) (by simp) ?_
      refine AllReadyH.cons (o := ?_) ?_ (fun K hK => ?_) AllReadyH.nil
      rotate_left 1
      ·(simp only [List.getElem?_toArray, List.getElem?_cons_succ, List.getElem?_cons_zero]; rfl)
      (go_simp; refine CB.out.mono ?_; rintro e w6 ⟨g2, rfl, hg2, hby2, hc6⟩; have H15 := Lib.hid (And.intro (H13.out.1.chg hc6 (by simp) HML.out) (And.intro (H13.out.2.chg hc6 (by simp)) hby2)); clear hg2 hby2 hc6)
      refine hK.out _ _ ?_ (fun hHeld => ?_)
      ·exact ⟨by rw [HV.out]; exact rowCells H15.out.1.s, cell_of_block H15.out.1.o 2⟩
      clear hK K
      try simp only [Act.put, List.setIfInBounds_toArray, List.set_cons_zero, List.set_cons_succ]
      refine wpAnyH_ready (rs := [6]) (by kernel_rfl) (by simp) ?_
      refine AllReadyH.cons (o := ?_) ?_ (fun K hK => ?_) AllReadyH.nil
      rotate_left 1
      ·(simp only [List.getElem?_toArray, List.getElem?_cons_succ, List.getElem?_cons_zero]; rfl)
      (have cu := bOver_at (c := 128) H15.out.2.1 (fun q hq => by simp only [List.mem_cons] at hq; have h1 := heap_lt H15.out.1.s; have h2 := heap_lt H15.out.1.r; have h3 := H15.out.1.m.c.lt; have h4 := H15.out.1.m.d.lt; have h5 := H15.out.1.lt; rcases hq with e|e|e|e|e; (· omega); (· omega); (· omega); (· omega); (· have h6 := HFF.out q e; omega)) H15.out.2.2 (by rw [HG.out.n]; exact hk) hfk; have CU := Lib.hid cu; clear cu; go_simp; refine CU.out.mono ?_; rintro e w5 ⟨rfl, hb5, hc5⟩; have H14 := Lib.hid (And.intro (H15.out.1.chg hc5 (fun q hq => .inl hq) HML.out) hb5); clear hb5 hc5)
      refine hK.out _ _ ?_ (fun hHeld => ?_)
      ·exact ⟨by rw [HV.out]; exact rowCells H14.out.1.s, cell_of_block H14.out.1.o 2⟩
      clear hK K
      try simp only [Act.put, List.setIfInBounds_toArray, List.set_cons_zero, List.set_cons_succ]
      refine wpAnyH_take (i := 7) (oi := ?_) (v := ?_) ?_ (by kernel_rfl) (by kernel_rfl) (by kernel_rfl) ?_ (Or.inl ⟨?_, ?_⟩) hHeld ?_
      rotate_left 2
      ·(simp only [List.getElem?_toArray, List.getElem?_cons_succ, List.getElem?_cons_zero]; rfl)
      ·exact fun _ _ _ h => h
      ·rfl
      ·(rintro W' ⟨s0, s2⟩; go_simp; first | done | with_reducible rfl)
      try simp only [Act.put, List.setIfInBounds_toArray, List.set_cons_zero, List.set_cons_succ]
      have hrn : (storeCells ⟨rb, 0, none⟩ (fnRow 18 V).toList).run Tryz.prog w5 = .ok () (w5.setCells rb 0 (fnRow 18 V).toList) := run_storeCells_row (P := Tryz.prog) (U := V) (V := zState) (N := 18) (T := 72) H14.out.1.r (by omega) (fun i _ => by rw [HV.out]; exact St.one _ _ _ i) (o := 0) (n := 18)
      have hrs := fnRow_size 18 V
      have hsl := setCells_laid (o := 0) (n := 18) (U := V) (V := zState) (N := 18) (t := 72) H14.out.1.r
      generalize w5.setCells rb 0 (fnRow 18 V).toList = w8 at hrn hsl
      have H8 := Lib.hid hsl
      clear hsl
      refine wpAnyH_ready (rs := [8]) (by kernel_rfl) (by simp) ?_
      refine AllReadyH.cons (o := ?_) ?_ (fun K hK => ?_) AllReadyH.nil
      rotate_left 1
      ·(simp only [List.getElem?_toArray, List.getElem?_cons_succ, List.getElem?_cons_zero]; rfl)
      (go_simp)
      refine hK.out _ _ ?_ (fun hHeld => ?_)
      ·exact ⟨by rw [HV.out]; exact rowCells (H14.out.1.stored H8.out.1 H8.out.2).s, cell_of_block (H14.out.1.stored H8.out.1 H8.out.2).o 2⟩
      clear hK K
      try simp only [Act.put, List.setIfInBounds_toArray, List.set_cons_zero, List.set_cons_succ]
      clear hrn hrs
      refine wpAnyH_take (i := 9) (oi := ?_) (v := ?_) ?_ (by kernel_rfl) (by kernel_rfl) (by kernel_rfl) ?_ (Or.inl ⟨?_, ?_⟩) hHeld ?_
      rotate_left 2
      ·(simp only [List.getElem?_toArray, List.getElem?_cons_succ, List.getElem?_cons_zero]; rfl)
      ·exact fun _ _ _ h => h
      ·rfl
      ·(rintro W' ⟨s0, s2⟩; go_simp; first | done | with_reducible rfl)
      try simp only [Act.put, List.setIfInBounds_toArray, List.set_cons_zero, List.set_cons_succ]
      refine wpAnyH_done (by kernel_rfl) ?_ _
      have h9 := H14.out.1.stored H8.out.1 H8.out.2
      have h10 := H14.out.2.chg H8.out.2 (by simp)
      rw [HV.out] at h9
      have H9 := Lib.hid (And.intro h9 h10)
      clear h9 h10
      go_wp2_with fail
      exact dn_ret H9.out.1 H9.out.2 HU.out.1 HU.out.2.1 HU.out.2.2 (fun b => by have := HR.out.2.1 b; show S.c b ≤ K + 1; omega) HR.out.2.2.2 rfl rfl rfl
   ·have d0 : ((d : Int) % 6 == 0) = false := by simp; omega
    have d1 : ((d : Int) % 6 == 1) = false := by simp; omega
    have d2 : ((d : Int) % 6 == 2) = true := by simp; omega
    have d3 : ((d : Int) % 6 == 3) = false := by simp; omega
    have d4 : ((d : Int) % 6 == 4) = false := by simp; omega
    clear hm
    rcases hsel with rfl | ⟨k, hk, hck, rfl⟩
    ·go_upto_region 39 with fail
     clear d0 d1 d2 d3 d4 y0
     go_wp2_with (first
      | (refine wpList_loadV rfl (.tmp 4) rfl Tryz.underlying72 rfl infoState rfl (rowCells H10.out.1.s) ?_)
      | (refine wpList_storeRow (t := 72) (T := 72) (b := rb) (o := 0) (n := 18) (N := 18) (V := zState) (U := S.v mc2 md2) rfl (.tmp 6) (.tmp 202) rfl rfl rfl H10.out.1.r (by omega) infoState (fun i _ => S.one _ _ i) ?_; intro w8 hr8 hc8; have H8 := Lib.hid (And.intro hr8 hc8); clear hr8 hc8))
     exact dn_ret (H10.out.1.stored H8.out.1 H8.out.2) (H10.out.2.chg H8.out.2 (by simp)) HG.out (KeptB.rfl' B) HR.out.1 (fun b => by have := HR.out.2.1 b; omega) HR.out.2.2.2 rfl rfl rfl
    ·have c0 : wr.cell? ⟨sb, 0, none⟩ = some (.map (some mc2)) := (cell_fn H10.out.1.s (by omega)).trans rfl
     obtain ⟨n, hn⟩ : ∃ n, n = S.c k := ⟨_, rfl⟩
     have hnK : n ≤ 1000 := by have := HR.out.2.1 k; have := HR.out.2.2.1; omega
     have lk := (H10.out.1.m.c.look (t := 68) Tryz.underlying3 Tryz.underlying68 (zero_int wr) rfl hk hN.2).2
     rw [show S.cV k = some (.int .i64 (n : Int)) from by unfold St.cV; rw [if_neg hck, hn]] at lk
     simp only [Option.getD_some] at lk
     obtain ⟨w4, hrun, hm4, ht4⟩ := H10.out.1.m.c.put (t := 68) (k := k) (v := .int .i64 ((n : Int) + 1)) Tryz.underlying3 Tryz.underlying68 hk hN.2 rfl
     have hc4 := mapTurned_chg ht4
     have HU := Lib.hid (HR.out.1.up HG.out hk hck (by omega))
     have H11 := Lib.hid (H10.out.1.to (S' := S.set k (n + 1)) (hc4.mono (by simp)) ⟨hm4.congr (fun i _ => by have := St.cV_set (S := S) (k := k) (n := n + 1) (by omega) i; rw [← this]; rfl), (H10.out.1.m.d.chg hc4 (by simp; exact fun q => H10.out.1.m.ne q.symm)).congr (fun i _ => St.dV_set (by omega) hck i), H10.out.1.m.ne⟩ (fun i => rfl))
     have hb4 := H10.out.2.chg hc4 (by simp)
     have H12 := Lib.hid hb4
     have HN := Lib.hid hn
     clear hm4 ht4 hc4 hb4 hn
     go_upto_region 27 with fail
     clear d0 d1 d2 d3 d4 y0 c0 lk hrun
     have H13 := Lib.hid (And.intro (H11.out.chg (Chg.refl [] w4).drew (by simp) HML.out) (H12.out.chg (Chg.refl [] w4).drew (by simp)))
     have cu := bUp_at H13.out.2 (fun q hq => by simp only [List.mem_cons] at hq; have h1 := heap_lt H13.out.1.s; have h2 := heap_lt H13.out.1.r; have h3 := H13.out.1.m.c.lt; have h4 := H13.out.1.m.d.lt; have h5 := H13.out.1.lt; rcases hq with e|e|e|e|e; (· omega); (· omega); (· omega); (· omega); (· have h6 := HFF.out q e; omega)) (k : Int)
     rw [HU.out.1] at cu
     have CU := Lib.hid cu
     obtain ⟨V, hV⟩ : ∃ V, V = S.v mc2 md2 := ⟨_, rfl⟩
     have HV := Lib.hid hV
     have hcl : ∀ j, j < 18 → (w4).cell? ⟨sb, 0 + j, none⟩ = some (V j) := by rw [hV]; exact rowCells H11.out.s
     clear cu hV
     refine wp_region_held_drew (S := fun W' => ∀ j, j < 18 → W'.cell? ⟨sb, 0 + j, none⟩ = some (V j)) (by kernel_rfl) (by exact hcl) (fun hHeld => ?_)
     clear hcl
     refine wpAnyH_take (i := 0) (oi := ?_) (v := .agg (fnRow 18 V)) ?_ (by kernel_rfl) (by kernel_rfl) (by kernel_rfl) ?_ (yields_row (n := 18) (V := V) Tryz.underlying72 rfl (by kernel_rfl) ?_ (.tmp 4) ?_ ?_ (fun w' hw => hw)) hHeld ?_
     rotate_left 1
     ·(simp only [List.getElem?_toArray, List.getElem?_cons_succ, List.getElem?_cons_zero]; rfl)
     ·exact fun _ _ _ h => h
     ·rfl
     ·rfl
     ·(first | rfl | simp [Act.eval, Act.put])
     try simp only [Act.put, List.setIfInBounds_toArray, List.set_cons_zero, List.set_cons_succ]
     refine wpAnyH_take (i := 1) (oi := ?_) (v := ?_) ?_ (by kernel_rfl) (by kernel_rfl) (by kernel_rfl) ?_ (Or.inl ⟨?_, ?_⟩) hHeld ?_
     rotate_left 2
     ·(simp only [List.getElem?_toArray, List.getElem?_cons_succ, List.getElem?_cons_zero]; rfl)
     ·exact fun _ _ _ h => h
     ·rfl
     ·(rintro W' hSw; go_simp; first | done | with_reducible rfl)
     try simp only [Act.put, List.setIfInBounds_toArray, List.set_cons_zero, List.set_cons_succ]
     refine wpAnyH_take (i := 2) (oi := ?_) (v := ?_) ?_ (by kernel_rfl) (by kernel_rfl) (by kernel_rfl) ?_ (Or.inl ⟨?_, ?_⟩) hHeld ?_
     rotate_left 2
     ·(simp only [List.getElem?_toArray, List.getElem?_cons_succ, List.getElem?_cons_zero]; rfl)
     ·exact fun _ _ _ h => h
     ·rfl
     ·(rintro W' hSw; go_simp; first | done | with_reducible rfl)
     try simp only [Act.put, List.setIfInBounds_toArray, List.set_cons_zero, List.set_cons_succ]
     refine wpAnyH_ready (rs := [3]) (by kernel_rfl) (by simp) ?_
     refine AllReadyH.cons (o := ?_) ?_ (fun K hK => ?_) AllReadyH.nil
     rotate_left 1
     ·(simp only [List.getElem?_toArray, List.getElem?_cons_succ, List.getElem?_cons_zero]; rfl)
     (go_simp; refine CU.out.mono ?_; rintro e w5 ⟨rfl, hb5, hc5⟩; have H14 := Lib.hid (And.intro (H13.out.1.chg hc5 (fun q hq => .inl hq) HML.out) hb5); clear hb5 hc5)
     refine hK.out _ _ ?_ (fun hHeld => ?_)
     ·(rw [HV.out]; exact rowCells H14.out.1.s)
     clear hK K
     try simp only [Act.put, List.setIfInBounds_toArray, List.set_cons_zero, List.set_cons_succ]
     refine wpAnyH_take (i := 4) (oi := ?_) (v := ?_) ?_ (by kernel_rfl) (by kernel_rfl) (by kernel_rfl) ?_ (Or.inl ⟨?_, ?_⟩) hHeld ?_
     rotate_left 2
     ·(simp only [List.getElem?_toArray, List.getElem?_cons_succ, List.getElem?_cons_zero]; rfl)
     ·exact fun _ _ _ h => h
     ·rfl
     ·(rintro W' hSw; go_simp; first | done | with_reducible rfl)
     try simp only [Act.put, List.setIfInBounds_toArray, List.set_cons_zero, List.set_cons_succ]
     have hrn : (storeCells ⟨rb, 0, none⟩ (fnRow 18 V).toList).run Tryz.prog w5 = .ok () (w5.setCells rb 0 (fnRow 18 V).toList) := run_storeCells_row (P := Tryz.prog) (U := V) (V := zState) (N := 18) (T := 72) H14.out.1.r (by omega) (fun i _ => by rw [HV.out]; exact St.one _ _ _ i) (o := 0) (n := 18)
     have hrs := fnRow_size 18 V
     have hsl := setCells_laid (o := 0) (n := 18) (U := V) (V := zState) (N := 18) (t := 72) H14.out.1.r
     generalize w5.setCells rb 0 (fnRow 18 V).toList = w8 at hrn hsl
     have H8 := Lib.hid hsl
     clear hsl
     refine wpAnyH_ready (rs := [5]) (by kernel_rfl) (by simp) ?_
     refine AllReadyH.cons (o := ?_) ?_ (fun K hK => ?_) AllReadyH.nil
     rotate_left 1
     ·(simp only [List.getElem?_toArray, List.getElem?_cons_succ, List.getElem?_cons_zero]; rfl)
     (go_simp)
     refine hK.out _ _ ?_ (fun hHeld => ?_)
     ·(rw [HV.out]; exact rowCells (H14.out.1.stored H8.out.1 H8.out.2).s)
     clear hK K
     try simp only [Act.put, List.setIfInBounds_toArray, List.set_cons_zero, List.set_cons_succ]
     clear hrn hrs
     refine wpAnyH_take (i := 6) (oi := ?_) (v := ?_) ?_ (by kernel_rfl) (by kernel_rfl) (by kernel_rfl) ?_ (Or.inl ⟨?_, ?_⟩) hHeld ?_
     rotate_left 2
     ·(simp only [List.getElem?_toArray, List.getElem?_cons_succ, List.getElem?_cons_zero]; rfl)
     ·exact fun _ _ _ h => h
     ·rfl
     ·(rintro W' hSw; go_simp; first | done | with_reducible rfl)
     try simp only [Act.put, List.setIfInBounds_toArray, List.set_cons_zero, List.set_cons_succ]
     refine wpAnyH_done (by kernel_rfl) ?_ _
     have h9 := H14.out.1.stored H8.out.1 H8.out.2
     have h10 := H14.out.2.chg H8.out.2 (by simp)
     rw [HV.out] at h9
     have H9 := Lib.hid (And.intro h9 h10)
     clear h9 h10
     go_wp2_with fail
     exact dn_ret H9.out.1 H9.out.2 HU.out.2.1 HU.out.2.2.1 (by rw [HN.out]; exact HU.out.2.2.2) (fun b => by have h1 := HR.out.2.1 b; have h2 := HR.out.2.1 k; show (if b = k then n + 1 else S.c b) ≤ K + 1; have := HN.out; split <;> omega) HR.out.2.2.2 rfl rfl rfl
   ·have d0 : ((d : Int) % 6 == 0) = false := by simp; omega
    have d1 : ((d : Int) % 6 == 1) = false := by simp; omega
    have d2 : ((d : Int) % 6 == 2) = false := by simp; omega
    have d3 : ((d : Int) % 6 == 3) = true := by simp; omega
    have d4 : ((d : Int) % 6 == 4) = false := by simp; omega
    clear hm
    rcases hsel with rfl | ⟨k, hk, hck, rfl⟩
    ·go_upto_region 39 with fail
     clear d0 d1 d2 d3 d4 y0
     go_wp2_with (first
      | (refine wpList_loadV rfl (.tmp 4) rfl Tryz.underlying72 rfl infoState rfl (rowCells H10.out.1.s) ?_)
      | (refine wpList_storeRow (t := 72) (T := 72) (b := rb) (o := 0) (n := 18) (N := 18) (V := zState) (U := S.v mc2 md2) rfl (.tmp 6) (.tmp 202) rfl rfl rfl H10.out.1.r (by omega) infoState (fun i _ => S.one _ _ i) ?_; intro w8 hr8 hc8; have H8 := Lib.hid (And.intro hr8 hc8); clear hr8 hc8))
     exact dn_ret (H10.out.1.stored H8.out.1 H8.out.2) (H10.out.2.chg H8.out.2 (by simp)) HG.out (KeptB.rfl' B) HR.out.1 (fun b => by have := HR.out.2.1 b; omega) HR.out.2.2.2 rfl rfl rfl
    ·have c0 : wr.cell? ⟨sb, 0, none⟩ = some (.map (some mc2)) := (cell_fn H10.out.1.s (by omega)).trans rfl
     have c1 : wr.cell? ⟨sb, 1, none⟩ = some (.map (some md2)) := (cell_fn H10.out.1.s (by omega)).trans rfl
     obtain ⟨m, hmm⟩ : ∃ m, S.c k = m + 1 := ⟨S.c k - 1, by omega⟩
     have hnK : m ≤ 1000 := by have := HR.out.2.1 k; have := HR.out.2.2.1; omega
     have lk := (H10.out.1.m.c.look (t := 68) Tryz.underlying3 Tryz.underlying68 (zero_int wr) rfl hk hN.2).2
     rw [show S.cV k = some (.int .i64 ((m : Int) + 1)) from by unfold St.cV; rw [if_neg hck, hmm]; rfl] at lk
     simp only [Option.getD_some] at lk
     obtain ⟨w4, hrun, hm4, ht4⟩ := H10.out.1.m.c.put (t := 68) (k := k) (v := .int .i64 (m : Int)) Tryz.underlying3 Tryz.underlying68 hk hN.2 rfl
     have hc4 := mapTurned_chg ht4
     have HU := Lib.hid (HR.out.1.dn HG.out hk hck)
     have c04 : w4.cell? ⟨sb, 0, none⟩ = some (.map (some mc2)) := (hc4.cell (p := ⟨sb, 0, none⟩) (heap_lt H10.out.1.s) (by have := H10.out.1.lt; simp; omega)).trans c0
     have c14 : w4.cell? ⟨sb, 1, none⟩ = some (.map (some md2)) := (hc4.cell (p := ⟨sb, 1, none⟩) (heap_lt H10.out.1.s) (by have := H10.out.1.lt; simp; omega)).trans c1
     have lk4 := (hm4.look (t := 68) Tryz.underlying3 Tryz.underlying68 (zero_int w4) rfl hk hN.2).2
     rw [if_pos rfl] at lk4
     simp only [Option.getD_some] at lk4
     have hmd4 := H10.out.1.m.d.chg hc4 (by simp; exact fun q => H10.out.1.m.ne q.symm)
     have hb4 := H10.out.2.chg hc4 (by simp)
     have HMM := Lib.hid hmm
     by_cases hm0 : m = 0
     ·subst hm0
      rw [show ((0 : Nat) : Int) = 0 from rfl] at hrun lk lk4
      obtain ⟨w5d, hrun5, hm5, ht5⟩ := hm4.del (t := 68) (k := k) Tryz.underlying3 Tryz.underlying68 hk hN.2 0
      have hc5 := mapTurned_chg ht5
      have hmd5 := hmd4.chg hc5 (by simp; exact fun q => H10.out.1.m.ne q.symm)
      have c15 : w5d.cell? ⟨sb, 1, none⟩ = some (.map (some md2)) := (hc5.cell (p := ⟨sb, 1, none⟩) (by have := heap_lt H10.out.1.s; exact Nat.lt_of_lt_of_le this hc4.size) (by have := H10.out.1.lt; simp; omega)).trans c14
      obtain ⟨w6d, hrun6, hm6, ht6⟩ := hmd5.del (t := 69) (k := k) Tryz.underlying3 Tryz.underlying69 hk hN.2 0
      have hc6 := mapTurned_chg ht6
      have H11 := Lib.hid (H10.out.1.to (S' := S.set k 0) ((hc4.mono (by simp)).trans ((hc5.mono (by simp)).trans (hc6.mono (by simp)))) ⟨(hm5.chg hc6 (by simp; exact H10.out.1.m.ne)).congr (fun i _ => by rw [← St.cV_del]; by_cases e : i = k <;> simp [e]), hm6.congr (fun i _ => St.dV_del i), H10.out.1.m.ne⟩ (fun i => rfl))
      have H12 := Lib.hid ((hb4.chg hc5 (by simp)).chg hc6 (by simp))
      clear hm4 ht4 hc4 hb4 hmm hm5 ht5 hc5 hmd4 hmd5 hm6 ht6 hc6
      go_upto_region 34 with fail
      clear d0 d1 d2 d3 d4 y0 c0 c1 lk hrun c04 c14 lk4 hrun5 c15 hrun6
      have H13 := Lib.hid (And.intro (H11.out.chg (Chg.refl [] w6d).drew (by simp) HML.out) (H12.out.chg (Chg.refl [] w6d).drew (by simp)))
      have cu := bDown_at H13.out.2 (fun q hq => by simp only [List.mem_cons] at hq; have h1 := heap_lt H13.out.1.s; have h2 := heap_lt H13.out.1.r; have h3 := H13.out.1.m.c.lt; have h4 := H13.out.1.m.d.lt; have h5 := H13.out.1.lt; rcases hq with e|e|e|e|e; (· omega); (· omega); (· omega); (· omega); (· have h6 := HFF.out q e; omega)) (k : Int)
      rw [HU.out.1] at cu
      have CU := Lib.hid cu
      obtain ⟨V, hV⟩ : ∃ V, V = S.v mc2 md2 := ⟨_, rfl⟩
      have HV := Lib.hid hV
      have hcl : ∀ j, j < 18 → (w6d).cell? ⟨sb, 0 + j, none⟩ = some (V j) := by rw [hV]; exact rowCells H11.out.s
      clear cu hV
      refine wp_region_held_drew (S := fun W' => ∀ j, j < 18 → W'.cell? ⟨sb, 0 + j, none⟩ = some (V j)) (by kernel_rfl) (by exact hcl) (fun hHeld => ?_)
      clear hcl
      refine wpAnyH_take (i := 0) (oi := ?_) (v := .agg (fnRow 18 V)) ?_ (by kernel_rfl) (by kernel_rfl) (by kernel_rfl) ?_ (yields_row (n := 18) (V := V) Tryz.underlying72 rfl (by kernel_rfl) ?_ (.tmp 4) ?_ ?_ (fun w' hw => hw)) hHeld ?_
      rotate_left 1
      ·(simp only [List.getElem?_toArray, List.getElem?_cons_succ, List.getElem?_cons_zero]; rfl)
      ·exact fun _ _ _ h => h
      ·rfl
      ·rfl
      ·(first | rfl | simp [Act.eval, Act.put])
      try simp only [Act.put, List.setIfInBounds_toArray, List.set_cons_zero, List.set_cons_succ]
      refine wpAnyH_take (i := 1) (oi := ?_) (v := ?_) ?_ (by kernel_rfl) (by kernel_rfl) (by kernel_rfl) ?_ (Or.inl ⟨?_, ?_⟩) hHeld ?_
      rotate_left 2
      ·(simp only [List.getElem?_toArray, List.getElem?_cons_succ, List.getElem?_cons_zero]; rfl)
      ·exact fun _ _ _ h => h
      ·rfl
      ·(rintro W' hSw; go_simp; first | done | with_reducible rfl)
      try simp only [Act.put, List.setIfInBounds_toArray, List.set_cons_zero, List.set_cons_succ]
      refine wpAnyH_take (i := 2) (oi := ?_) (v := ?_) ?_ (by kernel_rfl) (by kernel_rfl) (by kernel_rfl) ?_ (Or.inl ⟨?_, ?_⟩) hHeld ?_
      rotate_left 2
      ·(simp only [List.getElem?_toArray, List.getElem?_cons_succ, List.getElem?_cons_zero]; rfl)
      ·exact fun _ _ _ h => h
      ·rfl
      ·(rintro W' hSw; go_simp; first | done | with_reducible rfl)
      try simp only [Act.put, List.setIfInBounds_toArray, List.set_cons_zero, List.set_cons_succ]
      refine wpAnyH_ready (rs := [3]) (by kernel_rfl) (by simp) ?_
      refine AllReadyH.cons (o := ?_) ?_ (fun K hK => ?_) AllReadyH.nil
      rotate_left 1
      ·(simp only [List.getElem?_toArray, List.getElem?_cons_succ, List.getElem?_cons_zero]; rfl)
      (go_simp; refine CU.out.mono ?_; rintro e w5 ⟨rfl, hb5, hc5⟩; have H14 := Lib.hid (And.intro (H13.out.1.chg hc5 (fun q hq => .inl hq) HML.out) hb5); clear hb5 hc5)
      refine hK.out _ _ ?_ (fun hHeld => ?_)
      ·(rw [HV.out]; exact rowCells H14.out.1.s)
      clear hK K
      try simp only [Act.put, List.setIfInBounds_toArray, List.set_cons_zero, List.set_cons_succ]
      refine wpAnyH_take (i := 4) (oi := ?_) (v := ?_) ?_ (by kernel_rfl) (by kernel_rfl) (by kernel_rfl) ?_ (Or.inl ⟨?_, ?_⟩) hHeld ?_
      rotate_left 2
      ·(simp only [List.getElem?_toArray, List.getElem?_cons_succ, List.getElem?_cons_zero]; rfl)
      ·exact fun _ _ _ h => h
      ·rfl
      ·(rintro W' hSw; go_simp; first | done | with_reducible rfl)
      try simp only [Act.put, List.setIfInBounds_toArray, List.set_cons_zero, List.set_cons_succ]
      have hrn : (storeCells ⟨rb, 0, none⟩ (fnRow 18 V).toList).run Tryz.prog w5 = .ok () (w5.setCells rb 0 (fnRow 18 V).toList) := run_storeCells_row (P := Tryz.prog) (U := V) (V := zState) (N := 18) (T := 72) H14.out.1.r (by omega) (fun i _ => by rw [HV.out]; exact St.one _ _ _ i) (o := 0) (n := 18)
      have hrs := fnRow_size 18 V
      have hsl := setCells_laid (o := 0) (n := 18) (U := V) (V := zState) (N := 18) (t := 72) H14.out.1.r
      generalize w5.setCells rb 0 (fnRow 18 V).toList = w8 at hrn hsl
      have H8 := Lib.hid hsl
      clear hsl
      refine wpAnyH_ready (rs := [5]) (by kernel_rfl) (by simp) ?_
      refine AllReadyH.cons (o := ?_) ?_ (fun K hK => ?_) AllReadyH.nil
      rotate_left 1
      ·(simp only [List.getElem?_toArray, List.getElem?_cons_succ, List.getElem?_cons_zero]; rfl)
      (go_simp)
      refine hK.out _ _ ?_ (fun hHeld => ?_)
      ·(rw [HV.out]; exact rowCells (H14.out.1.stored H8.out.1 H8.out.2).s)
      clear hK K
      try simp only [Act.put, List.setIfInBounds_toArray, List.set_cons_zero, List.set_cons_succ]
      clear hrn hrs
      refine wpAnyH_take (i := 6) (oi := ?_) (v := ?_) ?_ (by kernel_rfl) (by kernel_rfl) (by kernel_rfl) ?_ (Or.inl ⟨?_, ?_⟩) hHeld ?_
      rotate_left 2
      ·(simp only [List.getElem?_toArray, List.getElem?_cons_succ, List.getElem?_cons_zero]; rfl)
      ·exact fun _ _ _ h => h
      ·rfl
      ·(rintro W' hSw; go_simp; first | done | with_reducible rfl)
      try simp only [Act.put, List.setIfInBounds_toArray, List.set_cons_zero, List.set_cons_succ]
      refine wpAnyH_done (by kernel_rfl) ?_ _
      have h9 := H14.out.1.stored H8.out.1 H8.out.2
      have h10 := H14.out.2.chg H8.out.2 (by simp)
      rw [HV.out] at h9
      have H9 := Lib.hid (And.intro h9 h10)
      clear h9 h10
      go_wp2_with fail
      exact dn_ret H9.out.1 H9.out.2 HU.out.2.1 HU.out.2.2.1 (by have := HU.out.2.2.2; rw [show S.c k - 1 = 0 from by have := HMM.out; omega] at this; exact this) (fun b => by have h1 := HR.out.2.1 b; have h2 := HR.out.2.1 k; show (if b = k then 0 else S.c b) ≤ K + 1; have := HMM.out; split <;> omega) HR.out.2.2.2 rfl rfl rfl
     ·have hm0' : ((m : Int) == 0) = false := by simp; omega
      have H11 := Lib.hid (H10.out.1.to (S' := S.set k m) (hc4.mono (by simp)) ⟨hm4.congr (fun i _ => by rw [← St.cV_set hm0]), hmd4.congr (fun i _ => St.dV_set hm0 hck i), H10.out.1.m.ne⟩ (fun i => rfl))
      have H12 := Lib.hid hb4
      clear hm4 ht4 hc4 hb4 hmm hmd4
      go_upto_region 34 with fail
      clear d0 d1 d2 d3 d4 y0 c0 c1 lk hrun c04 c14 lk4 hm0'
      have H13 := Lib.hid (And.intro (H11.out.chg (Chg.refl [] w4).drew (by simp) HML.out) (H12.out.chg (Chg.refl [] w4).drew (by simp)))
      have cu := bDown_at H13.out.2 (fun q hq => by simp only [List.mem_cons] at hq; have h1 := heap_lt H13.out.1.s; have h2 := heap_lt H13.out.1.r; have h3 := H13.out.1.m.c.lt; have h4 := H13.out.1.m.d.lt; have h5 := H13.out.1.lt; rcases hq with e|e|e|e|e; (· omega); (· omega); (· omega); (· omega); (· have h6 := HFF.out q e; omega)) (k : Int)
      rw [HU.out.1] at cu
      have CU := Lib.hid cu
      obtain ⟨V, hV⟩ : ∃ V, V = S.v mc2 md2 := ⟨_, rfl⟩
      have HV := Lib.hid hV
      have hcl : ∀ j, j < 18 → (w4).cell? ⟨sb, 0 + j, none⟩ = some (V j) := by rw [hV]; exact rowCells H11.out.s
      clear cu hV
      refine wp_region_held_drew (S := fun W' => ∀ j, j < 18 → W'.cell? ⟨sb, 0 + j, none⟩ = some (V j)) (by kernel_rfl) (by exact hcl) (fun hHeld => ?_)
      clear hcl
      refine wpAnyH_take (i := 0) (oi := ?_) (v := .agg (fnRow 18 V)) ?_ (by kernel_rfl) (by kernel_rfl) (by kernel_rfl) ?_ (yields_row (n := 18) (V := V) Tryz.underlying72 rfl (by kernel_rfl) ?_ (.tmp 4) ?_ ?_ (fun w' hw => hw)) hHeld ?_
      rotate_left 1
      ·(simp only [List.getElem?_toArray, List.getElem?_cons_succ, List.getElem?_cons_zero]; rfl)
      ·exact fun _ _ _ h => h
      ·rfl
      ·rfl
      ·(first | rfl | simp [Act.eval, Act.put])
      try simp only [Act.put, List.setIfInBounds_toArray, List.set_cons_zero, List.set_cons_succ]
      refine wpAnyH_take (i := 1) (oi := ?_) (v := ?_) ?_ (by kernel_rfl) (by kernel_rfl) (by kernel_rfl) ?_ (Or.inl ⟨?_, ?_⟩) hHeld ?_
      rotate_left 2
      ·(simp only [List.getElem?_toArray, List.getElem?_cons_succ, List.getElem?_cons_zero]; rfl)
      ·exact fun _ _ _ h => h
      ·rfl
      ·(rintro W' hSw; go_simp; first | done | with_reducible rfl)
      try simp only [Act.put, List.setIfInBounds_toArray, List.set_cons_zero, List.set_cons_succ]
      refine wpAnyH_take (i := 2) (oi := ?_) (v := ?_) ?_ (by kernel_rfl) (by kernel_rfl) (by kernel_rfl) ?_ (Or.inl ⟨?_, ?_⟩) hHeld ?_
      rotate_left 2
      ·(simp only [List.getElem?_toArray, List.getElem?_cons_succ, List.getElem?_cons_zero]; rfl)
      ·exact fun _ _ _ h => h
      ·rfl
      ·(rintro W' hSw; go_simp; first | done | with_reducible rfl)
      try simp only [Act.put, List.setIfInBounds_toArray, List.set_cons_zero, List.set_cons_succ]
      refine wpAnyH_ready (rs := [3]) (by kernel_rfl) (by simp) ?_
      refine AllReadyH.cons (o := ?_) ?_ (fun K hK => ?_) AllReadyH.nil
      rotate_left 1
      ·(simp only [List.getElem?_toArray, List.getElem?_cons_succ, List.getElem?_cons_zero]; rfl)
      (go_simp; refine CU.out.mono ?_; rintro e w5 ⟨rfl, hb5, hc5⟩; have H14 := Lib.hid (And.intro (H13.out.1.chg hc5 (fun q hq => .inl hq) HML.out) hb5); clear hb5 hc5)
      refine hK.out _ _ ?_ (fun hHeld => ?_)
      ·(rw [HV.out]; exact rowCells H14.out.1.s)
      clear hK K
      try simp only [Act.put, List.setIfInBounds_toArray, List.set_cons_zero, List.set_cons_succ]
      refine wpAnyH_take (i := 4) (oi := ?_) (v := ?_) ?_ (by kernel_rfl) (by kernel_rfl) (by kernel_rfl) ?_ (Or.inl ⟨?_, ?_⟩) hHeld ?_
      rotate_left 2
      ·(simp only [List.getElem?_toArray, List.getElem?_cons_succ, List.getElem?_cons_zero]; rfl)
      ·exact fun _ _ _ h => h
      ·rfl
      ·(rintro W' hSw; go_simp; first | done | with_reducible rfl)
      try simp only [Act.put, List.setIfInBounds_toArray, List.set_cons_zero, List.set_cons_succ]
      have hrn : (storeCells ⟨rb, 0, none⟩ (fnRow 18 V).toList).run Tryz.prog w5 = .ok () (w5.setCells rb 0 (fnRow 18 V).toList) := run_storeCells_row (P := Tryz.prog) (U := V) (V := zState) (N := 18) (T := 72) H14.out.1.r (by omega) (fun i _ => by rw [HV.out]; exact St.one _ _ _ i) (o := 0) (n := 18)
      have hrs := fnRow_size 18 V
      have hsl := setCells_laid (o := 0) (n := 18) (U := V) (V := zState) (N := 18) (t := 72) H14.out.1.r
      generalize w5.setCells rb 0 (fnRow 18 V).toList = w8 at hrn hsl
      have H8 := Lib.hid hsl
      clear hsl
      refine wpAnyH_ready (rs := [5]) (by kernel_rfl) (by simp) ?_
      refine AllReadyH.cons (o := ?_) ?_ (fun K hK => ?_) AllReadyH.nil
      rotate_left 1
      ·(simp only [List.getElem?_toArray, List.getElem?_cons_succ, List.getElem?_cons_zero]; rfl)
      (go_simp)
      refine hK.out _ _ ?_ (fun hHeld => ?_)
      ·(rw [HV.out]; exact rowCells (H14.out.1.stored H8.out.1 H8.out.2).s)
      clear hK K
      try simp only [Act.put, List.setIfInBounds_toArray, List.set_cons_zero, List.set_cons_succ]
      clear hrn hrs
      refine wpAnyH_take (i := 6) (oi := ?_) (v := ?_) ?_ (by kernel_rfl) (by kernel_rfl) (by kernel_rfl) ?_ (Or.inl ⟨?_, ?_⟩) hHeld ?_
      rotate_left 2
      ·(simp only [List.getElem?_toArray, List.getElem?_cons_succ, List.getElem?_cons_zero]; rfl)
      ·exact fun _ _ _ h => h
      ·rfl
      ·(rintro W' hSw; go_simp; first | done | with_reducible rfl)
      try simp only [Act.put, List.setIfInBounds_toArray, List.set_cons_zero, List.set_cons_succ]
      refine wpAnyH_done (by kernel_rfl) ?_ _
      have h9 := H14.out.1.stored H8.out.1 H8.out.2
      have h10 := H14.out.2.chg H8.out.2 (by simp)
      rw [HV.out] at h9
      have H9 := Lib.hid (And.intro h9 h10)
      clear h9 h10
      go_wp2_with fail
      exact dn_ret H9.out.1 H9.out.2 HU.out.2.1 HU.out.2.2.1 (by have := HU.out.2.2.2; rw [show S.c k - 1 = m from by have := HMM.out; omega] at this; exact this) (fun b => by have h1 := HR.out.2.1 b; have h2 := HR.out.2.1 k; show (if b = k then m else S.c b) ≤ K + 1; have := HMM.out; split <;> omega) HR.out.2.2.2 rfl rfl rfl
   ·have d0 : ((d : Int) % 6 == 0) = false := by simp; omega
    have d1 : ((d : Int) % 6 == 1) = false := by simp; omega
    have d2 : ((d : Int) % 6 == 2) = false := by simp; omega
    have d3 : ((d : Int) % 6 == 3) = false := by simp; omega
    have d4 : ((d : Int) % 6 == 4) = true := by simp; omega
    clear hm
    rcases hsel with rfl | ⟨k, hk, hck, rfl⟩
    ·have hx6 : x % 6 < 6 := Nat.mod_lt _ (by omega)
     have y2 : wr.cell? ⟨ob, 2, none⟩ = some (.int .u16 (x : Int)) := cell_of_block H10.out.1.o 2
     have em : ((x : Int) % 6) = ((x % 6 : Nat) : Int) := by omega
     obtain ⟨i, hi⟩ : ∃ i, i = x % 6 := ⟨_, rfl⟩
     rw [← hi] at em hx6
     clear hi
     obtain ⟨n, hn, hnN, hn2⟩ : ∃ n : Nat, max (-1) 0 = (n : Int) ∧ n < N ∧ (n = 0 ∨ 2 ≤ n ∧ n < B.T.n) := ⟨0, by decide, by omega, .inl rfl⟩
     have cs : wr.cell? ⟨sb, 2 + (2 + i), none⟩ = some (.int .i64 (S.r (2 + i) : Int)) := (cell_fn H10.out.1.s (by omega)).trans (by unfold St.v; rw [if_neg (by omega), if_neg (by omega), if_pos (by omega), show 2 + (2 + i) - 2 = 2 + i from by omega])
     have fs : wr.frozen? ⟨sb, 2 + (2 + i), none⟩ = false := frozen_of_block H10.out.1.s _
     have HU := Lib.hid (HR.out.1.setRoot HG.out (i := 2 + i) (b := n) (by omega) hnN)
     have H11 := Lib.hid (H10.out.1.root (i := 2 + i) (n := n) (by omega))
     have H12 := Lib.hid (H10.out.2.chg ((Chg.refl [sb] wr).setCell (p := ⟨sb, 2 + (2 + i), none⟩) (.inl (by simp)) (.int .i64 (n : Int))) (by simp))
     go_upto_region 38 with fail
     have HNX := Lib.hid hn
     clear hn cs fs y0 y2 d0 d1 d2 d3 d4
     generalize wr.setCell _ _ = w4 at *
     have H13 := Lib.hid (And.intro (H11.out.chg (Chg.refl [] w4).drew (by simp) HML.out) (H12.out.chg (Chg.refl [] w4).drew (by simp)))
     have cu := bSetRoot_at H13.out.2 (fun q hq => by simp only [List.mem_cons] at hq; have h1 := heap_lt H13.out.1.s; have h2 := heap_lt H13.out.1.r; have h3 := H13.out.1.m.c.lt; have h4 := H13.out.1.m.d.lt; have h5 := H13.out.1.lt; rcases hq with e|e|e|e|e; (· omega); (· omega); (· omega); (· omega); (· have h6 := HFF.out q e; omega)) (i := 2 + i) (b := n) (by omega) hn2
     rw [show ((2 + i : Nat) : Int) = 2 + (i : Int) from by omega] at cu
     have CU := Lib.hid cu
     obtain ⟨V, hV⟩ : ∃ V, V = (S.root (2 + i) n).v mc2 md2 := ⟨_, rfl⟩
     have HV := Lib.hid hV
     have hcl : ∀ j, j < 18 → (w4).cell? ⟨sb, 0 + j, none⟩ = some (V j) := by rw [hV]; exact rowCells H11.out.s
     clear cu hV
     refine wp_region_held_drew (S := fun W' => ∀ j, j < 18 → W'.cell? ⟨sb, 0 + j, none⟩ = some (V j)) (by kernel_rfl) (by exact hcl) (fun hHeld => ?_)
     refine wpAnyH_take (i := 0) (oi := ?_) (v := .agg (fnRow 18 V)) ?_ (by kernel_rfl) (by kernel_rfl) (by kernel_rfl) ?_ (yields_row (n := 18) (V := V) Tryz.underlying72 rfl (by kernel_rfl) ?_ (.tmp 4) ?_ ?_ (fun w' hw => hw)) hHeld ?_
     rotate_left 1
     ·(simp only [List.getElem?_toArray, List.getElem?_cons_succ, List.getElem?_cons_zero]; rfl)
     ·exact fun _ _ _ h => h
     ·rfl
     ·rfl
     ·(first | rfl | simp [Act.eval, Act.put])
     try simp only [Act.put, List.setIfInBounds_toArray, List.set_cons_zero, List.set_cons_succ]
     refine wpAnyH_take (i := 1) (oi := ?_) (v := ?_) ?_ (by kernel_rfl) (by kernel_rfl) (by kernel_rfl) ?_ (Or.inl ⟨?_, ?_⟩) hHeld ?_
     rotate_left 2
     ·(simp only [List.getElem?_toArray, List.getElem?_cons_succ, List.getElem?_cons_zero]; rfl)
     ·exact fun _ _ _ h => h
     ·rfl
     ·(rintro W' hSw; have hn := HNX.out; go_simp; first | done | with_reducible rfl)
     try simp only [Act.put, List.setIfInBounds_toArray, List.set_cons_zero, List.set_cons_succ]
     refine wpAnyH_take (i := 2) (oi := ?_) (v := ?_) ?_ (by kernel_rfl) (by kernel_rfl) (by kernel_rfl) ?_ (Or.inl ⟨?_, ?_⟩) hHeld ?_
     rotate_left 2
     ·(simp only [List.getElem?_toArray, List.getElem?_cons_succ, List.getElem?_cons_zero]; rfl)
     ·exact fun _ _ _ h => h
     ·rfl
     ·(rintro W' hSw; have hn := HNX.out; go_simp; first | done | with_reducible rfl)
     try simp only [Act.put, List.setIfInBounds_toArray, List.set_cons_zero, List.set_cons_succ]
     refine wpAnyH_take (i := 3) (oi := ?_) (v := ?_) ?_ (by kernel_rfl) (by kernel_rfl) (by kernel_rfl) ?_ (Or.inl ⟨?_, ?_⟩) hHeld ?_
     rotate_left 2
     ·(simp only [List.getElem?_toArray, List.getElem?_cons_succ, List.getElem?_cons_zero]; rfl)
     ·exact fun _ _ _ h => h
     ·rfl
     ·(rintro W' hSw; have hn := HNX.out; go_simp; first | done | with_reducible rfl)
     try simp only [Act.put, List.setIfInBounds_toArray, List.set_cons_zero, List.set_cons_succ]
     refine wpAnyH_ready (rs := [4]) (by kernel_rfl) (by simp) ?_
     refine AllReadyH.cons (o := ?_) ?_ (fun K hK => ?_) AllReadyH.nil
     rotate_left 1
     ·(simp only [List.getElem?_toArray, List.getElem?_cons_succ, List.getElem?_cons_zero]; rfl)
     (have hn := HNX.out; go_simp)
     refine hK.out _ _ ?_ (fun hHeld => ?_)
     ·exact hcl
     clear hK K
     try simp only [Act.put, List.setIfInBounds_toArray, List.set_cons_zero, List.set_cons_succ]
     refine wpAnyH_ready (rs := [5]) (by kernel_rfl) (by simp) ?_
     refine AllReadyH.cons (o := ?_) ?_ (fun K hK => ?_) AllReadyH.nil
     rotate_left 1
     ·(simp only [List.getElem?_toArray, List.getElem?_cons_succ, List.getElem?_cons_zero]; rfl)
     (go_simp; go_must (refine CU.out.mono ?_); clear hcl; rintro e w5 ⟨rfl, hb5, hc5⟩; have H14 := Lib.hid (And.intro (H13.out.1.chg hc5 (fun q hq => .inl hq) HML.out) hb5); clear hb5 hc5)
     refine hK.out _ _ ?_ (fun hHeld => ?_)
     ·(rw [HV.out]; exact rowCells H14.out.1.s)
     clear hK K
     try simp only [Act.put, List.setIfInBounds_toArray, List.set_cons_zero, List.set_cons_succ]
     refine wpAnyH_take (i := 6) (oi := ?_) (v := ?_) ?_ (by kernel_rfl) (by kernel_rfl) (by kernel_rfl) ?_ (Or.inl ⟨?_, ?_⟩) hHeld ?_
     rotate_left 2
     ·(simp only [List.getElem?_toArray, List.getElem?_cons_succ, List.getElem?_cons_zero]; rfl)
     ·exact fun _ _ _ h => h
     ·rfl
     ·(rintro W' hSw; have hn := HNX.out; go_simp; first | done | with_reducible rfl)
     try simp only [Act.put, List.setIfInBounds_toArray, List.set_cons_zero, List.set_cons_succ]
     have hrn : (storeCells ⟨rb, 0, none⟩ (fnRow 18 V).toList).run Tryz.prog w5 = .ok () (w5.setCells rb 0 (fnRow 18 V).toList) := run_storeCells_row (P := Tryz.prog) (U := V) (V := zState) (N := 18) (T := 72) H14.out.1.r (by omega) (fun i _ => by rw [HV.out]; exact St.one _ _ _ i) (o := 0) (n := 18)
     have hrs := fnRow_size 18 V
     have hsl := setCells_laid (o := 0) (n := 18) (U := V) (V := zState) (N := 18) (t := 72) H14.out.1.r
     generalize w5.setCells rb 0 (fnRow 18 V).toList = w8 at hrn hsl
     have H8 := Lib.hid hsl
     clear hsl
     refine wpAnyH_ready (rs := [7]) (by kernel_rfl) (by simp) ?_
     refine AllReadyH.cons (o := ?_) ?_ (fun K hK => ?_) AllReadyH.nil
     rotate_left 1
     ·(simp only [List.getElem?_toArray, List.getElem?_cons_succ, List.getElem?_cons_zero]; rfl)
     (go_simp)
     refine hK.out _ _ ?_ (fun hHeld => ?_)
     ·(rw [HV.out]; exact rowCells (H14.out.1.stored H8.out.1 H8.out.2).s)
     clear hK K
     try simp only [Act.put, List.setIfInBounds_toArray, List.set_cons_zero, List.set_cons_succ]
     clear hrn hrs
     refine wpAnyH_take (i := 8) (oi := ?_) (v := ?_) ?_ (by kernel_rfl) (by kernel_rfl) (by kernel_rfl) ?_ (Or.inl ⟨?_, ?_⟩) hHeld ?_
     rotate_left 2
     ·(simp only [List.getElem?_toArray, List.getElem?_cons_succ, List.getElem?_cons_zero]; rfl)
     ·exact fun _ _ _ h => h
     ·rfl
     ·(rintro W' hSw; have hn := HNX.out; go_simp; first | done | with_reducible rfl)
     try simp only [Act.put, List.setIfInBounds_toArray, List.set_cons_zero, List.set_cons_succ]
     refine wpAnyH_done (by kernel_rfl) ?_ _
     have h9 := H14.out.1.stored H8.out.1 H8.out.2
     have h10 := H14.out.2.chg H8.out.2 (by simp)
     rw [HV.out] at h9
     have H9 := Lib.hid (And.intro h9 h10)
     clear h9 h10
     go_wp2_with fail
     exact dn_ret H9.out.1 H9.out.2 HU.out.1 HU.out.2.1 HU.out.2.2 (fun b => by have := HR.out.2.1 b; show S.c b ≤ K + 1; omega) HR.out.2.2.2 rfl rfl rfl
    ·have hx6 : x % 6 < 6 := Nat.mod_lt _ (by omega)
     have y2 : wr.cell? ⟨ob, 2, none⟩ = some (.int .u16 (x : Int)) := cell_of_block H10.out.1.o 2
     have em : ((x : Int) % 6) = ((x % 6 : Nat) : Int) := by omega
     obtain ⟨i, hi⟩ : ∃ i, i = x % 6 := ⟨_, rfl⟩
     rw [← hi] at em hx6
     clear hi
     obtain ⟨n, hn, hnN, hn2⟩ : ∃ n : Nat, max ((k : Int)) 0 = (n : Int) ∧ n < N ∧ (n = 0 ∨ 2 ≤ n ∧ n < B.T.n) := ⟨k, by omega, hk, .inr ⟨(HG.out.may hk ((HR.out.1.live k hk).1 hck)).1, by rw [HG.out.n]; exact hk⟩⟩
     have cs : wr.cell? ⟨sb, 2 + (2 + i), none⟩ = some (.int .i64 (S.r (2 + i) : Int)) := (cell_fn H10.out.1.s (by omega)).trans (by unfold St.v; rw [if_neg (by omega), if_neg (by omega), if_pos (by omega), show 2 + (2 + i) - 2 = 2 + i from by omega])
     have fs : wr.frozen? ⟨sb, 2 + (2 + i), none⟩ = false := frozen_of_block H10.out.1.s _
     have HU := Lib.hid (HR.out.1.setRoot HG.out (i := 2 + i) (b := n) (by omega) hnN)
     have H11 := Lib.hid (H10.out.1.root (i := 2 + i) (n := n) (by omega))
     have H12 := Lib.hid (H10.out.2.chg ((Chg.refl [sb] wr).setCell (p := ⟨sb, 2 + (2 + i), none⟩) (.inl (by simp)) (.int .i64 (n : Int))) (by simp))
     go_upto_region 38 with fail
     have HNX := Lib.hid hn
     clear hn cs fs y0 y2 d0 d1 d2 d3 d4
     generalize wr.setCell _ _ = w4 at *
     have H13 := Lib.hid (And.intro (H11.out.chg (Chg.refl [] w4).drew (by simp) HML.out) (H12.out.chg (Chg.refl [] w4).drew (by simp)))
     have cu := bSetRoot_at H13.out.2 (fun q hq => by simp only [List.mem_cons] at hq; have h1 := heap_lt H13.out.1.s; have h2 := heap_lt H13.out.1.r; have h3 := H13.out.1.m.c.lt; have h4 := H13.out.1.m.d.lt; have h5 := H13.out.1.lt; rcases hq with e|e|e|e|e; (· omega); (· omega); (· omega); (· omega); (· have h6 := HFF.out q e; omega)) (i := 2 + i) (b := n) (by omega) hn2
     rw [show ((2 + i : Nat) : Int) = 2 + (i : Int) from by omega] at cu
     have CU := Lib.hid cu
     obtain ⟨V, hV⟩ : ∃ V, V = (S.root (2 + i) n).v mc2 md2 := ⟨_, rfl⟩
     have HV := Lib.hid hV
     have hcl : ∀ j, j < 18 → (w4).cell? ⟨sb, 0 + j, none⟩ = some (V j) := by rw [hV]; exact rowCells H11.out.s
     clear cu hV
     refine wp_region_held_drew (S := fun W' => ∀ j, j < 18 → W'.cell? ⟨sb, 0 + j, none⟩ = some (V j)) (by kernel_rfl) (by exact hcl) (fun hHeld => ?_)
     refine wpAnyH_take (i := 0) (oi := ?_) (v := .agg (fnRow 18 V)) ?_ (by kernel_rfl) (by kernel_rfl) (by kernel_rfl) ?_ (yields_row (n := 18) (V := V) Tryz.underlying72 rfl (by kernel_rfl) ?_ (.tmp 4) ?_ ?_ (fun w' hw => hw)) hHeld ?_
     rotate_left 1
     ·(simp only [List.getElem?_toArray, List.getElem?_cons_succ, List.getElem?_cons_zero]; rfl)
     ·exact fun _ _ _ h => h
     ·rfl
     ·rfl
     ·(first | rfl | simp [Act.eval, Act.put])
     try simp only [Act.put, List.setIfInBounds_toArray, List.set_cons_zero, List.set_cons_succ]
     refine wpAnyH_take (i := 1) (oi := ?_) (v := ?_) ?_ (by kernel_rfl) (by kernel_rfl) (by kernel_rfl) ?_ (Or.inl ⟨?_, ?_⟩) hHeld ?_
     rotate_left 2
     ·(simp only [List.getElem?_toArray, List.getElem?_cons_succ, List.getElem?_cons_zero]; rfl)
     ·exact fun _ _ _ h => h
     ·rfl
     ·(rintro W' hSw; have hn := HNX.out; go_simp; first | done | with_reducible rfl)
     try simp only [Act.put, List.setIfInBounds_toArray, List.set_cons_zero, List.set_cons_succ]
     refine wpAnyH_take (i := 2) (oi := ?_) (v := ?_) ?_ (by kernel_rfl) (by kernel_rfl) (by kernel_rfl) ?_ (Or.inl ⟨?_, ?_⟩) hHeld ?_
     rotate_left 2
     ·(simp only [List.getElem?_toArray, List.getElem?_cons_succ, List.getElem?_cons_zero]; rfl)
     ·exact fun _ _ _ h => h
     ·rfl
     ·(rintro W' hSw; have hn := HNX.out; go_simp; first | done | with_reducible rfl)
     try simp only [Act.put, List.setIfInBounds_toArray, List.set_cons_zero, List.set_cons_succ]
     refine wpAnyH_take (i := 3) (oi := ?_) (v := ?_) ?_ (by kernel_rfl) (by kernel_rfl) (by kernel_rfl) ?_ (Or.inl ⟨?_, ?_⟩) hHeld ?_
     rotate_left 2
     ·(simp only [List.getElem?_toArray, List.getElem?_cons_succ, List.getElem?_cons_zero]; rfl)
     ·exact fun _ _ _ h => h
     ·rfl
     ·(rintro W' hSw; have hn := HNX.out; go_simp; first | done | with_reducible rfl)
     try simp only [Act.put, List.setIfInBounds_toArray, List.set_cons_zero, List.set_cons_succ]
     refine wpAnyH_ready (rs := [4]) (by kernel_rfl) (by simp) ?_
     refine AllReadyH.cons (o := ?_) ?_ (fun K hK => ?_) AllReadyH.nil
     rotate_left 1
     ·(simp only [List.getElem?_toArray, List.getElem?_cons_succ, List.getElem?_cons_zero]; rfl)
     (have hn := HNX.out; go_simp)
     refine hK.out _ _ ?_ (fun hHeld => ?_)
     ·exact hcl
     clear hK K
     try simp only [Act.put, List.setIfInBounds_toArray, List.set_cons_zero, List.set_cons_succ]
     refine wpAnyH_ready (rs := [5]) (by kernel_rfl) (by simp) ?_
     refine AllReadyH.cons (o := ?_) ?_ (fun K hK => ?_) AllReadyH.nil
     rotate_left 1
     ·(simp only [List.getElem?_toArray, List.getElem?_cons_succ, List.getElem?_cons_zero]; rfl)
     (go_simp; go_must (refine CU.out.mono ?_); clear hcl; rintro e w5 ⟨rfl, hb5, hc5⟩; have H14 := Lib.hid (And.intro (H13.out.1.chg hc5 (fun q hq => .inl hq) HML.out) hb5); clear hb5 hc5)
     refine hK.out _ _ ?_ (fun hHeld => ?_)
     ·(rw [HV.out]; exact rowCells H14.out.1.s)
     clear hK K
     try simp only [Act.put, List.setIfInBounds_toArray, List.set_cons_zero, List.set_cons_succ]
     refine wpAnyH_take (i := 6) (oi := ?_) (v := ?_) ?_ (by kernel_rfl) (by kernel_rfl) (by kernel_rfl) ?_ (Or.inl ⟨?_, ?_⟩) hHeld ?_
     rotate_left 2
     ·(simp only [List.getElem?_toArray, List.getElem?_cons_succ, List.getElem?_cons_zero]; rfl)
     ·exact fun _ _ _ h => h
     ·rfl
     ·(rintro W' hSw; have hn := HNX.out; go_simp; first | done | with_reducible rfl)
     try simp only [Act.put, List.setIfInBounds_toArray, List.set_cons_zero, List.set_cons_succ]
     have hrn : (storeCells ⟨rb, 0, none⟩ (fnRow 18 V).toList).run Tryz.prog w5 = .ok () (w5.setCells rb 0 (fnRow 18 V).toList) := run_storeCells_row (P := Tryz.prog) (U := V) (V := zState) (N := 18) (T := 72) H14.out.1.r (by omega) (fun i _ => by rw [HV.out]; exact St.one _ _ _ i) (o := 0) (n := 18)
     have hrs := fnRow_size 18 V
     have hsl := setCells_laid (o := 0) (n := 18) (U := V) (V := zState) (N := 18) (t := 72) H14.out.1.r
     generalize w5.setCells rb 0 (fnRow 18 V).toList = w8 at hrn hsl
     have H8 := Lib.hid hsl
     clear hsl
     refine wpAnyH_ready (rs := [7]) (by kernel_rfl) (by simp) ?_
     refine AllReadyH.cons (o := ?_) ?_ (fun K hK => ?_) AllReadyH.nil
     rotate_left 1
     ·(simp only [List.getElem?_toArray, List.getElem?_cons_succ, List.getElem?_cons_zero]; rfl)
     (go_simp)
     refine hK.out _ _ ?_ (fun hHeld => ?_)
     ·(rw [HV.out]; exact rowCells (H14.out.1.stored H8.out.1 H8.out.2).s)
     clear hK K
     try simp only [Act.put, List.setIfInBounds_toArray, List.set_cons_zero, List.set_cons_succ]
     clear hrn hrs
     refine wpAnyH_take (i := 8) (oi := ?_) (v := ?_) ?_ (by kernel_rfl) (by kernel_rfl) (by kernel_rfl) ?_ (Or.inl ⟨?_, ?_⟩) hHeld ?_
     rotate_left 2
     ·(simp only [List.getElem?_toArray, List.getElem?_cons_succ, List.getElem?_cons_zero]; rfl)
     ·exact fun _ _ _ h => h
     ·rfl
     ·(rintro W' hSw; have hn := HNX.out; go_simp; first | done | with_reducible rfl)
     try simp only [Act.put, List.setIfInBounds_toArray, List.set_cons_zero, List.set_cons_succ]
     refine wpAnyH_done (by kernel_rfl) ?_ _
     have h9 := H14.out.1.stored H8.out.1 H8.out.2
     have h10 := H14.out.2.chg H8.out.2 (by simp)
     rw [HV.out] at h9
     have H9 := Lib.hid (And.intro h9 h10)
     clear h9 h10
     go_wp2_with fail
     exact dn_ret H9.out.1 H9.out.2 HU.out.1 HU.out.2.1 HU.out.2.2 (fun b => by have := HR.out.2.1 b; show S.c b ≤ K + 1; omega) HR.out.2.2.2 rfl rfl rfl
   ·have d0 : ((d : Int) % 6 == 0) = false := by simp; omega
    have d1 : ((d : Int) % 6 == 1) = false := by simp; omega
    have d2 : ((d : Int) % 6 == 2) = false := by simp; omega
    have d3 : ((d : Int) % 6 == 3) = false := by simp; omega
    have d4 : ((d : Int) % 6 == 4) = false := by simp; omega
    clear hm
    have hx8 : x % 8 < 8 := Nat.mod_lt _ (by omega)
    have y1 : wr.cell? ⟨ob, 1, none⟩ = some (.int .i64 a) := cell_of_block H10.out.1.o 1
    have y2 : wr.cell? ⟨ob, 2, none⟩ = some (.int .u16 (x : Int)) := cell_of_block H10.out.1.o 2
    have em : ((x : Int) % 8) = ((x % 8 : Nat) : Int) := by omega
    obtain ⟨i, hi⟩ : ∃ i, i = x % 8 := ⟨_, rfl⟩
    rw [← hi] at em hx8
    clear hi
    have cs : wr.cell? ⟨sb, 10 + i, none⟩ = some (.int .u64 (S.m i : Int)) := (cell_fn H10.out.1.s (by omega)).trans (by unfold St.v; rw [if_neg (by omega), if_neg (by omega), if_neg (by omega), show 10 + i - 10 = i from by omega])
    have fs : wr.frozen? ⟨sb, 10 + i, none⟩ = false := frozen_of_block H10.out.1.s _
    obtain ⟨nm, hnm, hnl⟩ : ∃ nm : Nat, IntKind.u64.wrap a = (nm : Int) ∧ nm < 18446744073709551616 := ⟨(IntKind.u64.wrap a).toNat, by rw [IntKind.wrap_u64]; omega, by rw [IntKind.wrap_u64]; omega⟩
    have HNM := Lib.hid hnm
    have HE : Hid (IntKind.i64.wrap ((x : Int).tmod 8) = (i : Int)) := Lib.hid ((congrArg IntKind.i64.wrap ((Int.tmod_eq_emod_of_nonneg (Int.natCast_nonneg x)).trans em)).trans (IntWalk.i64_in _ (by clear hnm; omega)))
    clear hnm
    have HU := Lib.hid (HR.out.1.setMark HG.out (i := i) hnl)
    have H11 := Lib.hid (H10.out.1.mark (i := i) (n := nm))
    have H12 := Lib.hid (H10.out.2.chg ((Chg.refl [sb] wr).setCell (p := ⟨sb, 10 + i, none⟩) (.inl (by simp)) (.int .u64 (nm : Int))) (by simp))
    have hnm := HNM.out
    go_upto_region 11 with fail
    clear hnm cs fs y0 y1 y2 d0 d1 d2 d3 d4
    generalize wr.setCell ⟨sb, 10 + i, none⟩ (.int .u64 (nm : Int)) = w4 at *
    have H13 := Lib.hid (And.intro (H11.out.chg (Chg.refl [] w4).drew (by simp) HML.out) (H12.out.chg (Chg.refl [] w4).drew (by simp)))
    have cu := bSetMark_at H13.out.2 (fun q hq => by simp only [List.mem_cons] at hq; have h1 := heap_lt H13.out.1.s; have h2 := heap_lt H13.out.1.r; have h3 := H13.out.1.m.c.lt; have h4 := H13.out.1.m.d.lt; have h5 := H13.out.1.lt; rcases hq with e|e|e|e|e; (· omega); (· omega); (· omega); (· omega); (· have h6 := HFF.out q e; omega)) hx8 hnl
    skip
    have CU := Lib.hid cu
    obtain ⟨V, hV⟩ : ∃ V, V = (S.mark i nm).v mc2 md2 := ⟨_, rfl⟩
    have HV := Lib.hid hV
    have hob : (w4).cell? ⟨ob, 1, none⟩ = some (.int .i64 a) ∧ (w4).cell? ⟨ob, 2, none⟩ = some (.int .u16 (x : Int)) := ⟨cell_of_block H11.out.o 1, cell_of_block H11.out.o 2⟩
    have hcl : ∀ j, j < 18 → (w4).cell? ⟨sb, 0 + j, none⟩ = some (V j) := by rw [hV]; exact rowCells H11.out.s
    clear cu hV
    refine wp_region_held_drew (S := fun W' => (∀ j, j < 18 → W'.cell? ⟨sb, 0 + j, none⟩ = some (V j)) ∧ W'.cell? ⟨ob, 1, none⟩ = some (.int .i64 a) ∧ W'.cell? ⟨ob, 2, none⟩ = some (.int .u16 (x : Int))) (by kernel_rfl) (by exact ⟨hcl, hob⟩) (fun hHeld => ?_)
    clear hcl hob
    refine wpAnyH_take (i := 0) (oi := ?_) (v := .agg (fnRow 18 V)) ?_ (by kernel_rfl) (by kernel_rfl) (by kernel_rfl) ?_ (yields_row (n := 18) (V := V) Tryz.underlying72 rfl (by kernel_rfl) ?_ (.tmp 4) ?_ ?_ (fun w' hw => hw.1)) hHeld ?_
    rotate_left 1
    ·(simp only [List.getElem?_toArray, List.getElem?_cons_succ, List.getElem?_cons_zero]; rfl)
    ·exact fun _ _ _ h => h
    ·rfl
    ·rfl
    ·(first | rfl | simp [Act.eval, Act.put])
    try simp only [Act.put, List.setIfInBounds_toArray, List.set_cons_zero, List.set_cons_succ]
    refine wpAnyH_take (i := 1) (oi := ?_) (v := ?_) ?_ (by kernel_rfl) (by kernel_rfl) (by kernel_rfl) ?_ (Or.inl ⟨?_, ?_⟩) hHeld ?_
    rotate_left 2
    ·(simp only [List.getElem?_toArray, List.getElem?_cons_succ, List.getElem?_cons_zero]; rfl)
    ·exact fun _ _ _ h => h
    ·rfl
    ·(rintro W' ⟨s0, s1, s2⟩; have hnm := HNM.out; go_simp; first | done | with_reducible rfl)
    try simp only [Act.put, List.setIfInBounds_toArray, List.set_cons_zero, List.set_cons_succ]
    refine wpAnyH_take (i := 2) (oi := ?_) (v := ?_) ?_ (by kernel_rfl) (by kernel_rfl) (by kernel_rfl) ?_ (Or.inl ⟨?_, ?_⟩) hHeld ?_
    rotate_left 2
    ·(simp only [List.getElem?_toArray, List.getElem?_cons_succ, List.getElem?_cons_zero]; rfl)
    ·exact fun _ _ _ h => h
    ·rfl
    ·(rintro W' ⟨s0, s1, s2⟩; have hnm := HNM.out; go_simp; first | done | with_reducible rfl)
    try simp only [Act.put, List.setIfInBounds_toArray, List.set_cons_zero, List.set_cons_succ]
    refine wpAnyH_take (i := 3) (oi := ?_) (v := ?_) ?_ (by kernel_rfl) (by kernel_rfl) (by kernel_rfl) ?_ (Or.inl ⟨?_, ?_⟩) hHeld ?_
    rotate_left 2
    ·(simp only [List.getElem?_toArray, List.getElem?_cons_succ, List.getElem?_cons_zero]; rfl)
    ·exact fun _ _ _ h => h
    ·rfl
    ·(rintro W' ⟨s0, s1, s2⟩; have hnm := HNM.out; go_simp; first | done | with_reducible rfl)
    try simp only [Act.put, List.setIfInBounds_toArray, List.set_cons_zero, List.set_cons_succ]
    refine wpAnyH_take (i := 4) (oi := ?_) (v := ?_) ?_ (by kernel_rfl) (by kernel_rfl) (by kernel_rfl) ?_ (Or.inl ⟨?_, ?_⟩) hHeld ?_
    rotate_left 2
    ·(simp only [List.getElem?_toArray, List.getElem?_cons_succ, List.getElem?_cons_zero]; rfl)
    ·exact fun _ _ _ h => h
    ·rfl
    ·(rintro W' ⟨s0, s1, s2⟩; have hnm := HNM.out; go_simp; first | done | with_reducible rfl)
    try simp only [Act.put, List.setIfInBounds_toArray, List.set_cons_zero, List.set_cons_succ]
    refine wpAnyH_take (i := 5) (oi := ?_) (v := ?_) ?_ (by kernel_rfl) (by kernel_rfl) (by kernel_rfl) ?_ (Or.inl ⟨?_, ?_⟩) hHeld ?_
    rotate_left 2
    ·(simp only [List.getElem?_toArray, List.getElem?_cons_succ, List.getElem?_cons_zero]; rfl)
    ·exact fun _ _ _ h => h
    ·rfl
    ·(rintro W' ⟨s0, s1, s2⟩; have hnm := HNM.out; go_simp; first | done | with_reducible rfl)
    try simp only [Act.put, List.setIfInBounds_toArray, List.set_cons_zero, List.set_cons_succ]
    refine wpAnyH_take (i := 6) (oi := ?_) (v := ?_) ?_ (by kernel_rfl) (by kernel_rfl) (by kernel_rfl) ?_ (Or.inl ⟨?_, ?_⟩) hHeld ?_
    rotate_left 2
    ·(simp only [List.getElem?_toArray, List.getElem?_cons_succ, List.getElem?_cons_zero]; rfl)
    ·exact fun _ _ _ h => h
    ·rfl
    ·(rintro W' ⟨s0, s1, s2⟩; have hnm := HNM.out; go_simp; first | done | with_reducible rfl)
    try simp only [Act.put, List.setIfInBounds_toArray, List.set_cons_zero, List.set_cons_succ]
    refine wpAnyH_take (i := 7) (oi := ?_) (v := ?_) ?_ (by kernel_rfl) (by kernel_rfl) (by kernel_rfl) ?_ (Or.inl ⟨?_, ?_⟩) hHeld ?_
    rotate_left 2
    ·(simp only [List.getElem?_toArray, List.getElem?_cons_succ, List.getElem?_cons_zero]; rfl)
    ·exact fun _ _ _ h => h
    ·rfl
    ·(rintro W' ⟨s0, s1, s2⟩; have hnm := HNM.out; go_simp; first | done | with_reducible rfl)
    try simp only [Act.put, List.setIfInBounds_toArray, List.set_cons_zero, List.set_cons_succ]
    refine wpAnyH_take (i := 8) (oi := ?_) (v := ?_) ?_ (by kernel_rfl) (by kernel_rfl) (by kernel_rfl) ?_ (Or.inl ⟨?_, ?_⟩) hHeld ?_
    rotate_left 2
    ·(simp only [List.getElem?_toArray, List.getElem?_cons_succ, List.getElem?_cons_zero]; rfl)
    ·exact fun _ _ _ h => h
    ·rfl
    ·(rintro W' ⟨s0, s1, s2⟩; have hnm := HNM.out; go_simp; first | done | with_reducible rfl)
    try simp only [Act.put, List.setIfInBounds_toArray, List.set_cons_zero, List.set_cons_succ]
    refine wpAnyH_ready (rs := [9]) (by kernel_rfl) (by simp) ?_
    refine AllReadyH.cons (o := ?_) ?_ (fun K hK => ?_) AllReadyH.nil
    rotate_left 1
    ·(simp only [List.getElem?_toArray, List.getElem?_cons_succ, List.getElem?_cons_zero]; rfl)
    (go_simp; rw [HE.out]; refine CU.out.mono ?_; rintro e w5 ⟨rfl, hb5, hc5⟩; have H14 := Lib.hid (And.intro (H13.out.1.chg hc5 (fun q hq => .inl hq) HML.out) hb5); clear hb5 hc5)
    refine hK.out _ _ ?_ (fun hHeld => ?_)
    ·exact ⟨by rw [HV.out]; exact rowCells H14.out.1.s, cell_of_block H14.out.1.o 1, cell_of_block H14.out.1.o 2⟩
    clear hK K
    try simp only [Act.put, List.setIfInBounds_toArray, List.set_cons_zero, List.set_cons_succ]
    refine wpAnyH_take (i := 10) (oi := ?_) (v := ?_) ?_ (by kernel_rfl) (by kernel_rfl) (by kernel_rfl) ?_ (Or.inl ⟨?_, ?_⟩) hHeld ?_
    rotate_left 2
    ·(simp only [List.getElem?_toArray, List.getElem?_cons_succ, List.getElem?_cons_zero]; rfl)
    ·exact fun _ _ _ h => h
    ·rfl
    ·(rintro W' ⟨s0, s1, s2⟩; have hnm := HNM.out; go_simp; first | done | with_reducible rfl)
    try simp only [Act.put, List.setIfInBounds_toArray, List.set_cons_zero, List.set_cons_succ]
    have hrn : (storeCells ⟨rb, 0, none⟩ (fnRow 18 V).toList).run Tryz.prog w5 = .ok () (w5.setCells rb 0 (fnRow 18 V).toList) := run_storeCells_row (P := Tryz.prog) (U := V) (V := zState) (N := 18) (T := 72) H14.out.1.r (by omega) (fun i _ => by rw [HV.out]; exact St.one _ _ _ i) (o := 0) (n := 18)
    have hrs := fnRow_size 18 V
    have hsl := setCells_laid (o := 0) (n := 18) (U := V) (V := zState) (N := 18) (t := 72) H14.out.1.r
    generalize w5.setCells rb 0 (fnRow 18 V).toList = w8 at hrn hsl
    have H8 := Lib.hid hsl
    clear hsl
    refine wpAnyH_ready (rs := [11]) (by kernel_rfl) (by simp) ?_
    refine AllReadyH.cons (o := ?_) ?_ (fun K hK => ?_) AllReadyH.nil
    rotate_left 1
    ·(simp only [List.getElem?_toArray, List.getElem?_cons_succ, List.getElem?_cons_zero]; rfl)
    (go_simp)
    refine hK.out _ _ ?_ (fun hHeld => ?_)
    ·exact ⟨by rw [HV.out]; exact rowCells (H14.out.1.stored H8.out.1 H8.out.2).s, cell_of_block (H14.out.1.stored H8.out.1 H8.out.2).o 1, cell_of_block (H14.out.1.stored H8.out.1 H8.out.2).o 2⟩
    clear hK K
    try simp only [Act.put, List.setIfInBounds_toArray, List.set_cons_zero, List.set_cons_succ]
    clear hrn hrs
    refine wpAnyH_take (i := 12) (oi := ?_) (v := ?_) ?_ (by kernel_rfl) (by kernel_rfl) (by kernel_rfl) ?_ (Or.inl ⟨?_, ?_⟩) hHeld ?_
    rotate_left 2
    ·(simp only [List.getElem?_toArray, List.getElem?_cons_succ, List.getElem?_cons_zero]; rfl)
    ·exact fun _ _ _ h => h
    ·rfl
    ·(rintro W' ⟨s0, s1, s2⟩; have hnm := HNM.out; go_simp; first | done | with_reducible rfl)
    try simp only [Act.put, List.setIfInBounds_toArray, List.set_cons_zero, List.set_cons_succ]
    refine wpAnyH_done (by kernel_rfl) ?_ _
    have h9 := H14.out.1.stored H8.out.1 H8.out.2
    have h10 := H14.out.2.chg H8.out.2 (by simp)
    rw [HV.out] at h9
    have H9 := Lib.hid (And.intro h9 h10)
    clear h9 h10
    go_wp2_with fail
    exact dn_ret H9.out.1 H9.out.2 HU.out.1 HU.out.2.1 HU.out.2.2 (fun b => by have := HR.out.2.1 b; show S.c b ≤ K + 1; omega) (fun j hj => by show (if j = i then nm else S.m j) < 18446744073709551616; have := HR.out.2.2.2 j hj; split <;> omega) rfl rfl rfl
  ·intro k v w7 hk hv hlk hgv hkr hlt hg7 hs7 hen
   have hck : S.c k ≠ 0 := by
    unfold St.cV at hv
    split at hv
    ·cases hv
    ·assumption
   clear hv hs7
   have hc7 : Chg [it] wr w7 := (Chg.refl [it] wr).grown hg7 (fun q hq => by injection hq with hq; subst hq; exact .inl (by simp))
   have HY := Lib.hid (And.intro hkr (And.intro (HX.out.2.trans hc7) (And.intro hlt (And.intro hk hck))))
   have hkn := hk
   clear hkr hc7 hlt hg7 hk hck
   rcases hsel with rfl | ⟨j, hj, hcj, rfl⟩
   ·go_upto_region 7 with fail
    go_quiet (fail)
    go_wp2_with fail
    go_roundw
    case rel => exact ⟨_, .inr ⟨k, HY.out.2.2.2.1, HY.out.2.2.2.2, rfl⟩, Lib.hid ⟨HY.out.1.chg (Chg.drewN (Chg.refl [] _) _) (by simp) (by simp), HY.out.2.1.drewN _⟩⟩
    case measure => exact HY.out.2.2.1
   ·have i1 : ¬ (j : Int) < 0 := by omega
    have HJ := Lib.hid (And.intro hj hcj)
    clear hcj
    by_cases hcmp : ((k : Int) + (N : Int) - (fr : Int)) % (N : Int) < ((j : Int) + (N : Int) - (fr : Int)) % (N : Int)
    ·go_upto_region 7 with fail
     go_quiet (fail)
     go_wp2_with fail
     go_roundw
     case rel => exact ⟨_, .inr ⟨k, HY.out.2.2.2.1, HY.out.2.2.2.2, rfl⟩, Lib.hid ⟨HY.out.1.chg (Chg.drewN (Chg.refl [] _) _) (by simp) (by simp), HY.out.2.1.drewN _⟩⟩
     case measure => exact HY.out.2.2.1
    ·go_upto_region 7 with fail
     go_quiet (fail)
     go_wp2_with fail
     go_roundw
     case rel => exact ⟨_, .inr ⟨j, HJ.out.1, HJ.out.2, rfl⟩, Lib.hid ⟨HY.out.1.chg (Chg.drewN (Chg.refl [] _) _) (by simp) (by simp), HY.out.2.1.drewN _⟩⟩
     case measure => exact HY.out.2.2.1
end Go.Proofs.YtkhcaclndepgbaaGreat
