/- The reference of leaf: Decode. -/
import Derived.Test.YtjceoheiiohfcaaRefDL
import Derived.Deep.DeepCutAuto
import Derived.Deep.CutBlock
import Derived.Deep.LoopGhost
namespace Go.Proofs.Ytjceoheiiohfcaa
open Go.RowKit
set_option linter.unusedVariables false
set_option linter.unusedSimpArgs false

/-- What the reference's Decode answers where it takes a page. -/
def RDecOk (w : World) (leaf : Bool) (f : Nat → Nat) (e : Ending) (w' : World) : Prop :=
  ∃ vk vv, e = .returned (.tuple #[.agg #[.bool leaf, vk, vv], .int .i64 0]) ∧ NumsIn [] w' vk (f 1) (pkey f) ∧ NumsIn [] w' vv (f 1) (pval f) ∧ Chg [] w w'
def RDecEnd (w : World) (n : Nat) (f : Nat → Nat) (e : Ending) (w' : World) : Prop := (RDec n f ∧ RDecOk w (decide (f 0 = 1)) f e w') ∨ (¬ RDec n f ∧ DecBad w e w')

theorem OwnK.form {w : World} {base : Nat} {v : Value} {n : Nat} {F : Nat → Nat} (h : OwnK w base v n F) : ∃ a c, v = .slice a n c := by
  rcases h.2 with ⟨rfl, rfl⟩ | ⟨g, cap, cur, h1, _⟩
  · exact ⟨none, 0, rfl⟩
  · exact ⟨_, _, h1⟩
/-- Numbers, where what is changed is not theirs. -/
theorem NumsIn.off' {A L : List Nat} {w w' : World} {v : Value} {n : Nat} {f : Nat → Nat} (h : NumsIn A w v n f) (c : Chg L w w') (hL : ∀ p c, v = .slice (some p) n c → p.block ∉ L) : NumsIn A w' v n f := by
  rcases h with h | ⟨b, off, cap, h1, h2, h3, h4, h5, h6⟩
  · exact .inl h
  · exact .inr ⟨b, off, cap, h1, h2, h3, Nat.lt_of_lt_of_le h4 c.size, h5, h6.chg c (hL _ _ h1)⟩
theorem one_news {w : World} {o : Value} {T : TypeId} : ∀ (j : Nat) (u : Value), [o][j]? = some u → (w.alloc (.cells #[o] T)).cell? ((⟨w.heap.size, 0, none⟩ : Addr).add j) = some u := by
  intro j u hj
  match j, hj with
  | 0, hj =>
    simp only [List.getElem?_cons_zero, Option.some.injEq] at hj
    subst hj
    rw [addr_add0]
    exact cell_of_block (new_block w (.cells #[o] T)) 0
  | j + 1, hj => simp at hj
theorem number_sub {w : World} {g p d : Nat} {f : Nat → Nat} (h : BytesAt w g 0 123 f) (hp : p + 8 ≤ 123) :
    Calls Try.prog 31 #[.slice (some ⟨g, p, none⟩) 8 d] w fun e w' => e = .returned (.int .u64 (num f p 8 : Int)) ∧ w = w' := by
  have := number_at (cap := d) (h.sub (a := p) (m := 8) hp) (by omega)
  rw [num_shift f p 8, Nat.zero_add] at this
  exact this

/-- What an append to the one row leaves: the other row, the node's block. -/
structure MidApp (W w5 : World) (nb : Nat) (N : Obj) (v' v2 : Value) (n n2 : Nat) (F F2 : Nat → Nat) : Prop where
  hN : w5.heap[nb]? = some N
  h1 : OwnK w5 W.heap.size v' n F
  h2 : OwnK w5 W.heap.size v2 n2 F2
  hd : ∀ x, v'.ownBlock = some x → v2.ownBlock ≠ some x
  C : Chg [nb] W w5
theorem mid_app {W wr W5 w5 : World} {nb : Nat} {N : Obj} {v v2 : Value} {n n2 g5 c5 K : Nat} {F F2 : Nat → Nat} (hN : wr.heap[nb]? = some N) (C : Chg [nb] W wr) (lN : nb < W.heap.size) (h1 : OwnK wr W.heap.size v n F) (h2 : OwnK wr W.heap.size v2 n2 F2)
    (hd : ∀ x, v.ownBlock = some x → v2.ownBlock ≠ some x) (hk : Chg [] wr W5) (hown : w5.ownsRow W.heap.size 43 1 (.slice (some ⟨g5, 0, none⟩) (n + 1) c5) (n + 1) (((List.range n).map fun i => Value.int .u64 (F i : Int)) ++ [Value.int .u64 (K : Int)]))
    (hg : W5.grownBy w5 v.ownBlock) (ho : v.ownBlock = some g5 ∨ g5 = W5.heap.size) (hF : F n = K) :
    MidApp W w5 nb N (.slice (some ⟨g5, 0, none⟩) (n + 1) c5) v2 (n + 1) n2 F F2 := by
  have hC5 : ∀ k, k < wr.heap.size → v.ownBlock ≠ some k → w5.heap[k]? = wr.heap[k]? := fun k hk' hn => (hg.block k (Nat.lt_of_lt_of_le hk' hk.size) (fun e => hn e.symm)).trans (hk.block k hk' (by simp))
  have hnv : v.ownBlock ≠ some nb := fun e => by have := h1.block e; omega
  refine ⟨(hC5 nb (heap_lt hN) hnv).trans hN, ?_, ?_, ?_, ?_⟩
  · refine OwnK.congr (F := fun i => if i < n then F i else K) (by unfold OwnK; rw [← snocK]; exact hown) (fun i hi => ?_)
    by_cases e : i < n
    · rw [if_pos e]
    · rw [if_neg e, ← hF, show i = n by omega]
  · refine ⟨h2.1, ?_⟩
    rcases h2.2 with h | ⟨g, cap, cur, e1, e2, e3, e4⟩
    · exact .inl h
    · exact .inr ⟨g, cap, cur, e1, e2, (hC5 g (heap_lt e3) (fun e => hd g e (by rw [e1]; rfl))).trans e3, e4⟩
  · intro x hx
    have hx' : x = g5 := by simpa [Value.ownBlock] using hx.symm
    subst hx'
    rcases ho with ho | ho
    · exact hd _ ho
    · intro e
      have := (h2.block e).2
      have := hk.size
      omega
  · refine ⟨hg.os.trans (hk.os.trans C.os), hg.tape.trans (hk.tape.trans C.tape), hg.output.trans (hk.output.trans C.output), Nat.le_trans C.size (Nat.le_trans hk.size hg.size), fun k hk' hn => ?_⟩
    exact (hC5 k (Nat.lt_of_lt_of_le hk' C.size) (fun e => by have := h1.block e; omega)).trans (C.block k hk' hn)
theorem MidApp.set {W w5 : World} {nb : Nat} {v' v2 : Value} {n n2 : Nat} {F F2 : Nat → Nat} {cs : Array Value} (h : MidApp W w5 nb (.cells cs 24 (0, 0)) v' v2 n n2 F F2) (lN : nb < W.heap.size) (i : Nat) (u : Value) :
    MidApp W (w5.setCell ⟨nb, i, none⟩ u) nb (.cells (cs.setIfInBounds i u) 24 (0, 0)) v' v2 n n2 F F2 := by
  have hc : Chg [nb] w5 (w5.setCell ⟨nb, i, none⟩ u) := (Chg.refl _ _).setCell (.inl (by simp)) _
  refine ⟨setCell_block h.hN i u, h.h1.keep hc fun g hg => ?_, h.h2.keep hc fun g hg => ?_, h.hd, h.C.trans hc⟩
  · have := h.h1.block hg
    simp; omega
  · have := h.h2.block hg
    simp; omega
theorem MidApp.keep {W w5 w6 : World} {nb : Nat} {N : Obj} {v' v2 : Value} {n n2 : Nat} {F F2 : Nat → Nat} (h : MidApp W w5 nb N v' v2 n n2 F F2) (hc : Chg [] w5 w6) : MidApp W w6 nb N v' v2 n n2 F F2 :=
  ⟨(hc.block _ (heap_lt h.hN) (by simp)).trans h.hN, h.h1.keep hc (by simp), h.h2.keep hc (by simp), h.hd, h.C.trans (hc.mono (by simp))⟩
theorem MidApp.swap {W w5 : World} {nb : Nat} {N : Obj} {v' v2 : Value} {n n2 : Nat} {F F2 : Nat → Nat} (h : MidApp W w5 nb N v' v2 n n2 F F2) : MidApp W w5 nb N v2 v' n2 n F2 F :=
  ⟨h.hN, h.h2, h.h1, fun x hx hy => h.hd x hy hx, h.C⟩

set_option maxRecDepth 20000 in
set_option maxHeartbeats 1000000 in
theorem rdec_len {w : World} {a : Option Addr} {n cap : Nat} (hn : n ≠ 128) : Calls Try.prog 15 #[.slice a n cap] w (DecBad w) := by
  have cO := fun w : World => ropen_len (w := w) (a := a) (cap := cap) hn
  clear hn
  go_enter Try.func15, Try.ntmps15
  go_wp2_with fail
  refine (cO _).mono ?_
  rintro e w1 ⟨rfl, hC1⟩
  obtain ⟨l1, hX⟩ := dbl hC1
  have HC1 := Lib.hid (((Chg.refl [] w).alloc _).trans hC1)
  have x0 := cell_of_block hX 0
  have x1 := cell_of_block hX 1
  have x2 := cell_of_block hX 2
  simp only [List.getElem?_toArray, List.getElem?_cons_zero, List.getElem?_cons_succ] at x0 x1 x2
  have y0 := frozen_of_block hX 0
  have y1 := frozen_of_block hX 1
  have y2 := frozen_of_block hX 2
  clear cO hX hC1
  go_wp2_with fail
  exact bodyPost_ret (v := .tuple #[.agg #[.bool false, .slice none 0 0, .slice none 0 0], .int .i64 30]) (by simp [results, Try.results15, go_sem, l1, x0, x1, x2]) rfl ⟨rfl, chg3 HC1.out _ _ _⟩

section
variable {w : World} {b off cap : Nat} {f : Nat → Nat} (h : BytesAt w b off 128 f) (hcap : 128 ≤ cap) (hN : cap ≤ 9223372036854775807)
include h hcap hN

set_option maxRecDepth 20000 in
set_option maxHeartbeats 1000000 in
theorem rdec_sum (hp : ¬ pageOK f) : Calls Try.prog 15 #[.slice (some ⟨b, off, none⟩) 128 cap] w (DecBad w) := by
  have hW := (Chg.refl [] w).alloc (.cells #[.bool false, .slice none 0 0, .slice none 0 0] 24)
  have cO := ropen_wrong (h.chg hW (by simp)) hcap hN hp
  have HW := Lib.hid hW
  clear h hp hW
  go_enter Try.func15, Try.ntmps15
  go_wp2_with fail
  refine cO.mono ?_
  clear cO
  rintro e w1 ⟨rfl, hC1⟩
  obtain ⟨l1, hX⟩ := dbl hC1
  have HC1 := Lib.hid (HW.out.trans hC1)
  have x0 := cell_of_block hX 0
  have x1 := cell_of_block hX 1
  have x2 := cell_of_block hX 2
  simp only [List.getElem?_toArray, List.getElem?_cons_zero, List.getElem?_cons_succ] at x0 x1 x2
  have y0 := frozen_of_block hX 0
  have y1 := frozen_of_block hX 1
  have y2 := frozen_of_block hX 2
  clear hX hC1
  go_wp2_with fail
  exact bodyPost_ret (v := .tuple #[.agg #[.bool false, .slice none 0 0, .slice none 0 0], .int .i64 30]) (by simp [results, Try.results15, go_sem, l1, x0, x1, x2]) rfl ⟨rfl, chg3 HC1.out _ _ _⟩

set_option maxRecDepth 20000 in
set_option maxHeartbeats 2000000 in
theorem rdec_kind (hp : pageOK f) (hk : f 0 ≠ 1 ∧ f 0 ≠ 2) : Calls Try.prog 15 #[.slice (some ⟨b, off, none⟩) 128 cap] w (DecBad w) := by
  have hW := (Chg.refl [] w).alloc (.cells #[.bool false, .slice none 0 0, .slice none 0 0] 24)
  have cO := ropen_right (h.chg hW (by simp)) hcap hN hp
  have hk' : (f 0 : Int) < 1 ∨ (¬ (f 0 : Int) < 1 ∧ (2 : Int) < (f 0 : Int)) := by omega
  have HW := Lib.hid hW
  clear h hp hW hk
  rcases hk' with k1 | ⟨k1, k2⟩
  all_goals
    go_enter Try.func15, Try.ntmps15
    go_wp2_with fail
    refine cO.mono ?_
    clear cO
    rintro e w1 ⟨g, c, rfl, r1, r2, r3, r4, r5, hC1⟩
    obtain ⟨l1, hX⟩ := dbl hC1
    have HC1 := Lib.hid (HW.out.trans hC1)
    have x0 := cell_of_block hX 0
    have x1 := cell_of_block hX 1
    have x2 := cell_of_block hX 2
    simp only [List.getElem?_toArray, List.getElem?_cons_zero, List.getElem?_cons_succ] at x0 x1 x2
    have y0 := frozen_of_block hX 0
    have y1 := frozen_of_block hX 1
    have y2 := frozen_of_block hX 2
    clear hX hC1 r5
    go_wp2_with fail
    exact bodyPost_ret (v := .tuple #[.agg #[.bool false, .slice none 0 0, .slice none 0 0], .int .i64 30]) (by simp [results, Try.results15, go_sem, l1, x0, x1, x2]) rfl ⟨rfl, chg3 HC1.out _ _ _⟩

set_option maxRecDepth 20000 in
set_option maxHeartbeats 8000000 in
theorem rdec_rest (leaf : Bool) (hp : pageOK f) (hk : f 0 = kindOf leaf) : Calls Try.prog 15 #[.slice (some ⟨b, off, none⟩) 128 cap] w (RDecEnd w 128 f) := by
  have hW := (Chg.refl [] w).alloc (.cells #[.bool false, .slice none 0 0, .slice none 0 0] 24)
  have hf : ∀ i, i < 128 → f i ≤ 255 := fun i hi => (h i hi).2
  have Hf := Lib.hid hf
  have cO := ropen_right (h.chg hW (by simp)) hcap hN hp
  have k1 : ¬ (f 0 : Int) < 1 := by rw [hk]; cases leaf <;> simp [kindOf]
  have k2 : ¬ (2 : Int) < (f 0 : Int) := by rw [hk]; cases leaf <;> simp [kindOf]
  have k3 : ((f 0 : Int) == 1) = leaf := by rw [hk]; cases leaf <;> rfl
  have kd : decide (f 0 = 1) = leaf := by rw [hk]; cases leaf <;> rfl
  have HW := Lib.hid hW
  have Hk := Lib.hid (And.intro hk (And.intro hp kd))
  clear h hp hW hk hf kd
  go_enter Try.func15, Try.ntmps15
  go_wp2_with fail
  refine cO.mono ?_
  clear cO
  rintro e w1 ⟨g, c, rfl, r1, r2, r3, r4, r5, hC1⟩
  obtain ⟨l1, hX⟩ := dbl hC1
  have HX := Lib.hid hX
  have HG := Lib.hid r5
  have HC1 := Lib.hid (HW.out.trans hC1)
  have c1 : ¬ c = 1 := by omega
  unfold maxLen at r2
  clear hX hC1 r5
  go_wp2_with fail
  clear k1 k2 k3 c1
  have hc := (Chg.refl [] w1).alloc (.cells #[.bool leaf, .slice none 0 0, .slice none 0 0] 24)
  have X0 := Lib.hid ((hc.block _ (heap_lt HX.out) (by simp)).trans HX.out)
  have N0 := Lib.hid (new_block w1 (.cells #[.bool leaf, .slice none 0 0, .slice none 0 0] 24))
  have G0 := Lib.hid (HG.out.chg hc (by simp))
  have C0 := Lib.hid (HC1.out.trans hc)
  have lN := heap_lt N0.out
  have lg0 := Nat.lt_of_lt_of_le r4 hc.size
  clear hc HX HG HC1
  generalize w1.heap.size = nb at *
  generalize w1.alloc (.cells #[.bool leaf, .slice none 0 0, .slice none 0 0] 24) = W at *
  go_loopw [8, 9] (fun r s wr => ∃ k m d vk vv, k ≤ 7 ∧ k ≤ f 1 ∧ m + 16 * k = 122 ∧ d + 16 * k = c - 1 ∧ s = .int .i64 (k : Int) ∧ r = .slice (some ⟨g, 1 + 16 * k, none⟩) m d ∧
      MidApp W wr nb (.cells #[.bool leaf, vk, vv] 24 (0, 0)) vk vv k k (pkey f) (pval f)) (fun _ s _ => 8 - (intOf s).toNat)
  case atStart => exact ⟨0, 122, c - 1, _, _, by omega, Nat.zero_le _, by omega, by omega, rfl, rfl, N0.out, OwnK.nil _ _ _, OwnK.nil _ _ _, (by intro x hx; cases hx), Chg.refl _ _⟩
  case round =>
    obtain ⟨k, m, d, vk, vv, hk7, hkf, hm, hdd, rfl, rfl, M⟩ := hrel
    have HM := Lib.hid M
    have hG := G0.out.chg M.C (by simp; omega)
    have HG := Lib.hid hG
    have z0 := (hG 0 (by omega)).1
    simp only [Nat.add_zero] at z0
    have n0 := cell_of_block M.hN 0
    have n1 := cell_of_block M.hN 1
    have n2 := cell_of_block M.hN 2
    simp only [List.getElem?_toArray, List.getElem?_cons_zero, List.getElem?_cons_succ] at n0 n1 n2
    have nf1 := frozen_of_block M.hN 1
    have nf2 := frozen_of_block M.hN 2
    have ln := heap_lt M.hN
    have hX := (M.C.block _ (heap_lt X0.out) (by simp; omega)).trans X0.out
    have HXr := Lib.hid hX
    have hf1 := Hf.out 1 (by omega)
    have u1 : IntKind.i64.wrap (f 1 : Int) = (f 1 : Int) := IntWalk.i64_in _ (by omega)
    clear M hG hX
    by_cases hkn : k < f 1
    · have t1 : (k : Int) < (f 1 : Int) := by omega
      by_cases hk8 : k = 7
      · have t2 : (m : Int) < 16 := by omega
        have hno : ¬ RDec 128 f := fun q => by have := q.2.2.2.1; omega
        have Hno := Lib.hid hno
        have x0 := cell_of_block HXr.out 0
        have x1 := cell_of_block HXr.out 1
        have x2 := cell_of_block HXr.out 2
        simp only [List.getElem?_toArray, List.getElem?_cons_zero, List.getElem?_cons_succ] at x0 x1 x2
        have y0 := frozen_of_block HXr.out 0
        have y1 := frozen_of_block HXr.out 1
        have y2 := frozen_of_block HXr.out 2
        have lx := heap_lt HXr.out
        have HC := Lib.hid (C0.out.then HM.out.C (by simp; omega))
        clear hno hk8
        go_wp2_with fail
        exact bodyPost_ret (v := .tuple #[.agg #[.bool false, .slice none 0 0, .slice none 0 0], .int .i64 30]) (by simp [results, Try.results15, go_sem, lx, x0, x1, x2]) rfl (.inr ⟨Hno.out, rfl, chg3 HC.out _ _ _⟩)
      · have t2 : ¬ (m : Int) < 16 := by omega
        have t3 : (16 : Int) ≤ (m : Int) := by omega
        have t4 : (16 : Int) ≤ (d : Int) := by omega
        have t5 : (8 : Int) ≤ (d : Int) := by omega
        have t6 : ¬ d = 16 := by omega
        have t7 : ¬ d = 8 := by omega
        obtain ⟨i0, hi, hz0, hz1, hz2⟩ := info_parts infoU64
        have Hi := Lib.hid hi
        have hlt : ∀ j, j + 8 ≤ 123 → num (fun i => f (1 + i)) j 8 < 18446744073709551616 := fun j hj => by
          have := num_lt (f := fun i => f (1 + i)) (p := j) (k := 8) fun i hi => Hf.out _ (by omega)
          rwa [show (256 : Nat) ^ 8 = 18446744073709551616 by decide] at this
        have kK := hlt (1 + 16 * k) (by omega)
        have kV := hlt (1 + 16 * k + 8) (by omega)
        have eK : pkey f k = num (fun i => f (1 + i)) (1 + 16 * k) 8 := by unfold pkey keyF; rw [if_pos hkn]
        have eV : pval f k = num (fun i => f (1 + i)) (1 + 16 * k + 8) 8 := by unfold pval valF; rw [if_pos hkn]
        have cK := number_sub (d := d) (p := 1 + 16 * k) (HG.out.chg (Chg.drew (Chg.refl [] wr)) (by simp)) (by omega)
        have gV := fun (W : World) (q : BytesAt W g 0 123 (fun i => f (1 + i))) => number_sub (d := d - 8) (p := 1 + 16 * k + 8) (q.chg (Chg.drew (Chg.refl [] W)) (by simp)) (by omega)
        obtain ⟨aK, hK⟩ : ∃ aK, num (fun i => f (1 + i)) (1 + 16 * k) 8 = aK := ⟨_, rfl⟩
        obtain ⟨aV, hV⟩ : ∃ aV, num (fun i => f (1 + i)) (1 + 16 * k + 8) 8 = aV := ⟨_, rfl⟩
        rw [hK] at cK eK kK
        simp only [hV] at gV
        rw [hV] at eV kV
        have EK := Lib.hid eK
        have EV := Lib.hid eV
        have GV := Lib.hid gV
        clear hi hlt eK eV hK hV gV hkf
        go_upto_region 11 with fail
        go_cut [] (fun wx => ∃ g5 c5, MidApp W wx nb (.cells #[.bool leaf, .slice (some ⟨g5, 0, none⟩) (k + 1) c5, vv] 24 (0, 0)) (.slice (some ⟨g5, 0, none⟩) (k + 1) c5) vv (k + 1) k (pkey f) (pval f))
        case first =>
          refine wp_region_held_drew (S := fun _ => True) (by kernel_rfl) (by exact trivial) (fun hHeld => ?_)
          refine wpAnyH_take (i := 0) (oi := ?_) (v := ?_) ?_ (by kernel_rfl) (by kernel_rfl) (by kernel_rfl) ?_ (Or.inl ⟨?_, ?_⟩) hHeld ?_
          rotate_left 2
          · (simp only [List.getElem?_toArray, List.getElem?_cons_succ, List.getElem?_cons_zero]; rfl)
          · exact fun _ _ _ h => h
          · rfl
          · (intro w hSw; go_simp; first | done | with_reducible rfl)
          try simp only [Act.put, List.setIfInBounds_toArray, List.set_cons_zero, List.set_cons_succ]
          refine wpAnyH_take (i := 2) (oi := ?_) (v := ?_) ?_ (by kernel_rfl) (by kernel_rfl) (by kernel_rfl) ?_ (Or.inl ⟨?_, ?_⟩) hHeld ?_
          rotate_left 2
          · (simp only [List.getElem?_toArray, List.getElem?_cons_succ, List.getElem?_cons_zero]; rfl)
          · exact fun _ _ _ h => h
          · rfl
          · (intro w hSw; go_simp; first | done | with_reducible rfl)
          try simp only [Act.put, List.setIfInBounds_toArray, List.set_cons_zero, List.set_cons_succ]
          refine wpAnyH_take (i := 3) (oi := ?_) (v := ?_) ?_ (by kernel_rfl) (by kernel_rfl) (by kernel_rfl) ?_ (Or.inl ⟨?_, ?_⟩) hHeld ?_
          rotate_left 2
          · (simp only [List.getElem?_toArray, List.getElem?_cons_succ, List.getElem?_cons_zero]; rfl)
          · exact fun _ _ _ h => h
          · rfl
          · (intro w hSw; go_simp; first | done | with_reducible rfl)
          try simp only [Act.put, List.setIfInBounds_toArray, List.set_cons_zero, List.set_cons_succ]
          refine wpAnyH_ready (rs := [1, 4]) (by kernel_rfl) (by simp) ?_
          refine AllReadyH.cons (o := ?_) ?_ (fun K hK => ?_) ?_
          rotate_left 1
          · (simp only [List.getElem?_toArray, List.getElem?_cons_succ, List.getElem?_cons_zero]; rfl)
          · go_simp
            refine hK.out _ _ ?_ (fun hHeld => ?_)
            · exact trivial
            clear hK K
            try simp only [Act.put, List.setIfInBounds_toArray, List.set_cons_zero, List.set_cons_succ]
            refine wpAnyH_ready (rs := [4]) (by kernel_rfl) (by simp) ?_
            refine AllReadyH.cons (o := ?_) ?_ (fun K hK => ?_) AllReadyH.nil
            rotate_left 1
            · (simp only [List.getElem?_toArray, List.getElem?_cons_succ, List.getElem?_cons_zero]; rfl)
            · (go_simp; go_at_call 31; refine cK.mono ?_; rintro e w' ⟨rfl, rfl⟩; go_wp2_with fail)
              refine hK.out _ _ ?_ (fun hHeld => ?_)
              · exact trivial
              clear hK K
              try simp only [Act.put, List.setIfInBounds_toArray, List.set_cons_zero, List.set_cons_succ]
              refine wpAnyH_ready (rs := [5]) (by kernel_rfl) (by simp) ?_
              refine AllReadyH.cons (o := ?_) ?_ (fun K hK => ?_) AllReadyH.nil
              rotate_left 1
              · (simp only [List.getElem?_toArray, List.getElem?_cons_succ, List.getElem?_cons_zero]; rfl)
              · go_simp
                refine hK.out _ _ ?_ (fun hHeld => ?_)
                · exact trivial
                clear hK K
                try simp only [Act.put, List.setIfInBounds_toArray, List.set_cons_zero, List.set_cons_succ]
                refine wpAnyH_ready (rs := [6]) (by kernel_rfl) (by simp) ?_
                refine AllReadyH.cons (o := ?_) ?_ (fun K hK => ?_) AllReadyH.nil
                rotate_left 1
                · (simp only [List.getElem?_toArray, List.getElem?_cons_succ, List.getElem?_cons_zero]; rfl)
                · (refine step_append_lies _ rfl (.tmp 46) (.tmp 50) 22 rfl W.heap.size 43 i0 (.int .u64 0) 1 8 Try.underlying22 Hi.out hz0 hz1 hz2 rfl (by decide) vk k _ (by simp [Act.eval, Act.put]) (HM.out.h1.keep (((Chg.refl [] wr).alloc (.cells #[.int .u64 (aK : Int)] 43)).drew) (by simp)) ⟨wr.heap.size, 0, none⟩ 1 1 [.int .u64 (aK : Int)] (by simp [Act.eval, Act.put]) rfl one_news (by intro u hu; simp at hu; subst hu; rfl) (by omega) (by unfold maxLen; omega) (by omega) (by have := HM.out.C.size; show W.heap.size ≤ (wr.alloc (.cells #[.int .u64 (aK : Int)] 43)).heap.size; rw [size_alloc']; omega) _ rfl ?_; intro g5' c5' w5 hown hgrow hor hlt5; have M5' := mid_app (wr := wr) HM.out.hN HM.out.C lN HM.out.h1 HM.out.h2 HM.out.hd (((Chg.refl [] wr).alloc (.cells #[.int .u64 (aK : Int)] 43)).drew) hown hgrow hor EK.out; have q1 := cell_of_block M5'.hN 1; have qf := frozen_of_block M5'.hN 1; have lq := heap_lt M5'.hN; simp only [List.getElem?_toArray, List.getElem?_cons_zero, List.getElem?_cons_succ] at q1; have HM5' := Lib.hid M5'; clear hown hgrow hor M5')
                  refine hK.out _ _ ?_ (fun hHeld => ?_)
                  · exact trivial
                  clear hK K
                  try simp only [Act.put, List.setIfInBounds_toArray, List.set_cons_zero, List.set_cons_succ]
                  refine wpAnyH_take (i := 7) (oi := ?_) (v := ?_) ?_ (by kernel_rfl) (by kernel_rfl) (by kernel_rfl) ?_ (Or.inl ⟨?_, ?_⟩) hHeld ?_
                  rotate_left 2
                  · (simp only [List.getElem?_toArray, List.getElem?_cons_succ, List.getElem?_cons_zero]; rfl)
                  · exact fun _ _ _ h => h
                  · rfl
                  · (intro w hSw; go_simp; first | done | with_reducible rfl)
                  try simp only [Act.put, List.setIfInBounds_toArray, List.set_cons_zero, List.set_cons_succ]
                  refine wpAnyH_ready (rs := [8]) (by kernel_rfl) (by simp) ?_
                  refine AllReadyH.cons (o := ?_) ?_ (fun K hK => ?_) AllReadyH.nil
                  rotate_left 1
                  · (simp only [List.getElem?_toArray, List.getElem?_cons_succ, List.getElem?_cons_zero]; rfl)
                  · go_simp
                    refine hK.out _ _ ?_ (fun hHeld => ?_)
                    · exact trivial
                    clear hK K
                    try simp only [Act.put, List.setIfInBounds_toArray, List.set_cons_zero, List.set_cons_succ]
                    refine wpAnyH_done (by kernel_rfl) ?_ _
                    go_wp2_with fail
                    go_meet
                    exact ⟨_, _, HM5'.out.set lN 1 _⟩
          refine AllReadyH.cons (o := ?_) ?_ (fun K hK => ?_) AllReadyH.nil
          rotate_left 1
          · (simp only [List.getElem?_toArray, List.getElem?_cons_succ, List.getElem?_cons_zero]; rfl)
          · (go_simp; go_at_call 31; refine cK.mono ?_; rintro e w' ⟨rfl, rfl⟩; go_wp2_with fail)
            refine hK.out _ _ ?_ (fun hHeld => ?_)
            · exact trivial
            clear hK K
            try simp only [Act.put, List.setIfInBounds_toArray, List.set_cons_zero, List.set_cons_succ]
            refine wpAnyH_ready (rs := [1, 5]) (by kernel_rfl) (by simp) ?_
            refine AllReadyH.cons (o := ?_) ?_ (fun K hK => ?_) ?_
            rotate_left 1
            · (simp only [List.getElem?_toArray, List.getElem?_cons_succ, List.getElem?_cons_zero]; rfl)
            · go_simp
              refine hK.out _ _ ?_ (fun hHeld => ?_)
              · exact trivial
              clear hK K
              try simp only [Act.put, List.setIfInBounds_toArray, List.set_cons_zero, List.set_cons_succ]
              refine wpAnyH_ready (rs := [5]) (by kernel_rfl) (by simp) ?_
              refine AllReadyH.cons (o := ?_) ?_ (fun K hK => ?_) AllReadyH.nil
              rotate_left 1
              · (simp only [List.getElem?_toArray, List.getElem?_cons_succ, List.getElem?_cons_zero]; rfl)
              · go_simp
                refine hK.out _ _ ?_ (fun hHeld => ?_)
                · exact trivial
                clear hK K
                try simp only [Act.put, List.setIfInBounds_toArray, List.set_cons_zero, List.set_cons_succ]
                refine wpAnyH_ready (rs := [6]) (by kernel_rfl) (by simp) ?_
                refine AllReadyH.cons (o := ?_) ?_ (fun K hK => ?_) AllReadyH.nil
                rotate_left 1
                · (simp only [List.getElem?_toArray, List.getElem?_cons_succ, List.getElem?_cons_zero]; rfl)
                · (refine step_append_lies _ rfl (.tmp 46) (.tmp 50) 22 rfl W.heap.size 43 i0 (.int .u64 0) 1 8 Try.underlying22 Hi.out hz0 hz1 hz2 rfl (by decide) vk k _ (by simp [Act.eval, Act.put]) (HM.out.h1.keep (((Chg.refl [] wr).alloc (.cells #[.int .u64 (aK : Int)] 43)).drew) (by simp)) ⟨wr.heap.size, 0, none⟩ 1 1 [.int .u64 (aK : Int)] (by simp [Act.eval, Act.put]) rfl one_news (by intro u hu; simp at hu; subst hu; rfl) (by omega) (by unfold maxLen; omega) (by omega) (by have := HM.out.C.size; show W.heap.size ≤ (wr.alloc (.cells #[.int .u64 (aK : Int)] 43)).heap.size; rw [size_alloc']; omega) _ rfl ?_; intro g5' c5' w5 hown hgrow hor hlt5; have M5' := mid_app (wr := wr) HM.out.hN HM.out.C lN HM.out.h1 HM.out.h2 HM.out.hd (((Chg.refl [] wr).alloc (.cells #[.int .u64 (aK : Int)] 43)).drew) hown hgrow hor EK.out; have q1 := cell_of_block M5'.hN 1; have qf := frozen_of_block M5'.hN 1; have lq := heap_lt M5'.hN; simp only [List.getElem?_toArray, List.getElem?_cons_zero, List.getElem?_cons_succ] at q1; have HM5' := Lib.hid M5'; clear hown hgrow hor M5')
                  refine hK.out _ _ ?_ (fun hHeld => ?_)
                  · exact trivial
                  clear hK K
                  try simp only [Act.put, List.setIfInBounds_toArray, List.set_cons_zero, List.set_cons_succ]
                  refine wpAnyH_take (i := 7) (oi := ?_) (v := ?_) ?_ (by kernel_rfl) (by kernel_rfl) (by kernel_rfl) ?_ (Or.inl ⟨?_, ?_⟩) hHeld ?_
                  rotate_left 2
                  · (simp only [List.getElem?_toArray, List.getElem?_cons_succ, List.getElem?_cons_zero]; rfl)
                  · exact fun _ _ _ h => h
                  · rfl
                  · (intro w hSw; go_simp; first | done | with_reducible rfl)
                  try simp only [Act.put, List.setIfInBounds_toArray, List.set_cons_zero, List.set_cons_succ]
                  refine wpAnyH_ready (rs := [8]) (by kernel_rfl) (by simp) ?_
                  refine AllReadyH.cons (o := ?_) ?_ (fun K hK => ?_) AllReadyH.nil
                  rotate_left 1
                  · (simp only [List.getElem?_toArray, List.getElem?_cons_succ, List.getElem?_cons_zero]; rfl)
                  · go_simp
                    refine hK.out _ _ ?_ (fun hHeld => ?_)
                    · exact trivial
                    clear hK K
                    try simp only [Act.put, List.setIfInBounds_toArray, List.set_cons_zero, List.set_cons_succ]
                    refine wpAnyH_done (by kernel_rfl) ?_ _
                    go_wp2_with fail
                    go_meet
                    exact ⟨_, _, HM5'.out.set lN 1 _⟩
            refine AllReadyH.cons (o := ?_) ?_ (fun K hK => ?_) AllReadyH.nil
            rotate_left 1
            · (simp only [List.getElem?_toArray, List.getElem?_cons_succ, List.getElem?_cons_zero]; rfl)
            · go_simp
              refine hK.out _ _ ?_ (fun hHeld => ?_)
              · exact trivial
              clear hK K
              try simp only [Act.put, List.setIfInBounds_toArray, List.set_cons_zero, List.set_cons_succ]
              refine wpAnyH_ready (rs := [1]) (by kernel_rfl) (by simp) ?_
              refine AllReadyH.cons (o := ?_) ?_ (fun K hK => ?_) AllReadyH.nil
              rotate_left 1
              · (simp only [List.getElem?_toArray, List.getElem?_cons_succ, List.getElem?_cons_zero]; rfl)
              · go_simp
                refine hK.out _ _ ?_ (fun hHeld => ?_)
                · exact trivial
                clear hK K
                try simp only [Act.put, List.setIfInBounds_toArray, List.set_cons_zero, List.set_cons_succ]
                refine wpAnyH_ready (rs := [6]) (by kernel_rfl) (by simp) ?_
                refine AllReadyH.cons (o := ?_) ?_ (fun K hK => ?_) AllReadyH.nil
                rotate_left 1
                · (simp only [List.getElem?_toArray, List.getElem?_cons_succ, List.getElem?_cons_zero]; rfl)
                · (refine step_append_lies _ rfl (.tmp 46) (.tmp 50) 22 rfl W.heap.size 43 i0 (.int .u64 0) 1 8 Try.underlying22 Hi.out hz0 hz1 hz2 rfl (by decide) vk k _ (by simp [Act.eval, Act.put]) (HM.out.h1.keep (((Chg.refl [] wr).alloc (.cells #[.int .u64 (aK : Int)] 43)).drew) (by simp)) ⟨wr.heap.size, 0, none⟩ 1 1 [.int .u64 (aK : Int)] (by simp [Act.eval, Act.put]) rfl one_news (by intro u hu; simp at hu; subst hu; rfl) (by omega) (by unfold maxLen; omega) (by omega) (by have := HM.out.C.size; show W.heap.size ≤ (wr.alloc (.cells #[.int .u64 (aK : Int)] 43)).heap.size; rw [size_alloc']; omega) _ rfl ?_; intro g5' c5' w5 hown hgrow hor hlt5; have M5' := mid_app (wr := wr) HM.out.hN HM.out.C lN HM.out.h1 HM.out.h2 HM.out.hd (((Chg.refl [] wr).alloc (.cells #[.int .u64 (aK : Int)] 43)).drew) hown hgrow hor EK.out; have q1 := cell_of_block M5'.hN 1; have qf := frozen_of_block M5'.hN 1; have lq := heap_lt M5'.hN; simp only [List.getElem?_toArray, List.getElem?_cons_zero, List.getElem?_cons_succ] at q1; have HM5' := Lib.hid M5'; clear hown hgrow hor M5')
                  refine hK.out _ _ ?_ (fun hHeld => ?_)
                  · exact trivial
                  clear hK K
                  try simp only [Act.put, List.setIfInBounds_toArray, List.set_cons_zero, List.set_cons_succ]
                  refine wpAnyH_take (i := 7) (oi := ?_) (v := ?_) ?_ (by kernel_rfl) (by kernel_rfl) (by kernel_rfl) ?_ (Or.inl ⟨?_, ?_⟩) hHeld ?_
                  rotate_left 2
                  · (simp only [List.getElem?_toArray, List.getElem?_cons_succ, List.getElem?_cons_zero]; rfl)
                  · exact fun _ _ _ h => h
                  · rfl
                  · (intro w hSw; go_simp; first | done | with_reducible rfl)
                  try simp only [Act.put, List.setIfInBounds_toArray, List.set_cons_zero, List.set_cons_succ]
                  refine wpAnyH_ready (rs := [8]) (by kernel_rfl) (by simp) ?_
                  refine AllReadyH.cons (o := ?_) ?_ (fun K hK => ?_) AllReadyH.nil
                  rotate_left 1
                  · (simp only [List.getElem?_toArray, List.getElem?_cons_succ, List.getElem?_cons_zero]; rfl)
                  · go_simp
                    refine hK.out _ _ ?_ (fun hHeld => ?_)
                    · exact trivial
                    clear hK K
                    try simp only [Act.put, List.setIfInBounds_toArray, List.set_cons_zero, List.set_cons_succ]
                    refine wpAnyH_done (by kernel_rfl) ?_ _
                    go_wp2_with fail
                    go_meet
                    exact ⟨_, _, HM5'.out.set lN 1 _⟩
        case rest =>
          obtain ⟨g5, c5, M5⟩ := hcut
          have HM5 := Lib.hid M5
          clear HM M5 n0 n1 n2 nf1 nf2 ln
          have n0 := cell_of_block HM5.out.hN 0
          have n1 := cell_of_block HM5.out.hN 1
          have n2 := cell_of_block HM5.out.hN 2
          simp only [List.getElem?_toArray, List.getElem?_cons_zero, List.getElem?_cons_succ] at n0 n1 n2
          have nf1 := frozen_of_block HM5.out.hN 1
          have nf2 := frozen_of_block HM5.out.hN 2
          have ln := heap_lt HM5.out.hN
          have HM5s := Lib.hid HM5.out.swap
          have cV := GV.out wc (G0.out.chg HM5.out.C (by simp; omega))
          go_upto_region 12 with fail
          go_cut [] (fun wx => ∃ g6 c6, MidApp W wx nb (.cells #[.bool leaf, .slice (some ⟨g5, 0, none⟩) (k + 1) c5, .slice (some ⟨g6, 0, none⟩) (k + 1) c6] 24 (0, 0)) (.slice (some ⟨g6, 0, none⟩) (k + 1) c6) (.slice (some ⟨g5, 0, none⟩) (k + 1) c5) (k + 1) (k + 1) (pval f) (pkey f))
          case first =>
            refine wp_region_held_drew (S := fun _ => True) (by kernel_rfl) (by exact trivial) (fun hHeld => ?_)
            refine wpAnyH_take (i := 0) (oi := ?_) (v := ?_) ?_ (by kernel_rfl) (by kernel_rfl) (by kernel_rfl) ?_ (Or.inl ⟨?_, ?_⟩) hHeld ?_
            rotate_left 2
            · (simp only [List.getElem?_toArray, List.getElem?_cons_succ, List.getElem?_cons_zero]; rfl)
            · exact fun _ _ _ h => h
            · rfl
            · (intro w hSw; go_simp; first | done | with_reducible rfl)
            try simp only [Act.put, List.setIfInBounds_toArray, List.set_cons_zero, List.set_cons_succ]
            refine wpAnyH_take (i := 2) (oi := ?_) (v := ?_) ?_ (by kernel_rfl) (by kernel_rfl) (by kernel_rfl) ?_ (Or.inl ⟨?_, ?_⟩) hHeld ?_
            rotate_left 2
            · (simp only [List.getElem?_toArray, List.getElem?_cons_succ, List.getElem?_cons_zero]; rfl)
            · exact fun _ _ _ h => h
            · rfl
            · (intro w hSw; go_simp; first | done | with_reducible rfl)
            try simp only [Act.put, List.setIfInBounds_toArray, List.set_cons_zero, List.set_cons_succ]
            refine wpAnyH_take (i := 3) (oi := ?_) (v := ?_) ?_ (by kernel_rfl) (by kernel_rfl) (by kernel_rfl) ?_ (Or.inl ⟨?_, ?_⟩) hHeld ?_
            rotate_left 2
            · (simp only [List.getElem?_toArray, List.getElem?_cons_succ, List.getElem?_cons_zero]; rfl)
            · exact fun _ _ _ h => h
            · rfl
            · (intro w hSw; go_simp; first | done | with_reducible rfl)
            try simp only [Act.put, List.setIfInBounds_toArray, List.set_cons_zero, List.set_cons_succ]
            refine wpAnyH_ready (rs := [1, 4]) (by kernel_rfl) (by simp) ?_
            refine AllReadyH.cons (o := ?_) ?_ (fun K hK => ?_) ?_
            rotate_left 1
            · (simp only [List.getElem?_toArray, List.getElem?_cons_succ, List.getElem?_cons_zero]; rfl)
            · go_simp
              refine hK.out _ _ ?_ (fun hHeld => ?_)
              · exact trivial
              clear hK K
              try simp only [Act.put, List.setIfInBounds_toArray, List.set_cons_zero, List.set_cons_succ]
              refine wpAnyH_ready (rs := [4]) (by kernel_rfl) (by simp) ?_
              refine AllReadyH.cons (o := ?_) ?_ (fun K hK => ?_) AllReadyH.nil
              rotate_left 1
              · (simp only [List.getElem?_toArray, List.getElem?_cons_succ, List.getElem?_cons_zero]; rfl)
              · (go_simp; go_at_call 31; refine cV.mono ?_; rintro e w' ⟨rfl, rfl⟩; go_wp2_with fail)
                refine hK.out _ _ ?_ (fun hHeld => ?_)
                · exact trivial
                clear hK K
                try simp only [Act.put, List.setIfInBounds_toArray, List.set_cons_zero, List.set_cons_succ]
                refine wpAnyH_ready (rs := [5]) (by kernel_rfl) (by simp) ?_
                refine AllReadyH.cons (o := ?_) ?_ (fun K hK => ?_) AllReadyH.nil
                rotate_left 1
                · (simp only [List.getElem?_toArray, List.getElem?_cons_succ, List.getElem?_cons_zero]; rfl)
                · go_simp
                  refine hK.out _ _ ?_ (fun hHeld => ?_)
                  · exact trivial
                  clear hK K
                  try simp only [Act.put, List.setIfInBounds_toArray, List.set_cons_zero, List.set_cons_succ]
                  refine wpAnyH_ready (rs := [6]) (by kernel_rfl) (by simp) ?_
                  refine AllReadyH.cons (o := ?_) ?_ (fun K hK => ?_) AllReadyH.nil
                  rotate_left 1
                  · (simp only [List.getElem?_toArray, List.getElem?_cons_succ, List.getElem?_cons_zero]; rfl)
                  · (refine step_append_lies _ rfl (.tmp 54) (.tmp 58) 22 rfl W.heap.size 43 i0 (.int .u64 0) 1 8 Try.underlying22 Hi.out hz0 hz1 hz2 rfl (by decide) vv k _ (by simp [Act.eval, Act.put]) (HM5s.out.h1.keep (((Chg.refl [] wc).alloc (.cells #[.int .u64 (aV : Int)] 43)).drew) (by simp)) ⟨wc.heap.size, 0, none⟩ 1 1 [.int .u64 (aV : Int)] (by simp [Act.eval, Act.put]) rfl one_news (by intro u hu; simp at hu; subst hu; rfl) (by omega) (by unfold maxLen; omega) (by omega) (by have := HM5s.out.C.size; show W.heap.size ≤ (wc.alloc (.cells #[.int .u64 (aV : Int)] 43)).heap.size; rw [size_alloc']; omega) _ rfl ?_; intro g5' c5' w5 hown hgrow hor hlt5; have M5' := mid_app (wr := wc) HM5s.out.hN HM5s.out.C lN HM5s.out.h1 HM5s.out.h2 HM5s.out.hd (((Chg.refl [] wc).alloc (.cells #[.int .u64 (aV : Int)] 43)).drew) hown hgrow hor EV.out; have q2 := cell_of_block M5'.hN 2; have qf := frozen_of_block M5'.hN 2; have lq := heap_lt M5'.hN; simp only [List.getElem?_toArray, List.getElem?_cons_zero, List.getElem?_cons_succ] at q2; have HM5' := Lib.hid M5'; clear hown hgrow hor M5')
                    refine hK.out _ _ ?_ (fun hHeld => ?_)
                    · exact trivial
                    clear hK K
                    try simp only [Act.put, List.setIfInBounds_toArray, List.set_cons_zero, List.set_cons_succ]
                    refine wpAnyH_take (i := 7) (oi := ?_) (v := ?_) ?_ (by kernel_rfl) (by kernel_rfl) (by kernel_rfl) ?_ (Or.inl ⟨?_, ?_⟩) hHeld ?_
                    rotate_left 2
                    · (simp only [List.getElem?_toArray, List.getElem?_cons_succ, List.getElem?_cons_zero]; rfl)
                    · exact fun _ _ _ h => h
                    · rfl
                    · (intro w hSw; go_simp; first | done | with_reducible rfl)
                    try simp only [Act.put, List.setIfInBounds_toArray, List.set_cons_zero, List.set_cons_succ]
                    refine wpAnyH_ready (rs := [8]) (by kernel_rfl) (by simp) ?_
                    refine AllReadyH.cons (o := ?_) ?_ (fun K hK => ?_) AllReadyH.nil
                    rotate_left 1
                    · (simp only [List.getElem?_toArray, List.getElem?_cons_succ, List.getElem?_cons_zero]; rfl)
                    · go_simp
                      refine hK.out _ _ ?_ (fun hHeld => ?_)
                      · exact trivial
                      clear hK K
                      try simp only [Act.put, List.setIfInBounds_toArray, List.set_cons_zero, List.set_cons_succ]
                      refine wpAnyH_done (by kernel_rfl) ?_ _
                      go_wp2_with fail
                      go_meet
                      exact ⟨_, _, HM5'.out.set lN 2 _⟩
            refine AllReadyH.cons (o := ?_) ?_ (fun K hK => ?_) AllReadyH.nil
            rotate_left 1
            · (simp only [List.getElem?_toArray, List.getElem?_cons_succ, List.getElem?_cons_zero]; rfl)
            · (go_simp; go_at_call 31; refine cV.mono ?_; rintro e w' ⟨rfl, rfl⟩; go_wp2_with fail)
              refine hK.out _ _ ?_ (fun hHeld => ?_)
              · exact trivial
              clear hK K
              try simp only [Act.put, List.setIfInBounds_toArray, List.set_cons_zero, List.set_cons_succ]
              refine wpAnyH_ready (rs := [1, 5]) (by kernel_rfl) (by simp) ?_
              refine AllReadyH.cons (o := ?_) ?_ (fun K hK => ?_) ?_
              rotate_left 1
              · (simp only [List.getElem?_toArray, List.getElem?_cons_succ, List.getElem?_cons_zero]; rfl)
              · go_simp
                refine hK.out _ _ ?_ (fun hHeld => ?_)
                · exact trivial
                clear hK K
                try simp only [Act.put, List.setIfInBounds_toArray, List.set_cons_zero, List.set_cons_succ]
                refine wpAnyH_ready (rs := [5]) (by kernel_rfl) (by simp) ?_
                refine AllReadyH.cons (o := ?_) ?_ (fun K hK => ?_) AllReadyH.nil
                rotate_left 1
                · (simp only [List.getElem?_toArray, List.getElem?_cons_succ, List.getElem?_cons_zero]; rfl)
                · go_simp
                  refine hK.out _ _ ?_ (fun hHeld => ?_)
                  · exact trivial
                  clear hK K
                  try simp only [Act.put, List.setIfInBounds_toArray, List.set_cons_zero, List.set_cons_succ]
                  refine wpAnyH_ready (rs := [6]) (by kernel_rfl) (by simp) ?_
                  refine AllReadyH.cons (o := ?_) ?_ (fun K hK => ?_) AllReadyH.nil
                  rotate_left 1
                  · (simp only [List.getElem?_toArray, List.getElem?_cons_succ, List.getElem?_cons_zero]; rfl)
                  · (refine step_append_lies _ rfl (.tmp 54) (.tmp 58) 22 rfl W.heap.size 43 i0 (.int .u64 0) 1 8 Try.underlying22 Hi.out hz0 hz1 hz2 rfl (by decide) vv k _ (by simp [Act.eval, Act.put]) (HM5s.out.h1.keep (((Chg.refl [] wc).alloc (.cells #[.int .u64 (aV : Int)] 43)).drew) (by simp)) ⟨wc.heap.size, 0, none⟩ 1 1 [.int .u64 (aV : Int)] (by simp [Act.eval, Act.put]) rfl one_news (by intro u hu; simp at hu; subst hu; rfl) (by omega) (by unfold maxLen; omega) (by omega) (by have := HM5s.out.C.size; show W.heap.size ≤ (wc.alloc (.cells #[.int .u64 (aV : Int)] 43)).heap.size; rw [size_alloc']; omega) _ rfl ?_; intro g5' c5' w5 hown hgrow hor hlt5; have M5' := mid_app (wr := wc) HM5s.out.hN HM5s.out.C lN HM5s.out.h1 HM5s.out.h2 HM5s.out.hd (((Chg.refl [] wc).alloc (.cells #[.int .u64 (aV : Int)] 43)).drew) hown hgrow hor EV.out; have q2 := cell_of_block M5'.hN 2; have qf := frozen_of_block M5'.hN 2; have lq := heap_lt M5'.hN; simp only [List.getElem?_toArray, List.getElem?_cons_zero, List.getElem?_cons_succ] at q2; have HM5' := Lib.hid M5'; clear hown hgrow hor M5')
                    refine hK.out _ _ ?_ (fun hHeld => ?_)
                    · exact trivial
                    clear hK K
                    try simp only [Act.put, List.setIfInBounds_toArray, List.set_cons_zero, List.set_cons_succ]
                    refine wpAnyH_take (i := 7) (oi := ?_) (v := ?_) ?_ (by kernel_rfl) (by kernel_rfl) (by kernel_rfl) ?_ (Or.inl ⟨?_, ?_⟩) hHeld ?_
                    rotate_left 2
                    · (simp only [List.getElem?_toArray, List.getElem?_cons_succ, List.getElem?_cons_zero]; rfl)
                    · exact fun _ _ _ h => h
                    · rfl
                    · (intro w hSw; go_simp; first | done | with_reducible rfl)
                    try simp only [Act.put, List.setIfInBounds_toArray, List.set_cons_zero, List.set_cons_succ]
                    refine wpAnyH_ready (rs := [8]) (by kernel_rfl) (by simp) ?_
                    refine AllReadyH.cons (o := ?_) ?_ (fun K hK => ?_) AllReadyH.nil
                    rotate_left 1
                    · (simp only [List.getElem?_toArray, List.getElem?_cons_succ, List.getElem?_cons_zero]; rfl)
                    · go_simp
                      refine hK.out _ _ ?_ (fun hHeld => ?_)
                      · exact trivial
                      clear hK K
                      try simp only [Act.put, List.setIfInBounds_toArray, List.set_cons_zero, List.set_cons_succ]
                      refine wpAnyH_done (by kernel_rfl) ?_ _
                      go_wp2_with fail
                      go_meet
                      exact ⟨_, _, HM5'.out.set lN 2 _⟩
              refine AllReadyH.cons (o := ?_) ?_ (fun K hK => ?_) AllReadyH.nil
              rotate_left 1
              · (simp only [List.getElem?_toArray, List.getElem?_cons_succ, List.getElem?_cons_zero]; rfl)
              · go_simp
                refine hK.out _ _ ?_ (fun hHeld => ?_)
                · exact trivial
                clear hK K
                try simp only [Act.put, List.setIfInBounds_toArray, List.set_cons_zero, List.set_cons_succ]
                refine wpAnyH_ready (rs := [1]) (by kernel_rfl) (by simp) ?_
                refine AllReadyH.cons (o := ?_) ?_ (fun K hK => ?_) AllReadyH.nil
                rotate_left 1
                · (simp only [List.getElem?_toArray, List.getElem?_cons_succ, List.getElem?_cons_zero]; rfl)
                · go_simp
                  refine hK.out _ _ ?_ (fun hHeld => ?_)
                  · exact trivial
                  clear hK K
                  try simp only [Act.put, List.setIfInBounds_toArray, List.set_cons_zero, List.set_cons_succ]
                  refine wpAnyH_ready (rs := [6]) (by kernel_rfl) (by simp) ?_
                  refine AllReadyH.cons (o := ?_) ?_ (fun K hK => ?_) AllReadyH.nil
                  rotate_left 1
                  · (simp only [List.getElem?_toArray, List.getElem?_cons_succ, List.getElem?_cons_zero]; rfl)
                  · (refine step_append_lies _ rfl (.tmp 54) (.tmp 58) 22 rfl W.heap.size 43 i0 (.int .u64 0) 1 8 Try.underlying22 Hi.out hz0 hz1 hz2 rfl (by decide) vv k _ (by simp [Act.eval, Act.put]) (HM5s.out.h1.keep (((Chg.refl [] wc).alloc (.cells #[.int .u64 (aV : Int)] 43)).drew) (by simp)) ⟨wc.heap.size, 0, none⟩ 1 1 [.int .u64 (aV : Int)] (by simp [Act.eval, Act.put]) rfl one_news (by intro u hu; simp at hu; subst hu; rfl) (by omega) (by unfold maxLen; omega) (by omega) (by have := HM5s.out.C.size; show W.heap.size ≤ (wc.alloc (.cells #[.int .u64 (aV : Int)] 43)).heap.size; rw [size_alloc']; omega) _ rfl ?_; intro g5' c5' w5 hown hgrow hor hlt5; have M5' := mid_app (wr := wc) HM5s.out.hN HM5s.out.C lN HM5s.out.h1 HM5s.out.h2 HM5s.out.hd (((Chg.refl [] wc).alloc (.cells #[.int .u64 (aV : Int)] 43)).drew) hown hgrow hor EV.out; have q2 := cell_of_block M5'.hN 2; have qf := frozen_of_block M5'.hN 2; have lq := heap_lt M5'.hN; simp only [List.getElem?_toArray, List.getElem?_cons_zero, List.getElem?_cons_succ] at q2; have HM5' := Lib.hid M5'; clear hown hgrow hor M5')
                    refine hK.out _ _ ?_ (fun hHeld => ?_)
                    · exact trivial
                    clear hK K
                    try simp only [Act.put, List.setIfInBounds_toArray, List.set_cons_zero, List.set_cons_succ]
                    refine wpAnyH_take (i := 7) (oi := ?_) (v := ?_) ?_ (by kernel_rfl) (by kernel_rfl) (by kernel_rfl) ?_ (Or.inl ⟨?_, ?_⟩) hHeld ?_
                    rotate_left 2
                    · (simp only [List.getElem?_toArray, List.getElem?_cons_succ, List.getElem?_cons_zero]; rfl)
                    · exact fun _ _ _ h => h
                    · rfl
                    · (intro w hSw; go_simp; first | done | with_reducible rfl)
                    try simp only [Act.put, List.setIfInBounds_toArray, List.set_cons_zero, List.set_cons_succ]
                    refine wpAnyH_ready (rs := [8]) (by kernel_rfl) (by simp) ?_
                    refine AllReadyH.cons (o := ?_) ?_ (fun K hK => ?_) AllReadyH.nil
                    rotate_left 1
                    · (simp only [List.getElem?_toArray, List.getElem?_cons_succ, List.getElem?_cons_zero]; rfl)
                    · go_simp
                      refine hK.out _ _ ?_ (fun hHeld => ?_)
                      · exact trivial
                      clear hK K
                      try simp only [Act.put, List.setIfInBounds_toArray, List.set_cons_zero, List.set_cons_succ]
                      refine wpAnyH_done (by kernel_rfl) ?_ _
                      go_wp2_with fail
                      go_meet
                      exact ⟨_, _, HM5'.out.set lN 2 _⟩
          case rest =>
            obtain ⟨g6, c6, M6⟩ := hcut
            have HM6 := Lib.hid M6
            clear HM5 M6 n0 n1 n2 nf1 nf2 ln
            go_wp2_with fail
            go_roundw
            case rel => exact ⟨k + 1, m - 16, d - 16, _, _, by omega, by omega, by omega, by omega, by go_num, by rw [show 1 + 16 * (k + 1) = 1 + 16 * k + 16 by omega], HM6.out.swap⟩
            case measure => simp [intOf]; omega
    · obtain rfl : k = f 1 := by omega
      have t1 : ¬ (f 1 : Int) < (f 1 : Int) := by omega
      go_wp2_with fail
      clear t1 u1 z0
      go_loop [10] (fun s => ∃ j : Nat, j ≤ m ∧ s = .int .i64 (j : Int) ∧ ∀ i, i < j → f (1 + (1 + 16 * f 1 + i)) = 0) (fun s => m - (intOf s).toNat)
      case atStart => exact ⟨0, Nat.zero_le _, rfl, fun i hi => by omega⟩
      case round =>
        obtain ⟨j, hj, rfl, hZ⟩ := hrel
        have HZ := Lib.hid hZ
        clear hZ
        by_cases hjm : j < m
        · have j0 : (0 : Int) ≤ (j : Int) := by omega
          have j1 : (j : Int) < (m : Int) := by omega
          have cj := (HG.out (1 + 16 * f 1 + j) (by omega)).1
          rw [Nat.zero_add] at cj
          by_cases hz : f (1 + (1 + 16 * f 1 + j)) = 0
          · have t : ((f (1 + (1 + 16 * f 1 + j)) : Int) != 0) = false := by simp [hz]
            have Hzj : f (1 + (1 + 16 * f 1 + j)) = 0 := hz
            have HJ := Lib.hid Hzj
            clear Hzj hz
            go_wp2_with fail
            go_round
            case rel =>
              refine ⟨j + 1, by omega, by go_num, fun i hi => ?_⟩
              by_cases e : i = j
              · subst e; exact HJ.out
              · exact HZ.out i (by omega)
            case measure => simp [intOf]; omega
          · have t : ((f (1 + (1 + 16 * f 1 + j)) : Int) != 0) = true := by simp; omega
            have hno : ¬ RDec 128 f := fun q => hz (q.2.2.2.2.1 (1 + 16 * f 1 + j) (by omega) (by omega))
            have Hno := Lib.hid hno
            have x0 := cell_of_block HXr.out 0
            have x1 := cell_of_block HXr.out 1
            have x2 := cell_of_block HXr.out 2
            simp only [List.getElem?_toArray, List.getElem?_cons_zero, List.getElem?_cons_succ] at x0 x1 x2
            have y0 := frozen_of_block HXr.out 0
            have y1 := frozen_of_block HXr.out 1
            have y2 := frozen_of_block HXr.out 2
            have lx := heap_lt HXr.out
            have HC := Lib.hid (C0.out.then HM.out.C (by simp; omega))
            clear hno hz
            go_wp2_with fail
            exact bodyPost_ret (v := .tuple #[.agg #[.bool false, .slice none 0 0, .slice none 0 0], .int .i64 30]) (by simp [results, Try.results15, go_sem, lx, x0, x1, x2]) rfl (.inr ⟨Hno.out, rfl, chg3 HC.out _ _ _⟩)
        · obtain rfl : j = m := by omega
          obtain ⟨ak, ck, rfl⟩ := HM.out.h1.form
          obtain ⟨av, cv, rfl⟩ := HM.out.h2.form
          have hlt : ∀ j, j + 8 ≤ 123 → num (fun i => f (1 + i)) j 8 < 18446744073709551616 := fun j hj => by
            have := num_lt (f := fun i => f (1 + i)) (p := j) (k := 8) fun i hi => Hf.out _ (by omega)
            rwa [show (256 : Nat) ^ 8 = 18446744073709551616 by decide] at this
          have NK := Lib.hid (HM.out.h1.nums (fun i hi => by unfold pkey keyF; rw [if_pos hi]; exact hlt _ (by omega)))
          have NV := Lib.hid (HM.out.h2.nums (fun i hi => by unfold pval valF; rw [if_pos hi]; exact hlt _ (by omega)))
          have cR := rright_at (leaf := leaf) NK.out NV.out
          have HC := Lib.hid (C0.out.then HM.out.C (by simp; omega))
          have HR : RDec 128 f ↔ rightB leaf (f 1) (f 1) (pkey f) (pval f) = true := by
            unfold RDec
            rw [Hk.out.2.2]
            constructor
            · intro q; exact q.2.2.2.2.2
            · intro q
              exact ⟨rfl, Hk.out.2.1, by rw [Hk.out.1]; cases leaf <;> simp [kindOf], by omega, fun i hi hi2 => by
                have := HZ.out (i - (1 + 16 * f 1)) (by omega)
                rwa [show 1 + 16 * f 1 + (i - (1 + 16 * f 1)) = i by omega] at this, q⟩
          have HRD := Lib.hid HR
          clear HR hlt
          cases hr : rightB leaf (f 1) (f 1) (pkey f) (pval f) with
          | true =>
            rw [hr] at cR
            have Hr := Lib.hid hr
            clear hr
            go_wp2_with fail
            refine cR.mono ?_
            clear cR n0 n1 n2 nf1 nf2 ln
            rintro e w9 ⟨rfl, hC9⟩
            have X9 := (hC9.block _ (heap_lt HXr.out) (by simp)).trans HXr.out
            have N9 := (hC9.block _ (heap_lt HM.out.hN) (by simp)).trans HM.out.hN
            have x0 := cell_of_block X9 0
            have x1 := cell_of_block X9 1
            have x2 := cell_of_block X9 2
            simp only [List.getElem?_toArray, List.getElem?_cons_zero, List.getElem?_cons_succ] at x0 x1 x2
            have n0 := cell_of_block N9 0
            have n1 := cell_of_block N9 1
            have n2 := cell_of_block N9 2
            simp only [List.getElem?_toArray, List.getElem?_cons_zero, List.getElem?_cons_succ] at n0 n1 n2
            have y0 := frozen_of_block X9 0
            have y1 := frozen_of_block X9 1
            have y2 := frozen_of_block X9 2
            have lx := heap_lt X9
            have ln := heap_lt N9
            have HC9 := Lib.hid (HC.out.trans hC9)
            have NK9 := Lib.hid (NK.out.chg hC9 (by simp))
            have NV9 := Lib.hid (NV.out.chg hC9 (by simp))
            have bk := fun x hx => HM.out.h1.block (g := x) hx
            have bv := fun x hx => HM.out.h2.block (g := x) hx
            have Bk := Lib.hid bk
            have Bv := Lib.hid bv
            clear X9 N9 hC9 bk bv
            go_wp2_with fail
            refine bodyPost_ret (v := .tuple #[.agg #[.bool leaf, .slice ak (f 1) ck, .slice av (f 1) cv], .int .i64 0]) (by simp [results, Try.results15, go_sem, lx, x0, x1, x2]) rfl (.inl ⟨HRD.out.2 Hr.out, _, _, by rw [Hk.out.2.2], ?_, ?_, chg3 HC9.out _ _ _⟩)
            · exact NK9.out.off' (chg3b w w9 _ _ _) (by intro p c e; injection e with e; subst e; have := Bk.out p.block rfl; simp; omega)
            · exact NV9.out.off' (chg3b w w9 _ _ _) (by intro p c e; injection e with e; subst e; have := Bv.out p.block rfl; simp; omega)
          | false =>
            rw [hr] at cR
            have Hr := Lib.hid hr
            clear hr
            go_wp2_with fail
            refine cR.mono ?_
            clear cR n0 n1 n2 nf1 nf2 ln
            rintro e w9 ⟨rfl, hC9⟩
            have X9 := (hC9.block _ (heap_lt HXr.out) (by simp)).trans HXr.out
            have x0 := cell_of_block X9 0
            have x1 := cell_of_block X9 1
            have x2 := cell_of_block X9 2
            simp only [List.getElem?_toArray, List.getElem?_cons_zero, List.getElem?_cons_succ] at x0 x1 x2
            have y0 := frozen_of_block X9 0
            have y1 := frozen_of_block X9 1
            have y2 := frozen_of_block X9 2
            have lx := heap_lt X9
            have HC9 := Lib.hid (HC.out.trans hC9)
            clear X9 hC9
            go_wp2_with fail
            exact bodyPost_ret (v := .tuple #[.agg #[.bool false, .slice none 0 0, .slice none 0 0], .int .i64 30]) (by simp [results, Try.results15, go_sem, lx, x0, x1, x2]) rfl (.inr ⟨fun q => (by have := HRD.out.1 q; rw [Hr.out] at this; cases this), rfl, chg3 HC9.out _ _ _⟩)

end

theorem rdec_at {w : World} {a : Option Addr} {n cap : Nat} {f : Nat → Nat} (h : BytesIn w a n cap f) : Calls Try.prog 15 #[.slice a n cap] w (RDecEnd w n f) := by
  by_cases hn : n = 128
  · subst hn
    obtain ⟨h1, h2, h3, h4⟩ := h
    cases a with
    | none => have := (h3 rfl).1; omega
    | some q =>
      obtain ⟨b, off, rfl, hb⟩ := h4 q rfl (by omega)
      have hN : cap ≤ 9223372036854775807 := by unfold maxLen at h2; omega
      by_cases hp : pageOK f
      · by_cases hk : f 0 = 1 ∨ f 0 = 2
        · rcases hk with hk | hk
          · exact rdec_rest hb h1 hN true hp (by rw [hk]; rfl)
          · exact rdec_rest hb h1 hN false hp (by rw [hk]; rfl)
        · exact (rdec_kind hb h1 hN hp (by omega)).mono fun _ _ r => .inr ⟨fun q => hk q.2.2.1, r⟩
      · exact (rdec_sum hb h1 hN hp).mono fun _ _ r => .inr ⟨fun q => hp q.2.1, r⟩
  · exact (rdec_len hn).mono fun _ _ r => .inr ⟨fun q => hn q.1, r⟩

end Go.Proofs.Ytjceoheiiohfcaa
