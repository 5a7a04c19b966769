/- catchmentlow.EqualNumbers, EqualNodes, AgainNumbers. -/
import Derived.Test.YtjceoheiiohfcaaPag
namespace Go.Proofs.Ytjceoheiiohfcaa
open Go.RowKit
set_option linter.unusedVariables false
set_option linter.unusedSimpArgs false

theorem NumsIn.cap {A : List Nat} {w : World} {v : Value} {n : Nat} {f : Nat → Nat} (h : NumsIn A w v n f) : ∃ a cap, v = .slice a n cap ∧ n ≤ cap ∧ cap ≤ 9223372036854775807 := by
  rcases h with ⟨⟨a, c, h, hc, _⟩, rfl⟩ | ⟨b, off, cap, h, h2, h3, _⟩
  · unfold maxLen at hc; exact ⟨a, c, h, Nat.zero_le _, by omega⟩
  · unfold maxLen at h3; exact ⟨_, _, h, h2, by omega⟩
theorem NumsIn.get {A : List Nat} {w : World} {a : Option Addr} {n m cap : Nat} {f : Nat → Nat} (h : NumsIn A w (.slice a m cap) n f) {i : Nat} (hi : i < n) :
    ∃ b off, a = some ⟨b, off, none⟩ ∧ b < w.heap.size ∧ b ∉ A ∧ NumsAt w b off n f := by
  rcases h with ⟨_, h0⟩ | ⟨b, off, c, h1, h2, h3, h4, h5, h6⟩
  · omega
  · injection h1 with h1 _ _
    exact ⟨b, off, h1, h4, h5, h6⟩

set_option maxRecDepth 20000 in
set_option maxHeartbeats 2000000 in
theorem equalN_at {A B : List Nat} {w : World} {v u : Value} {n m : Nat} {f g : Nat → Nat} (h1 : NumsIn A w v n f) (h2 : NumsIn B w u m g) :
    Calls Try.prog 32 #[v, u] w fun e w' => e = .returned (.bool (eqF n m f g)) ∧ Chg [] w w' := by
  obtain ⟨a, c, rfl, a1, a2⟩ := h1.cap
  obtain ⟨b, d, rfl, b1, b2⟩ := h2.cap
  have H1 := Lib.hid h1
  have H2 := Lib.hid h2
  clear h1 h2
  by_cases hnm : n = m
  · subst hnm
    have hd : ((n : Int) != (n : Int)) = false := by simp
    go_enter Try.func32, Try.ntmps32
    go_wp2_with fail
    clear hd
    go_loopw [5] (fun s wr => ∃ k : Nat, k ≤ n ∧ s = .int .i64 (k : Int) ∧ (∀ i, k ≤ i → i < n → f i = g i) ∧ Chg [] w wr) (fun s _ => (intOf s).toNat)
    case atStart => exact ⟨n, Nat.le_refl _, rfl, fun i h1 h2 => by omega, Chg.refl _ _⟩
    case round =>
      obtain ⟨k, hk, rfl, hE, hC⟩ := hrel
      have HE := Lib.hid hE
      have HC := Lib.hid hC
      clear hE hC
      by_cases h0 : k = 0
      · subst h0
        have E := Lib.hid (eqF_eq (n := n) (m := n) (f := f) (g := g) (b := true) ⟨fun _ => rfl, fun _ => ⟨rfl, fun i hi => HE.out i (by omega) hi⟩⟩)
        have hd : decide ((0 : Int) < ((0 : Nat) : Int)) = false := rfl
        go_wp2_with fail
        go_ret
        exact ⟨by rw [E.out]; rfl, HC.out⟩
      · obtain ⟨q, rfl⟩ : ∃ q, k = q + 1 := ⟨k - 1, by omega⟩
        obtain ⟨x, o, rfl, l1, _, g1⟩ := H1.out.get (i := q) (by omega)
        obtain ⟨y, p, rfl, l2, _, g2⟩ := H2.out.get (i := q) (by omega)
        have x1 := ((HC.out.cell (p := ⟨x, o + q, none⟩) l1 (by simp)).trans (g1 q (by omega)).1)
        have y1 := ((HC.out.cell (p := ⟨y, p + q, none⟩) l2 (by simp)).trans (g2 q (by omega)).1)
        have j0 : (0 : Int) < (q : Int) + 1 := by omega
        have j1 : (0 : Int) ≤ (q : Int) := by omega
        have j2 : (q : Int) < (n : Int) := by omega
        have e1 : (q : Int) + 1 - 1 = (q : Int) := by omega
        clear g1 g2 h0
        by_cases hq : f q = g q
        · have hd : ((f q : Int) != (g q : Int)) = false := by simp [hq]
          have Hq := Lib.hid hq
          clear hq
          go_wp2_with fail
          go_quiet (fail)
          go_wp2_with fail
          go_roundw
          case rel =>
            refine ⟨q, by omega, by go_num, fun i h1 h2 => ?_, HC.out.drewN _⟩
            by_cases e : i = q
            · subst e; exact Hq.out
            · exact HE.out i (by omega) h2
          case measure => simp [intOf]
        · have hd : ((f q : Int) != (g q : Int)) = true := by simp; omega
          have E := Lib.hid (eqF_eq (n := n) (m := n) (f := f) (g := g) (b := false) ⟨fun h => absurd (h.2 q (by omega)) hq, fun h => by cases h⟩)
          clear hq
          go_wp2_with fail
          go_quiet (fail)
          go_wp2_with fail
          go_ret
          exact ⟨by rw [E.out]; rfl, HC.out.drewN _⟩
  · have hd : ((n : Int) != (m : Int)) = true := by simp; omega
    have E := Lib.hid (eqF_eq (n := n) (m := m) (f := f) (g := g) (b := false) ⟨fun h => absurd h.1 hnm, fun h => by cases h⟩)
    clear hnm
    go_enter Try.func32, Try.ntmps32
    go_wp2_with fail
    go_ret
    exact ⟨by rw [E.out]; rfl, Chg.refl _ _⟩

set_option maxRecDepth 20000 in
set_option maxHeartbeats 2000000 in
theorem equalNodes_at {w : World} {l l' : Bool} {k v k' v' : Value} {nk nv nk' nv' : Nat} {keys vals keys' vals' : Nat → Nat} {A B C D : List Nat}
    (h1 : NumsIn A w k nk keys) (h2 : NumsIn B w v nv vals) (h3 : NumsIn C w k' nk' keys') (h4 : NumsIn D w v' nv' vals') :
    Calls Try.prog 17 #[.agg #[.bool l, k, v], .agg #[.bool l', k', v']] w fun e w' => e = .returned (.bool (eqN l l' nk nk' nv nv' keys keys' vals vals')) ∧ Chg [] w w' := by
  obtain ⟨a1, c1, rfl, _⟩ := h1.cap
  obtain ⟨a2, c2, rfl, _⟩ := h2.cap
  obtain ⟨a3, c3, rfl, _⟩ := h3.cap
  obtain ⟨a4, c4, rfl, _⟩ := h4.cap
  have hW := ((Chg.refl [] w).alloc (.cells #[.bool l, .slice a1 nk c1, .slice a2 nv c2] 24)).alloc (.cells #[.bool l', .slice a3 nk' c3, .slice a4 nv' c4] 24)
  have HX := Lib.hid (new_block21 w (.cells #[.bool l, .slice a1 nk c1, .slice a2 nv c2] 24) (.cells #[.bool l', .slice a3 nk' c3, .slice a4 nv' c4] 24))
  have HY := Lib.hid (new_block2 w (.cells #[.bool l, .slice a1 nk c1, .slice a2 nv c2] 24) (.cells #[.bool l', .slice a3 nk' c3, .slice a4 nv' c4] 24))
  have q1 := h1.chg hW (by simp)
  have q2 := h2.chg hW (by simp)
  have q3 := h3.chg hW (by simp)
  have q4 := h4.chg hW (by simp)
  have cK := equalN_at q1 q3
  have H2 := Lib.hid q2
  have H4 := Lib.hid q4
  have HW := Lib.hid hW
  clear h1 h2 h3 h4 q1 q2 q3 q4 hW
  have hb : (l == l') = true ∨ (l == l') = false := by cases l <;> cases l' <;> simp
  rcases hb with hb | hb
  · have Hb := Lib.hid hb
    cases he : eqF nk nk' keys keys' with
    | true =>
      have E := Lib.hid (show eqN l l' nk nk' nv nv' keys keys' vals vals' = eqF nv nv' vals vals' by unfold eqN; rw [Hb.out, he]; rfl)
      rw [he] at cK
      clear he
      go_enter Try.func17, Try.ntmps17
      go_wp2_with fail
      refine cK.mono ?_
      clear cK
      rintro e w1 ⟨rfl, hC1⟩
      have X1 := (hC1.block w.heap.size (heap_lt HX.out) (by simp)).trans HX.out
      have Y1 := (hC1.block (w.heap.size + 1) (heap_lt HY.out) (by simp)).trans HY.out
      have x2 := cell_of_block X1 2
      have y2 := cell_of_block Y1 2
      simp only [List.getElem?_toArray, List.getElem?_cons_zero, List.getElem?_cons_succ] at x2 y2
      have cV := equalN_at (H2.out.chg hC1 (by simp)) (H4.out.chg hC1 (by simp))
      have HC1 := Lib.hid (HW.out.trans hC1)
      clear X1 Y1 hC1
      go_wp2_with fail
      refine cV.mono ?_
      clear cV
      rintro e w2 ⟨rfl, hC2⟩
      have HC2 := Lib.hid (HC1.out.trans hC2)
      clear hC2
      go_wp2_with fail
      go_ret
      exact ⟨by rw [E.out]; rfl, HC2.out⟩
    | false =>
      have E := Lib.hid (show eqN l l' nk nk' nv nv' keys keys' vals vals' = false by unfold eqN; rw [Hb.out, he]; rfl)
      rw [he] at cK
      clear he
      go_enter Try.func17, Try.ntmps17
      go_wp2_with fail
      refine cK.mono ?_
      clear cK
      rintro e w1 ⟨rfl, hC1⟩
      have HC1 := Lib.hid (HW.out.trans hC1)
      clear hC1
      go_wp2_with fail
      go_ret
      exact ⟨by rw [E.out]; rfl, HC1.out⟩
  · have E := Lib.hid (show eqN l l' nk nk' nv nv' keys keys' vals vals' = false by unfold eqN; rw [hb]; rfl)
    go_enter Try.func17, Try.ntmps17
    go_wp2_with fail
    go_ret
    exact ⟨by rw [E.out]; rfl, HW.out⟩

theorem zrow_u64 (n : Nat) : zrow n (.int .u64 0) = fnRow n (fun _ => .int .u64 ((0 : Nat) : Int)) := by
  apply Array.ext
  · simp [zrow, fnRow]
  · intro i h1 h2
    simp [zrow, fnRow]

set_option maxRecDepth 20000 in
set_option maxHeartbeats 2000000 in
theorem againN_at {A : List Nat} {w : World} {v : Value} {n : Nat} {f : Nat → Nat} (h : NumsIn A w v n f) (hn : n ≤ 100000) :
    Calls Try.prog 10 #[v] w fun e w' => e = .returned (.slice (some ⟨w.heap.size, 0, none⟩) n n) ∧ Row64 w' w.heap.size n f ∧ Chg [] w w' := by
  obtain ⟨a, c, rfl, a1, a2⟩ := h.cap
  have hmk := run_make1 (P := Try.prog) 22 43 Try.underlying22 infoU64 rfl .i64 .i64 n (by omega) (by omega)
  have H := Lib.hid h
  clear h
  go_enter Try.func10, Try.ntmps10
  go_wp2_with (refine wpList_copy_fn rfl (.tmp 7) (.tmp 8) 22 22 rfl 43 Try.underlying22 (by kernel_rfl) w.heap.size 0 n n a n c rfl rfl n (fun _ => .int .u64 ((0 : Nat) : Int)) 43 ?c1 n ?c2 (fun i => .int .u64 (f i : Int)) ?c3 ?c4 ?c5 ?_)
  case c1 => rw [new_block, zrow_u64]
  case c2 => simp
  case c3 =>
    intro hp
    obtain ⟨b, off, rfl, l, _, hb⟩ := H.out.get (i := 0) hp
    exact ⟨b, off, rfl, fun j hj => ((hb.chg ((Chg.refl [] w).alloc _) (by simp)) j hj).1⟩
  case c4 => intro j _; rfl
  case c5 => omega
  intro w1 HB hC
  have hB1 := HB.out
  have HC1 := Lib.hid (((Chg.refl [w.heap.size] w).alloc _).trans hC)
  have hR : Row64 w1 w.heap.size n f := by
    refine ⟨fun i hi => ⟨?_, ?_⟩, _, hB1⟩
    · rw [Nat.zero_add, cell_of_block hB1]
      simp [fnRow, laid, hi]
    · obtain ⟨b, off, _, l, _, hb⟩ := H.out.get (i := i) hi
      exact (hb i hi).2
  have HR := Lib.hid hR
  clear hR hB1 hC HB
  go_wp2_with fail
  go_ret
  exact ⟨rfl, HR.out, Chg.then (L := []) (Chg.refl [] w) HC1.out (by simp)⟩

end Go.Proofs.Ytjceoheiiohfcaa
