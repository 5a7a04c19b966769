/- The reference of layer 10: pages, Need, changed, tells. -/
import Derived.Test.YtnhabpbdpjgiiaaAwk10
import Derived.Test.YtnhabpbdpjgiiaaRef9T
namespace Go.Proofs.Ytnhabpbdpjgiiaa
open Go.RowKit
set_option linter.unusedVariables false
set_option linter.unusedSimpArgs false

theorem r10pages_at {n : Nat} (w : World) (h2 : n ≤ 4096) : Calls Try.prog 33 #[.int .i64 (n : Int)] w fun e w' => e = .returned (.int .i64 (pg n : Int)) ∧ w = w' := by
  have e1 : ((n : Int) + 60) / 61 = ((pg n : Nat) : Int) := by unfold pg; omega
  go_enter Try.func33, Try.ntmps33
  go_wp2_with fail
  go_ret
  exact ⟨by simp [e1], rfl⟩
theorem r10need_at {n : Nat} (w : World) (h1 : 1 ≤ n) (h2 : n ≤ 4096) : Calls Try.prog 11 #[.int .i64 (n : Int)] w fun e w' => e = .returned (.int .i64 (needN n : Int)) ∧ w = w' := by
  have a1 : ¬ (n : Int) < 1 := by omega
  have p2 := pg_le (n := n)
  have p3 := pg_le (n := pg n)
  go_enter Try.func11, Try.ntmps11
  go_wp2_with fail
  refine (r10pages_at w h2).mono ?_
  rintro e w' ⟨rfl, rfl⟩
  go_wp2_with fail
  refine (r10pages_at w h2).mono ?_
  rintro e w' ⟨rfl, rfl⟩
  go_wp2_with fail
  refine (r10pages_at w (Nat.le_trans p2 h2)).mono ?_
  rintro e w' ⟨rfl, rfl⟩
  go_wp2_with fail
  go_ret
  refine ⟨?_, rfl⟩
  unfold needN
  go_num

/-- A state of the reference: its pick, its sheet, its marks. -/
def st10 (v1 v2 : Value) (K : Pk) (n g c h : Nat → Nat) : Value :=
  .agg #[v1, v2, .int .i64 (K.first : Int), .int .i64 (K.next : Int), .int .i64 (K.asked : Int), .slice (some ⟨g 0, 0, none⟩) (n 0) (c 0), .slice (some ⟨g 1, 0, none⟩) (n 1) (c 1), .slice (some ⟨h 0, 0, none⟩) (n 0) (n 0), .slice (some ⟨h 1, 0, none⟩) (n 1) (n 1)]
def stObj (v1 v2 : Value) (K : Pk) (n g c h : Nat → Nat) : Obj :=
  .cells #[v1, v2, .int .i64 (K.first : Int), .int .i64 (K.next : Int), .int .i64 (K.asked : Int), .slice (some ⟨g 0, 0, none⟩) (n 0) (c 0), .slice (some ⟨g 1, 0, none⟩) (n 1) (c 1), .slice (some ⟨h 0, 0, none⟩) (n 0) (n 0), .slice (some ⟨h 1, 0, none⟩) (n 1) (n 1)] 57

/-- .. in memory. -/
structure RefS (A : List Nat) (w : World) (v1 v2 : Value) (g c h : Nat → Nat) (S : PS) : Prop where
  t : RefT A w v1 v2 S.T
  ats : ∀ k, k < 2 → ∃ cur, w.heap[g k]? = some (.cells cur 3 (0, 0)) ∧ cur.size = c k ∧ S.n k ≤ c k ∧ c k ≤ maxLen ∧ ∀ i, i < S.n k → cur[i]? = some (.int .i64 (S.a k i : Int))
  pls : ∀ k, k < 2 → w.heap[h k]? = some (.cells (bools (S.n k) (S.p k)) 4 (0, 0))
  nd : [g 0, g 1, h 0, h 1].Nodup
  own : ∀ b, b ∈ [g 0, g 1, h 0, h 1] → b ∈ A
  n0 : S.n 0 = pg S.T.n
  n1 : S.n 1 = pg (pg S.T.n)
  f : S.K.first ≤ S.K.next
  nx : S.K.next ≤ S.T.n
theorem RefS.chg {A : List Nat} {w w' : World} {v1 v2 : Value} {g c h : Nat → Nat} {S : PS} (H : RefS A w v1 v2 g c h S) {L : List Nat} (C : Chg L w w') (hL : ∀ k, k ∈ L → k ∈ A ∨ w.heap.size ≤ k) (hd : ∀ b, b ∈ [g 0, g 1, h 0, h 1] → b ∉ L) : RefS A w' v1 v2 g c h S := by
  refine { H with t := H.t.chg C hL, ats := fun k hk => ?_, pls := fun k hk => ?_ }
  · obtain ⟨cur, h1, h2⟩ := H.ats k hk
    have hk2 : k = 0 ∨ k = 1 := by omega
    exact ⟨cur, (C.block _ (heap_lt h1) (hd _ (by rcases hk2 with rfl | rfl <;> simp))).trans h1, h2⟩
  · have h1 := H.pls k hk
    have hk2 : k = 0 ∨ k = 1 := by omega
    exact (C.block _ (heap_lt h1) (hd _ (by rcases hk2 with rfl | rfl <;> simp))).trans h1
theorem RefS.nle {A : List Nat} {w : World} {v1 v2 : Value} {g c h : Nat → Nat} {S : PS} (H : RefS A w v1 v2 g c h S) {k : Nat} (hk : k < 2) : 1 ≤ S.n k ∧ S.n k ≤ 4096 := by
  have a1 := H.t.n1
  have a2 := H.t.n2
  have p1 := pg_pos a1
  have p2 := pg_le (n := S.T.n)
  have p3 := pg_pos p1
  have p4 := pg_le (n := pg S.T.n)
  have hk2 : k = 0 ∨ k = 1 := by omega
  rcases hk2 with rfl | rfl
  · rw [H.n0]; omega
  · rw [H.n1]; omega

theorem any_to {p : Nat → Bool} {n i : Nat} (h : ∀ b, 61 * i ≤ b → b < 61 * i + 61 → b < n → p b = false) : anyIn p n i = false := anyIn_false.2 h

set_option maxRecDepth 20000 in
set_option maxHeartbeats 2000000 in
theorem r10changed_at {A : List Nat} {w : World} {v1 v2 : Value} {n g c h : Nat → Nat} {T : Tal} {K : Pk} (H : RefT A w v1 v2 T) (i : Nat) (hi : i ≤ 100) :
    Calls Try.prog 58 #[st10 v1 v2 K n g c h, .int .i64 (i : Int)] w fun e w' => e = .returned (.bool (anyIn T.changed T.n i)) ∧ Chg [] w w' := by
  have n2 := H.n2
  obtain ⟨g1, c1, rfl, a1, a2, a3, a4, a5⟩ := H.now
  obtain ⟨g2, c2, rfl, d1, d2, d3, d4, d5⟩ := H.kept
  have H1 := Lib.hid a5
  have H2 := Lib.hid d5
  have hX := new_block w (stObj (.slice (some ⟨g1, 0, none⟩) T.n c1) (.slice (some ⟨g2, 0, none⟩) T.n c2) K n g c h)
  have hC := (Chg.refl [] w).alloc (stObj (.slice (some ⟨g1, 0, none⟩) T.n c1) (.slice (some ⟨g2, 0, none⟩) T.n c2) K n g c h)
  unfold st10
  unfold stObj at hX hC
  have e1 : (i : Int) * 61 = ((61 * i : Nat) : Int) := by omega
  clear a5 d5 H
  go_enter Try.func58, Try.ntmps58
  go_wp2_with fail
  generalize w.alloc _ = w1 at *
  have x0 := cell_of_block hX 0
  have x1 := cell_of_block hX 1
  have x2 := cell_of_block hX 2
  have x3 := cell_of_block hX 3
  have x4 := cell_of_block hX 4
  have x5 := cell_of_block hX 5
  have x6 := cell_of_block hX 6
  have x7 := cell_of_block hX 7
  have x8 := cell_of_block hX 8
  simp only [List.getElem?_toArray, List.getElem?_cons_zero, List.getElem?_cons_succ] at x0 x1 x2 x3 x4 x5 x6 x7 x8
  have HX1 := Lib.hid (heap_lt hX)
  have HC := Lib.hid hC
  clear hX hC
  go_loopw [5] (fun s wr => ∃ b : Nat, 61 * i ≤ b ∧ b ≤ 61 * i + 61 ∧ s = .int .i64 (b : Int) ∧ Hid ((∀ k, 61 * i ≤ k → k < b → k < T.n → T.changed k = false) ∧ Chg [] w1 wr)) (fun s _ => 61 * i + 61 - (intOf s).toNat)
  case atStart => exact ⟨61 * i, Nat.le_refl _, by omega, rfl, ⟨fun k h1 h2 => by omega, Chg.refl _ _⟩⟩
  case round =>
    obtain ⟨b, hb1, hb2, rfl, hH⟩ := hrel
    have HCR := Lib.hid hH.out.2
    have hw1 : w.heap.size < w1.heap.size := HX1.out
    have hno := hH.out.1
    have HNO := Lib.hid hno
    clear hno hH
    have y0 := (HCR.out.cell (p := ⟨w.heap.size, 0, none⟩) hw1 (by simp)).trans x0
    have y1 := (HCR.out.cell (p := ⟨w.heap.size, 1, none⟩) hw1 (by simp)).trans x1
    by_cases hlt : b < 61 * i + 61 ∧ b < T.n
    · have i1 : (b : Int) < ((61 * i : Nat) : Int) + 61 := by omega
      have i2 : (b : Int) < (T.n : Int) := by omega
      have z1 := ((HC.out.trans HCR.out).cell (p := ⟨g1, b, none⟩) a3 (by simp)).trans (H1.out b hlt.2)
      have z2 := ((HC.out.trans HCR.out).cell (p := ⟨g2, b, none⟩) d3 (by simp)).trans (H2.out b hlt.2)
      by_cases he : T.now b = T.kept b
      · have hd : ((T.now b : Int) != (T.kept b : Int)) = false := by simp; omega
        have hch : T.changed b = false := by simp [Tal.changed, he]
        go_wp2_with fail
        go_quiet (fail)
        go_wp2_with fail
        go_roundw
        case rel => exact ⟨b + 1, by omega, by omega, by go_num, ⟨fun k h1 h2 h3 => by
          by_cases e : k = b
          · rw [e]; exact hch
          · exact HNO.out k h1 (by omega) h3, HCR.out.drewN _⟩⟩
        case measure => simp [intOf]; omega
      · have hd : ((T.now b : Int) != (T.kept b : Int)) = true := by simp; omega
        have hch : anyIn T.changed T.n i = true := anyIn_iff.2 ⟨b, hb1, hlt.1, hlt.2, by simp [Tal.changed, he]⟩
        have HCH := Lib.hid hch
        clear hch
        go_wp2_with fail
        go_quiet (fail)
        go_wp2_with fail
        go_ret
        exact ⟨by rw [HCH.out] <;> rfl, (HC.out.trans HCR.out).drewN _⟩
    · have hch : anyIn T.changed T.n i = false := any_to fun k h1 h2 h3 => HNO.out k h1 (by omega) h3
      have HCH := Lib.hid hch
      clear hch
      by_cases hlt1 : b < 61 * i + 61
      case' pos =>
        have i1 : (b : Int) < ((61 * i : Nat) : Int) + 61 := by omega
        have i2 : ¬ (b : Int) < (T.n : Int) := by omega
      case' neg => have i1 : ¬ (b : Int) < ((61 * i : Nat) : Int) + 61 := by omega
      all_goals
        go_wp2_with fail
        go_ret
        exact ⟨by rw [HCH.out] <;> rfl, HC.out.trans HCR.out⟩

set_option maxRecDepth 20000 in
set_option maxHeartbeats 2000000 in
theorem r10tells_at {A : List Nat} {w : World} {v1 v2 : Value} {g c h : Nat → Nat} {S : PS} (H : RefS A w v1 v2 g c h S) (i : Nat) (hi : i ≤ 100) :
    Calls Try.prog 60 #[st10 v1 v2 S.K S.n g c h, .int .i64 (i : Int)] w fun e w' => e = .returned (.bool (anyIn (S.p 0) (S.n 0) i)) ∧ Chg [] w w' := by
  have n2 := H.nle (k := 0) (by omega)
  have HP := Lib.hid (H.pls 0 (by omega))
  obtain ⟨g1, c1, rfl, _⟩ := H.t.now
  obtain ⟨g2, c2, rfl, _⟩ := H.t.kept
  have hX := new_block w (stObj (.slice (some ⟨g1, 0, none⟩) S.T.n c1) (.slice (some ⟨g2, 0, none⟩) S.T.n c2) S.K S.n g c h)
  have hC := (Chg.refl [] w).alloc (stObj (.slice (some ⟨g1, 0, none⟩) S.T.n c1) (.slice (some ⟨g2, 0, none⟩) S.T.n c2) S.K S.n g c h)
  unfold st10
  unfold stObj at hX hC
  have e1 : (i : Int) * 61 = ((61 * i : Nat) : Int) := by omega
  clear H
  go_enter Try.func60, Try.ntmps60
  go_wp2_with fail
  generalize w.alloc _ = w1 at *
  have x0 := cell_of_block hX 0
  have x1 := cell_of_block hX 1
  have x2 := cell_of_block hX 2
  have x3 := cell_of_block hX 3
  have x4 := cell_of_block hX 4
  have x5 := cell_of_block hX 5
  have x6 := cell_of_block hX 6
  have x7 := cell_of_block hX 7
  have x8 := cell_of_block hX 8
  simp only [List.getElem?_toArray, List.getElem?_cons_zero, List.getElem?_cons_succ] at x0 x1 x2 x3 x4 x5 x6 x7 x8
  have HX1 := Lib.hid (heap_lt hX)
  have HC := Lib.hid hC
  clear hX hC
  go_loopw [5] (fun s wr => ∃ b : Nat, 61 * i ≤ b ∧ b ≤ 61 * i + 61 ∧ s = .int .i64 (b : Int) ∧ Hid ((∀ k, 61 * i ≤ k → k < b → k < S.n 0 → S.p 0 k = false) ∧ Chg [] w1 wr)) (fun s _ => 61 * i + 61 - (intOf s).toNat)
  case atStart => exact ⟨61 * i, Nat.le_refl _, by omega, rfl, ⟨fun k h1 h2 => by omega, Chg.refl _ _⟩⟩
  case round =>
    obtain ⟨b, hb1, hb2, rfl, hH⟩ := hrel
    have HCR := Lib.hid hH.out.2
    have hw1 : w.heap.size < w1.heap.size := HX1.out
    have HNO := Lib.hid hH.out.1
    clear hH
    have y0 := (HCR.out.cell (p := ⟨w.heap.size, 7, none⟩) hw1 (by simp)).trans x7
    by_cases hlt : b < 61 * i + 61 ∧ b < S.n 0
    · have i1 : (b : Int) < ((61 * i : Nat) : Int) + 61 := by omega
      have i2 : (b : Int) < (S.n 0 : Int) := by omega
      have z1 := ((HC.out.trans HCR.out).cell (p := ⟨h 0, b, none⟩) (heap_lt HP.out) (by simp)).trans ((cell_of_block HP.out b).trans (bools_get hlt.2))
      cases hpp : S.p 0 b with
      | false =>
        rw [hpp] at z1
        have HPP := Lib.hid hpp
        clear hpp
        go_wp2_with fail
        go_roundw
        case rel => exact ⟨b + 1, by omega, by omega, by go_num, ⟨fun k h1 h2 h3 => by
          by_cases e : k = b
          · rw [e]; exact HPP.out
          · exact HNO.out k h1 (by omega) h3, HCR.out⟩⟩
        case measure => simp [intOf]; omega
      | true =>
        rw [hpp] at z1
        have HCH := Lib.hid (show anyIn (S.p 0) (S.n 0) i = true from anyIn_iff.2 ⟨b, hb1, hlt.1, hlt.2, hpp⟩)
        clear hpp
        go_wp2_with fail
        go_ret
        exact ⟨by rw [HCH.out] <;> rfl, HC.out.trans HCR.out⟩
    · have HCH := Lib.hid (show anyIn (S.p 0) (S.n 0) i = false from any_to fun k h1 h2 h3 => HNO.out k h1 (by omega) h3)
      by_cases hlt1 : b < 61 * i + 61
      case' pos =>
        have i1 : (b : Int) < ((61 * i : Nat) : Int) + 61 := by omega
        have i2 : ¬ (b : Int) < (S.n 0 : Int) := by omega
      case' neg => have i1 : ¬ (b : Int) < ((61 * i : Nat) : Int) + 61 := by omega
      all_goals
        go_wp2_with fail
        go_ret
        exact ⟨by rw [HCH.out] <;> rfl, HC.out.trans HCR.out⟩

theorem drew_more {w w' : World} (h : ∃ m, w' = w.drewN m) (q : Nat) : Hid (∃ m, w'.drewN q = w.drewN m) := by
  obtain ⟨m, rfl⟩ := h
  exact ⟨m + q, by simp [World.drewN, Nat.add_assoc]⟩

set_option maxRecDepth 20000 in
set_option maxHeartbeats 2000000 in
theorem twice_at {w : World} {v : Value} {l : List Nat} (H : SlI w v l) (hl : l.length ≤ 1000) (hd : ∀ i k, i < l.length → k < i → l.getD i 0 ≠ 0 → l.getD i 0 ≠ l.getD k 0) :
    Calls Try.prog 57 #[v] w fun e w' => e = .returned (.bool false) ∧ ∃ m, w' = w.drewN m := by
  obtain ⟨a, c, rfl⟩ := H.len
  have hcap : l.length ≤ c := by
    rcases H with ⟨h1, h2⟩ | ⟨g, cap, h1, h2, _⟩
    · rw [h2]; simp
    · injection h1 with _ _ h1; rw [h1]; exact h2
  have HH := Lib.hid H
  have HD := Lib.hid hd
  clear H hd
  go_enter Try.func57, Try.ntmps57
  go_wp2_with fail
  go_loopw [3] (fun s wr => ∃ i : Nat, i ≤ l.length ∧ s = .int .i64 (i : Int) ∧ Hid (∃ m, wr = w.drewN m)) (fun s _ => l.length - (intOf s).toNat)
  case atStart => exact ⟨0, Nat.zero_le _, rfl, ⟨0, rfl⟩⟩
  case round =>
    obtain ⟨i, hi, rfl, hC⟩ := hrel
    by_cases hlt : i < l.length
    · have i1 : (i : Int) < (l.length : Int) := by omega
      go_wp2_with fail
      go_loopw [4] (fun s wr => ∃ k : Nat, k ≤ i ∧ s = .int .i64 (k : Int) ∧ Hid (∃ m, wr = w.drewN m)) (fun s _ => i - (intOf s).toNat)
      case atStart => exact ⟨0, Nat.zero_le _, rfl, hC⟩
      case round =>
        obtain ⟨k, hk, rfl, hC2⟩ := hrel
        by_cases hkl : k < i
        · have hS := HH.out.chg (show Chg [] w wr by obtain ⟨m, hm⟩ := hC2.out; rw [hm]; exact (Chg.refl _ _).drewN m) (by simp)
          obtain ⟨g1, rfl, q1⟩ := hS.get.2 i hlt
          obtain ⟨g2, e2, q2⟩ := hS.get.2 k (by omega)
          injection e2 with e2
          injection e2 with e2 _ _
          subst e2
          have hne := HD.out i k hlt hkl
          obtain ⟨x, hx⟩ : ∃ x, x = l.getD i 0 := ⟨_, rfl⟩
          obtain ⟨y, hy⟩ : ∃ y, y = l.getD k 0 := ⟨_, rfl⟩
          rw [← hx] at q1 hne
          rw [← hy] at q2 hne
          clear hx hy hS
          by_cases hx0 : x = 0
          · subst hx0
            rw [show (((0 : Nat)) : Int) = 0 from rfl] at q1
            go_wp2_with fail
            go_quiet (fail)
            go_wp2_with fail
            go_roundw
            case rel => exact ⟨k + 1, by omega, by go_num, drew_more hC2.out _⟩
            case measure => simp [intOf]; omega
          · have d1 : ((x : Int) != 0) = true := by simp; exact hx0
            have hxy := hne hx0
            have d2 : ((x : Int) == (y : Int)) = false := by simp; omega
            go_wp2_with fail
            go_quiet (fail)
            go_wp2_with fail
            go_roundw
            case rel => exact ⟨k + 1, by omega, by go_num, drew_more hC2.out _⟩
            case measure => simp [intOf]; omega
        · obtain rfl : k = i := by omega
          go_wp2_with fail
          go_roundw
          case rel => exact ⟨k + 1, by omega, by go_num, hC2⟩
          case measure => simp [intOf]; omega
    · obtain rfl : i = l.length := by omega
      go_wp2_with fail
      go_ret
      exact ⟨rfl, hC.out⟩

end Go.Proofs.Ytnhabpbdpjgiiaa
