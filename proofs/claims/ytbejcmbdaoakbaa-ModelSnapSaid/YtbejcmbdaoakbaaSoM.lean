/- catchmentlaw24.read; catchmentlow.EqualNumbers. -/
import Derived.Test.YtbejcmbdaoakbaaSoK
import Derived.Test.YtbejcmbdaoakbaaLRef
namespace Go.Proofs.Ytbejcmbdaoakbaa
open Go.RowKit Go.Sort Go.Maps
set_option linter.unusedVariables false
set_option linter.unusedSimpArgs false

def rdO (v p : Nat) : Opn := ⟨4, v, p, 0, 0, fun _ => 0⟩
theorem rd_st (S : St) (v p : Nat) : stOf S (rdO v p) = S := by
  by_cases he : errOf S (rdO v p) = 0
  · rw [stOf_ok he]; rfl
  · exact st_err he
def rdOk (S : St) (v p : Nat) : Bool := decide ((repOf S (rdO v p)).err = 0) && decide ((repOf S (rdO v p)).n = 128)
/-- What read tells. -/
def ReadPost (N : Nat) (L : List Nat) (w : World) (p : Nat) (S : St) (v q : Nat) (e : Ending) (w' : World) : Prop :=
  ∃ L' a c, e = .returned (.tuple #[.slice a (repOf S (rdO v q)).n c, .bool (rdOk S v q)]) ∧ MdAt (N + 1) L' w' p S ∧ (∀ b, b ∈ L' → b ∈ L ∨ w.heap.size ≤ b) ∧ BytesIn w' a (repOf S (rdO v q)).n c (repOf S (rdO v q)).f ∧
    (∀ b, a = some b → w.heap.size ≤ b.block ∧ b.block ∉ L') ∧ Chg L w w'

theorem rd_isOp (w : World) {v q : Nat} (hv : v < 18446744073709551616) (hq : q < 18446744073709551616) : IsOp w (opV 4 v q 0 (.slice none 0 0)) (rdO v q) := by
  exact ⟨none, 0, rfl, bytes_none, ⟨by show 4 ≤ 255; omega, hv, hq, by show 0 < 18446744073709551616; omega, Nat.zero_le _⟩⟩

set_option maxRecDepth 20000 in
set_option maxHeartbeats 4000000 in
theorem read24_at {N : Nat} {L : List Nat} {w : World} {p v q : Nat} {S : St} (h : MdAt N L w p S) (hN : N ≤ 1000000) (hv : v < 18446744073709551616) (hq : q < 18446744073709551616) :
    Calls Try.prog 26 #[.pointer (some ⟨p, 0, none⟩), .int .u64 (v : Int), .int .u64 (q : Int)] w (ReadPost N L w p S v q) := by
  have c := do_at h hN (rd_isOp w hv hq)
  rw [rd_st] at c
  unfold opV at c
  obtain ⟨R, hR⟩ : ∃ R, R = repOf S (rdO v q) := ⟨_, rfl⟩
  have hok : rdOk S v q = (decide (R.err = 0) && decide (R.n = 128)) := by unfold rdOk; rw [← hR]
  rw [← hR] at c
  have C := Lib.hid c
  have HR := Lib.hid hR
  have HOK := Lib.hid hok
  clear c hR hok h
  go_enter Try.func26, Try.ntmps26
  go_wp2_with fail
  refine C.out.mono ?_
  rintro e w1 ⟨L', a, c, rfl, hM, hL, hB, hF, hC⟩
  have HF := Lib.hid (And.intro hM (And.intro hL (And.intro hB (And.intro hF hC))))
  clear hM hL hB hF hC C
  unfold repV
  obtain ⟨er, vo, n, f, k⟩ := R
  have hln : n ≤ 9223372036854775807 := by have := HF.out.2.2.1.1; have h2 := HF.out.2.2.1.2.1; unfold maxLen at h2; exact Nat.le_trans this h2
  have HW : Hid (Chg L w (w1.alloc (.cells #[.int .i64 (er : Int), .int .u64 (vo : Int), .slice a n c, .int .i64 (k : Int)] 32))) := Lib.hid (HF.out.2.2.2.2.alloc _)
  have HW1 : Hid (Chg [] w1 (w1.alloc (.cells #[.int .i64 (er : Int), .int .u64 (vo : Int), .slice a n c, .int .i64 (k : Int)] 32))) := Lib.hid ((Chg.refl [] w1).alloc _)
  by_cases he : er = 0
  · have he' : ((er : Int) == 0) = true := by simp [he]
    by_cases hn : n = 128
    · subst he; subst hn
      go_wp2_with fail
      go_quiet (fail)
      go_wp2_with fail
      go_ret2
      refine ⟨L', a, c, ?_, HF.out.1.chg (HW1.out.drewN _) (by simp), HF.out.2.1, ?_, HF.out.2.2.2.1, HW.out.drewN _⟩
      · rw [HOK.out, ← HR.out]; rfl
      · rw [← HR.out]; exact HF.out.2.2.1.chg (HW1.out.drewN _) (by simp)
    · subst he
      have hn' : ((n : Int) == 128) = false := by simp; omega
      have HOK2 : Hid (rdOk S v q = false) := Lib.hid (by rw [HOK.out]; simp [hn])
      go_wp2_with fail
      go_quiet (fail)
      go_wp2_with fail
      go_ret2
      refine ⟨L', a, c, ?_, HF.out.1.chg (HW1.out.drewN _) (by simp), HF.out.2.1, ?_, HF.out.2.2.2.1, HW.out.drewN _⟩
      · rw [HOK2.out, ← HR.out]; rfl
      · rw [← HR.out]; exact HF.out.2.2.1.chg (HW1.out.drewN _) (by simp)
  · have he' : ((er : Int) == 0) = false := by simp; omega
    have HOK2 : Hid (rdOk S v q = false) := Lib.hid (by rw [HOK.out]; simp [he])
    go_wp2_with fail
    go_quiet (fail)
    go_wp2_with fail
    go_ret2
    refine ⟨L', a, c, ?_, HF.out.1.chg (HW1.out.drewN _) (by simp), HF.out.2.1, ?_, HF.out.2.2.2.1, HW.out.drewN _⟩
    · rw [HOK2.out, ← HR.out]; rfl
    · rw [← HR.out]; exact HF.out.2.2.1.chg (HW1.out.drewN _) (by simp)

/-! ### EqualNumbers -/
theorem ListU.cell {w : World} {B : Nat} {v : Value} {l : List Nat} (h : ListU w B v l) (hl : l ≠ []) : ∃ g c, v = .slice (some ⟨g, 0, none⟩) l.length c ∧ l.length ≤ c ∧ ∀ i, i < l.length → w.cell? ⟨g, i, none⟩ = some (.int .u64 ((l[i]! : Nat) : Int)) := by
  rcases h with ⟨h, _⟩ | ⟨_, g, c, h2, h3, h4, h5⟩
  · exact absurd h hl
  · exact ⟨g, c, h2, h3, fun i hi => by rw [h5.cell hi, arrI_get l i hi]⟩
theorem eqList_iff (l m : List Nat) (h : l.length = m.length) : (∀ i, i < l.length → l[i]! = m[i]!) ↔ l = m := by
  constructor
  · intro q
    refine List.ext_getElem h fun i h1 h2 => ?_
    have := q i h1
    rw [getElem!_pos l i h1, getElem!_pos m i h2] at this
    exact this
  · rintro rfl i _; rfl

set_option maxRecDepth 20000 in
set_option maxHeartbeats 4000000 in
theorem eqNums_at {w : World} {B1 B2 : Nat} {v u : Value} {l m : List Nat} (h1 : ListU w B1 v l) (h2 : ListU w B2 u m) (hl : l.length ≤ 1000000) :
    Calls Try.prog 23 #[v, u] w fun e w' => e = .returned (.bool (decide (l = m))) ∧ Chg [] w w' := by
  have len1 : ∃ a c, v = .slice a l.length c := by
    rcases h1 with ⟨q, e⟩ | ⟨_, g, c, e, _⟩
    · exact ⟨none, 0, by rw [e, q]; rfl⟩
    · exact ⟨_, c, e⟩
  have len2 : ∃ a c, u = .slice a m.length c := by
    rcases h2 with ⟨q, e⟩ | ⟨_, g, c, e, _⟩
    · exact ⟨none, 0, by rw [e, q]; rfl⟩
    · exact ⟨_, c, e⟩
  obtain ⟨a1, k1, rfl⟩ := len1
  obtain ⟨a2, k2, rfl⟩ := len2
  by_cases hlm : l.length = m.length
  · obtain ⟨n, hn⟩ : ∃ n, n = l.length := ⟨_, rfl⟩
    have Hlm := Lib.hid hlm
    have Hn := Lib.hid hn
    have hn6 : n ≤ 1000000 := by omega
    have H1 := Lib.hid h1
    have H2 := Lib.hid h2
    rw [← hlm, ← hn]
    clear h1 h2 hlm hl
    have q : ((n : Int) == (n : Int)) = true := by simp
    clear hn q
    go_enter Try.func23, Try.ntmps23
    go_wp2_with fail
    go_loopg [5] n (fun gg s wr => s = .int .i64 (gg : Int) ∧ gg ≤ n ∧ Hid (Chg [] w wr ∧ ∀ i, gg ≤ i → i < n → l[i]! = m[i]!))
    case atStart => exact ⟨rfl, Nat.le_refl _, ⟨Chg.refl _ _, fun i h1 h2 => by omega⟩⟩
    case round =>
      obtain ⟨rfl, hgn, hX⟩ := hrel
      cases gk with
      | zero =>
        go_wp2_with fail
        go_ret
        refine ⟨?_, hX.out.1⟩
        have : l = m := (eqList_iff l m Hlm.out).1 (fun i hi => hX.out.2 i (Nat.zero_le _) (by rw [Hn.out]; exact hi))
        rw [decide_eq_true this]; rfl
      | succ k =>
        have hl0 : l ≠ [] := fun e => by have := Hn.out; rw [e] at this; simp at this; omega
        have hm0 : m ≠ [] := fun e => by have := Hn.out; have h2 := Hlm.out; rw [e] at h2; simp at h2; rw [this, h2] at hgn; simp at hgn
        obtain ⟨g1, b1, e1, _, cl⟩ := H1.out.cell hl0
        obtain ⟨g2, b2, e2, _, cm⟩ := H2.out.cell hm0
        injection e1 with e1a e1b e1c
        injection e2 with e2a e2b e2c
        subst e1a; subst e2a
        have hg1 : g1 < w.heap.size := by
          rcases H1.out with ⟨q, _⟩ | ⟨_, g, c, e, _, _, h5⟩
          · exact absurd q hl0
          · injection e with ea _ _; injection ea with ea; injection ea with ea; rw [ea]; exact h5.lt
        have hg2 : g2 < w.heap.size := by
          rcases H2.out with ⟨q, _⟩ | ⟨_, g, c, e, _, _, h5⟩
          · exact absurd q hm0
          · injection e with ea _ _; injection ea with ea; injection ea with ea; rw [ea]; exact h5.lt
        obtain ⟨x, hx⟩ : ∃ x, x = l[k]! := ⟨_, rfl⟩
        obtain ⟨y, hy⟩ : ∃ y, y = m[k]! := ⟨_, rfl⟩
        have c1 := (hX.out.1.cell (p := ⟨g1, k, none⟩) hg1 (by simp)).trans (cl k (by have := Hn.out; omega))
        have c2 := (hX.out.1.cell (p := ⟨g2, k, none⟩) hg2 (by simp)).trans (cm k (by have := Hn.out; have := Hlm.out; omega))
        rw [← hx] at c1
        rw [← hy] at c2
        have Hx := Lib.hid hx
        have Hy := Lib.hid hy
        clear hx hy cl cm e1b e1c e2b e2c hl0 hm0 hg1 hg2
        have i1 : (k : Int) < (n : Int) := by omega
        have i2 : ((k + 1 : Nat) : Int) > 0 := by omega
        by_cases hxy : x = y
        · subst hxy
          go_wp2_with fail
          go_quiet (fail)
          go_wp2_with fail
          go_roundg k
          case measure => omega
          case rel =>
            refine ⟨by go_num, by omega, ⟨hX.out.1.drewN _, fun i hi hin => ?_⟩⟩
            by_cases e : i = k
            · rw [e, ← Hx.out, ← Hy.out]
            · exact hX.out.2 i (by omega) hin
        · have hne : ((x : Int) == (y : Int)) = false := by simp; omega
          have hne' : ((x : Int) != (y : Int)) = true := by simp; omega
          have HNE : Hid (l ≠ m) := Lib.hid (fun e => hxy (by rw [Hx.out, Hy.out, e]))
          go_wp2_with fail
          go_quiet (fail)
          go_wp2_with fail
          go_ret
          exact ⟨by rw [decide_eq_false HNE.out]; rfl, hX.out.1.drewN _⟩
  · have hb : ((l.length : Int) == (m.length : Int)) = false := by simp; omega
    have hb' : ((l.length : Int) != (m.length : Int)) = true := by simp; omega
    have HNE : Hid (l ≠ m) := Lib.hid (fun e => hlm (by rw [e]))
    clear h1 h2
    go_enter Try.func23, Try.ntmps23
    go_wp2_with fail
    go_ret
    exact ⟨by rw [decide_eq_false HNE.out]; rfl, Chg.refl _ _⟩

end Go.Proofs.Ytbejcmbdaoakbaa
