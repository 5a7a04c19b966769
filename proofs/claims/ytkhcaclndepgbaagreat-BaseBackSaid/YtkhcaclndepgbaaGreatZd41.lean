/- Layer 11 in plain words: what is done to a base that may go on. · Layer 11: the chapter's examples. -/
import Derived.Test.YtkhcaclndepgbaaGreatZd39
import Derived.Test.YtkhcaclndepgbaaGreatZd33
set_option linter.unusedVariables false
set_option linter.unusedSimpArgs false
set_option maxRecDepth 100000
set_option maxHeartbeats 20000000
namespace Go.Proofs.YtkhcaclndepgbaaGreat
section
variable {B : Bs} {N G : Nat}
theorem Good.turn {B' : Bs} (h : Good N G B) (ok : B'.Ok) (n : B'.T.n = B.T.n) (k : B'.Kp.gen = B.Kp.gen) (hl : cnt N B'.live + B'.T.waits ≤ cnt N B.live + B.T.waits) : Good N G B' := by
 have r1 := ok.room_all
 have r2 := h.ok.room_all
 have n1 : B'.T.n = N := n.trans h.n
 rw [n1] at r1
 rw [h.n] at r2
 have := h.r
 exact ⟨ok, n1, by omega, by rw [k]; exact h.g⟩
theorem Good.may (h : Good N G B) {x : Nat} (hx : x < N) (hl : B.live x = true) : 2 ≤ x ∧ B.mayC (x : Int) = true ∧ B.T.now x ≠ 0 ∧ pgB B x = false := by
 obtain ⟨h1, h2⟩ := live_iff.1 hl
 have h3 : 2 ≤ x := by
  by_cases e : x < 2
  ·exact absurd (h.ok.low x e).1 h1
  ·omega
 have hp : pgB B x = false := by
  cases q : pgB B x with
  | false => rfl
  | true => exact absurd (pgB_iff.1 q) h2
 have hp' := hp
 unfold pgB at hp'
 rw [Bool.or_eq_false_iff] at hp'
 refine ⟨h3, ?_, h1, hp⟩
 unfold Bs.mayC
 rw [hp'.1, hp'.2, decide_eq_true (show (2 : Int) ≤ (x : Int) by omega), decide_eq_true (show (x : Int) < (B.T.n : Int) by have := h.n; omega)]
 rfl
theorem downs_eq {x : Nat} (h : Good N G B) (hx : x < N) (hl : B.live x = true) : B.downE (x : Int) = 0 ∧ B.down (x : Int) = B.counted (B.T.set x (B.T.now x - 1)) x := by
 obtain ⟨h1, h2, h3, h4⟩ := h.may hx hl
 have hg : getV B.T (x : Int) = (B.T.now x : Int) := getV_nat (by rw [h.n]; exact hx)
 have hg0 : ¬ getV B.T (x : Int) = 0 := by rw [hg]; omega
 have hh := (hasB_iff B.T (x : Int)).2 (by have := h.n; omega)
 have hd : Proofs.YtkhcaclndepgbaaGreat.downE B.T (x : Int) = 0 := by simp [Proofs.YtkhcaclndepgbaaGreat.downE, hh, h3]
 unfold Bs.downE Bs.down
 rw [h2, decide_eq_false hg0, if_pos rfl, if_neg hg0]
 refine ⟨hd, ?_⟩
 rw [if_pos (show (true && !false) = true from rfl), Int.toNat_natCast]
 unfold Proofs.YtkhcaclndepgbaaGreat.down
 rw [hd, if_pos rfl, Int.toNat_natCast]
theorem Good.down_ (h : Good N G B) {x : Nat} (hx : x < N) (hl : B.live x = true) :
  Good N G (B.down (x : Int)) ∧ (∀ b, (B.down (x : Int)).live b = if b = x then decide (2 ≤ B.T.now x) else B.live b) ∧ (∀ b, (B.down (x : Int)).T.now b = if b = x then B.T.now x - 1 else B.T.now b) ∧ (∀ b, (B.down (x : Int)).T.kept b = B.T.kept b) ∧
   (B.T.now x = 1 → B.T.kept x ≠ 0 → (B.down (x : Int)).T.waits = B.T.waits + 1 ∧ cnt N (B.down (x : Int)).live + 1 = cnt N B.live) ∧ (∀ b, pgB (B.down (x : Int)) b = pgB B b) := by
 obtain ⟨h1, h2, h3, h4⟩ := h.may hx hl
 obtain ⟨-, eB⟩ := downs_eq h hx hl
 rw [eB]
 have ok : (B.counted (B.T.set x (B.T.now x - 1)) x).Ok := h.ok.counted_ok h3 h2 (by have := (h.ok.le x (by rw [h.n]; exact hx)).1; omega)
 have hpg : ∀ b, pgB (B.counted (B.T.set x (B.T.now x - 1)) x) b = pgB B b := fun b => rfl
 have hlv : ∀ b, (B.counted (B.T.set x (B.T.now x - 1)) x).live b = if b = x then decide (2 ≤ B.T.now x) else B.live b := fun b => by
  show ((if b = x then B.T.now x - 1 else B.T.now b) != 0 && !pgB B b) = _
  by_cases e : b = x
  ·subst e
   rw [if_pos rfl, if_pos rfl, h4]
   by_cases q : 2 ≤ B.T.now b
   ·simp [q]; omega
   ·simp [q]; omega
  ·rw [if_neg e, if_neg e]; rfl
 have hw := waits_set B.T (b := x) (B.T.now x - 1) (by rw [h.n]; exact hx)
 have w1 : B.T.waitB x = false := by unfold Tal.waitB; simp [h3]
 have w2 : (B.T.set x (B.T.now x - 1)).waitB x = (decide (B.T.now x = 1) && decide (B.T.kept x ≠ 0)) := by
  unfold Tal.waitB Tal.set
  simp only [if_true]
  by_cases q : B.T.now x = 1
  ·rw [q]; by_cases q2 : B.T.kept x = 0 <;> simp [q2]
  ·have : B.T.now x - 1 ≠ 0 := by omega
   simp [q, this]
 rw [w1, w2] at hw
 have hc := cnt_upd (p := B.live) (q := (B.counted (B.T.set x (B.T.now x - 1)) x).live) (k := x) (n := N) hx (fun i _ hi => by rw [hlv i, if_neg hi])
 rw [hlv x, if_pos rfl, hl] at hc
 have ew : (B.counted (B.T.set x (B.T.now x - 1)) x).T.waits = (B.T.set x (B.T.now x - 1)).waits := rfl
 refine ⟨h.turn ok rfl rfl ?_, hlv, fun b => rfl, fun b => rfl, ?_, hpg⟩
 ·rw [ew]
  generalize (B.T.set x (B.T.now x - 1)).waits = W1 at hw ⊢
  generalize cnt N (B.counted (B.T.set x (B.T.now x - 1)) x).live = C1 at hc ⊢
  by_cases q : B.T.now x = 1
  ·by_cases q2 : B.T.kept x = 0
   ·simp [q, q2] at hw hc; omega
   ·simp [q, q2] at hw hc; omega
  ·have : 2 ≤ B.T.now x := by omega
   simp [q, this] at hw hc; omega
 ·intro q q2
  rw [ew]
  generalize (B.T.set x (B.T.now x - 1)).waits = W1 at hw ⊢
  generalize cnt N (B.counted (B.T.set x (B.T.now x - 1)) x).live = C1 at hc ⊢
  simp [q, q2] at hw hc
  omega
theorem Good.back_ (h : Good N G B) : Good N G B.back := by
 have ok := h.ok.back_ok
 refine ⟨ok, h.n, ?_, h.g⟩
 have h1 : ∀ b, b < 2 → B.back.T.free b = true := fun b hb => by
  have := (h.ok.low b hb).2
  show (B.T.kept b == 0 && B.T.kept b == 0) = true
  simp [this]
 have h2 : ∀ b, b < 2 → B.T.free b = true := fun b hb => by
  have := h.ok.low b hb
  simp [Tal.free, this]
 have hr := h.r
 have c1 : cnt 2 B.back.T.free = 2 := cnt_all h1
 have c2 : cnt 2 B.T.free = 2 := cnt_all h2
 have hm : B.T.frees ≤ B.back.T.frees := by
  have := cnt_split (n := B.T.n) (p := B.back.T.free) (q := B.T.free) (r := fun b => B.back.T.free b && !B.T.free b) (fun b _ => by
   cases q : B.T.free b with
   | false => simp
   | true =>
    have q2 : B.back.T.free b = true := by
     simp only [Tal.free, Bool.and_eq_true, beq_iff_eq] at q
     show (B.T.kept b == 0 && B.T.kept b == 0) = true
     simp [q.2]
    simp [q2])
  unfold Tal.frees
  have e : B.back.T.n = B.T.n := rfl
  rw [e]
  omega
 unfold roomI at hr ⊢
 rw [c2] at hr
 rw [c1]
 omega
theorem Good.setRoot_ (h : Good N G B) {i b : Nat} (hi : 2 ≤ i) (hb : b < N) : Good N G (B.setRoot i b) := ⟨h.ok.setRoot_ok hi (by rw [h.n]; exact hb), h.n, h.r, h.g⟩
theorem Good.setMark_ (h : Good N G B) {i n : Nat} (hn : n < 18446744073709551616) : Good N G (B.setMark i n) := ⟨h.ok.setMark_ok hn, h.n, h.r, h.g⟩
theorem Good.over_ (h : Good N G B) {x : Nat} (hx : (B.fr x).isSome = true) {f : Nat → Nat} (hf : ∀ i, i < 128 → f i ≤ 255) : Good N G (B.over x f) := ⟨h.ok.over_ok hx hf, h.n, h.r, h.g⟩
theorem commit_done (h : (∃ b, b < B.T.n ∧ B.T.kept b ≠ B.T.now b) ∨ B.S.row ≠ B.Kp.row) : B.commit = B.done := by
 unfold Bs.commit
 rw [if_neg]
 rintro ⟨h1, h2⟩
 rcases h with ⟨b, hb, hne⟩ | h
 ·exact hne (chgs_nil h1 b hb)
 ·exact h h2
end
end Go.Proofs.YtkhcaclndepgbaaGreat
namespace Go.Proofs.YtkhcaclndepgbaaGreat
open Go.RowKit
theorem aw_at : (Bs.fmt 16).at_ = 4 := by kernel_rfl
theorem good16 : Good 16 1 (Bs.fmt 16) := (good_fmt (by omega)).1
theorem room16 : (Bs.fmt 16).room = 10 := by
 obtain ⟨h, hl, hw⟩ := good_fmt (N := 16) (by omega)
 have := h.room
 rw [hw, cnt_zero (fun i _ => hl i)] at this
 rw [this]
 rfl
noncomputable def aw1 : Bs := (Bs.fmt 16).put (blkF 9)
noncomputable def aw2 : Bs := aw1.commit
noncomputable def aw3 : Bs := aw2.down 4
noncomputable def aw4 : Bs := aw3.back
noncomputable def aw5 : Bs := aw4.setRoot 2 4
noncomputable def aw6 : Bs := aw5.commit
structure AwOk : Prop where
 g1 : Good 16 1 aw1
 g2 : Good 16 2 aw2
 g3 : Good 16 2 aw3
 g4 : Good 16 2 aw4
 g5 : Good 16 2 aw5
 g6 : Good 16 3 aw6
 n1 : aw1.T.now 4 = 1
 f1 : (aw1.fr 4).isSome = true
 k2 : aw2.Kp.gen = 2
 w2 : aw2.T.waits = 0
 f2 : aw2.fr 4 = none
 e3 : aw2.downE 4 = 0
 w3 : aw3.T.waits = 1
 n4 : aw4.T.now 4 = 1
 k6 : aw6.Kp.gen = 3
 r6 : aw6.Kp.roots 2 = 4
 d6 : ∀ i, i < 128 → aw6.D 4 i = blkF 9 i
theorem aw_ok : AwOk := by
 have g0 := good16
 obtain ⟨h0, hl0, hw0⟩ := good_fmt (N := 16) (by omega)
 have p1 := g0.put_ (f := blkF 9) (by rw [room16]; omega) (fun i _ => blkF_le 9 i)
 rw [aw_at] at p1
 obtain ⟨g1, -, -, -, l1, w1, -, -, k1⟩ := p1
 have g1 : Good 16 1 aw1 := g1
 have l14 : aw1.live 4 = true := (l1 4).trans (by simp)
 have n1 : aw1.T.now 4 = 1 := by
  show (if 4 = (Bs.fmt 16).at_ then 1 else (Bs.fmt 16).T.now 4) = 1
  rw [aw_at, if_pos rfl]
 have kk1 : aw1.T.kept 4 = 0 := k1
 have f1 : aw1.fr 4 = some (blkF 9) := by
  show (if 4 = (Bs.fmt 16).at_ then some (blkF 9) else (Bs.fmt 16).fr 4) = _
  rw [aw_at, if_pos rfl]
 have c1 := g1.commit_ (by omega)
 have c1 : Cm 16 1 aw1 aw2 := c1
 have e2 : aw2 = aw1.done := commit_done (.inl ⟨4, by rw [g1.n]; omega, by rw [n1, kk1]; omega⟩)
 have l24 : aw2.live 4 = true := (c1.live 4).trans l14
 have n2 : aw2.T.now 4 = 1 := (c1.now 4 l14).trans n1
 have kk2 : aw2.T.kept 4 = 1 := (c1.kept 4 (by omega)).trans n2
 have d2 := c1.good.down_ (x := 4) (by omega) l24
 have d2e := downs_eq c1.good (x := 4) (by omega) l24
 obtain ⟨g3, l3, n3, k3, w3, -⟩ := d2
 have g3 : Good 16 2 aw3 := g3
 have g4 : Good 16 2 aw4 := g3.back_
 have g5 : Good 16 2 aw5 := g4.setRoot_ (by omega) (by omega)
 have c5 : Cm 16 2 aw5 aw6 := g5.commit_ (by omega)
 have k2 : aw2.Kp.gen = 2 := by rw [e2]; rfl
 have e3 : aw3 = aw2.counted (aw2.T.set 4 (aw2.T.now 4 - 1)) 4 := d2e.2
 have s3 : aw3.S = aw2.S ∧ aw3.Kp = aw2.Kp ∧ aw3.D = aw2.D ∧ aw3.a = aw2.a ∧ aw3.T.n = aw2.T.n := by rw [e3]; exact ⟨rfl, rfl, rfl, rfl, rfl⟩
 have r2 : aw2.Kp.roots 2 = 0 := by rw [e2]; rfl
 have r5 : aw5.S.roots 2 = 4 := rfl
 have k5 : aw5.Kp = aw2.Kp := s3.2.1
 have e6 : aw6 = aw5.done := commit_done (.inr fun e => by
  have := row_inj e 4 (by omega)
  change aw5.S.roots 2 = aw5.Kp.roots 2 at this
  rw [k5, r2, r5] at this
  omega)
 have l54 : aw5.live 4 = true := by
  have hp := (live_iff.1 l24).2
  refine live_iff.2 ⟨?_, fun hq => hp ?_⟩
  ·show aw3.T.kept 4 ≠ 0
   have : aw3.T.kept 4 = aw2.T.kept 4 := k3 4
   rw [this, kk2]; omega
  ·obtain ⟨k, i, hk, hi, e⟩ := hq
   change i < nOf aw3.T.n k at hi
   change aw3.a k i = 4 at e
   rw [s3.2.2.2.2] at hi
   rw [s3.2.2.2.1] at e
   exact ⟨k, i, hk, hi, e⟩
 have rd1 : aw1.read 4 = blkF 9 := by unfold Bs.read; rw [f1]; rfl
 have rd2 : aw2.read 4 = blkF 9 := (c1.read 4 (by omega) l14).trans rd1
 have f24 : aw2.fr 4 = none := c1.fr 4 (by omega)
 have D2 : aw2.D 4 = blkF 9 := by unfold Bs.read at rd2; rw [f24] at rd2; exact rd2
 have rd5 : aw5.read 4 = blkF 9 := by
  show aw3.D 4 = _
  rw [s3.2.2.1, D2]
 have rd6 := (c5.read 4 (by omega) l54).trans rd5
 have f6 := c5.fr 4 (by omega)
 refine { g1 := g1, g2 := c1.good, g3 := g3, g4 := g4, g5 := g5, g6 := c5.good, n1 := n1, f1 := by rw [f1]; rfl, k2 := k2, w2 := c1.waits, f2 := f24, e3 := d2e.1, w3 := ?_, n4 := ?_, k6 := ?_, r6 := ?_, d6 := ?_ }
 ·have := (w3 n2 (by rw [kk2]; omega)).1
  rw [c1.waits] at this
  exact this
 ·show aw3.T.kept 4 = 1
  have : aw3.T.kept 4 = aw2.T.kept 4 := k3 4
  rw [this, kk2]
 ·rw [e6]
  show aw5.S.gen + 1 = 3
  rw [g5.ok.sg, k5, k2]
 ·rw [e6]
  show (if 2 < 2 then (if 2 < pg (pg aw5.T.n) then aw5.F.a 1 2 else 0) else aw5.S.roots 2) = 4
  rw [if_neg (by omega), r5]
 ·unfold Bs.read at rd6
  rw [f6] at rd6
  intro i _
  exact congrFun rd6 i
end Go.Proofs.YtkhcaclndepgbaaGreat
