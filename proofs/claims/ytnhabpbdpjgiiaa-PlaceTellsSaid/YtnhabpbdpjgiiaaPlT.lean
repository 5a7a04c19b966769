/- Layer 10: the stage of a statement: begun; what is left of room. -/
import Derived.Test.YtnhabpbdpjgiiaaPlE
namespace Go.Proofs.Ytnhabpbdpjgiiaa
open Go.RowKit
set_option linter.unusedVariables false
set_option linter.unusedSimpArgs false

theorem need_new {n : Nat} (h : 16 ≤ n) : (needN n : Int) ≤ roomI (Tal.new n) 2 := by
  have h2 : cnt 2 (Tal.new n).free = 2 := cnt_all fun i _ => by simp [Tal.free, Tal.new]
  unfold roomI
  rw [new_frees, h2]
  unfold needN pg
  omega
theorem need_pos {n : Nat} (h : 1 ≤ n) : 2 ≤ needN n := by have := pg_pos h; have := pg_pos this; unfold needN; omega

theorem room_set_le {T : Tal} {b v f : Nat} (hb : b < T.n) : roomI (T.set b v) f ≤ roomI T f + 1 := by
  have h1 := frees_set T v hb
  unfold roomI
  by_cases hf : b < f
  · have h2 := cnt_upd (p := T.free) (q := (T.set b v).free) (n := f) hf (fun i _ hne => by simp [Tal.free, Tal.set, hne])
    cases h3 : T.free b <;> cases h4 : (T.set b v).free b <;> simp [h3, h4] at h1 h2 <;> omega
  · have h2 : cnt f (T.set b v).free = cnt f T.free := cnt_congr fun i hi => by
      have : i ≠ b := by omega
      simp [Tal.free, Tal.set, this]
    rw [h2]
    cases h3 : T.free b <;> cases h4 : (T.set b v).free b <;> simp [h3, h4] at h1 <;> omega
theorem T1_room_le {S : PS} {k i : Nat} (h : ShOk S.T S.n S.a) (hk : k < 2) (hi : i < S.n k) (f : Nat) : roomI (S.T1 k i) f ≤ roomI S.T f + 1 := by
  unfold PS.T1
  split
  · omega
  · rename_i h0
    have ⟨h1, h2⟩ := h.has k i hk hi h0
    rw [down_now h1 h2]
    exact room_set_le h1
theorem step_first {S : PS} (H : PInv S) {k i : Nat} : (S.step k i).K.first = S.K.first := (takeK_bd (T := S.T1 k i) H.f (by rw [T1_n]; exact H.nx)).2.2.2
theorem step_room {S : PS} (H : PInv S) {k i : Nat} (hk : k < 2) (hi : i < S.n k) (hw : S.want k i = true) : roomI (S.step k i).T S.K.first ≤ roomI S.T S.K.first := by
  obtain ⟨b, ht, h1, h2, h3⟩ := H.block hk hi hw
  have ⟨e1, e2⟩ := step_some ht
  have hs := room_some (T := S.T1 k i) h1 (by rw [T1_n]; exact h2) h3
  have := T1_room_le H.ok hk hi S.K.first
  rw [e1, hs]
  omega
theorem step_n {S : PS} (H : PInv S) {k i : Nat} (hk : k < 2) (hi : i < S.n k) (hw : S.want k i = true) : (S.step k i).T.n = S.T.n := by
  obtain ⟨b, ht, _⟩ := H.block hk hi hw
  rw [(step_some ht).1]
  exact T1_n S k i
/-- What Place leaves is right, and no more room. -/
theorem fin_ok {T : Tal} {K : Pk} {n : Nat → Nat} {a : Nat → Nat → Nat} (h : ShOk T n a) (hf : K.first ≤ K.next) (hn : K.next ≤ T.n) (hr : (needN T.n : Int) ≤ roomI T K.first) :
    PInv (PS.start T K n a).fin ∧ (PS.start T K n a).fin.next = none ∧ (PS.start T K n a).fin.n = n ∧ (PS.start T K n a).fin.T.n = T.n ∧ (PS.start T K n a).fin.K.first = K.first ∧ roomI (PS.start T K n a).fin.T K.first ≤ roomI T K.first := by
  have := PS.fin_ind (Q := fun S => PInv S ∧ S.n = n ∧ S.T.n = T.n ∧ S.K.first = K.first ∧ roomI S.T K.first ≤ roomI T K.first)
    (fun S k i ⟨q1, q2, q3, q4, q5⟩ hk hi hw => ⟨q1.step hk hi hw, q2, (step_n q1 hk hi hw).trans q3, (step_first q1).trans q4, by
      have := step_room q1 hk hi hw
      rw [q4] at this
      omega⟩) _ (PS.start T K n a) (Nat.le_refl _) ⟨PInv.start h hf hn hr, rfl, rfl, rfl, Int.le_refl _⟩
  exact ⟨this.1.1, this.2, this.1.2.1, this.1.2.2.1, this.1.2.2.2.1, this.1.2.2.2.2⟩
theorem keep_ok {T : Tal} {n : Nat → Nat} {a : Nat → Nat → Nat} (h : ShOk T n a) : ShOk T.keep n a := ⟨h.n0, h.n1, h.has, h.apart⟩
/-- A stage: its tally, its pick, where pages stand. -/
structure StageAt (w : World) (xs p t bc bk : Nat) (K : Pk) (T : Tal) (g c : Nat → Nat) (A : Nat → Nat → Nat) (n : Nat → Nat) : Prop where
  top : w.heap[xs]? = some (.cells #[.pointer (some ⟨t, 0, none⟩), .pointer (some ⟨p, 0, none⟩), .slice (some ⟨g 0, 0, none⟩) (n 0) (c 0), .slice (some ⟨g 1, 0, none⟩) (n 1) (c 1)] 69 (0, 0))
  pt : PT w p t bc bk K T
  sh : ShV w (.slice (some ⟨g 0, 0, none⟩) (n 0) (c 0)) (.slice (some ⟨g 1, 0, none⟩) (n 1) (c 1)) A n g c
  ok : ShOk T n A
  nd : ∀ b, b ∈ [xs, g 0, g 1] → b ∉ [p, t, bc, bk]
/-- Whatever changes but a stage's own. -/
theorem StageAt.chg {w w' : World} {xs p t bc bk : Nat} {K : Pk} {T : Tal} {g c : Nat → Nat} {A : Nat → Nat → Nat} {n : Nat → Nat} (h : StageAt w xs p t bc bk K T g c A n) (C : Chg [] w w') : StageAt w' xs p t bc bk K T g c A n :=
  ⟨(C.block _ (heap_lt h.top) (by simp)).trans h.top, h.pt.chg C (by simp) (by simp) (by simp) (by simp), h.sh.chg C (by simp) (by simp), h.ok, h.nd⟩
/-- Another count, another pick. -/
theorem StageAt.turn {w w' : World} {xs p t bc bk : Nat} {K K' : Pk} {T T' : Tal} {g c : Nat → Nat} {A : Nat → Nat → Nat} {n : Nat → Nat} (h : StageAt w xs p t bc bk K T g c A n) (hp : PT w' p t bc bk K' T') (ho : ShOk T' n A) (C : Chg [p, t, bc, bk] w w') : StageAt w' xs p t bc bk K' T' g c A n :=
  ⟨(C.block _ (heap_lt h.top) (h.nd xs (by simp))).trans h.top, hp, h.sh.chg C (h.nd _ (by simp)) (h.nd _ (by simp)), ho, h.nd⟩

noncomputable def begF (n : Nat) : PS := (PS.start (Tal.new n) ⟨2, 2, 0⟩ (nOf n) (fun _ _ => 0)).fin
theorem beg_ok {n : Nat} (h : 16 ≤ n) : PInv (begF n) ∧ (begF n).next = none ∧ (begF n).n = nOf n ∧ (begF n).T.n = n ∧ (begF n).K.first = 2 :=
  have := fin_ok (empty_ok (Tal.new n)) (K := ⟨2, 2, 0⟩) (Nat.le_refl _) (show 2 ≤ n by omega) (need_new h)
  ⟨this.1, this.2.1, this.2.2.1, this.2.2.2.1, this.2.2.2.2.1⟩
def BegunR (n : Nat) (w : World) (e : Ending) (w' : World) : Prop :=
  ∃ (xs p t bc bk : Nat) (g c : Nat → Nat), e = .returned (.tuple #[.pointer (some ⟨xs, 0, none⟩), .bool true]) ∧ StageAt w' xs p t bc bk (begF n).K (begF n).T.keep g c (begF n).a (begF n).n ∧ Chg [] w w' ∧ (∀ b, b ∈ [xs, p, t, bc, bk, g 0, g 1] → w.heap.size ≤ b)

set_option maxRecDepth 20000 in
set_option maxHeartbeats 2000000 in
theorem begun_at {b : Nat} (w : World) (hb : b ≤ 65535) : Calls Try.prog 26 #[.int .u16 (b : Int)] w (BegunR (16 + b % 385) w) := by
  obtain ⟨n, hn⟩ : ∃ n, n = 16 + b % 385 := ⟨_, rfl⟩
  have hn1 : 16 ≤ n ∧ n ≤ 400 := by omega
  have e1 : (16 : Int) + (b : Int) % 385 = (n : Int) := by omega
  have HB := Lib.hid (beg_ok hn1.1)
  rw [← hn]
  clear hn
  go_enter Try.func26, Try.ntmps26
  go_wp2_with fail
  refine (tnew_ex n w (by omega) (by omega)).mono ?_
  rintro e w1 ⟨t, bc, bk, rfl, ht, hC1, l1, l2, l3⟩
  have HT := Lib.hid ht
  have HC1 := Lib.hid hC1
  have HL := Lib.hid (And.intro l1 (And.intro l2 l3))
  clear ht hC1 l1 l2 l3
  go_wp2_with fail
  refine (pnew_ex HT.out 2 (by omega)).mono ?_
  rintro e w2 ⟨p, rfl, hp, hC2, lp⟩
  have HP := Lib.hid hp
  have HC2 := Lib.hid (HC1.out.trans hC2)
  have HLP := Lib.hid (Nat.le_trans HC1.out.size lp)
  clear hp hC2 lp
  go_wp2_with fail
  refine (empty_at w2 (by omega) (by omega)).mono ?_
  rintro e w3 ⟨v0, v1, g0, c0, rfl, hsh, hg, hC3⟩
  have HP3 := Lib.hid (HP.out.chg hC3 (by simp) (by simp) (by simp) (by simp))
  have HC3 := Lib.hid (HC2.out.trans hC3)
  have HSH := Lib.hid hsh
  clear hsh hg hC3
  go_wp2_with fail
  have cP := place_ok HP3.out HSH.out (empty_ok (Tal.new n)) (need_new hn1.1)
  obtain ⟨F, hF⟩ : ∃ F, F = begF n := ⟨_, rfl⟩
  change Calls _ _ _ _ (Placed w3 p t bc bk (begF n)) at cP
  rw [← hF] at cP
  have HF := Lib.hid hF
  clear hF
  refine cP.mono ?_
  clear cP
  rintro e w4 ⟨u0, u1, z0, z1, g, c, rfl, hsv, hz0, hz1, hpt, hC4, hgg, hgn, hzb0, hzb1⟩
  obtain ⟨rfl, rfl, hsl⟩ := hsv
  have HSV := Lib.hid (ShV.mk rfl rfl hsl)
  have HPT := Lib.hid hpt
  have HLL := Lib.hid (And.intro (Nat.le_trans HC3.out.size (hgg 0 (by omega))) (Nat.le_trans HC3.out.size (hgg 1 (by omega))))
  have HGP := Lib.hid (show ∀ b, b ∈ [g 0, g 1] → b ∉ [p, t, bc, bk] by
    have a0 := HP3.out.hp.lt
    have a1 := HP3.out.ht.lt0
    have a2 := HP3.out.ht.lt1
    have a3 := HP3.out.ht.lt2
    have g0 := hgg 0 (by omega)
    have g1 := hgg 1 (by omega)
    intro b hb
    simp at hb ⊢
    omega)
  have HC4 := Lib.hid (HC3.out.then hC4 (fun i hi => by have := HL.out; have := HLP.out; simp at hi; omega))
  clear hsl hz0 hz1 hpt hC4 hgg hgn hzb0 hzb1
  go_wp2_with fail
  have hz := new_block w4 (.cells #[.slice (some ⟨g 0, 0, none⟩) (F.n 0) (c 0), .slice (some ⟨g 1, 0, none⟩) (F.n 1) (c 1)] 42)
  have hCz := (Chg.refl [] w4).alloc (.cells #[.slice (some ⟨g 0, 0, none⟩) (F.n 0) (c 0), .slice (some ⟨g 1, 0, none⟩) (F.n 1) (c 1)] 42)
  generalize w4.alloc _ = w5 at *
  have HPT5 := Lib.hid (HPT.out.chg hCz (by simp) (by simp) (by simp) (by simp))
  have HSV5 := Lib.hid (HSV.out.chg hCz (by simp) (by simp))
  have HC5 := Lib.hid (HC4.out.trans hCz)
  have HZ := Lib.hid hz
  have HZS := Lib.hid hCz.size
  clear hz hCz
  refine (PT.keep HPT5.out).mono ?_
  rintro e w6 ⟨rfl, hP6, hC6⟩
  have hlz : w4.heap.size ∉ [p, t, bc, bk] := by
    have a0 := HPT.out.hp.lt
    have a1 := HPT.out.ht.lt0
    have a2 := HPT.out.ht.lt1
    have a3 := HPT.out.ht.lt2
    simp
    omega
  have hz6 := (hC6.block _ (heap_lt HZ.out) hlz).trans HZ.out
  have z0 := cell_of_block hz6 0
  have z1 := cell_of_block hz6 1
  simp only [List.getElem?_toArray, List.getElem?_cons_zero, List.getElem?_cons_succ] at z0 z1
  have HP6 := Lib.hid hP6
  have HSV6 := Lib.hid (HSV5.out.chg hC6 (HGP.out _ (by simp)) (HGP.out _ (by simp)))
  have HC6 := Lib.hid (HC5.out.then hC6 (fun i hi => by have := HL.out; have := HLP.out; simp at hi; omega))
  have HNX := Lib.hid (show w6.heap.size ∉ [p, t, bc, bk] from by
    have a0 := hP6.hp.lt
    have a1 := hP6.ht.lt0
    have a2 := hP6.ht.lt1
    have a3 := hP6.ht.lt2
    simp
    omega)
  clear hP6 hC6 hz6 hlz
  go_wp2_with fail
  go_ret2
  have hcw := (Chg.refl [] w6).alloc (.cells #[.pointer (some ⟨t, 0, none⟩), .pointer (some ⟨p, 0, none⟩), .slice (some ⟨g 0, 0, none⟩) (F.n 0) (c 0), .slice (some ⟨g 1, 0, none⟩) (F.n 1) (c 1)] 69)
  refine ⟨w6.heap.size, p, t, bc, bk, g, c, rfl, ?_, HC6.out.trans hcw, ?_⟩
  · rw [← HF.out]
    have hok : ShOk F.T.keep F.n F.a := keep_ok (by rw [HF.out]; exact HB.out.1.ok)
    exact ⟨new_block _ _, HP6.out.chg hcw (by simp) (by simp) (by simp) (by simp), HSV6.out.chg hcw (by simp) (by simp), hok, fun b hb => by
      simp only [List.mem_cons, List.not_mem_nil, or_false] at hb
      rcases hb with rfl | rfl | rfl
      · exact HNX.out
      · exact HGP.out _ (by simp)
      · exact HGP.out _ (by simp)⟩
  · have h1 := HC6.out.size
    have h2 := HL.out
    have h3 := HLP.out
    have h4 := HLL.out
    intro b hb
    simp at hb
    omega

end Go.Proofs.Ytnhabpbdpjgiiaa
