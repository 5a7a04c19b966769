/- Layer 10 in plain words: what Place leaves of pages, and of counts. -/
import Derived.Test.YtkhcaclndepgbaaGreatZd23
set_option linter.unusedVariables false
set_option linter.unusedSimpArgs false
set_option maxRecDepth 100000
set_option maxHeartbeats 20000000
namespace Go.Proofs.YtkhcaclndepgbaaGreat
structure Own (T : Tal) (n : Nat → Nat) (a : Nat → Nat → Nat) : Prop where
 ok : ShOk T n a
 nz : ∀ k i, k < 2 → i < n k → a k i ≠ 0
 now : ∀ k i, k < 2 → i < n k → T.now (a k i) = 1
 kept : ∀ k i, k < 2 → i < n k → T.kept (a k i) = 1
theorem Own.set {T : Tal} {n : Nat → Nat} {a : Nat → Nat → Nat} (h : Own T n a) {b : Nat} (v : Nat) (hb : ∀ k i, k < 2 → i < n k → a k i ≠ b) : Own (T.set b v) n a := by
 have e : ∀ k i, k < 2 → i < n k → (T.set b v).now (a k i) = T.now (a k i) := fun k i hk hi => by rw [set_now, if_neg (hb k i hk hi)]
 refine ⟨⟨h.ok.n0, h.ok.n1, fun k i hk hi h0 => ⟨(h.ok.has k i hk hi h0).1, by rw [e k i hk hi]; exact (h.ok.has k i hk hi h0).2⟩, h.ok.apart⟩, h.nz, fun k i hk hi => (e k i hk hi).trans (h.now k i hk hi), h.kept⟩
theorem Own.take {T : Tal} {n : Nat → Nat} {a : Nat → Nat → Nat} (h : Own T n a) {b : Nat} (hf : T.free b = true) : Own (T.set b 1) n a :=
 h.set 1 fun k i hk hi e => by
  have := h.now k i hk hi
  rw [e] at this
  simp [Tal.free, this] at hf
theorem Own.ups {T : Tal} {n : Nat → Nat} {a : Nat → Nat → Nat} (h : Own T n a) {b : Nat} (hb : ∀ k i, k < 2 → i < n k → a k i ≠ b) : Own (up T (b : Int)) n a := by
 unfold up
 split
 ·exact h.set _ hb
 ·exact h
theorem Own.downs {T : Tal} {n : Nat → Nat} {a : Nat → Nat → Nat} (h : Own T n a) {b : Nat} (hb : ∀ k i, k < 2 → i < n k → a k i ≠ b) : Own (down T (b : Int)) n a := by
 unfold down
 split
 ·exact h.set _ hb
 ·exact h
structure Mid (T : Tal) (n : Nat → Nat) (a : Nat → Nat → Nat) (S : PS) : Prop where
 inv : PInv S
 sn : S.n = n
 tn : S.T.n = T.n
 kept : ∀ x, S.T.kept x = T.kept x
 same : ∀ k i, k < 2 → i < n k → S.p k i = false → S.a k i = a k i
 new : ∀ k i, k < 2 → i < n k → S.p k i = true → T.kept (S.a k i) = 0 ∧ T.now (S.a k i) = 0 ∧ S.a k i ≠ 0 ∧ S.T.now (S.a k i) = 1 ∧ S.T.now (a k i) = 0
 rest : ∀ x, (∀ k i, k < 2 → i < n k → S.p k i = true → x ≠ S.a k i ∧ x ≠ a k i) → S.T.now x = T.now x
 first : 1 ≤ S.K.first
theorem Mid.step {T : Tal} {n : Nat → Nat} {a : Nat → Nat → Nat} (ho : Own T n a) {S : PS} (h : Mid T n a S) {k i : Nat} (hk : k < 2) (hi : i < S.n k) (hw : S.want k i = true) : Mid T n a (S.step k i) := by
 have hi' : i < n k := by rw [← h.sn]; exact hi
 have hp := want_p hw
 have ea := h.same k i hk hi' hp
 obtain ⟨b, ht, h1, h2, h3⟩ := h.inv.block hk hi hw
 have ⟨e1, e2⟩ := step_some ht
 have hnow := fun x => T1_now h.inv.ok hk hi x
 simp only [Tal.free, Bool.and_eq_true, beq_iff_eq] at h3
 rw [T1_kept, h.kept] at h3
 obtain ⟨hb0, hbk⟩ := h3
 have bne : ∀ k' i', k' < 2 → i' < n k' → b ≠ a k' i' := fun k' i' hk' hi' e => by
  have := ho.kept k' i' hk' hi'
  rw [← e] at this
  omega
 have eold : S.T.now (a k i) = 1 := by
  rw [h.rest]
  ·exact ho.now k i hk hi'
  ·intro k' i' hk' hi'' hp'
   constructor
   ·intro e
    have := (h.new k' i' hk' hi'' hp').1
    rw [← e, ho.kept k i hk hi'] at this
    omega
   ·intro e
    obtain ⟨rfl, rfl⟩ := ho.ok.apart k i k' i' hk hi' hk' hi'' (ho.nz k i hk hi') e
    rw [hp] at hp'
    cases hp'
 rw [ea] at hnow
 have n1 : ∀ x, x ≠ a k i → (S.T1 k i).now x = S.T.now x := fun x hx => by rw [hnow, if_neg (fun q => hx q.1)]
 have n2 : (S.T1 k i).now (a k i) = 0 := by rw [hnow, if_pos ⟨rfl, ho.nz k i hk hi'⟩, eold]
 have cne : ∀ k' i', k' < 2 → i' < n k' → S.p k' i' = true → S.a k' i' ≠ a k i ∧ S.a k' i' ≠ b := fun k' i' hk' hi'' hp' => by
  have q := h.new k' i' hk' hi'' hp'
  have q1 : S.a k' i' ≠ a k i := fun e => by
   have := q.1
   rw [e, ho.kept k i hk hi'] at this
   omega
  refine ⟨q1, fun e => ?_⟩
  have := n1 _ q1
  rw [q.2.2.2.1, e, hb0] at this
  omega
 have hbT : T.now b = 0 := by
  rw [← h.rest b (fun k' i' hk' hi'' hp' => ⟨fun e => (cne k' i' hk' hi'' hp').2 e.symm, bne k' i' hk' hi''⟩), ← n1 b (bne k i hk hi'), hb0]
 have hkb := (takeK_bd (T := S.T1 k i) h.inv.f (by rw [T1_n]; exact h.inv.nx)).2.2.2
 refine ⟨h.inv.step hk hi hw, h.sn, (step_n h.inv hk hi hw).trans h.tn, fun x => ?_, ?_, ?_, ?_, ?_⟩
 ·rw [e1]
  show (S.T1 k i).kept x = _
  rw [T1_kept, h.kept]
 ·intro k' i' hk' hi'' hp'
  by_cases e : k' = k ∧ i' = i
  ·obtain ⟨rfl, rfl⟩ := e
   have q : (S.step k' i').p k' i' = true := upd2_same _ _ _ _
   rw [q] at hp'
   cases hp'
  ·have q : (S.step k i).p k' i' = S.p k' i' := upd2_other _ _ e
   have q2 : (S.step k i).a k' i' = S.a k' i' := upd2_other _ _ e
   rw [q] at hp'
   rw [q2]
   exact h.same k' i' hk' hi'' hp'
 ·intro k' i' hk' hi'' hp'
  rw [e1]
  by_cases e : k' = k ∧ i' = i
  ·obtain ⟨rfl, rfl⟩ := e
   have q2 : (S.step k' i').a k' i' = b := by show upd2 S.a k' i' _ k' i' = b; rw [upd2_same, e2]
   rw [q2]
   refine ⟨hbk, hbT, by have := h.first; omega, by rw [set_now, if_pos rfl], ?_⟩
   rw [set_now, if_neg (fun q => bne k' i' hk' hi'' q.symm), n2]
  ·have q : (S.step k i).p k' i' = S.p k' i' := upd2_other _ _ e
   have q2 : (S.step k i).a k' i' = S.a k' i' := upd2_other _ _ e
   rw [q] at hp'
   rw [q2]
   have r := h.new k' i' hk' hi'' hp'
   have c := cne k' i' hk' hi'' hp'
   refine ⟨r.1, r.2.1, r.2.2.1, ?_, ?_⟩
   ·rw [set_now, if_neg c.2, n1 _ c.1]; exact r.2.2.2.1
   ·rw [set_now, if_neg (fun q => bne k' i' hk' hi'' q.symm), n1]
    ·exact r.2.2.2.2
    ·intro q
     exact e (ho.ok.apart k' i' k i hk' hi'' hk hi' (ho.nz k' i' hk' hi'') q)
 ·intro x hx
  have q1 := hx k i hk hi' (upd2_same _ _ _ _)
  have q2 : (S.step k i).a k i = b := by show upd2 S.a k i _ k i = b; rw [upd2_same, e2]
  rw [q2] at q1
  rw [e1, set_now, if_neg q1.1, n1 _ q1.2]
  refine h.rest x fun k' i' hk' hi'' hp' => ?_
  have e : ¬ (k' = k ∧ i' = i) := by
   rintro ⟨rfl, rfl⟩
   rw [hp] at hp'
   cases hp'
  have q : (S.step k i).p k' i' = S.p k' i' := upd2_other _ _ e
  have q3 : (S.step k i).a k' i' = S.a k' i' := upd2_other _ _ e
  have := hx k' i' hk' hi'' (by rw [q]; exact hp')
  rw [q3] at this
  exact this
 ·show 1 ≤ (takeK (S.T1 k i) S.K).first
  rw [hkb]
  exact h.first
theorem Mid.fin {T : Tal} {K : Pk} {n : Nat → Nat} {a : Nat → Nat → Nat} (ho : Own T n a) (hf : K.first ≤ K.next) (hn : K.next ≤ T.n) (h1 : 1 ≤ K.first) (hr : (needN T.n : Int) ≤ roomI T K.first) :
  Mid T n a (PS.start T K n a).fin ∧ (PS.start T K n a).fin.next = none :=
 PS.fin_ind (Q := Mid T n a) (fun S k i h hk hi hw => h.step ho hk hi hw) _ (PS.start T K n a) (Nat.le_refl _)
  ⟨PInv.start ho.ok hf hn hr, rfl, rfl, fun _ => rfl, fun _ _ _ _ _ => rfl, (fun _ _ _ _ h => by cases h), fun _ _ => rfl, h1⟩
theorem want_false {S : PS} {k i : Nat} (h : S.want k i = false) (ha : S.a k i ≠ 0) (hp : S.p k i = false) : (if k = 1 then anyIn (S.p 0) (S.n 0) i else anyIn S.T.changed S.T.n i) = false := by
 unfold PS.want at h
 rw [hp] at h
 have : (S.a k i == 0) = false := by simpa using ha
 rw [this] at h
 simpa using h
structure Fin (T : Tal) (n : Nat → Nat) (a : Nat → Nat → Nat) (F : PS) : Prop where
 sn : F.n = n
 tn : F.T.n = T.n
 own : Own F.T.keep n F.a
 moved : ∀ i, i < n 0 → F.p 0 i = true → F.a 0 i ≠ a 0 i ∧ F.T.now (F.a 0 i) = 1 ∧ F.T.now (a 0 i) = 0
 stays : ∀ i, i < n 0 → F.p 0 i = false → F.a 0 i = a 0 i
 chg : ∀ b, b < T.n → F.T.changed b = true → F.p 0 (b / 61) = true
 pages : (∃ i, i < n 0 ∧ F.p 0 i = true) ↔ ∃ b, b < T.n ∧ T.changed b = true
 dirs : (∃ i, i < n 1 ∧ F.p 1 i = true) ↔ ∃ b, b < T.n ∧ T.changed b = true
theorem firstFree_all {p : Nat → Bool} : ∀ {c lo : Nat}, (∀ i, lo ≤ i → i < lo + c → p i = false) → firstFree p lo c = none
 | 0, _, _ => rfl
 | c + 1, lo, h => by
  unfold firstFree
  rw [if_neg (by rw [h lo (by omega) (by omega)]; simp)]
  exact firstFree_all fun i h1 h2 => h i (by omega) (by omega)
theorem PS.next_all {S : PS} (h : ∀ k i, k < 2 → i < S.n k → S.want k i = false) : S.next = none := by
 unfold PS.next
 rw [firstFree_all fun i _ hi => h 0 i (by omega) (by omega), firstFree_all fun i _ hi => h 1 i (by omega) (by omega)]
theorem start_still {T : Tal} {K : Pk} {n : Nat → Nat} {a : Nat → Nat → Nat} (ho : Own T n a) (hc : ∀ b, b < T.n → T.changed b = false) : (PS.start T K n a).fin = PS.start T K n a := by
 refine PS.fin_none (PS.next_all fun k i hk hi => ?_)
 have ha : ((PS.start T K n a).a k i == 0) = false := by have := ho.nz k i hk hi; rw [beq_eq_false_iff_ne]; exact this
 unfold PS.want
 rw [ha]
 simp only [Bool.false_or]
 have : (if k = 1 then anyIn ((PS.start T K n a).p 0) ((PS.start T K n a).n 0) i else anyIn (PS.start T K n a).T.changed (PS.start T K n a).T.n i) = false := by
  split
  ·exact anyIn_false.2 fun _ _ _ _ => rfl
  ·exact anyIn_false.2 fun b _ _ hb => hc b hb
 rw [this]
 simp
theorem fin_own {T : Tal} {K : Pk} {n : Nat → Nat} {a : Nat → Nat → Nat} (ho : Own T n a) (hf : K.first ≤ K.next) (hn : K.next ≤ T.n) (h1 : 1 ≤ K.first) (hr : (needN T.n : Int) ≤ roomI T K.first) : Fin T n a (PS.start T K n a).fin := by
 obtain ⟨M, hN⟩ := Mid.fin ho hf hn h1 hr
 have HS := fun hc => start_still (K := K) ho hc
 revert M hN HS
 generalize (PS.start T K n a).fin = F
 intro M hN HS
 have nz : ∀ k i, k < 2 → i < n k → F.a k i ≠ 0 := fun k i hk hi => by
  cases hp : F.p k i with
  | true => exact (M.new k i hk hi hp).2.2.1
  | false => rw [M.same k i hk hi hp]; exact ho.nz k i hk hi
 have nowOld : ∀ k i, k < 2 → i < n k → F.p k i = false → F.T.now (a k i) = 1 := fun k i hk hi hp => by
  rw [M.rest]
  ·exact ho.now k i hk hi
  ·intro k' i' hk' hi' hp'
   constructor
   ·intro e
    have := (M.new k' i' hk' hi' hp').1
    rw [← e, ho.kept k i hk hi] at this
    omega
   ·intro e
    obtain ⟨rfl, rfl⟩ := ho.ok.apart k i k' i' hk hi hk' hi' (ho.nz k i hk hi) e
    rw [hp] at hp'
    cases hp'
 have now1 : ∀ k i, k < 2 → i < n k → F.T.now (F.a k i) = 1 := fun k i hk hi => by
  cases hp : F.p k i with
  | true => exact (M.new k i hk hi hp).2.2.2.1
  | false => rw [M.same k i hk hi hp]; exact nowOld k i hk hi hp
 have hn0 : n 0 = pg T.n := ho.ok.n0
 have hn1 : n 1 = pg (pg T.n) := ho.ok.n1
 have hW := PS.next_none hN
 have chg : ∀ b, b < T.n → F.T.changed b = true → F.p 0 (b / 61) = true := fun b hb hc => by
  have hi : b / 61 < n 0 := by rw [hn0]; unfold pg; omega
  cases hp : F.p 0 (b / 61) with
  | true => rfl
  | false =>
   have := want_false (hW 0 (b / 61) (by omega) (by rw [M.sn]; exact hi)) (nz 0 _ (by omega) hi) hp
   rw [if_neg (by omega)] at this
   have := anyIn_false.1 this b (by omega) (by omega) (by rw [M.tn]; exact hb)
   rw [hc] at this
   cases this
 have some_chg : (∃ b, b < T.n ∧ T.changed b = true) → ∃ i, i < n 0 ∧ F.p 0 i = true := by
  rintro ⟨b, hb, hc⟩
  refine ⟨b / 61, by rw [hn0]; unfold pg; omega, ?_⟩
  apply chg b hb
  simp only [Tal.changed, bne_iff_ne] at hc ⊢
  rw [M.kept, M.rest]
  ·exact hc
  ·intro k i hk hi hp
   constructor
   ·rintro rfl
    have := M.new k i hk hi hp
    rw [this.1, this.2.1] at hc
    exact hc rfl
   ·rintro rfl
    rw [ho.now k i hk hi, ho.kept k i hk hi] at hc
    exact hc rfl
 have some_dir : (∃ i, i < n 0 ∧ F.p 0 i = true) → ∃ i, i < n 1 ∧ F.p 1 i = true := by
  rintro ⟨j, hj, hp⟩
  have hi : j / 61 < n 1 := by rw [hn1]; rw [hn0] at hj; unfold pg at hj ⊢; omega
  refine ⟨j / 61, hi, ?_⟩
  cases hq : F.p 1 (j / 61) with
  | true => rfl
  | false =>
   have := want_false (hW 1 (j / 61) (by omega) (by rw [M.sn]; exact hi)) (nz 1 _ (by omega) hi) hq
   rw [if_pos rfl] at this
   have := anyIn_false.1 this j (by omega) (by omega) (by rw [M.sn]; exact hj)
   rw [hp] at this
   cases this
 have none_any : ∀ k i, F.p k i = true → ∃ b, b < T.n ∧ T.changed b = true := fun k i hp => by
  apply Classical.byContradiction
  intro hno
  have := HS fun b hb => by
   cases hc : T.changed b with
   | false => rfl
   | true => exact absurd ⟨b, hb, hc⟩ hno
  rw [this] at hp
  cases hp
 refine ⟨M.sn, M.tn, ⟨keep_ok (by rw [← M.sn]; exact M.inv.ok), nz, now1, now1⟩, ?_, fun i hi hp => M.same 0 i (by omega) hi hp, chg, ⟨fun ⟨i, _, hp⟩ => none_any 0 i hp, some_chg⟩, ⟨fun ⟨i, _, hp⟩ => none_any 1 i hp, fun h => some_dir (some_chg h)⟩⟩
 intro i hi hp
 have q := M.new 0 i (by omega) hi hp
 refine ⟨fun e => ?_, q.2.2.2.1, q.2.2.2.2⟩
 have := q.1
 rw [e, ho.kept 0 i (by omega) hi] at this
 omega
structure Beg (n : Nat → Nat) (S : PS) : Prop where
 inv : PInv S
 sn : S.n = n
 none : ∀ k i, k < 2 → i < n k → S.p k i = false → S.a k i = 0
 some : ∀ k i, k < 2 → i < n k → S.p k i = true → S.a k i ≠ 0 ∧ S.T.now (S.a k i) = 1
 first : 1 ≤ S.K.first
theorem Beg.step {n : Nat → Nat} {S : PS} (h : Beg n S) {k i : Nat} (hk : k < 2) (hi : i < S.n k) (hw : S.want k i = true) : Beg n (S.step k i) := by
 have hi' : i < n k := by rw [← h.sn]; exact hi
 have hp := want_p hw
 have ea := h.none k i hk hi' hp
 obtain ⟨b, ht, h1, h2, h3⟩ := h.inv.block hk hi hw
 have ⟨e1, e2⟩ := step_some ht
 have eT : S.T1 k i = S.T := by unfold PS.T1; rw [if_pos ea]
 rw [eT] at h3
 simp only [Tal.free, Bool.and_eq_true, beq_iff_eq] at h3
 have hkb := (takeK_bd (T := S.T1 k i) h.inv.f (by rw [T1_n]; exact h.inv.nx)).2.2.2
 refine ⟨h.inv.step hk hi hw, h.sn, ?_, ?_, ?_⟩
 ·intro k' i' hk' hi'' hp'
  by_cases e : k' = k ∧ i' = i
  ·obtain ⟨rfl, rfl⟩ := e
   have q : (S.step k' i').p k' i' = true := upd2_same _ _ _ _
   rw [q] at hp'
   cases hp'
  ·have q : (S.step k i).p k' i' = S.p k' i' := upd2_other _ _ e
   have q2 : (S.step k i).a k' i' = S.a k' i' := upd2_other _ _ e
   rw [q] at hp'
   rw [q2]
   exact h.none k' i' hk' hi'' hp'
 ·intro k' i' hk' hi'' hp'
  rw [e1, eT]
  by_cases e : k' = k ∧ i' = i
  ·obtain ⟨rfl, rfl⟩ := e
   have q2 : (S.step k' i').a k' i' = b := by show upd2 S.a k' i' _ k' i' = b; rw [upd2_same, e2]
   rw [q2]
   exact ⟨by have := h.first; omega, by rw [set_now, if_pos rfl]⟩
  ·have q : (S.step k i).p k' i' = S.p k' i' := upd2_other _ _ e
   have q2 : (S.step k i).a k' i' = S.a k' i' := upd2_other _ _ e
   rw [q] at hp'
   rw [q2]
   have r := h.some k' i' hk' hi'' hp'
   refine ⟨r.1, ?_⟩
   rw [set_now]
   split
   ·rfl
   ·exact r.2
 ·show 1 ≤ (takeK (S.T1 k i) S.K).first
  rw [hkb]
  exact h.first
theorem beg_own {n : Nat} (h : 16 ≤ n) : Own (begF n).T.keep (begF n).n (begF n).a := by
 have B := PS.fin_ind (Q := Beg (nOf n)) (fun S k i h hk hi hw => h.step hk hi hw) _ (PS.start (Tal.new n) ⟨2, 2, 0⟩ (nOf n) (fun _ _ => 0)) (Nat.le_refl _)
  ⟨PInv.start (empty_ok (Tal.new n)) (Nat.le_refl _) (show 2 ≤ n by omega) (need_new h), rfl, fun _ _ _ _ _ => rfl, (fun _ _ _ _ h => by cases h), by show 1 ≤ 2; omega⟩
 change Beg (nOf n) (begF n) ∧ (begF n).next = none at B
 revert B
 generalize begF n = F
 rintro ⟨B, hN⟩
 have hp : ∀ k i, k < 2 → i < F.n k → F.p k i = true := fun k i hk hi => by
  cases hp : F.p k i with
  | true => rfl
  | false =>
   have e := B.none k i hk (by rw [← B.sn]; exact hi) hp
   have w := PS.next_none hN k i hk hi
   unfold PS.want at w
   rw [hp, e] at w
   simp at w
 have hs := fun k i hk hi => B.some k i hk (by rw [← B.sn]; exact hi) (hp k i hk hi)
 exact ⟨keep_ok B.inv.ok, fun k i hk hi => (hs k i hk hi).1, fun k i hk hi => (hs k i hk hi).2, fun k i hk hi => (hs k i hk hi).2⟩
def ownB (n : Nat → Nat) (a : Nat → Nat → Nat) (b : Int) : Bool := (atL a n 0 ++ atL a n 1).any fun x => decide ((x : Int) = b)
theorem ownB_false {n : Nat → Nat} {a : Nat → Nat → Nat} {b : Nat} (h : ownB n a (b : Int) = false) : ∀ k i, k < 2 → i < n k → a k i ≠ b := by
 intro k i hk hi e
 have : (b ∈ atL a n 0 ++ atL a n 1) := by
  rw [List.mem_append]
  have hk2 : k = 0 ∨ k = 1 := by omega
  rcases hk2 with rfl | rfl
  ·left; unfold atL; rw [List.mem_map]; exact ⟨i, by simpa using hi, e⟩
  ·right; unfold atL; rw [List.mem_map]; exact ⟨i, by simpa using hi, e⟩
 unfold ownB at h
 rw [List.any_eq_false] at h
 have := h b this
 simp at this
theorem yesTo_nil {p : Nat → Bool} {n : Nat} : yesTo p n = [] ↔ ¬ ∃ i, i < n ∧ p i = true := by
 rw [List.eq_nil_iff_forall_not_mem]
 constructor
 ·rintro h ⟨i, hi⟩
  exact h i (mem_yesTo.2 hi)
 ·intro h i hi
  exact h ⟨i, mem_yesTo.1 hi⟩
end Go.Proofs.YtkhcaclndepgbaaGreat
