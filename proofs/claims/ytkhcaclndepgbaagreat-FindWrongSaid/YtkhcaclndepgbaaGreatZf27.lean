/- Package base: Read, Put, Over, Up, Down, Back. · Package base: what a base's users call. · Package leaf: numbers in memory; the body of a node; each, as Encode calls it. -/
import Derived.Test.YtkhcaclndepgbaaGreatZf26
import Derived.Test.YtkhcaclndepgbaaGreatZf02
import Derived.Deep.RegionHeld3
set_option linter.unusedVariables false
set_option linter.unusedSimpArgs false
set_option maxRecDepth 100000
set_option maxHeartbeats 20000000
namespace Go.Proofs.YtkhcaclndepgbaaGreat
open Go.RowKit
theorem bRead_at {w : World} {M : Bm} {R : Br} {B : Bs} (h : BaseIn w M R B) {a : Nat} (ha : a < B.T.n) :
  Calls Tryz.prog 26 #[.pointer (some ⟨M.b, 0, none⟩), .int .i64 (a : Int)] w fun e w' => ∃ g c, e = .returned (.tuple #[.slice (some ⟨g, 0, none⟩) 128 c, .int .i64 0]) ∧ 128 ≤ c ∧ c ≤ maxLen ∧ w.heap.size ≤ g ∧ (∃ cur, w'.heap[g]? = some (.cells cur 5 (0, 0))) ∧ BytesAt w' g 0 128 (B.read a) ∧ Chg [] w w' := by
 have n1 := h.c.ok.n
 have cn := bNone_at h.c
 have cb := bBlocks_at h.c
 have cf := bFresh_at h.c (a : Int) (WalkArith.wf_i64 (by omega))
 have efb : B.freshB (a : Int) = (B.fr a).isSome := by
  unfold Bs.freshB
  rw [decide_eq_true (show (0 : Int) ≤ (a : Int) by omega), decide_eq_true (show (a : Int) < (B.T.n : Int) by omega)]
  rfl
 rw [efb] at cf
 have i0 : ¬ (a : Int) < 0 := by omega
 have i1 : ¬ (B.T.n : Int) ≤ (a : Int) := by omega
 cases hf : B.fr a with
 | some f =>
  rw [hf] at cf
  obtain ⟨f1, f2, f3, _⟩ := h.c.fd a f ha hf
  have lk := (h.c.fm.look (t := 43) Tryz.underlying3 Tryz.underlying43 (zeroSl8 w) goodF_zero ha n1.2).2
  rw [show (frV R B a).getD (.slice none 0 0) = .slice (some ⟨R.fg a, 0, none⟩) 128 (R.fc a) from by unfold frV; rw [hf]; rfl] at lk
  have c5 := h.c.c5
  have cc := clone8_at (n := 128) (c := R.fc a) f3 (by omega) (by omega)
  have er : B.read a = f := by unfold Bs.read; rw [hf]; rfl
  rw [er]
  have CC := Lib.hid cc
  clear h efb er f1 f2 f3 cc hf
  go_enter Tryz.func26, Tryz.ntmps26
  go_wp2_with fail
  refine (cn).mono ?_
  rintro e w' ⟨rfl, rfl⟩
  go_wp2_with fail
  refine (cb).mono ?_
  rintro e w' ⟨rfl, rfl⟩
  go_wp2_with fail
  refine (cf).mono ?_
  rintro e w' ⟨rfl, rfl⟩
  go_wp2_with fail
  refine CC.out.mono ?_
  rintro e w' ⟨g, c, rfl, q1, q2, q3, q4, q5, q6⟩
  have HQ := Lib.hid (And.intro q1 (And.intro q2 (And.intro q3 (And.intro q4 (And.intro q5 q6)))))
  clear q1 q2 q3 q4 q5 q6 CC
  go_wp2_with fail
  go_ret2
  exact ⟨g, c, rfl, HQ.out⟩
 | none =>
  rw [hf] at cf
  have c0 := h.c.c0
  have cr := dRead_at (at' := a) h.d.rd ha
  have er : B.read a = B.D a := by unfold Bs.read; rw [hf]; rfl
  rw [er]
  have HD := Lib.hid h.c.ok.dle
  have CR := Lib.hid cr
  clear h efb er cr hf
  go_enter Tryz.func26, Tryz.ntmps26
  go_wp2_with fail
  refine (cn).mono ?_
  rintro e w' ⟨rfl, rfl⟩
  go_wp2_with fail
  refine (cb).mono ?_
  rintro e w' ⟨rfl, rfl⟩
  go_wp2_with fail
  refine (cf).mono ?_
  rintro e w' ⟨rfl, rfl⟩
  go_wp2_with fail
  refine CR.out.mono ?_
  rintro e w' ⟨rfl, hb, hc⟩
  have HQ := Lib.hid (And.intro hb hc)
  clear hb hc CR
  go_wp2_with fail
  go_ret2
  refine ⟨w.heap.size, 128, rfl, Nat.le_refl _, by unfold maxLen; omega, Nat.le_refl _, ⟨_, HQ.out.1⟩, fun i hi => ⟨?_, HD.out a ha i hi⟩, HQ.out.2⟩
  rw [Nat.zero_add, cell_of_block HQ.out.1, u8s_get hi]
  rfl
def Bs.at_ (B : Bs) : Nat := (takeR B.T B.K).getD 0
def Bs.put (B : Bs) (f : Nat → Nat) : Bs := { B with T := B.T.set B.at_ 1, K := takeK B.T B.K, fr := fun x => if x = B.at_ then some f else B.fr x }
theorem Bs.Ok.put_spec {B : Bs} (h : B.Ok) (hr : 0 < B.room) : takeR B.T B.K = some B.at_ ∧ 2 ≤ B.at_ ∧ B.at_ < B.T.n ∧ B.T.free B.at_ = true := by
 have hf : B.K.first ≤ B.K.next := by rw [h.first]; exact h.nx.1
 cases ht : takeR B.T B.K with
 | none =>
  have := room_none hf h.nx.2 ht
  rw [h.first] at this
  unfold Bs.room at hr
  omega
 | some b =>
  have e : B.at_ = b := by unfold Bs.at_; rw [ht]; rfl
  have := takeR_spec hf h.nx.2 ht
  rw [h.first] at this
  rw [e]
  exact ⟨rfl, this⟩
theorem Bs.Ok.put_ok {B : Bs} (h : B.Ok) (hr : 0 < B.room) {f : Nat → Nat} (hf : ∀ i, i < 128 → f i ≤ 255) : (B.put f).Ok := by
 obtain ⟨ht, b1, b2, b3⟩ := h.put_spec hr
 have hff : B.K.first ≤ B.K.next := by rw [h.first]; exact h.nx.1
 have hk := takeK_bd (T := B.T) (K := B.K) hff h.nx.2
 have hfree := b3
 simp only [Tal.free, Bool.and_eq_true, beq_iff_eq] at hfree
 have own := h.own.take (b := B.at_) b3
 refine { n := h.n, own := own, a2 := h.a2, low := ?_, le := ?_, first := hk.2.2.2.trans h.first, nx := ⟨?_, hk.2.1⟩, fr := ?_, fle := ?_, s := h.s, kp := h.kp, sg := h.sg, disk := h.disk, dle := h.dle }
 ·intro b hb
  refine ⟨?_, (h.low b hb).2⟩
  show (if b = B.at_ then 1 else B.T.now b) = 0
  rw [if_neg (by omega)]; exact (h.low b hb).1
 ·intro b hb
  refine ⟨?_, (h.le b hb).2⟩
  show (if b = B.at_ then 1 else B.T.now b) ≤ 65535
  split
  ·omega
  ·exact (h.le b hb).1
 ·have := hk.1
  rw [hk.2.2.2, h.first] at this
  exact this
 ·intro b hb
  show ((if b = B.at_ then some f else B.fr b).isSome = true ↔ B.T.kept b = 0 ∧ (if b = B.at_ then 1 else B.T.now b) ≠ 0)
  by_cases e : b = B.at_
  ·rw [if_pos e, if_pos e, e]
   simp [hfree.2]
  ·rw [if_neg e, if_neg e]; exact h.fr b hb
 ·intro b g hb hg
  have hg' : (if b = B.at_ then some f else B.fr b) = some g := hg
  by_cases e : b = B.at_
  ·rw [if_pos e] at hg'; injection hg' with hg'; rw [← hg']; exact hf
  ·rw [if_neg e] at hg'; exact h.fle b g hb hg'
theorem BaseIn.anew {w w2 : World} {M : Bm} {R : Br} {B B' : Bs} {F : List Nat} {x g cg : Nat} {f : Nat → Nat} (h : BaseIn w M R B) (hFF : ∀ q, Bown M R B q → q ∉ F) (c : Chg M.L w w2)
  (hn : B'.T.n = B.T.n) (ha : B'.a = B.a) (hS : B'.S = B.S) (hK : B'.Kp = B.Kp) (hD : B'.D = B.D) (hfr : B'.fr = fun y => if y = x then some f else B.fr y) (pt : PT w2 M.p M.t M.bc M.bk B'.K B'.T)
  (top : w2.heap[M.b]? = some (.cells (fnRow 44 (baseV M R B)) 51 (0, 0))) (fm : KMapV Tryz.prog 3 goodF w2 M.mf B.T.n (fun i => if i = x then some (.slice (some ⟨g, 0, none⟩) 128 cg) else frV R B i))
  (hg : w.heap.size ≤ g) (hd : 128 ≤ cg ∧ cg ≤ maxLen ∧ BytesAt w2 g 0 128 f ∧ ∃ cur z, w2.heap[g]? = some (.cells cur 5 z)) (d : DiskAt w2 M.d M.bb (.slice none 0 0) ⟨B.T.n, B.D, []⟩) (ok : B'.Ok) (hF : ∀ q, q ∈ F → q < w.heap.size) : BaseAt w2 M F B' := by
 have hfe : ∀ y, y ≠ x → B'.fr y = B.fr y := fun y hy => by rw [hfr]; exact if_neg hy
 have hfx : B'.fr x = some f := by rw [hfr]; exact if_pos rfl
 let R' : Br := { R with fg := fun y => if y = x then g else R.fg y, fc := fun y => if y = x then cg else R.fc y }
 have hin : BaseIn w2 M R' B' := by
  refine h.remake c hn ha rfl rfl ?_ pt ?_ ?_ ?_ ok
  ·rw [baseV_same hn hS hK rfl rfl]; exact top
  ·rw [hn]
   refine fm.congr (fun i hi => ?_)
   unfold frV
   by_cases e : i = x
   ·subst e
    rw [if_pos rfl, hfx]
    show _ = some (Value.slice (some ⟨if i = i then g else _, 0, none⟩) 128 (if i = i then cg else _))
    rw [if_pos rfl, if_pos rfl]
   ·rw [if_neg e, hfe i e]
    cases B.fr i with
    | none => rfl
    | some f' =>
     show _ = some (Value.slice (some ⟨if i = x then g else R.fg i, 0, none⟩) 128 (if i = x then cg else R.fc i))
     rw [if_neg e, if_neg e]
     rfl
  ·intro k f' hk hf'
   rw [hn] at hk
   by_cases e : k = x
   ·subst e
    rw [hfx] at hf'
    injection hf' with hf'
    subst hf'
    show 128 ≤ (if k = k then cg else _) ∧ (if k = k then cg else _) ≤ maxLen ∧ BytesAt w2 (if k = k then g else _) 0 128 _ ∧ ∃ cur z, w2.heap[if k = k then g else _]? = _
    rw [if_pos rfl, if_pos rfl]
    exact hd
   ·rw [hfe k e] at hf'
    have := h.fd_keep c hk hf'
    show 128 ≤ (if k = x then cg else R.fc k) ∧ (if k = x then cg else R.fc k) ≤ maxLen ∧ BytesAt w2 (if k = x then g else R.fg k) 0 128 _ ∧ ∃ cur z, w2.heap[if k = x then g else R.fg k]? = _
    rw [if_neg e, if_neg e]
    exact this
  ·rw [hn, hD]; exact d
 refine BaseAt.of h hFF hin hn rfl hF (fun k hk hs => ?_)
 by_cases e : k = x
 ·exact .inr (by show _ ≤ (if k = x then g else R.fg k); rw [if_pos e]; exact hg)
 ·exact .inl ⟨by rw [← hfe k e]; exact hs, if_neg e⟩
theorem bPut_at {w : World} {M : Bm} {F : List Nat} {B : Bs} (h : BaseAt w M F B) (hF : ∀ q, q ∈ F → q < w.heap.size) {k o c : Nat} {f : Nat → Nat} (hd : BytesAt w k o 128 f) (hk : k ∉ M.L) (hr : 0 < B.room) :
  Calls Tryz.prog 17 #[.pointer (some ⟨M.b, 0, none⟩), .slice (some ⟨k, o, none⟩) 128 c] w fun e w' => e = .returned (.tuple #[.int .i64 (B.at_ : Int), .int .i64 0]) ∧ BaseAt w' M F (B.put f) ∧ Chg M.L w w' := by
 obtain ⟨R, hB, hFF⟩ := h
 have n1 := hB.c.ok.n
 have cm := bMay_at hB.c
 have cr := bRoom_at hB.c
 have c2 := hB.c.c2
 obtain ⟨ht, b1, b2, b3⟩ := hB.c.ok.put_spec hr
 have b2lt := b2
 have cp := hB.c.pt.take
 have e1 : takeB B.T B.K = (B.at_ : Int) := by unfold takeB; rw [ht]
 have e2 : takeE B.T B.K = 0 := by unfold takeE; rw [ht]
 have e3 : takeT B.T B.K = B.T.set B.at_ 1 := by unfold takeT; rw [ht]
 rw [e1, e2, e3] at cp
 have hok := hB.c.ok.put_ok hr (fun i hi => (hd i hi).2)
 have i0 : ¬ (B.room = 0) := by omega
 have HB := Lib.hid (And.intro hB hFF)
 have HH := Lib.hid (And.intro hd (And.intro hok (And.intro b2 hF)))
 have CP := Lib.hid cp
 obtain ⟨x, hx⟩ : ∃ x, x = B.at_ := ⟨_, rfl⟩
 rw [← hx] at CP ⊢
 have HX := Lib.hid hx
 have xlt : x < B.T.n := by rw [hx]; exact b2lt
 clear hB hFF hd hok hF e1 e2 e3 ht b1 b2 b3 b2lt cp hx
 go_enter Tryz.func17, Tryz.ntmps17
 go_wp2_with fail
 refine (cm).mono ?_
 rintro e w' ⟨rfl, rfl⟩
 go_wp2_with fail
 refine (cr).mono ?_
 rintro e w' ⟨rfl, rfl⟩
 go_wp2_with fail
 refine CP.out.mono ?_
 clear CP
 rintro e w1 ⟨rfl, hpt, hc⟩
 have nd := HB.out.1.nodup
 simp only [Bm.L, List.nodup_cons, List.mem_cons, List.not_mem_nil, or_false, not_or, List.nodup_nil, and_true] at nd
 have HN := Lib.hid nd
 have hcL := hc.mono (L' := M.L) (by simp [Bm.L])
 have hb1 := (hc.block M.b (heap_lt HB.out.1.c.top) (by have := HN.out; simp only [List.mem_cons, List.not_mem_nil, or_false, not_or]; exact ⟨this.1.2.2.1, this.1.2.2.2.1, this.1.2.2.2.2.1, this.1.2.2.2.2.2.1⟩)).trans HB.out.1.c.top
 have c5 : w1.cell? ⟨M.b, 5, none⟩ = some (.map (some M.mf)) := (cell_fn hb1 (by omega)).trans rfl
 have hm1 := HB.out.1.c.fm.chg hc (by have := HN.out; simp only [List.mem_cons, List.not_mem_nil, or_false, not_or]; exact ⟨fun e => this.2.2.2.1.2.2.2 e.symm, fun e => this.2.2.2.2.1.2.2 e.symm, fun e => this.2.2.2.2.2.1.2 e.symm, HB.out.1.c.ne⟩)
 have hd1 := HH.out.1.chg hcL hk
 have cc := clone8_at (c := c) (hd1.chg (Chg.refl [] w1).drew (by simp)) (by omega) (by omega)
 have CC := Lib.hid cc
 have l1 := heap_lt hb1
 have HKD := Lib.hid hc
 have HP := Lib.hid (And.intro hpt (And.intro hcL (And.intro hb1 hm1)))
 clear cc nd hpt hc hcL hb1 hm1 hd1
 go_wp2_with fail
 go_upto_region 9 with fail
 refine wp_region_held_drew (S := fun W' => W'.cell? ⟨M.b, 5, none⟩ = some (.map (some M.mf))) (by kernel_rfl) (by exact c5) (fun hHeld => ?_)
 refine wT 0 ?_ ?_ ?_ ?_ (Or.inl ⟨?_, ?_⟩) hHeld ?_
 rotate_left 2
 ·(simp only [tA1, tA2, tA3]; rfl)
 ·exact fun _ _ _ h => h
 ·rfl
 ·(intro W' s0; go_simp; first | done | with_reducible rfl)
 try simp only [Act.put, sA1, sA2, sA3]
 refine wT 1 ?_ ?_ ?_ ?_ (Or.inl ⟨?_, ?_⟩) hHeld ?_
 rotate_left 2
 ·(simp only [tA1, tA2, tA3]; rfl)
 ·exact fun _ _ _ h => h
 ·rfl
 ·(intro W' s0; go_simp; first | done | with_reducible rfl)
 try simp only [Act.put, sA1, sA2, sA3]
 refine wT 2 ?_ ?_ ?_ ?_ (Or.inl ⟨?_, ?_⟩) hHeld ?_
 rotate_left 2
 ·(simp only [tA1, tA2, tA3]; rfl)
 ·exact fun _ _ _ h => h
 ·rfl
 ·(intro W' s0; go_simp; first | done | with_reducible rfl)
 try simp only [Act.put, sA1, sA2, sA3]
 refine wT 3 ?_ ?_ ?_ ?_ (Or.inl ⟨?_, ?_⟩) hHeld ?_
 rotate_left 2
 ·(simp only [tA1, tA2, tA3]; rfl)
 ·exact fun _ _ _ h => h
 ·rfl
 ·(intro W' s0; go_simp; first | done | with_reducible rfl)
 try simp only [Act.put, sA1, sA2, sA3]
 refine wT 4 ?_ ?_ ?_ ?_ (Or.inl ⟨?_, ?_⟩) hHeld ?_
 rotate_left 2
 ·(simp only [tA1, tA2, tA3]; rfl)
 ·exact fun _ _ _ h => h
 ·rfl
 ·(intro W' s0; go_simp; first | done | with_reducible rfl)
 try simp only [Act.put, sA1, sA2, sA3]
 refine wT 5 ?_ ?_ ?_ ?_ (Or.inl ⟨?_, ?_⟩) hHeld ?_
 rotate_left 2
 ·(simp only [tA1, tA2, tA3]; rfl)
 ·exact fun _ _ _ h => h
 ·rfl
 ·(intro W' s0; go_simp; first | done | with_reducible rfl)
 try simp only [Act.put, sA1, sA2, sA3]
 refine wpAnyH_ready (rs := [6]) (by kernel_rfl) (by simp) ?_
 refine AllReadyH.cons (o := ?_) ?_ (fun K hK => ?_) AllReadyH.nil
 rotate_left 1
 ·(simp only [tA1, tA2, tA3]; rfl)
 (go_simp; refine CC.out.mono ?_; rintro e wR ⟨g, cg, rfl, q1, q2, q3, q4, q5, q6⟩; have HQ := Lib.hid (And.intro q1 (And.intro q2 (And.intro q3 (And.intro q4 (And.intro q5 ((Chg.refl [] w1).drew.trans q6)))))); clear q1 q2 q3 q4 q5 q6)
 refine hK.out _ _ ?_ (fun hHeld => ?_)
 ·exact (HQ.out.2.2.2.2.2.cell (p := ⟨M.b, 5, none⟩) l1 (by simp)).trans c5
 clear hK K
 try simp only [Act.put, sA1, sA2, sA3]
 have hcR := HQ.out.2.2.2.2.2
 have hmR := HP.out.2.2.2.chg hcR (by simp)
 obtain ⟨w2, hrun, hm2, ht2⟩ := hmR.put (t := 43) (k := x) (v := .slice (some ⟨g, 0, none⟩) 128 cg) Tryz.underlying3 Tryz.underlying43 xlt n1.2 rfl
 have hc2 := mapTurned_chg ht2
 have HZ := Lib.hid (And.intro hm2 hc2)
 clear hcR hmR hm2 ht2 hc2
 refine wpAnyH_ready (rs := [7]) (by kernel_rfl) (by simp) ?_
 refine AllReadyH.cons (o := ?_) ?_ (fun K hK => ?_) AllReadyH.nil
 rotate_left 1
 ·(simp only [tA1, tA2, tA3]; rfl)
 (go_simp)
 refine hK.out _ _ ?_ (fun hHeld => ?_)
 ·exact (HZ.out.2.cell (p := ⟨M.b, 5, none⟩) (Nat.lt_of_lt_of_le l1 HQ.out.2.2.2.2.2.size) (by have := HN.out; simp only [List.mem_singleton]; exact this.1.2.2.2.2.2.2)).trans ((HQ.out.2.2.2.2.2.cell (p := ⟨M.b, 5, none⟩) l1 (by simp)).trans c5)
 clear hK K
 try simp only [Act.put, sA1, sA2, sA3]
 refine wpAnyH_done (by kernel_rfl) ?_ _
 go_wp2_with fail
 go_ret2
 refine ⟨rfl, ?_⟩
 have hcL := HP.out.2.1
 have c02 : Chg M.L w w2 := (hcL.trans (HQ.out.2.2.2.2.2.mono (by simp))).trans (HZ.out.2.mono (by simp [Bm.L]))
 refine ⟨?_, c02⟩
 have c12 : Chg [M.mf] w1 w2 := (HQ.out.2.2.2.2.2.mono (by simp)).trans HZ.out.2
 have hne : ∀ q, q ≠ M.mf → q ∉ [M.mf] := fun q hq => by simpa using hq
 have nd := HN.out
 obtain ⟨cur, q5⟩ := HQ.out.2.2.2.1
 have gmf : g ∉ [M.mf] := by
  refine hne _ (fun e => ?_)
  have h1 := HP.out.2.2.2.lt
  have h2 := HQ.out.2.2.1
  have h3 : w1.drew.heap.size = w1.heap.size := rfl
  omega
 refine HB.out.1.anew HB.out.2 (x := x) (g := g) (cg := cg) (f := f) c02 rfl rfl rfl rfl rfl (by rw [HX.out]; rfl) ?_ ((c12.block M.b l1 (hne _ nd.1.2.2.2.2.2.2)).trans HP.out.2.2.1) HZ.out.1 (Nat.le_trans hcL.size HQ.out.2.2.1) ⟨HQ.out.1, HQ.out.2.1, HQ.out.2.2.2.2.1.chg HZ.out.2 gmf, _, _, (HZ.out.2.block g (heap_lt q5) gmf).trans q5⟩ ((HB.out.1.d.chg HKD.out (by simp [nd]) (by simp [nd]) (fun k hk => by cases hk)).chg c12 (by simp [nd]) (by simp [nd]) (fun k hk => by cases hk)) HH.out.2.1 HH.out.2.2.2
 have := HP.out.1.chg c12 (hne _ nd.2.2.2.1.2.2.2) (hne _ nd.2.2.2.2.1.2.2) (hne _ nd.2.2.2.2.2.1.2) (hne _ nd.2.2.2.2.2.2.1)
 rw [HX.out] at this
 exact this
def Bs.over (B : Bs) (x : Nat) (f : Nat → Nat) : Bs := { B with fr := fun y => if y = x then some f else B.fr y }
theorem Bs.Ok.over_ok {B : Bs} (h : B.Ok) {x : Nat} (hx : (B.fr x).isSome = true) {f : Nat → Nat} (hf : ∀ i, i < 128 → f i ≤ 255) : (B.over x f).Ok := by
 refine { h with fr := ?_, fle := ?_ }
 ·intro b hb
  show ((if b = x then some f else B.fr b).isSome = true ↔ _)
  by_cases e : b = x
  ·subst e; rw [if_pos rfl]; exact ⟨fun _ => (h.fr b hb).1 hx, fun _ => rfl⟩
  ·rw [if_neg e]; exact h.fr b hb
 ·intro b g hb hg
  have hg' : (if b = x then some f else B.fr b) = some g := hg
  by_cases e : b = x
  ·rw [if_pos e] at hg'; injection hg' with hg'; rw [← hg']; exact hf
  ·rw [if_neg e] at hg'; exact h.fle b g hb hg'
theorem bOver_at {w : World} {M : Bm} {F : List Nat} {B : Bs} (h : BaseAt w M F B) (hF : ∀ q, q ∈ F → q < w.heap.size) {k o c x : Nat} {f : Nat → Nat} (hd : BytesAt w k o 128 f) (xlt : x < B.T.n) (hx : (B.fr x).isSome = true) :
  Calls Tryz.prog 27 #[.pointer (some ⟨M.b, 0, none⟩), .int .i64 (x : Int), .slice (some ⟨k, o, none⟩) 128 c] w fun e w' => e = .returned (.int .i64 0) ∧ BaseAt w' M F (B.over x f) ∧ Chg M.L w w' := by
 obtain ⟨R, hB, hFF⟩ := h
 have n1 := hB.c.ok.n
 have cm := bMay_at hB.c
 have cb := bBlocks_at hB.c
 have cf := bFresh_at hB.c (x : Int) (WalkArith.wf_i64 (by omega))
 have efb : B.freshB (x : Int) = true := by
  unfold Bs.freshB
  rw [decide_eq_true (show (0 : Int) ≤ (x : Int) by omega), decide_eq_true (show (x : Int) < (B.T.n : Int) by omega)]
  exact hx
 rw [efb] at cf
 have hok := hB.c.ok.over_ok hx (fun i hi => (hd i hi).2)
 have i0 : ¬ (x : Int) < 0 := by omega
 have i1 : ¬ (B.T.n : Int) ≤ (x : Int) := by omega
 have c5 := hB.c.c5
 have l1 := heap_lt hB.c.top
 have nd := hB.nodup
 simp only [Bm.L, List.nodup_cons, List.mem_cons, List.not_mem_nil, or_false, not_or, List.nodup_nil, and_true] at nd
 have cc := clone8_at (c := c) (hd.chg (Chg.refl [] w).drew (by simp)) (by omega) (by omega)
 have CC := Lib.hid cc
 have HB := Lib.hid (And.intro hB hFF)
 have HH := Lib.hid (And.intro hok (And.intro hF nd))
 clear hB hFF hok hF efb cc nd hd hx
 go_enter Tryz.func27, Tryz.ntmps27
 go_wp2_with fail
 refine (cm).mono ?_
 rintro e w' ⟨rfl, rfl⟩
 go_wp2_with fail
 refine (cb).mono ?_
 rintro e w' ⟨rfl, rfl⟩
 go_wp2_with fail
 refine (cf).mono ?_
 rintro e w' ⟨rfl, rfl⟩
 go_wp2_with fail
 go_upto_region 8 with fail
 refine wp_region_held_drew (S := fun W' => W'.cell? ⟨M.b, 5, none⟩ = some (.map (some M.mf))) (by kernel_rfl) (by exact c5) (fun hHeld => ?_)
 refine wT 0 ?_ ?_ ?_ ?_ (Or.inl ⟨?_, ?_⟩) hHeld ?_
 rotate_left 2
 ·(simp only [tA1, tA2, tA3]; rfl)
 ·exact fun _ _ _ h => h
 ·rfl
 ·(intro W' s0; go_simp; first | done | with_reducible rfl)
 try simp only [Act.put, sA1, sA2, sA3]
 refine wT 1 ?_ ?_ ?_ ?_ (Or.inl ⟨?_, ?_⟩) hHeld ?_
 rotate_left 2
 ·(simp only [tA1, tA2, tA3]; rfl)
 ·exact fun _ _ _ h => h
 ·rfl
 ·(intro W' s0; go_simp; first | done | with_reducible rfl)
 try simp only [Act.put, sA1, sA2, sA3]
 refine wT 2 ?_ ?_ ?_ ?_ (Or.inl ⟨?_, ?_⟩) hHeld ?_
 rotate_left 2
 ·(simp only [tA1, tA2, tA3]; rfl)
 ·exact fun _ _ _ h => h
 ·rfl
 ·(intro W' s0; go_simp; first | done | with_reducible rfl)
 try simp only [Act.put, sA1, sA2, sA3]
 refine wT 3 ?_ ?_ ?_ ?_ (Or.inl ⟨?_, ?_⟩) hHeld ?_
 rotate_left 2
 ·(simp only [tA1, tA2, tA3]; rfl)
 ·exact fun _ _ _ h => h
 ·rfl
 ·(intro W' s0; go_simp; first | done | with_reducible rfl)
 try simp only [Act.put, sA1, sA2, sA3]
 refine wT 4 ?_ ?_ ?_ ?_ (Or.inl ⟨?_, ?_⟩) hHeld ?_
 rotate_left 2
 ·(simp only [tA1, tA2, tA3]; rfl)
 ·exact fun _ _ _ h => h
 ·rfl
 ·(intro W' s0; go_simp; first | done | with_reducible rfl)
 try simp only [Act.put, sA1, sA2, sA3]
 refine wT 5 ?_ ?_ ?_ ?_ (Or.inl ⟨?_, ?_⟩) hHeld ?_
 rotate_left 2
 ·(simp only [tA1, tA2, tA3]; rfl)
 ·exact fun _ _ _ h => h
 ·rfl
 ·(intro W' s0; go_simp; first | done | with_reducible rfl)
 try simp only [Act.put, sA1, sA2, sA3]
 refine wpAnyH_ready (rs := [6]) (by kernel_rfl) (by simp) ?_
 refine AllReadyH.cons (o := ?_) ?_ (fun K hK => ?_) AllReadyH.nil
 rotate_left 1
 ·(simp only [tA1, tA2, tA3]; rfl)
 (go_simp; refine CC.out.mono ?_; rintro e wR ⟨g, cg, rfl, q1, q2, q3, q4, q5, q6⟩; have HQ := Lib.hid (And.intro q1 (And.intro q2 (And.intro q3 (And.intro q4 (And.intro q5 ((Chg.refl [] w).drew.trans q6)))))); clear q1 q2 q3 q4 q5 q6)
 refine hK.out _ _ ?_ (fun hHeld => ?_)
 ·exact (HQ.out.2.2.2.2.2.cell (p := ⟨M.b, 5, none⟩) l1 (by simp)).trans c5
 clear hK K
 try simp only [Act.put, sA1, sA2, sA3]
 have hmR := HB.out.1.c.fm.chg HQ.out.2.2.2.2.2 (by simp)
 obtain ⟨w2, hrun, hm2, ht2⟩ := hmR.put (t := 43) (k := x) (v := .slice (some ⟨g, 0, none⟩) 128 cg) Tryz.underlying3 Tryz.underlying43 xlt n1.2 rfl
 have hc2 := mapTurned_chg ht2
 have HZ := Lib.hid (And.intro hm2 hc2)
 clear hmR hm2 ht2 hc2
 refine wpAnyH_ready (rs := [7]) (by kernel_rfl) (by simp) ?_
 refine AllReadyH.cons (o := ?_) ?_ (fun K hK => ?_) AllReadyH.nil
 rotate_left 1
 ·(simp only [tA1, tA2, tA3]; rfl)
 (go_simp)
 refine hK.out _ _ ?_ (fun hHeld => ?_)
 ·exact (HZ.out.2.cell (p := ⟨M.b, 5, none⟩) (Nat.lt_of_lt_of_le l1 HQ.out.2.2.2.2.2.size) (by simp only [List.mem_singleton]; exact HH.out.2.2.1.2.2.2.2.2.2)).trans ((HQ.out.2.2.2.2.2.cell (p := ⟨M.b, 5, none⟩) l1 (by simp)).trans c5)
 clear hK K
 try simp only [Act.put, sA1, sA2, sA3]
 refine wpAnyH_done (by kernel_rfl) ?_ _
 go_wp2_with fail
 go_ret
 refine ⟨rfl, ?_⟩
 have c12 : Chg [M.mf] w w2 := (HQ.out.2.2.2.2.2.mono (by simp)).trans HZ.out.2
 have c02 : Chg M.L w w2 := c12.mono (by simp [Bm.L])
 refine ⟨?_, c02⟩
 have nd := HH.out.2.2
 have hne : ∀ q, q ≠ M.mf → q ∉ [M.mf] := fun q hq => by simpa using hq
 obtain ⟨cur, q5⟩ := HQ.out.2.2.2.1
 have gmf : g ∉ [M.mf] := by
  refine hne _ (fun e => ?_)
  have h1 := HB.out.1.c.fm.lt
  have h2 := HQ.out.2.2.1
  have h3 : w.drew.heap.size = w.heap.size := rfl
  omega
 exact HB.out.1.anew HB.out.2 (x := x) (g := g) (cg := cg) (f := f) c02 rfl rfl rfl rfl rfl rfl
  (HB.out.1.c.pt.chg c12 (hne _ nd.2.2.2.1.2.2.2) (hne _ nd.2.2.2.2.1.2.2) (hne _ nd.2.2.2.2.2.1.2) (hne _ nd.2.2.2.2.2.2.1))
  ((c12.block M.b l1 (hne _ nd.1.2.2.2.2.2.2)).trans HB.out.1.c.top) HZ.out.1 HQ.out.2.2.1 ⟨HQ.out.1, HQ.out.2.1, HQ.out.2.2.2.2.1.chg HZ.out.2 gmf, _, _, (HZ.out.2.block g (heap_lt q5) gmf).trans q5⟩
  (HB.out.1.d.chg c12 (hne _ nd.2.1.2.2.2.2.2) (hne _ nd.2.2.1.2.2.2.2) (fun k hk => by cases hk)) HH.out.1 HH.out.2.1
end Go.Proofs.YtkhcaclndepgbaaGreat
namespace Go.Proofs.YtkhcaclndepgbaaGreat
open Go.RowKit
section
variable {w w' : World} {M : Bm} {B : Bs} {L F : List Nat}
theorem BaseAt.cBlocks (h : BaseAt w M F B) : Calls Tryz.prog 20 #[.pointer (some ⟨M.b, 0, none⟩)] w fun e w' => e = .returned (.int .i64 (B.T.n : Int)) ∧ w = w' := by obtain ⟨R, hi, _⟩ := h; exact bBlocks_at hi.c
end
end Go.Proofs.YtkhcaclndepgbaaGreat
namespace Go.Proofs.YtkhcaclndepgbaaGreat
open Go.RowKit
def NumsAt (w : World) (b off n : Nat) (f : Nat → Nat) : Prop := ∀ i, i < n → w.cell? ⟨b, off + i, none⟩ = some (.int .u64 (f i : Int)) ∧ f i < 18446744073709551616
theorem NumsAt.chg {w w' : World} {b off n : Nat} {f : Nat → Nat} {L : List Nat} (h : NumsAt w b off n f) (c : Chg L w w') (hb : b ∉ L) : NumsAt w' b off n f := fun i hi => by
 obtain ⟨h1, h2⟩ := h i hi
 exact ⟨(c.cell (p := ⟨b, off + i, none⟩) (World.block_lt_of_cell? w _ h1) hb).trans h1, h2⟩
def NumsIn (A : List Nat) (w : World) (v : Value) (n : Nat) (f : Nat → Nat) : Prop :=
 ((∃ a c, v = .slice a 0 c ∧ c ≤ maxLen ∧ (a = none → c = 0)) ∧ n = 0) ∨ ∃ b off cap, v = .slice (some ⟨b, off, none⟩) n cap ∧ n ≤ cap ∧ cap ≤ maxLen ∧ b < w.heap.size ∧ b ∉ A ∧ NumsAt w b off n f
theorem NumsIn.chg {A L : List Nat} {w w' : World} {v : Value} {n : Nat} {f : Nat → Nat} (h : NumsIn A w v n f) (c : Chg L w w') (hL : ∀ k, k ∈ L → k ∈ A ∨ w.heap.size ≤ k) : NumsIn A w' v n f := by
 rcases h with h | ⟨b, off, cap, h1, h2, h3, h4, h5, h6⟩
 ·exact .inl h
 ·exact .inr ⟨b, off, cap, h1, h2, h3, Nat.lt_of_lt_of_le h4 c.size, h5, h6.chg c fun hm => by rcases hL b hm with h | h; exact h5 h; omega⟩
theorem NumsIn.more {A B : List Nat} {w : World} {v : Value} {n : Nat} {f : Nat → Nat} (h : NumsIn A w v n f) (hB : ∀ k, k ∈ B → k ∈ A ∨ w.heap.size ≤ k) : NumsIn B w v n f := by
 rcases h with h | ⟨b, off, cap, h1, h2, h3, h4, h5, h6⟩
 ·exact .inl h
 ·exact .inr ⟨b, off, cap, h1, h2, h3, h4, fun hm => by rcases hB b hm with h | h; exact h5 h; omega, h6⟩
theorem NumsIn.len {A : List Nat} {w : World} {v : Value} {n : Nat} {f : Nat → Nat} (h : NumsIn A w v n f) : ∃ a cap, v = .slice a n cap := by
 rcases h with ⟨⟨a, c, h, _⟩, rfl⟩ | ⟨b, off, cap, h, _⟩
 ·exact ⟨a, c, h⟩
 ·exact ⟨_, _, h⟩
def bodyF (n : Nat) (keys vals : Nat → Nat) (k i : Nat) : Nat :=
 if i = 0 then n else if i < 1 + 16 * k then (if (i - 1) % 16 < 8 then byteAt (keys ((i - 1) / 16)) (7 - (i - 1) % 16) else byteAt (vals ((i - 1) / 16)) (15 - (i - 1) % 16)) else 0
theorem bodyF_step (n : Nat) (keys vals : Nat → Nat) (k : Nat) : putF (putF (bodyF n keys vals k) (1 + 16 * k) 8 (keys k)) (1 + 16 * k + 8) 8 (vals k) = bodyF n keys vals (k + 1) := by
 funext i
 unfold putF
 by_cases h2 : 1 + 16 * k + 8 ≤ i ∧ i < 1 + 16 * k + 8 + 8
 ·rw [if_pos h2]
  unfold bodyF
  have e1 : (i - 1) / 16 = k := by omega
  have e2 : (i - 1) % 16 = i - 1 - 16 * k := by omega
  rw [if_neg (by omega), if_pos (by omega), e1, e2, if_neg (by omega)]
  congr 1
  omega
 ·rw [if_neg h2]
  by_cases h1 : 1 + 16 * k ≤ i ∧ i < 1 + 16 * k + 8
  ·rw [if_pos h1]
   unfold bodyF
   have e1 : (i - 1) / 16 = k := by omega
   have e2 : (i - 1) % 16 = i - 1 - 16 * k := by omega
   rw [if_neg (by omega), if_pos (by omega), e1, e2, if_pos (by omega)]
   congr 1
   omega
  ·rw [if_neg h1]
   unfold bodyF
   by_cases h0 : i = 0
   ·rw [if_pos h0, if_pos h0]
   ·rw [if_neg h0, if_neg h0]
    by_cases h3 : i < 1 + 16 * k
    ·rw [if_pos h3, if_pos (show i < 1 + 16 * (k + 1) by omega)]
    ·rw [if_neg h3, if_neg (show ¬ i < 1 + 16 * (k + 1) by omega)]
theorem byteAt_leL (v k : Nat) : byteAt v k ≤ 255 := by unfold byteAt; omega
theorem bodyF_le {n : Nat} (keys vals : Nat → Nat) (k i : Nat) (hn : n ≤ 255) : bodyF n keys vals k i ≤ 255 := by
 unfold bodyF
 split
 ·exact hn
 ·split
  ·split <;> exact byteAt_leL _ _
  ·omega
theorem enc1_at {w : World} {bb g N nb no v : Nat} {f : Nat → Nat} (hbb : w.cell? ⟨bb, 0, none⟩ = some (.slice (some ⟨g, 0, none⟩) N N)) (hb : w.heap[g]? = some (.cells (u8s N f) 5 (0, 0))) (at' : Nat) (hat : at' + 8 ≤ N) (hN : N ≤ 100000)
  (hv : w.cell? ⟨nb, no, none⟩ = some (.int .u64 (v : Int))) (hlt : v < 18446744073709551616) :
  Calls Tryz.prog 119 #[.int .i64 (at' : Int), .pointer (some ⟨nb, no, none⟩), .pointer (some ⟨bb, 0, none⟩)] w fun e w' =>
   e = .returned (.tuple #[]) ∧ w'.heap[g]? = some (.cells (u8s N (putF f at' 8 v)) 5 (0, 0)) ∧ Chg [g] w w' := by
 have HB : Hid (w.drew.heap[g]? = some (.cells (u8s N f) 5 (0, 0))) := Lib.hid hb
 have cP := put_at HB.out 0 N N at' 8 v (by omega) hN (by omega) (by omega) (by omega) (by rw [show (256 : Nat) ^ 8 = 18446744073709551616 by decide]; exact hlt)
 rw [Nat.zero_add] at cP
 clear hb
 go_enter Tryz.func119, Tryz.ntmps119
 go_wp2_with fail
 go_region_with (go_at_call 120; refine cP.mono ?_; rintro e w2 ⟨rfl, hB2, hC2⟩)
 all_goals
  go_wp2_with fail
  go_end0
  exact ⟨rfl, hB2, (Chg.drew (Chg.refl _ _)).trans hC2⟩
end Go.Proofs.YtkhcaclndepgbaaGreat
