/- The reference of layer 10: Right of a right sheet. (Printed by mkr10b.py.) -/
import Derived.Test.YtnhabpbdpjgiiaaR10A
import Derived.Maps.AppendAt
import Derived.Deep.RegionLawGrows
namespace Go.Proofs.Ytnhabpbdpjgiiaa
open Go.RowKit
set_option linter.unusedVariables false
set_option linter.unusedSimpArgs false

/-- What an append of a list to a list of the call's own answers, whatever world. -/
theorem run_appI {w : World} {base : Nat} {v : Value} {l : List Nat} (hown : w.ownsRow base 3 1 v l.length (intVs l)) {g c n : Nat} {m : List Nat} (e : n = m.length) (hin : SlI w (.slice (some ⟨g, 0, none⟩) n c) m) (hnm : l.length + m.length ≤ 100000) (hbase : base ≤ w.heap.size) :
    ∃ v' w', (Builtin.append_ #[31, 31] 31 #[v, .slice (some ⟨g, 0, none⟩) n c]).run Try.prog w = .ok v' w' ∧ w'.ownsRow base 3 1 v' (l ++ m).length (intVs (l ++ m)) ∧ w.grownBy w' v.ownBlock := by
  subst e
  obtain ⟨i, h1, h2, h3, h4⟩ := info_parts infoInt8
  obtain ⟨v', w', hr, ho, hg, _⟩ := run_append_own_at (P := Try.prog) w base 31 31 3 i (.int .i64 0) 1 8 Try.underlying31 h1 h2 h3 h4 rfl (by decide) v l.length _ hown ⟨g, 0, none⟩ m.length c (intVs m) (by simp [intVs]) hin.cells (by intro u hu; obtain ⟨q, _, rfl⟩ := List.mem_map.1 hu; rfl) (by unfold maxLen; omega) (by omega) hbase
  exact ⟨v', w', hr, by rw [intVs_app, List.length_append]; exact ho, hg⟩

theorem step_appI {ops : Array Oper} {o : Oper} {a : Act} {w : World} {K : Act → World → Prop} {Q : Exit → Act → World → Prop} {E : Prop} (hg : o.guard = none) (s x : Operand)
    (hop : o.op = .call { callee := .builtin .append, args := #[s, x], argTypes := #[31, 31] }) (hty : o.type = 31) {base : Nat} {v : Value} {l : List Nat} (hs : a.eval s = v) (hown : w.ownsRow base 3 1 v l.length (intVs l)) {g c n : Nat} {m : List Nat} (e : n = m.length)
    (hx : a.eval x = .slice (some ⟨g, 0, none⟩) n c) (hin : SlI w (.slice (some ⟨g, 0, none⟩) n c) m) (hnm : l.length + m.length ≤ 100000) (hbase : base ≤ w.heap.size)
    (hK : ∀ v' w', w'.ownsRow base 3 1 v' (l ++ m).length (intVs (l ++ m)) → w.grownBy w' v.ownBlock → K (a.put o.dst v') w') :
    if Region.wanted o (yielded ops a.tmps) = true then Oper.wp Try.prog o a w K Q else E := by
  have hw : Region.wanted o (yielded ops a.tmps) = true := by simp [Region.wanted, hg]
  rw [if_pos hw]
  obtain ⟨v', w', hrun, r1, r2⟩ := run_appI hown e hin hnm hbase
  unfold Oper.wp
  simp [execOp, hop, resolve, invoke, builtin, hs, hx, hty, hrun, Result.andThen]
  exact hK _ _ r1 r2

theorem both_apart {T : Tal} {S : Nat → Nat → Nat} {n : Nat → Nat} (ho : ShOk T n S) : ∀ i k, i < (atL S n 0 ++ atL S n 1).length → k < i → (atL S n 0 ++ atL S n 1).getD i 0 ≠ 0 → (atL S n 0 ++ atL S n 1).getD i 0 ≠ (atL S n 0 ++ atL S n 1).getD k 0 := by
  intro i k hi hk h0 he
  rw [List.length_append, atL_len, atL_len] at hi
  rw [both_get S n hi] at h0 he
  rw [both_get S n (by omega)] at he
  have ⟨a1, a2⟩ := kn_lt hi
  have ⟨b1, b2⟩ := kn_lt (n := n) (j := k) (by omega)
  have ⟨e1, e2⟩ := ho.apart _ _ _ _ a1 a2 b1 b2 h0 he
  have := kn_inj e1 e2
  omega

set_option maxRecDepth 20000 in
set_option maxHeartbeats 4000000 in
theorem r10right_at {A : List Nat} {w : World} {v1 v0' v1' : Value} {S : Nat → Nat → Nat} {n g c : Nat → Nat} {T : Tal} (hn1 : 1 ≤ T.n) (hn2 : T.n ≤ 4096) (H : RN A w v1 T.n T.now) (hv : ShV w v0' v1' S n g c) (ho : ShOk T n S) :
    Calls Try.prog 45 #[v1, .agg #[v0', v1']] w fun e w' => e = .returned (.bool true) ∧ Chg [] w w' := by
  obtain ⟨rfl, rfl, hl⟩ := hv
  have p1 := pg_pos hn1
  have p2 := pg_le (n := T.n)
  have p3 := pg_pos p1
  have p4 := pg_le (n := pg T.n)
  have q0 := ho.n0
  have q1 := ho.n1
  have hl0 := hl 0 (by omega)
  have hl1 := hl 1 (by omega)
  rw [q0] at hl0 ⊢
  rw [q1] at hl1 ⊢
  have HL0 := Lib.hid hl0
  have HL1 := Lib.hid hl1
  have HO := Lib.hid ho
  have HQ := Lib.hid (And.intro q0 q1)
  have HQ0 := Lib.hid q0
  have HQ1 := Lib.hid q1
  obtain ⟨g1, c1, rfl, a1, a2, a3, a4, a5⟩ := H
  have HNW := Lib.hid a5
  have hB := new_block w (.cells #[.slice (some ⟨g 0, 0, none⟩) (pg T.n) (c 0), .slice (some ⟨g 1, 0, none⟩) (pg (pg T.n)) (c 1)] 42)
  have hC := (Chg.refl [] w).alloc (.cells #[.slice (some ⟨g 0, 0, none⟩) (pg T.n) (c 0), .slice (some ⟨g 1, 0, none⟩) (pg (pg T.n)) (c 1)] 42)
  clear hl hl0 hl1 ho q0 q1 a5
  go_enter Try.func45, Try.ntmps45
  go_upto_region 1 with fail
  generalize w.alloc _ = w1 at *
  have HB := Lib.hid hB
  have HC := Lib.hid hC
  have x0 := cell_of_block hB 0
  have x1 := cell_of_block hB 1
  simp only [List.getElem?_toArray, List.getElem?_cons_zero, List.getElem?_cons_succ] at x0 x1
  have lb := heap_lt hB
  clear hB hC
  go_cut [5] (fun v wr => Hid (wr.ownsRow w1.heap.size 3 1 v (atL S n 0 ++ atL S n 1).length (intVs (atL S n 0 ++ atL S n 1)) ∧ Chg [] w1 wr))
  case first =>
    have HC0 := Lib.hid ((Chg.refl [] w1).drew)
    have HE0 := Lib.hid (show w1.drew.heap.size = w1.heap.size from rfl)
    refine wp_region_held_drew (S := fun W' => W'.cell? ⟨w.heap.size, 0, none⟩ = some (.slice (some ⟨g 0, 0, none⟩) (pg T.n) (c 0)) ∧ W'.cell? ⟨w.heap.size, 1, none⟩ = some (.slice (some ⟨g 1, 0, none⟩) (pg (pg T.n)) (c 1))) (by kernel_rfl) (by exact ⟨x0, x1⟩) (fun hHeld => ?_)
    refine wpAnyH_take (i := 1) (oi := ?_) (v := ?_) ?_ (by kernel_rfl) (by kernel_rfl) (by kernel_rfl) ?_ (Or.inl ⟨?_, ?_⟩) hHeld ?_
    rotate_left 2
    · (simp only [List.getElem?_toArray, List.getElem?_cons_succ, List.getElem?_cons_zero]; rfl)
    · exact fun _ _ _ h => h
    · rfl
    · (rintro W' ⟨s0, s1⟩; go_simp; first | done | with_reducible rfl)
    try simp only [Act.put, List.setIfInBounds_toArray, List.set_cons_zero, List.set_cons_succ]
    refine wpAnyH_take (i := 2) (oi := ?_) (v := ?_) ?_ (by kernel_rfl) (by kernel_rfl) (by kernel_rfl) ?_ (Or.inl ⟨?_, ?_⟩) hHeld ?_
    rotate_left 2
    · (simp only [List.getElem?_toArray, List.getElem?_cons_succ, List.getElem?_cons_zero]; rfl)
    · exact fun _ _ _ h => h
    · rfl
    · (rintro W' ⟨s0, s1⟩; go_simp; first | done | with_reducible rfl)
    try simp only [Act.put, List.setIfInBounds_toArray, List.set_cons_zero, List.set_cons_succ]
    refine wpAnyH_take (i := 4) (oi := ?_) (v := ?_) ?_ (by kernel_rfl) (by kernel_rfl) (by kernel_rfl) ?_ (Or.inl ⟨?_, ?_⟩) hHeld ?_
    rotate_left 2
    · (simp only [List.getElem?_toArray, List.getElem?_cons_succ, List.getElem?_cons_zero]; rfl)
    · exact fun _ _ _ h => h
    · rfl
    · (rintro W' ⟨s0, s1⟩; go_simp; first | done | with_reducible rfl)
    try simp only [Act.put, List.setIfInBounds_toArray, List.set_cons_zero, List.set_cons_succ]
    refine wpAnyH_take (i := 5) (oi := ?_) (v := ?_) ?_ (by kernel_rfl) (by kernel_rfl) (by kernel_rfl) ?_ (Or.inl ⟨?_, ?_⟩) hHeld ?_
    rotate_left 2
    · (simp only [List.getElem?_toArray, List.getElem?_cons_succ, List.getElem?_cons_zero]; rfl)
    · exact fun _ _ _ h => h
    · rfl
    · (rintro W' ⟨s0, s1⟩; go_simp; first | done | with_reducible rfl)
    try simp only [Act.put, List.setIfInBounds_toArray, List.set_cons_zero, List.set_cons_succ]
    generalize w1.drew = w2 at *
    refine wpAnyH_ready (rs := [0]) (by kernel_rfl) (by simp) ?_
    refine AllReadyH.cons (o := ?_) ?_ (fun K hK => ?_) AllReadyH.nil
    rotate_left 1
    · (simp only [List.getElem?_toArray, List.getElem?_cons_succ, List.getElem?_cons_zero]; rfl)
    · (go_simp; have HE := Lib.hid (own_empty w2); have HC3 := Lib.hid (HC0.out.alloc (.cells #[] 3)); have SZ := Lib.hid (size_alloc' w2 (.cells #[] 3)); generalize w2.alloc _ = w3 at *)
      refine hK.out _ _ ?_ (fun hHeld => ?_)
      · exact ⟨(HC3.out.cell (p := ⟨w.heap.size, 0, none⟩) lb (by simp)).trans x0, (HC3.out.cell (p := ⟨w.heap.size, 1, none⟩) lb (by simp)).trans x1⟩
      clear hK K
      try simp only [Act.put, List.setIfInBounds_toArray, List.set_cons_zero, List.set_cons_succ]
      refine wpAnyH_ready (rs := [3]) (by kernel_rfl) (by simp) ?_
      refine AllReadyH.cons (o := ?_) ?_ (fun K hK => ?_) AllReadyH.nil
      rotate_left 1
      · (simp only [List.getElem?_toArray, List.getElem?_cons_succ, List.getElem?_cons_zero]; rfl)
      · (refine step_appI (l := []) (m := atL S n 0) rfl (.tmp 7) (.tmp 9) rfl rfl (by simp [Act.eval, Act.put]) HE.out (by rw [atL_len]; exact HQ0.out.symm) (by simp [Act.eval, Act.put]) (HL0.out.chg (HC.out.trans HC3.out) (by simp)) (by simp [atL_len]; have := HQ0.out; omega) (by have := SZ.out; omega) ?_; intro va w4 hown hg; rw [List.nil_append] at hown; have HA := Lib.hid hown; have HC4 := Lib.hid (HC3.out.grown hg (fun k hk => .inr (by have h1 := (HE.out.lt k hk).1; have h2 := HE0.out; omega))); clear hown hg)
        refine hK.out _ _ ?_ (fun hHeld => ?_)
        · exact ⟨(HC4.out.cell (p := ⟨w.heap.size, 0, none⟩) lb (by simp)).trans x0, (HC4.out.cell (p := ⟨w.heap.size, 1, none⟩) lb (by simp)).trans x1⟩
        clear hK K
        try simp only [Act.put, List.setIfInBounds_toArray, List.set_cons_zero, List.set_cons_succ]
        refine wpAnyH_ready (rs := [6]) (by kernel_rfl) (by simp) ?_
        refine AllReadyH.cons (o := ?_) ?_ (fun K hK => ?_) AllReadyH.nil
        rotate_left 1
        · (simp only [List.getElem?_toArray, List.getElem?_cons_succ, List.getElem?_cons_zero]; rfl)
        · (refine step_appI (l := atL S n 0) (m := atL S n 1) rfl (.tmp 10) (.tmp 12) rfl rfl (by simp [Act.eval, Act.put]) HA.out (by rw [atL_len]; exact HQ1.out.symm) (by simp [Act.eval, Act.put]) (HL1.out.chg (HC.out.trans HC4.out) (by simp)) (by simp [atL_len]; have h0 := HQ0.out; have h1 := HQ1.out; omega) (by have := HC4.out.size; have := HE0.out; omega) ?_; intro vb w5 hown hg; have HB2 := Lib.hid hown; have HC5 := Lib.hid (HC4.out.grown hg (fun k hk => .inr (by have h1 := (HA.out.lt k hk).1; have h2 := HE0.out; omega))); clear hown hg)
          refine hK.out _ _ ?_ (fun hHeld => ?_)
          · exact ⟨(HC5.out.cell (p := ⟨w.heap.size, 0, none⟩) lb (by simp)).trans x0, (HC5.out.cell (p := ⟨w.heap.size, 1, none⟩) lb (by simp)).trans x1⟩
          clear hK K
          try simp only [Act.put, List.setIfInBounds_toArray, List.set_cons_zero, List.set_cons_succ]
          refine wpAnyH_take (i := 7) (oi := ?_) (v := ?_) ?_ (by kernel_rfl) (by kernel_rfl) (by kernel_rfl) ?_ (Or.inl ⟨?_, ?_⟩) hHeld ?_
          rotate_left 2
          · (simp only [List.getElem?_toArray, List.getElem?_cons_succ, List.getElem?_cons_zero]; rfl)
          · exact fun _ _ _ h => h
          · rfl
          · (rintro W' ⟨s0, s1⟩; go_simp; first | done | with_reducible rfl)
          try simp only [Act.put, List.setIfInBounds_toArray, List.set_cons_zero, List.set_cons_succ]
          refine wpAnyH_done (by kernel_rfl) ?_ _
          go_wp2_with fail
          go_meet
          exact ⟨by have := HB2.out; rw [HE0.out] at this; exact this, HC5.out⟩

  case rest =>
    obtain ⟨hown, hC2⟩ := hcut.out
    have hlen : (atL S n 0 ++ atL S n 1).length = pg T.n + pg (pg T.n) := by rw [List.length_append, atL_len, atL_len, HQ.out.1, HQ.out.2]
    have hsl := SlI.of_own hown
    obtain ⟨a, cp, hv⟩ := hsl.len
    subst hv
    have HSL := Lib.hid hsl
    have HLN := Lib.hid hlen
    have hcap : pg T.n + pg (pg T.n) ≤ cp := by
      rcases hsl with ⟨h1, h2⟩ | ⟨gg, cap, h1, h2, h3, h4, h5⟩
      · rw [h2] at hlen; simp at hlen; omega
      · injection h1 with _ _ h1
        rw [← hlen, h1]; exact h2
    have HC2 := Lib.hid hC2
    have y0 := (hC2.cell (p := ⟨w.heap.size, 0, none⟩) lb (by simp)).trans x0
    have y1 := (hC2.cell (p := ⟨w.heap.size, 1, none⟩) lb (by simp)).trans x1
    clear hcut hown hC2 hsl x0 x1
    rename World => w2
    rw [hlen] at HSL ⊢
    clear hlen
    have HTW : Hid (∀ k, Calls Try.prog 57 #[.slice a (pg T.n + pg (pg T.n)) cp] (w2.drewN k) fun e w'' => e = .returned (.bool false) ∧ ∃ m, w'' = w2.drewN m) := Lib.hid (fun k =>
      (twice_at (w := w2.drewN k) (v := .slice a (pg T.n + pg (pg T.n)) cp) (HSL.out.chg ((Chg.refl [] w2).drewN k) (by simp)) (by rw [HLN.out]; unfold pg; omega) (both_apart HO.out)).mono fun e w'' ⟨h1, m, h2⟩ => ⟨h1, k + m, by rw [h2]; simp [World.drewN, Nat.add_assoc]⟩)
    have g2 : ((pg T.n : Int) != (pg T.n : Int)) = false := by simp
    have g3 : ((pg (pg T.n) : Int) != (pg (pg T.n) : Int)) = false := by simp
    go_wp2_with fail
    go_quiet (first | (go_at_call 33; exact quiet_left (r10pages_at _ (by omega))) | (go_at_call 57; exact HTW.out _))
    have HC3 := Lib.hid ((HC.out.trans HC2.out).drewN nq)
    have HSL3 := Lib.hid (HSL.out.chg ((Chg.refl [] w2).drewN nq) (by simp))
    clear y0 y1 g2 g3
    generalize w2.drewN nq = w3 at *
    go_wp2_with fail
    go_loop [6] (fun s => ∃ k : Nat, k ≤ pg T.n + pg (pg T.n) ∧ s = .int .i64 (k : Int)) (fun s => pg T.n + pg (pg T.n) - (intOf s).toNat)
    case atStart => exact ⟨0, Nat.zero_le _, rfl⟩
    case round =>
      obtain ⟨k, hk, rfl⟩ := hrel
      by_cases hlt : k < pg T.n + pg (pg T.n)
      · have hkl : k < (atL S n 0 ++ atL S n 1).length := by rw [HLN.out]; exact hlt
        have hkk : k < n 0 + n 1 := by rw [HQ.out.1, HQ.out.2]; exact hlt
        have hcell : ∃ gg, a = some ⟨gg, 0, none⟩ ∧ w3.cell? ⟨gg, k, none⟩ = some (.int .i64 (((atL S n 0 ++ atL S n 1).getD k 0 : Nat) : Int)) := by
          rcases HSL3.out with ⟨h1, h2⟩ | ⟨gg, cap, h1, h2, h3, h4, h5⟩
          · rw [h2] at hkl; simp at hkl
          · injection h1 with h1 _ _
            exact ⟨gg, h1, h5 k hkl⟩
        obtain ⟨gg, rfl, hcell⟩ := hcell
        have hb := both_get S n hkk
        have hhas := HO.out.has _ _ (kn_lt hkk).1 (kn_lt hkk).2
        rw [← hb] at hhas
        obtain ⟨b, hbe⟩ : ∃ b, b = (atL S n 0 ++ atL S n 1).getD k 0 := ⟨_, rfl⟩
        rw [← hbe] at hhas hcell
        clear hb hbe
        by_cases hb0 : b = 0
        · subst hb0
          rw [show (((0 : Nat)) : Int) = 0 from rfl] at hcell
          have i2 : ¬ (T.n : Int) ≤ 0 := by omega
          go_wp2_with fail
          go_round
          case rel => exact ⟨k + 1, by omega, by go_num⟩
          case measure => simp [intOf]; omega
        · obtain ⟨hbn, hbt⟩ := hhas hb0
          have z1 := (HC3.out.cell (p := ⟨g1, b, none⟩) a3 (by simp)).trans (HNW.out b hbn)
          have i1 : ¬ (b : Int) < 0 := by omega
          have i2 : ¬ (T.n : Int) ≤ (b : Int) := by omega
          have i3 : (0 : Int) < (b : Int) := by omega
          have i4 : ¬ (T.now b : Int) = 0 := by omega
          clear hhas
          go_wp2_with fail
          go_round
          case rel => exact ⟨k + 1, by omega, by go_num⟩
          case measure => simp [intOf]; omega
      · obtain rfl : k = pg T.n + pg (pg T.n) := by omega
        go_wp2_with fail
        go_ret
        exact ⟨rfl, HC3.out⟩

end Go.Proofs.Ytnhabpbdpjgiiaa
