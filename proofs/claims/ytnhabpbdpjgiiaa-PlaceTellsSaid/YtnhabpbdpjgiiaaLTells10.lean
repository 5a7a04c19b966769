/- catchmentlaw10.PlaceTells: the walk. (Printed by mklt10.py.) -/
import Derived.Test.YtnhabpbdpjgiiaaPlX
import Derived.Deep.LoopGhost
namespace Go.Proofs.Ytnhabpbdpjgiiaa
open Go.RowKit
set_option linter.unusedVariables false
set_option linter.unusedSimpArgs false

theorem SlI.form {w : World} {v : Value} {l : List Nat} (h : SlI w v l) : ∃ a c, v = .slice a l.length c ∧ ∀ b, v.ownBlock = some b → b < w.heap.size := by
  rcases h with ⟨rfl, rfl⟩ | ⟨g, c, rfl, _, _, hl, _⟩
  · exact ⟨none, 0, rfl, fun b hb => by cases hb⟩
  · refine ⟨_, c, rfl, fun b hb => ?_⟩
    have : g = b := by simpa [Value.ownBlock] using hb
    omega
theorem need_neg {n : Nat} (w : World) (h1 : 1 ≤ n) (h2 : n ≤ 4096) : Calls Try.prog 10 #[.int .i64 (-(n : Int))] w fun e w' => e = .returned (.int .i64 0) ∧ w = w' := by
  have a1 : -(n : Int) < 1 := by omega
  go_enter Try.func10, Try.ntmps10
  go_wp2_with fail
  go_ret
  exact ⟨rfl, rfl⟩

set_option maxRecDepth 20000 in
set_option maxHeartbeats 64000000 in
theorem placeTells_walk (b0 : Int) (a : Option Addr) (len cap : Nat) (z : Nat → Int × Int) (w : World) (h0 : (Lit.int .u16 b0).wf = true) (hr : IsOps w a len cap z) :
    Calls Try.prog 3 #[.int .u16 b0, .slice a len cap] w fun e w' => e = .returned (.bool true) ∧ Below w.heap.size w w' := by
  obtain ⟨b, rfl, hb⟩ : ∃ b : Nat, b0 = (b : Int) ∧ b ≤ 65535 := by
    simp [Lit.wf, IntKind.min, IntKind.max, IntKind.signed, IntKind.bits] at h0
    exact ⟨b0.toNat, by omega, by omega⟩
  obtain ⟨hlc, hcm, hnil, hop⟩ := hr
  have Hop := Lib.hid hop
  have Hnil := Lib.hid hnil
  have hcm' : cap ≤ 9223372036854775807 := by unfold maxLen at hcm; omega
  clear hop hnil hcm h0
  obtain ⟨N, hN⟩ : ∃ N, N = 16 + b % 385 := ⟨_, rfl⟩
  have hNa : 16 ≤ N := by omega
  have hNb : N ≤ 400 := by omega
  have eN : (16 : Int) + (b : Int) % 385 = (N : Int) := by omega
  clear hN hb
  go_enter Try.func3, Try.ntmps3
  go_wp2_with fail
  refine (tnew_ex N w (by omega) (by omega)).mono ?_
  rintro e w1 ⟨t, bc, bk, rfl, ht, hC1, l1, l2, l3⟩
  clear eN
  have HT := Lib.hid ht
  have HC1 := Lib.hid hC1
  have HL := Lib.hid (And.intro l1 (And.intro l2 l3))
  clear ht hC1 l1 l2 l3
  go_wp2_with fail
  refine (pnew_ex HT.out 2 (by omega)).mono ?_
  rintro e w2 ⟨p, rfl, hp, hC2, lp⟩
  have HP := Lib.hid hp
  have HC2 := Lib.hid (HC1.out.trans hC2)
  have HLP := Lib.hid (Nat.le_trans HC1.out.size lp)
  clear hp hC2 lp
  go_wp2_with fail
  refine (r8new_at N w2 [p, t, bc, bk] (by
    have a0 := HP.out.hp.lt; have a1 := HP.out.ht.lt0; have a2 := HP.out.ht.lt1; have a3 := HP.out.ht.lt2
    intro k hk
    simp only [List.mem_cons, List.not_mem_nil, or_false] at hk
    rcases hk with rfl | rfl | rfl | rfl <;> assumption) (by omega) (by omega)).mono ?_
  rintro e w3 ⟨v1, v2, rfl, hR, hC3⟩
  obtain ⟨gg1, cc1, hv1, _⟩ := hR.now
  replace hv1 : v1 = .slice (some ⟨gg1, 0, none⟩) N cc1 := hv1
  obtain ⟨gg2, cc2, hv2, _⟩ := hR.kept
  replace hv2 : v2 = .slice (some ⟨gg2, 0, none⟩) N cc2 := hv2
  subst hv1 hv2
  have hA3 := (Chg.refl [] w3).alloc (.cells #[.slice (some ⟨gg1, 0, none⟩) N cc1, .slice (some ⟨gg2, 0, none⟩) N cc2] 33)
  have HR4 := Lib.hid (hR.chg hA3 (by simp))
  have HP4 := Lib.hid ((HP.out.chg hC3 (by simp) (by simp) (by simp) (by simp)).chg hA3 (by simp) (by simp) (by simp) (by simp))
  have HC4 := Lib.hid ((HC2.out.trans hC3).trans hA3)
  clear hR hC3 hA3
  go_wp2_with fail
  refine (r9new_at HR4.out 2 (show 2 ≤ N by omega)).mono ?_
  rintro e w4 ⟨rfl, hC5⟩
  have hM := new_block w4 (.cells #[.slice (some ⟨gg1, 0, none⟩) N cc1, .slice (some ⟨gg2, 0, none⟩) N cc2, .int .i64 2, .int .i64 2, .int .i64 0] 37)
  have hA5 := (Chg.refl [] w4).alloc (.cells #[.slice (some ⟨gg1, 0, none⟩) N cc1, .slice (some ⟨gg2, 0, none⟩) N cc2, .int .i64 2, .int .i64 2, .int .i64 0] 37)
  have HR5 := Lib.hid (((HR4.out.chg hC5 (by simp)).more (B := [p, t, bc, bk, w4.heap.size]) (fun k hk => by
    simp only [List.mem_cons, List.not_mem_nil, or_false] at hk ⊢
    rcases hk with h | h | h | h | h
    · exact .inl (.inl h)
    · exact .inl (.inr (.inl h))
    · exact .inl (.inr (.inr (.inl h)))
    · exact .inl (.inr (.inr (.inr h)))
    · exact .inr (by omega))).chg hA5 (by simp))
  have HP5 := Lib.hid ((HP4.out.chg hC5 (by simp) (by simp) (by simp) (by simp)).chg hA5 (by simp) (by simp) (by simp) (by simp))
  have HC6 := Lib.hid ((HC4.out.trans hC5).trans hA5)
  have HQW := Lib.hid (show w.heap.size ≤ w4.heap.size from (HC4.out.trans hC5).size)
  have HQP := Lib.hid (HP4.out.chg hC5 (by simp) (by simp) (by simp) (by simp))
  have HM := Lib.hid hM
  clear hM hA5 hC5
  go_upto_region 6 with fail
  generalize w4.alloc (.cells #[.slice (some ⟨gg1, 0, none⟩) N cc1, .slice (some ⟨gg2, 0, none⟩) N cc2, .int .i64 2, .int .i64 2, .int .i64 0] 37) = w5 at *
  have HNB : Hid (w4.heap.size ∉ [p, t, bc, bk]) := Lib.hid (by
    have a0 := HQP.out.hp.lt; have a1 := HQP.out.ht.lt0; have a2 := HQP.out.ht.lt1; have a3 := HQP.out.ht.lt2
    simp only [List.mem_cons, List.not_mem_nil, or_false, not_or]
    omega)
  clear HQP
  generalize w4.heap.size = bq at *
  have nN : IntKind.i64.wrap (-(N : Int)) = -(N : Int) := IntWalk.i64_in _ (by omega)
  go_wp2_with fail
  refine (need_at (n := N) _ (by omega) (by omega)).mono ?_
  rintro e w' ⟨rfl, rfl⟩
  go_wp2_with fail
  refine (r10need_at (n := N) _ (by omega) (by omega)).mono ?_
  rintro e w' ⟨rfl, rfl⟩
  go_wp2_with fail
  refine (need_neg _ (show 1 ≤ N by omega) (by omega)).mono ?_
  rintro e w' ⟨rfl, rfl⟩
  go_wp2_with fail
  refine (empty_at w5 (by omega) (by omega)).mono ?_
  rintro e w6 ⟨s0, s1, g0, c0, rfl, hsh, hg, hC7⟩
  have e3 := hsh.e0
  have e4 := hsh.e1
  subst e3 e4
  have hS := new_block w6 (.cells #[.slice (some ⟨g0 0, 0, none⟩) (nOf N 0) (c0 0), .slice (some ⟨g0 1, 0, none⟩) (nOf N 1) (c0 1)] 42)
  have hA8 := (Chg.refl [] w6).alloc (.cells #[.slice (some ⟨g0 0, 0, none⟩) (nOf N 0) (c0 0), .slice (some ⟨g0 1, 0, none⟩) (nOf N 1) (c0 1)] 42)
  have HTL : Hid (Tl w (w6.alloc (.cells #[.slice (some ⟨g0 0, 0, none⟩) (nOf N 0) (c0 0), .slice (some ⟨g0 1, 0, none⟩) (nOf N 1) (c0 1)] 42)) p t bc bk bq w6.heap.size N (nOf N) ⟨2, 2, 0⟩ (Tal.new N) (.slice (some ⟨gg1, 0, none⟩) N cc1) (.slice (some ⟨gg2, 0, none⟩) N cc2) (fun _ _ => 0) g0 c0) := by
    have C7 := hC7.trans hA8
    have lq := heap_lt HM.out
    have lq6 := Nat.lt_of_lt_of_le lq hC7.size
    have hP6 := HP5.out.chg hC7 (by simp) (by simp) (by simp) (by simp)
    have a0 := hP6.hp.lt
    have a1 := hP6.ht.lt0
    have a2 := hP6.ht.lt1
    have a3 := hP6.ht.lt2
    have i0 := (hsh.cap (k := 0) (by omega)).2
    have i1 := (hsh.cap (k := 1) (by omega)).2
    have j0 := hg 0 (by omega)
    have j1 := hg 1 (by omega)
    have b0 := HP5.out.hp.lt
    have b1 := HP5.out.ht.lt0
    have b2 := HP5.out.ht.lt1
    have b3 := HP5.out.ht.lt2
    have sw := HC6.out.size
    have s6 := hC7.size
    have hL := HL.out
    have hLP := HLP.out
    have hQW := HQW.out
    refine Lib.hid ⟨hP6.chg hA8 (by simp) (by simp) (by simp) (by simp), (C7.block _ lq (by simp)).trans HM.out, (HR5.out.more (B := [p, t, bc, bk, bq, w6.heap.size]) (fun k hk => ?_)).chg C7 (by simp), hS, hsh.chg hA8 (by simp) (by simp), ?_, (empty_ok (Tal.new N)).lo, rfl, rfl, HC6.out.trans C7, ⟨HNB.out, ?_, ?_⟩, ?_⟩
    · simp only [List.mem_cons, List.not_mem_nil, or_false] at hk ⊢
      rcases hk with h | h | h | h | h | h
      · exact .inl (.inl h)
      · exact .inl (.inr (.inl h))
      · exact .inl (.inr (.inr (.inl h)))
      · exact .inl (.inr (.inr (.inr (.inl h))))
      · exact .inl (.inr (.inr (.inr (.inr h))))
      · exact .inr (by omega)
    · intro b hb
      simp only [List.mem_cons, List.not_mem_nil, or_false, not_or] at hb ⊢
      rcases hb with rfl | rfl
      · refine ⟨?_, ?_, ?_, ?_, ?_, ?_⟩ <;> omega
      · refine ⟨?_, ?_, ?_, ?_, ?_, ?_⟩ <;> omega
    · simp only [List.mem_cons, List.not_mem_nil, or_false, not_or]
      refine ⟨?_, ?_, ?_, ?_⟩ <;> omega
    · omega
    · intro b hb
      simp only [List.mem_cons, List.not_mem_nil, or_false] at hb
      rcases hb with rfl | rfl | rfl | rfl | rfl | rfl <;> omega
  have HN0 := Lib.hid (show 1 ≤ nOf N 0 ∧ nOf N 0 ≤ 7 ∧ 1 ≤ nOf N 1 ∧ nOf N 1 ≤ 7 by unfold nOf pg; simp; omega)
  clear hS hA8 hsh hg hC7 HM HP HT HC1 HC2 HC4 HC6 HP4 HP5 HR4 HR5 HL HLP HQW HNB
  go_upto_region 9 with fail
  generalize w6.alloc _ = w7 at *
  generalize w6.heap.size = sq at *
  go_cut [73, 74, 75] (fun s l i wx => ∃ m : Nat, m ≤ 30 ∧ m ≤ len ∧ s = .slice a m cap ∧ l = .int .i64 (m : Int) ∧ i = .int .i64 0 ∧ wx = w7)
  case first =>
    have h60 : 30 < len ∨ len ≤ 30 := by omega
    rcases h60 with h60 | h60
    · go_wp2_with fail
      go_meet
      exact ⟨30, by omega, by omega, by congr 1; omega, by congr 1; omega, rfl, rfl⟩
    · cases a with
      | none =>
        obtain ⟨rfl, rfl⟩ := Hnil.out rfl
        go_wp2_with fail
        go_meet
        exact ⟨0, by omega, by omega, rfl, rfl, rfl, rfl⟩
      | some a =>
        go_wp2_with fail
        go_meet
        exact ⟨len, by omega, by omega, by congr 1; omega, by congr 1; omega, rfl, rfl⟩
  case rest =>
    obtain ⟨m, hm1, hm2, rfl, rfl, rfl, rfl⟩ := hcut
    go_wp2_with fail
    go_loopg [75] m (fun gg s wr => ∃ j : Nat, j ≤ m ∧ gg = m - j ∧ s = .int .i64 (j : Int) ∧ ∃ K T v1 v2 A g c, Hid (Tl w wr p t bc bk bq sq N (nOf N) K T v1 v2 A g c))
    case atStart => exact ⟨0, Nat.zero_le _, rfl, rfl, _, _, _, _, _, _, _, HTL⟩
    case round =>
      obtain ⟨j, hj, hgh, rfl, K, T, v1, v2, A, g, c, HS⟩ := hrel
      have Hgh := Lib.hid hgh
      clear hgh HTL
      by_cases hjm : j < m
      · obtain ⟨ba, off, rfl, hbl', hc0, hc1, hw0, hw1⟩ := Hop.out j (by omega)
        have k0 := (HS.out.chg.cell (p := ⟨ba, off + j * 2, none⟩) hbl' (by simp)).trans hc0
        have k1 := (HS.out.chg.cell (p := ⟨ba, off + j * 2 + 1, none⟩) hbl' (by simp)).trans hc1
        obtain ⟨hd0, hd1⟩ := bd_u8 hw0
        obtain ⟨hB0, hB1⟩ := bd_i64 hw1
        generalize (z j).1 = d at *
        generalize (z j).2 = B at *
        have hn1 := HS.out.r.now
        have hn2 := HS.out.r.kept
        obtain ⟨gg1, cc1, hv1, _⟩ := hn1
        obtain ⟨gg2, cc2, hv2, _⟩ := hn2
        subst hv1 hv2
        have hW := (Chg.refl [] wr).alloc (.cells #[.int .u8 d, .int .i64 B] 45)
        have HSW := Lib.hid (HS.out.chgd hW)
        have HOB := Lib.hid (new_block wr (.cells #[.int .u8 d, .int .i64 B] 45))
        clear hW hc0 hc1 hw0 hw1
        go_upto_block 2 with fail
        generalize wr.alloc (.cells #[.int .u8 d, .int .i64 B] 45) = wb at *
        clear k0 k1
        go_cut [] (fun wx => Hid (∃ K T v1 v2 A g c, Tl w wx p t bc bk bq sq N (nOf N) K T v1 v2 A g c))
        case first =>
          have HON : Hid (wr.heap.size ∉ [p, t, bc, bk]) := Lib.hid (fun hk => by have := HS.out.lt _ (in4 _ hk); omega)
          have hmod : d % 5 = 0 ∨ d % 5 = 1 ∨ d % 5 = 2 ∨ d % 5 = 3 ∨ d % 5 = 4 := by omega
          rcases hmod with hm5 | hm5 | hm5 | hm5 | hm5
          · as_aux_lemma =>
            have d0 : (d % 5 == 0) = true := by simp; omega
            have d1 : (d % 5 == 1) = false := by simp; omega
            have d2 : (d % 5 == 2) = false := by simp; omega
            have d3 : (d % 5 == 3) = false := by simp; omega
            clear hm5
            have cP := (HSW.out.pt).take
            have o1 := trivial
            go_wp2_with fail
            refine cP.mono ?_
            clear cP
            rintro e w3 ⟨rfl, hP3, hC3⟩
            have HM3 := Lib.hid ((hC3.block bq (heap_lt HSW.out.m) HSW.out.nb.1).trans HSW.out.m)
            have HR3 := Lib.hid (HSW.out.r.chg hC3 (fun k hk => .inl (in4 k hk)))
            have HP3 := Lib.hid hP3
            have HC3 := Lib.hid hC3
            have HA3 := Lib.hid (fun k hk => Nat.lt_of_lt_of_le (HSW.out.lt k hk) hC3.size : ∀ k, k ∈ [p, t, bc, bk, bq, sq] → k < w3.heap.size)
            clear hP3 hC3 o1
            have HM3m := HM3.out
            have y0 := cell_of_block HM3m 0
            have y1 := cell_of_block HM3m 1
            have y2 := cell_of_block HM3m 2
            have y3 := cell_of_block HM3m 3
            have y4 := cell_of_block HM3m 4
            simp only [List.getElem?_toArray, List.getElem?_cons_zero, List.getElem?_cons_succ] at y0 y1 y2 y3 y4
            clear HM3m
            go_wp2_with fail
            refine (r9take_at HR3.out HA3.out HSW.out.pt.f HSW.out.pt.n).mono ?_
            rintro e w4 ⟨u1, rfl, hR4, hC4⟩
            obtain ⟨g3, c3, hu, _⟩ := hR4.now
            rw [takeT_n] at hu
            subst hu
            have HM4 := Lib.hid ((hC4.block bq (heap_lt HM3.out) (by simp)).trans HM3.out)
            have HR4 := Lib.hid hR4
            have HC4 := Lib.hid hC4
            clear y0 y1 y2 y3 y4 hR4 hC4
            have HM4m := HM4.out
            have y0 := cell_of_block HM4m 0
            have y1 := cell_of_block HM4m 1
            have y2 := cell_of_block HM4m 2
            have y3 := cell_of_block HM4m 3
            have y4 := cell_of_block HM4m 4
            simp only [List.getElem?_toArray, List.getElem?_cons_zero, List.getElem?_cons_succ] at y0 y1 y2 y3 y4
            have f0 := frozen_of_block HM4m 0
            have f1 := frozen_of_block HM4m 1
            have f2 := frozen_of_block HM4m 2
            have f3 := frozen_of_block HM4m 3
            have f4 := frozen_of_block HM4m 4
            clear HM4m
            unfold pv
            go_wp2_with fail
            have hS := sto5t HM4.out (.slice (some ⟨g3, 0, none⟩) T.n c3) (.slice (some ⟨gg2, 0, none⟩) T.n cc2) (.int .i64 ((takeK T K).first : Int)) (.int .i64 ((takeK T K).next : Int)) (.int .i64 ((takeK T K).asked : Int))
            have HZ := Lib.hid (HSW.out.step HP3.out HC3.out HC4.out hS.1 HR4.out hS.2 (takeK_bd (T := T) HSW.out.pt.f HSW.out.pt.n).2.2.2 (takeT_n _ _))
            go_meet
            exact ⟨_, _, _, _, _, _, _, HZ.out⟩
          · as_aux_lemma =>
            have d0 : (d % 5 == 0) = false := by simp; omega
            have d1 : (d % 5 == 1) = true := by simp; omega
            have d2 : (d % 5 == 2) = false := by simp; omega
            have d3 : (d % 5 == 3) = false := by simp; omega
            clear hm5
            have o1 := cell_of_block HOB.out 1
            simp only [List.getElem?_toArray, List.getElem?_cons_zero, List.getElem?_cons_succ] at o1
            have cP := (HSW.out.pt).up B
            go_wp2_with fail
            refine cP.mono ?_
            clear cP
            rintro e w3 ⟨rfl, hP3, hC3⟩
            have HM3 := Lib.hid ((hC3.block bq (heap_lt HSW.out.m) HSW.out.nb.1).trans HSW.out.m)
            have HR3 := Lib.hid (HSW.out.r.chg hC3 (fun k hk => .inl (in4 k hk)))
            have HP3 := Lib.hid hP3
            have HC3 := Lib.hid hC3
            have HA3 := Lib.hid (fun k hk => Nat.lt_of_lt_of_le (HSW.out.lt k hk) hC3.size : ∀ k, k ∈ [p, t, bc, bk, bq, sq] → k < w3.heap.size)
            have o3 := (HC3.out.cell (p := ⟨wr.heap.size, 1, none⟩) (heap_lt HOB.out) HON.out).trans o1
            clear hP3 hC3 o1
            have HM3m := HM3.out
            have y0 := cell_of_block HM3m 0
            have y1 := cell_of_block HM3m 1
            have y2 := cell_of_block HM3m 2
            have y3 := cell_of_block HM3m 3
            have y4 := cell_of_block HM3m 4
            simp only [List.getElem?_toArray, List.getElem?_cons_zero, List.getElem?_cons_succ] at y0 y1 y2 y3 y4
            clear HM3m
            go_wp2_with fail
            refine (r8up HR3.out HA3.out B).mono ?_
            rintro e w4 ⟨u1, rfl, hR4, hC4⟩
            obtain ⟨g3, c3, hu, _⟩ := hR4.now
            rw [up_n] at hu
            subst hu
            have HM4 := Lib.hid ((hC4.block bq (heap_lt HM3.out) (by simp)).trans HM3.out)
            have HR4 := Lib.hid hR4
            have HC4 := Lib.hid hC4
            clear y0 y1 y2 y3 y4 hR4 hC4 o3
            have HM4m := HM4.out
            have y0 := cell_of_block HM4m 0
            have y1 := cell_of_block HM4m 1
            have y2 := cell_of_block HM4m 2
            have y3 := cell_of_block HM4m 3
            have y4 := cell_of_block HM4m 4
            simp only [List.getElem?_toArray, List.getElem?_cons_zero, List.getElem?_cons_succ] at y0 y1 y2 y3 y4
            have f0 := frozen_of_block HM4m 0
            have f1 := frozen_of_block HM4m 1
            have f2 := frozen_of_block HM4m 2
            have f3 := frozen_of_block HM4m 3
            have f4 := frozen_of_block HM4m 4
            clear HM4m
            go_wp2_with fail
            have hS := sto52t HM4.out (.slice (some ⟨g3, 0, none⟩) T.n c3) (.slice (some ⟨gg2, 0, none⟩) T.n cc2)
            have HZ := Lib.hid (HSW.out.step HP3.out HC3.out HC4.out hS.1 HR4.out hS.2 rfl (up_n _ _))
            go_meet
            exact ⟨_, _, _, _, _, _, _, HZ.out⟩
          · as_aux_lemma =>
            have d0 : (d % 5 == 0) = false := by simp; omega
            have d1 : (d % 5 == 1) = false := by simp; omega
            have d2 : (d % 5 == 2) = true := by simp; omega
            have d3 : (d % 5 == 3) = false := by simp; omega
            clear hm5
            have o1 := cell_of_block HOB.out 1
            simp only [List.getElem?_toArray, List.getElem?_cons_zero, List.getElem?_cons_succ] at o1
            have cP := (HSW.out.pt).down B
            go_wp2_with fail
            refine cP.mono ?_
            clear cP
            rintro e w3 ⟨rfl, hP3, hC3⟩
            have HM3 := Lib.hid ((hC3.block bq (heap_lt HSW.out.m) HSW.out.nb.1).trans HSW.out.m)
            have HR3 := Lib.hid (HSW.out.r.chg hC3 (fun k hk => .inl (in4 k hk)))
            have HP3 := Lib.hid hP3
            have HC3 := Lib.hid hC3
            have HA3 := Lib.hid (fun k hk => Nat.lt_of_lt_of_le (HSW.out.lt k hk) hC3.size : ∀ k, k ∈ [p, t, bc, bk, bq, sq] → k < w3.heap.size)
            have o3 := (HC3.out.cell (p := ⟨wr.heap.size, 1, none⟩) (heap_lt HOB.out) HON.out).trans o1
            clear hP3 hC3 o1
            have HM3m := HM3.out
            have y0 := cell_of_block HM3m 0
            have y1 := cell_of_block HM3m 1
            have y2 := cell_of_block HM3m 2
            have y3 := cell_of_block HM3m 3
            have y4 := cell_of_block HM3m 4
            simp only [List.getElem?_toArray, List.getElem?_cons_zero, List.getElem?_cons_succ] at y0 y1 y2 y3 y4
            clear HM3m
            go_wp2_with fail
            refine (r8down HR3.out HA3.out B).mono ?_
            rintro e w4 ⟨u1, rfl, hR4, hC4⟩
            obtain ⟨g3, c3, hu, _⟩ := hR4.now
            rw [down_n] at hu
            subst hu
            have HM4 := Lib.hid ((hC4.block bq (heap_lt HM3.out) (by simp)).trans HM3.out)
            have HR4 := Lib.hid hR4
            have HC4 := Lib.hid hC4
            clear y0 y1 y2 y3 y4 hR4 hC4 o3
            have HM4m := HM4.out
            have y0 := cell_of_block HM4m 0
            have y1 := cell_of_block HM4m 1
            have y2 := cell_of_block HM4m 2
            have y3 := cell_of_block HM4m 3
            have y4 := cell_of_block HM4m 4
            simp only [List.getElem?_toArray, List.getElem?_cons_zero, List.getElem?_cons_succ] at y0 y1 y2 y3 y4
            have f0 := frozen_of_block HM4m 0
            have f1 := frozen_of_block HM4m 1
            have f2 := frozen_of_block HM4m 2
            have f3 := frozen_of_block HM4m 3
            have f4 := frozen_of_block HM4m 4
            clear HM4m
            go_wp2_with fail
            have hS := sto52t HM4.out (.slice (some ⟨g3, 0, none⟩) T.n c3) (.slice (some ⟨gg2, 0, none⟩) T.n cc2)
            have HZ := Lib.hid (HSW.out.step HP3.out HC3.out HC4.out hS.1 HR4.out hS.2 rfl (down_n _ _))
            go_meet
            exact ⟨_, _, _, _, _, _, _, HZ.out⟩
          · as_aux_lemma =>
            have d0 : (d % 5 == 0) = false := by simp; omega
            have d1 : (d % 5 == 1) = false := by simp; omega
            have d2 : (d % 5 == 2) = false := by simp; omega
            have d3 : (d % 5 == 3) = true := by simp; omega
            clear hm5
            have cP := (HSW.out.pt).keep
            have o1 := trivial
            go_wp2_with fail
            refine cP.mono ?_
            clear cP
            rintro e w3 ⟨rfl, hP3, hC3⟩
            have HM3 := Lib.hid ((hC3.block bq (heap_lt HSW.out.m) HSW.out.nb.1).trans HSW.out.m)
            have HR3 := Lib.hid (HSW.out.r.chg hC3 (fun k hk => .inl (in4 k hk)))
            have HP3 := Lib.hid hP3
            have HC3 := Lib.hid hC3
            have HA3 := Lib.hid (fun k hk => Nat.lt_of_lt_of_le (HSW.out.lt k hk) hC3.size : ∀ k, k ∈ [p, t, bc, bk, bq, sq] → k < w3.heap.size)
            clear hP3 hC3 o1
            have HM3m := HM3.out
            have y0 := cell_of_block HM3m 0
            have y1 := cell_of_block HM3m 1
            have y2 := cell_of_block HM3m 2
            have y3 := cell_of_block HM3m 3
            have y4 := cell_of_block HM3m 4
            simp only [List.getElem?_toArray, List.getElem?_cons_zero, List.getElem?_cons_succ] at y0 y1 y2 y3 y4
            clear HM3m
            go_wp2_with fail
            refine (r8keep_at HR3.out).mono ?_
            rintro e w4 ⟨rfl, hR4, hC4⟩
            have HM4 := Lib.hid ((hC4.block bq (heap_lt HM3.out) (by simp)).trans HM3.out)
            have HR4 := Lib.hid hR4
            have HC4 := Lib.hid hC4
            clear y0 y1 y2 y3 y4 hR4 hC4
            have HM4m := HM4.out
            have y0 := cell_of_block HM4m 0
            have y1 := cell_of_block HM4m 1
            have y2 := cell_of_block HM4m 2
            have y3 := cell_of_block HM4m 3
            have y4 := cell_of_block HM4m 4
            simp only [List.getElem?_toArray, List.getElem?_cons_zero, List.getElem?_cons_succ] at y0 y1 y2 y3 y4
            have f0 := frozen_of_block HM4m 0
            have f1 := frozen_of_block HM4m 1
            have f2 := frozen_of_block HM4m 2
            have f3 := frozen_of_block HM4m 3
            have f4 := frozen_of_block HM4m 4
            clear HM4m
            go_wp2_with fail
            have hS := sto52t HM4.out (.slice (some ⟨gg1, 0, none⟩) T.n cc1) (.slice (some ⟨gg1, 0, none⟩) T.n cc1)
            have HZ := Lib.hid (HSW.out.step HP3.out HC3.out HC4.out hS.1 HR4.out hS.2 rfl rfl)
            go_meet
            exact ⟨_, _, _, _, _, _, _, HZ.out⟩
          · skip
            have d0 : (d % 5 == 0) = false := by simp; omega
            have d1 : (d % 5 == 1) = false := by simp; omega
            have d2 : (d % 5 == 2) = false := by simp; omega
            have d3 : (d % 5 == 3) = false := by simp; omega
            clear hm5
            have ym := HSW.out.m
            have sm := HSW.out.s
            have y0 := cell_of_block ym 0
            have y1 := cell_of_block ym 1
            have y2 := cell_of_block ym 2
            have y3 := cell_of_block ym 3
            have y4 := cell_of_block ym 4
            simp only [List.getElem?_toArray, List.getElem?_cons_zero, List.getElem?_cons_succ] at y0 y1 y2 y3 y4
            have s0 := cell_of_block sm 0
            have s1 := cell_of_block sm 1
            simp only [List.getElem?_toArray, List.getElem?_cons_zero, List.getElem?_cons_succ] at s0 s1
            clear ym sm
            by_cases hbad : ∃ i, i < nOf N 0 + nOf N 1 ∧ (atL A (nOf N) 0 ++ atL A (nOf N) 1).getD i 0 ≠ 0 ∧ T.now ((atL A (nOf N) 0 ++ atL A (nOf N) 1).getD i 0) = 0
            · as_aux_lemma =>
              have cP := place_bad HSW.out.pt HSW.out.sh HSW.out.lo hbad
              go_wp2_with fail
              refine cP.mono ?_
              clear cP
              rintro e w3 ⟨rfl, hC3⟩
              have hA := hC3.alloc (.cells #[.slice none 0 0, .slice none 0 0] 42)
              have HT3 := Lib.hid (HSW.out.chgd hA)
              have hrb := new_block w3 (.cells #[.slice none 0 0, .slice none 0 0] 42)
              have HRB := Lib.hid hrb
              clear hC3 hA hrb y0 y1 y2 y3 y4 s0 s1
              go_upto_region 14 with fail
              generalize w3.alloc _ = w4 at *
              generalize w3.heap.size = rq at *
              have ym := HT3.out.m
              have sm := HT3.out.s
              have y0 := cell_of_block ym 0
              have y1 := cell_of_block ym 1
              have y2 := cell_of_block ym 2
              have y3 := cell_of_block ym 3
              have y4 := cell_of_block ym 4
              simp only [List.getElem?_toArray, List.getElem?_cons_zero, List.getElem?_cons_succ] at y0 y1 y2 y3 y4
              have s0 := cell_of_block sm 0
              have s1 := cell_of_block sm 1
              simp only [List.getElem?_toArray, List.getElem?_cons_zero, List.getElem?_cons_succ] at s0 s1
              clear ym sm
              have cR := r10place_bad (K := K) HT3.out.r HT3.out.sh HT3.out.lo hbad
              go_wp2_with fail
              refine cR.mono ?_
              clear cR
              rintro e w5 ⟨rfl, hC5⟩
              have hA5 := hC5.alloc (.cells #[.slice (some ⟨gg1, 0, none⟩) T.n cc1, .slice (some ⟨gg2, 0, none⟩) T.n cc2, .int .i64 (K.first : Int), .int .i64 (K.next : Int), .int .i64 (K.asked : Int), .slice (some ⟨g 0, 0, none⟩) (nOf N 0) (c 0), .slice (some ⟨g 1, 0, none⟩) (nOf N 1) (c 1), .slice none 0 0, .slice none 0 0] 57)
              have HT5 := Lib.hid (HT3.out.chgd hA5)
              have hrb := (hA5.block _ (heap_lt HRB.out) (by simp)).trans HRB.out
              clear hC5 hA5 y0 y1 y2 y3 y4 s0 s1
              go_upto_region 15 with fail
              generalize w5.alloc _ = w6 at *
              have r0 := cell_of_block hrb 0
              have r1 := cell_of_block hrb 1
              simp only [List.getElem?_toArray, List.getElem?_cons_zero, List.getElem?_cons_succ] at r0 r1
              clear hrb
              go_wp2_with fail
              go_roundg (m - (j + 1))
              case rel => exact ⟨j + 1, by omega, rfl, by go_num, _, _, _, _, _, _, _, HT5⟩
              case measure => have := Hgh.out; omega
            · have hok := HSW.out.lo.ok hbad
              by_cases hfull : roomI T 2 < (needN N : Int)
              · as_aux_lemma =>
                have cP := place_full HSW.out.pt HSW.out.sh hok (by rw [HSW.out.tn, HSW.out.f]; exact hfull)
                go_wp2_with fail
                refine cP.mono ?_
                clear cP
                rintro e w3 ⟨rfl, hC3⟩
                have hA := hC3.alloc (.cells #[.slice none 0 0, .slice none 0 0] 42)
                have HT3 := Lib.hid (HSW.out.chgd hA)
                have hrb := new_block w3 (.cells #[.slice none 0 0, .slice none 0 0] 42)
                have HRB := Lib.hid hrb
                clear hC3 hA hrb y0 y1 y2 y3 y4 s0 s1
                go_upto_region 14 with fail
                generalize w3.alloc _ = w4 at *
                generalize w3.heap.size = rq at *
                have ym := HT3.out.m
                have sm := HT3.out.s
                have y0 := cell_of_block ym 0
                have y1 := cell_of_block ym 1
                have y2 := cell_of_block ym 2
                have y3 := cell_of_block ym 3
                have y4 := cell_of_block ym 4
                simp only [List.getElem?_toArray, List.getElem?_cons_zero, List.getElem?_cons_succ] at y0 y1 y2 y3 y4
                have s0 := cell_of_block sm 0
                have s1 := cell_of_block sm 1
                simp only [List.getElem?_toArray, List.getElem?_cons_zero, List.getElem?_cons_succ] at s0 s1
                clear ym sm
                have cR := r10place_full (K := K) HT3.out.r HT3.out.sh hok (Nat.le_trans HSW.out.pt.f HSW.out.pt.n) (by rw [HSW.out.tn, HSW.out.f]; exact hfull)
                go_wp2_with fail
                refine cR.mono ?_
                clear cR
                rintro e w5 ⟨rfl, hC5⟩
                have hA5 := hC5.alloc (.cells #[.slice (some ⟨gg1, 0, none⟩) T.n cc1, .slice (some ⟨gg2, 0, none⟩) T.n cc2, .int .i64 (K.first : Int), .int .i64 (K.next : Int), .int .i64 (K.asked : Int), .slice (some ⟨g 0, 0, none⟩) (nOf N 0) (c 0), .slice (some ⟨g 1, 0, none⟩) (nOf N 1) (c 1), .slice none 0 0, .slice none 0 0] 57)
                have HT5 := Lib.hid (HT3.out.chgd hA5)
                have hrb := (hA5.block _ (heap_lt HRB.out) (by simp)).trans HRB.out
                clear hC5 hA5 y0 y1 y2 y3 y4 s0 s1
                go_upto_region 15 with fail
                generalize w5.alloc _ = w6 at *
                have r0 := cell_of_block hrb 0
                have r1 := cell_of_block hrb 1
                simp only [List.getElem?_toArray, List.getElem?_cons_zero, List.getElem?_cons_succ] at r0 r1
                clear hrb
                go_wp2_with fail
                go_roundg (m - (j + 1))
                case rel => exact ⟨j + 1, by omega, rfl, by go_num, _, _, _, _, _, _, _, HT5⟩
                case measure => have := Hgh.out; omega
              · as_aux_lemma =>
                have hroom : (needN T.n : Int) ≤ roomI T K.first := by rw [HSW.out.tn, HSW.out.f]; omega
                have cP := place_ok HSW.out.pt HSW.out.sh hok hroom
                have HFO := Lib.hid (fin_ok hok HSW.out.pt.f HSW.out.pt.n hroom)
                have HOK := Lib.hid hok
                have HRO := Lib.hid hroom
                obtain ⟨F, hF⟩ : ∃ F, F = (PS.start T K (nOf N) A).fin := ⟨_, rfl⟩
                rw [← hF] at HFO cP
                have HF := Lib.hid hF
                clear hF hok hroom hfull hbad
                go_wp2_with fail
                refine cP.mono ?_
                clear cP
                rintro e w3 ⟨u0, u1, z0, z1, g2, c2, rfl, hsv, hz0, hz1, hpt, hC3, hg, _, _, _⟩
                rw [HFO.out.2.2.1] at hsv hz0 hz1
                have e0 := hsv.e0
                have e1 := hsv.e1
                subst e0 e1
                obtain ⟨za, zc, ez, _⟩ := hz0.form
                subst ez
                obtain ⟨zb, zd, ez, _⟩ := hz1.form
                subst ez
                have hA := (Chg.refl [] w3).alloc (.cells #[.slice (some ⟨g2 0, 0, none⟩) (nOf N 0) (c2 0), .slice (some ⟨g2 1, 0, none⟩) (nOf N 1) (c2 1)] 42)
                have HRB := Lib.hid (new_block w3 (.cells #[.slice (some ⟨g2 0, 0, none⟩) (nOf N 0) (c2 0), .slice (some ⟨g2 1, 0, none⟩) (nOf N 1) (c2 1)] 42))
                have HPT := Lib.hid (hpt.chg hA (by simp) (by simp) (by simp) (by simp))
                have HSV := Lib.hid (hsv.chg hA (by simp) (by simp))
                have HZ0 := Lib.hid (hz0.chg hA (by simp))
                have HZ1 := Lib.hid (hz1.chg hA (by simp))
                have HC3 := Lib.hid (hC3.trans (hA.mono (by simp)))
                have HG2 := Lib.hid (show ∀ b, b ∈ [g2 0, g2 1] → b ∉ [p, t, bc, bk, bq, sq] from fun b hb hk => by
                  have h1 := HSW.out.lt b hk
                  have h2 := hg 0 (by omega)
                  have h3 := hg 1 (by omega)
                  simp only [List.mem_cons, List.not_mem_nil, or_false] at hb
                  rcases hb with rfl | rfl <;> omega)
                have HRN := Lib.hid (show w3.heap.size ∉ [p, t, bc, bk, bq, sq] from fun hk => by
                  have h1 := HSW.out.lt _ hk
                  have h2 := hC3.size
                  omega)
                clear hsv hz0 hz1 hpt hC3 hA hg y0 y1 y2 y3 y4 s0 s1
                go_upto_region 14 with fail
                generalize w3.alloc _ = w4 at *
                generalize w3.heap.size = rq at *
                have HM4 := Lib.hid ((HC3.out.block bq (heap_lt HSW.out.m) HSW.out.nb.1).trans HSW.out.m)
                have HS4 := Lib.hid ((HC3.out.block sq (heap_lt HSW.out.s) HSW.out.nb.2.1).trans HSW.out.s)
                have HR4 := Lib.hid (HSW.out.r.chg HC3.out (fun k hk => .inl (in4 k hk)))
                have hnd0 := HSW.out.nd (g 0) (by simp)
                have hnd1 := HSW.out.nd (g 1) (by simp)
                have HSH4 := Lib.hid (HSW.out.sh.chg HC3.out (fun h => hnd0 (in4 _ h)) (fun h => hnd1 (in4 _ h)))
                have HA4 := Lib.hid (fun k hk => Nat.lt_of_lt_of_le (HSW.out.lt k hk) HC3.out.size : ∀ k, k ∈ [p, t, bc, bk, bq, sq] → k < w4.heap.size)
                have ym := HM4.out
                have sm := HS4.out
                have y0 := cell_of_block ym 0
                have y1 := cell_of_block ym 1
                have y2 := cell_of_block ym 2
                have y3 := cell_of_block ym 3
                have y4 := cell_of_block ym 4
                simp only [List.getElem?_toArray, List.getElem?_cons_zero, List.getElem?_cons_succ] at y0 y1 y2 y3 y4
                have s0 := cell_of_block sm 0
                have s1 := cell_of_block sm 1
                simp only [List.getElem?_toArray, List.getElem?_cons_zero, List.getElem?_cons_succ] at s0 s1
                clear ym sm hnd0 hnd1
                have cR := r10place_ok HR4.out HSH4.out HA4.out HOK.out HSW.out.pt.f HSW.out.pt.n HRO.out
                rw [← HF.out] at cR
                go_wp2_with fail
                refine cR.mono ?_
                clear cR
                rintro e w5 ⟨v1', B', g', c', h', rfl, hRS, hAB, hBB, hC5⟩
                unfold st10
                obtain ⟨g5, c5, ev, _⟩ := hRS.t.now
                subst ev
                have hA5 := (Chg.refl [] w5).alloc (.cells #[.slice (some ⟨g5, 0, none⟩) F.T.n c5, .slice (some ⟨gg2, 0, none⟩) T.n cc2, .int .i64 (F.K.first : Int), .int .i64 (F.K.next : Int), .int .i64 (F.K.asked : Int), .slice (some ⟨g' 0, 0, none⟩) (nOf N 0) (c' 0), .slice (some ⟨g' 1, 0, none⟩) (nOf N 1) (c' 1), .slice (some ⟨h' 0, 0, none⟩) (nOf N 0) (nOf N 0), .slice (some ⟨h' 1, 0, none⟩) (nOf N 1) (nOf N 1)] 57)
                have HXB := Lib.hid (new_block w5 (.cells #[.slice (some ⟨g5, 0, none⟩) F.T.n c5, .slice (some ⟨gg2, 0, none⟩) T.n cc2, .int .i64 (F.K.first : Int), .int .i64 (F.K.next : Int), .int .i64 (F.K.asked : Int), .slice (some ⟨g' 0, 0, none⟩) (nOf N 0) (c' 0), .slice (some ⟨g' 1, 0, none⟩) (nOf N 1) (c' 1), .slice (some ⟨h' 0, 0, none⟩) (nOf N 0) (nOf N 0), .slice (some ⟨h' 1, 0, none⟩) (nOf N 1) (nOf N 1)] 57))
                have HRS := Lib.hid (hRS.chg hA5 (by simp) (by simp))
                have HAB := Lib.hid hAB
                have HC5 := Lib.hid (hC5.trans hA5)
                have HXN := Lib.hid (show w5.heap.size ∉ [p, t, bc, bk, bq, sq] ∧ w5.heap.size ≠ rq from ⟨fun hk => by
                  have h1 := HA4.out _ hk
                  have h2 := hC5.size
                  omega, by have := heap_lt HRB.out; have := hC5.size; omega⟩)
                clear hRS hAB hBB hC5 hA5 y0 y1 y2 y3 y4 s0 s1
                go_upto_region 20 with fail
                generalize w5.alloc _ = w6 at *
                generalize w5.heap.size = xq at *
                have HD0 := Lib.hid (Chg.refl [] w6)
                have HN6 := Lib.hid HFO.out.2.2.1
                have HSL := Lib.hid (fun k hk => by have := HRS.out.sl (k := k) hk; rw [HN6.out] at this; exact this : ∀ k, k < 2 → SlI w6 (.slice (some ⟨g' k, 0, none⟩) (nOf N k) (c' k)) (atL F.a (nOf N) k))
                have HPL := Lib.hid (fun k hk => by have := HRS.out.pls k hk; rw [HN6.out] at this; exact this : ∀ k, k < 2 → w6.heap[h' k]? = some (.cells (bools (nOf N k) (F.p k)) 4 (0, 0)))
                have rm := (HD0.out.block _ (Nat.lt_of_lt_of_le (heap_lt HRB.out) HC5.out.size) (by simp)).trans ((HC5.out.block _ (heap_lt HRB.out) (by simp)).trans HRB.out)
                have xm := (HD0.out.block _ (heap_lt HXB.out) (by simp)).trans HXB.out
                have r0 := cell_of_block rm 0
                have r1 := cell_of_block rm 1
                simp only [List.getElem?_toArray, List.getElem?_cons_zero, List.getElem?_cons_succ] at r0 r1
                have x0 := cell_of_block xm 0
                have x1 := cell_of_block xm 1
                have x2 := cell_of_block xm 2
                have x3 := cell_of_block xm 3
                have x4 := cell_of_block xm 4
                have x5 := cell_of_block xm 5
                have x6 := cell_of_block xm 6
                have x7 := cell_of_block xm 7
                have x8 := cell_of_block xm 8
                simp only [List.getElem?_toArray, List.getElem?_cons_zero, List.getElem?_cons_succ] at x0 x1 x2 x3 x4 x5 x6 x7 x8
                clear rm xm
                go_wp2_with fail
                refine (sameL (((HSV.out.l 0 (by omega)).chg HC5.out (by simp)).chg HD0.out (by simp)) ((HSL.out 0 (by omega)).chg HD0.out (by simp)) rfl (by rw [atL_len]; have := HN0.out; omega)).mono ?_
                rintro e v1 ⟨rfl, hE⟩
                have HD1 := Lib.hid (HD0.out.trans hE)
                clear hE
                clear r0 r1 x0 x1 x2 x3 x4 x5 x6 x7 x8
                have rm := (HD1.out.block _ (Nat.lt_of_lt_of_le (heap_lt HRB.out) HC5.out.size) (by simp)).trans ((HC5.out.block _ (heap_lt HRB.out) (by simp)).trans HRB.out)
                have xm := (HD1.out.block _ (heap_lt HXB.out) (by simp)).trans HXB.out
                have r0 := cell_of_block rm 0
                have r1 := cell_of_block rm 1
                simp only [List.getElem?_toArray, List.getElem?_cons_zero, List.getElem?_cons_succ] at r0 r1
                have x0 := cell_of_block xm 0
                have x1 := cell_of_block xm 1
                have x2 := cell_of_block xm 2
                have x3 := cell_of_block xm 3
                have x4 := cell_of_block xm 4
                have x5 := cell_of_block xm 5
                have x6 := cell_of_block xm 6
                have x7 := cell_of_block xm 7
                have x8 := cell_of_block xm 8
                simp only [List.getElem?_toArray, List.getElem?_cons_zero, List.getElem?_cons_succ] at x0 x1 x2 x3 x4 x5 x6 x7 x8
                clear rm xm
                go_wp2_with fail
                refine (sameL (((HSV.out.l 1 (by omega)).chg HC5.out (by simp)).chg HD1.out (by simp)) ((HSL.out 1 (by omega)).chg HD1.out (by simp)) rfl (by rw [atL_len]; have := HN0.out; omega)).mono ?_
                rintro e v2 ⟨rfl, hE⟩
                have HD2 := Lib.hid (HD1.out.trans hE)
                clear hE
                clear r0 r1 x0 x1 x2 x3 x4 x5 x6 x7 x8
                have rm := (HD2.out.block _ (Nat.lt_of_lt_of_le (heap_lt HRB.out) HC5.out.size) (by simp)).trans ((HC5.out.block _ (heap_lt HRB.out) (by simp)).trans HRB.out)
                have xm := (HD2.out.block _ (heap_lt HXB.out) (by simp)).trans HXB.out
                have r0 := cell_of_block rm 0
                have r1 := cell_of_block rm 1
                simp only [List.getElem?_toArray, List.getElem?_cons_zero, List.getElem?_cons_succ] at r0 r1
                have x0 := cell_of_block xm 0
                have x1 := cell_of_block xm 1
                have x2 := cell_of_block xm 2
                have x3 := cell_of_block xm 3
                have x4 := cell_of_block xm 4
                have x5 := cell_of_block xm 5
                have x6 := cell_of_block xm 6
                have x7 := cell_of_block xm 7
                have x8 := cell_of_block xm 8
                simp only [List.getElem?_toArray, List.getElem?_cons_zero, List.getElem?_cons_succ] at x0 x1 x2 x3 x4 x5 x6 x7 x8
                clear rm xm
                go_wp2_with fail
                refine (yes10_at ((HD2.out.block _ (heap_lt (HPL.out 0 (by omega))) (by simp)).trans (HPL.out 0 (by omega))) (by have := HN0.out; omega)).mono ?_
                rintro e v3 ⟨yv0, rfl, hown, hE⟩
                have HY0 := Lib.hid (SlI.of_own hown)
                have HD3 := Lib.hid (HD2.out.trans hE)
                clear hE hown
                clear r0 r1 x0 x1 x2 x3 x4 x5 x6 x7 x8
                have rm := (HD3.out.block _ (Nat.lt_of_lt_of_le (heap_lt HRB.out) HC5.out.size) (by simp)).trans ((HC5.out.block _ (heap_lt HRB.out) (by simp)).trans HRB.out)
                have xm := (HD3.out.block _ (heap_lt HXB.out) (by simp)).trans HXB.out
                have r0 := cell_of_block rm 0
                have r1 := cell_of_block rm 1
                simp only [List.getElem?_toArray, List.getElem?_cons_zero, List.getElem?_cons_succ] at r0 r1
                have x0 := cell_of_block xm 0
                have x1 := cell_of_block xm 1
                have x2 := cell_of_block xm 2
                have x3 := cell_of_block xm 3
                have x4 := cell_of_block xm 4
                have x5 := cell_of_block xm 5
                have x6 := cell_of_block xm 6
                have x7 := cell_of_block xm 7
                have x8 := cell_of_block xm 8
                simp only [List.getElem?_toArray, List.getElem?_cons_zero, List.getElem?_cons_succ] at x0 x1 x2 x3 x4 x5 x6 x7 x8
                clear rm xm
                go_wp2_with fail
                refine (sameL (((HZ0.out).chg HC5.out (by simp)).chg HD3.out (by simp)) HY0.out rfl (by have := yesTo_le (F.p 0) (nOf N 0); have := HN0.out; omega)).mono ?_
                rintro e v4 ⟨rfl, hE⟩
                have HD4 := Lib.hid (HD3.out.trans hE)
                clear hE
                clear r0 r1 x0 x1 x2 x3 x4 x5 x6 x7 x8
                have rm := (HD4.out.block _ (Nat.lt_of_lt_of_le (heap_lt HRB.out) HC5.out.size) (by simp)).trans ((HC5.out.block _ (heap_lt HRB.out) (by simp)).trans HRB.out)
                have xm := (HD4.out.block _ (heap_lt HXB.out) (by simp)).trans HXB.out
                have r0 := cell_of_block rm 0
                have r1 := cell_of_block rm 1
                simp only [List.getElem?_toArray, List.getElem?_cons_zero, List.getElem?_cons_succ] at r0 r1
                have x0 := cell_of_block xm 0
                have x1 := cell_of_block xm 1
                have x2 := cell_of_block xm 2
                have x3 := cell_of_block xm 3
                have x4 := cell_of_block xm 4
                have x5 := cell_of_block xm 5
                have x6 := cell_of_block xm 6
                have x7 := cell_of_block xm 7
                have x8 := cell_of_block xm 8
                simp only [List.getElem?_toArray, List.getElem?_cons_zero, List.getElem?_cons_succ] at x0 x1 x2 x3 x4 x5 x6 x7 x8
                clear rm xm
                go_wp2_with fail
                refine (yes10_at ((HD4.out.block _ (heap_lt (HPL.out 1 (by omega))) (by simp)).trans (HPL.out 1 (by omega))) (by have := HN0.out; omega)).mono ?_
                rintro e v5 ⟨yv1, rfl, hown, hE⟩
                have HY1 := Lib.hid (SlI.of_own hown)
                have HD5 := Lib.hid (HD4.out.trans hE)
                clear hE hown
                clear r0 r1 x0 x1 x2 x3 x4 x5 x6 x7 x8
                have rm := (HD5.out.block _ (Nat.lt_of_lt_of_le (heap_lt HRB.out) HC5.out.size) (by simp)).trans ((HC5.out.block _ (heap_lt HRB.out) (by simp)).trans HRB.out)
                have xm := (HD5.out.block _ (heap_lt HXB.out) (by simp)).trans HXB.out
                have r0 := cell_of_block rm 0
                have r1 := cell_of_block rm 1
                simp only [List.getElem?_toArray, List.getElem?_cons_zero, List.getElem?_cons_succ] at r0 r1
                have x0 := cell_of_block xm 0
                have x1 := cell_of_block xm 1
                have x2 := cell_of_block xm 2
                have x3 := cell_of_block xm 3
                have x4 := cell_of_block xm 4
                have x5 := cell_of_block xm 5
                have x6 := cell_of_block xm 6
                have x7 := cell_of_block xm 7
                have x8 := cell_of_block xm 8
                simp only [List.getElem?_toArray, List.getElem?_cons_zero, List.getElem?_cons_succ] at x0 x1 x2 x3 x4 x5 x6 x7 x8
                clear rm xm
                go_wp2_with fail
                refine (sameL (((HZ1.out).chg HC5.out (by simp)).chg HD5.out (by simp)) HY1.out rfl (by have := yesTo_le (F.p 1) (nOf N 1); have := HN0.out; omega)).mono ?_
                rintro e v6 ⟨rfl, hE⟩
                have HD6 := Lib.hid (HD5.out.trans hE)
                clear hE
                clear r0 r1 x0 x1 x2 x3 x4 x5 x6 x7 x8
                have rm := (HD6.out.block _ (Nat.lt_of_lt_of_le (heap_lt HRB.out) HC5.out.size) (by simp)).trans ((HC5.out.block _ (heap_lt HRB.out) (by simp)).trans HRB.out)
                have xm := (HD6.out.block _ (heap_lt HXB.out) (by simp)).trans HXB.out
                have r0 := cell_of_block rm 0
                have r1 := cell_of_block rm 1
                simp only [List.getElem?_toArray, List.getElem?_cons_zero, List.getElem?_cons_succ] at r0 r1
                have x0 := cell_of_block xm 0
                have x1 := cell_of_block xm 1
                have x2 := cell_of_block xm 2
                have x3 := cell_of_block xm 3
                have x4 := cell_of_block xm 4
                have x5 := cell_of_block xm 5
                have x6 := cell_of_block xm 6
                have x7 := cell_of_block xm 7
                have x8 := cell_of_block xm 8
                simp only [List.getElem?_toArray, List.getElem?_cons_zero, List.getElem?_cons_succ] at x0 x1 x2 x3 x4 x5 x6 x7 x8
                clear rm xm
                go_upto_region 22 with fail
                have HCV := Lib.hid (HC5.out.trans HD6.out)
                have HRS9 := Lib.hid (HRS.out.chg HD6.out (by simp) (by simp))
                have HMV := Lib.hid ((HCV.out.block bq (heap_lt HM4.out) (by simp)).trans HM4.out)
                have HSQ := Lib.hid ((HCV.out.block sq (heap_lt HS4.out) (by simp)).trans HS4.out)
                have lrq := World.block_lt_of_cell? _ _ r0
                have lxq := World.block_lt_of_cell? _ _ x0
                have HE0 := Lib.hid ((Chg.refl [] v6).drew)
                refine wp_region_held_drew (S := fun W' => W'.cell? ⟨rq, 0, none⟩ = some (.slice (some ⟨g2 0, 0, none⟩) (nOf N 0) (c2 0)) ∧ W'.cell? ⟨rq, 1, none⟩ = some (.slice (some ⟨g2 1, 0, none⟩) (nOf N 1) (c2 1)) ∧ W'.cell? ⟨xq, 0, none⟩ = some (.slice (some ⟨g5, 0, none⟩) F.T.n c5) ∧ W'.cell? ⟨xq, 1, none⟩ = some (.slice (some ⟨gg2, 0, none⟩) T.n cc2) ∧ W'.cell? ⟨xq, 2, none⟩ = some (.int .i64 (F.K.first : Int)) ∧ W'.cell? ⟨xq, 3, none⟩ = some (.int .i64 (F.K.next : Int)) ∧ W'.cell? ⟨xq, 4, none⟩ = some (.int .i64 (F.K.asked : Int))) (by kernel_rfl) (by exact ⟨r0, r1, x0, x1, x2, x3, x4⟩) (fun hHeld => ?_)
                refine wpAnyH_take (i := 0) (oi := ?_) (v := ?_) ?_ (by kernel_rfl) (by kernel_rfl) (by kernel_rfl) ?_ (Or.inl ⟨?_, ?_⟩) hHeld ?_
                rotate_left 2
                · (simp only [List.getElem?_toArray, List.getElem?_cons_succ, List.getElem?_cons_zero]; rfl)
                · exact fun _ _ _ h => h
                · rfl
                · (rintro W' ⟨s0, s1, s2, s3, s4, s5, s6⟩; go_simp; first | done | with_reducible rfl)
                try simp only [Act.put, List.setIfInBounds_toArray, List.set_cons_zero, List.set_cons_succ]
                refine wpAnyH_take (i := 1) (oi := ?_) (v := ?_) ?_ (by kernel_rfl) (by kernel_rfl) (by kernel_rfl) ?_ (Or.inl ⟨?_, ?_⟩) hHeld ?_
                rotate_left 2
                · (simp only [List.getElem?_toArray, List.getElem?_cons_succ, List.getElem?_cons_zero]; rfl)
                · exact fun _ _ _ h => h
                · rfl
                · (rintro W' ⟨s0, s1, s2, s3, s4, s5, s6⟩; go_simp; first | done | with_reducible rfl)
                try simp only [Act.put, List.setIfInBounds_toArray, List.set_cons_zero, List.set_cons_succ]
                refine wpAnyH_take (i := 2) (oi := ?_) (v := ?_) ?_ (by kernel_rfl) (by kernel_rfl) (by kernel_rfl) ?_ (Or.inl ⟨?_, ?_⟩) hHeld ?_
                rotate_left 2
                · (simp only [List.getElem?_toArray, List.getElem?_cons_succ, List.getElem?_cons_zero]; rfl)
                · exact fun _ _ _ h => h
                · rfl
                · (rintro W' ⟨s0, s1, s2, s3, s4, s5, s6⟩; go_simp; first | done | with_reducible rfl)
                try simp only [Act.put, List.setIfInBounds_toArray, List.set_cons_zero, List.set_cons_succ]
                generalize v6.drew = y8 at *
                refine wpAnyH_ready (rs := [3]) (by kernel_rfl) (by simp) ?_
                refine AllReadyH.cons (o := ?_) ?_ (fun K hK => ?_) AllReadyH.nil
                rotate_left 1
                · (simp only [List.getElem?_toArray, List.getElem?_cons_succ, List.getElem?_cons_zero]; rfl)
                · (have hq := (HE0.out.block sq (heap_lt HSQ.out) (by simp)).trans HSQ.out; have za := cell_of_block hq 0; have zb := cell_of_block hq 1; have fa := frozen_of_block hq 0; have fb := frozen_of_block hq 1; simp only [List.getElem?_toArray, List.getElem?_cons_zero, List.getElem?_cons_succ] at za zb; have G1 := Lib.hid (sto2t hq (.slice (some ⟨g2 0, 0, none⟩) (nOf N 0) (c2 0)) (.slice (some ⟨g2 1, 0, none⟩) (nOf N 1) (c2 1))); clear hq; go_simp; clear za zb fa fb; generalize (y8.setCell _ _).setCell _ _ = y9 at *)
                  refine hK.out _ _ ?_ (fun hHeld => ?_)
                  · exact ⟨(((HE0.out.mono (by simp)).trans G1.out.2).cell (p := ⟨rq, 0, none⟩) lrq (by have := HRN.out; simp only [List.mem_cons, List.not_mem_nil, or_false, not_or] at this ⊢; exact this.2.2.2.2.2)).trans r0, (((HE0.out.mono (by simp)).trans G1.out.2).cell (p := ⟨rq, 1, none⟩) lrq (by have := HRN.out; simp only [List.mem_cons, List.not_mem_nil, or_false, not_or] at this ⊢; exact this.2.2.2.2.2)).trans r1, (((HE0.out.mono (by simp)).trans G1.out.2).cell (p := ⟨xq, 0, none⟩) lxq (by have := HXN.out.1; simp only [List.mem_cons, List.not_mem_nil, or_false, not_or] at this ⊢; exact this.2.2.2.2.2)).trans x0, (((HE0.out.mono (by simp)).trans G1.out.2).cell (p := ⟨xq, 1, none⟩) lxq (by have := HXN.out.1; simp only [List.mem_cons, List.not_mem_nil, or_false, not_or] at this ⊢; exact this.2.2.2.2.2)).trans x1, (((HE0.out.mono (by simp)).trans G1.out.2).cell (p := ⟨xq, 2, none⟩) lxq (by have := HXN.out.1; simp only [List.mem_cons, List.not_mem_nil, or_false, not_or] at this ⊢; exact this.2.2.2.2.2)).trans x2, (((HE0.out.mono (by simp)).trans G1.out.2).cell (p := ⟨xq, 3, none⟩) lxq (by have := HXN.out.1; simp only [List.mem_cons, List.not_mem_nil, or_false, not_or] at this ⊢; exact this.2.2.2.2.2)).trans x3, (((HE0.out.mono (by simp)).trans G1.out.2).cell (p := ⟨xq, 4, none⟩) lxq (by have := HXN.out.1; simp only [List.mem_cons, List.not_mem_nil, or_false, not_or] at this ⊢; exact this.2.2.2.2.2)).trans x4⟩
                  clear hK K
                  try simp only [Act.put, List.setIfInBounds_toArray, List.set_cons_zero, List.set_cons_succ]
                  refine wpAnyH_ready (rs := [4]) (by kernel_rfl) (by simp) ?_
                  refine AllReadyH.cons (o := ?_) ?_ (fun K hK => ?_) AllReadyH.nil
                  rotate_left 1
                  · (simp only [List.getElem?_toArray, List.getElem?_cons_succ, List.getElem?_cons_zero]; rfl)
                  · (have hq := (((HE0.out.mono (by simp)).trans G1.out.2).block bq (heap_lt HMV.out) (by simp; exact fun e => HSW.out.nb.2.2 e.symm)).trans HMV.out; have z0 := cell_of_block hq 0; have f0 := frozen_of_block hq 0; have z1 := cell_of_block hq 1; have f1 := frozen_of_block hq 1; have z2 := cell_of_block hq 2; have f2 := frozen_of_block hq 2; have z3 := cell_of_block hq 3; have f3 := frozen_of_block hq 3; have z4 := cell_of_block hq 4; have f4 := frozen_of_block hq 4; simp only [List.getElem?_toArray, List.getElem?_cons_zero, List.getElem?_cons_succ] at z0 z1 z2 z3 z4; have G2 := Lib.hid (sto5t hq (.slice (some ⟨g5, 0, none⟩) F.T.n c5) (.slice (some ⟨gg2, 0, none⟩) T.n cc2) (.int .i64 (F.K.first : Int)) (.int .i64 (F.K.next : Int)) (.int .i64 (F.K.asked : Int))); clear hq; go_simp; clear z0 f0 z1 f1 z2 f2 z3 f3 z4 f4; generalize ((((y9.setCell _ _).setCell _ _).setCell _ _).setCell _ _).setCell _ _ = y10 at *)
                    refine hK.out _ _ ?_ (fun hHeld => ?_)
                    · exact ⟨((((HE0.out.mono (by simp)).trans (G1.out.2.mono (by simp))).trans (G2.out.2.mono (by simp)) : Chg [sq, bq] v6 y10).cell (p := ⟨rq, 0, none⟩) lrq (by have := HRN.out; simp only [List.mem_cons, List.not_mem_nil, or_false, not_or] at this ⊢; exact ⟨this.2.2.2.2.2, this.2.2.2.2.1⟩)).trans r0, ((((HE0.out.mono (by simp)).trans (G1.out.2.mono (by simp))).trans (G2.out.2.mono (by simp)) : Chg [sq, bq] v6 y10).cell (p := ⟨rq, 1, none⟩) lrq (by have := HRN.out; simp only [List.mem_cons, List.not_mem_nil, or_false, not_or] at this ⊢; exact ⟨this.2.2.2.2.2, this.2.2.2.2.1⟩)).trans r1, ((((HE0.out.mono (by simp)).trans (G1.out.2.mono (by simp))).trans (G2.out.2.mono (by simp)) : Chg [sq, bq] v6 y10).cell (p := ⟨xq, 0, none⟩) lxq (by have := HXN.out.1; simp only [List.mem_cons, List.not_mem_nil, or_false, not_or] at this ⊢; exact ⟨this.2.2.2.2.2, this.2.2.2.2.1⟩)).trans x0, ((((HE0.out.mono (by simp)).trans (G1.out.2.mono (by simp))).trans (G2.out.2.mono (by simp)) : Chg [sq, bq] v6 y10).cell (p := ⟨xq, 1, none⟩) lxq (by have := HXN.out.1; simp only [List.mem_cons, List.not_mem_nil, or_false, not_or] at this ⊢; exact ⟨this.2.2.2.2.2, this.2.2.2.2.1⟩)).trans x1, ((((HE0.out.mono (by simp)).trans (G1.out.2.mono (by simp))).trans (G2.out.2.mono (by simp)) : Chg [sq, bq] v6 y10).cell (p := ⟨xq, 2, none⟩) lxq (by have := HXN.out.1; simp only [List.mem_cons, List.not_mem_nil, or_false, not_or] at this ⊢; exact ⟨this.2.2.2.2.2, this.2.2.2.2.1⟩)).trans x2, ((((HE0.out.mono (by simp)).trans (G1.out.2.mono (by simp))).trans (G2.out.2.mono (by simp)) : Chg [sq, bq] v6 y10).cell (p := ⟨xq, 3, none⟩) lxq (by have := HXN.out.1; simp only [List.mem_cons, List.not_mem_nil, or_false, not_or] at this ⊢; exact ⟨this.2.2.2.2.2, this.2.2.2.2.1⟩)).trans x3, ((((HE0.out.mono (by simp)).trans (G1.out.2.mono (by simp))).trans (G2.out.2.mono (by simp)) : Chg [sq, bq] v6 y10).cell (p := ⟨xq, 4, none⟩) lxq (by have := HXN.out.1; simp only [List.mem_cons, List.not_mem_nil, or_false, not_or] at this ⊢; exact ⟨this.2.2.2.2.2, this.2.2.2.2.1⟩)).trans x4⟩
                    clear hK K
                    try simp only [Act.put, List.setIfInBounds_toArray, List.set_cons_zero, List.set_cons_succ]
                    refine wpAnyH_done (by kernel_rfl) ?_ _
                    have HSBQ : Hid (Chg [sq, bq] v6 y10) := Lib.hid (((HE0.out.mono (by simp)).trans (G1.out.2.mono (by simp))).trans (G2.out.2.mono (by simp)))
                    have HC4Y : Hid (Chg [sq, bq] w4 y10) := Lib.hid ((HCV.out.mono (by simp)).trans HSBQ.out)
                    have hnq := sb_ne HSW.out.nb
                    have HPY := Lib.hid (HPT.out.chg HC4Y.out hnq.1 hnq.2.1 hnq.2.2.1 hnq.2.2.2)
                    have HRY := Lib.hid ((HRS9.out.t.more (B := [p, t, bc, bk, bq, sq]) (fun k hk => .inl (HAB.out k hk))).chg HSBQ.out (fun k hk => .inl (by simp at hk; rcases hk with rfl | rfl <;> simp)))
                    have HSY := Lib.hid ((G2.out.2.block sq (heap_lt G1.out.1) (by simp; exact HSW.out.nb.2.2)).trans G1.out.1)
                    have h20 := HG2.out (g2 0) (by simp)
                    have h21 := HG2.out (g2 1) (by simp)
                    have HHY := Lib.hid (HSV.out.chg HC4Y.out (sb_in h20) (sb_in h21))
                    have HLO := Lib.hid (show ShLo F.T (nOf N) F.a by have := HFO.out.1.ok; rw [HFO.out.2.2.1] at this; exact this.lo)
                    have HCY := Lib.hid ((HC3.out.mono in4).trans (HC4Y.out.mono sb_sub))
                    have HFIN := Lib.hid (HSW.out.placed HPY.out G2.out.1 HRY.out HSY.out HHY.out HG2.out HLO.out HCY.out HFO.out.2.2.2.2.1 HFO.out.2.2.2.1)
                    clear r0 r1 x0 x1 x2 x3 x4 x5 x6 x7 x8 h20 h21 hnq lrq lxq
                    go_wp2_with fail
                    go_meet
                    exact ⟨_, _, _, _, _, _, _, HFIN.out⟩
        case rest =>
          obtain ⟨K5, T5, x1, x2, A5, g5, c5, HX⟩ := hcut.out
          have HX5 := Lib.hid HX
          clear hcut HX HSW HOB HS
          go_wp2_with fail
          go_loopw [200] (fun s wr => ∃ q : Nat, q ≤ N ∧ s = .int .i64 (q : Int) ∧ Hid (Tl w wr p t bc bk bq sq N (nOf N) K5 T5 x1 x2 A5 g5 c5)) (fun s _ => N - (intOf s).toNat)
          case atStart => exact ⟨0, Nat.zero_le _, rfl, HX5⟩
          case round =>
            obtain ⟨q, hq, rfl, HX⟩ := hrel
            clear HX5
            by_cases hlt : q < N
            · as_aux_lemma =>
              obtain ⟨gn, cn, hv, q1, q2, q3, q4, q5⟩ := HX.out.r.now
              subst hv
              have hqT : q < T5.n := by rw [HX.out.tn]; exact hlt
              have y0 := cell_of_block HX.out.m 0
              simp only [List.getElem?_toArray, List.getElem?_cons_zero] at y0
              have yq := q5 q hqT
              have hgv : getV T5 (q : Int) = (T5.now q : Int) := by
                have : hasB T5 (q : Int) = true := (hasB_iff T5 q).2 (by omega)
                simp [getV, this]
              have HGA := Lib.hid (fun k => by have := get_at (HX.out.pt.drewN k).ht (q : Int); rw [hgv] at this; exact this : ∀ k, Calls Try.prog 24 #[.pointer (some ⟨t, 0, none⟩), .int .i64 (q : Int)] (wr.drewN k) fun e w' => e = .returned (.int .i64 (T5.now q : Int)) ∧ wr.drewN k = w')
              have i0 : (0 : Int) ≤ (q : Int) := by omega
              have i1 : (q : Int) < (T5.n : Int) := by omega
              clear hgv q5
              generalize T5.now q = x at *
              go_upto_region 38 with fail
              go_quiet ((go_at_call 24; exact quiet_left (HGA.out _)))
              go_wp2_with fail
              have HX2 := Lib.hid (HX.out.chgd ((Chg.refl [] wr).drewN nq))
              go_roundw
              case rel => exact ⟨q + 1, by omega, by go_num, HX2⟩
              case measure => simp [intOf]; omega
            · obtain rfl : q = N := by omega
              obtain ⟨wq, rfl⟩ : ∃ wq : World, wq = wr := ⟨_, rfl⟩
              go_wp2_with fail
              go_roundg (m - (j + 1))
              case rel => exact ⟨j + 1, by omega, rfl, by go_num, _, _, _, _, _, _, _, HX⟩
              case measure => have := Hgh.out; omega
      · go_wp2_with fail
        refine (awake10_at _).mono ?_
        rintro e w9 ⟨rfl, hC9⟩
        go_wp2_with fail
        go_ret
        exact ⟨rfl, (HS.out.chg.trans hC9).below (by simp)⟩

end Go.Proofs.Ytnhabpbdpjgiiaa
