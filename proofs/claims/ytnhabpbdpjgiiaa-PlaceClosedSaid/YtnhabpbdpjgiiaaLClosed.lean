/- catchmentlaw10.PlaceClosed: the walk. (Printed by mkclosed.py.) -/
import Derived.Test.YtnhabpbdpjgiiaaPlU
import Derived.Test.YtnhabpbdpjgiiaaAwk10
import Derived.Deep.LoopGhost
namespace Go.Proofs.Ytnhabpbdpjgiiaa
open Go.RowKit
set_option linter.unusedVariables false
set_option linter.unusedSimpArgs false

theorem cell4 {w : World} {b : Nat} {v0 v1 v2 v3 : Value} {T : TypeId} {z : Nat × Nat} (h : w.heap[b]? = some (.cells #[v0, v1, v2, v3] T z)) :
    w.cell? ⟨b, 0, none⟩ = some v0 ∧ w.cell? ⟨b, 1, none⟩ = some v1 ∧ w.cell? ⟨b, 2, none⟩ = some v2 ∧ w.cell? ⟨b, 3, none⟩ = some v3 :=
  ⟨cell_of_block h 0, cell_of_block h 1, cell_of_block h 2, cell_of_block h 3⟩
theorem cell_lt {w : World} {b i : Nat} {v : Value} (h : w.cell? ⟨b, i, none⟩ = some v) : b < w.heap.size := World.block_lt_of_cell? w _ h
theorem nd_new {w : World} {xs p t bc bk : Nat} {K : Pk} {T : Tal} {g c : Nat → Nat} {A : Nat → Nat → Nat} {n : Nat → Nat} {N : Nat} {g2 : Nat → Nat} (H : StO w xs p t bc bk K T g c A n N) (h0 : w.heap.size ≤ g2 0) (h1 : w.heap.size ≤ g2 1) : ∀ b, b ∈ [xs, g2 0, g2 1] → b ∉ [p, t, bc, bk] := by
  have a0 := H.st.pt.hp.lt
  have a1 := H.st.pt.ht.lt0
  have a2 := H.st.pt.ht.lt1
  have a3 := H.st.pt.ht.lt2
  intro b hb
  simp only [List.mem_cons, List.not_mem_nil, or_false] at hb
  rcases hb with rfl | rfl | rfl
  · exact H.st.nd b (by simp)
  · simp; omega
  · simp; omega
theorem none_iff {T : Tal} {q : Nat → Bool} {k m lc : Nat} (h : (∃ i, i < k ∧ q i = true) ↔ ∃ b, b < T.n ∧ T.changed b = true) (hm : m = (yesTo q k).length) (hl : lc = (chgs T).length) : ((m : Int) == 0) = ((lc : Int) == 0) := by
  have e : m = 0 ↔ lc = 0 := by
    rw [hm, hl, List.length_eq_zero_iff, List.length_eq_zero_iff, yesTo_nil, h]
    constructor
    · intro hn
      rw [List.eq_nil_iff_forall_not_mem]
      intro b hb
      exact hn ⟨b, mem_chgs.1 hb⟩
    · rintro hn ⟨b, hb⟩
      have := mem_chgs.2 hb
      rw [hn] at this
      cases this
  have b1 : ((m : Int) == 0) = decide (m = 0) := by rw [Bool.eq_iff_iff]; simp
  have b2 : ((lc : Int) == 0) = decide (lc = 0) := by rw [Bool.eq_iff_iff]; simp
  rw [b1, b2]
  by_cases h0 : m = 0
  · simp [h0, e.1 h0]
  · have : ¬ lc = 0 := fun q => h0 (e.2 q)
    simp [h0, this]
theorem plQ_chg {wc w6 : World} {p t bc bk : Nat} {K : Pk} {T : Tal} {A : Nat → Nat → Nat} {n : Nat → Nat} {N : Nat} {v0 v1 z0 z1 : Value} {ev : Int} (h : PlQ wc w6 p t bc bk K T A n N v0 v1 z0 z1 ev) : Chg [p, t, bc, bk] wc w6 := by
  rcases h with ⟨_, _, _, _, h⟩ | ⟨_, _, _, _, _, _, _, _, h, _⟩
  · exact h.mono (by simp)
  · exact h
theorem pages_small {w : World} {xs p t bc bk : Nat} {K : Pk} {T : Tal} {g c : Nat → Nat} {A : Nat → Nat → Nat} {n : Nat → Nat} {N : Nat} (h : StO w xs p t bc bk K T g c A n N) (hN : 16 ≤ N ∧ N ≤ 400) : n 0 = pg N ∧ 1 ≤ n 0 ∧ n 0 ≤ 7 ∧ 1 ≤ n 1 ∧ n 1 ≤ 7 := by
  have a := h.st.ok.n0
  have b := h.st.ok.n1
  rw [h.n] at a b
  unfold pg at a b
  unfold pg
  omega

set_option maxRecDepth 20000 in
set_option maxHeartbeats 200000000 in
theorem placeClosed_walk (b0 : Int) (a : Option Addr) (len cap : Nat) (z : Nat → Int × Int) (w : World) (h0 : (Lit.int .u16 b0).wf = true) (hr : IsOps w a len cap z) :
    Calls Try.prog 4 #[.int .u16 b0, .slice a len cap] w fun e w' => e = .returned (.bool true) ∧ Below w.heap.size w w' := by
  obtain ⟨b, rfl, hb⟩ : ∃ b : Nat, b0 = (b : Int) ∧ b ≤ 65535 := by
    simp [Lit.wf, IntKind.min, IntKind.max, IntKind.signed, IntKind.bits] at h0
    exact ⟨b0.toNat, by omega, by omega⟩
  obtain ⟨hlc, hcm, hnil, hop⟩ := hr
  have Hop := Lib.hid hop
  have Hnil := Lib.hid hnil
  have hcm' : cap ≤ 9223372036854775807 := by unfold maxLen at hcm; omega
  clear hop hnil hcm h0
  obtain ⟨N, hN⟩ : ∃ N, N = 16 + b % 385 := ⟨_, rfl⟩
  have hNa : 16 ≤ N := by omega
  have hNb : N ≤ 400 := by omega
  have cB := begun_at w hb
  rw [← hN] at cB
  have HBO := Lib.hid (beg_ok hNa)
  have HOW := Lib.hid (beg_own hNa)
  go_enter Try.func4, Try.ntmps4
  go_wp2_with fail
  refine cB.mono ?_
  clear cB hN hb
  rintro e w1 ⟨xs, p, t, bc, bk, g, c, rfl, hst, hC, hnew⟩
  have HR0 : Hid (StO w1 xs p t bc bk (begF N).K (begF N).T.keep g c (begF N).a (begF N).n N ∧ Chg [] w w1) := Lib.hid ⟨{ st := hst, own := HOW.out, f := HBO.out.2.2.2.2, n := HBO.out.2.2.2.1 }, hC⟩
  have HNW := Lib.hid (show ∀ b, b ∈ [xs, p, t, bc, bk] → w.heap.size ≤ b from fun b hb => hnew b (by simp at hb ⊢; rcases hb with h | h | h | h | h <;> simp [h]))
  clear hst hC hnew HBO HOW
  generalize (begF N).K = K0 at HR0
  generalize (begF N).T.keep = T0 at HR0
  generalize (begF N).a = A0 at HR0
  generalize (begF N).n = n at HR0
  have hps := pages_small HR0.out.1 ⟨hNa, hNb⟩
  obtain ⟨hn0, hn01, hn07, hn11, hn17⟩ := hps
  have HN0 := Lib.hid hn0
  have HN4 := Lib.hid (show ∀ i, i ∈ [p, t, bc, bk] → i ∈ ([] : List Nat) ∨ w.heap.size ≤ i from fun i hi => .inr (HNW.out i (by simp at hi ⊢; rcases hi with h | h | h | h <;> simp [h])))
  clear hn0
  go_wp2_with fail
  go_loopg [32] 4 (fun gg s wr => ∃ r : Nat, r ≤ 4 ∧ gg = 4 - r ∧ s = .int .i64 (r : Int) ∧ ∃ K T g c A, Hid (StO wr xs p t bc bk K T g c A n N ∧ Chg [] w wr))
  case atStart => exact ⟨0, by omega, rfl, rfl, _, _, _, _, _, HR0⟩
  case round =>
    obtain ⟨r, hr, hgg, rfl, K1, T1, g1, c1, A1, HR⟩ := hrel
    have Hgg := Lib.hid hgg
    clear hgg HR0
    by_cases hlt : r < 4
    · obtain ⟨wo, rfl⟩ : ∃ wo : World, wo = wr := ⟨_, rfl⟩
      go_upto_region 7 with fail
      go_cut [39, 40, 41] (fun s l i wx => ∃ m : Nat, m ≤ 40 ∧ m ≤ len ∧ s = .slice a m cap ∧ l = .int .i64 (m : Int) ∧ i = .int .i64 0 ∧ wx = wo)
      case first =>
        have h60 : 40 < len ∨ len ≤ 40 := by omega
        rcases h60 with h60 | h60
        · go_wp2_with fail
          go_meet
          exact ⟨40, by omega, by omega, by congr 1; omega, by congr 1; omega, rfl, rfl⟩
        · cases a with
          | none =>
            obtain ⟨rfl, rfl⟩ := Hnil.out rfl
            go_wp2_with fail
            go_meet
            exact ⟨0, by omega, by omega, rfl, rfl, rfl, rfl⟩
          | some a =>
            go_wp2_with fail
            go_meet
            exact ⟨len, by omega, by omega, by congr 1; omega, by congr 1; omega, rfl, rfl⟩
      case rest =>
        obtain ⟨m, hm1, hm2, rfl, rfl, rfl, rfl⟩ := hcut
        go_wp2_with fail
        go_loopg [41] m (fun gg s wr => ∃ j : Nat, j ≤ m ∧ gg = m - j ∧ s = .int .i64 (j : Int) ∧ ∃ K T, Hid (StO wr xs p t bc bk K T g1 c1 A1 n N ∧ Chg [] w wr))
        case atStart => exact ⟨0, Nat.zero_le _, rfl, rfl, _, _, HR⟩
        case round =>
          obtain ⟨j, hj, hgh, rfl, K2, T2, HS⟩ := hrel
          have Hgh := Lib.hid hgh
          clear hgh HR
          by_cases hjm : j < m
          · as_aux_lemma =>
            obtain ⟨ba, off, rfl, hbl', hc0, hc1, hw0, hw1⟩ := Hop.out j (by omega)
            have k0 := (HS.out.2.cell (p := ⟨ba, off + j * 2, none⟩) hbl' (by simp)).trans hc0
            have k1 := (HS.out.2.cell (p := ⟨ba, off + j * 2 + 1, none⟩) hbl' (by simp)).trans hc1
            have hd := bd_u8 hw0
            have hB := bd_i64 hw1
            generalize (z j).1 = d at *
            generalize (z j).2 = B at *
            have HDB := Lib.hid (And.intro hd hB)
            clear hc0 hc1 hw0 hw1 hd hB
            have hW := (Chg.refl [] wr).alloc (.cells #[.int .u8 d, .int .i64 B] 45)
            have HSW := Lib.hid (HS.out.1.chg hW)
            have HCW := Lib.hid (HS.out.2.trans hW)
            have HOB := Lib.hid (new_block wr (.cells #[.int .u8 d, .int .i64 B] 45))
            clear hW
            by_cases hmod : j % 4 = r
            · have hb1 : (((j : Int) % 4) == (r : Int)) = true := by simp; omega
              go_upto_region 10 with fail
              generalize wr.alloc (.cells #[.int .u8 d, .int .i64 B] 45) = wb at *
              have ob := HOB.out
              have o0 := cell_of_block ob 0
              have o1 := cell_of_block ob 1
              simp only [List.getElem?_toArray, List.getElem?_cons_zero, List.getElem?_cons_succ] at o0 o1
              clear ob k0 k1 hmod
              go_wp2_with fail
              refine (done10_at HSW.out ⟨hNa, hNb⟩ HDB.out.1 HDB.out.2).mono ?_
              rintro e w3 ⟨K3, T3, rfl, hS3, hC3⟩
              have HS3 := Lib.hid (And.intro hS3 (HCW.out.then hC3 HN4.out))
              clear hS3 hC3 o0 o1
              go_wp2_with fail
              go_roundg (m - (j + 1))
              case rel => exact ⟨j + 1, by omega, rfl, by go_num, K3, T3, HS3⟩
              case measure => have := Hgh.out; omega
            · have hb1 : (((j : Int) % 4) == (r : Int)) = false := by simp; omega
              go_upto_region 10 with fail
              generalize wr.alloc (.cells #[.int .u8 d, .int .i64 B] 45) = wb at *
              clear k0 k1 hmod
              go_wp2_with fail
              go_roundg (m - (j + 1))
              case rel => exact ⟨j + 1, by omega, rfl, by go_num, K2, T2, Lib.hid ⟨HSW.out, HCW.out⟩⟩
              case measure => have := Hgh.out; omega
          · obtain rfl : j = m := by omega
            obtain ⟨wa, rfl⟩ : ∃ wa : World, wa = wr := ⟨_, rfl⟩
            have top := HS.out.1.st.top
            have x0 := cell_of_block top 0
            have x1 := cell_of_block top 1
            have x2 := cell_of_block top 2
            have x3 := cell_of_block top 3
            simp only [List.getElem?_toArray, List.getElem?_cons_zero, List.getElem?_cons_succ] at x0 x1 x2 x3
            clear top
            have cC := changed_sl HS.out.1.st.pt.ht
            go_wp2_with fail
            refine cC.mono ?_
            clear cC
            rintro e w2 ⟨vc, rfl, hvc, _, hCc⟩
            obtain ⟨ac, cc, rfl, _⟩ := hvc.form
            have HS2 := Lib.hid (And.intro (HS.out.1.chg hCc) (HS.out.2.trans hCc))
            have x0 := (hCc.cell (p := ⟨xs, 0, none⟩) (heap_lt HS.out.1.st.top) (by simp)).trans x0
            have x1 := (hCc.cell (p := ⟨xs, 1, none⟩) (heap_lt HS.out.1.st.top) (by simp)).trans x1
            have x2 := (hCc.cell (p := ⟨xs, 2, none⟩) (heap_lt HS.out.1.st.top) (by simp)).trans x2
            have x3 := (hCc.cell (p := ⟨xs, 3, none⟩) (heap_lt HS.out.1.st.top) (by simp)).trans x3
            clear hvc hCc
            obtain ⟨lc, hlc⟩ : ∃ lc, lc = (chgs T2).length := ⟨_, rfl⟩
            rw [← hlc]
            have HLC := Lib.hid hlc
            clear hlc
            go_upto_region 14 with fail
            go_cut [11, 12, 13, 14] (fun s11 s12 s13 s14 wz => ∃ (sb : Nat) (a0 a1 a2 a3 : Option Addr) (m0 m1 m2 m3 c0 c1 c2 c3 : Nat) (ev : Int), s11 = .pointer (some ⟨sb, 0, none⟩) ∧ s12 = .slice a2 m2 c2 ∧ s13 = .slice a3 m3 c3 ∧ s14 = .int .i64 ev ∧
              Hid (PlEnd w2 wz p t bc bk K2 T2 A1 n N sb (.slice a0 m0 c0) (.slice a1 m1 c1) (.slice a2 m2 c2) (.slice a3 m3 c3) ev))
            case first =>
              as_aux_lemma =>
              have HC0 := Lib.hid ((Chg.refl [] w2).drew)
              have HPL := Lib.hid (fun (W : World) (C : Chg [] w2 W) => place_any HS2.out.1 C)
              have lx := heap_lt (HS2.out.1).st.top
              refine wp_region_held_drew (S := fun W' => W'.cell? ⟨xs, 0, none⟩ = some (.pointer (some ⟨t, 0, none⟩)) ∧ W'.cell? ⟨xs, 1, none⟩ = some (.pointer (some ⟨p, 0, none⟩)) ∧ W'.cell? ⟨xs, 2, none⟩ = some (.slice (some ⟨g1 0, 0, none⟩) (n 0) (c1 0)) ∧ W'.cell? ⟨xs, 3, none⟩ = some (.slice (some ⟨g1 1, 0, none⟩) (n 1) (c1 1))) (by kernel_rfl) (by exact ⟨x0, x1, x2, x3⟩) (fun hHeld => ?_)
              refine wpAnyH_take (i := 0) (oi := ?_) (v := ?_) ?_ (by kernel_rfl) (by kernel_rfl) (by kernel_rfl) ?_ (Or.inl ⟨?_, ?_⟩) hHeld ?_
              rotate_left 2
              · (simp only [List.getElem?_toArray, List.getElem?_cons_succ, List.getElem?_cons_zero]; rfl)
              · exact fun _ _ _ h => h
              · rfl
              · (rintro W' ⟨s0, s1, s2, s3⟩; go_simp; first | done | with_reducible rfl)
              try simp only [Act.put, List.setIfInBounds_toArray, List.set_cons_zero, List.set_cons_succ]
              refine wpAnyH_take (i := 1) (oi := ?_) (v := ?_) ?_ (by kernel_rfl) (by kernel_rfl) (by kernel_rfl) ?_ (Or.inl ⟨?_, ?_⟩) hHeld ?_
              rotate_left 2
              · (simp only [List.getElem?_toArray, List.getElem?_cons_succ, List.getElem?_cons_zero]; rfl)
              · exact fun _ _ _ h => h
              · rfl
              · (rintro W' ⟨s0, s1, s2, s3⟩; go_simp; first | done | with_reducible rfl)
              try simp only [Act.put, List.setIfInBounds_toArray, List.set_cons_zero, List.set_cons_succ]
              refine wpAnyH_take (i := 2) (oi := ?_) (v := ?_) ?_ (by kernel_rfl) (by kernel_rfl) (by kernel_rfl) ?_ (Or.inl ⟨?_, ?_⟩) hHeld ?_
              rotate_left 2
              · (simp only [List.getElem?_toArray, List.getElem?_cons_succ, List.getElem?_cons_zero]; rfl)
              · exact fun _ _ _ h => h
              · rfl
              · (rintro W' ⟨s0, s1, s2, s3⟩; go_simp; first | done | with_reducible rfl)
              try simp only [Act.put, List.setIfInBounds_toArray, List.set_cons_zero, List.set_cons_succ]
              refine wpAnyH_take (i := 3) (oi := ?_) (v := ?_) ?_ (by kernel_rfl) (by kernel_rfl) (by kernel_rfl) ?_ (Or.inl ⟨?_, ?_⟩) hHeld ?_
              rotate_left 2
              · (simp only [List.getElem?_toArray, List.getElem?_cons_succ, List.getElem?_cons_zero]; rfl)
              · exact fun _ _ _ h => h
              · rfl
              · (rintro W' ⟨s0, s1, s2, s3⟩; go_simp; first | done | with_reducible rfl)
              try simp only [Act.put, List.setIfInBounds_toArray, List.set_cons_zero, List.set_cons_succ]
              refine wpAnyH_take (i := 4) (oi := ?_) (v := ?_) ?_ (by kernel_rfl) (by kernel_rfl) (by kernel_rfl) ?_ (Or.inl ⟨?_, ?_⟩) hHeld ?_
              rotate_left 2
              · (simp only [List.getElem?_toArray, List.getElem?_cons_succ, List.getElem?_cons_zero]; rfl)
              · exact fun _ _ _ h => h
              · rfl
              · (rintro W' ⟨s0, s1, s2, s3⟩; go_simp; first | done | with_reducible rfl)
              try simp only [Act.put, List.setIfInBounds_toArray, List.set_cons_zero, List.set_cons_succ]
              refine wpAnyH_take (i := 5) (oi := ?_) (v := ?_) ?_ (by kernel_rfl) (by kernel_rfl) (by kernel_rfl) ?_ (Or.inl ⟨?_, ?_⟩) hHeld ?_
              rotate_left 2
              · (simp only [List.getElem?_toArray, List.getElem?_cons_succ, List.getElem?_cons_zero]; rfl)
              · exact fun _ _ _ h => h
              · rfl
              · (rintro W' ⟨s0, s1, s2, s3⟩; go_simp; first | done | with_reducible rfl)
              try simp only [Act.put, List.setIfInBounds_toArray, List.set_cons_zero, List.set_cons_succ]
              refine wpAnyH_take (i := 6) (oi := ?_) (v := ?_) ?_ (by kernel_rfl) (by kernel_rfl) (by kernel_rfl) ?_ (Or.inl ⟨?_, ?_⟩) hHeld ?_
              rotate_left 2
              · (simp only [List.getElem?_toArray, List.getElem?_cons_succ, List.getElem?_cons_zero]; rfl)
              · exact fun _ _ _ h => h
              · rfl
              · (rintro W' ⟨s0, s1, s2, s3⟩; go_simp; first | done | with_reducible rfl)
              try simp only [Act.put, List.setIfInBounds_toArray, List.set_cons_zero, List.set_cons_succ]
              refine wpAnyH_take (i := 7) (oi := ?_) (v := ?_) ?_ (by kernel_rfl) (by kernel_rfl) (by kernel_rfl) ?_ (Or.inl ⟨?_, ?_⟩) hHeld ?_
              rotate_left 2
              · (simp only [List.getElem?_toArray, List.getElem?_cons_succ, List.getElem?_cons_zero]; rfl)
              · exact fun _ _ _ h => h
              · rfl
              · (rintro W' ⟨s0, s1, s2, s3⟩; go_simp; first | done | with_reducible rfl)
              try simp only [Act.put, List.setIfInBounds_toArray, List.set_cons_zero, List.set_cons_succ]
              refine wpAnyH_take (i := 8) (oi := ?_) (v := ?_) ?_ (by kernel_rfl) (by kernel_rfl) (by kernel_rfl) ?_ (Or.inl ⟨?_, ?_⟩) hHeld ?_
              rotate_left 2
              · (simp only [List.getElem?_toArray, List.getElem?_cons_succ, List.getElem?_cons_zero]; rfl)
              · exact fun _ _ _ h => h
              · rfl
              · (rintro W' ⟨s0, s1, s2, s3⟩; go_simp; first | done | with_reducible rfl)
              try simp only [Act.put, List.setIfInBounds_toArray, List.set_cons_zero, List.set_cons_succ]
              refine wpAnyH_take (i := 9) (oi := ?_) (v := ?_) ?_ (by kernel_rfl) (by kernel_rfl) (by kernel_rfl) ?_ (Or.inl ⟨?_, ?_⟩) hHeld ?_
              rotate_left 2
              · (simp only [List.getElem?_toArray, List.getElem?_cons_succ, List.getElem?_cons_zero]; rfl)
              · exact fun _ _ _ h => h
              · rfl
              · (rintro W' ⟨s0, s1, s2, s3⟩; go_simp; first | done | with_reducible rfl)
              try simp only [Act.put, List.setIfInBounds_toArray, List.set_cons_zero, List.set_cons_succ]
              refine wpAnyH_take (i := 10) (oi := ?_) (v := ?_) ?_ (by kernel_rfl) (by kernel_rfl) (by kernel_rfl) ?_ (Or.inl ⟨?_, ?_⟩) hHeld ?_
              rotate_left 2
              · (simp only [List.getElem?_toArray, List.getElem?_cons_succ, List.getElem?_cons_zero]; rfl)
              · exact fun _ _ _ h => h
              · rfl
              · (rintro W' ⟨s0, s1, s2, s3⟩; go_simp; first | done | with_reducible rfl)
              try simp only [Act.put, List.setIfInBounds_toArray, List.set_cons_zero, List.set_cons_succ]
              refine wpAnyH_take (i := 11) (oi := ?_) (v := ?_) ?_ (by kernel_rfl) (by kernel_rfl) (by kernel_rfl) ?_ (Or.inl ⟨?_, ?_⟩) hHeld ?_
              rotate_left 2
              · (simp only [List.getElem?_toArray, List.getElem?_cons_succ, List.getElem?_cons_zero]; rfl)
              · exact fun _ _ _ h => h
              · rfl
              · (rintro W' ⟨s0, s1, s2, s3⟩; go_simp; first | done | with_reducible rfl)
              try simp only [Act.put, List.setIfInBounds_toArray, List.set_cons_zero, List.set_cons_succ]
              generalize w2.drew = w4 at *
              refine wpAnyH_ready (rs := [12, 18]) (by kernel_rfl) (by simp) ?_
              refine AllReadyH.cons (o := ?_) ?_ (fun K hK => ?_) ?_
              rotate_left 1
              · (simp only [List.getElem?_toArray, List.getElem?_cons_succ, List.getElem?_cons_zero]; rfl)
              · (go_simp; refine (HPL.out w4 HC0.out).mono ?_; rintro e w6 ⟨q0, q1, q2, q3, n0, n1, n2, n3, k0, k1, k2, k3, ev, rfl, hq⟩; have HD := Lib.hid (plQ_chg hq.out); have FT := Lib.hid ((HD.out.block _ (heap_lt ((HC0.out.block _ lx (by simp)).trans (HS2.out.1).st.top)) ((HS2.out.1).st.nd xs (by simp))).trans ((HC0.out.block _ lx (by simp)).trans (HS2.out.1).st.top)); have HQ := Lib.hid hq.out; clear hq)
                refine hK.out _ _ ?_ (fun hHeld => ?_)
                · (have hh := cell4 FT.out; exact hh)
                clear hK K
                try simp only [Act.put, List.setIfInBounds_toArray, List.set_cons_zero, List.set_cons_succ]
                have HT6 := Lib.hid FT.out
                refine wpAnyH_take (i := 13) (oi := ?_) (v := ?_) ?_ (by kernel_rfl) (by kernel_rfl) (by kernel_rfl) ?_ (Or.inl ⟨?_, ?_⟩) hHeld ?_
                rotate_left 2
                · (simp only [List.getElem?_toArray, List.getElem?_cons_succ, List.getElem?_cons_zero]; rfl)
                · exact fun _ _ _ h => h
                · rfl
                · (rintro W' ⟨s0, s1, s2, s3⟩; go_simp; first | done | with_reducible rfl)
                try simp only [Act.put, List.setIfInBounds_toArray, List.set_cons_zero, List.set_cons_succ]
                refine wpAnyH_take (i := 14) (oi := ?_) (v := ?_) ?_ (by kernel_rfl) (by kernel_rfl) (by kernel_rfl) ?_ (Or.inl ⟨?_, ?_⟩) hHeld ?_
                rotate_left 2
                · (simp only [List.getElem?_toArray, List.getElem?_cons_succ, List.getElem?_cons_zero]; rfl)
                · exact fun _ _ _ h => h
                · rfl
                · (rintro W' ⟨s0, s1, s2, s3⟩; go_simp; first | done | with_reducible rfl)
                try simp only [Act.put, List.setIfInBounds_toArray, List.set_cons_zero, List.set_cons_succ]
                refine wpAnyH_take (i := 15) (oi := ?_) (v := ?_) ?_ (by kernel_rfl) (by kernel_rfl) (by kernel_rfl) ?_ (Or.inl ⟨?_, ?_⟩) hHeld ?_
                rotate_left 2
                · (simp only [List.getElem?_toArray, List.getElem?_cons_succ, List.getElem?_cons_zero]; rfl)
                · exact fun _ _ _ h => h
                · rfl
                · (rintro W' ⟨s0, s1, s2, s3⟩; go_simp; first | done | with_reducible rfl)
                try simp only [Act.put, List.setIfInBounds_toArray, List.set_cons_zero, List.set_cons_succ]
                refine wpAnyH_take (i := 16) (oi := ?_) (v := ?_) ?_ (by kernel_rfl) (by kernel_rfl) (by kernel_rfl) ?_ (Or.inl ⟨?_, ?_⟩) hHeld ?_
                rotate_left 2
                · (simp only [List.getElem?_toArray, List.getElem?_cons_succ, List.getElem?_cons_zero]; rfl)
                · exact fun _ _ _ h => h
                · rfl
                · (rintro W' ⟨s0, s1, s2, s3⟩; go_simp; first | done | with_reducible rfl)
                try simp only [Act.put, List.setIfInBounds_toArray, List.set_cons_zero, List.set_cons_succ]
                refine wpAnyH_take (i := 17) (oi := ?_) (v := ?_) ?_ (by kernel_rfl) (by kernel_rfl) (by kernel_rfl) ?_ (Or.inl ⟨?_, ?_⟩) hHeld ?_
                rotate_left 2
                · (simp only [List.getElem?_toArray, List.getElem?_cons_succ, List.getElem?_cons_zero]; rfl)
                · exact fun _ _ _ h => h
                · rfl
                · (rintro W' ⟨s0, s1, s2, s3⟩; go_simp; first | done | with_reducible rfl)
                try simp only [Act.put, List.setIfInBounds_toArray, List.set_cons_zero, List.set_cons_succ]
                refine wpAnyH_ready (rs := [18]) (by kernel_rfl) (by simp) ?_
                refine AllReadyH.cons (o := ?_) ?_ (fun K hK => ?_) AllReadyH.nil
                rotate_left 1
                · (simp only [List.getElem?_toArray, List.getElem?_cons_succ, List.getElem?_cons_zero]; rfl)
                · (go_simp; have FA := Lib.hid (new_block w6 (.cells #[.slice none 0 0, .slice none 0 0] 42)); have CA := Lib.hid ((Chg.refl [] w6).alloc (.cells #[.slice none 0 0, .slice none 0 0] 42)); have FT := Lib.hid ((CA.out.block _ (heap_lt FT.out) (by simp)).trans FT.out); have HXR : Hid (xs ∉ [w6.heap.size]) := Lib.hid (by have := heap_lt HT6.out; simp; omega); generalize w6.alloc _ = w7 at *)
                  refine hK.out _ _ ?_ (fun hHeld => ?_)
                  · (have hh := cell4 FT.out; exact hh)
                  clear hK K
                  try simp only [Act.put, List.setIfInBounds_toArray, List.set_cons_zero, List.set_cons_succ]
                  refine wpAnyH_ready (rs := [19]) (by kernel_rfl) (by simp) ?_
                  refine AllReadyH.cons (o := ?_) ?_ (fun K hK => ?_) AllReadyH.nil
                  rotate_left 1
                  · (simp only [List.getElem?_toArray, List.getElem?_cons_succ, List.getElem?_cons_zero]; rfl)
                  · (have za := cell_of_block FA.out 0; have zb := cell_of_block FA.out 1; have f4 := frozen_of_block FA.out 0; have f5 := frozen_of_block FA.out 1; simp only [List.getElem?_toArray, List.getElem?_cons_zero, List.getElem?_cons_succ] at za zb; have GB := Lib.hid (setCell_block (setCell_block FA.out 0 (.slice q0 n0 k0)) 1 (.slice q1 n1 k1)); have CR : Hid (Chg [w6.heap.size] w7 ((w7.setCell ⟨w6.heap.size, 0, none⟩ (.slice q0 n0 k0)).setCell ⟨w6.heap.size, 1, none⟩ (.slice q1 n1 k1))) := Lib.hid (((Chg.refl _ _).setCell (.inl (by simp)) _).setCell (.inl (by simp)) _); have GT := Lib.hid ((CR.out.block _ (heap_lt FT.out) HXR.out).trans FT.out); go_simp)
                    refine hK.out _ _ ?_ (fun hHeld => ?_)
                    · (have hh := cell4 GT.out; exact hh)
                    clear hK K
                    try simp only [Act.put, List.setIfInBounds_toArray, List.set_cons_zero, List.set_cons_succ]
                    refine wpAnyH_take (i := 20) (oi := ?_) (v := ?_) ?_ (by kernel_rfl) (by kernel_rfl) (by kernel_rfl) ?_ (Or.inl ⟨?_, ?_⟩) hHeld ?_
                    rotate_left 2
                    · (simp only [List.getElem?_toArray, List.getElem?_cons_succ, List.getElem?_cons_zero]; rfl)
                    · exact fun _ _ _ h => h
                    · rfl
                    · (rintro W' ⟨s0, s1, s2, s3⟩; go_simp; first | done | with_reducible rfl)
                    try simp only [Act.put, List.setIfInBounds_toArray, List.set_cons_zero, List.set_cons_succ]
                    refine wpAnyH_take (i := 21) (oi := ?_) (v := ?_) ?_ (by kernel_rfl) (by kernel_rfl) (by kernel_rfl) ?_ (Or.inl ⟨?_, ?_⟩) hHeld ?_
                    rotate_left 2
                    · (simp only [List.getElem?_toArray, List.getElem?_cons_succ, List.getElem?_cons_zero]; rfl)
                    · exact fun _ _ _ h => h
                    · rfl
                    · (rintro W' ⟨s0, s1, s2, s3⟩; go_simp; first | done | with_reducible rfl)
                    try simp only [Act.put, List.setIfInBounds_toArray, List.set_cons_zero, List.set_cons_succ]
                    refine wpAnyH_take (i := 22) (oi := ?_) (v := ?_) ?_ (by kernel_rfl) (by kernel_rfl) (by kernel_rfl) ?_ (Or.inl ⟨?_, ?_⟩) hHeld ?_
                    rotate_left 2
                    · (simp only [List.getElem?_toArray, List.getElem?_cons_succ, List.getElem?_cons_zero]; rfl)
                    · exact fun _ _ _ h => h
                    · rfl
                    · (rintro W' ⟨s0, s1, s2, s3⟩; go_simp; first | done | with_reducible rfl)
                    try simp only [Act.put, List.setIfInBounds_toArray, List.set_cons_zero, List.set_cons_succ]
                    refine wpAnyH_done (by kernel_rfl) ?_ _
                    go_wp2_with fail
                    go_meet
                    exact ⟨_, q0, q1, q2, q3, n0, n1, n2, n3, k0, k1, k2, k3, ev, rfl, rfl, rfl, rfl, Lib.hid (plEnd_mk HS2.out.1 HC0.out HQ.out ((CA.out.mono (by simp)).trans CR.out) (Nat.le_trans HC0.out.size HD.out.size) (.inr (Nat.le_refl _)) GB.out)⟩
              refine AllReadyH.cons (o := ?_) ?_ (fun K hK => ?_) AllReadyH.nil
              rotate_left 1
              · (simp only [List.getElem?_toArray, List.getElem?_cons_succ, List.getElem?_cons_zero]; rfl)
              · (go_simp; have FA := Lib.hid (new_block w4 (.cells #[.slice none 0 0, .slice none 0 0] 42)); have HXR : Hid (xs ∉ [w4.heap.size]) := Lib.hid (by have := HC0.out.size; simp; omega); have HC5 := Lib.hid (HC0.out.alloc (.cells #[.slice none 0 0, .slice none 0 0] 42)); have SZ := Lib.hid (show w4.heap.size < (w4.alloc (.cells #[.slice none 0 0, .slice none 0 0] 42)).heap.size by simp); generalize w4.alloc _ = w5 at *)
                refine hK.out _ _ ?_ (fun hHeld => ?_)
                · (have hh := cell4 ((HC5.out.block _ lx (by simp)).trans (HS2.out.1).st.top); exact hh)
                clear hK K
                try simp only [Act.put, List.setIfInBounds_toArray, List.set_cons_zero, List.set_cons_succ]
                refine wpAnyH_ready (rs := [12]) (by kernel_rfl) (by simp) ?_
                refine AllReadyH.cons (o := ?_) ?_ (fun K hK => ?_) AllReadyH.nil
                rotate_left 1
                · (simp only [List.getElem?_toArray, List.getElem?_cons_succ, List.getElem?_cons_zero]; rfl)
                · (go_simp; refine (HPL.out w5 HC5.out).mono ?_; rintro e w6 ⟨q0, q1, q2, q3, n0, n1, n2, n3, k0, k1, k2, k3, ev, rfl, hq⟩; have HD := Lib.hid (plQ_chg hq.out); have FT := Lib.hid ((HD.out.block _ (heap_lt ((HC5.out.block _ lx (by simp)).trans (HS2.out.1).st.top)) ((HS2.out.1).st.nd xs (by simp))).trans ((HC5.out.block _ lx (by simp)).trans (HS2.out.1).st.top)); have HQ := Lib.hid hq.out; have FA := Lib.hid ((HD.out.block _ (heap_lt FA.out) (by have a0 := (HS2.out.1).st.pt.hp.lt; have a1 := (HS2.out.1).st.pt.ht.lt0; have a2 := (HS2.out.1).st.pt.ht.lt1; have a3 := (HS2.out.1).st.pt.ht.lt2; have := HC0.out.size; simp; omega)).trans FA.out); clear hq)
                  refine hK.out _ _ ?_ (fun hHeld => ?_)
                  · (have hh := cell4 FT.out; exact hh)
                  clear hK K
                  try simp only [Act.put, List.setIfInBounds_toArray, List.set_cons_zero, List.set_cons_succ]
                  refine wpAnyH_take (i := 13) (oi := ?_) (v := ?_) ?_ (by kernel_rfl) (by kernel_rfl) (by kernel_rfl) ?_ (Or.inl ⟨?_, ?_⟩) hHeld ?_
                  rotate_left 2
                  · (simp only [List.getElem?_toArray, List.getElem?_cons_succ, List.getElem?_cons_zero]; rfl)
                  · exact fun _ _ _ h => h
                  · rfl
                  · (rintro W' ⟨s0, s1, s2, s3⟩; go_simp; first | done | with_reducible rfl)
                  try simp only [Act.put, List.setIfInBounds_toArray, List.set_cons_zero, List.set_cons_succ]
                  refine wpAnyH_take (i := 14) (oi := ?_) (v := ?_) ?_ (by kernel_rfl) (by kernel_rfl) (by kernel_rfl) ?_ (Or.inl ⟨?_, ?_⟩) hHeld ?_
                  rotate_left 2
                  · (simp only [List.getElem?_toArray, List.getElem?_cons_succ, List.getElem?_cons_zero]; rfl)
                  · exact fun _ _ _ h => h
                  · rfl
                  · (rintro W' ⟨s0, s1, s2, s3⟩; go_simp; first | done | with_reducible rfl)
                  try simp only [Act.put, List.setIfInBounds_toArray, List.set_cons_zero, List.set_cons_succ]
                  refine wpAnyH_take (i := 15) (oi := ?_) (v := ?_) ?_ (by kernel_rfl) (by kernel_rfl) (by kernel_rfl) ?_ (Or.inl ⟨?_, ?_⟩) hHeld ?_
                  rotate_left 2
                  · (simp only [List.getElem?_toArray, List.getElem?_cons_succ, List.getElem?_cons_zero]; rfl)
                  · exact fun _ _ _ h => h
                  · rfl
                  · (rintro W' ⟨s0, s1, s2, s3⟩; go_simp; first | done | with_reducible rfl)
                  try simp only [Act.put, List.setIfInBounds_toArray, List.set_cons_zero, List.set_cons_succ]
                  refine wpAnyH_take (i := 16) (oi := ?_) (v := ?_) ?_ (by kernel_rfl) (by kernel_rfl) (by kernel_rfl) ?_ (Or.inl ⟨?_, ?_⟩) hHeld ?_
                  rotate_left 2
                  · (simp only [List.getElem?_toArray, List.getElem?_cons_succ, List.getElem?_cons_zero]; rfl)
                  · exact fun _ _ _ h => h
                  · rfl
                  · (rintro W' ⟨s0, s1, s2, s3⟩; go_simp; first | done | with_reducible rfl)
                  try simp only [Act.put, List.setIfInBounds_toArray, List.set_cons_zero, List.set_cons_succ]
                  refine wpAnyH_take (i := 17) (oi := ?_) (v := ?_) ?_ (by kernel_rfl) (by kernel_rfl) (by kernel_rfl) ?_ (Or.inl ⟨?_, ?_⟩) hHeld ?_
                  rotate_left 2
                  · (simp only [List.getElem?_toArray, List.getElem?_cons_succ, List.getElem?_cons_zero]; rfl)
                  · exact fun _ _ _ h => h
                  · rfl
                  · (rintro W' ⟨s0, s1, s2, s3⟩; go_simp; first | done | with_reducible rfl)
                  try simp only [Act.put, List.setIfInBounds_toArray, List.set_cons_zero, List.set_cons_succ]
                  refine wpAnyH_ready (rs := [19]) (by kernel_rfl) (by simp) ?_
                  refine AllReadyH.cons (o := ?_) ?_ (fun K hK => ?_) AllReadyH.nil
                  rotate_left 1
                  · (simp only [List.getElem?_toArray, List.getElem?_cons_succ, List.getElem?_cons_zero]; rfl)
                  · (have za := cell_of_block FA.out 0; have zb := cell_of_block FA.out 1; have f4 := frozen_of_block FA.out 0; have f5 := frozen_of_block FA.out 1; simp only [List.getElem?_toArray, List.getElem?_cons_zero, List.getElem?_cons_succ] at za zb; have GB := Lib.hid (setCell_block (setCell_block FA.out 0 (.slice q0 n0 k0)) 1 (.slice q1 n1 k1)); have CR : Hid (Chg [w4.heap.size] w6 ((w6.setCell ⟨w4.heap.size, 0, none⟩ (.slice q0 n0 k0)).setCell ⟨w4.heap.size, 1, none⟩ (.slice q1 n1 k1))) := Lib.hid (((Chg.refl _ _).setCell (.inl (by simp)) _).setCell (.inl (by simp)) _); have GT := Lib.hid ((CR.out.block _ (heap_lt FT.out) HXR.out).trans FT.out); go_simp)
                    refine hK.out _ _ ?_ (fun hHeld => ?_)
                    · (have hh := cell4 GT.out; exact hh)
                    clear hK K
                    try simp only [Act.put, List.setIfInBounds_toArray, List.set_cons_zero, List.set_cons_succ]
                    refine wpAnyH_take (i := 20) (oi := ?_) (v := ?_) ?_ (by kernel_rfl) (by kernel_rfl) (by kernel_rfl) ?_ (Or.inl ⟨?_, ?_⟩) hHeld ?_
                    rotate_left 2
                    · (simp only [List.getElem?_toArray, List.getElem?_cons_succ, List.getElem?_cons_zero]; rfl)
                    · exact fun _ _ _ h => h
                    · rfl
                    · (rintro W' ⟨s0, s1, s2, s3⟩; go_simp; first | done | with_reducible rfl)
                    try simp only [Act.put, List.setIfInBounds_toArray, List.set_cons_zero, List.set_cons_succ]
                    refine wpAnyH_take (i := 21) (oi := ?_) (v := ?_) ?_ (by kernel_rfl) (by kernel_rfl) (by kernel_rfl) ?_ (Or.inl ⟨?_, ?_⟩) hHeld ?_
                    rotate_left 2
                    · (simp only [List.getElem?_toArray, List.getElem?_cons_succ, List.getElem?_cons_zero]; rfl)
                    · exact fun _ _ _ h => h
                    · rfl
                    · (rintro W' ⟨s0, s1, s2, s3⟩; go_simp; first | done | with_reducible rfl)
                    try simp only [Act.put, List.setIfInBounds_toArray, List.set_cons_zero, List.set_cons_succ]
                    refine wpAnyH_take (i := 22) (oi := ?_) (v := ?_) ?_ (by kernel_rfl) (by kernel_rfl) (by kernel_rfl) ?_ (Or.inl ⟨?_, ?_⟩) hHeld ?_
                    rotate_left 2
                    · (simp only [List.getElem?_toArray, List.getElem?_cons_succ, List.getElem?_cons_zero]; rfl)
                    · exact fun _ _ _ h => h
                    · rfl
                    · (rintro W' ⟨s0, s1, s2, s3⟩; go_simp; first | done | with_reducible rfl)
                    try simp only [Act.put, List.setIfInBounds_toArray, List.set_cons_zero, List.set_cons_succ]
                    refine wpAnyH_done (by kernel_rfl) ?_ _
                    go_wp2_with fail
                    go_meet
                    exact ⟨_, q0, q1, q2, q3, n0, n1, n2, n3, k0, k1, k2, k3, ev, rfl, rfl, rfl, rfl, Lib.hid (plEnd_mk HS2.out.1 HC5.out HQ.out CR.out HC0.out.size (.inl SZ.out) GB.out)⟩

            case rest =>
              obtain ⟨sb, a0, a1, a2, a3, m0, m1, m2, m3, c0, c1', c2, c3, ev, rfl, rfl, rfl, rfl, HE⟩ := hcut
              clear x0 x1 x2 x3
              have hq := HE.out.q
              rcases hq with ⟨hfull, rfl, _, _, hCE⟩ | ⟨hroom, rfl, g2, cc2, hsv, hz0, hz1, hpt, hCE, hg2, hzb0, hzb1⟩
              · as_aux_lemma =>
                have HSF := Lib.hid (HS2.out.1.chg hCE)
                have HCF := Lib.hid (HS2.out.2.trans hCE)
                have top := HSF.out.st.top
                have x0 := cell_of_block top 0
                have x1 := cell_of_block top 1
                simp only [List.getElem?_toArray, List.getElem?_cons_zero, List.getElem?_cons_succ] at x0 x1
                clear top hCE
                go_upto_region 16 with fail
                have HP4 := Lib.hid (HSF.out.st.pt.drew)
                have HC4 := Lib.hid (HCF.out.drew)
                have y0 : wc.drew.cell? ⟨xs, 0, none⟩ = _ := x0
                have y1 : wc.drew.cell? ⟨xs, 1, none⟩ = _ := x1
                have cR := PT.room HP4.out
                rw [HSF.out.f] at cR
                have cB := blocks_at HP4.out.ht
                rw [HSF.out.n] at cB
                have cN := need_at (n := N) wc.drew (by omega) (by omega)
                have cA := awake10_at wc.drew
                have HcR := Lib.hid cR
                have HcB := Lib.hid cB
                have HcN := Lib.hid cN
                have HcA := Lib.hid cA
                clear cR cB cN cA
                refine wp_region_held_drew (S := fun W' => W'.cell? ⟨xs, 0, none⟩ = some (.pointer (some ⟨t, 0, none⟩)) ∧ W'.cell? ⟨xs, 1, none⟩ = some (.pointer (some ⟨p, 0, none⟩))) (by kernel_rfl) (by exact ⟨x0, x1⟩) (fun hHeld => ?_)
                refine wpAnyH_take (i := 0) (oi := ?_) (v := ?_) ?_ (by kernel_rfl) (by kernel_rfl) (by kernel_rfl) ?_ (Or.inl ⟨?_, ?_⟩) hHeld ?_
                rotate_left 2
                · (simp only [List.getElem?_toArray, List.getElem?_cons_succ, List.getElem?_cons_zero]; rfl)
                · exact fun _ _ _ h => h
                · rfl
                · (rintro W' ⟨s0, s1⟩; go_simp; first | done | with_reducible rfl)
                try simp only [Act.put, List.setIfInBounds_toArray, List.set_cons_zero, List.set_cons_succ]
                refine wpAnyH_take (i := 1) (oi := ?_) (v := ?_) ?_ (by kernel_rfl) (by kernel_rfl) (by kernel_rfl) ?_ (Or.inl ⟨?_, ?_⟩) hHeld ?_
                rotate_left 2
                · (simp only [List.getElem?_toArray, List.getElem?_cons_succ, List.getElem?_cons_zero]; rfl)
                · exact fun _ _ _ h => h
                · rfl
                · (rintro W' ⟨s0, s1⟩; go_simp; first | done | with_reducible rfl)
                try simp only [Act.put, List.setIfInBounds_toArray, List.set_cons_zero, List.set_cons_succ]
                refine wpAnyH_take (i := 2) (oi := ?_) (v := ?_) ?_ (by kernel_rfl) (by kernel_rfl) (by kernel_rfl) ?_ (Or.inl ⟨?_, ?_⟩) hHeld ?_
                rotate_left 2
                · (simp only [List.getElem?_toArray, List.getElem?_cons_succ, List.getElem?_cons_zero]; rfl)
                · exact fun _ _ _ h => h
                · rfl
                · (rintro W' ⟨s0, s1⟩; go_simp; first | done | with_reducible rfl)
                try simp only [Act.put, List.setIfInBounds_toArray, List.set_cons_zero, List.set_cons_succ]
                refine wpAnyH_take (i := 3) (oi := ?_) (v := ?_) ?_ (by kernel_rfl) (by kernel_rfl) (by kernel_rfl) ?_ (Or.inl ⟨?_, ?_⟩) hHeld ?_
                rotate_left 2
                · (simp only [List.getElem?_toArray, List.getElem?_cons_succ, List.getElem?_cons_zero]; rfl)
                · exact fun _ _ _ h => h
                · rfl
                · (rintro W' ⟨s0, s1⟩; go_simp; first | done | with_reducible rfl)
                try simp only [Act.put, List.setIfInBounds_toArray, List.set_cons_zero, List.set_cons_succ]
                refine wpAnyH_take (i := 5) (oi := ?_) (v := ?_) ?_ (by kernel_rfl) (by kernel_rfl) (by kernel_rfl) ?_ (Or.inl ⟨?_, ?_⟩) hHeld ?_
                rotate_left 2
                · (simp only [List.getElem?_toArray, List.getElem?_cons_succ, List.getElem?_cons_zero]; rfl)
                · exact fun _ _ _ h => h
                · rfl
                · (rintro W' ⟨s0, s1⟩; go_simp; first | done | with_reducible rfl)
                try simp only [Act.put, List.setIfInBounds_toArray, List.set_cons_zero, List.set_cons_succ]
                refine wpAnyH_take (i := 6) (oi := ?_) (v := ?_) ?_ (by kernel_rfl) (by kernel_rfl) (by kernel_rfl) ?_ (Or.inl ⟨?_, ?_⟩) hHeld ?_
                rotate_left 2
                · (simp only [List.getElem?_toArray, List.getElem?_cons_succ, List.getElem?_cons_zero]; rfl)
                · exact fun _ _ _ h => h
                · rfl
                · (rintro W' ⟨s0, s1⟩; go_simp; first | done | with_reducible rfl)
                try simp only [Act.put, List.setIfInBounds_toArray, List.set_cons_zero, List.set_cons_succ]
                refine wpAnyH_take (i := 7) (oi := ?_) (v := ?_) ?_ (by kernel_rfl) (by kernel_rfl) (by kernel_rfl) ?_ (Or.inl ⟨?_, ?_⟩) hHeld ?_
                rotate_left 2
                · (simp only [List.getElem?_toArray, List.getElem?_cons_succ, List.getElem?_cons_zero]; rfl)
                · exact fun _ _ _ h => h
                · rfl
                · (rintro W' ⟨s0, s1⟩; go_simp; first | done | with_reducible rfl)
                try simp only [Act.put, List.setIfInBounds_toArray, List.set_cons_zero, List.set_cons_succ]
                refine wpAnyH_take (i := 8) (oi := ?_) (v := ?_) ?_ (by kernel_rfl) (by kernel_rfl) (by kernel_rfl) ?_ (Or.inl ⟨?_, ?_⟩) hHeld ?_
                rotate_left 2
                · (simp only [List.getElem?_toArray, List.getElem?_cons_succ, List.getElem?_cons_zero]; rfl)
                · exact fun _ _ _ h => h
                · rfl
                · (rintro W' ⟨s0, s1⟩; go_simp; first | done | with_reducible rfl)
                try simp only [Act.put, List.setIfInBounds_toArray, List.set_cons_zero, List.set_cons_succ]
                clear x0 x1
                generalize wc.drew = w4 at *
                refine wpAnyH_ready (rs := [4]) (by kernel_rfl) (by simp) ?_
                refine AllReadyH.cons (o := ?_) ?_ (fun K hK => ?_) AllReadyH.nil
                rotate_left 1
                · (simp only [List.getElem?_toArray, List.getElem?_cons_succ, List.getElem?_cons_zero]; rfl)
                · (go_simp; refine HcR.out.mono ?_; rintro e w' ⟨rfl, rfl⟩)
                  refine hK.out _ _ ?_ (fun hHeld => ?_)
                  · exact ⟨y0, y1⟩
                  clear hK K
                  try simp only [Act.put, List.setIfInBounds_toArray, List.set_cons_zero, List.set_cons_succ]
                  refine wpAnyH_ready (rs := [9]) (by kernel_rfl) (by simp) ?_
                  refine AllReadyH.cons (o := ?_) ?_ (fun K hK => ?_) AllReadyH.nil
                  rotate_left 1
                  · (simp only [List.getElem?_toArray, List.getElem?_cons_succ, List.getElem?_cons_zero]; rfl)
                  · (go_simp; refine HcB.out.mono ?_; rintro e w' ⟨rfl, rfl⟩)
                    refine hK.out _ _ ?_ (fun hHeld => ?_)
                    · exact ⟨y0, y1⟩
                    clear hK K
                    try simp only [Act.put, List.setIfInBounds_toArray, List.set_cons_zero, List.set_cons_succ]
                    refine wpAnyH_ready (rs := [10]) (by kernel_rfl) (by simp) ?_
                    refine AllReadyH.cons (o := ?_) ?_ (fun K hK => ?_) AllReadyH.nil
                    rotate_left 1
                    · (simp only [List.getElem?_toArray, List.getElem?_cons_succ, List.getElem?_cons_zero]; rfl)
                    · (go_simp; refine HcN.out.mono ?_; rintro e w' ⟨rfl, rfl⟩)
                      refine hK.out _ _ ?_ (fun hHeld => ?_)
                      · exact ⟨y0, y1⟩
                      clear hK K
                      try simp only [Act.put, List.setIfInBounds_toArray, List.set_cons_zero, List.set_cons_succ]
                      refine wpAnyH_take (i := 11) (oi := ?_) (v := ?_) ?_ (by kernel_rfl) (by kernel_rfl) (by kernel_rfl) ?_ (Or.inl ⟨?_, ?_⟩) hHeld ?_
                      rotate_left 2
                      · (simp only [List.getElem?_toArray, List.getElem?_cons_succ, List.getElem?_cons_zero]; rfl)
                      · exact fun _ _ _ h => h
                      · rfl
                      · (rintro W' ⟨s0, s1⟩; go_simp; first | done | with_reducible rfl)
                      try simp only [Act.put, List.setIfInBounds_toArray, List.set_cons_zero, List.set_cons_succ]
                      refine wpAnyH_take (i := 12) (oi := ?_) (v := ?_) ?_ (by kernel_rfl) (by kernel_rfl) (by kernel_rfl) ?_ (Or.inl ⟨?_, ?_⟩) hHeld ?_
                      rotate_left 2
                      · (simp only [List.getElem?_toArray, List.getElem?_cons_succ, List.getElem?_cons_zero]; rfl)
                      · exact fun _ _ _ h => h
                      · rfl
                      · (rintro W' ⟨s0, s1⟩; go_simp; first | done | with_reducible rfl)
                      try simp only [Act.put, List.setIfInBounds_toArray, List.set_cons_zero, List.set_cons_succ]
                      refine wpAnyH_ready (rs := [13]) (by kernel_rfl) (by simp) ?_
                      refine AllReadyH.cons (o := ?_) ?_ (fun K hK => ?_) AllReadyH.nil
                      rotate_left 1
                      · (simp only [List.getElem?_toArray, List.getElem?_cons_succ, List.getElem?_cons_zero]; rfl)
                      · (go_simp; refine HcA.out.mono ?_; rintro e w9 ⟨rfl, hC9⟩; have HC9 := Lib.hid (HC4.out.trans hC9); have z0 := (hC9.cell (p := ⟨xs, 0, none⟩) (cell_lt y0) (by simp)).trans y0; have z1 := (hC9.cell (p := ⟨xs, 1, none⟩) (cell_lt y1) (by simp)).trans y1; clear hC9)
                        refine hK.out _ _ ?_ (fun hHeld => ?_)
                        · exact ⟨z0, z1⟩
                        clear hK K
                        try simp only [Act.put, List.setIfInBounds_toArray, List.set_cons_zero, List.set_cons_succ]
                        refine wpAnyH_take (i := 14) (oi := ?_) (v := ?_) ?_ (by kernel_rfl) (by kernel_rfl) (by kernel_rfl) ?_ (Or.inl ⟨?_, ?_⟩) hHeld ?_
                        rotate_left 2
                        · (simp only [List.getElem?_toArray, List.getElem?_cons_succ, List.getElem?_cons_zero]; rfl)
                        · exact fun _ _ _ h => h
                        · rfl
                        · (rintro W' ⟨s0, s1⟩; go_simp; first | done | with_reducible rfl)
                        try simp only [Act.put, List.setIfInBounds_toArray, List.set_cons_zero, List.set_cons_succ]
                        refine wpAnyH_take (i := 15) (oi := ?_) (v := ?_) ?_ (by kernel_rfl) (by kernel_rfl) (by kernel_rfl) ?_ (Or.inl ⟨?_, ?_⟩) hHeld ?_
                        rotate_left 2
                        · (simp only [List.getElem?_toArray, List.getElem?_cons_succ, List.getElem?_cons_zero]; rfl)
                        · exact fun _ _ _ h => h
                        · rfl
                        · (rintro W' ⟨s0, s1⟩; go_simp; first | done | with_reducible rfl)
                        try simp only [Act.put, List.setIfInBounds_toArray, List.set_cons_zero, List.set_cons_succ]
                        refine wpAnyH_done (by kernel_rfl) ?_ _
                        go_wp2_with fail
                        go_ret
                        exact ⟨rfl, HC9.out.below (by simp)⟩

              · as_aux_lemma =>
                have hf1 : 1 ≤ K2.first := by rw [HS2.out.1.f]; omega
                have HFN := Lib.hid (fin_own HS2.out.1.own HS2.out.1.st.pt.f HS2.out.1.st.pt.n hf1 (by rw [HS2.out.1.n, HS2.out.1.f]; exact hroom))
                have HFO := Lib.hid (fin_ok HS2.out.1.st.ok HS2.out.1.st.pt.f HS2.out.1.st.pt.n (by rw [HS2.out.1.n, HS2.out.1.f]; exact hroom))
                have HSC := Lib.hid (And.intro HE.out.s (And.intro HE.out.sc HE.out.sn))
                clear HE hf1
                generalize (PS.start T2 K2 n A1).fin = F at *
                obtain ⟨e0, e1, hsl⟩ := hsv
                cases e0
                cases e1
                have HSV := Lib.hid (ShV.mk rfl rfl hsl)
                have HOK := Lib.hid (show ShOk F.T n F.a from ⟨HFN.out.own.ok.n0, HFN.out.own.ok.n1, HFN.out.own.ok.has, HFN.out.own.ok.apart⟩)
                have HTP := Lib.hid ((hCE.block _ (heap_lt HS2.out.1.st.top) (HS2.out.1.st.nd xs (by simp))).trans HS2.out.1.st.top)
                have HSO := Lib.hid (HS2.out.1.st.sh.chg hCE (HS2.out.1.st.nd _ (by simp)) (HS2.out.1.st.nd _ (by simp)))
                have HPT := Lib.hid hpt
                have HCE := Lib.hid (HS2.out.2.then hCE HN4.out)
                have HG2 := Lib.hid (show ∀ b, b ∈ [xs, g2 0, g2 1] → b ∉ [p, t, bc, bk] from nd_new HS2.out.1 (hg2 0 (by omega)) (hg2 1 (by omega)))
                have HX2 := Lib.hid (show g2 0 ≠ xs ∧ g2 1 ≠ xs from by have l := heap_lt HS2.out.1.st.top; have a := hg2 0 (by omega); have b := hg2 1 (by omega); omega)
                have HZ0 := Lib.hid hz0
                have HM2 := Lib.hid (SlI.get hz0).1
                have HM3 := Lib.hid (SlI.get hz1).1
                have HP1 : Hid (((m2 : Int) == 0) = ((lc : Int) == 0)) := Lib.hid <| none_iff HFN.out.pages HM2.out HLC.out
                have HP2 : Hid (((m3 : Int) == 0) = ((lc : Int) == 0)) := Lib.hid <| none_iff HFN.out.dirs HM3.out HLC.out
                clear hsl hpt hCE hg2 hzb0 hzb1 hz0 hz1
                have top := HTP.out
                have sc := HSC.out.2.1
                have x0 := cell_of_block top 0
                have x1 := cell_of_block top 1
                have x2 := cell_of_block top 2
                have x3 := cell_of_block top 3
                simp only [List.getElem?_toArray, List.getElem?_cons_zero, List.getElem?_cons_succ] at x0 x1 x2 x3
                have s0 := cell_of_block sc 0
                have s1 := cell_of_block sc 1
                simp only [List.getElem?_toArray, List.getElem?_cons_zero, List.getElem?_cons_succ] at s0 s1
                clear top sc
                go_upto_region 17 with fail
                have y0 : wc.drew.cell? ⟨xs, 0, none⟩ = _ := x0
                have t0 : wc.drew.cell? ⟨sb, 0, none⟩ = _ := s0
                have t1 : wc.drew.cell? ⟨sb, 1, none⟩ = _ := s1
                have cT := right_at (HPT.out.drew).ht (HSV.out.chg ((Chg.refl [] wc).drew) (by simp) (by simp)) HOK.out
                have HcT := Lib.hid cT
                clear cT
                refine wp_region_held_drew (S := fun W' => W'.cell? ⟨xs, 0, none⟩ = some (.pointer (some ⟨t, 0, none⟩)) ∧ W'.cell? ⟨sb, 0, none⟩ = some (.slice (some ⟨g2 0, 0, none⟩) (n 0) (cc2 0)) ∧ W'.cell? ⟨sb, 1, none⟩ = some (.slice (some ⟨g2 1, 0, none⟩) (n 1) (cc2 1))) (by kernel_rfl) (by exact ⟨x0, s0, s1⟩) (fun hHeld => ?_)
                refine wpAnyH_take (i := 0) (oi := ?_) (v := ?_) ?_ (by kernel_rfl) (by kernel_rfl) (by kernel_rfl) ?_ (Or.inl ⟨?_, ?_⟩) hHeld ?_
                rotate_left 2
                · (simp only [List.getElem?_toArray, List.getElem?_cons_succ, List.getElem?_cons_zero]; rfl)
                · exact fun _ _ _ h => h
                · rfl
                · (rintro W' ⟨s0, s1, s2⟩; go_simp; first | done | with_reducible rfl)
                try simp only [Act.put, List.setIfInBounds_toArray, List.set_cons_zero, List.set_cons_succ]
                refine wpAnyH_take (i := 1) (oi := ?_) (v := ?_) ?_ (by kernel_rfl) (by kernel_rfl) (by kernel_rfl) ?_ (Or.inl ⟨?_, ?_⟩) hHeld ?_
                rotate_left 2
                · (simp only [List.getElem?_toArray, List.getElem?_cons_succ, List.getElem?_cons_zero]; rfl)
                · exact fun _ _ _ h => h
                · rfl
                · (rintro W' ⟨s0, s1, s2⟩; go_simp; first | done | with_reducible rfl)
                try simp only [Act.put, List.setIfInBounds_toArray, List.set_cons_zero, List.set_cons_succ]
                refine wpAnyH_take (i := 2) (oi := ?_) (v := ?_) ?_ (by kernel_rfl) (by kernel_rfl) (by kernel_rfl) ?_ (Or.inl ⟨?_, ?_⟩) hHeld ?_
                rotate_left 2
                · (simp only [List.getElem?_toArray, List.getElem?_cons_succ, List.getElem?_cons_zero]; rfl)
                · exact fun _ _ _ h => h
                · rfl
                · (rintro W' ⟨s0, s1, s2⟩; go_simp; first | done | with_reducible rfl)
                try simp only [Act.put, List.setIfInBounds_toArray, List.set_cons_zero, List.set_cons_succ]
                refine wpAnyH_take (i := 3) (oi := ?_) (v := ?_) ?_ (by kernel_rfl) (by kernel_rfl) (by kernel_rfl) ?_ (Or.inl ⟨?_, ?_⟩) hHeld ?_
                rotate_left 2
                · (simp only [List.getElem?_toArray, List.getElem?_cons_succ, List.getElem?_cons_zero]; rfl)
                · exact fun _ _ _ h => h
                · rfl
                · (rintro W' ⟨s0, s1, s2⟩; go_simp; first | done | with_reducible rfl)
                try simp only [Act.put, List.setIfInBounds_toArray, List.set_cons_zero, List.set_cons_succ]
                refine wpAnyH_take (i := 4) (oi := ?_) (v := ?_) ?_ (by kernel_rfl) (by kernel_rfl) (by kernel_rfl) ?_ (Or.inl ⟨?_, ?_⟩) hHeld ?_
                rotate_left 2
                · (simp only [List.getElem?_toArray, List.getElem?_cons_succ, List.getElem?_cons_zero]; rfl)
                · exact fun _ _ _ h => h
                · rfl
                · (rintro W' ⟨s0, s1, s2⟩; go_simp; first | done | with_reducible rfl)
                try simp only [Act.put, List.setIfInBounds_toArray, List.set_cons_zero, List.set_cons_succ]
                refine wpAnyH_take (i := 5) (oi := ?_) (v := ?_) ?_ (by kernel_rfl) (by kernel_rfl) (by kernel_rfl) ?_ (Or.inl ⟨?_, ?_⟩) hHeld ?_
                rotate_left 2
                · (simp only [List.getElem?_toArray, List.getElem?_cons_succ, List.getElem?_cons_zero]; rfl)
                · exact fun _ _ _ h => h
                · rfl
                · (rintro W' ⟨s0, s1, s2⟩; go_simp; first | done | with_reducible rfl)
                try simp only [Act.put, List.setIfInBounds_toArray, List.set_cons_zero, List.set_cons_succ]
                refine wpAnyH_take (i := 6) (oi := ?_) (v := ?_) ?_ (by kernel_rfl) (by kernel_rfl) (by kernel_rfl) ?_ (Or.inl ⟨?_, ?_⟩) hHeld ?_
                rotate_left 2
                · (simp only [List.getElem?_toArray, List.getElem?_cons_succ, List.getElem?_cons_zero]; rfl)
                · exact fun _ _ _ h => h
                · rfl
                · (rintro W' ⟨s0, s1, s2⟩; go_simp; first | done | with_reducible rfl)
                try simp only [Act.put, List.setIfInBounds_toArray, List.set_cons_zero, List.set_cons_succ]
                refine wpAnyH_take (i := 7) (oi := ?_) (v := ?_) ?_ (by kernel_rfl) (by kernel_rfl) (by kernel_rfl) ?_ (Or.inl ⟨?_, ?_⟩) hHeld ?_
                rotate_left 2
                · (simp only [List.getElem?_toArray, List.getElem?_cons_succ, List.getElem?_cons_zero]; rfl)
                · exact fun _ _ _ h => h
                · rfl
                · (rintro W' ⟨s0, s1, s2⟩; go_simp; first | done | with_reducible rfl)
                try simp only [Act.put, List.setIfInBounds_toArray, List.set_cons_zero, List.set_cons_succ]
                refine wpAnyH_ready (rs := [8]) (by kernel_rfl) (by simp) ?_
                refine AllReadyH.cons (o := ?_) ?_ (fun K hK => ?_) AllReadyH.nil
                rotate_left 1
                · (simp only [List.getElem?_toArray, List.getElem?_cons_succ, List.getElem?_cons_zero]; rfl)
                · (go_simp; refine HcT.out.mono ?_; rintro e w5 ⟨rfl, hC5⟩; have HC5 := Lib.hid (((Chg.refl [] wc).drew).trans hC5); have z0 := (hC5.cell (p := ⟨xs, 0, none⟩) (cell_lt y0) (by simp)).trans y0; have z1 := (hC5.cell (p := ⟨sb, 0, none⟩) (cell_lt t0) (by simp)).trans t0; have z2 := (hC5.cell (p := ⟨sb, 1, none⟩) (cell_lt t1) (by simp)).trans t1; clear hC5)
                  refine hK.out _ _ ?_ (fun hHeld => ?_)
                  · exact ⟨z0, z1, z2⟩
                  clear hK K
                  try simp only [Act.put, List.setIfInBounds_toArray, List.set_cons_zero, List.set_cons_succ]
                  refine wpAnyH_take (i := 9) (oi := ?_) (v := ?_) ?_ (by kernel_rfl) (by kernel_rfl) (by kernel_rfl) ?_ (Or.inl ⟨?_, ?_⟩) hHeld ?_
                  rotate_left 2
                  · (simp only [List.getElem?_toArray, List.getElem?_cons_succ, List.getElem?_cons_zero]; rfl)
                  · exact fun _ _ _ h => h
                  · rfl
                  · (rintro W' ⟨s0, s1, s2⟩; go_simp; first | done | with_reducible rfl)
                  try simp only [Act.put, List.setIfInBounds_toArray, List.set_cons_zero, List.set_cons_succ]
                  refine wpAnyH_take (i := 10) (oi := ?_) (v := ?_) ?_ (by kernel_rfl) (by kernel_rfl) (by kernel_rfl) ?_ (Or.inl ⟨?_, ?_⟩) hHeld ?_
                  rotate_left 2
                  · (simp only [List.getElem?_toArray, List.getElem?_cons_succ, List.getElem?_cons_zero]; rfl)
                  · exact fun _ _ _ h => h
                  · rfl
                  · (rintro W' ⟨s0, s1, s2⟩; go_simp; first | done | with_reducible rfl)
                  try simp only [Act.put, List.setIfInBounds_toArray, List.set_cons_zero, List.set_cons_succ]
                  refine wpAnyH_take (i := 11) (oi := ?_) (v := ?_) ?_ (by kernel_rfl) (by kernel_rfl) (by kernel_rfl) ?_ (Or.inl ⟨?_, ?_⟩) hHeld ?_
                  rotate_left 2
                  · (simp only [List.getElem?_toArray, List.getElem?_cons_succ, List.getElem?_cons_zero]; rfl)
                  · exact fun _ _ _ h => h
                  · rfl
                  · (rintro W' ⟨s0, s1, s2⟩; go_simp; first | done | with_reducible rfl)
                  try simp only [Act.put, List.setIfInBounds_toArray, List.set_cons_zero, List.set_cons_succ]
                  refine wpAnyH_take (i := 12) (oi := ?_) (v := ?_) ?_ (by kernel_rfl) (by kernel_rfl) (by kernel_rfl) ?_ (Or.inl ⟨?_, ?_⟩) hHeld ?_
                  rotate_left 2
                  · (simp only [List.getElem?_toArray, List.getElem?_cons_succ, List.getElem?_cons_zero]; rfl)
                  · exact fun _ _ _ h => h
                  · rfl
                  · (rintro W' ⟨s0, s1, s2⟩; go_simp; first | done | with_reducible rfl)
                  try simp only [Act.put, List.setIfInBounds_toArray, List.set_cons_zero, List.set_cons_succ]
                  refine wpAnyH_take (i := 13) (oi := ?_) (v := ?_) ?_ (by kernel_rfl) (by kernel_rfl) (by kernel_rfl) ?_ (Or.inl ⟨?_, ?_⟩) hHeld ?_
                  rotate_left 2
                  · (simp only [List.getElem?_toArray, List.getElem?_cons_succ, List.getElem?_cons_zero]; rfl)
                  · exact fun _ _ _ h => h
                  · rfl
                  · (rintro W' ⟨s0, s1, s2⟩; go_simp; first | done | with_reducible rfl)
                  try simp only [Act.put, List.setIfInBounds_toArray, List.set_cons_zero, List.set_cons_succ]
                  refine wpAnyH_take (i := 14) (oi := ?_) (v := ?_) ?_ (by kernel_rfl) (by kernel_rfl) (by kernel_rfl) ?_ (Or.inl ⟨?_, ?_⟩) hHeld ?_
                  rotate_left 2
                  · (simp only [List.getElem?_toArray, List.getElem?_cons_succ, List.getElem?_cons_zero]; rfl)
                  · exact fun _ _ _ h => h
                  · rfl
                  · (rintro W' ⟨s0, s1, s2⟩; go_simp; first | done | with_reducible rfl)
                  try simp only [Act.put, List.setIfInBounds_toArray, List.set_cons_zero, List.set_cons_succ]
                  refine wpAnyH_take (i := 15) (oi := ?_) (v := ?_) ?_ (by kernel_rfl) (by kernel_rfl) (by kernel_rfl) ?_ (Or.inl ⟨?_, ?_⟩) hHeld ?_
                  rotate_left 2
                  · (simp only [List.getElem?_toArray, List.getElem?_cons_succ, List.getElem?_cons_zero]; rfl)
                  · exact fun _ _ _ h => h
                  · rfl
                  · (rintro W' ⟨s0, s1, s2⟩; go_simp; first | done | with_reducible rfl)
                  try simp only [Act.put, List.setIfInBounds_toArray, List.set_cons_zero, List.set_cons_succ]
                  refine wpAnyH_take (i := 16) (oi := ?_) (v := ?_) ?_ (by kernel_rfl) (by kernel_rfl) (by kernel_rfl) ?_ (Or.inl ⟨?_, ?_⟩) hHeld ?_
                  rotate_left 2
                  · (simp only [List.getElem?_toArray, List.getElem?_cons_succ, List.getElem?_cons_zero]; rfl)
                  · exact fun _ _ _ h => h
                  · rfl
                  · (rintro W' ⟨s0, s1, s2⟩; go_simp; first | done | with_reducible rfl)
                  try simp only [Act.put, List.setIfInBounds_toArray, List.set_cons_zero, List.set_cons_succ]
                  refine wpAnyH_take (i := 17) (oi := ?_) (v := .bool false) ?_ (by kernel_rfl) (by kernel_rfl) (by kernel_rfl) ?_ (Or.inl ⟨?_, ?_⟩) hHeld ?_
                  rotate_left 1
                  · (simp only [List.getElem?_toArray, List.getElem?_cons_succ, List.getElem?_cons_zero]; rfl)
                  · exact fun _ _ _ h => h
                  · rfl
                  · (rintro W' ⟨s0, s1, s2⟩; go_simp; exact HP1.out)
                  try simp only [Act.put, List.setIfInBounds_toArray, List.set_cons_zero, List.set_cons_succ]
                  refine wpAnyH_take (i := 18) (oi := ?_) (v := ?_) ?_ (by kernel_rfl) (by kernel_rfl) (by kernel_rfl) ?_ (Or.inl ⟨?_, ?_⟩) hHeld ?_
                  rotate_left 2
                  · (simp only [List.getElem?_toArray, List.getElem?_cons_succ, List.getElem?_cons_zero]; rfl)
                  · exact fun _ _ _ h => h
                  · rfl
                  · (rintro W' ⟨s0, s1, s2⟩; go_simp; first | done | with_reducible rfl)
                  try simp only [Act.put, List.setIfInBounds_toArray, List.set_cons_zero, List.set_cons_succ]
                  refine wpAnyH_take (i := 19) (oi := ?_) (v := ?_) ?_ (by kernel_rfl) (by kernel_rfl) (by kernel_rfl) ?_ (Or.inl ⟨?_, ?_⟩) hHeld ?_
                  rotate_left 2
                  · (simp only [List.getElem?_toArray, List.getElem?_cons_succ, List.getElem?_cons_zero]; rfl)
                  · exact fun _ _ _ h => h
                  · rfl
                  · (rintro W' ⟨s0, s1, s2⟩; go_simp; first | done | with_reducible rfl)
                  try simp only [Act.put, List.setIfInBounds_toArray, List.set_cons_zero, List.set_cons_succ]
                  refine wpAnyH_take (i := 20) (oi := ?_) (v := ?_) ?_ (by kernel_rfl) (by kernel_rfl) (by kernel_rfl) ?_ (Or.inl ⟨?_, ?_⟩) hHeld ?_
                  rotate_left 2
                  · (simp only [List.getElem?_toArray, List.getElem?_cons_succ, List.getElem?_cons_zero]; rfl)
                  · exact fun _ _ _ h => h
                  · rfl
                  · (rintro W' ⟨s0, s1, s2⟩; go_simp; first | done | with_reducible rfl)
                  try simp only [Act.put, List.setIfInBounds_toArray, List.set_cons_zero, List.set_cons_succ]
                  refine wpAnyH_take (i := 21) (oi := ?_) (v := ?_) ?_ (by kernel_rfl) (by kernel_rfl) (by kernel_rfl) ?_ (Or.inl ⟨?_, ?_⟩) hHeld ?_
                  rotate_left 2
                  · (simp only [List.getElem?_toArray, List.getElem?_cons_succ, List.getElem?_cons_zero]; rfl)
                  · exact fun _ _ _ h => h
                  · rfl
                  · (rintro W' ⟨s0, s1, s2⟩; go_simp; first | done | with_reducible rfl)
                  try simp only [Act.put, List.setIfInBounds_toArray, List.set_cons_zero, List.set_cons_succ]
                  refine wpAnyH_take (i := 22) (oi := ?_) (v := ?_) ?_ (by kernel_rfl) (by kernel_rfl) (by kernel_rfl) ?_ (Or.inl ⟨?_, ?_⟩) hHeld ?_
                  rotate_left 2
                  · (simp only [List.getElem?_toArray, List.getElem?_cons_succ, List.getElem?_cons_zero]; rfl)
                  · exact fun _ _ _ h => h
                  · rfl
                  · (rintro W' ⟨s0, s1, s2⟩; go_simp; first | done | with_reducible rfl)
                  try simp only [Act.put, List.setIfInBounds_toArray, List.set_cons_zero, List.set_cons_succ]
                  refine wpAnyH_take (i := 23) (oi := ?_) (v := ?_) ?_ (by kernel_rfl) (by kernel_rfl) (by kernel_rfl) ?_ (Or.inl ⟨?_, ?_⟩) hHeld ?_
                  rotate_left 2
                  · (simp only [List.getElem?_toArray, List.getElem?_cons_succ, List.getElem?_cons_zero]; rfl)
                  · exact fun _ _ _ h => h
                  · rfl
                  · (rintro W' ⟨s0, s1, s2⟩; go_simp; first | done | with_reducible rfl)
                  try simp only [Act.put, List.setIfInBounds_toArray, List.set_cons_zero, List.set_cons_succ]
                  refine wpAnyH_take (i := 24) (oi := ?_) (v := ?_) ?_ (by kernel_rfl) (by kernel_rfl) (by kernel_rfl) ?_ (Or.inl ⟨?_, ?_⟩) hHeld ?_
                  rotate_left 2
                  · (simp only [List.getElem?_toArray, List.getElem?_cons_succ, List.getElem?_cons_zero]; rfl)
                  · exact fun _ _ _ h => h
                  · rfl
                  · (rintro W' ⟨s0, s1, s2⟩; go_simp; first | done | with_reducible rfl)
                  try simp only [Act.put, List.setIfInBounds_toArray, List.set_cons_zero, List.set_cons_succ]
                  refine wpAnyH_take (i := 25) (oi := ?_) (v := .bool false) ?_ (by kernel_rfl) (by kernel_rfl) (by kernel_rfl) ?_ (Or.inl ⟨?_, ?_⟩) hHeld ?_
                  rotate_left 1
                  · (simp only [List.getElem?_toArray, List.getElem?_cons_succ, List.getElem?_cons_zero]; rfl)
                  · exact fun _ _ _ h => h
                  · rfl
                  · (rintro W' ⟨s0, s1, s2⟩; go_simp; exact HP2.out)
                  try simp only [Act.put, List.setIfInBounds_toArray, List.set_cons_zero, List.set_cons_succ]
                  refine wpAnyH_take (i := 26) (oi := ?_) (v := ?_) ?_ (by kernel_rfl) (by kernel_rfl) (by kernel_rfl) ?_ (Or.inl ⟨?_, ?_⟩) hHeld ?_
                  rotate_left 2
                  · (simp only [List.getElem?_toArray, List.getElem?_cons_succ, List.getElem?_cons_zero]; rfl)
                  · exact fun _ _ _ h => h
                  · rfl
                  · (rintro W' ⟨s0, s1, s2⟩; go_simp; first | done | with_reducible rfl)
                  try simp only [Act.put, List.setIfInBounds_toArray, List.set_cons_zero, List.set_cons_succ]
                  refine wpAnyH_done (by kernel_rfl) ?_ _

                  clear y0 t0 t1 z0 z1 z2 x0 x1 x2 x3 s0 s1
                  have HMV := Lib.hid (mv_start (z1 := .slice a3 m3 c3) HTP.out HSC.out.2.1 HSO.out HSV.out HPT.out HZ0.out HCE.out HC5.out)
                  go_upto_region 20 with fail
                  generalize w5.alloc _ = w6 at *
                  generalize w5.heap.size = mb at *
                  clear HC5 HTP HSO HSV HPT HZ0 HCE HcT
                  go_wp2_with fail
                  go_loopg [124] m2 (fun gg s wr => ∃ j3 : Nat, j3 ≤ m2 ∧ gg = m2 - j3 ∧ s = .int .i64 (j3 : Int) ∧ Hid (MvR w wr xs p t bc bk sb mb F A1 g1 c1 g2 cc2 n (.slice a2 m2 c2) (.slice a3 m3 c3) (mvTo (yesTo (F.p 0) (n 0)) j3)))
                  case atStart => exact ⟨0, Nat.zero_le _, rfl, rfl, HMV⟩
                  case round =>
                    obtain ⟨j3, hj3, hg3, rfl, HV⟩ := hrel
                    have HG3 := Lib.hid hg3
                    clear hg3 HMV
                    by_cases hlt3 : j3 < m2
                    · as_aux_lemma =>
                      have hm7 : m2 ≤ 7 := by rw [HM2.out]; exact Nat.le_trans (yesTo_le _ _) hn07
                      obtain ⟨g3, rfl, hpc⟩ := (SlI.get HV.out.zl).2 j3 hlt3
                      have hlen : j3 < (yesTo (F.p 0) (n 0)).length := by rw [← HM2.out]; exact hlt3
                      have hmem := getD_mem hlen
                      obtain ⟨q, hq⟩ : ∃ q, q = (yesTo (F.p 0) (n 0)).getD j3 0 := ⟨_, rfl⟩
                      rw [← hq] at hpc hmem
                      obtain ⟨hq0, hqp⟩ := mem_yesTo.1 hmem
                      have hq7 : q < 7 := by omega
                      have hv : MvR w (wr.setCell ⟨mb, q, none⟩ (.bool true)) xs p t bc bk sb mb F A1 g1 c1 g2 cc2 n (.slice (some ⟨g3, 0, none⟩) m2 c2) (.slice a3 m3 c3) (mvTo (yesTo (F.p 0) (n 0)) (j3 + 1)) := by
                        have := HV.out.mark hq7
                        rwa [show (fun j => if j = q then true else mvTo (yesTo (F.p 0) (n 0)) j3 j) = mvTo (yesTo (F.p 0) (n 0)) (j3 + 1) from by rw [hq]; exact mvTo_succ hlen] at this
                      have HV2 := Lib.hid hv
                      have hmv := HFN.out.moved q hq0 hqp
                      have hb1 : F.a 0 q < F.T.n := (HOK.out.has 0 q (by omega) hq0 (HFN.out.own.nz 0 q (by omega) hq0)).1
                      have hb2 : A1 0 q < F.T.n := by rw [HFN.out.tn]; exact (HS2.out.1.st.ok.has 0 q (by omega) hq0 (HS2.out.1.own.nz 0 q (by omega) hq0)).1
                      have hv1 : getV F.T ((F.a 0 q : Nat) : Int) = 1 := by rw [getV_nat' hb1, hmv.2.1]; rfl
                      have hv2 : getV F.T ((A1 0 q : Nat) : Int) = 0 := by rw [getV_nat' hb2, hmv.2.2]; rfl
                      have hne : (((F.a 0 q : Nat) : Int) == ((A1 0 q : Nat) : Int)) = false := by simp only [beq_eq_false_iff_ne]; have := hmv.1; omega
                      have hmlc := (cell_of_block HV.out.ml q).trans (bools_get hq7)
                      have hmlf := frozen_of_block HV.out.ml q
                      have i0 : (0 : Int) ≤ (q : Int) := by omega
                      have i1 : (q : Int) < 7 := by omega
                      have i2 : (q : Int) < (n 0 : Int) := by omega
                      have HGA := Lib.hid (fun k b => get_at (hv.pt.drewN k).ht b : ∀ k (b : Int), Calls Try.prog 24 #[.pointer (some ⟨t, 0, none⟩), .int .i64 b] ((wr.setCell ⟨mb, q, none⟩ (.bool true)).drewN k) fun e w' => e = .returned (.int .i64 (getV F.T b)) ∧ (wr.setCell ⟨mb, q, none⟩ (.bool true)).drewN k = w')
                      obtain ⟨e0, e2, es⟩ := hv.cells
                      have ea := hv.sv.get (k := 0) (by omega) hq0
                      have eb := hv.so.get (k := 0) (by omega) hq0
                      have hc2 := (hv.sv.cap (k := 0) (by omega)).1
                      have hc1 := (hv.so.cap (k := 0) (by omega)).1
                      clear hv hmv hb1 hb2 hmem hqp hq hlen
                      generalize F.a 0 q = x at *
                      generalize A1 0 q = y at *
                      go_upto_region 24 with fail
                      generalize wr.setCell _ _ = w7 at *
                      go_quiet ((go_at_call 24; exact quiet_left (HGA.out _ _)))
                      go_wp2_with fail
                      have HV3 := Lib.hid (HV2.out.chgd ((Chg.refl [] w7).drewN nq))
                      go_roundg (m2 - (j3 + 1))
                      case rel => exact ⟨j3 + 1, by omega, rfl, by go_num, HV3⟩
                      case measure => have := HG3.out; omega
                    · obtain rfl : j3 = m2 := by omega
                      obtain ⟨wb, rfl⟩ : ∃ wb : World, wb = wr := ⟨_, rfl⟩
                      have hcz := changed_sl HV.out.pt.ht
                      obtain ⟨e0, _, _⟩ := HV.out.cells
                      go_wp2_with fail
                      refine hcz.mono ?_
                      clear hcz
                      rintro e w8 ⟨v8, rfl, h8, _, hC8⟩
                      obtain ⟨a8, c8, rfl, _⟩ := h8.form
                      have HV8 := Lib.hid (HV.out.chgd hC8)
                      have H8 := Lib.hid h8
                      clear h8 hC8 HV e0
                      have hl8b : (chgs F.T).length ≤ 400 := Nat.le_trans (List.length_filter_le _ _) (by rw [List.length_range, HFN.out.tn, HS2.out.1.n]; exact hNb)
                      obtain ⟨l8, hl8⟩ : ∃ l8, l8 = (chgs F.T).length := ⟨_, rfl⟩
                      rw [← hl8] at hl8b ⊢
                      have HL8 := Lib.hid hl8
                      clear hl8
                      go_wp2_with fail
                      go_loop [180] (fun s => ∃ j4 : Nat, j4 ≤ l8 ∧ s = .int .i64 (j4 : Int)) (fun s => l8 - (intOf s).toNat)
                      case atStart => exact ⟨0, Nat.zero_le _, rfl⟩
                      case round =>
                        obtain ⟨j4, hj4, rfl⟩ := hrel
                        by_cases hlt4 : j4 < l8
                        · as_aux_lemma =>
                          have hlen : j4 < (chgs F.T).length := by rw [← HL8.out]; exact hlt4
                          obtain ⟨g8, rfl, hbc⟩ := (SlI.get H8.out).2 j4 hlen
                          have hmem := getD_mem hlen
                          obtain ⟨q, hq⟩ : ∃ q, q = (chgs F.T).getD j4 0 := ⟨_, rfl⟩
                          rw [← hq] at hbc hmem
                          obtain ⟨hq0, hqc⟩ := mem_chgs.1 hmem
                          rw [HFN.out.tn] at hq0
                          have hmk := HFN.out.chg q hq0 hqc
                          rw [HS2.out.1.n] at hq0
                          have hq61 : q / 61 < n 0 := by rw [HN0.out]; unfold pg; omega
                          have hmc : w8.cell? ⟨mb, q / 61, none⟩ = some (.bool true) := by
                            rw [cell_of_block HV8.out.ml, bools_get (by omega), HM2.out, mvTo_all hq61, hmk]
                          have i0 : (0 : Int) ≤ (q : Int) / 61 := by omega
                          have i1 : (q : Int) / 61 < 7 := by omega
                          clear hmk hqc hmem hq hlen
                          go_wp2_with fail
                          go_round
                          case rel => exact ⟨j4 + 1, by omega, by go_num⟩
                          case measure => simp [intOf]; omega
                        · obtain rfl : j4 = l8 := by omega
                          obtain ⟨_, _, e2⟩ := HV8.out.cells
                          go_wp2_with fail
                          clear e2
                          go_loopw [193] (fun s wr => ∃ j5 : Nat, j5 ≤ n 0 ∧ s = .int .i64 (j5 : Int) ∧ Hid (MvR w wr xs p t bc bk sb mb F A1 g1 c1 g2 cc2 n (.slice a2 j3 c2) (.slice a3 m3 c3) (mvTo (yesTo (F.p 0) (n 0)) j3))) (fun s _ => n 0 - (intOf s).toNat)
                          case atStart => exact ⟨0, Nat.zero_le _, rfl, HV8⟩
                          case round =>
                            obtain ⟨j5, hj5, rfl, HV⟩ := hrel
                            clear HV8
                            by_cases hlt5 : j5 < n 0
                            · as_aux_lemma =>
                              obtain ⟨e0, e2, es⟩ := HV.out.cells
                              have hmc := (cell_of_block HV.out.ml j5).trans (bools_get (show j5 < 7 by omega))
                              rw [HM2.out, mvTo_all hlt5] at hmc
                              have i0 : (0 : Int) ≤ (j5 : Int) := by omega
                              have i1 : (j5 : Int) < 7 := by omega
                              have i2 : (j5 : Int) < (n 0 : Int) := by omega
                              have ea := HV.out.sv.get (k := 0) (by omega) hlt5
                              have eb := HV.out.so.get (k := 0) (by omega) hlt5
                              have hc2 := (HV.out.sv.cap (k := 0) (by omega)).1
                              have hc1 := (HV.out.so.cap (k := 0) (by omega)).1
                              have hst := HFN.out.stays j5 hlt5
                              cases hp : F.p 0 j5 with
                              | true =>
                                rw [hp] at hmc
                                clear hst hp ea eb
                                go_upto_region 36 with fail
                                go_quiet (fail)
                                go_wp2_with fail
                                have HV3 := Lib.hid (HV.out.chgd ((Chg.refl [] wr).drewN nq))
                                go_roundw
                                case rel => exact ⟨j5 + 1, by omega, by go_num, HV3⟩
                                case measure => simp [intOf]; omega
                              | false =>
                                rw [hp] at hmc
                                rw [hst hp] at ea
                                clear hst hp
                                generalize A1 0 j5 = y at *
                                go_upto_region 36 with fail
                                go_quiet (fail)
                                go_wp2_with fail
                                have HV3 := Lib.hid (HV.out.chgd ((Chg.refl [] wr).drewN nq))
                                go_roundw
                                case rel => exact ⟨j5 + 1, by omega, by go_num, HV3⟩
                                case measure => simp [intOf]; omega
                            · obtain rfl : j5 = n 0 := by omega
                              obtain ⟨wb2, rfl⟩ : ∃ wb2 : World, wb2 = wr := ⟨_, rfl⟩
                              obtain ⟨e0, _, _⟩ := HV.out.cells
                              have ck := PT.keep HV.out.pt
                              go_wp2_with fail
                              refine ck.mono ?_
                              clear ck e0
                              rintro e w9 ⟨rfl, hP9, hC9⟩
                              have HT9 := Lib.hid ((hC9.block _ (heap_lt HV.out.top) (HG2.out xs (by simp))).trans HV.out.top)
                              have HS9 := Lib.hid ((hC9.block _ (heap_lt HV.out.sc) HSC.out.2.2).trans HV.out.sc)
                              have HSV9 := Lib.hid (HV.out.sv.chg hC9 (HG2.out _ (by simp)) (HG2.out _ (by simp)))
                              have HC9 := Lib.hid (HV.out.chg.then hC9 HN4.out)
                              have HNX := Lib.hid (sto_next HT9.out hP9 HSV9.out HFN.out.own (HFO.out.2.2.2.2.1.trans HS2.out.1.f) (show F.T.n = N from HFN.out.tn.trans HS2.out.1.n) HG2.out HX2.out)
                              have HC10 := Lib.hid (HC9.out.then HNX.out.2 (fun i hi => .inr (by simp at hi; rw [hi]; exact HNW.out xs (by simp))))
                              have hs9 := HS9.out
                              have ht9 := HT9.out
                              have s0 := cell_of_block hs9 0
                              have s1 := cell_of_block hs9 1
                              simp only [List.getElem?_toArray, List.getElem?_cons_zero, List.getElem?_cons_succ] at s0 s1
                              have x0 := cell_of_block ht9 0
                              have x1 := cell_of_block ht9 1
                              have x2 := cell_of_block ht9 2
                              have x3 := cell_of_block ht9 3
                              simp only [List.getElem?_toArray, List.getElem?_cons_zero, List.getElem?_cons_succ] at x0 x1 x2 x3
                              have f2 := frozen_of_block ht9 2
                              have f3 := frozen_of_block ht9 3
                              clear hP9 hC9 hs9 ht9
                              go_upto_region 41 with fail
                              have HS10 := Lib.hid HNX.out.1
                              clear HNX HT9 HS9 HSV9 HC9 s0 s1 x0 x1 x2 x3 f2 f3
                              generalize (w9.setCell _ _).setCell _ _ = w10 at *
                              have top := HS10.out.st.top
                              have x0 := cell_of_block top 0
                              have x1 := cell_of_block top 1
                              have x2 := cell_of_block top 2
                              have x3 := cell_of_block top 3
                              simp only [List.getElem?_toArray, List.getElem?_cons_zero, List.getElem?_cons_succ] at x0 x1 x2 x3
                              clear top
                              go_cut [21, 22, 23, 24] (fun s11 s12 s13 s14 wz => ∃ (sb : Nat) (a0 a1 a2 a3 : Option Addr) (m0 m1 m2 m3 c0 c1 c2 c3 : Nat) (ev : Int), s11 = .pointer (some ⟨sb, 0, none⟩) ∧ s12 = .slice a2 m2 c2 ∧ s13 = .slice a3 m3 c3 ∧ s14 = .int .i64 ev ∧
                                Hid (PlEnd w10 wz p t bc bk F.K F.T.keep F.a n N sb (.slice a0 m0 c0) (.slice a1 m1 c1) (.slice a2 m2 c2) (.slice a3 m3 c3) ev))
                              case first =>
                                as_aux_lemma =>
                                have HC0 := Lib.hid ((Chg.refl [] w10).drew)
                                have HPL := Lib.hid (fun (W : World) (C : Chg [] w10 W) => place_any HS10.out C)
                                have lx := heap_lt (HS10.out).st.top
                                refine wp_region_held_drew (S := fun W' => W'.cell? ⟨xs, 0, none⟩ = some (.pointer (some ⟨t, 0, none⟩)) ∧ W'.cell? ⟨xs, 1, none⟩ = some (.pointer (some ⟨p, 0, none⟩)) ∧ W'.cell? ⟨xs, 2, none⟩ = some (.slice (some ⟨g2 0, 0, none⟩) (n 0) (cc2 0)) ∧ W'.cell? ⟨xs, 3, none⟩ = some (.slice (some ⟨g2 1, 0, none⟩) (n 1) (cc2 1))) (by kernel_rfl) (by exact ⟨x0, x1, x2, x3⟩) (fun hHeld => ?_)
                                refine wpAnyH_take (i := 0) (oi := ?_) (v := ?_) ?_ (by kernel_rfl) (by kernel_rfl) (by kernel_rfl) ?_ (Or.inl ⟨?_, ?_⟩) hHeld ?_
                                rotate_left 2
                                · (simp only [List.getElem?_toArray, List.getElem?_cons_succ, List.getElem?_cons_zero]; rfl)
                                · exact fun _ _ _ h => h
                                · rfl
                                · (rintro W' ⟨s0, s1, s2, s3⟩; go_simp; first | done | with_reducible rfl)
                                try simp only [Act.put, List.setIfInBounds_toArray, List.set_cons_zero, List.set_cons_succ]
                                refine wpAnyH_take (i := 1) (oi := ?_) (v := ?_) ?_ (by kernel_rfl) (by kernel_rfl) (by kernel_rfl) ?_ (Or.inl ⟨?_, ?_⟩) hHeld ?_
                                rotate_left 2
                                · (simp only [List.getElem?_toArray, List.getElem?_cons_succ, List.getElem?_cons_zero]; rfl)
                                · exact fun _ _ _ h => h
                                · rfl
                                · (rintro W' ⟨s0, s1, s2, s3⟩; go_simp; first | done | with_reducible rfl)
                                try simp only [Act.put, List.setIfInBounds_toArray, List.set_cons_zero, List.set_cons_succ]
                                refine wpAnyH_take (i := 2) (oi := ?_) (v := ?_) ?_ (by kernel_rfl) (by kernel_rfl) (by kernel_rfl) ?_ (Or.inl ⟨?_, ?_⟩) hHeld ?_
                                rotate_left 2
                                · (simp only [List.getElem?_toArray, List.getElem?_cons_succ, List.getElem?_cons_zero]; rfl)
                                · exact fun _ _ _ h => h
                                · rfl
                                · (rintro W' ⟨s0, s1, s2, s3⟩; go_simp; first | done | with_reducible rfl)
                                try simp only [Act.put, List.setIfInBounds_toArray, List.set_cons_zero, List.set_cons_succ]
                                refine wpAnyH_take (i := 3) (oi := ?_) (v := ?_) ?_ (by kernel_rfl) (by kernel_rfl) (by kernel_rfl) ?_ (Or.inl ⟨?_, ?_⟩) hHeld ?_
                                rotate_left 2
                                · (simp only [List.getElem?_toArray, List.getElem?_cons_succ, List.getElem?_cons_zero]; rfl)
                                · exact fun _ _ _ h => h
                                · rfl
                                · (rintro W' ⟨s0, s1, s2, s3⟩; go_simp; first | done | with_reducible rfl)
                                try simp only [Act.put, List.setIfInBounds_toArray, List.set_cons_zero, List.set_cons_succ]
                                refine wpAnyH_take (i := 4) (oi := ?_) (v := ?_) ?_ (by kernel_rfl) (by kernel_rfl) (by kernel_rfl) ?_ (Or.inl ⟨?_, ?_⟩) hHeld ?_
                                rotate_left 2
                                · (simp only [List.getElem?_toArray, List.getElem?_cons_succ, List.getElem?_cons_zero]; rfl)
                                · exact fun _ _ _ h => h
                                · rfl
                                · (rintro W' ⟨s0, s1, s2, s3⟩; go_simp; first | done | with_reducible rfl)
                                try simp only [Act.put, List.setIfInBounds_toArray, List.set_cons_zero, List.set_cons_succ]
                                refine wpAnyH_take (i := 5) (oi := ?_) (v := ?_) ?_ (by kernel_rfl) (by kernel_rfl) (by kernel_rfl) ?_ (Or.inl ⟨?_, ?_⟩) hHeld ?_
                                rotate_left 2
                                · (simp only [List.getElem?_toArray, List.getElem?_cons_succ, List.getElem?_cons_zero]; rfl)
                                · exact fun _ _ _ h => h
                                · rfl
                                · (rintro W' ⟨s0, s1, s2, s3⟩; go_simp; first | done | with_reducible rfl)
                                try simp only [Act.put, List.setIfInBounds_toArray, List.set_cons_zero, List.set_cons_succ]
                                refine wpAnyH_take (i := 6) (oi := ?_) (v := ?_) ?_ (by kernel_rfl) (by kernel_rfl) (by kernel_rfl) ?_ (Or.inl ⟨?_, ?_⟩) hHeld ?_
                                rotate_left 2
                                · (simp only [List.getElem?_toArray, List.getElem?_cons_succ, List.getElem?_cons_zero]; rfl)
                                · exact fun _ _ _ h => h
                                · rfl
                                · (rintro W' ⟨s0, s1, s2, s3⟩; go_simp; first | done | with_reducible rfl)
                                try simp only [Act.put, List.setIfInBounds_toArray, List.set_cons_zero, List.set_cons_succ]
                                refine wpAnyH_take (i := 7) (oi := ?_) (v := ?_) ?_ (by kernel_rfl) (by kernel_rfl) (by kernel_rfl) ?_ (Or.inl ⟨?_, ?_⟩) hHeld ?_
                                rotate_left 2
                                · (simp only [List.getElem?_toArray, List.getElem?_cons_succ, List.getElem?_cons_zero]; rfl)
                                · exact fun _ _ _ h => h
                                · rfl
                                · (rintro W' ⟨s0, s1, s2, s3⟩; go_simp; first | done | with_reducible rfl)
                                try simp only [Act.put, List.setIfInBounds_toArray, List.set_cons_zero, List.set_cons_succ]
                                refine wpAnyH_take (i := 8) (oi := ?_) (v := ?_) ?_ (by kernel_rfl) (by kernel_rfl) (by kernel_rfl) ?_ (Or.inl ⟨?_, ?_⟩) hHeld ?_
                                rotate_left 2
                                · (simp only [List.getElem?_toArray, List.getElem?_cons_succ, List.getElem?_cons_zero]; rfl)
                                · exact fun _ _ _ h => h
                                · rfl
                                · (rintro W' ⟨s0, s1, s2, s3⟩; go_simp; first | done | with_reducible rfl)
                                try simp only [Act.put, List.setIfInBounds_toArray, List.set_cons_zero, List.set_cons_succ]
                                refine wpAnyH_take (i := 9) (oi := ?_) (v := ?_) ?_ (by kernel_rfl) (by kernel_rfl) (by kernel_rfl) ?_ (Or.inl ⟨?_, ?_⟩) hHeld ?_
                                rotate_left 2
                                · (simp only [List.getElem?_toArray, List.getElem?_cons_succ, List.getElem?_cons_zero]; rfl)
                                · exact fun _ _ _ h => h
                                · rfl
                                · (rintro W' ⟨s0, s1, s2, s3⟩; go_simp; first | done | with_reducible rfl)
                                try simp only [Act.put, List.setIfInBounds_toArray, List.set_cons_zero, List.set_cons_succ]
                                refine wpAnyH_take (i := 10) (oi := ?_) (v := ?_) ?_ (by kernel_rfl) (by kernel_rfl) (by kernel_rfl) ?_ (Or.inl ⟨?_, ?_⟩) hHeld ?_
                                rotate_left 2
                                · (simp only [List.getElem?_toArray, List.getElem?_cons_succ, List.getElem?_cons_zero]; rfl)
                                · exact fun _ _ _ h => h
                                · rfl
                                · (rintro W' ⟨s0, s1, s2, s3⟩; go_simp; first | done | with_reducible rfl)
                                try simp only [Act.put, List.setIfInBounds_toArray, List.set_cons_zero, List.set_cons_succ]
                                refine wpAnyH_take (i := 11) (oi := ?_) (v := ?_) ?_ (by kernel_rfl) (by kernel_rfl) (by kernel_rfl) ?_ (Or.inl ⟨?_, ?_⟩) hHeld ?_
                                rotate_left 2
                                · (simp only [List.getElem?_toArray, List.getElem?_cons_succ, List.getElem?_cons_zero]; rfl)
                                · exact fun _ _ _ h => h
                                · rfl
                                · (rintro W' ⟨s0, s1, s2, s3⟩; go_simp; first | done | with_reducible rfl)
                                try simp only [Act.put, List.setIfInBounds_toArray, List.set_cons_zero, List.set_cons_succ]
                                generalize w10.drew = w4 at *
                                refine wpAnyH_ready (rs := [12, 18]) (by kernel_rfl) (by simp) ?_
                                refine AllReadyH.cons (o := ?_) ?_ (fun K hK => ?_) ?_
                                rotate_left 1
                                · (simp only [List.getElem?_toArray, List.getElem?_cons_succ, List.getElem?_cons_zero]; rfl)
                                · (go_simp; refine (HPL.out w4 HC0.out).mono ?_; rintro e w6 ⟨q0, q1, q2, q3, n0, n1, n2, n3, k0, k1, k2, k3, ev, rfl, hq⟩; have HD := Lib.hid (plQ_chg hq.out); have FT := Lib.hid ((HD.out.block _ (heap_lt ((HC0.out.block _ lx (by simp)).trans (HS10.out).st.top)) ((HS10.out).st.nd xs (by simp))).trans ((HC0.out.block _ lx (by simp)).trans (HS10.out).st.top)); have HQ := Lib.hid hq.out; clear hq)
                                  refine hK.out _ _ ?_ (fun hHeld => ?_)
                                  · (have hh := cell4 FT.out; exact hh)
                                  clear hK K
                                  try simp only [Act.put, List.setIfInBounds_toArray, List.set_cons_zero, List.set_cons_succ]
                                  have HT6 := Lib.hid FT.out
                                  refine wpAnyH_take (i := 13) (oi := ?_) (v := ?_) ?_ (by kernel_rfl) (by kernel_rfl) (by kernel_rfl) ?_ (Or.inl ⟨?_, ?_⟩) hHeld ?_
                                  rotate_left 2
                                  · (simp only [List.getElem?_toArray, List.getElem?_cons_succ, List.getElem?_cons_zero]; rfl)
                                  · exact fun _ _ _ h => h
                                  · rfl
                                  · (rintro W' ⟨s0, s1, s2, s3⟩; go_simp; first | done | with_reducible rfl)
                                  try simp only [Act.put, List.setIfInBounds_toArray, List.set_cons_zero, List.set_cons_succ]
                                  refine wpAnyH_take (i := 14) (oi := ?_) (v := ?_) ?_ (by kernel_rfl) (by kernel_rfl) (by kernel_rfl) ?_ (Or.inl ⟨?_, ?_⟩) hHeld ?_
                                  rotate_left 2
                                  · (simp only [List.getElem?_toArray, List.getElem?_cons_succ, List.getElem?_cons_zero]; rfl)
                                  · exact fun _ _ _ h => h
                                  · rfl
                                  · (rintro W' ⟨s0, s1, s2, s3⟩; go_simp; first | done | with_reducible rfl)
                                  try simp only [Act.put, List.setIfInBounds_toArray, List.set_cons_zero, List.set_cons_succ]
                                  refine wpAnyH_take (i := 15) (oi := ?_) (v := ?_) ?_ (by kernel_rfl) (by kernel_rfl) (by kernel_rfl) ?_ (Or.inl ⟨?_, ?_⟩) hHeld ?_
                                  rotate_left 2
                                  · (simp only [List.getElem?_toArray, List.getElem?_cons_succ, List.getElem?_cons_zero]; rfl)
                                  · exact fun _ _ _ h => h
                                  · rfl
                                  · (rintro W' ⟨s0, s1, s2, s3⟩; go_simp; first | done | with_reducible rfl)
                                  try simp only [Act.put, List.setIfInBounds_toArray, List.set_cons_zero, List.set_cons_succ]
                                  refine wpAnyH_take (i := 16) (oi := ?_) (v := ?_) ?_ (by kernel_rfl) (by kernel_rfl) (by kernel_rfl) ?_ (Or.inl ⟨?_, ?_⟩) hHeld ?_
                                  rotate_left 2
                                  · (simp only [List.getElem?_toArray, List.getElem?_cons_succ, List.getElem?_cons_zero]; rfl)
                                  · exact fun _ _ _ h => h
                                  · rfl
                                  · (rintro W' ⟨s0, s1, s2, s3⟩; go_simp; first | done | with_reducible rfl)
                                  try simp only [Act.put, List.setIfInBounds_toArray, List.set_cons_zero, List.set_cons_succ]
                                  refine wpAnyH_take (i := 17) (oi := ?_) (v := ?_) ?_ (by kernel_rfl) (by kernel_rfl) (by kernel_rfl) ?_ (Or.inl ⟨?_, ?_⟩) hHeld ?_
                                  rotate_left 2
                                  · (simp only [List.getElem?_toArray, List.getElem?_cons_succ, List.getElem?_cons_zero]; rfl)
                                  · exact fun _ _ _ h => h
                                  · rfl
                                  · (rintro W' ⟨s0, s1, s2, s3⟩; go_simp; first | done | with_reducible rfl)
                                  try simp only [Act.put, List.setIfInBounds_toArray, List.set_cons_zero, List.set_cons_succ]
                                  refine wpAnyH_ready (rs := [18]) (by kernel_rfl) (by simp) ?_
                                  refine AllReadyH.cons (o := ?_) ?_ (fun K hK => ?_) AllReadyH.nil
                                  rotate_left 1
                                  · (simp only [List.getElem?_toArray, List.getElem?_cons_succ, List.getElem?_cons_zero]; rfl)
                                  · (go_simp; have FA := Lib.hid (new_block w6 (.cells #[.slice none 0 0, .slice none 0 0] 42)); have CA := Lib.hid ((Chg.refl [] w6).alloc (.cells #[.slice none 0 0, .slice none 0 0] 42)); have FT := Lib.hid ((CA.out.block _ (heap_lt FT.out) (by simp)).trans FT.out); have HXR : Hid (xs ∉ [w6.heap.size]) := Lib.hid (by have := heap_lt HT6.out; simp; omega); generalize w6.alloc _ = w7 at *)
                                    refine hK.out _ _ ?_ (fun hHeld => ?_)
                                    · (have hh := cell4 FT.out; exact hh)
                                    clear hK K
                                    try simp only [Act.put, List.setIfInBounds_toArray, List.set_cons_zero, List.set_cons_succ]
                                    refine wpAnyH_ready (rs := [19]) (by kernel_rfl) (by simp) ?_
                                    refine AllReadyH.cons (o := ?_) ?_ (fun K hK => ?_) AllReadyH.nil
                                    rotate_left 1
                                    · (simp only [List.getElem?_toArray, List.getElem?_cons_succ, List.getElem?_cons_zero]; rfl)
                                    · (have za := cell_of_block FA.out 0; have zb := cell_of_block FA.out 1; have f4 := frozen_of_block FA.out 0; have f5 := frozen_of_block FA.out 1; simp only [List.getElem?_toArray, List.getElem?_cons_zero, List.getElem?_cons_succ] at za zb; have GB := Lib.hid (setCell_block (setCell_block FA.out 0 (.slice q0 n0 k0)) 1 (.slice q1 n1 k1)); have CR : Hid (Chg [w6.heap.size] w7 ((w7.setCell ⟨w6.heap.size, 0, none⟩ (.slice q0 n0 k0)).setCell ⟨w6.heap.size, 1, none⟩ (.slice q1 n1 k1))) := Lib.hid (((Chg.refl _ _).setCell (.inl (by simp)) _).setCell (.inl (by simp)) _); have GT := Lib.hid ((CR.out.block _ (heap_lt FT.out) HXR.out).trans FT.out); go_simp)
                                      refine hK.out _ _ ?_ (fun hHeld => ?_)
                                      · (have hh := cell4 GT.out; exact hh)
                                      clear hK K
                                      try simp only [Act.put, List.setIfInBounds_toArray, List.set_cons_zero, List.set_cons_succ]
                                      refine wpAnyH_take (i := 20) (oi := ?_) (v := ?_) ?_ (by kernel_rfl) (by kernel_rfl) (by kernel_rfl) ?_ (Or.inl ⟨?_, ?_⟩) hHeld ?_
                                      rotate_left 2
                                      · (simp only [List.getElem?_toArray, List.getElem?_cons_succ, List.getElem?_cons_zero]; rfl)
                                      · exact fun _ _ _ h => h
                                      · rfl
                                      · (rintro W' ⟨s0, s1, s2, s3⟩; go_simp; first | done | with_reducible rfl)
                                      try simp only [Act.put, List.setIfInBounds_toArray, List.set_cons_zero, List.set_cons_succ]
                                      refine wpAnyH_take (i := 21) (oi := ?_) (v := ?_) ?_ (by kernel_rfl) (by kernel_rfl) (by kernel_rfl) ?_ (Or.inl ⟨?_, ?_⟩) hHeld ?_
                                      rotate_left 2
                                      · (simp only [List.getElem?_toArray, List.getElem?_cons_succ, List.getElem?_cons_zero]; rfl)
                                      · exact fun _ _ _ h => h
                                      · rfl
                                      · (rintro W' ⟨s0, s1, s2, s3⟩; go_simp; first | done | with_reducible rfl)
                                      try simp only [Act.put, List.setIfInBounds_toArray, List.set_cons_zero, List.set_cons_succ]
                                      refine wpAnyH_take (i := 22) (oi := ?_) (v := ?_) ?_ (by kernel_rfl) (by kernel_rfl) (by kernel_rfl) ?_ (Or.inl ⟨?_, ?_⟩) hHeld ?_
                                      rotate_left 2
                                      · (simp only [List.getElem?_toArray, List.getElem?_cons_succ, List.getElem?_cons_zero]; rfl)
                                      · exact fun _ _ _ h => h
                                      · rfl
                                      · (rintro W' ⟨s0, s1, s2, s3⟩; go_simp; first | done | with_reducible rfl)
                                      try simp only [Act.put, List.setIfInBounds_toArray, List.set_cons_zero, List.set_cons_succ]
                                      refine wpAnyH_done (by kernel_rfl) ?_ _
                                      go_wp2_with fail
                                      go_meet
                                      exact ⟨_, q0, q1, q2, q3, n0, n1, n2, n3, k0, k1, k2, k3, ev, rfl, rfl, rfl, rfl, Lib.hid (plEnd_mk HS10.out HC0.out HQ.out ((CA.out.mono (by simp)).trans CR.out) (Nat.le_trans HC0.out.size HD.out.size) (.inr (Nat.le_refl _)) GB.out)⟩
                                refine AllReadyH.cons (o := ?_) ?_ (fun K hK => ?_) AllReadyH.nil
                                rotate_left 1
                                · (simp only [List.getElem?_toArray, List.getElem?_cons_succ, List.getElem?_cons_zero]; rfl)
                                · (go_simp; have FA := Lib.hid (new_block w4 (.cells #[.slice none 0 0, .slice none 0 0] 42)); have HXR : Hid (xs ∉ [w4.heap.size]) := Lib.hid (by have := HC0.out.size; simp; omega); have HC5 := Lib.hid (HC0.out.alloc (.cells #[.slice none 0 0, .slice none 0 0] 42)); have SZ := Lib.hid (show w4.heap.size < (w4.alloc (.cells #[.slice none 0 0, .slice none 0 0] 42)).heap.size by simp); generalize w4.alloc _ = w5 at *)
                                  refine hK.out _ _ ?_ (fun hHeld => ?_)
                                  · (have hh := cell4 ((HC5.out.block _ lx (by simp)).trans (HS10.out).st.top); exact hh)
                                  clear hK K
                                  try simp only [Act.put, List.setIfInBounds_toArray, List.set_cons_zero, List.set_cons_succ]
                                  refine wpAnyH_ready (rs := [12]) (by kernel_rfl) (by simp) ?_
                                  refine AllReadyH.cons (o := ?_) ?_ (fun K hK => ?_) AllReadyH.nil
                                  rotate_left 1
                                  · (simp only [List.getElem?_toArray, List.getElem?_cons_succ, List.getElem?_cons_zero]; rfl)
                                  · (go_simp; refine (HPL.out w5 HC5.out).mono ?_; rintro e w6 ⟨q0, q1, q2, q3, n0, n1, n2, n3, k0, k1, k2, k3, ev, rfl, hq⟩; have HD := Lib.hid (plQ_chg hq.out); have FT := Lib.hid ((HD.out.block _ (heap_lt ((HC5.out.block _ lx (by simp)).trans (HS10.out).st.top)) ((HS10.out).st.nd xs (by simp))).trans ((HC5.out.block _ lx (by simp)).trans (HS10.out).st.top)); have HQ := Lib.hid hq.out; have FA := Lib.hid ((HD.out.block _ (heap_lt FA.out) (by have a0 := (HS10.out).st.pt.hp.lt; have a1 := (HS10.out).st.pt.ht.lt0; have a2 := (HS10.out).st.pt.ht.lt1; have a3 := (HS10.out).st.pt.ht.lt2; have := HC0.out.size; simp; omega)).trans FA.out); clear hq)
                                    refine hK.out _ _ ?_ (fun hHeld => ?_)
                                    · (have hh := cell4 FT.out; exact hh)
                                    clear hK K
                                    try simp only [Act.put, List.setIfInBounds_toArray, List.set_cons_zero, List.set_cons_succ]
                                    refine wpAnyH_take (i := 13) (oi := ?_) (v := ?_) ?_ (by kernel_rfl) (by kernel_rfl) (by kernel_rfl) ?_ (Or.inl ⟨?_, ?_⟩) hHeld ?_
                                    rotate_left 2
                                    · (simp only [List.getElem?_toArray, List.getElem?_cons_succ, List.getElem?_cons_zero]; rfl)
                                    · exact fun _ _ _ h => h
                                    · rfl
                                    · (rintro W' ⟨s0, s1, s2, s3⟩; go_simp; first | done | with_reducible rfl)
                                    try simp only [Act.put, List.setIfInBounds_toArray, List.set_cons_zero, List.set_cons_succ]
                                    refine wpAnyH_take (i := 14) (oi := ?_) (v := ?_) ?_ (by kernel_rfl) (by kernel_rfl) (by kernel_rfl) ?_ (Or.inl ⟨?_, ?_⟩) hHeld ?_
                                    rotate_left 2
                                    · (simp only [List.getElem?_toArray, List.getElem?_cons_succ, List.getElem?_cons_zero]; rfl)
                                    · exact fun _ _ _ h => h
                                    · rfl
                                    · (rintro W' ⟨s0, s1, s2, s3⟩; go_simp; first | done | with_reducible rfl)
                                    try simp only [Act.put, List.setIfInBounds_toArray, List.set_cons_zero, List.set_cons_succ]
                                    refine wpAnyH_take (i := 15) (oi := ?_) (v := ?_) ?_ (by kernel_rfl) (by kernel_rfl) (by kernel_rfl) ?_ (Or.inl ⟨?_, ?_⟩) hHeld ?_
                                    rotate_left 2
                                    · (simp only [List.getElem?_toArray, List.getElem?_cons_succ, List.getElem?_cons_zero]; rfl)
                                    · exact fun _ _ _ h => h
                                    · rfl
                                    · (rintro W' ⟨s0, s1, s2, s3⟩; go_simp; first | done | with_reducible rfl)
                                    try simp only [Act.put, List.setIfInBounds_toArray, List.set_cons_zero, List.set_cons_succ]
                                    refine wpAnyH_take (i := 16) (oi := ?_) (v := ?_) ?_ (by kernel_rfl) (by kernel_rfl) (by kernel_rfl) ?_ (Or.inl ⟨?_, ?_⟩) hHeld ?_
                                    rotate_left 2
                                    · (simp only [List.getElem?_toArray, List.getElem?_cons_succ, List.getElem?_cons_zero]; rfl)
                                    · exact fun _ _ _ h => h
                                    · rfl
                                    · (rintro W' ⟨s0, s1, s2, s3⟩; go_simp; first | done | with_reducible rfl)
                                    try simp only [Act.put, List.setIfInBounds_toArray, List.set_cons_zero, List.set_cons_succ]
                                    refine wpAnyH_take (i := 17) (oi := ?_) (v := ?_) ?_ (by kernel_rfl) (by kernel_rfl) (by kernel_rfl) ?_ (Or.inl ⟨?_, ?_⟩) hHeld ?_
                                    rotate_left 2
                                    · (simp only [List.getElem?_toArray, List.getElem?_cons_succ, List.getElem?_cons_zero]; rfl)
                                    · exact fun _ _ _ h => h
                                    · rfl
                                    · (rintro W' ⟨s0, s1, s2, s3⟩; go_simp; first | done | with_reducible rfl)
                                    try simp only [Act.put, List.setIfInBounds_toArray, List.set_cons_zero, List.set_cons_succ]
                                    refine wpAnyH_ready (rs := [19]) (by kernel_rfl) (by simp) ?_
                                    refine AllReadyH.cons (o := ?_) ?_ (fun K hK => ?_) AllReadyH.nil
                                    rotate_left 1
                                    · (simp only [List.getElem?_toArray, List.getElem?_cons_succ, List.getElem?_cons_zero]; rfl)
                                    · (have za := cell_of_block FA.out 0; have zb := cell_of_block FA.out 1; have f4 := frozen_of_block FA.out 0; have f5 := frozen_of_block FA.out 1; simp only [List.getElem?_toArray, List.getElem?_cons_zero, List.getElem?_cons_succ] at za zb; have GB := Lib.hid (setCell_block (setCell_block FA.out 0 (.slice q0 n0 k0)) 1 (.slice q1 n1 k1)); have CR : Hid (Chg [w4.heap.size] w6 ((w6.setCell ⟨w4.heap.size, 0, none⟩ (.slice q0 n0 k0)).setCell ⟨w4.heap.size, 1, none⟩ (.slice q1 n1 k1))) := Lib.hid (((Chg.refl _ _).setCell (.inl (by simp)) _).setCell (.inl (by simp)) _); have GT := Lib.hid ((CR.out.block _ (heap_lt FT.out) HXR.out).trans FT.out); go_simp)
                                      refine hK.out _ _ ?_ (fun hHeld => ?_)
                                      · (have hh := cell4 GT.out; exact hh)
                                      clear hK K
                                      try simp only [Act.put, List.setIfInBounds_toArray, List.set_cons_zero, List.set_cons_succ]
                                      refine wpAnyH_take (i := 20) (oi := ?_) (v := ?_) ?_ (by kernel_rfl) (by kernel_rfl) (by kernel_rfl) ?_ (Or.inl ⟨?_, ?_⟩) hHeld ?_
                                      rotate_left 2
                                      · (simp only [List.getElem?_toArray, List.getElem?_cons_succ, List.getElem?_cons_zero]; rfl)
                                      · exact fun _ _ _ h => h
                                      · rfl
                                      · (rintro W' ⟨s0, s1, s2, s3⟩; go_simp; first | done | with_reducible rfl)
                                      try simp only [Act.put, List.setIfInBounds_toArray, List.set_cons_zero, List.set_cons_succ]
                                      refine wpAnyH_take (i := 21) (oi := ?_) (v := ?_) ?_ (by kernel_rfl) (by kernel_rfl) (by kernel_rfl) ?_ (Or.inl ⟨?_, ?_⟩) hHeld ?_
                                      rotate_left 2
                                      · (simp only [List.getElem?_toArray, List.getElem?_cons_succ, List.getElem?_cons_zero]; rfl)
                                      · exact fun _ _ _ h => h
                                      · rfl
                                      · (rintro W' ⟨s0, s1, s2, s3⟩; go_simp; first | done | with_reducible rfl)
                                      try simp only [Act.put, List.setIfInBounds_toArray, List.set_cons_zero, List.set_cons_succ]
                                      refine wpAnyH_take (i := 22) (oi := ?_) (v := ?_) ?_ (by kernel_rfl) (by kernel_rfl) (by kernel_rfl) ?_ (Or.inl ⟨?_, ?_⟩) hHeld ?_
                                      rotate_left 2
                                      · (simp only [List.getElem?_toArray, List.getElem?_cons_succ, List.getElem?_cons_zero]; rfl)
                                      · exact fun _ _ _ h => h
                                      · rfl
                                      · (rintro W' ⟨s0, s1, s2, s3⟩; go_simp; first | done | with_reducible rfl)
                                      try simp only [Act.put, List.setIfInBounds_toArray, List.set_cons_zero, List.set_cons_succ]
                                      refine wpAnyH_done (by kernel_rfl) ?_ _
                                      go_wp2_with fail
                                      go_meet
                                      exact ⟨_, q0, q1, q2, q3, n0, n1, n2, n3, k0, k1, k2, k3, ev, rfl, rfl, rfl, rfl, Lib.hid (plEnd_mk HS10.out HC5.out HQ.out CR.out HC0.out.size (.inl SZ.out) GB.out)⟩
                              case rest =>
                                obtain ⟨sb', a0', a1', a2', a3', m0', m1', m2', m3', c0', c1'', c2', c3', ev, rfl, rfl, rfl, rfl, HE⟩ := hcut
                                have hst := plEnd_still HS10.out (keep_still F.T) HE.out
                                obtain ⟨hS11, hC11, hev, rfl, rfl⟩ := hst
                                have HR11 := Lib.hid (And.intro hS11 (HC10.out.then hC11 HN4.out))
                                clear hS11 hC11 x0 x1 x2 x3
                                rcases hev with rfl | rfl
                                all_goals
                                  go_wp2_with fail
                                  go_roundg (4 - (r + 1))
                                  case rel => exact ⟨r + 1, by omega, rfl, by go_num, _, _, _, _, _, HR11⟩
                                  case measure => have := Hgg.out; omega

    · obtain rfl : r = 4 := by omega
      go_wp2_with fail
      refine (awake10_at _).mono ?_
      rintro e w9 ⟨rfl, hC9⟩
      go_wp2_with fail
      go_ret
      exact ⟨rfl, (HR.out.2.trans hC9).below (by simp)⟩

end Go.Proofs.Ytnhabpbdpjgiiaa
