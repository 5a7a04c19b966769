/- The reference of leaf: Encode. -/
import Derived.Test.YtjceoheiiohfcaaRefS
namespace Go.Proofs.Ytjceoheiiohfcaa
open Go.RowKit
set_option linter.unusedVariables false
set_option linter.unusedSimpArgs false

/-- What the reference's Encode answers of a right node. -/
def REnc (w : World) (F : Nat → Nat) (e : Ending) (w' : World) : Prop :=
  ∃ g c, e = .returned (.tuple #[.slice (some ⟨g, 0, none⟩) 128 c, .int .i64 0]) ∧ 128 ≤ c ∧ c ≤ maxLen ∧ w.heap.size ≤ g ∧ g < w'.heap.size ∧ BytesAt w' g 0 128 F ∧ Chg [] w w'

theorem seal_short {kind n m : Nat} {f : Nat → Nat} (hn : n ≤ m) (h0 : ∀ i, n ≤ i → f i = 0) : preP kind n f = preP kind m f := by
  funext i
  unfold preP
  by_cases e : i = 0
  · rw [if_pos e, if_pos e]
  · rw [if_neg e, if_neg e]
    by_cases h1 : i < 1 + n
    · rw [if_pos h1, if_pos (by omega)]
    · rw [if_neg h1]
      by_cases h2 : i < 1 + m
      · rw [if_pos h2, h0 _ (by omega)]
      · rw [if_neg h2]
theorem sealP_short {kind n m : Nat} {f : Nat → Nat} (hn : n ≤ m) (h0 : ∀ i, n ≤ i → f i = 0) : sealP kind n f = sealP kind m f := by
  unfold sealP
  rw [seal_short hn h0]
theorem bodyF_zero {n : Nat} {keys vals : Nat → Nat} {k : Nat} : ∀ i, 1 + 16 * k ≤ i → bodyF n keys vals k i = 0 := fun i hi => by
  unfold bodyF
  rw [if_neg (by omega), if_neg (by omega)]
theorem big_cat (n : Nat) (keys vals : Nat → Nat) (k : Nat) : ∀ i, i < 1 + 16 * k + 8 + 8 →
    catF (catF (bodyF n keys vals k) (1 + 16 * k) (bigF (keys k) 8 8)) (1 + 16 * k + 8) (bigF (vals k) 8 8) i = bodyF n keys vals (k + 1) i := fun i hi => by
  rw [← bodyF_step]
  unfold catF putF bigF
  by_cases h1 : i < 1 + 16 * k
  · rw [if_pos (by omega), if_pos h1, if_neg (by omega), if_neg (by omega)]
  · by_cases h2 : i < 1 + 16 * k + 8
    · have e : 8 - 1 - (i - (1 + 16 * k)) = 1 + 16 * k + 8 - 1 - i := by omega
      rw [if_pos h2, if_neg h1, if_pos (by omega), if_neg (by omega), if_pos (by omega), e]
    · have e : 8 - 1 - (i - (1 + 16 * k + 8)) = 1 + 16 * k + 8 + 8 - 1 - i := by omega
      rw [if_neg h2, if_pos (by omega), if_pos (by omega), e]

set_option maxRecDepth 20000 in
set_option maxHeartbeats 1000000 in
theorem renc_bad {w : World} {leaf : Bool} {vk vv : Value} {nk nv : Nat} {keys vals : Nat → Nat} (hk : NumsIn [] w vk nk keys) (hv : NumsIn [] w vv nv vals) (hb : rightB leaf nk nv keys vals = false) :
    Calls Try.prog 13 #[.agg #[.bool leaf, vk, vv]] w fun e w' => e = .returned (.tuple #[.slice none 0 0, .int .i64 30]) ∧ Chg [] w w' := by
  obtain ⟨ak, ck, rfl, _⟩ := hk.cap
  obtain ⟨av, cv, rfl, _⟩ := hv.cap
  have hW := (Chg.refl [] w).alloc (.cells #[.bool leaf, .slice ak nk ck, .slice av nv cv] 24)
  have cR := rright_at (leaf := leaf) (hk.chg hW (by simp)) (hv.chg hW (by simp))
  rw [hb] at cR
  have HW := Lib.hid hW
  clear hk hv hb hW
  go_enter Try.func13, Try.ntmps13
  go_wp2_with fail
  refine cR.mono ?_
  clear cR
  rintro e w1 ⟨rfl, hC1⟩
  have HC1 := Lib.hid (HW.out.trans hC1)
  clear hC1
  go_wp2_with fail
  go_ret2
  exact ⟨rfl, HC1.out⟩

set_option maxRecDepth 20000 in
set_option maxHeartbeats 8000000 in
theorem renc_ok {w : World} {leaf : Bool} {vk vv : Value} {nk nv : Nat} {keys vals : Nat → Nat} (hk : NumsIn [] w vk nk keys) (hv : NumsIn [] w vv nv vals) (hb : rightB leaf nk nv keys vals = true) :
    Calls Try.prog 13 #[.agg #[.bool leaf, vk, vv]] w (REnc w (pageF leaf nk keys vals)) := by
  obtain ⟨n7, rfl⟩ := rightB_bd hb
  obtain ⟨ak, ck, rfl, _⟩ := hk.cap
  obtain ⟨av, cv, rfl, _⟩ := hv.cap
  have hW := (Chg.refl [] w).alloc (.cells #[.bool leaf, .slice ak nv ck, .slice av nv cv] 24)
  have X0 := Lib.hid (new_block w (.cells #[.bool leaf, .slice ak nv ck, .slice av nv cv] 24))
  have K0 := Lib.hid (hk.chg hW (by simp))
  have V0 := Lib.hid (hv.chg hW (by simp))
  have cR := rright_at (leaf := leaf) K0.out V0.out
  rw [hb] at cR
  have HW := Lib.hid hW
  have hu : IntKind.u8.wrap (nv : Int) = (nv : Int) := by simp [IntKind.wrap, IntKind.signed, IntKind.bits]; omega
  have bK := Lib.hid hk.bd
  have bV := Lib.hid hv.bd
  clear hk hv hb hW
  go_enter Try.func13, Try.ntmps13
  go_wp2_with fail
  generalize w.alloc (.cells #[.bool leaf, .slice ak nv ck, .slice av nv cv] 24) = W0 at *
  refine cR.mono ?_
  clear cR
  rintro e w1 ⟨rfl, hC⟩
  have X1 := Lib.hid ((hC.block _ (heap_lt X0.out) (by simp)).trans X0.out)
  have x0 := cell_of_block X1.out 0
  have x1 := cell_of_block X1.out 1
  have x2 := cell_of_block X1.out 2
  simp only [List.getElem?_toArray, List.getElem?_cons_zero, List.getElem?_cons_succ] at x0 x1 x2
  have lx := heap_lt X1.out
  have HC1 := Lib.hid hC
  clear hC X1
  go_wp2_with fail
  clear x0 x1 x2 lx hu
  have HO := Lib.hid (show OwnB (w1.alloc (.cells #[.int .u8 (nv : Int)] 5)) w1.heap.size (.slice (some ⟨w1.heap.size, 0, none⟩) 1 1) 1 (bodyF nv keys vals 0) from own_new.congr fun i hi => by
    obtain rfl : i = 0 := by omega
    unfold bodyF
    rw [if_pos rfl])
  have C2 := Lib.hid (HC1.out.alloc (.cells #[.int .u8 (nv : Int)] 5))
  have sb := HC1.out.size
  clear HC1
  generalize w1.alloc (.cells #[.int .u8 (nv : Int)] 5) = W at *
  generalize w1.heap.size = B at *
  go_loopw [4, 5] (fun v s wr => ∃ k g c, k ≤ nv ∧ s = .int .i64 (k : Int) ∧ v = .slice (some ⟨g, 0, none⟩) (1 + 16 * k) c ∧ OwnB wr B (.slice (some ⟨g, 0, none⟩) (1 + 16 * k) c) (1 + 16 * k) (bodyF nv keys vals k) ∧ Chg [] W0 wr) (fun _ s _ => nv - (intOf s).toNat)
  case atStart => exact ⟨0, B, 1, Nat.zero_le _, rfl, rfl, HO.out, C2.out⟩
  case round =>
    obtain ⟨k, g, c, hk, rfl, rfl, hO, hC⟩ := hrel
    have HO := Lib.hid hO
    have HC := Lib.hid hC
    have hX := (hC.block _ (heap_lt X0.out) (by simp)).trans X0.out
    have HX := Lib.hid hX
    have x0 := cell_of_block hX 0
    have x1 := cell_of_block hX 1
    have x2 := cell_of_block hX 2
    simp only [List.getElem?_toArray, List.getElem?_cons_zero, List.getElem?_cons_succ] at x0 x1 x2
    have lx := heap_lt hX
    obtain ⟨_, _, e0, hg1, hg2, _, _, hBB⟩ := hO.out (by omega) (fun i _ => bodyF_le keys vals k i (by omega))
    injection e0 with e0 _ e1
    injection e0 with e0
    injection e0 with e0
    subst e0 e1
    have HBB := Lib.hid hBB
    clear hO hC hX hBB C2
    by_cases hkn : k < nv
    · have j0 : (0 : Int) ≤ (k : Int) := by omega
      have j1 : (k : Int) < (nv : Int) := by omega
      obtain ⟨kb, ko, rfl, kl, _, kc⟩ := K0.out.get hkn
      obtain ⟨vb, vo, rfl, vl, _, vc⟩ := V0.out.get hkn
      have c1 := (HC.out.cell (p := ⟨kb, ko + k, none⟩) kl (by simp)).trans (kc k hkn).1
      have VC := Lib.hid ((HC.out.cell (p := ⟨vb, vo + k, none⟩) vl (by simp)).trans (vc k hkn).1)
      have vl2 := Nat.lt_of_lt_of_le vl HC.out.size
      clear kc vc
      have cK := rbytes_at (keys k) 8 (bK.out k hkn) (by omega) wr
      go_wp2_with fail
      refine cK.mono ?_
      clear cK x0 x1 x2 lx
      rintro e w2 ⟨bb, rfl, hB2, hC2⟩
      have X2 := (hC2.block _ (heap_lt HX.out) (by simp)).trans HX.out
      have x0 := cell_of_block X2 0
      have x1 := cell_of_block X2 1
      have x2 := cell_of_block X2 2
      simp only [List.getElem?_toArray, List.getElem?_cons_zero, List.getElem?_cons_succ] at x0 x1 x2
      have lx := heap_lt X2
      have c2 := (hC2.cell (p := ⟨vb, vo + k, none⟩) vl2 (by simp)).trans VC.out
      have HB2 := Lib.hid hB2
      have HC2 := Lib.hid hC2
      have sz2 := heap_lt hB2
      have cV := rbytes_at (vals k) 8 (bV.out k hkn) (by omega) w2
      clear hB2 hC2 X2
      go_wp2_with fail
      refine cV.mono ?_
      clear cV x0 x1 x2 lx
      rintro e w3 ⟨bb', rfl, hB3, hC3⟩
      have hB2' := (hC3.block _ (heap_lt HB2.out) (by simp)).trans HB2.out
      have y1 := BytesAt.of_block hB2' (fun i _ => by unfold bigF; split; exact byteAt_le _ _; omega) (off := 0) (n := 8) (by omega)
      have y2 := BytesAt.of_block hB3 (fun i _ => by unfold bigF; split; exact byteAt_le _ _; omega) (off := 0) (n := 8) (by omega)
      simp only [Nat.zero_add] at y1 y2
      have Y1 := Lib.hid y1
      have Y2 := Lib.hid y2
      have HO3 := Lib.hid (HO.out.keep (HC2.out.trans hC3))
      have HC3 := Lib.hid (HC.out.trans (HC2.out.trans hC3))
      have sz3 := hC3.size
      have sz23 := HC2.out.size
      have szB : B ≤ w3.heap.size := by omega
      clear hB2' hB3 hC3 y1 y2 HB2 HC2 c1 c2
      go_wp2_with (refine wpList_appB rfl (.tmp 43) (.tmp 44) rfl B _ (1 + 16 * k) (bodyF nv keys vals k) rfl HO3.out wr.heap.size 0 8 8 (bigF (keys k) 8 8) rfl Y1.out (by omega) szB ?_)
      intro v4 w4 hown hgrow
      have hc4 : Chg [g] w3 w4 := (Chg.refl _ _).grown hgrow (by simp [Value.ownBlock])
      have Y3 := Lib.hid (Y2.out.chg hc4 (by simp; omega))
      have HC4 := Lib.hid (HC3.out.own HO3.out hgrow sb)
      have HO4 := Lib.hid hown
      have szB4 : B ≤ w4.heap.size := Nat.le_trans szB hc4.size
      clear hown hgrow hc4
      go_wp2_with (refine wpList_appB rfl (.tmp 45) (.tmp 46) rfl B _ (1 + 16 * k + 8) _ rfl HO4.out w2.heap.size 0 8 8 (bigF (vals k) 8 8) rfl Y3.out (by omega) szB4 ?_)
      intro v5 w5 hown hgrow
      have hown' := hown.congr (big_cat nv keys vals k)
      have HC5 := Lib.hid (HC4.out.own HO4.out hgrow sb)
      have en : 1 + 16 * k + 8 + 8 = 1 + 16 * (k + 1) := by omega
      rw [en] at hown'
      obtain ⟨g5, c5, rfl, _⟩ := hown'.out (by omega) (fun i _ => bodyF_le keys vals (k + 1) i (by omega))
      have HO5 := Lib.hid hown'
      clear hown hgrow hown' en
      go_wp2_with fail
      go_roundw
      case rel => exact ⟨k + 1, g5, c5, by omega, by go_num, rfl, HO5.out, HC5.out⟩
      case measure => simp [intOf]; omega
    · obtain rfl : k = nv := by omega
      have hsl := sealP_short (kind := kindOf leaf) (n := 1 + 16 * k) (m := 123) (f := bodyF k keys vals k) (by omega) bodyF_zero
      cases leaf with
      | true =>
        have cS := rseal_at (cap := c) HBB.out (by omega) 1 (by omega)
        have Hsl := Lib.hid hsl
        clear hsl
        go_wp2_with fail
        refine cS.mono ?_
        clear cS
        rintro e w2 ⟨g2, c2, rfl, p1, p2, p3, p4, p5, hC2⟩
        have HP := Lib.hid (And.intro p5 (HW.out.trans (HC.out.trans hC2)))
        have sz := HW.out.size
        have sz2 := HC.out.size
        clear p5 hC2
        go_wp2_with fail
        go_ret2
        refine ⟨g2, c2, rfl, p1, p2, by omega, p4, ?_, HP.out.2⟩
        have := HP.out.1
        unfold pageF
        rw [← Hsl.out]
        exact this
      | false =>
        have cS := rseal_at (cap := c) HBB.out (by omega) 2 (by omega)
        have Hsl := Lib.hid hsl
        clear hsl
        go_wp2_with fail
        refine cS.mono ?_
        clear cS
        rintro e w2 ⟨g2, c2, rfl, p1, p2, p3, p4, p5, hC2⟩
        have HP := Lib.hid (And.intro p5 (HW.out.trans (HC.out.trans hC2)))
        have sz := HW.out.size
        have sz2 := HC.out.size
        clear p5 hC2
        go_wp2_with fail
        go_ret2
        refine ⟨g2, c2, rfl, p1, p2, by omega, p4, ?_, HP.out.2⟩
        have := HP.out.1
        unfold pageF
        rw [← Hsl.out]
        exact this

end Go.Proofs.Ytjceoheiiohfcaa
