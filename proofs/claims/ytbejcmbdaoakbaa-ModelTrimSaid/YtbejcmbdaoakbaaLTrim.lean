/- catchmentlaw24.ModelTrim: the walk. (Printed by mktrim.py.) -/
import Derived.Test.YtbejcmbdaoakbaaSoQ
namespace Go.Proofs.Ytbejcmbdaoakbaa
open Go.RowKit Go.Sort Go.Maps
set_option linter.unusedVariables false
set_option linter.unusedSimpArgs false

set_option maxRecDepth 100000 in
set_option maxHeartbeats 16000000 in
theorem modelTrim_walk (a0 : Int) (a1 : Option Addr) (len1 cap1 : Nat) (z1 : Nat → Opn) (a2 a3 a4 : Int) (w : World) (h0 : (Lit.int .u8 a0).wf = true) (h1 : IsOps w a1 len1 cap1 z1) (h2 : (Lit.int .u8 a2).wf = true) (h3 : (Lit.int .u64 a3).wf = true) (h4 : (Lit.int .u64 a4).wf = true) :
    Calls Try.prog 8 #[.int .u8 a0, .slice a1 len1 cap1, .int .u8 a2, .int .u64 a3, .int .u64 a4] w (LawOk w) := by
  have hb := bd_u8 h0
  have hb2 := bd_u8 h2
  have hb3 := bd_u64 h3
  have hb4 := bd_u64 h4
  obtain ⟨sz, rfl, hsz⟩ : ∃ sz : Nat, a0 = (sz : Int) ∧ sz ≤ 255 := ⟨a0.toNat, by omega, by omega⟩
  obtain ⟨wh, rfl, hwh⟩ : ∃ n : Nat, a2 = (n : Int) ∧ n ≤ 255 := ⟨a2.toNat, by omega, by omega⟩
  obtain ⟨ta, rfl, hta⟩ : ∃ n : Nat, a3 = (n : Int) ∧ n < 18446744073709551616 := ⟨a3.toNat, by omega, by omega⟩
  obtain ⟨tn, rfl, htn⟩ : ∃ n : Nat, a4 = (n : Int) ∧ n < 18446744073709551616 := ⟨a4.toNat, by omega, by omega⟩
  have HI1 := Lib.hid h1
  have HSZ := Lib.hid hsz
  clear h0 h1 h2 h3 h4 hb hb2 hb3 hb4 hsz
  have HTA := Lib.hid hta
  have HTN := Lib.hid htn
  clear hta htn
  go_enter Try.func8, Try.ntmps8
  go_wp2_with fail
  refine (after_at HSZ.out HI1.out).mono ?_
  rintro e w1 ⟨p, L, rfl, hM, hL, hC1⟩
  unfold aPtr
  have hsz1 : (runS (St.new (1 + sz)) z1 (min len1 60)).size = 1 + sz := run_size _ _ _
  obtain ⟨S, hS⟩ : ∃ S, S = runS (St.new (1 + sz)) z1 (min len1 60) := ⟨_, rfl⟩
  rw [← hS] at hM hsz1
  have HM := Lib.hid hM
  have HL := Lib.hid hL
  have HC1 := Lib.hid hC1
  have HSS : Hid (S.size ≤ 256) := Lib.hid (by rw [hsz1]; have := HSZ.out; omega)
  clear hM hL hC1 hS hsz1
  go_wp2_with fail
  refine (volumes_at HM.out (by omega)).mono ?_
  rintro e w2 ⟨v, l, rfl, hI, hU, hlN, hC2⟩
  have HI := Lib.hid hI
  have HU := Lib.hid hU
  have HM2 := Lib.hid (HM.out.chg hC2 (by simp))
  have HC2 : Hid (Chg [] w w2) := Lib.hid (HC1.out.trans hC2)
  clear hI hU hC2
  by_cases hl0 : l = []
  · have hv : v = .slice none 0 0 := by
      rcases HU.out with ⟨_, h⟩ | ⟨h, _⟩
      · exact h
      · exact absurd hl0 h
    subst hv
    clear hl0
    go_wp2_with fail
    refine (awake24_at).mono ?_
    rintro e wz ⟨rfl, hZ⟩
    have HZ := Lib.hid (HC2.out.trans hZ)
    clear hZ
    go_wp2_with fail
    go_ret
    exact law_ok HZ.out
  · obtain ⟨g, c, hv, hlc, hcell⟩ := HU.out.cell hl0
    subst hv
    have hlp : 0 < l.length := List.length_pos_iff.2 hl0
    obtain ⟨n, hn⟩ : ∃ n, n = l.length := ⟨_, rfl⟩
    rw [← hn] at hcell hlc hlN hlp
    obtain ⟨ix, hix⟩ : ∃ ix, ix = wh % n := ⟨_, rfl⟩
    have hixl : ix < n := by rw [hix]; exact Nat.mod_lt _ hlp
    have em : (wh : Int) % (n : Int) = (ix : Int) := by rw [hix]; omega
    have et : (wh : Int).tmod (n : Int) = (ix : Int) := by rw [Int.tmod_eq_emod_of_nonneg (by omega)]; exact em
    have ew : IntKind.i64.wrap (wh : Int) = (wh : Int) := IntWalk.i64_in _ (by omega)
    obtain ⟨vol, hvol⟩ : ∃ vol, vol = l[ix]! := ⟨_, rfl⟩
    have hc0 := hcell ix hixl
    rw [← hvol] at hc0
    have hml : vol ∈ l := by rw [hvol, getElem!_pos l ix (by omega)]; exact List.getElem_mem _
    have HVL := Lib.hid (id_lt HM.out HI.out vol hml).2
    obtain ⟨D, hD⟩ : ∃ D, S.vols (kU vol) = some D := by
      have := (HI.out.2 vol).1 hml
      exact Option.isSome_iff_exists.1 this
    have HD := Lib.hid hD
    have hlI : ((n : Int) == 0) = false := by simp; omega
    have hl0I : ¬ (n : Int) = 0 := by omega
    have hl0N : ¬ n = 0 := by omega
    have hln : (n : Int) ≤ 60 := by omega
    have i1 : (ix : Int) < (n : Int) := by omega
    have Hn := Lib.hid hn
    rw [← hn]
    have HIX := Lib.hid hix
    have HVO := Lib.hid hvol
    clear hl0 hcell hml hD hvol hix hn
    go_upto_region 7 with fail
    have hglt : g < w2.heap.size := World.block_lt_of_cell? w2 ⟨g, ix, none⟩ hc0
    refine wp_region_held_drew (S := fun W' => W'.cell? ⟨g, ix, none⟩ = some (.int .u64 (vol : Int))) (by kernel_rfl) (by exact hc0) (fun hHeld => ?_)
    refine wpAnyH_take (i := 0) (oi := ?_) (v := ?_) ?_ (by kernel_rfl) (by kernel_rfl) (by kernel_rfl) ?_ (Or.inl ⟨?_, ?_⟩) hHeld ?_
    rotate_left 2
    · (simp only [List.getElem?_toArray, List.getElem?_cons_succ, List.getElem?_cons_zero]; rfl)
    · exact fun _ _ _ h => h
    · rfl
    · (intro w hSw; go_simp; first | done | with_reducible rfl)
    try simp only [Act.put, List.setIfInBounds_toArray, List.set_cons_zero, List.set_cons_succ]
    refine wpAnyH_take (i := 1) (oi := ?_) (v := ?_) ?_ (by kernel_rfl) (by kernel_rfl) (by kernel_rfl) ?_ (Or.inl ⟨?_, ?_⟩) hHeld ?_
    rotate_left 2
    · (simp only [List.getElem?_toArray, List.getElem?_cons_succ, List.getElem?_cons_zero]; rfl)
    · exact fun _ _ _ h => h
    · rfl
    · (intro w hSw; go_simp; first | done | with_reducible rfl)
    try simp only [Act.put, List.setIfInBounds_toArray, List.set_cons_zero, List.set_cons_succ]
    refine wpAnyH_take (i := 2) (oi := ?_) (v := ?_) ?_ (by kernel_rfl) (by kernel_rfl) (by kernel_rfl) ?_ (Or.inl ⟨?_, ?_⟩) hHeld ?_
    rotate_left 2
    · (simp only [List.getElem?_toArray, List.getElem?_cons_succ, List.getElem?_cons_zero]; rfl)
    · exact fun _ _ _ h => h
    · rfl
    · (intro w hSw; go_simp; first | done | with_reducible rfl)
    try simp only [Act.put, List.setIfInBounds_toArray, List.set_cons_zero, List.set_cons_succ]
    refine wpAnyH_take (i := 3) (oi := ?_) (v := ?_) ?_ (by kernel_rfl) (by kernel_rfl) (by kernel_rfl) ?_ (Or.inl ⟨?_, ?_⟩) hHeld ?_
    rotate_left 2
    · (simp only [List.getElem?_toArray, List.getElem?_cons_succ, List.getElem?_cons_zero]; rfl)
    · exact fun _ _ _ h => h
    · rfl
    · (intro w hSw; go_simp; first | done | with_reducible rfl)
    try simp only [Act.put, List.setIfInBounds_toArray, List.set_cons_zero, List.set_cons_succ]
    refine wpAnyH_take (i := 4) (oi := ?_) (v := ?_) ?_ (by kernel_rfl) (by kernel_rfl) (by kernel_rfl) ?_ (Or.inl ⟨?_, ?_⟩) hHeld ?_
    rotate_left 2
    · (simp only [List.getElem?_toArray, List.getElem?_cons_succ, List.getElem?_cons_zero]; rfl)
    · exact fun _ _ _ h => h
    · rfl
    · (intro w hSw; go_simp; first | done | with_reducible rfl)
    try simp only [Act.put, List.setIfInBounds_toArray, List.set_cons_zero, List.set_cons_succ]
    refine wpAnyH_take (i := 5) (oi := ?_) (v := ?_) ?_ (by kernel_rfl) (by kernel_rfl) (by kernel_rfl) ?_ (Or.inl ⟨?_, ?_⟩) hHeld ?_
    rotate_left 2
    · (simp only [List.getElem?_toArray, List.getElem?_cons_succ, List.getElem?_cons_zero]; rfl)
    · exact fun _ _ _ h => h
    · rfl
    · (intro w hSw; go_simp; first | done | with_reducible rfl)
    try simp only [Act.put, List.setIfInBounds_toArray, List.set_cons_zero, List.set_cons_succ]
    refine wpAnyH_take (i := 6) (oi := ?_) (v := ?_) ?_ (by kernel_rfl) (by kernel_rfl) (by kernel_rfl) ?_ (Or.inl ⟨?_, ?_⟩) hHeld ?_
    rotate_left 2
    · (simp only [List.getElem?_toArray, List.getElem?_cons_succ, List.getElem?_cons_zero]; rfl)
    · exact fun _ _ _ h => h
    · rfl
    · (intro w hSw; go_simp; first | done | with_reducible rfl)
    try simp only [Act.put, List.setIfInBounds_toArray, List.set_cons_zero, List.set_cons_succ]
    refine wpAnyH_take (i := 7) (oi := ?_) (v := ?_) ?_ (by kernel_rfl) (by kernel_rfl) (by kernel_rfl) ?_ (Or.inl ⟨?_, ?_⟩) hHeld ?_
    rotate_left 2
    · (simp only [List.getElem?_toArray, List.getElem?_cons_succ, List.getElem?_cons_zero]; rfl)
    · exact fun _ _ _ h => h
    · rfl
    · (intro w hSw; go_simp; first | done | with_reducible rfl)
    try simp only [Act.put, List.setIfInBounds_toArray, List.set_cons_zero, List.set_cons_succ]
    refine wpAnyH_take (i := 8) (oi := ?_) (v := ?_) ?_ (by kernel_rfl) (by kernel_rfl) (by kernel_rfl) ?_ (Or.inl ⟨?_, ?_⟩) hHeld ?_
    rotate_left 2
    · (simp only [List.getElem?_toArray, List.getElem?_cons_succ, List.getElem?_cons_zero]; rfl)
    · exact fun _ _ _ h => h
    · rfl
    · (intro w hSw; go_simp; first | done | with_reducible rfl)
    try simp only [Act.put, List.setIfInBounds_toArray, List.set_cons_zero, List.set_cons_succ]
    refine wpAnyH_ready (rs := [9]) (by kernel_rfl) (by simp) ?_
    refine AllReadyH.cons (o := ?_) ?_ (fun K hK => ?_) AllReadyH.nil
    rotate_left 1
    · (simp only [List.getElem?_toArray, List.getElem?_cons_succ, List.getElem?_cons_zero]; rfl)
    go_simp
    (go_simp; refine (copy_at (HM2.out.chg (Chg.drew (Chg.refl [] _)) (by simp)) (by omega)).mono ?_; rintro e w3 ⟨q, L2, rfl, hM3, hL3, hC3⟩; have HM3 := Lib.hid hM3; have HL3 : Hid (∀ b, b ∈ L2 → w2.heap.size ≤ b) := Lib.hid hL3; have HC3 := Lib.hid ((Chg.refl [] w2).drew.trans hC3); clear hM3 hL3 hC3)
    refine hK.out _ _ ?_ (fun hHeld => ?_)
    · (exact (HC3.out.cell (p := ⟨g, ix, none⟩) hglt (by simp)).trans hc0)
    clear hK K
    try simp only [Act.put, List.setIfInBounds_toArray, List.set_cons_zero, List.set_cons_succ]
    refine wpAnyH_take (i := 10) (oi := ?_) (v := ?_) ?_ (by kernel_rfl) (by kernel_rfl) (by kernel_rfl) ?_ (Or.inl ⟨?_, ?_⟩) hHeld ?_
    rotate_left 2
    · (simp only [List.getElem?_toArray, List.getElem?_cons_succ, List.getElem?_cons_zero]; rfl)
    · exact fun _ _ _ h => h
    · rfl
    · (intro w hSw; go_simp; first | done | with_reducible rfl)
    try simp only [Act.put, List.setIfInBounds_toArray, List.set_cons_zero, List.set_cons_succ]
    refine wpAnyH_take (i := 11) (oi := ?_) (v := ?_) ?_ (by kernel_rfl) (by kernel_rfl) (by kernel_rfl) ?_ (Or.inl ⟨?_, ?_⟩) hHeld ?_
    rotate_left 2
    · (simp only [List.getElem?_toArray, List.getElem?_cons_succ, List.getElem?_cons_zero]; rfl)
    · exact fun _ _ _ h => h
    · rfl
    · (intro w hSw; go_simp; first | done | with_reducible rfl)
    try simp only [Act.put, List.setIfInBounds_toArray, List.set_cons_zero, List.set_cons_succ]
    refine wpAnyH_done (by kernel_rfl) ?_ _
    unfold aPtr
    have HMm := Lib.hid (HM2.out.chg HC3.out (by simp))
    have HAP : Hid (∀ b, b ∈ L → b ∉ L2) := Lib.hid (fun b h1 h2 => by have a1 := HM2.out.lt b h1; have a2 := HL3.out b h2; omega)
    have HLw : Hid (∀ b, b ∈ L2 → w.heap.size ≤ b) := Lib.hid (fun b h => Nat.le_trans HC2.out.size (HL3.out b h))
    have HC : Hid (Chg [] w w3) := Lib.hid (HC2.out.trans HC3.out)
    have HLm3 : Hid (∀ b, b ∈ L → b < w3.heap.size) := Lib.hid HMm.out.lt
    have HLq3 : Hid (∀ b, b ∈ L2 → b < w3.heap.size) := Lib.hid HM3.out.lt
    clear em et ew hc0 i1 hlI hl0I hl0N hglt
    go_upto_region 9 with fail
    have hW : Chg [] w3 (w3.alloc (.cells #[.int .u8 6, .int .u64 (vol : Int), .int .u64 (ta : Int), .int .u64 (tn : Int), .slice none 0 0] 26)) := (Chg.refl [] w3).alloc _
    have hG := new_block w3 (.cells #[.int .u8 6, .int .u64 (vol : Int), .int .u64 (ta : Int), .int .u64 (tn : Int), .slice none 0 0] 26)
    generalize w3.alloc (.cells #[.int .u8 6, .int .u64 (vol : Int), .int .u64 (ta : Int), .int .u64 (tn : Int), .slice none 0 0] 26) = W at *
    have HW := Lib.hid hW
    have o0 := cell_of_block hG 0
    have o1 := cell_of_block hG 1
    have o2 := cell_of_block hG 2
    have o3 := cell_of_block hG 3
    have o4 := cell_of_block hG 4
    simp only [List.getElem?_toArray, List.getElem?_cons_zero, List.getElem?_cons_succ] at o0 o1 o2 o3 o4
    have HG := Lib.hid hG
    have HMa := Lib.hid (HMm.out.chg hW (by simp))
    have HQa := Lib.hid (HM3.out.chg hW (by simp))
    have HCa : Hid (Chg [] w W) := Lib.hid (HC.out.trans hW)
    clear hW hG HMm HM3 HC HC2 HM2
    obtain ⟨m, hm⟩ : ∃ m, m = S.size := ⟨_, rfl⟩
    have hm6 : m ≤ 256 := by have := HSS.out; omega
    have Hm := Lib.hid hm
    clear hm
    by_cases hin : ta < m ∧ tn ≤ m - ta
    · have hst := tr_st (S := S) (v := vol) (a := ta) (n := tn) HD.out (by rw [← Hm.out]; exact hin)
      have hrp := tr_rep (S := S) (v := vol) (a := ta) (n := tn) HD.out (by rw [← Hm.out]; exact hin)
      obtain ⟨D', hD'⟩ : ∃ D', D' = Lib.deleteFuncD (pdT ta tn) D := ⟨_, rfl⟩
      rw [← hD'] at hst hrp
      obtain ⟨kc, hkc⟩ : ∃ kc, kc = size D - size D' := ⟨_, rfl⟩
      rw [← hkc] at hrp
      have cd := do_at HMa.out (by omega) (tr_isOp W HVL.out HTA.out HTN.out)
      rw [hst, hrp] at cd
      unfold opV at cd
      obtain ⟨S', hS'⟩ : ∃ S', S' = S.setVol vol D' := ⟨_, rfl⟩
      rw [← hS'] at cd
      have HV' : Hid (S'.vols (kU vol) = some D') := Lib.hid (by rw [hS']; exact set_vol)
      have HZ' : Hid (S'.size = m) := Lib.hid (by rw [hS', Hm.out]; rfl)
      have HS' := Lib.hid hS'
      have CD := Lib.hid cd
      have HD' := Lib.hid hD'
      have HKC := Lib.hid hkc
      clear cd hst hrp hD' hkc hS'
      go_wp2_with fail
      refine CD.out.mono ?_
      rintro e w4 ⟨L4, ra, rc, rfl, hM4, hL4, hB4, hF4, hC4⟩
      have HM4 := Lib.hid hM4
      have HL4 := Lib.hid hL4
      have HB4 := Lib.hid hB4
      have HC4 := Lib.hid hC4
      clear hM4 hL4 hB4 hF4 hC4 CD
      unfold repV
      go_upto_region 10 with fail
      have hV : Chg [] w4 (w4.alloc (.cells #[.int .i64 0, .int .u64 0, .slice ra 0 rc, .int .i64 (kc : Int)] 32)) := (Chg.refl [] w4).alloc _
      have hR := new_block w4 (.cells #[.int .i64 0, .int .u64 0, .slice ra 0 rc, .int .i64 (kc : Int)] 32)
      generalize w4.alloc (.cells #[.int .i64 0, .int .u64 0, .slice ra 0 rc, .int .i64 (kc : Int)] 32) = V at *
      have HP := Lib.hid (HM4.out.chg hV (by simp))
      have HQ := Lib.hid ((HQa.out.chg HC4.out (fun b h2 h1 => HAP.out b h1 h2)).chg hV (by simp))
      have HRB := Lib.hid (HB4.out.chg hV (by simp))
      have HCV : Hid (Chg [] w V) := Lib.hid ((HCa.out.then HC4.out (fun b hb => .inr (HL.out b hb))).trans hV)
      have HRC := Lib.hid hR
      have hoL : w3.heap.size ∉ L := fun hb => by have := HLm3.out _ hb; omega
      have HOC := Lib.hid ((hV.block _ (Nat.lt_of_lt_of_le (heap_lt HG.out) HC4.out.size) (by simp)).trans ((HC4.out.block _ (heap_lt HG.out) hoL).trans HG.out))
      have hww : w3.heap.size < w4.heap.size := Nat.lt_of_lt_of_le (heap_lt HG.out) HC4.out.size
      have HAP4 : Hid (∀ b, b ∈ L4 → b ∉ L2 ∧ b ≠ w3.heap.size ∧ b ≠ w4.heap.size) := Lib.hid (fun b hb => by
        have a4 := HM4.out.lt b hb
        refine ⟨fun h2 => ?_, ?_, by omega⟩
        · rcases HL4.out b hb with h | h
          · exact HAP.out b h h2
          · have := HQa.out.lt b h2; omega
        · rcases HL4.out b hb with h | h
          · intro e; rw [e] at h; exact hoL h
          · have := heap_lt HG.out; omega)
      have HLw4 : Hid (∀ b, b ∈ L4 → w.heap.size ≤ b) := Lib.hid (fun b hb => by
        rcases HL4.out b hb with h | h
        · exact HL.out b h
        · exact Nat.le_trans HCa.out.size h)
      have HQ2 : Hid (∀ b, b ∈ L2 → b ≠ w3.heap.size ∧ b ≠ w4.heap.size) := Lib.hid (fun b hb => by have := HLq3.out b hb; have := hww; exact ⟨by omega, by omega⟩)
      have hS := size_at HP.out
      rw [HZ'.out] at hS
      have CZ := Lib.hid hS
      clear hS hV hR o0 o1 o2 o3 o4 hoL hww
      have t1 : ¬ (m : Int) ≤ (ta : Int) := by omega
      have t2 : ¬ (tn : Int) > (m : Int) - (ta : Int) := by omega
      have t3 : IntKind.u64.wrap ((m : Int) - (ta : Int)) = (m : Int) - (ta : Int) := by rw [IntKind.wrap_u64]; omega
      have cpl := places_at HQ.out (by omega) HVL.out
      have CPL := Lib.hid cpl
      clear cpl
      go_wp2_with fail
      refine CZ.out.mono ?_
      rintro e w' ⟨rfl, rfl⟩
      go_wp2_with fail
      refine CZ.out.mono ?_
      rintro e w' ⟨rfl, rfl⟩
      go_wp2_with fail
      refine CPL.out.mono ?_
      rintro e w5 ⟨v5, pl, rfl, hpl, hU5, hC5⟩
      rw [HD.out] at hpl
      have HPL := Lib.hid hpl
      have HU5 := Lib.hid hU5
      have HC5 := Lib.hid hC5
      have HPN : Hid (pl.length ≤ 60) := Lib.hid (by rw [← pl_size (good_of HQ.out HD.out) hpl]; exact vol_size HQ.out HD.out)
      clear hpl hU5 hC5 CPL
      have hsv : ∃ a k, v5 = .slice a pl.length k := by
        rcases HU5.out with ⟨q, e⟩ | ⟨_, g, c, e, _⟩
        · exact ⟨none, 0, by rw [e, q]; rfl⟩
        · exact ⟨_, c, e⟩
      obtain ⟨a5, k5, rfl⟩ := hsv
      obtain ⟨np, hnp⟩ : ∃ np, np = pl.length := ⟨_, rfl⟩
      rw [← hnp]
      have hnp6 : np ≤ 60 := by rw [hnp]; exact HPN.out
      have HNP := Lib.hid hnp
      clear hnp t1 t2 t3
      have u3 : IntKind.u64.wrap ((ta : Int) + (tn : Int)) = (ta : Int) + (tn : Int) := by rw [IntKind.wrap_u64]; omega
      go_wp2_with fail
      go_loop [17, 80] (fun s u => ∃ k : Nat, k ≤ np ∧ u = .int .i64 (k : Int) ∧ s = .int .i64 ((((pl.take k).filter (inT ta tn)).length : Nat) : Int)) (fun _ u => np - (intOf u).toNat)
      case atStart => exact ⟨0, Nat.zero_le _, by go_num, by simp⟩
      case round =>
        obtain ⟨k, hk, rfl, rfl⟩ := hrel
        obtain ⟨wn, hwn⟩ : ∃ wn, wn = ((pl.take k).filter (inT ta tn)).length := ⟨_, rfl⟩
        have hwk : wn ≤ k := by rw [hwn]; exact Nat.le_trans (List.length_filter_le _ _) (by simp; omega)
        rw [← hwn]
        have HWN := Lib.hid hwn
        clear hwn
        by_cases hkn : k < np
        · have hpl0 : pl ≠ [] := fun e => by have := HNP.out; rw [e] at this; simp at this; omega
          obtain ⟨g5, c5, e5, _, hc5⟩ := HU5.out.cell hpl0
          injection e5 with e5a e5b e5c
          subst e5a
          obtain ⟨x, hx⟩ : ∃ x, x = pl[k]! := ⟨_, rfl⟩
          have cx := hc5 k (by rw [← HNP.out]; exact hkn)
          rw [← hx] at cx
          have htk := takeF_succ (inT ta tn) pl k (by rw [← HNP.out]; exact hkn)
          rw [← hx, ← HWN.out] at htk
          have HTK := Lib.hid htk
          have i1 : (k : Int) < (np : Int) := by omega
          clear hc5 hx htk e5b e5c hpl0
          by_cases hxa : ta ≤ x
          · have j1 : (ta : Int) ≤ (x : Int) := by omega
            by_cases hxb : x < ta + tn
            · have j2 : (x : Int) < (ta : Int) + (tn : Int) := by omega
              have HT1 : Hid (inT ta tn x = true) := Lib.hid (by unfold inT; simp [hxa, hxb])
              go_wp2_with fail
              go_round
              case rel => exact ⟨k + 1, by omega, by go_num, by rw [HTK.out, HT1.out]; go_num⟩
              case measure => simp [intOf]; omega
            · have j2 : ¬ (x : Int) < (ta : Int) + (tn : Int) := by omega
              have HT1 : Hid (inT ta tn x = false) := Lib.hid (by unfold inT; simp [hxa, hxb])
              go_wp2_with fail
              go_round
              case rel => exact ⟨k + 1, by omega, by go_num, by rw [HTK.out, HT1.out]; simp⟩
              case measure => simp [intOf]; omega
          · have j1 : ¬ (ta : Int) ≤ (x : Int) := by omega
            have HT1 : Hid (inT ta tn x = false) := Lib.hid (by unfold inT; simp [hxa])
            go_wp2_with fail
            go_round
            case rel => exact ⟨k + 1, by omega, by go_num, by rw [HTK.out, HT1.out]; simp⟩
            case measure => simp [intOf]; omega
        · obtain rfl : k = np := by omega
          have HWF : Hid (wn = (pl.filter (inT ta tn)).length) := Lib.hid (by rw [HWN.out, HNP.out, List.take_length])
          have hwl : wn ≤ 60 := by omega
          clear u3
          have HT0 : Hid (Two24 w w5 p q [w3.heap.size, w4.heap.size] L4 L2 61 60 S' S) := Lib.hid {
            m := HP.out.chg HC5.out (by simp), q := HQ.out.chg HC5.out (by simp), ap := fun x hx => (HAP4.out x hx).1
            nl := fun x hx => ⟨HLw4.out x hx, by simp; exact (HAP4.out x hx).2⟩, nm := fun x hx => ⟨HLw.out x hx, by simp; exact HQ2.out x hx⟩
            xl := fun x hx => by
              simp only [List.mem_cons, List.not_mem_nil, or_false] at hx
              have s5 := HC5.out.size
              rcases hx with rfl | rfl
              · have := heap_lt HOC.out; omega
              · have := heap_lt HRC.out; omega
            chg := HCV.out.trans HC5.out }
          have HOw := Lib.hid ((HC5.out.block _ (heap_lt HOC.out) (by simp)).trans HOC.out)
          have HRw := Lib.hid ((HC5.out.block _ (heap_lt HRC.out) (by simp)).trans HRC.out)
          have hS := size_at HT0.out.m
          rw [HZ'.out] at hS
          have CZ5 := Lib.hid hS
          clear hS
          go_wp2_with fail
          refine CZ5.out.mono ?_
          rintro e w' ⟨rfl, rfl⟩
          clear CZ5 CZ
          go_wp2_with fail
          go_loopg [99] m (fun gg s wr => ∃ k : Nat, gg = m - k ∧ k ≤ m ∧ s = .int .u64 (k : Int) ∧ Hid (∃ L5 L6, Two24 w wr p q [w3.heap.size, w4.heap.size] L5 L6 (61 + k) (60 + k) S' S ∧ wr.heap[w3.heap.size]? = w5.heap[w3.heap.size]? ∧ wr.heap[w4.heap.size]? = w5.heap[w4.heap.size]?))
          case atStart => exact ⟨0, rfl, Nat.zero_le _, by go_num, ⟨L4, L2, HT0.out, rfl, rfl⟩⟩
          case round =>
            obtain ⟨kk, hgg, hkm, rfl, hX⟩ := hrel
            obtain ⟨wo, rfl⟩ : ∃ wo : World, wo = wr := ⟨_, rfl⟩
            obtain ⟨L5, L6, hT, hO5, hR5⟩ := hX.out
            have HT := Lib.hid hT
            have HO5 := Lib.hid hO5
            have HR5 := Lib.hid hR5
            have HGG := Lib.hid hgg
            clear hT hO5 hR5 hX hgg
            by_cases hkk : kk < m
            · have i1 : (kk : Int) < (m : Int) := by omega
              have c1 := read_ok HT.out.m (by omega) HVL.out HV'.out (q := kk) (by rw [HZ'.out]; exact hkk)
              have C1 := Lib.hid c1
              clear c1
              go_wp2_with fail
              refine C1.out.mono ?_
              rintro e w6 ⟨L7, a6, c6, rfl, hM6, hL6, hB6, hF6, hC6⟩
              have HT6 := Lib.hid (HT.out.one hM6 hL6 hC6)
              have HK6 := Lib.hid (And.intro (HT.out.kept1 hC6 (x := w3.heap.size) (by simp)) (HT.out.kept1 hC6 (x := w4.heap.size) (by simp)))
              have HB6 := Lib.hid hB6
              have HF6 : Hid (∀ b, a6 = some b → b.block ∉ L6) := Lib.hid (fun b hb hm => by have := (hF6 b hb).1; have := HT.out.q.lt _ hm; omega)
              clear hM6 hL6 hB6 hF6 hC6 C1
              have c2 := read_ok HT6.out.q (by omega) HVL.out HD.out (q := kk) (by rw [← Hm.out]; exact hkk)
              have C2 := Lib.hid c2
              clear c2
              go_wp2_with fail
              refine C2.out.mono ?_
              rintro e w7 ⟨L8, a7, c7, rfl, hM7, hL7, hB7, hF7, hC7⟩
              have HT7 := Lib.hid (HT6.out.two hM7 hL7 hC7)
              have HK7 := Lib.hid (And.intro (HT6.out.kept2 hC7 (x := w3.heap.size) (by simp)) (HT6.out.kept2 hC7 (x := w4.heap.size) (by simp)))
              have HB7 := Lib.hid hB7
              have HB67 := Lib.hid (HB6.out.chg hC7 (fun _ => HF6.out))
              clear hM7 hL7 hB7 hF7 hC7 C2
              have HON := Lib.hid (And.intro (HK7.out.1.trans (HK6.out.1.trans HO5.out)) (HK7.out.2.trans (HK6.out.2.trans HR5.out)))
              by_cases hT1 : ta ≤ kk ∧ kk < ta + tn
              · have j1 : (ta : Int) ≤ (kk : Int) := by omega
                have j2 : (kk : Int) < (ta : Int) + (tn : Int) := by omega
                have u3 : IntKind.u64.wrap ((ta : Int) + (tn : Int)) = (ta : Int) + (tn : Int) := by rw [IntKind.wrap_u64]; omega
                have cf := filled_at (w := w7) (x := 0) (by omega)
                rw [show (((0 : Nat)) : Int) = 0 from rfl] at cf
                have CF := Lib.hid cf
                clear cf
                have HT1 := Lib.hid hT1
                clear hT1
                go_wp2_with fail
                refine CF.out.mono ?_
                rintro e w8 ⟨rfl, hb8, hC8⟩
                have hz := bytes_of_fill hb8 (by omega) (off := 0) (n := 128) (by omega)
                have ce := equal_at (HB67.out.chg hC8 (by simp)) hz
                have he : eqF 128 128 (byteOf' (blkAt D' kk)) (fun _ => 0) = true := eqF_iff.2 ⟨rfl, fun i hi => by
                  have hn : has D' (kU kk) = false := by
                    rw [HD'.out, has_trim (good_of HT.out.q HD.out)]
                    unfold inT
                    simp [HT1.out.1, HT1.out.2]
                  rw [blk_none hn]; exact byte_z hi⟩
                rw [he] at ce
                have CE := Lib.hid ce
                have HT8 := Lib.hid (HT7.out.step hC8)
                have HON8 := Lib.hid (And.intro ((hC8.block _ (HT7.out.xl w3.heap.size (by simp)) (by simp)).trans HON.out.1) ((hC8.block _ (HT7.out.xl w4.heap.size (by simp)) (by simp)).trans HON.out.2))
                clear hb8 hz ce he hC8 CF u3
                go_wp2_with fail
                refine CE.out.mono ?_
                rintro e w' ⟨rfl, rfl⟩
                go_wp2_with fail
                go_roundg (m - (kk + 1))
                case measure => rw [HGG.out]; omega
                case rel => exact ⟨kk + 1, rfl, by omega, by go_num, ⟨L7, L8, HT8.out, HON8.out.1, HON8.out.2⟩⟩
              · have HI : Hid (inT ta tn kk = false) := Lib.hid (by
                  unfold inT
                  rw [Bool.eq_false_iff]
                  intro h
                  simp only [Bool.and_eq_true, decide_eq_true_eq] at h
                  exact hT1 h)
                have u3 : IntKind.u64.wrap ((ta : Int) + (tn : Int)) = (ta : Int) + (tn : Int) := by rw [IntKind.wrap_u64]; omega
                have ce := equal_at HB67.out HB7.out
                have he : eqF 128 128 (byteOf' (blkAt D' kk)) (byteOf' (blkAt D kk)) = true := eqF_iff.2 ⟨rfl, fun i hi => by
                  rw [HD'.out, blk_trim (good_of HT.out.q HD.out) HI.out]⟩
                rw [he] at ce
                have CE := Lib.hid ce
                clear ce he
                by_cases hxa : ta ≤ kk
                case' pos =>
                  have j1 : (ta : Int) ≤ (kk : Int) := by omega
                  have j2 : ¬ (kk : Int) < (ta : Int) + (tn : Int) := by omega
                  have HT1 := Lib.hid hT1
                  clear hT1
                  go_wp2_with fail
                  refine CE.out.mono ?_
                case' neg =>
                  have j1 : ¬ (ta : Int) ≤ (kk : Int) := by omega
                  have HT1 := Lib.hid hT1
                  clear hT1
                  go_wp2_with fail
                  refine CE.out.mono ?_
                all_goals
                  rintro e w' ⟨rfl, rfl⟩
                  go_wp2_with fail
                  go_roundg (m - (kk + 1))
                  case measure => rw [HGG.out]; omega
                  case rel => exact ⟨kk + 1, rfl, by omega, by go_num, ⟨L7, L8, HT7.out, HON.out.1, HON.out.2⟩⟩
            · obtain rfl : kk = m := by omega
              have HOz := Lib.hid (HO5.out.trans HOw.out)
              have HRz := Lib.hid (HR5.out.trans HRw.out)
              have hkw : kc = wn := by rw [HKC.out, HWF.out, HD'.out]; exact (cnt_trim (good_of HT.out.q HD.out) (by rw [← HD'.out]; exact good_of HT.out.m HV'.out) HPL.out).1
              subst hkw
              have r0 := cell_of_block HRz.out 0
              have r1 := cell_of_block HRz.out 1
              have r2 := cell_of_block HRz.out 2
              have r3 := cell_of_block HRz.out 3
              simp only [List.getElem?_toArray, List.getElem?_cons_zero, List.getElem?_cons_succ] at r0 r1 r2 r3
              have hby : BytesIn wo ra 0 rc (fun _ => 0) := ⟨HRB.out.1, HRB.out.2.1, HRB.out.2.2.1, fun b hb h0 => by omega⟩
              have cS := same24_at (R1 := ⟨0, 0, 0, fun _ => 0, kc⟩) (R2 := ⟨0, 0, 0, fun _ => 0, kc⟩) hby bytes_none
              rw [repEq_self] at cS
              unfold repV at cS
              rw [show (((0 : Nat)) : Int) = 0 from rfl] at cS
              have CS := Lib.hid cS
              have HRw' := Lib.hid hin
              clear cS hby hin
              go_wp2_with fail
              refine CS.out.mono ?_
              rintro e w8 ⟨rfl, hC8⟩
              have HT8 := Lib.hid (HT.out.step hC8)
              have HO8 := Lib.hid ((hC8.block _ (HT.out.xl w3.heap.size (by simp)) (by simp)).trans HOz.out)
              clear hC8 CS r0 r1 r2 r3
              have c9 := places_at HT8.out.m (by omega) HVL.out
              have C9 := Lib.hid c9
              clear c9
              go_wp2_with fail
              refine C9.out.mono ?_
              rintro e w9 ⟨v9, pl9, rfl, hpl9, hU9, hC9⟩
              rw [HV'.out] at hpl9
              have hsv : ∃ a k, v9 = .slice a pl9.length k := by
                rcases hU9 with ⟨q, e⟩ | ⟨_, g, c, e, _⟩
                · exact ⟨none, 0, by rw [e, q]; rfl⟩
                · exact ⟨_, c, e⟩
              obtain ⟨a9, k9, rfl⟩ := hsv
              have HT9 := Lib.hid (HT8.out.step hC9)
              have HO9 := Lib.hid ((hC9.block _ (HT8.out.xl w3.heap.size (by simp)) (by simp)).trans HO8.out)
              have hn9 : pl9.length + kc = k := by
                have e9 := pl_trim (good_of HT.out.q HD.out) HPL.out (by rw [← HD'.out]; exact hpl9)
                have hf := filter_split (inT ta tn) pl
                rw [e9, HWF.out, HNP.out]; omega
              obtain ⟨n9, hn9'⟩ : ∃ n9, n9 = pl9.length := ⟨_, rfl⟩
              rw [← hn9'] at hn9 ⊢
              clear hpl9 hU9 hC9 C9 hn9'
              have c10 := places_at HT9.out.q (by omega) HVL.out
              have C10 := Lib.hid c10
              clear c10
              go_wp2_with fail
              refine C10.out.mono ?_
              rintro e w10 ⟨v10, pl10, rfl, hpl10, hU10, hC10⟩
              rw [HD.out] at hpl10
              have hsv : ∃ a k, v10 = .slice a pl10.length k := by
                rcases hU10 with ⟨q, e⟩ | ⟨_, g, c, e, _⟩
                · exact ⟨none, 0, by rw [e, q]; rfl⟩
                · exact ⟨_, c, e⟩
              obtain ⟨a10, k10, rfl⟩ := hsv
              have HT10 := Lib.hid (HT9.out.step hC10)
              have HO10 := Lib.hid ((hC10.block _ (HT9.out.xl w3.heap.size (by simp)) (by simp)).trans HO9.out)
              have e10 : pl10 = pl := pl_eq hpl10 HPL.out (fun _ => rfl)
              rw [e10, ← HNP.out]
              have e1 : (k : Int) - (kc : Int) = (n9 : Int) := by omega
              have e2 : IntKind.i64.wrap ((k : Int) - (kc : Int)) = (n9 : Int) := by rw [e1]; exact IntWalk.i64_in _ (by omega)
              have HN9 := Lib.hid hn9
              clear hpl10 hU10 hC10 C10 e10 hn9
              have hOc := HO10.out
              have o0 := cell_of_block hOc 0
              have o1 := cell_of_block hOc 1
              have o2 := cell_of_block hOc 2
              have o3 := cell_of_block hOc 3
              have o4 := cell_of_block hOc 4
              simp only [List.getElem?_toArray, List.getElem?_cons_zero, List.getElem?_cons_succ] at o0 o1 o2 o3 o4
              clear hOc
              have hin' := HRw'.out
              have hst := tr_st (S := S') (v := vol) (a := ta) (n := tn) HV'.out (by rw [HZ'.out]; exact hin')
              have hrp := tr_rep (S := S') (v := vol) (a := ta) (n := tn) HV'.out (by rw [HZ'.out]; exact hin')
              have hDD : Lib.deleteFuncD (pdT ta tn) D' = D' := by rw [HD'.out, trim_twice]
              rw [hDD] at hst hrp
              rw [Nat.sub_self] at hrp
              have cd := do_at HT10.out.m (by omega) (tr_isOp w10 HVL.out HTA.out HTN.out)
              rw [hst, hrp] at cd
              unfold opV at cd
              have CD := Lib.hid cd
              clear cd hst hrp hDD hin'
              go_wp2_with fail
              refine CD.out.mono ?_
              rintro e w11 ⟨L11, a11, c11, rfl, hM11, hL11, hB11, hF11, hC11⟩
              have cS := same24_at (R1 := ⟨0, 0, 0, fun _ => 0, 0⟩) (R2 := ⟨0, 0, 0, fun _ => 0, 0⟩) hB11 bytes_none
              rw [repEq_self] at cS
              unfold repV at cS
              rw [show (((0 : Nat)) : Int) = 0 from rfl] at cS
              have CS := Lib.hid cS
              have HT11 := Lib.hid (HT10.out.one hM11 hL11 hC11)
              clear cS hM11 hL11 hB11 hF11 hC11 CD
              unfold repV
              go_wp2_with fail
              refine CS.out.mono ?_
              rintro e w12 ⟨rfl, hC12⟩
              have HC12 := Lib.hid (HT11.out.chg.trans hC12)
              clear hC12
              go_wp2_with fail
              refine awake24_at.mono ?_
              rintro e wz ⟨rfl, hZ⟩
              have HZ := Lib.hid (HC12.out.trans hZ)
              clear hZ
              go_wp2_with fail
              go_ret
              exact law_ok HZ.out
    · have HB := Lib.hid (tr_bad (S := S) (v := vol) (a := ta) (n := tn) HD.out (by rw [← Hm.out]; exact hin))
      have cd := do_at HMa.out (by omega) (tr_isOp W HVL.out HTA.out HTN.out)
      rw [HB.out.1, HB.out.2] at cd
      unfold opV at cd
      have CD := Lib.hid cd
      clear cd
      go_wp2_with fail
      refine CD.out.mono ?_
      rintro e w4 ⟨L4, ra, rc, rfl, hM4, hL4, hB4, hF4, hC4⟩
      have HM4 := Lib.hid hM4
      have HL4 := Lib.hid hL4
      have HB4 := Lib.hid hB4
      have HC4 := Lib.hid hC4
      clear hM4 hL4 hB4 hF4 hC4 CD
      unfold repV
      go_upto_region 10 with fail
      have hV : Chg [] w4 (w4.alloc (.cells #[.int .i64 241, .int .u64 0, .slice ra 0 rc, .int .i64 0] 32)) := (Chg.refl [] w4).alloc _
      have hR := new_block w4 (.cells #[.int .i64 241, .int .u64 0, .slice ra 0 rc, .int .i64 0] 32)
      generalize w4.alloc (.cells #[.int .i64 241, .int .u64 0, .slice ra 0 rc, .int .i64 0] 32) = V at *
      have r0 := cell_of_block hR 0
      have r1 := cell_of_block hR 1
      have r2 := cell_of_block hR 2
      have r3 := cell_of_block hR 3
      simp only [List.getElem?_toArray, List.getElem?_cons_zero, List.getElem?_cons_succ] at r0 r1 r2 r3
      have HP := Lib.hid (HM4.out.chg hV (by simp))
      have HQ := Lib.hid ((HQa.out.chg HC4.out (fun b h2 h1 => HAP.out b h1 h2)).chg hV (by simp))
      have HRB := Lib.hid (HB4.out.chg hV (by simp))
      have HCV : Hid (Chg [] w V) := Lib.hid ((HCa.out.then HC4.out (fun b hb => .inr (HL.out b hb))).trans hV)
      have hS := size_at HP.out
      rw [← Hm.out] at hS
      have cS := same24_at (R1 := ⟨241, 0, 0, fun _ => 0, 0⟩) (R2 := ⟨241, 0, 0, fun _ => 0, 0⟩) HRB.out bytes_none
      rw [repEq_self] at cS
      unfold repV at cS
      rw [show (((241 : Nat)) : Int) = 241 from rfl, show (((0 : Nat)) : Int) = 0 from rfl] at cS
      have CZ := Lib.hid hS
      have CS := Lib.hid cS
      clear hS cS hV hR o0 o1 o2 o3 o4
      have hw : IntKind.u64.wrap ((m : Int) - (ta : Int)) = (m : Int) - (ta : Int) ∨ m ≤ ta := by
        by_cases h : m ≤ ta
        · exact .inr h
        · exact .inl (by rw [IntKind.wrap_u64]; omega)
      have HWR := Lib.hid hw
      clear hw
      by_cases hta : m ≤ ta
      case' pos =>
        have t1 : (m : Int) ≤ (ta : Int) := by omega
        have HIN := Lib.hid hin
        clear hin
        go_wp2_with fail
        refine CZ.out.mono ?_
        rintro e w' ⟨rfl, rfl⟩
      case' neg =>
        have t1 : ¬ (m : Int) ≤ (ta : Int) := by omega
        have t2 : (tn : Int) > (m : Int) - (ta : Int) := by omega
        have t3 : IntKind.u64.wrap ((m : Int) - (ta : Int)) = (m : Int) - (ta : Int) := by rw [IntKind.wrap_u64]; omega
        have HIN := Lib.hid hin
        clear hin
        go_wp2_with fail
        refine CZ.out.mono ?_
        rintro e w' ⟨rfl, rfl⟩
        go_wp2_with fail
        refine CZ.out.mono ?_
        rintro e w' ⟨rfl, rfl⟩
      all_goals
        go_wp2_with fail
        refine CS.out.mono ?_
        rintro e w5 ⟨rfl, hC5⟩
        have HP5 := Lib.hid (HP.out.chg hC5 (by simp))
        have HQ5 := Lib.hid (HQ.out.chg hC5 (by simp))
        have HC5 := Lib.hid (HCV.out.trans hC5)
        clear hC5
        go_wp2_with fail
        refine (same_at HP5.out HQ5.out).mono ?_
        rintro e w6 ⟨rfl, hC6⟩
        rw [stEq_self]
        have HC6 := Lib.hid (HC5.out.trans hC6)
        clear hC6
        go_wp2_with fail
        refine awake24_at.mono ?_
        rintro e wz ⟨rfl, hZ⟩
        have HZ := Lib.hid (HC6.out.trans hZ)
        clear hZ
        go_wp2_with fail
        go_ret
        exact law_ok HZ.out

end Go.Proofs.Ytbejcmbdaoakbaa
