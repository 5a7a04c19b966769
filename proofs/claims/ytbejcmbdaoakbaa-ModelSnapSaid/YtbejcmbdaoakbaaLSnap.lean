/- catchmentlaw24.ModelSnap: the walk. (Printed by mksnap.py.) -/
import Derived.Test.YtbejcmbdaoakbaaSoS
namespace Go.Proofs.Ytbejcmbdaoakbaa
open Go.RowKit Go.Sort Go.Maps
set_option linter.unusedVariables false
set_option linter.unusedSimpArgs false

set_option maxRecDepth 100000 in
set_option maxHeartbeats 16000000 in
theorem modelSnap_walk (a0 : Int) (a1 : Option Addr) (len1 cap1 : Nat) (z1 : Nat → Opn) (a2 : Int) (a3 : Option Addr) (len3 cap3 : Nat) (z3 : Nat → Opn) (w : World) (h0 : (Lit.int .u8 a0).wf = true) (h1 : IsOps w a1 len1 cap1 z1) (h2 : (Lit.int .u8 a2).wf = true) (h3 : IsOps w a3 len3 cap3 z3) :
    Calls Try.prog 6 #[.int .u8 a0, .slice a1 len1 cap1, .int .u8 a2, .slice a3 len3 cap3] w (LawOk w) := by
  have hb := bd_u8 h0
  have hb2 := bd_u8 h2
  obtain ⟨sz, rfl, hsz⟩ : ∃ sz : Nat, a0 = (sz : Int) ∧ sz ≤ 255 := ⟨a0.toNat, by omega, by omega⟩
  obtain ⟨wh, rfl, hwh⟩ : ∃ n : Nat, a2 = (n : Int) ∧ n ≤ 255 := ⟨a2.toNat, by omega, by omega⟩
  have HI3 := Lib.hid h3
  have hl3 : len3 ≤ 9223372036854775807 := by have := Nat.le_trans h3.1 h3.2.1; unfold maxLen at this; exact this
  have HI1 := Lib.hid h1
  have HSZ := Lib.hid hsz
  clear h0 h1 h2 h3 hb hb2 hsz
  go_enter Try.func6, Try.ntmps6
  go_wp2_with fail
  refine (after_at HSZ.out HI1.out).mono ?_
  rintro e w1 ⟨p, L, rfl, hM, hL, hC1⟩
  unfold aPtr
  have hsz1 : (runS (St.new (1 + sz)) z1 (min len1 60)).size = 1 + sz := run_size _ _ _
  obtain ⟨S, hS⟩ : ∃ S, S = runS (St.new (1 + sz)) z1 (min len1 60) := ⟨_, rfl⟩
  have hla : (runS (St.new (1 + sz)) z1 (min len1 60)).last ≤ 60 := by have := run_last (St.new (1 + sz)) z1 (min len1 60); have e : (St.new (1 + sz)).last = 0 := rfl; omega
  rw [← hS] at hM hsz1 hla
  have HLA := Lib.hid hla
  have HM := Lib.hid hM
  have HL := Lib.hid hL
  have HC1 := Lib.hid hC1
  have HSS : Hid (S.size ≤ 256) := Lib.hid (by rw [hsz1]; have := HSZ.out; omega)
  clear hM hL hC1 hS hsz1 hla
  go_wp2_with fail
  refine (volumes_at HM.out (by omega)).mono ?_
  rintro e w2 ⟨v, l, rfl, hI, hU, hlN, hC2⟩
  have HI := Lib.hid hI
  have HU := Lib.hid hU
  have HM2 := Lib.hid (HM.out.chg hC2 (by simp))
  have HC2 : Hid (Chg [] w w2) := Lib.hid (HC1.out.trans hC2)
  clear hI hU hC2
  by_cases hl0 : l = []
  · have hv : v = .slice none 0 0 := by
      rcases HU.out with ⟨_, h⟩ | ⟨h, _⟩
      · exact h
      · exact absurd hl0 h
    subst hv
    clear hl0
    go_wp2_with fail
    refine (awake24_at).mono ?_
    rintro e wz ⟨rfl, hZ⟩
    have HZ := Lib.hid (HC2.out.trans hZ)
    clear hZ
    go_wp2_with fail
    go_ret
    exact law_ok HZ.out
  · obtain ⟨g, c, hv, hlc, hcell⟩ := HU.out.cell hl0
    subst hv
    have hlp : 0 < l.length := List.length_pos_iff.2 hl0
    obtain ⟨n, hn⟩ : ∃ n, n = l.length := ⟨_, rfl⟩
    rw [← hn] at hcell hlc hlN hlp
    obtain ⟨ix, hix⟩ : ∃ ix, ix = wh % n := ⟨_, rfl⟩
    have hixl : ix < n := by rw [hix]; exact Nat.mod_lt _ hlp
    have em : (wh : Int) % (n : Int) = (ix : Int) := by rw [hix]; omega
    have et : (wh : Int).tmod (n : Int) = (ix : Int) := by rw [Int.tmod_eq_emod_of_nonneg (by omega)]; exact em
    have ew : IntKind.i64.wrap (wh : Int) = (wh : Int) := IntWalk.i64_in _ (by omega)
    obtain ⟨vol, hvol⟩ : ∃ vol, vol = l[ix]! := ⟨_, rfl⟩
    have hc0 := hcell ix hixl
    rw [← hvol] at hc0
    have hml : vol ∈ l := by rw [hvol, getElem!_pos l ix (by omega)]; exact List.getElem_mem _
    have HVL := Lib.hid (id_lt HM.out HI.out vol hml).2
    obtain ⟨D, hD⟩ : ∃ D, S.vols (kU vol) = some D := by
      have := (HI.out.2 vol).1 hml
      exact Option.isSome_iff_exists.1 this
    have HD := Lib.hid hD
    have hlI : ((n : Int) == 0) = false := by simp; omega
    have hl0I : ¬ (n : Int) = 0 := by omega
    have hl0N : ¬ n = 0 := by omega
    have hln : (n : Int) ≤ 60 := by omega
    have i1 : (ix : Int) < (n : Int) := by omega
    have Hn := Lib.hid hn
    rw [← hn]
    have HIX := Lib.hid hix
    have HVO := Lib.hid hvol
    clear hl0 hcell hml hD hvol hix hn
    have hglt : g < w2.heap.size := World.block_lt_of_cell? w2 ⟨g, ix, none⟩ hc0
    have hw : IntKind.i64.wrap ((n : Int) - 1) = (n : Int) - 1 := IntWalk.i64_in _ (by omega)
    have HGL : Hid (w1.heap.size ≤ g ∧ g < w2.heap.size) := Lib.hid ⟨listU_ge HU.out (fun e => by have := Hn.out; rw [e] at this; simp at this; omega), hglt⟩
    have HL1 := Lib.hid HM.out.lt
    go_upto_region 8 with fail
    clear em et ew hc0 i1 hglt
    go_wp2_with fail
    refine (copy_at HM2.out (by omega)).mono ?_
    rintro e w4 ⟨q, L2, rfl, hM4, hL4, hC4⟩
    unfold aPtr
    have HT4 : Hid (Two24 w w4 p q [g] L L2 60 60 S S) := Lib.hid {
      m := HM2.out.chg hC4 (by simp), q := hM4
      ap := fun x hx hm => by have := hL4 x hm; have := HM2.out.lt x hx; omega
      nl := fun x hx => ⟨HL.out x hx, by simp only [List.mem_singleton]; intro e; have := HL1.out x hx; have := HGL.out.1; omega⟩
      nm := fun x hx => ⟨Nat.le_trans HC2.out.size (hL4 x hx), by simp only [List.mem_singleton]; intro e; have := hL4 x hx; have := HGL.out.2; omega⟩
      xl := fun x hx => by simp only [List.mem_singleton] at hx; have := HGL.out.2; have := hC4.size; omega
      chg := HC2.out.trans hC4 }
    have HG4 : Hid (w4.heap[g]? = w2.heap[g]?) := Lib.hid (hC4.block g HGL.out.2 (by simp))
    clear hM4 hL4 hC4
    have hst := sn_st (S := S) (v := vol) HD.out (by have := HLA.out; omega)
    have hrp := sn_rep (S := S) (v := vol) HD.out (by have := HLA.out; omega)
    have cd := do_at HT4.out.m (by omega) (sn_isOp w4 HVL.out)
    rw [hst, hrp] at cd
    obtain ⟨S', hS'⟩ : ∃ S', S' = S.made D := ⟨_, rfl⟩
    rw [← hS'] at cd
    unfold opV at cd
    obtain ⟨rv, hrv⟩ : ∃ rv, rv = S.last + 1 := ⟨_, rfl⟩
    rw [← hrv] at cd
    obtain ⟨m, hm⟩ : ∃ m, m = S.size := ⟨_, rfl⟩
    have hm6 : m ≤ 256 := by have := HSS.out; omega
    have HS' := Lib.hid hS'
    have HRV := Lib.hid hrv
    have Hm := Lib.hid hm
    have hrv6 : rv ≤ 61 := by have := HLA.out; omega
    have HV' : Hid (S'.vols (kU rv) = some D) := Lib.hid (by rw [hS', hrv]; exact made_vol S D)
    have HZ' : Hid (S'.size = m ∧ S'.last = rv) := Lib.hid ⟨by rw [hS', hm]; rfl, by rw [hS', hrv]; rfl⟩
    have CD := Lib.hid cd
    clear cd hst hrp hS' hrv hm
    go_wp2_with fail
    refine CD.out.mono ?_
    rintro e w6 ⟨L6, ra, rc, rfl, hM6, hL6, hB6, hF6, hC6⟩
    have HT6 := Lib.hid (HT4.out.one hM6 hL6 hC6)
    have HG6 : Hid (w6.heap[g]? = w2.heap[g]?) := Lib.hid ((HT4.out.kept1 hC6 (by simp)).trans HG4.out)
    clear hM6 hL6 hB6 hF6 hC6 CD
    unfold repV
    go_upto_region 10 with fail
    have hV : Chg [] w6 (w6.alloc (.cells #[.int .i64 0, .int .u64 (rv : Int), .slice ra 0 rc, .int .i64 0] 32)) := (Chg.refl [] w6).alloc _
    have hR := new_block w6 (.cells #[.int .i64 0, .int .u64 (rv : Int), .slice ra 0 rc, .int .i64 0] 32)
    have hXr : ∀ x, x ∈ [g, w6.heap.size] → x ∈ [g] ∨ (x ∉ L6 ∧ x ∉ L2 ∧ x < w6.heap.size + 1) := fun x hx => by
      simp only [List.mem_cons, List.not_mem_nil, or_false] at hx
      rcases hx with rfl | rfl
      · exact .inl (by simp)
      · exact .inr ⟨fun h => by have := HT6.out.m.lt _ h; omega, fun h => by have := HT6.out.q.lt _ h; omega, by omega⟩
    have hzV : (w6.alloc (.cells #[.int .i64 0, .int .u64 (rv : Int), .slice ra 0 rc, .int .i64 0] 32)).heap.size = w6.heap.size + 1 := size_alloc' _ _
    have HTV := Lib.hid ((HT6.out.step hV).guard (Y := [g, w6.heap.size]) (fun x hx => by rw [hzV]; exact hXr x hx))
    have HGV : Hid ((w6.alloc (.cells #[.int .i64 0, .int .u64 (rv : Int), .slice ra 0 rc, .int .i64 0] 32)).heap[g]? = w2.heap[g]?) := Lib.hid ((hV.block g (HT6.out.xl g (by simp)) (by simp)).trans HG6.out)
    have HRB := Lib.hid hR
    generalize w6.alloc (.cells #[.int .i64 0, .int .u64 (rv : Int), .slice ra 0 rc, .int .i64 0] 32) = V at *
    have r0 := cell_of_block hR 0
    have r1 := cell_of_block hR 1
    have r2 := cell_of_block hR 2
    have r3 := cell_of_block hR 3
    simp only [List.getElem?_toArray, List.getElem?_cons_zero, List.getElem?_cons_succ] at r0 r1 r2 r3
    obtain ⟨last, hlast⟩ : ∃ x, x = l[n - 1]! := ⟨_, rfl⟩
    obtain ⟨n1, hn1⟩ : ∃ n1, n = n1 + 1 := ⟨n - 1, by omega⟩
    have hcl := listU_same HU.out (fun e => by have := Hn.out; rw [e] at this; simp at this; omega) HGV.out n1 (by rw [← Hn.out]; omega)
    have hll : last ≤ S.last := (id_lt HM.out HI.out last (by rw [hlast, getElem!_pos l (n - 1) (by rw [← Hn.out]; omega)]; exact List.getElem_mem _)).1
    have en1 : n - 1 = n1 := by omega
    rw [en1] at hlast
    rw [← hlast] at hcl
    have hI : (n : Int) - 1 = (n1 : Int) := by omega
    have hwI : IntKind.i64.wrap (n1 : Int) = (n1 : Int) := IntWalk.i64_in _ (by omega)
    have i3 : (n1 : Int) < (n : Int) := by omega
    have hlr : last < rv := by have := HRV.out; omega
    have hlrI : ¬ (rv : Int) ≤ (last : Int) := by omega
    have hlrF : decide ((rv : Int) ≤ (last : Int)) = false := by simp; omega
    have cv := volumes_at (HTV.out.m.chg (Chg.drew (Chg.refl [] _)) (by simp)) (by omega)
    have CV := Lib.hid cv
    have hwn : IntKind.i64.wrap ((n : Int) + 1) = (n : Int) + 1 := IntWalk.i64_in _ (by omega)
    have hgl := HTV.out.xl g (by simp)
    have hrl := HTV.out.xl w6.heap.size (by simp)
    clear hV hR hXr hzV cv hlast hn1 hw hll hlr en1
    refine wp_region_held_drew (S := fun W' => W'.cell? ⟨w6.heap.size, 0, none⟩ = some (.int .i64 0) ∧ W'.cell? ⟨w6.heap.size, 1, none⟩ = some (.int .u64 (rv : Int)) ∧ W'.cell? ⟨g, n1, none⟩ = some (.int .u64 (last : Int))) (by kernel_rfl) (by exact ⟨r0, r1, hcl⟩) (fun hHeld => ?_)
    refine wpAnyH_take (i := 0) (oi := ?_) (v := ?_) ?_ (by kernel_rfl) (by kernel_rfl) (by kernel_rfl) ?_ (Or.inl ⟨?_, ?_⟩) hHeld ?_
    rotate_left 2
    · (simp only [List.getElem?_toArray, List.getElem?_cons_succ, List.getElem?_cons_zero]; rfl)
    · exact fun _ _ _ h => h
    · rfl
    · (rintro W' ⟨s0, s1, s2⟩; go_simp; first | done | with_reducible rfl)
    try simp only [Act.put, List.setIfInBounds_toArray, List.set_cons_zero, List.set_cons_succ]
    refine wpAnyH_take (i := 1) (oi := ?_) (v := ?_) ?_ (by kernel_rfl) (by kernel_rfl) (by kernel_rfl) ?_ (Or.inl ⟨?_, ?_⟩) hHeld ?_
    rotate_left 2
    · (simp only [List.getElem?_toArray, List.getElem?_cons_succ, List.getElem?_cons_zero]; rfl)
    · exact fun _ _ _ h => h
    · rfl
    · (rintro W' ⟨s0, s1, s2⟩; go_simp; first | done | with_reducible rfl)
    try simp only [Act.put, List.setIfInBounds_toArray, List.set_cons_zero, List.set_cons_succ]
    refine wpAnyH_take (i := 2) (oi := ?_) (v := ?_) ?_ (by kernel_rfl) (by kernel_rfl) (by kernel_rfl) ?_ (Or.inl ⟨?_, ?_⟩) hHeld ?_
    rotate_left 2
    · (simp only [List.getElem?_toArray, List.getElem?_cons_succ, List.getElem?_cons_zero]; rfl)
    · exact fun _ _ _ h => h
    · rfl
    · (rintro W' ⟨s0, s1, s2⟩; go_simp; first | done | with_reducible rfl)
    try simp only [Act.put, List.setIfInBounds_toArray, List.set_cons_zero, List.set_cons_succ]
    refine wpAnyH_take (i := 3) (oi := ?_) (v := ?_) ?_ (by kernel_rfl) (by kernel_rfl) (by kernel_rfl) ?_ (Or.inl ⟨?_, ?_⟩) hHeld ?_
    rotate_left 2
    · (simp only [List.getElem?_toArray, List.getElem?_cons_succ, List.getElem?_cons_zero]; rfl)
    · exact fun _ _ _ h => h
    · rfl
    · (rintro W' ⟨s0, s1, s2⟩; go_simp; first | done | with_reducible rfl)
    try simp only [Act.put, List.setIfInBounds_toArray, List.set_cons_zero, List.set_cons_succ]
    refine wpAnyH_take (i := 4) (oi := ?_) (v := ?_) ?_ (by kernel_rfl) (by kernel_rfl) (by kernel_rfl) ?_ (Or.inl ⟨?_, ?_⟩) hHeld ?_
    rotate_left 2
    · (simp only [List.getElem?_toArray, List.getElem?_cons_succ, List.getElem?_cons_zero]; rfl)
    · exact fun _ _ _ h => h
    · rfl
    · (rintro W' ⟨s0, s1, s2⟩; go_simp; first | done | with_reducible rfl)
    try simp only [Act.put, List.setIfInBounds_toArray, List.set_cons_zero, List.set_cons_succ]
    refine wpAnyH_take (i := 5) (oi := ?_) (v := ?_) ?_ (by kernel_rfl) (by kernel_rfl) (by kernel_rfl) ?_ (Or.inl ⟨?_, ?_⟩) hHeld ?_
    rotate_left 2
    · (simp only [List.getElem?_toArray, List.getElem?_cons_succ, List.getElem?_cons_zero]; rfl)
    · exact fun _ _ _ h => h
    · rfl
    · (rintro W' ⟨s0, s1, s2⟩; go_simp; first | done | with_reducible rfl)
    try simp only [Act.put, List.setIfInBounds_toArray, List.set_cons_zero, List.set_cons_succ]
    refine wpAnyH_take (i := 6) (oi := ?_) (v := ?_) ?_ (by kernel_rfl) (by kernel_rfl) (by kernel_rfl) ?_ (Or.inl ⟨?_, ?_⟩) hHeld ?_
    rotate_left 2
    · (simp only [List.getElem?_toArray, List.getElem?_cons_succ, List.getElem?_cons_zero]; rfl)
    · exact fun _ _ _ h => h
    · rfl
    · (rintro W' ⟨s0, s1, s2⟩; go_simp; first | done | with_reducible rfl)
    try simp only [Act.put, List.setIfInBounds_toArray, List.set_cons_zero, List.set_cons_succ]
    refine wpAnyH_take (i := 7) (oi := ?_) (v := ?_) ?_ (by kernel_rfl) (by kernel_rfl) (by kernel_rfl) ?_ (Or.inl ⟨?_, ?_⟩) hHeld ?_
    rotate_left 2
    · (simp only [List.getElem?_toArray, List.getElem?_cons_succ, List.getElem?_cons_zero]; rfl)
    · exact fun _ _ _ h => h
    · rfl
    · (rintro W' ⟨s0, s1, s2⟩; go_simp; first | done | with_reducible rfl)
    try simp only [Act.put, List.setIfInBounds_toArray, List.set_cons_zero, List.set_cons_succ]
    refine wpAnyH_take (i := 8) (oi := ?_) (v := ?_) ?_ (by kernel_rfl) (by kernel_rfl) (by kernel_rfl) ?_ (Or.inl ⟨?_, ?_⟩) hHeld ?_
    rotate_left 2
    · (simp only [List.getElem?_toArray, List.getElem?_cons_succ, List.getElem?_cons_zero]; rfl)
    · exact fun _ _ _ h => h
    · rfl
    · (rintro W' ⟨s0, s1, s2⟩; go_simp; first | done | with_reducible rfl)
    try simp only [Act.put, List.setIfInBounds_toArray, List.set_cons_zero, List.set_cons_succ]
    refine wpAnyH_take (i := 9) (oi := ?_) (v := ?_) ?_ (by kernel_rfl) (by kernel_rfl) (by kernel_rfl) ?_ (Or.inl ⟨?_, ?_⟩) hHeld ?_
    rotate_left 2
    · (simp only [List.getElem?_toArray, List.getElem?_cons_succ, List.getElem?_cons_zero]; rfl)
    · exact fun _ _ _ h => h
    · rfl
    · (rintro W' ⟨s0, s1, s2⟩; go_simp; first | done | with_reducible rfl)
    try simp only [Act.put, List.setIfInBounds_toArray, List.set_cons_zero, List.set_cons_succ]
    refine wpAnyH_take (i := 10) (oi := ?_) (v := ?_) ?_ (by kernel_rfl) (by kernel_rfl) (by kernel_rfl) ?_ (Or.inl ⟨?_, ?_⟩) hHeld ?_
    rotate_left 2
    · (simp only [List.getElem?_toArray, List.getElem?_cons_succ, List.getElem?_cons_zero]; rfl)
    · exact fun _ _ _ h => h
    · rfl
    · (rintro W' ⟨s0, s1, s2⟩; go_simp; first | done | with_reducible rfl)
    try simp only [Act.put, List.setIfInBounds_toArray, List.set_cons_zero, List.set_cons_succ]
    refine wpAnyH_take (i := 11) (oi := ?_) (v := ?_) ?_ (by kernel_rfl) (by kernel_rfl) (by kernel_rfl) ?_ (Or.inl ⟨?_, ?_⟩) hHeld ?_
    rotate_left 2
    · (simp only [List.getElem?_toArray, List.getElem?_cons_succ, List.getElem?_cons_zero]; rfl)
    · exact fun _ _ _ h => h
    · rfl
    · (rintro W' ⟨s0, s1, s2⟩; go_simp; first | done | with_reducible rfl)
    try simp only [Act.put, List.setIfInBounds_toArray, List.set_cons_zero, List.set_cons_succ]
    refine wpAnyH_take (i := 12) (oi := ?_) (v := ?_) ?_ (by kernel_rfl) (by kernel_rfl) (by kernel_rfl) ?_ (Or.inl ⟨?_, ?_⟩) hHeld ?_
    rotate_left 2
    · (simp only [List.getElem?_toArray, List.getElem?_cons_succ, List.getElem?_cons_zero]; rfl)
    · exact fun _ _ _ h => h
    · rfl
    · (rintro W' ⟨s0, s1, s2⟩; go_simp; first | done | with_reducible rfl)
    try simp only [Act.put, List.setIfInBounds_toArray, List.set_cons_zero, List.set_cons_succ]
    refine wpAnyH_take (i := 13) (oi := ?_) (v := ?_) ?_ (by kernel_rfl) (by kernel_rfl) (by kernel_rfl) ?_ (Or.inl ⟨?_, ?_⟩) hHeld ?_
    rotate_left 2
    · (simp only [List.getElem?_toArray, List.getElem?_cons_succ, List.getElem?_cons_zero]; rfl)
    · exact fun _ _ _ h => h
    · rfl
    · (rintro W' ⟨s0, s1, s2⟩; go_simp; first | done | with_reducible rfl)
    try simp only [Act.put, List.setIfInBounds_toArray, List.set_cons_zero, List.set_cons_succ]
    refine wpAnyH_take (i := 14) (oi := ?_) (v := ?_) ?_ (by kernel_rfl) (by kernel_rfl) (by kernel_rfl) ?_ (Or.inl ⟨?_, ?_⟩) hHeld ?_
    rotate_left 2
    · (simp only [List.getElem?_toArray, List.getElem?_cons_succ, List.getElem?_cons_zero]; rfl)
    · exact fun _ _ _ h => h
    · rfl
    · (rintro W' ⟨s0, s1, s2⟩; go_simp; first | done | with_reducible rfl)
    try simp only [Act.put, List.setIfInBounds_toArray, List.set_cons_zero, List.set_cons_succ]
    refine wpAnyH_take (i := 15) (oi := ?_) (v := ?_) ?_ (by kernel_rfl) (by kernel_rfl) (by kernel_rfl) ?_ (Or.inl ⟨?_, ?_⟩) hHeld ?_
    rotate_left 2
    · (simp only [List.getElem?_toArray, List.getElem?_cons_succ, List.getElem?_cons_zero]; rfl)
    · exact fun _ _ _ h => h
    · rfl
    · (rintro W' ⟨s0, s1, s2⟩; go_simp; first | done | with_reducible rfl)
    try simp only [Act.put, List.setIfInBounds_toArray, List.set_cons_zero, List.set_cons_succ]
    refine wpAnyH_take (i := 18) (oi := ?_) (v := ?_) ?_ (by kernel_rfl) (by kernel_rfl) (by kernel_rfl) ?_ (Or.inl ⟨?_, ?_⟩) hHeld ?_
    rotate_left 2
    · (simp only [List.getElem?_toArray, List.getElem?_cons_succ, List.getElem?_cons_zero]; rfl)
    · exact fun _ _ _ h => h
    · rfl
    · (rintro W' ⟨s0, s1, s2⟩; go_simp; first | done | with_reducible rfl)
    try simp only [Act.put, List.setIfInBounds_toArray, List.set_cons_zero, List.set_cons_succ]
    refine wpAnyH_take (i := 19) (oi := ?_) (v := ?_) ?_ (by kernel_rfl) (by kernel_rfl) (by kernel_rfl) ?_ (Or.inl ⟨?_, ?_⟩) hHeld ?_
    rotate_left 2
    · (simp only [List.getElem?_toArray, List.getElem?_cons_succ, List.getElem?_cons_zero]; rfl)
    · exact fun _ _ _ h => h
    · rfl
    · (rintro W' ⟨s0, s1, s2⟩; go_simp; first | done | with_reducible rfl)
    try simp only [Act.put, List.setIfInBounds_toArray, List.set_cons_zero, List.set_cons_succ]
    refine wpAnyH_take (i := 20) (oi := ?_) (v := ?_) ?_ (by kernel_rfl) (by kernel_rfl) (by kernel_rfl) ?_ (Or.inl ⟨?_, ?_⟩) hHeld ?_
    rotate_left 2
    · (simp only [List.getElem?_toArray, List.getElem?_cons_succ, List.getElem?_cons_zero]; rfl)
    · exact fun _ _ _ h => h
    · rfl
    · (rintro W' ⟨s0, s1, s2⟩; go_simp; first | done | with_reducible rfl)
    try simp only [Act.put, List.setIfInBounds_toArray, List.set_cons_zero, List.set_cons_succ]
    refine wpAnyH_ready (rs := [16]) (by kernel_rfl) (by simp) ?_
    refine AllReadyH.cons (o := ?_) ?_ (fun K hK => ?_) AllReadyH.nil
    rotate_left 1
    · (simp only [List.getElem?_toArray, List.getElem?_cons_succ, List.getElem?_cons_zero]; rfl)
    go_simp
    (go_simp; refine CV.out.mono ?_; rintro e w7 ⟨v7, l7, rfl, hI7, hU7, hN7, hC7⟩; have HI7 := Lib.hid hI7; have HC7 : Hid (Chg [] V w7) := Lib.hid ((Chg.refl [] V).drew.trans hC7); have hsv : ∃ a k, v7 = .slice a l7.length k := (by rcases hU7 with ⟨q, e⟩ | ⟨_, g, c, e, _⟩; exact ⟨none, 0, by rw [e, q]; rfl⟩; exact ⟨_, c, e⟩); obtain ⟨a7, k7, rfl⟩ := hsv; have e7 : l7.length = n + 1 := (by rw [Hn.out]; exact made_ids HI.out (fun x hx => (id_lt HM.out HI.out x hx).1) (by rw [← HS'.out]; exact HI7.out)); rw [e7]; clear hI7 hU7 hN7 hC7 e7)
    refine hK.out _ _ ?_ (fun hHeld => ?_)
    · exact ⟨(HC7.out.cell (p := ⟨w6.heap.size, 0, none⟩) hrl (by simp)).trans r0, (HC7.out.cell (p := ⟨w6.heap.size, 1, none⟩) hrl (by simp)).trans r1, (HC7.out.cell (p := ⟨g, n1, none⟩) hgl (by simp)).trans hcl⟩
    clear hK K
    try simp only [Act.put, List.setIfInBounds_toArray, List.set_cons_zero, List.set_cons_succ]
    refine wpAnyH_take (i := 17) (oi := ?_) (v := ?_) ?_ (by kernel_rfl) (by kernel_rfl) (by kernel_rfl) ?_ (Or.inl ⟨?_, ?_⟩) hHeld ?_
    rotate_left 2
    · (simp only [List.getElem?_toArray, List.getElem?_cons_succ, List.getElem?_cons_zero]; rfl)
    · exact fun _ _ _ h => h
    · rfl
    · (rintro W' ⟨s0, s1, s2⟩; go_simp; first | done | with_reducible rfl)
    try simp only [Act.put, List.setIfInBounds_toArray, List.set_cons_zero, List.set_cons_succ]
    refine wpAnyH_take (i := 21) (oi := ?_) (v := ?_) ?_ (by kernel_rfl) (by kernel_rfl) (by kernel_rfl) ?_ (Or.inl ⟨?_, ?_⟩) hHeld ?_
    rotate_left 2
    · (simp only [List.getElem?_toArray, List.getElem?_cons_succ, List.getElem?_cons_zero]; rfl)
    · exact fun _ _ _ h => h
    · rfl
    · (rintro W' ⟨s0, s1, s2⟩; go_simp; first | done | with_reducible rfl)
    try simp only [Act.put, List.setIfInBounds_toArray, List.set_cons_zero, List.set_cons_succ]
    refine wpAnyH_take (i := 22) (oi := ?_) (v := ?_) ?_ (by kernel_rfl) (by kernel_rfl) (by kernel_rfl) ?_ (Or.inl ⟨?_, ?_⟩) hHeld ?_
    rotate_left 2
    · (simp only [List.getElem?_toArray, List.getElem?_cons_succ, List.getElem?_cons_zero]; rfl)
    · exact fun _ _ _ h => h
    · rfl
    · (rintro W' ⟨s0, s1, s2⟩; go_simp; first | done | with_reducible rfl)
    try simp only [Act.put, List.setIfInBounds_toArray, List.set_cons_zero, List.set_cons_succ]
    refine wpAnyH_done (by kernel_rfl) ?_ _

    have HT7 := Lib.hid (HTV.out.step HC7.out)
    have HR7 := Lib.hid ((HC7.out.block w6.heap.size hrl (by simp)).trans HRB.out)
    clear hlI hl0I hl0N r0 r1 r2 r3 hcl hI hwI i3 hlrI hlrF CV hwn hgl hrl
    obtain ⟨mm, hmm⟩ : ∃ mm, mm = min len3 30 := ⟨_, rfl⟩
    have hmm30 : mm ≤ 30 ∧ mm ≤ len3 := by omega
    have HMM := Lib.hid hmm
    clear hmm
    go_wp2_with fail
    go_loopg [14] mm (fun gg s wr => ∃ (k : Nat) (T : St) (L8 : List Nat), gg = mm - k ∧ k ≤ mm ∧ s = .int .i64 (k : Int) ∧ Hid (Two24 w wr p q [g, w6.heap.size] L8 L2 (61 + k) 60 T S ∧ wr.heap[w6.heap.size]? = w7.heap[w6.heap.size]? ∧ T.vols (kU rv) = some D ∧ rv ≤ T.last ∧ T.size = m))
    case atStart => exact ⟨0, S', L6, rfl, Nat.zero_le _, by go_num, ⟨HT7.out, rfl, HV'.out, by rw [HZ'.out.2]; exact Nat.le_refl _, HZ'.out.1⟩⟩
    case round =>
      obtain ⟨k, T, L8, hgg, hkm, rfl, hX⟩ := hrel
      obtain ⟨wo, rfl⟩ : ∃ wo : World, wo = wr := ⟨_, rfl⟩
      obtain ⟨hT, hRo, hVo, hLo, hSo⟩ := hX.out
      have HT := Lib.hid hT
      have HRo := Lib.hid (hRo.trans HR7.out)
      have HVo := Lib.hid hVo
      have HLo := Lib.hid hLo
      have HSo := Lib.hid hSo
      have HGG := Lib.hid hgg
      clear hT hRo hVo hLo hSo hX hgg
      by_cases hk : k < mm
      · have hkl : k < len3 := by omega
        have i1 : (k : Int) < (len3 : Int) := by omega
        have i2 : (k : Int) < 30 := by omega
        obtain ⟨b, off, rfl, hb, hop⟩ := HI3.out.2.2.2 k hkl
        have hop' := hop.chg HT.out.chg hb (by simp) (by simp)
        have hbw : b < wo.heap.size := Nat.lt_of_lt_of_le hb HT.out.chg.size
        obtain ⟨⟨code, vo, pl, nn, ln, ff⟩, hoo⟩ : ∃ o, o = z3 k := ⟨_, rfl⟩
        rw [← hoo] at hop'
        obtain ⟨da, dc, e0, e1, e2, e3, e4, hB, hO⟩ := hop'
        have HB := Lib.hid hB
        have HO := Lib.hid hO
        simp only [Nat.add_zero] at e0
        dsimp only at e0 e1 e2 e3 e4
        clear hop hb hB hO hoo
        go_upto_region 16 with fail
        have hW : Chg [] wo (wo.alloc (.cells #[.int .u8 (code : Int), .int .u64 (vo : Int), .int .u64 (pl : Int), .int .u64 (nn : Int), .slice da ln dc] 26)) := (Chg.refl [] wo).alloc _
        have hG := new_block wo (.cells #[.int .u8 (code : Int), .int .u64 (vo : Int), .int .u64 (pl : Int), .int .u64 (nn : Int), .slice da ln dc] 26)
        generalize wo.alloc (.cells #[.int .u8 (code : Int), .int .u64 (vo : Int), .int .u64 (pl : Int), .int .u64 (nn : Int), .slice da ln dc] 26) = W at *
        have hRb := (hW.block w6.heap.size (HT.out.xl w6.heap.size (by simp)) (by simp)).trans HRo.out
        have o0 := cell_of_block hG 0
        have o1 := cell_of_block hG 1
        have o2 := cell_of_block hG 2
        have o3 := cell_of_block hG 3
        have o4 := cell_of_block hG 4
        simp only [List.getElem?_toArray, List.getElem?_cons_zero, List.getElem?_cons_succ] at o0 o1 o2 o3 o4
        have r0 := cell_of_block hRb 0
        have r1 := cell_of_block hRb 1
        have r2 := cell_of_block hRb 2
        have r3 := cell_of_block hRb 3
        simp only [List.getElem?_toArray, List.getElem?_cons_zero, List.getElem?_cons_succ] at r0 r1 r2 r3
        have HTW := Lib.hid (HT.out.step hW)
        have HBW := Lib.hid (HB.out.chg hW (by simp))
        have HGo := Lib.hid hG
        have HRW : Hid (W.heap[w6.heap.size]? = w7.heap[w6.heap.size]?) := Lib.hid (hRb.trans HR7.out.symm)
        have hzW : wo.heap.size < W.heap.size := heap_lt hG
        have hoL8 : wo.heap.size ∉ L8 := fun h => by have := HT.out.m.lt _ h; omega
        have HOL := Lib.hid (And.intro hzW hoL8)
        clear hW hG hRb e0 e1 e2 e3 e4 hzW hoL8
        have hcode : code ≤ 255 := HO.out.code
        by_cases hvr : vo = rv
        · have j1 : ((vo : Int) == (rv : Int)) = true := by simp [hvr]
          have j1' : (vo == rv) = true := by simp [hvr]
          clear hvr
          go_wp2_with fail
          go_roundg (mm - (k + 1))
          case measure => rw [HGG.out]; omega
          case rel => exact ⟨k + 1, T, L8, rfl, by omega, by go_num, ⟨HTW.out.mono (by omega) (Nat.le_refl _), HRW.out, HVo.out, HLo.out, HSo.out⟩⟩
        · have j1 : ((vo : Int) == (rv : Int)) = false := by simp; omega
          have HVR := Lib.hid hvr
          clear hvr
          have hkeep := keep_vol (o := ⟨code, vo, pl, nn, ln, ff⟩) HVo.out HLo.out HVR.out
          obtain ⟨T2, hT2⟩ : ∃ T2, T2 = stOf T ⟨code, vo, pl, nn, ln, ff⟩ := ⟨_, rfl⟩
          have hsl := st_last T ⟨code, vo, pl, nn, ln, ff⟩
          have hsz := st_size T ⟨code, vo, pl, nn, ln, ff⟩
          rw [← hT2] at hkeep hsl hsz
          obtain ⟨R, hR⟩ : ∃ R, R = repOf T ⟨code, vo, pl, nn, ln, ff⟩ := ⟨_, rfl⟩
          have hrn : R.err = 0 → (code = 1 ∨ code = 3) → rv < R.vol := fun he hc => by
            rw [hR] at he ⊢
            rw [rep_new he hc]
            have := HLo.out; omega
          have cd := do_at HTW.out.m (by omega) (show IsOp W (opV code vo pl nn (.slice da ln dc)) ⟨code, vo, pl, nn, ln, ff⟩ from ⟨da, dc, rfl, HBW.out, HO.out⟩)
          rw [← hT2, ← hR] at cd
          unfold opV at cd
          obtain ⟨er, rvol, rn, rf, rk⟩ := R
          unfold Done at cd
          unfold repV at cd
          dsimp only at cd hrn
          have CD := Lib.hid cd
          have HK2 := Lib.hid hkeep
          have HS2 := Lib.hid (And.intro hsl.1 hsz)
          have HRN := Lib.hid hrn
          clear hkeep hT2 hsl hsz hR hrn cd
          by_cases hskip : code = 2 ∧ vo = vol
          · have j2 : ((code : Int) == 2) = true := by simp [hskip.1]
            have j3 : ((vo : Int) == (vol : Int)) = true := by simp [hskip.2]
            have j3' : (vo == vol) = true := by simp [hskip.2]
            clear hskip
            go_wp2_with fail
            go_roundg (mm - (k + 1))
            case measure => rw [HGG.out]; omega
            case rel => exact ⟨k + 1, T, L8, rfl, by omega, by go_num, ⟨HTW.out.mono (by omega) (Nat.le_refl _), HRW.out, HVo.out, HLo.out, HSo.out⟩⟩
          · by_cases hc2 : code = 2
            case' pos =>
              have j2 : ((code : Int) == 2) = true := by simp [hc2]
              have hvv : ¬ vo = vol := fun e => hskip ⟨hc2, e⟩
              have j3 : ((vo : Int) == (vol : Int)) = false := by simp; omega
              have HSK := Lib.hid (And.intro hskip (And.intro hc2 hvv))
              clear hskip hc2 hvv
              go_upto_region 17 with fail
            case' neg =>
              have j2 : ((code : Int) == 2) = false := by simp; omega
              have HSK := Lib.hid (And.intro hskip (And.intro hc2 True.intro))
              clear hskip hc2
              go_upto_region 17 with fail
            all_goals
              go_wp2_with fail
              refine CD.out.mono ?_
              rintro e wD ⟨LD, aD, cD, rfl, hMD, hLD, hBD, hFD, hCD⟩
              have HTD := Lib.hid (HTW.out.one hMD hLD hCD)
              have HRD := Lib.hid ((HTW.out.kept1 hCD (x := w6.heap.size) (by simp)).trans HRW.out)
              have HGD := Lib.hid ((hCD.block wo.heap.size HOL.out.1 HOL.out.2).trans HGo.out)
              clear hMD hLD hBD hFD hCD CD o0 o1 o2 o3 o4 r0 r1 r2 r3
              go_upto_region 18 with fail
              have hE : Chg [] wD (wD.alloc (.cells #[.int .i64 (er : Int), .int .u64 (rvol : Int), .slice aD rn cD, .int .i64 (rk : Int)] 32)) := (Chg.refl [] wD).alloc _
              have hs := new_block wD (.cells #[.int .i64 (er : Int), .int .u64 (rvol : Int), .slice aD rn cD, .int .i64 (rk : Int)] 32)
              generalize wD.alloc (.cells #[.int .i64 (er : Int), .int .u64 (rvol : Int), .slice aD rn cD, .int .i64 (rk : Int)] 32) = E at *
              have hoE := (hE.block wo.heap.size (heap_lt HGD.out) (by simp)).trans HGD.out
              have hrE := (hE.block w6.heap.size (HTD.out.xl w6.heap.size (by simp)) (by simp)).trans (HRD.out.trans HR7.out)
              have o0 := cell_of_block hoE 0
              have o1 := cell_of_block hoE 1
              have o2 := cell_of_block hoE 2
              have o3 := cell_of_block hoE 3
              have o4 := cell_of_block hoE 4
              simp only [List.getElem?_toArray, List.getElem?_cons_zero, List.getElem?_cons_succ] at o0 o1 o2 o3 o4
              have r0 := cell_of_block hrE 0
              have r1 := cell_of_block hrE 1
              have r2 := cell_of_block hrE 2
              have r3 := cell_of_block hrE 3
              simp only [List.getElem?_toArray, List.getElem?_cons_zero, List.getElem?_cons_succ] at r0 r1 r2 r3
              have s0 := cell_of_block hs 0
              have s1 := cell_of_block hs 1
              have s2 := cell_of_block hs 2
              have s3 := cell_of_block hs 3
              simp only [List.getElem?_toArray, List.getElem?_cons_zero, List.getElem?_cons_succ] at s0 s1 s2 s3
              have HTE : Hid (Two24 w E p q [g, w6.heap.size] LD L2 (61 + (k + 1)) 60 T2 S) := Lib.hid ((HTD.out.step hE).mono (by omega) (Nat.le_refl _))
              have HRE := Lib.hid (hrE.trans HR7.out.symm)
              clear hE hs hoE hrE
              by_cases her : er = 0
              · have l1 : ((er : Int) == 0) = true := by simp [her]
                by_cases h1 : code = 1
                · have l2 : ((code : Int) == 1) = true := by simp [h1]
                  have hlt := HRN.out her (.inl h1)
                  have l3 : ¬ (rvol : Int) ≤ (rv : Int) := by omega
                  have l4 : decide ((rvol : Int) ≤ (rv : Int)) = false := by simp; omega
                  have j2' : ((code : Int) == 2) = false := by simp; omega
                  clear her h1 hlt
                  go_wp2_with fail
                  go_roundg (mm - (k + 1))
                  case measure => rw [HGG.out]; omega
                  case rel => exact ⟨k + 1, T2, LD, rfl, by omega, by go_num, ⟨HTE.out, HRE.out, HK2.out, Nat.le_trans HLo.out HS2.out.1, HS2.out.2.trans HSo.out⟩⟩
                · have l2 : ((code : Int) == 1) = false := by simp; omega
                  by_cases h3 : code = 3
                  · have l5 : ((code : Int) == 3) = true := by simp [h3]
                    have hlt := HRN.out her (.inr h3)
                    have l3 : ¬ (rvol : Int) ≤ (rv : Int) := by omega
                    have l4 : decide ((rvol : Int) ≤ (rv : Int)) = false := by simp; omega
                    clear her h1 h3 hlt
                    go_wp2_with fail
                    go_roundg (mm - (k + 1))
                    case measure => rw [HGG.out]; omega
                    case rel => exact ⟨k + 1, T2, LD, rfl, by omega, by go_num, ⟨HTE.out, HRE.out, HK2.out, Nat.le_trans HLo.out HS2.out.1, HS2.out.2.trans HSo.out⟩⟩
                  · have l5 : ((code : Int) == 3) = false := by simp; omega
                    clear her h1 h3
                    go_wp2_with fail
                    go_roundg (mm - (k + 1))
                    case measure => rw [HGG.out]; omega
                    case rel => exact ⟨k + 1, T2, LD, rfl, by omega, by go_num, ⟨HTE.out, HRE.out, HK2.out, Nat.le_trans HLo.out HS2.out.1, HS2.out.2.trans HSo.out⟩⟩
              · have l1 : ((er : Int) == 0) = false := by simp; omega
                clear her
                go_wp2_with fail
                go_roundg (mm - (k + 1))
                case measure => rw [HGG.out]; omega
                case rel => exact ⟨k + 1, T2, LD, rfl, by omega, by go_num, ⟨HTE.out, HRE.out, HK2.out, Nat.le_trans HLo.out HS2.out.1, HS2.out.2.trans HSo.out⟩⟩
      · obtain rfl : k = mm := by omega
        have hRb := HRo.out
        have r0 := cell_of_block hRb 0
        have r1 := cell_of_block hRb 1
        have r2 := cell_of_block hRb 2
        have r3 := cell_of_block hRb 3
        simp only [List.getElem?_toArray, List.getElem?_cons_zero, List.getElem?_cons_succ] at r0 r1 r2 r3
        have hgE : ¬ ((k : Int) < (len3 : Int) ∧ (k : Int) < 30) := by have := HMM.out; omega
        have c9 := places_at HT.out.m (by omega) (vol := rv) (by omega)
        have C9 := Lib.hid c9
        clear c9 hRb
        by_cases hk3 : k < len3
        case' pos =>
          have m1 : (k : Int) < (len3 : Int) := by omega
          have m2 : ¬ (k : Int) < 30 := by omega
          have HKK := Lib.hid (And.intro hk3 hgE)
          clear hk3 hgE hk
          go_wp2_with fail
        case' neg =>
          have m1 : ¬ (k : Int) < (len3 : Int) := by omega
          have HKK := Lib.hid (And.intro hk3 hgE)
          clear hk3 hgE hk
          go_wp2_with fail
        all_goals
          refine C9.out.mono ?_
          rintro e w9 ⟨v9, pl, rfl, hpl, hU9, hC9⟩
          rw [HVo.out] at hpl
          have HPL := Lib.hid hpl
          have HU9 := Lib.hid hU9
          have HT9 := Lib.hid (HT.out.step hC9)
          have HR9 := Lib.hid ((hC9.block w6.heap.size (HT.out.xl w6.heap.size (by simp)) (by simp)).trans HRo.out)
          have HPN : Hid (pl.length ≤ 1000000) := Lib.hid (by have := vol_size HT.out.m HVo.out; have := pl_size (good_of HT.out.m HVo.out) hpl; omega)
          have hb9 := Nat.le_refl w9.heap.size
          clear hpl hU9 hC9 C9 r0 r1 r2 r3
          have c10 := places_at HT9.out.q (by omega) HVL.out
          have C10 := Lib.hid c10
          clear c10
          go_wp2_with fail
          refine C10.out.mono ?_
          rintro e w10 ⟨v10, pl10, rfl, hpl10, hU10, hC10⟩
          rw [HD.out] at hpl10
          have e10 : pl10 = pl := pl_eq hpl10 HPL.out (fun _ => rfl)
          subst e10
          have cE := eqNums_at (HU9.out.chg hC10 (by simp)) hU10 HPN.out
          rw [decide_eq_true rfl] at cE
          have CE := Lib.hid cE
          have HT10 := Lib.hid (HT9.out.step hC10)
          have HR10 := Lib.hid ((hC10.block w6.heap.size (HT9.out.xl w6.heap.size (by simp)) (by simp)).trans HR9.out)
          clear hpl10 hU10 hC10 C10 cE hb9
          go_wp2_with fail
          refine CE.out.mono ?_
          rintro e w11 ⟨rfl, hC11⟩
          have HT11 := Lib.hid (HT10.out.step hC11)
          have HR11 := Lib.hid ((hC11.block w6.heap.size (HT10.out.xl w6.heap.size (by simp)) (by simp)).trans HR10.out)
          clear hC11 CE
          have hS := size_at HT11.out.m
          rw [HSo.out] at hS
          have CZ := Lib.hid hS
          clear hS
          go_wp2_with fail
          refine CZ.out.mono ?_
          rintro e w' ⟨rfl, rfl⟩
          clear CZ
          go_wp2_with fail
          go_loopg [134] m (fun gg s wr => ∃ kk : Nat, gg = m - kk ∧ kk ≤ m ∧ s = .int .u64 (kk : Int) ∧ Hid (∃ L5 L6, Two24 w wr p q [g, w6.heap.size] L5 L6 (91 + kk) (60 + kk) T S ∧ wr.heap[w6.heap.size]? = w11.heap[w6.heap.size]?))
          case atStart => exact ⟨0, rfl, Nat.zero_le _, by go_num, ⟨L8, L2, HT11.out.mono (by omega) (Nat.le_refl _), rfl⟩⟩
          case round =>
            obtain ⟨kk, hgg, hkm2, rfl, hX⟩ := hrel
            obtain ⟨wi, rfl⟩ : ∃ wi : World, wi = wr := ⟨_, rfl⟩
            obtain ⟨L5, L7, hTi, hRi⟩ := hX.out
            have HTi := Lib.hid hTi
            have HRi := Lib.hid (hRi.trans HR11.out)
            have HGi := Lib.hid hgg
            clear hTi hRi hX hgg
            by_cases hkk : kk < m
            · have i1 : (kk : Int) < (m : Int) := by omega
              have hRb := HRi.out
              have r0 := cell_of_block hRb 0
              have r1 := cell_of_block hRb 1
              have r2 := cell_of_block hRb 2
              have r3 := cell_of_block hRb 3
              simp only [List.getElem?_toArray, List.getElem?_cons_zero, List.getElem?_cons_succ] at r0 r1 r2 r3
              have c1 := read_ok HTi.out.m (by omega) (v := rv) (by omega) HVo.out (q := kk) (by rw [HSo.out]; exact hkk)
              have C1 := Lib.hid c1
              clear c1 hRb
              go_wp2_with fail
              refine C1.out.mono ?_
              rintro e wA ⟨LA, aA, cA, rfl, hMA, hLA, hBA, hFA, hCA⟩
              have HTA := Lib.hid (HTi.out.one hMA hLA hCA)
              have HKA := Lib.hid (HTi.out.kept1 hCA (x := w6.heap.size) (by simp))
              have HBA := Lib.hid hBA
              have HFA : Hid (∀ b, aA = some b → b.block ∉ L7) := Lib.hid (fun b hb hm => by have := (hFA b hb).1; have := HTi.out.q.lt _ hm; omega)
              clear hMA hLA hBA hFA hCA C1 r0 r1 r2 r3
              have c2 := read_ok HTA.out.q (by omega) HVL.out HD.out (q := kk) (by rw [← Hm.out]; exact hkk)
              have C2 := Lib.hid c2
              clear c2
              go_wp2_with fail
              refine C2.out.mono ?_
              rintro e wB ⟨LB, aB, cB, rfl, hMB, hLB, hBB, hFB, hCB⟩
              have HTB := Lib.hid (HTA.out.two hMB hLB hCB)
              have HRB2 := Lib.hid ((HTA.out.kept2 hCB (x := w6.heap.size) (by simp)).trans (HKA.out.trans (HRi.out.trans HR11.out.symm)))
              have ce := equal_at (HBA.out.chg hCB (fun _ => HFA.out)) hBB
              have he : eqF 128 128 (byteOf' (blkAt D kk)) (byteOf' (blkAt D kk)) = true := eqF_iff.2 ⟨rfl, fun j hj => rfl⟩
              rw [he] at ce
              have CE := Lib.hid ce
              clear hMB hLB hBB hFB hCB C2 ce he
              go_wp2_with fail
              refine CE.out.mono ?_
              rintro e w' ⟨rfl, rfl⟩
              go_wp2_with fail
              go_roundg (m - (kk + 1))
              case measure => rw [HGi.out]; omega
              case rel => exact ⟨kk + 1, rfl, by omega, by go_num, ⟨LA, LB, HTB.out, HRB2.out⟩⟩
            · obtain rfl : kk = m := by omega
              go_wp2_with fail
              refine awake24_at.mono ?_
              rintro e wz ⟨rfl, hZ⟩
              have HZ := Lib.hid (HTi.out.chg.trans hZ)
              clear hZ
              go_wp2_with fail
              go_ret
              exact law_ok HZ.out

end Go.Proofs.Ytbejcmbdaoakbaa
