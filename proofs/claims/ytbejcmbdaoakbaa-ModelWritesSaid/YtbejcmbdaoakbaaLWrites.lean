/- catchmentlaw24.ModelWrites: the walk. (Printed by mkwrites.py.) -/
import Derived.Test.YtbejcmbdaoakbaaSoR
namespace Go.Proofs.Ytbejcmbdaoakbaa
open Go.RowKit Go.Sort Go.Maps
set_option linter.unusedVariables false
set_option linter.unusedSimpArgs false

theorem bytesIn_trod {H : Type} {enc : TypeId × Value → H} {W : World} {a : Option Addr} {len cap : Nat} {d : DataW H} {p : List MemPlace} (h : DataW.Trod enc Try.prog W 0 (fun _ => true) true 24 (.slice a len cap) d p) : ∃ f, BytesIn W a len cap f := by
  obtain ⟨fuel, hf⟩ := h
  obtain ⟨a', len', cap', f, e, hB⟩ := bytesIn_trodF hf
  injection e with e1 e2 e3
  subst e1; subst e2; subst e3
  exact ⟨f, hB⟩

set_option maxRecDepth 100000 in
set_option maxHeartbeats 16000000 in
theorem modelWrites_walk (a0 : Int) (a1 : Option Addr) (len1 cap1 : Nat) (z1 : Nat → Opn) (a2 a3 : Int) (a4 : Option Addr) (len4 cap4 : Nat) (f4 : Nat → Nat) (w : World) (h0 : (Lit.int .u8 a0).wf = true) (h1 : IsOps w a1 len1 cap1 z1) (h2 : (Lit.int .u8 a2).wf = true) (h3 : (Lit.int .u64 a3).wf = true) (h4 : BytesIn w a4 len4 cap4 f4) :
    Calls Try.prog 7 #[.int .u8 a0, .slice a1 len1 cap1, .int .u8 a2, .int .u64 a3, .slice a4 len4 cap4] w (LawOk w) := by
  have hb := bd_u8 h0
  have hb2 := bd_u8 h2
  have hb3 := bd_u64 h3
  obtain ⟨sz, rfl, hsz⟩ : ∃ sz : Nat, a0 = (sz : Int) ∧ sz ≤ 255 := ⟨a0.toNat, by omega, by omega⟩
  obtain ⟨wh, rfl, hwh⟩ : ∃ n : Nat, a2 = (n : Int) ∧ n ≤ 255 := ⟨a2.toNat, by omega, by omega⟩
  obtain ⟨ta, rfl, hta⟩ : ∃ n : Nat, a3 = (n : Int) ∧ n < 18446744073709551616 := ⟨a3.toNat, by omega, by omega⟩
  have HB4 := Lib.hid h4
  have hl4 : len4 ≤ 9223372036854775807 := by have := Nat.le_trans h4.1 h4.2.1; unfold maxLen at this; exact this
  have HI1 := Lib.hid h1
  have HSZ := Lib.hid hsz
  clear h0 h1 h2 h3 h4 hb hb2 hb3 hsz
  have HTA := Lib.hid hta
  clear hta
  go_enter Try.func7, Try.ntmps7
  go_wp2_with fail
  refine (after_at HSZ.out HI1.out).mono ?_
  rintro e w1 ⟨p, L, rfl, hM, hL, hC1⟩
  unfold aPtr
  have hsz1 : (runS (St.new (1 + sz)) z1 (min len1 60)).size = 1 + sz := run_size _ _ _
  obtain ⟨S, hS⟩ : ∃ S, S = runS (St.new (1 + sz)) z1 (min len1 60) := ⟨_, rfl⟩
  rw [← hS] at hM hsz1
  have HM := Lib.hid hM
  have HL := Lib.hid hL
  have HC1 := Lib.hid hC1
  have HSS : Hid (1 ≤ S.size ∧ S.size ≤ 256) := Lib.hid (by rw [hsz1]; have := HSZ.out; show 1 ≤ 1 + sz ∧ 1 + sz ≤ 256; omega)
  clear hM hL hC1 hS hsz1
  go_wp2_with fail
  refine (volumes_at HM.out (by omega)).mono ?_
  rintro e w2 ⟨v, l, rfl, hI, hU, hlN, hC2⟩
  have HI := Lib.hid hI
  have HU := Lib.hid hU
  have HM2 := Lib.hid (HM.out.chg hC2 (by simp))
  have HC2 : Hid (Chg [] w w2) := Lib.hid (HC1.out.trans hC2)
  clear hI hU hC2
  by_cases hl0 : l = []
  · have hv : v = .slice none 0 0 := by
      rcases HU.out with ⟨_, h⟩ | ⟨h, _⟩
      · exact h
      · exact absurd hl0 h
    subst hv
    clear hl0
    go_wp2_with fail
    refine (awake24_at).mono ?_
    rintro e wz ⟨rfl, hZ⟩
    have HZ := Lib.hid (HC2.out.trans hZ)
    clear hZ
    go_wp2_with fail
    go_ret
    exact law_ok HZ.out
  · obtain ⟨g, c, hv, hlc, hcell⟩ := HU.out.cell hl0
    subst hv
    have hlp : 0 < l.length := List.length_pos_iff.2 hl0
    obtain ⟨n, hn⟩ : ∃ n, n = l.length := ⟨_, rfl⟩
    rw [← hn] at hcell hlc hlN hlp
    obtain ⟨ix, hix⟩ : ∃ ix, ix = wh % n := ⟨_, rfl⟩
    have hixl : ix < n := by rw [hix]; exact Nat.mod_lt _ hlp
    have em : (wh : Int) % (n : Int) = (ix : Int) := by rw [hix]; omega
    have et : (wh : Int).tmod (n : Int) = (ix : Int) := by rw [Int.tmod_eq_emod_of_nonneg (by omega)]; exact em
    have ew : IntKind.i64.wrap (wh : Int) = (wh : Int) := IntWalk.i64_in _ (by omega)
    obtain ⟨vol, hvol⟩ : ∃ vol, vol = l[ix]! := ⟨_, rfl⟩
    have hc0 := hcell ix hixl
    rw [← hvol] at hc0
    have hml : vol ∈ l := by rw [hvol, getElem!_pos l ix (by omega)]; exact List.getElem_mem _
    have HVL := Lib.hid (id_lt HM.out HI.out vol hml).2
    obtain ⟨D, hD⟩ : ∃ D, S.vols (kU vol) = some D := by
      have := (HI.out.2 vol).1 hml
      exact Option.isSome_iff_exists.1 this
    have HD := Lib.hid hD
    have hlI : ((n : Int) == 0) = false := by simp; omega
    have hlN0 : (n == 0) = false := by simp; omega
    have hl0I : ¬ (n : Int) = 0 := by omega
    have hl0N : ¬ n = 0 := by omega
    have hln : (n : Int) ≤ 60 := by omega
    have i1 : (ix : Int) < (n : Int) := by omega
    have Hn := Lib.hid hn
    rw [← hn]
    have HIX := Lib.hid hix
    have HVO := Lib.hid hvol
    clear hl0 hcell hml hD hvol hix hn
    have hglt : g < w2.heap.size := World.block_lt_of_cell? w2 ⟨g, ix, none⟩ hc0
    by_cases hb128 : len4 = 128
    case' neg =>
      have hbI : ((len4 : Int) == 128) = false := by simp; omega
      have hbI' : ((len4 : Int) != 128) = true := by simp; omega
      go_wp2_with fail
      refine (awake24_at).mono ?_
      rintro e wz ⟨rfl, hZ⟩
      have HZ := Lib.hid (HC2.out.trans hZ)
      clear hZ
      go_wp2_with fail
      go_ret
      exact law_ok HZ.out
    case' pos =>
      subst hb128
      obtain ⟨m, hm⟩ : ∃ m, m = S.size := ⟨_, rfl⟩
      have hm1 : 1 ≤ m := by rw [hm]; exact HSS.out.1
      have hm6 : m ≤ 256 := by rw [hm]; exact HSS.out.2
      obtain ⟨pq, hpq⟩ : ∃ pq, pq = ta % m := ⟨_, rfl⟩
      have hpqm : pq < m := by rw [hpq]; exact Nat.mod_lt _ (by omega)
      have em2 : (ta : Int) % (m : Int) = (pq : Int) := by rw [hpq]; omega
      have et2 : (ta : Int).tmod (m : Int) = (pq : Int) := by rw [Int.tmod_eq_emod_of_nonneg (by omega)]; exact em2
      have hm0I : ¬ (m : Int) = 0 := by omega
      have hm0N : ¬ m = 0 := by omega
      have Hd := Lib.hid (quiet_size HM2.out hm.symm)
      have Hm := Lib.hid hm
      have HPQ := Lib.hid hpq
      clear hm hpq
      go_upto_region 7 with fail
      go_quiet ((go_at_call 21; exact Hd.out _))
      have HT3 := Lib.hid (HM2.out.chg (Chg.drewN (Chg.refl [] w2) nq) (by simp))
      have HC3 : Hid (Chg [] w (w2.drewN nq)) := Lib.hid (HC2.out.drewN nq)
      have HGL : Hid (w1.heap.size ≤ g ∧ g < w2.heap.size) := Lib.hid ⟨listU_ge HU.out (fun e => by have := Hn.out; rw [e] at this; simp at this; omega), hglt⟩
      have HL1 := Lib.hid HM.out.lt
      have hz3 : (w2.drewN nq).heap.size = w2.heap.size := rfl
      have HG3 : Hid ((w2.drewN nq).heap[g]? = w2.heap[g]?) := Lib.hid rfl
      have HZ3 := Lib.hid hz3
      clear em et ew hc0 hlI hlN0 hl0I hl0N i1 hglt em2 et2 hm0I hm0N Hd hz3
      generalize w2.drewN nq = w3 at *
      go_wp2_with fail
      refine (copy_at HT3.out (by omega)).mono ?_
      rintro e w4 ⟨q, L2, rfl, hM4, hL4, hC4⟩
      unfold aPtr
      have HT4 : Hid (Two24 w w4 p q [g] L L2 60 60 S S) := Lib.hid {
        m := HT3.out.chg hC4 (by simp), q := hM4
        ap := fun x hx hm => by have := hL4 x hm; have := HT3.out.lt x hx; omega
        nl := fun x hx => ⟨HL.out x hx, by simp only [List.mem_singleton]; intro e; have := HL1.out x hx; have := HGL.out.1; omega⟩
        nm := fun x hx => ⟨Nat.le_trans HC3.out.size (hL4 x hx), by simp only [List.mem_singleton]; intro e; have := hL4 x hx; have := HGL.out.2; have := HZ3.out; omega⟩
        xl := fun x hx => by simp only [List.mem_singleton] at hx; have := HGL.out.2; have := HZ3.out; have := hC4.size; omega
        chg := HC3.out.trans hC4 }
      have HG4 : Hid (w4.heap[g]? = w2.heap[g]?) := Lib.hid ((hC4.block g (by have := HGL.out.2; have := HZ3.out; omega) (by simp)).trans HG3.out)
      clear hM4 hL4 hC4
      have c1 := read_ok HT4.out.m (by omega) HVL.out HD.out (q := pq) (by rw [← Hm.out]; exact hpqm)
      have C1 := Lib.hid c1
      clear c1
      go_wp2_with fail
      refine C1.out.mono ?_
      rintro e w5 ⟨L5, aO, cO, rfl, hM5, hL5, hB5, hF5, hC5⟩
      obtain ⟨ob, oo, rfl, hob⟩ := bytes_some hB5 (by omega)
      have HT5 := Lib.hid ((HT4.out.one hM5 hL5 hC5).guard (Y := [g, ob]) (fun x hx => by
        simp only [List.mem_cons, List.not_mem_nil, or_false] at hx
        rcases hx with rfl | rfl
        · exact .inl (by simp)
        · refine .inr ⟨(hF5 _ rfl).2, fun hm => ?_, hob⟩
          exact absurd (HT4.out.q.lt _ hm) (Nat.not_lt.2 (hF5 _ rfl).1)))
      have HG5 : Hid (w5.heap[g]? = w2.heap[g]?) := Lib.hid ((HT4.out.kept1 hC5 (by simp)).trans HG4.out)
      have HOB := Lib.hid hB5
      clear hM5 hL5 hB5 hF5 hC5 C1 hob
      have hst := wr_st (S := S) (v := vol) (p := pq) (f := f4) HD.out (by rw [← Hm.out]; exact hpqm)
      have hrp := wr_rep (S := S) (v := vol) (p := pq) (f := f4) HD.out (by rw [← Hm.out]; exact hpqm)
      have cd := do_at HT5.out.m (by omega) (wr_isOp (v := vol) (p := pq) HVL.out (by omega) (HB4.out.chg HT5.out.chg (by simp)))
      rw [hst, hrp] at cd
      obtain ⟨S', hS'⟩ : ∃ S', S' = S.setVol vol (D.put (kU pq) (blkV f4)) := ⟨_, rfl⟩
      rw [← hS'] at cd
      unfold opV at cd
      have HS' := Lib.hid hS'
      have HZ' : Hid (S'.size = m) := Lib.hid (by rw [hS', Hm.out]; rfl)
      have CD := Lib.hid cd
      clear cd hst hrp hS'
      go_wp2_with fail
      refine CD.out.mono ?_
      rintro e w6 ⟨L6, ra, rc, rfl, hM6, hL6, hB6, hF6, hC6⟩
      have HT6 := Lib.hid (HT5.out.one hM6 hL6 hC6)
      have HG6 : Hid (w6.heap[g]? = w2.heap[g]? ∧ w6.heap[ob]? = w5.heap[ob]?) := Lib.hid ⟨(HT5.out.kept1 hC6 (by simp)).trans HG5.out, HT5.out.kept1 hC6 (by simp)⟩
      have HB6 := Lib.hid hB6
      clear hM6 hL6 hB6 hF6 hC6 CD
      unfold repV
      go_upto_region 11 with fail
      have hV : Chg [] w6 (w6.alloc (.cells #[.int .i64 0, .int .u64 0, .slice ra 0 rc, .int .i64 0] 32)) := (Chg.refl [] w6).alloc _
      have hR := new_block w6 (.cells #[.int .i64 0, .int .u64 0, .slice ra 0 rc, .int .i64 0] 32)
      generalize w6.alloc (.cells #[.int .i64 0, .int .u64 0, .slice ra 0 rc, .int .i64 0] 32) = V at *
      have r0 := cell_of_block hR 0
      have r1 := cell_of_block hR 1
      have r2 := cell_of_block hR 2
      have r3 := cell_of_block hR 3
      simp only [List.getElem?_toArray, List.getElem?_cons_zero, List.getElem?_cons_succ] at r0 r1 r2 r3
      have cS := same24_at (R1 := ⟨0, 0, 0, fun _ => 0, 0⟩) (R2 := ⟨0, 0, 0, fun _ => 0, 0⟩) (HB6.out.chg hV (by simp)) bytes_none
      rw [repEq_self] at cS
      unfold repV at cS
      rw [show (((0 : Nat)) : Int) = 0 from rfl] at cS
      have CS := Lib.hid cS
      have HTV := Lib.hid (HT6.out.step hV)
      have HGV : Hid (V.heap[g]? = w2.heap[g]? ∧ V.heap[ob]? = w5.heap[ob]?) := Lib.hid ⟨(hV.block g (HT6.out.xl g (by simp)) (by simp)).trans HG6.out.1, (hV.block ob (HT6.out.xl ob (by simp)) (by simp)).trans HG6.out.2⟩
      clear hV hR cS
      go_wp2_with fail
      refine CS.out.mono ?_
      rintro e w7 ⟨rfl, hC7⟩
      have HT7 := Lib.hid (HTV.out.step hC7)
      have HG7 : Hid (w7.heap[g]? = w2.heap[g]? ∧ w7.heap[ob]? = w5.heap[ob]?) := Lib.hid ⟨(hC7.block g (HTV.out.xl g (by simp)) (by simp)).trans HGV.out.1, (hC7.block ob (HTV.out.xl ob (by simp)) (by simp)).trans HGV.out.2⟩
      clear hC7 CS r0 r1 r2 r3
      go_wp2_with fail
      go_loopg [82] n (fun gg s wr => ∃ k : Nat, gg = n - k ∧ k ≤ n ∧ s = .int .i64 (k : Int) ∧ Hid (∃ L8 L9, Two24 w wr p q [g, ob] L8 L9 (62 + 256 * k) (60 + 256 * k) S' S ∧ wr.heap[g]? = w2.heap[g]? ∧ wr.heap[ob]? = w5.heap[ob]?))
      case atStart => exact ⟨0, rfl, Nat.zero_le _, by go_num, ⟨L6, L2, HT7.out, HG7.out.1, HG7.out.2⟩⟩
      case round =>
        obtain ⟨i, hgi, hin, rfl, hX⟩ := hrel
        obtain ⟨wo, rfl⟩ : ∃ wo : World, wo = wr := ⟨_, rfl⟩
        obtain ⟨L8, L9, hT, hG8, hO8⟩ := hX.out
        have HT := Lib.hid hT
        have HG8 := Lib.hid (And.intro hG8 hO8)
        have HGI := Lib.hid hgi
        clear hT hG8 hO8 hX hgi
        by_cases hi : i < n
        · obtain ⟨id, hid⟩ : ∃ id, id = l[i]! := ⟨_, rfl⟩
          have hci := listU_same HU.out (fun e => by have := Hn.out; rw [e] at this; simp at this; omega) HG8.out.1 i (by rw [← Hn.out]; exact hi)
          rw [← hid] at hci
          have hmi : id ∈ l := by rw [hid, getElem!_pos l i (by rw [← Hn.out]; exact hi)]; exact List.getElem_mem _
          have HIL := Lib.hid (id_lt HM.out HI.out id hmi).2
          obtain ⟨D0, hD0⟩ : ∃ D0, S.vols (kU id) = some D0 := Option.isSome_iff_exists.1 ((HI.out.2 id).1 hmi)
          obtain ⟨D1, h1, h2, h3⟩ := wr_vols (pq := pq) (f := f4) HD.out hD0 (good_of HM.out HD.out).1
          rw [← HS'.out] at h1
          have H0 := Lib.hid hD0
          have H1 := Lib.hid h1
          have H2 := Lib.hid h2
          have H3 := Lib.hid h3
          have i1 : (i : Int) < (n : Int) := by omega
          have hS := size_at HT.out.m
          rw [HZ'.out] at hS
          have CZ := Lib.hid hS
          clear hmi hD0 h1 h2 h3 hS hid
          go_wp2_with fail
          refine CZ.out.mono ?_
          rintro e w' ⟨rfl, rfl⟩
          clear CZ hci
          go_wp2_with fail
          go_loopg [88] m (fun gg s wr => ∃ k : Nat, gg = m - k ∧ k ≤ m ∧ s = .int .u64 (k : Int) ∧ Hid (∃ L8 L9, Two24 w wr p q [g, ob] L8 L9 (62 + 256 * i + k) (60 + 256 * i + k) S' S ∧ wr.heap[g]? = w2.heap[g]? ∧ wr.heap[ob]? = w5.heap[ob]?))
          case atStart => exact ⟨0, rfl, Nat.zero_le _, by go_num, ⟨L8, L9, HT.out, HG8.out.1, HG8.out.2⟩⟩
          case round =>
            obtain ⟨kk, hgg, hkm, rfl, hX⟩ := hrel
            obtain ⟨wi, rfl⟩ : ∃ wi : World, wi = wr := ⟨_, rfl⟩
            obtain ⟨M8, M9, hT, hG9, hO9⟩ := hX.out
            have HTi := Lib.hid hT
            have HG9 := Lib.hid (And.intro hG9 hO9)
            have HGG := Lib.hid hgg
            clear hT hG9 hO9 hX hgg
            by_cases hkk : kk < m
            · have i2 : (kk : Int) < (m : Int) := by omega
              have c1 := read_ok HTi.out.m (by omega) HIL.out H1.out (q := kk) (by rw [HZ'.out]; exact hkk)
              have C1 := Lib.hid c1
              clear c1
              go_wp2_with fail
              refine C1.out.mono ?_
              rintro e wA ⟨LA, aA, cA, rfl, hMA, hLA, hBA, hFA, hCA⟩
              have HTA := Lib.hid (HTi.out.one hMA hLA hCA)
              have HKA := Lib.hid (And.intro (HTi.out.kept1 hCA (x := g) (by simp)) (HTi.out.kept1 hCA (x := ob) (by simp)))
              have HBA := Lib.hid hBA
              have HFA : Hid (∀ b, aA = some b → b.block ∉ M9) := Lib.hid (fun b hb hm => by have := (hFA b hb).1; have := HTi.out.q.lt _ hm; omega)
              clear hMA hLA hBA hFA hCA C1
              have c2 := read_ok HTA.out.q (by omega) HIL.out H0.out (q := kk) (by rw [← Hm.out]; exact hkk)
              have C2 := Lib.hid c2
              clear c2
              go_wp2_with fail
              refine C2.out.mono ?_
              rintro e wB ⟨LB, aB, cB, rfl, hMB, hLB, hBB, hFB, hCB⟩
              have HTB := Lib.hid (HTA.out.two hMB hLB hCB)
              have HGB := Lib.hid (And.intro ((HTA.out.kept2 hCB (x := g) (by simp)).trans (HKA.out.1.trans HG9.out.1)) ((HTA.out.kept2 hCB (x := ob) (by simp)).trans (HKA.out.2.trans HG9.out.2)))
              have HBB := Lib.hid hBB
              have HBAB := Lib.hid (HBA.out.chg hCB (fun _ => HFA.out))
              clear hMB hLB hBB hFB hCB C2
              by_cases hT1 : id = vol ∧ kk = pq
              · have ce := equal_at HBAB.out (HB4.out.chg HTB.out.chg (by simp))
                have he : eqF 128 128 (byteOf' (blkAt D1 kk)) f4 = true := eqF_iff.2 ⟨rfl, fun j hj => by rw [hT1.2, H2.out hT1.1]; exact byte_u8s hj⟩
                rw [he] at ce
                have CE := Lib.hid ce
                have j1 : ((id : Int) == (vol : Int)) = true := by simp [hT1.1]
                have j2 : ((kk : Int) == (pq : Int)) = true := by simp [hT1.2]
                have j1' : (id == vol) = true := by simp [hT1.1]
                have j2' : (kk == pq) = true := by simp [hT1.2]
                clear ce he hT1
                go_wp2_with fail
                refine CE.out.mono ?_
                rintro e w' ⟨rfl, rfl⟩
                go_wp2_with fail
                go_roundg (m - (kk + 1))
                case measure => rw [HGG.out]; omega
                case rel => exact ⟨kk + 1, rfl, by omega, by go_num, ⟨LA, LB, HTB.out, HGB.out.1, HGB.out.2⟩⟩
              · have ce := equal_at HBAB.out HBB.out
                have he : eqF 128 128 (byteOf' (blkAt D1 kk)) (byteOf' (blkAt D0 kk)) = true := eqF_iff.2 ⟨rfl, fun j hj => by rw [H3.out kk hT1]⟩
                rw [he] at ce
                have CE := Lib.hid ce
                clear ce he
                by_cases hiv : id = vol
                case' pos =>
                  have j1 : ((id : Int) == (vol : Int)) = true := by simp [hiv]
                  have hkp : ¬ kk = pq := fun e => hT1 ⟨hiv, e⟩
                  have j2 : ((kk : Int) == (pq : Int)) = false := by simp; omega
                  have j3 : ¬ (kk : Int) = (pq : Int) := by omega
                  have j1' : (id == vol) = true := by simp [hiv]
                  have HT1 := Lib.hid hT1
                  clear hT1 hkp hiv
                  go_wp2_with fail
                  refine CE.out.mono ?_
                case' neg =>
                  have j1 : ((id : Int) == (vol : Int)) = false := by simp; omega
                  have j3 : ¬ (id : Int) = (vol : Int) := by omega
                  have HT1 := Lib.hid hT1
                  clear hT1 hiv
                  go_wp2_with fail
                  refine CE.out.mono ?_
                all_goals
                  rintro e w' ⟨rfl, rfl⟩
                  go_wp2_with fail
                  go_roundg (m - (kk + 1))
                  case measure => rw [HGG.out]; omega
                  case rel => exact ⟨kk + 1, rfl, by omega, by go_num, ⟨LA, LB, HTB.out, HGB.out.1, HGB.out.2⟩⟩
            · obtain rfl : kk = m := by omega
              go_wp2_with fail
              go_roundg (n - (i + 1))
              case measure => rw [HGI.out]; omega
              case rel => exact ⟨i + 1, rfl, by omega, by go_num, ⟨M8, M9, HTi.out.mono (by omega) (by omega), HG9.out.1, HG9.out.2⟩⟩
        · obtain rfl : i = n := by omega
          have c9 := places_at HT.out.q (by omega) HVL.out
          have C9 := Lib.hid c9
          clear c9
          go_wp2_with fail
          refine C9.out.mono ?_
          rintro e w9 ⟨v9, pl, rfl, hpl, hU9, hC9⟩
          rw [HD.out] at hpl
          have HPL := Lib.hid hpl
          have HU9 := Lib.hid hU9
          have HT9 := Lib.hid (HT.out.step hC9)
          have HO9 := Lib.hid ((hC9.block ob (HT.out.xl ob (by simp)) (by simp)).trans HG8.out.2)
          have HPN : Hid (pl.length ≤ 1000000) := Lib.hid (by have := vol_size HT.out.q HD.out; have := pl_size (good_of HT.out.q HD.out) hpl; omega)
          have hsv : ∃ a k, v9 = .slice a pl.length k := by
            rcases hU9 with ⟨q, e⟩ | ⟨_, g, c, e, _⟩
            · exact ⟨none, 0, by rw [e, q]; rfl⟩
            · exact ⟨_, c, e⟩
          obtain ⟨a9, k9, rfl⟩ := hsv
          obtain ⟨np, hnp⟩ : ∃ np, np = pl.length := ⟨_, rfl⟩
          rw [← hnp]
          have hnp6 : np ≤ 1000000 := by rw [hnp]; exact HPN.out
          have HNP := Lib.hid hnp
          clear hpl hU9 hC9 C9 hnp
          go_wp2_with fail
          go_loop [26, 132] (fun s u => ∃ (k : Nat) (b : Bool), k ≤ np ∧ u = .int .i64 (k : Int) ∧ s = .bool b ∧ Hid (b = decide (pq ∈ pl.take k))) (fun _ u => np - (intOf u).toNat)
          case atStart => exact ⟨0, false, Nat.zero_le _, by go_num, rfl, Lib.hid (by simp)⟩
          case round =>
            obtain ⟨k, b, hk, rfl, rfl, HB⟩ := hrel
            by_cases hkn : k < np
            · have hpl0 : pl ≠ [] := fun e => by have := HNP.out; rw [e] at this; simp at this; omega
              obtain ⟨g9, c9, e9, _, hc9⟩ := HU9.out.cell hpl0
              injection e9 with e9a e9b e9c
              subst e9a
              obtain ⟨x, hx⟩ : ∃ x, x = pl[k]! := ⟨_, rfl⟩
              have cx := hc9 k (by rw [← HNP.out]; exact hkn)
              rw [← hx] at cx
              have htk := take_mem (l := pl) (x := pq) (k := k) (by rw [← HNP.out]; exact hkn)
              rw [← hx, ← HB.out] at htk
              have HTK := Lib.hid htk
              have i1 : (k : Int) < (np : Int) := by omega
              clear hc9 hx htk e9b e9c hpl0
              cases b with
              | true =>
                go_wp2_with fail
                go_round
                case rel => exact ⟨k + 1, true, by omega, by go_num, rfl, Lib.hid (by rw [HTK.out]; rfl)⟩
                case measure => simp [intOf]; omega
              | false =>
                by_cases hxp : x = pq
                · have j1 : ((x : Int) == (pq : Int)) = true := by simp [hxp]
                  have j2 : (x == pq) = true := by simp [hxp]
                  have HXP := Lib.hid hxp
                  clear hxp
                  go_wp2_with fail
                  go_round
                  case rel => exact ⟨k + 1, true, by omega, by go_num, rfl, Lib.hid (by rw [HTK.out, decide_eq_true HXP.out]; rfl)⟩
                  case measure => simp [intOf]; omega
                · have j1 : ((x : Int) == (pq : Int)) = false := by simp; omega
                  have HXP := Lib.hid hxp
                  clear hxp
                  go_wp2_with fail
                  go_round
                  case rel => exact ⟨k + 1, false, by omega, by go_num, rfl, Lib.hid (by rw [HTK.out, decide_eq_false HXP.out]; rfl)⟩
                  case measure => simp [intOf]; omega
            · obtain rfl : k = np := by omega
              have HBF : Hid (b = has D (kU pq)) := Lib.hid (by
                rw [HB.out, HNP.out, List.take_length, Bool.eq_iff_iff, decide_eq_true_eq]
                exact HPL.out.2 pq)
              obtain ⟨Dn, hDn⟩ : ∃ Dn, Dn = D.put (kU pq) (blkV f4) := ⟨_, rfl⟩
              obtain ⟨fo, hfo⟩ : ∃ fo, fo = byteOf' (blkAt D pq) := ⟨_, rfl⟩
              have hv' : S'.vols (kU vol) = some Dn := by rw [HS'.out, hDn]; exact set_vol
              have hst := wr_st (S := S') (v := vol) (p := pq) (f := fo) hv' (by rw [HZ'.out]; exact hpqm)
              have hby := bytes_same HOB.out HO9.out
              rw [← hfo] at hby
              have cd := do_at HT9.out.m (by omega) (wr_isOp (v := vol) (p := pq) HVL.out (by omega) hby)
              rw [hst] at cd
              obtain ⟨S2, hS2⟩ : ∃ S2, S2 = S'.setVol vol (Dn.put (kU pq) (blkV fo)) := ⟨_, rfl⟩
              rw [← hS2] at cd
              unfold opV at cd
              have HS2 : Hid (S2 = (S.setVol vol (D.put (kU pq) (blkV f4))).setVol vol ((D.put (kU pq) (blkV f4)).put (kU pq) (blkV (byteOf' (blkAt D pq))))) := Lib.hid (by rw [hS2, HS'.out, hDn, hfo])
              have CD := Lib.hid cd
              clear cd hst hby hv' hDn hfo hS2
              go_wp2_with fail
              refine CD.out.mono ?_
              rintro e w11 ⟨L11, a11, c11, rfl, hM11, hL11, hB11, hF11, hC11⟩
              have HT11 := Lib.hid (HT9.out.one hM11 hL11 hC11)
              have HSE : Hid (stEq S2 S = b) := Lib.hid (by
                have hm := hM11
                rw [HS2.out] at hm
                rw [HBF.out, HS2.out]
                exact wr_back HT11.out.q HD.out hm)
              clear hM11 hL11 hB11 hF11 hC11 CD
              go_wp2_with fail
              refine (same_at HT11.out.m HT11.out.q).mono ?_
              rintro e w12 ⟨rfl, hC12⟩
              rw [HSE.out]
              have HC12 := Lib.hid (HT11.out.chg.trans hC12)
              clear hC12
              cases b
              all_goals
                go_wp2_with fail
                refine awake24_at.mono ?_
                rintro e wz ⟨rfl, hZ⟩
                have HZ := Lib.hid (HC12.out.trans hZ)
                clear hZ
                go_wp2_with fail
                go_ret
                exact law_ok HZ.out

end Go.Proofs.Ytbejcmbdaoakbaa
