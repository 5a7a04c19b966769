/- catchmentlaw13.FindTells: the walk. · The statement 'FindTells': the Go function returns true at every input, and leaves what came in as it was. No condition. -/
import Derived.Test.YtkhcaclndepgbaaGreatZe52
import Derived.Deep.LoopGhost
import Derived.Test.YtkhcaclndepgbaaGreatRows
import Derived.WalkKit
import Derived.ProofKit
import Derived.OpenShut
import Derived.ShutString
import Derived.ChangeOld
import Derived.Below
set_option linter.unusedVariables false
set_option linter.unusedSimpArgs false
set_option maxRecDepth 100000
set_option maxHeartbeats 20000000
namespace Go.Proofs.YtkhcaclndepgbaaGreat
open Go.RowKit
theorem findTells_walk (a0 : Option Addr) (len0 cap0 : Nat) (l : List (Nat × Nat)) (a1 : Option Addr) (len1 cap1 : Nat) (zs : List Int) (x2 x3 x4 : Int) (w : World)
  (h0 : ItemsIn [] w (.slice a0 len0 cap0) l) (h1 : IsRow .u64 w a1 len1 cap1 zs) (h2 : (Lit.int .u64 x2).wf = true) (h3 : (Lit.int .u64 x3).wf = true) (h4 : (Lit.int .i64 x4).wf = true) :
  Calls Tryz.prog 7 #[.slice a0 len0 cap0, .slice a1 len1 cap1, .int .u64 x2, .int .u64 x3, .int .i64 x4] w fun e w' => e = .returned (.bool true) ∧ Below w.heap.size w w' := by
 obtain ⟨a, c, e, hc1, hc2⟩ := h0.len
 injection e with e1 e2 e3
 subst e1; subst e3
 obtain ⟨lo, rfl, hlo⟩ : ∃ y : Nat, x2 = (y : Int) ∧ y < 18446744073709551616 := by
  have := bd_u64 h2
  exact ⟨x2.toNat, by omega, by omega⟩
 obtain ⟨hi, rfl, hhi⟩ : ∃ y : Nat, x3 = (y : Int) ∧ y < 18446744073709551616 := by
  have := bd_u64 h3
  exact ⟨x3.toNat, by omega, by omega⟩
 have hmo := bd_i64 h4
 obtain ⟨k1, k2⟩ := h1.cap_le
 have k2 : cap1 ≤ 9223372036854775807 := by unfold maxLen at k2; omega
 have Hnil1 := Lib.hid (show a1 = none → len1 = 0 ∧ cap1 = 0 from fun e => by subst e; exact h1.none_len)
 have HAW := Lib.hid awake13_at
 have H0 := Lib.hid h0
 have H1 := Lib.hid h1
 have HL := Lib.hid e2
 rw [← e2] at hc1
 clear h0 h1 h2 h3 h4 e2
 by_cases hbig : 200 < len0
 ·have i1 : (200 : Int) < (len0 : Int) := by omega
  have cA := HAW.out w
  go_enter Tryz.func7, Tryz.ntmps7
  go_wp2_with fail
  refine cA.mono ?_
  clear cA
  rintro e w1 ⟨rfl, hc⟩
  have HC := Lib.hid hc
  clear hc
  go_wp2_with fail
  go_ret
  exact ⟨rfl, HC.out.below (by simp)⟩
 ·have i1 : ¬ (200 : Int) < (len0 : Int) := by omega
  have c0 := base13_at (N := 200) w (by omega) (F := []) (fun q hq => by cases hq)
  change Calls _ _ #[.int .i64 200] w _ at c0
  go_enter Tryz.func7, Tryz.ntmps7
  go_wp2_with fail
  refine c0.mono ?_
  clear c0
  rintro e w1 ⟨M, rfl, hb0, hc1', hM⟩
  have hI : Hid (BaseAt w1 M [] (Bs.fmt 200) ∧ Chg [] w w1 ∧ ∀ q, q ∈ M.L → w.heap.size ≤ q) := Lib.hid ⟨hb0, hc1', hM⟩
  have cR := rising13_at (H0.out.chg hc1' (by simp)) (by rw [← HL.out]; omega)
  clear hb0 hc1' hM
  go_wp2_with fail
  refine cR.mono ?_
  clear cR
  rintro e w2 ⟨u, rfl, hown, hc2'⟩
  obtain ⟨r1, r2, r3, -, -⟩ := ris_all H0.out.u
  rw [← HL.out] at r3
  obtain ⟨R, hR⟩ : ∃ R, R = risL l := ⟨_, rfl⟩
  rw [← hR] at hown r1 r2 r3
  have hb2 := hI.out.1.chg hc2' (by simp)
  have r200 : (Bs.fmt 200).room = 188 := by rw [room_fmt (by omega)]; rfl
  have hitR : ItemsIn M.L w2 u R := ItemsIn.of_own hown r2 (fun g hg hm => by have h1 := (hown.lt g hg).1; have h2 := hI.out.1.ltL hm; omega)
  have cB := build13_any (items := R) hb2 (fun q hq => by cases hq) (good_fmt (N := 200) (by omega)).1 (by rw [r200]; omega) (by omega) r1 r2 hitR (by omega)
  have CB := Lib.hid cB
  have HC := Lib.hid (hI.out.2.1.trans hc2')
  have HIT := Lib.hid hitR
  have HASC := Lib.hid r1
  obtain ⟨ua, uc, e4, u1, u2⟩ := hitR.len
  obtain ⟨m, hm⟩ : ∃ m, m = R.length := ⟨_, rfl⟩
  rw [← hm] at e4 u1 r3
  subst e4
  have HMM := Lib.hid hm
  clear hown hc2' hb2 r1 r2 r200 cB hR hitR hm
  go_wp2_with fail
  refine CB.out.mono ?_
  clear CB
  rintro e w3 ⟨x, B, rfl, q1, q2, q3, q4, q5, -, -⟩
  have ok := q2.ok
  have cRt := fdRight_at q1 (x : Int) (WalkArith.wf_i64 (by have := q3.bd ok; omega))
  rw [q3.right ok] at cRt
  have hw3 : Chg [] w w3 := HC.out.then q5 (fun q hq => .inr (hI.out.2.2 q hq))
  have HIT3 := Lib.hid (HIT.out.chg q5 (fun k hk => .inl hk))
  have HF := Lib.hid (And.intro q1 (And.intro ok (And.intro q3 (And.intro q4 (WalkArith.wf_i64 (by have := q3.bd ok; omega) : (Lit.int .i64 (x : Int)).wf = true)))))
  have HW3 := Lib.hid hw3
  clear q1 q2 q3 q4 q5 ok hw3
  go_wp2_with fail
  refine cRt.mono ?_
  clear cRt
  rintro e w4 ⟨rfl, hc4⟩
  have H4 := Lib.hid hc4
  clear hc4
  go_upto_region 8 with fail
  have HW4 := Lib.hid (HW3.out.trans H4.out)
  go_cut [59, 60, 61] (fun s l i wx => ∃ m : Nat, m ≤ 10 ∧ m ≤ len1 ∧ s = .slice a1 m cap1 ∧ l = .int .i64 (m : Int) ∧ i = .int .i64 0 ∧ wx = w4)
  case first =>
   have h60 : 10 < len1 ∨ len1 ≤ 10 := by omega
   rcases h60 with h60 | h60
   ·go_wp2_with fail
    go_meet
    exact ⟨10, by omega, by omega, by congr 1; omega, by congr 1; omega, rfl, rfl⟩
   ·cases a1 with
    | none =>
     obtain ⟨rfl, rfl⟩ := Hnil1.out rfl
     go_wp2_with fail
     go_meet
     exact ⟨0, by omega, by omega, rfl, rfl, rfl, rfl⟩
    | some a1 =>
     go_wp2_with fail
     go_meet
     exact ⟨len1, by omega, by omega, by congr 1; omega, by congr 1; omega, rfl, rfl⟩
  case rest =>
   obtain ⟨n, hn1, hn2, rfl, rfl, rfl, hwc⟩ := hcut
   obtain rfl : wc = w4 := hwc
   go_wp2_with fail
   go_loopg [61] n (fun gg s wr => ∃ j : Nat, j ≤ n ∧ gg = n - j ∧ s = .int .i64 (j : Int) ∧ Hid (Chg [] wc wr))
   case atStart => exact ⟨0, Nat.zero_le _, rfl, rfl, Lib.hid (Chg.refl _ _)⟩
   case round =>
    obtain ⟨j, hj, hgg, rfl, HC5⟩ := hrel
    have HGG := Lib.hid hgg
    clear hgg
    by_cases hjn : j < n
    ·have j1 : (j : Int) < (n : Int) := by omega
     obtain ⟨kb, ko, rfl, klt, kc, kwf⟩ := H1.out.get (i := j) (by omega)
     have kc' := (HW4.out.trans HC5.out).cell (p := ⟨kb, ko + j, none⟩) klt (by simp)
     rw [kc] at kc'
     obtain ⟨key, hkey, hk64⟩ : ∃ key : Nat, zs.getD j 0 = (key : Int) ∧ key < 18446744073709551616 := by
      have := bd_u64 kwf
      exact ⟨(zs.getD j 0).toNat, by omega, by omega⟩
     rw [hkey] at kc'
     have cG := fGet_at ((HF.out.1.chg H4.out (by simp)).chg HC5.out (by simp)) (x : Int) HF.out.2.2.2.2 key hk64
     rw [HF.out.2.2.1.get HF.out.2.1 HASC.out key] at cG
     have cR := fun w' (hc : Chg [] wr w') => r13Get_at (((HIT3.out.chg H4.out (by simp)).chg HC5.out (by simp)).chg hc (by simp)) (by rw [← HMM.out]; omega) key
     obtain ⟨v, b, hvb⟩ : ∃ v b, lookP R key = (v, b) := ⟨_, _, rfl⟩
     rw [hvb] at cG cR
     have CR := Lib.hid cR
     clear kc klt kwf hkey cR hvb
     go_wp2_with fail
     refine cG.mono ?_
     clear cG kc'
     rintro e w5 ⟨rfl, hc5⟩
     have cR := CR.out w5 hc5
     have HC6 := Lib.hid (HC5.out.trans hc5)
     clear hc5 CR
     go_wp2_with fail
     refine cR.mono ?_
     clear cR
     rintro e w6 ⟨rfl, rfl⟩
     go_wp2_with fail
     go_roundg (n - (j + 1))
     case measure => have := HGG.out; omega
     case rel => exact ⟨j + 1, hjn, rfl, by go_num, HC6⟩
    ·obtain rfl : j = n := by omega
     have j1 : ¬ (j : Int) < (j : Int) := by omega
     have hb5 := (HF.out.1.chg H4.out (by simp)).chg HC5.out (by simp)
     obtain ⟨got, hgot⟩ : ∃ got, got = (R.filter fun p => decide (lo ≤ p.1) && decide (p.1 ≤ hi)).take (max x4 0).toNat := ⟨_, rfl⟩
     have hgl : got.length ≤ m := by
      rw [hgot, HMM.out]
      exact Nat.le_trans (List.length_take_le' _ _) (List.length_filter_le _ _)
     have hgu : It64 got := fun p hp => HIT3.out.u p (by
      rw [hgot] at hp
      exact (List.mem_filter.1 (List.mem_of_mem_take hp)).1)
     have cW := fdWalk_at hb5 (y := (x : Int)) hlo hhi (most := x4) hmo (.inl (by
      rw [HF.out.2.2.1.walk HF.out.2.1, List.length_map]
      have := List.length_filter_le (fun p : Nat × Nat => decide (lo ≤ p.1) && decide (p.1 ≤ hi)) R
      have := HMM.out
      omega)) rfl
     rw [HF.out.2.2.1.walkR HF.out.2.1 lo hi x4, ← hgot] at cW
     have HGO := Lib.hid (And.intro hgot (And.intro hgl hgu))
     have HB5 := Lib.hid hb5
     clear hb5 hgot hgl hgu
     go_wp2_with fail
     refine cW.mono ?_
     clear cW
     rintro e w6 ⟨v6, rfl, hown6, hc6⟩
     obtain ⟨s6, t6, rfl, _, _⟩ := ownRow_slice hown6
     have cH := fHeight_at (HB5.out.chg hc6 (by simp)) (x : Int) HF.out.2.2.2.2
     rw [HF.out.2.2.2.1, ← HMM.out] at cH
     obtain ⟨hg, hhg⟩ : ∃ z, z = highR m := ⟨_, rfl⟩
     rw [← hhg] at cH
     have H6 := Lib.hid (And.intro hown6 (HC5.out.trans hc6))
     have HHG := Lib.hid hhg
     clear hown6 hc6 hhg
     go_wp2_with fail
     refine cH.mono ?_
     clear cH
     rintro e w7 ⟨rfl, hc7⟩
     have hit7 := ((HIT3.out.chg H4.out (by simp)).chg H6.out.2 (by simp)).chg hc7 (by simp)
     have cI := r13Items_at hit7 (by rw [← HMM.out]; omega) lo hi x4
     rw [itemsR_is lo hi x4 R [] (by simp; omega), List.nil_append, ← HGO.out.1] at cI
     have HIT7 := Lib.hid hit7
     have HC7 := Lib.hid (H6.out.2.trans hc7)
     have HOW7 := Lib.hid (ownRow_chg H6.out.1 hc7 (by simp))
     clear hc7 hit7
     go_wp2_with fail
     refine cI.mono ?_
     clear cI
     rintro e w8 ⟨v8, rfl, hown8, hc8⟩
     have cS := same13_at (A := []) (A' := []) (ItemsIn.of_own (ownRow_chg HOW7.out hc8 (by simp)) HGO.out.2.2 (fun _ _ => by simp)) (ItemsIn.of_own hown8 HGO.out.2.2 (fun _ _ => by simp)) (by have := HGO.out.2.1; omega)
     rw [decide_eq_true rfl] at cS
     have HC8 := Lib.hid (HC7.out.trans hc8)
     obtain ⟨s8, t8, rfl, _, _⟩ := ownRow_slice hown8
     clear hown8 hc8
     go_wp2_with fail
     refine cS.mono ?_
     clear cS
     rintro e w9 ⟨rfl, hc9⟩
     have HC9 := Lib.hid (HC8.out.trans hc9)
     clear hc9
     have cH := r13Height_at (n := m) (by omega) w9
     rw [← HHG.out] at cH
     go_wp2_with fail
     refine cH.mono ?_
     clear cH
     rintro e w10 ⟨rfl, rfl⟩
     have cA := HAW.out w9
     go_wp2_with fail
     refine cA.mono ?_
     clear cA
     rintro e w11 ⟨rfl, hc11⟩
     have HC11 := Lib.hid ((HW4.out.trans HC9.out).trans hc11)
     clear hc11
     go_wp2_with fail
     go_ret
     exact ⟨rfl, HC11.out.below (by simp)⟩
end Go.Proofs.YtkhcaclndepgbaaGreat
namespace Go.Proofs.YtkhcaclndepgbaaGreat.findTells
open Go.ChangeShapes Go.WideShapes Go.ChangeAt Go.RowKit
open Go.ChangeMaps (open_string shut_string)
theorem own : ownKnob Tryz.prog.godebug = none := by kernel_rfl
theorem laidOut : laidOutB Tryz.prog = true := by kernel_rfl
theorem lifted (os : Os) (started : os.Started) (H : Type) (enc : TypeId × Value → H) :
  ReturnsInHanded {} Tryz.checked os 7 .any (Rows.findTellsSpec.pre6 enc Tryz.prog Tryz.f7 Rows.findTellsRow.domain false) (Rows.findTellsSpec.post enc Tryz.prog Tryz.f7 false true false false) := by
 refine returnsInHanded_of_change (C := Tryz.checked) own started (by kernel_rfl) Tryz.func7
  (ChangeSpec.witness6 (enc := enc) (C := Tryz.checked) false ⟨#[], #[.slice none 0 0, .slice none 0 0, .int .u64 0, .int .u64 0, .int .i64 0], []⟩ 8 (by kernel_rfl) (by kernel_rfl) (by kernel_rfl) (by kernel_rfl)) ?_
 intro W base args ds gs before hval0 hW hcnd _
 have hval : ∀ (j : Nat) t v, Tryz.f7.params[j]? = some t → args[j]? = some v → Value.okWide Tryz.prog W .any base t v := hval0
 have hW' := hW
 obtain ⟨p, q, hA0, hV, rfl, hfz, hnd⟩ := hW
 have hA : DataW.TrodAll enc Tryz.prog W 0 (fun _ => true) true Tryz.f7.params.toList args.toList ds p := hA0
 rw [Tryz.params7] at hA hval
 obtain ⟨v0, vr0, d0, ds0, p0, q0, hargs, rfl, rfl, h0, r0⟩ := trodAll_cons hA
 obtain ⟨v1, vr1, d1, ds1, p1, q1, rfl, rfl, rfl, h1, r1⟩ := trodAll_cons r0
 obtain ⟨v2, vr2, d2, ds2, p2, q2, rfl, rfl, rfl, h2, r2⟩ := trodAll_cons r1
 obtain ⟨v3, vr3, d3, ds3, p3, q3, rfl, rfl, rfl, h3, r3⟩ := trodAll_cons r2
 obtain ⟨v4, vr4, d4, ds4, p4, q4, rfl, rfl, rfl, h4, r4⟩ := trodAll_cons r3
 obtain ⟨rfl, rfl, rfl⟩ := trodAll_nil r4
 obtain rfl : args = #[v0, v1, v2, v3, v4] := by cases args; simp_all
 obtain ⟨rfl, rfl⟩ := trodVars_none hV
 obtain ⟨a0, len0, cap0, rfl⟩ := okWide_slice Tryz.underlying83 (hval 0 83 v0 rfl rfl)
 have k0 := h0
 have lt0 : ∀ x ∈ p0, x.block < W.heap.size := by obtain ⟨m, hm⟩ := k0; exact DataW.trod_lt m _ _ _ hm
 obtain ⟨z0, w0⟩ := open_items h0
 obtain ⟨a1, len1, cap1, rfl⟩ := okWide_slice Tryz.underlying84 (hval 1 84 v1 rfl rfl)
 have k1 := h1
 have lt1 : ∀ x ∈ p1, x.block < W.heap.size := by obtain ⟨m, hm⟩ := k1; exact DataW.trod_lt m _ _ _ hm
 obtain ⟨z1, w1⟩ : ∃ zs, IsRow .u64 W a1 len1 cap1 zs := by
  obtain ⟨fuel, hf⟩ := h1
  rcases open_ints Tryz.underlying84 Tryz.underlying44 (by kernel_rfl) hf with ⟨hcs, _⟩ | ⟨x, l, c, zs, hcs, _, hl, hm, hz, _, hcell, hwz⟩
  ·simp [Value.cells] at hcs
   obtain ⟨rfl, rfl, rfl⟩ := hcs
   exact ⟨[], .inl ⟨rfl, rfl, rfl, rfl⟩⟩
  ·simp [Value.cells] at hcs
   obtain ⟨rfl, rfl, rfl⟩ := hcs
   exact ⟨zs, .inr ⟨_, rfl, hl, hm, by simpa using hz, hcell, hwz⟩⟩
 obtain ⟨a2, rfl, rfl, rfl, w2⟩ := open_int Tryz.underlying44 (hval 2 44 v2 rfl rfl) h2
 obtain ⟨a3, rfl, rfl, rfl, w3⟩ := open_int Tryz.underlying44 (hval 3 44 v3 rfl rfl) h3
 obtain ⟨a4, rfl, rfl, rfl, w4⟩ := open_int Tryz.underlying3 (hval 4 3 v4 rfl rfl) h4
 clear hA0 hval0
 refine (findTells_walk a0 len0 cap0 z0 a1 len1 cap1 z1 a2 a3 a4 W w0 w1 w2 w3 w4).mono fun e W' ⟨he, bel⟩ => ?_
 subst he
 exact ⟨_, rfl, _, _, _, [], _, [], hW', trodAll_mk1 (shut_bool Tryz.underlying4 _), (trodAll_cons_mk (Below.trod laidOut (by kernel_rfl) (of_decide_eq_true (by kernel_rfl)) k0 bel lt0) (trodAll_cons_mk (Below.trod laidOut (by kernel_rfl) (of_decide_eq_true (by kernel_rfl)) k1 bel lt1) (trodAll_cons_mk (shut_int Tryz.underlying44 w2) (trodAll_cons_mk (shut_int Tryz.underlying44 w3) (trodAll_cons_mk (shut_int Tryz.underlying3 w4) trodAll_mk0))))), rfl, bel.frame _, fun h => by cases h⟩
end Go.Proofs.YtkhcaclndepgbaaGreat.findTells
