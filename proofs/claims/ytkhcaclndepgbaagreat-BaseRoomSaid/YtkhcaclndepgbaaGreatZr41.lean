/- catchmentlaw11.BaseRoom: the walk. -/
import Derived.Test.YtkhcaclndepgbaaGreatZr40
import Derived.Deep.LoopGhost
set_option linter.unusedVariables false
set_option linter.unusedSimpArgs false
set_option maxRecDepth 100000
set_option maxHeartbeats 20000000
namespace Go.Proofs.YtkhcaclndepgbaaGreat
open Go.RowKit
structure Rm1 (w w1 wr : World) (M : Bm) (N : Nat) (L : List Nat) (B : Bs) (s : Value) : Prop where
 base : BaseAt wr M (ownL s) B
 good : Good N 1 B
 row : wr.ownsRow w1.heap.size 3 1 s L.length (intVs L)
 wt : B.T.waits = 0
 live : ∀ b, B.live b = decide (b ∈ L)
 nd : L.Nodup
 now : ∀ b, b ∈ L → B.T.now b = 1 ∧ b < N
 c : Chg [] w wr
 c1 : w1.heap.size ≤ wr.heap.size
theorem Rm1.cnt {w w1 wr : World} {M : Bm} {N : Nat} {L : List Nat} {B : Bs} {s : Value} (h : Rm1 w w1 wr M N L B s) : Go.Proofs.YtkhcaclndepgbaaGreat.cnt N B.live = L.length := by
 rw [cnt_congr (q := fun b => decide (b ∈ L)) (fun i _ => h.live i)]
 exact cnt_mem L h.nd fun x hx => (h.now x hx).2
theorem Rm1.room {w w1 wr : World} {M : Bm} {N : Nat} {L : List Nat} {B : Bs} {s : Value} (h : Rm1 w w1 wr M N L B s) : B.room = (N : Int) - 2 - 2 * (needN N : Int) - (L.length : Int) := by
 have := h.good.room
 rw [h.cnt, h.wt] at this
 omega
theorem Rm1.hF {w w1 wr : World} {M : Bm} {N : Nat} {L : List Nat} {B : Bs} {s : Value} (h : Rm1 w w1 wr M N L B s) : ∀ q, q ∈ ownL s → q < wr.heap.size := fun q hq => (h.row.lt q (mem_ownL.1 hq)).2
theorem Rm1.put {w w1 wr w3 w5 : World} {M : Bm} {N : Nat} {L : List Nat} {B : Bs} {s s' : Value} {f : Nat → Nat} (h : Rm1 w w1 wr M N L B s) (hr : 0 < B.room) (hf : ∀ i, i < 128 → f i ≤ 255) (hb : BaseAt w3 M (ownL s) (B.put f)) (hc : Chg M.L wr w3)
  (hM : ∀ q, q ∈ M.L → w.heap.size ≤ q) (hM1 : ∀ q, q ∈ M.L → q < w1.heap.size) (w4 : World) (hc4 : Chg [] w3 w4) (hrow : w5.ownsRow w1.heap.size 3 1 s' (L.length + 1) (intVs L ++ [.int .i64 (B.at_ : Int)])) (hg : w4.grownBy w5 s.ownBlock) (ho : s'.ownBlock = s.ownBlock ∨ s'.ownBlock = some w4.heap.size) : Rm1 w w1 w5 M N (L ++ [B.at_]) (B.put f) s' := by
 obtain ⟨g1, l0, b2, bN, hl, hw, hcn, hrm, k0⟩ := h.good.put_ hr hf
 have hni : B.at_ ∉ L := fun hm => by
  have := h.live B.at_
  rw [l0] at this
  simp [hm] at this
 have hb4 := hb.chg hc4 (by simp)
 have hcg : Chg (ownL s) w4 w5 := (Chg.refl (ownL s) w4).grown hg (fun q hq => .inl (mem_ownL.2 hq))
 have hb5 : BaseAt w5 M (w4.heap.size :: ownL s) (B.put f) := (hb4.new (Nat.le_refl _)).chg hcg (fun x hx => by simp [hx])
 refine { base := hb5.sub (fun x hx => ?_), good := g1, row := ?_, wt := hw.trans h.wt, live := fun b => ?_, nd := ?_, now := fun b hb => ?_, c := ?_, c1 := ?_ }
 ·have := mem_ownL.1 hx
  rcases ho with e | e
  ·rw [e] at this; simp [mem_ownL, this]
  ·rw [e] at this; injection this with this; simp [this]
 ·rw [List.length_append, intVs_app]
  exact hrow
 ·rw [hl, h.live]
  by_cases e : b = B.at_ <;> simp [e]
 ·refine List.nodup_append.2 ⟨h.nd, by simp, fun a ha b hb e => ?_⟩
  simp only [List.mem_singleton] at hb
  subst hb; subst e
  exact hni ha
 ·rcases List.mem_append.1 hb with hb | hb
  ·have h1 := h.now b hb
   refine ⟨?_, h1.2⟩
   show (if b = B.at_ then 1 else B.T.now b) = 1
   rw [if_neg (fun e => by subst e; exact hni hb)]; exact h1.1
  ·simp only [List.mem_singleton] at hb
   subst hb
   exact ⟨if_pos rfl, bN⟩
 ·exact ((h.c.then hc (fun q hq => .inr (hM q hq))).trans hc4).then hcg (fun q hq => .inr (Nat.le_trans (show w.heap.size ≤ w1.heap.size from by
   by_cases e : M.L = []
   ·simp [Bm.L] at e
   ·have h1 := hM M.b (by simp [Bm.L]); have h2 := hM1 M.b (by simp [Bm.L]); omega) (h.row.lt q (mem_ownL.1 hq)).1))
 ·exact Nat.le_trans h.c1 (Nat.le_trans hc.size (Nat.le_trans hc4.size hcg.size))
theorem tmod_idx {z m j : Nat} (hz : z ≤ 255) (hj : j = z % m) : (wrap64 (z : Int)).tmod (m : Int) = (j : Int) := by
 have e1 : wrap64 (z : Int) = (z : Int) := IntWalk.wrap64_in _ (by omega)
 have e2 : (z : Int).tmod (m : Int) = (z : Int) % (m : Int) := Int.tmod_eq_emod_of_nonneg (Int.natCast_nonneg z)
 have e3 : (z : Int) % (m : Int) = (j : Int) := by
  subst hj
  exact (Int.natCast_emod z m).symm
 exact (congrArg (fun t => t.tmod (m : Int)) e1).trans (e2.trans e3)
structure Rm2 (w w1 wr : World) (M : Bm) (N G : Nat) (L : List Nat) (B : Bs) (s : Value) (d : Nat) : Prop where
 base : BaseAt wr M (ownL s) B
 good : Good N G B
 row : wr.ownsRow w1.heap.size 3 1 s L.length (intVs L)
 wt : B.T.waits = d
 cnt : Go.Proofs.YtkhcaclndepgbaaGreat.cnt N B.live + d = L.length
 now : ∀ b, b ∈ L → b < N ∧ B.T.now b ≤ 1 ∧ B.T.kept b = 1 ∧ (B.T.now b = 1 → B.live b = true)
 c : Chg [] w wr
theorem Rm2.room {w w1 wr : World} {M : Bm} {N G : Nat} {L : List Nat} {B : Bs} {s : Value} {d : Nat} (h : Rm2 w w1 wr M N G L B s d) : B.room = (N : Int) - 2 - 2 * (needN N : Int) - (L.length : Int) := by
 have := h.good.room
 have h2 := h.cnt
 rw [h.wt] at this
 omega
theorem Rm2.down {w w1 wr w' : World} {M : Bm} {N G : Nat} {L : List Nat} {B : Bs} {s : Value} {d x : Nat} (h : Rm2 w w1 wr M N G L B s d) (hx : x ∈ L) (h1 : B.T.now x = 1) (hb : BaseAt w' M (ownL s) (B.down (x : Int))) (hc : Chg M.L wr w') (hM : ∀ q, q ∈ M.L → w.heap.size ≤ q) (hM1 : ∀ q, q ∈ M.L → q < w1.heap.size) :
  Rm2 w w1 w' M N G L (B.down (x : Int)) s (d + 1) := by
 obtain ⟨xN, x1, xk, xl⟩ := h.now x hx
 obtain ⟨g, hl, hn, hk, hw, -⟩ := h.good.down_ xN (xl h1)
 obtain ⟨w1', w2'⟩ := hw h1 (by omega)
 have hcn := h.cnt
 refine { base := hb, good := g, row := ownRow_chg h.row hc (fun q hq hm => by have a1 := hM1 q hm; have a2 := (h.row.lt q hq).1; omega), wt := by rw [w1', h.wt], cnt := by omega, now := fun b hb => ?_, c := h.c.then hc (fun q hq => .inr (hM q hq)) }
 have q := h.now b hb
 refine ⟨q.1, ?_, by rw [hk]; exact q.2.2.1, fun e => ?_⟩
 ·rw [hn]; split
  ·omega
  ·exact q.2.1
 ·rw [hn] at e
  rw [hl]
  by_cases e2 : b = x
  ·rw [if_pos e2] at e; omega
  ·rw [if_neg e2] at e ⊢; exact q.2.2.2 e
theorem baseRoom_walk (b0 : Int) (a : Option Addr) (len cap : Nat) (zs : List Int) (w : World) (h0 : (Lit.int .u8 b0).wf = true) (h1 : IsRow .u8 w a len cap zs) :
    Calls Tryz.prog 3 #[.int .u8 b0, .slice a len cap] w fun e w' => e = .returned (.bool true) ∧ Below w.heap.size w w' := by
  obtain ⟨x, rfl, hx⟩ : ∃ x : Nat, b0 = (x : Int) ∧ x ≤ 255 := by
    have := bd_u8 h0
    exact ⟨b0.toNat, by omega, by omega⟩
  obtain ⟨N, hN⟩ : ∃ N, N = 16 + x % 200 := ⟨_, rfl⟩
  have hN1 : 16 ≤ N ∧ N ≤ 215 := by omega
  have cf := formatted_at (F := []) w hx (noF w)
  rw [← hN] at cf
  have CF := Lib.hid cf
  have HR := Lib.hid h1
  have Hnil := Lib.hid (show a = none → len = 0 ∧ cap = 0 from fun e => by
    rcases h1 with ⟨_, q1, q2, _⟩ | ⟨y, e', _⟩
    · exact ⟨q1, q2⟩
    · rw [e] at e'; cases e')
  have hlc : len ≤ cap ∧ cap ≤ maxLen := by
    rcases h1 with ⟨_, rfl, rfl, _⟩ | ⟨y, _, q1, q2, _⟩
    · exact ⟨Nat.le_refl _, Nat.zero_le _⟩
    · exact ⟨q1, q2⟩
  have hlm : cap ≤ 9223372036854775807 := by have := hlc.2; unfold maxLen at this; omega
  have HAW := Lib.hid awake11_at
  clear h0 h1 hN cf
  go_enter Tryz.func3, Tryz.ntmps3
  go_wp2_with fail
  refine CF.out.mono ?_
  clear CF
  rintro e w1 ⟨M, rfl, hb0, hc1, hM⟩
  have HM := Lib.hid (And.intro hM (fun q hq => hb0.ltL hq : ∀ q, q ∈ M.L → q < w1.heap.size))
  obtain ⟨g0, hl0, hw0⟩ := good_fmt (N := N) (by omega)
  have HI : Hid (Rm1 w w1 w1 M N [] (Bs.fmt N) (.slice none 0 0)) := Lib.hid { base := hb0, good := g0, row := World.ownsRow_nil _ _ _ _, wt := hw0, live := fun b => by rw [hl0]; simp, nd := List.nodup_nil, now := (fun b hb => by cases hb), c := hc1, c1 := Nat.le_refl _ }
  obtain ⟨need, hneed⟩ : ∃ n, n = needN N := ⟨_, rfl⟩
  have hnd4 : need ≤ 20 ∧ 2 * need + 2 < N := by rw [hneed]; unfold needN pg; omega
  have HND := Lib.hid hneed
  clear hb0 hc1 hM g0 hl0 hw0 hneed
  go_wp2_with fail
  go_loopg [8] (Bs.fmt N).room.toNat (fun gg s wr => ∃ (B : Bs) (L : List Nat), gg = B.room.toNat ∧ Hid (Rm1 w w1 wr M N L B s))
  case atStart => exact ⟨_, _, rfl, HI⟩
  case round =>
    obtain ⟨B, L, hgg, H⟩ := hrel
    have cr := H.out.base.cRoom
    obtain ⟨rm, hrm⟩ : ∃ r, r = B.room := ⟨_, rfl⟩
    have hrl := H.out.room
    rw [← HND.out] at hrl
    rw [← hrm] at cr hgg hrl
    have HRM := Lib.hid hrm
    obtain ⟨m, hm⟩ : ∃ m, m = L.length := ⟨_, rfl⟩
    rw [← hm] at hrl
    have HMM := Lib.hid hm
    clear hrm hm
    have hr0 : 0 ≤ rm := by rw [HRM.out]; unfold Bs.room; omega
    have hm4 : m ≤ 4096 := by omega
    have HRL := Lib.hid hrl
    obtain ⟨va, vc, rfl, v1, v2⟩ := ownRow_slice H.out.row
    rw [← HMM.out] at H v1 ⊢
    clear hrl
    by_cases hr : 0 < rm
    · have E1 : IntKind.u16.wrap (m : Int) = (m : Int) := by rw [IntKind.wrap_u16]; omega
      have cb := block11_at (n := m) wr (by omega)
      go_wp2_with fail
      refine (cr).mono ?_
      rintro e w' ⟨rfl, rfl⟩
      clear cr
      go_wp2_with fail
      refine cb.mono ?_
      clear cb
      rintro e w2 ⟨g, rfl, hg, hby, hc2⟩
      have hb2 := H.out.base.chg hc2 (by simp)
      have hFF := H.out.hF
      have cp := bPut_at (c := 128) hb2 (fun q hq => Nat.lt_of_lt_of_le (hFF q hq) hc2.size) hby (fun hm => by have h1 := HM.out.2 g hm; have h2 := H.out.c1; omega) (by rw [← HRM.out]; exact hr)
      have HC2 := Lib.hid hc2
      have CP := Lib.hid cp
      clear hb2 hFF hg hby hc2 cp
      go_wp2_with fail
      refine CP.out.mono ?_
      clear CP
      rintro e w3 ⟨rfl, hb3, hc3⟩
      have HP := Lib.hid (And.intro hb3 hc3)
      obtain ⟨at4, hat⟩ : ∃ z, z = B.at_ := ⟨_, rfl⟩
      have HAT := Lib.hid hat
      rw [← hat]
      clear hb3 hc3 hat
      have hrow := (ownRow_chg H.out.row HC2.out (by simp))
      have hrow3 := ownRow_chg hrow HP.out.2 (fun q hq hm => by have h1 := HM.out.2 q hm; have h2 := (H.out.row.lt q hq).1; omega)
      have hn4 := new_block w3 (.cells #[.int .i64 (at4 : Int)] 3)
      have hc4 : Chg [] w3 (w3.alloc (.cells #[.int .i64 (at4 : Int)] 3)) := (Chg.refl [] w3).alloc _
      have H4 := Lib.hid (And.intro (ownRow_chg hrow3 hc4 (by simp)) (And.intro hn4 (And.intro hc4 (Nat.le_trans H.out.c1 (Nat.le_trans HC2.out.size (Nat.le_trans HP.out.2.size hc4.size))))))
      rw [← HMM.out] at H4
      clear hrow hrow3 hn4 hc4
      go_wp2_with (at_builtin; refine wpList_app rfl _ _ 27 rfl rfl (base := w1.heap.size) (size := 1) (n := m) (m := 1) (xs := intVs L) (news := [.int .i64 (at4 : Int)]) Tryz.underlying27 infoInt8 rfl (by omega) (by omega) rfl rfl H4.out.1 (AppSrc.blk H4.out.2.1 rfl (fun u hu => by simp at hu; subst hu; rfl)) (by omega) H4.out.2.2.2 ?_; intro v' w5 hown5 hg5 ho5; have H5 := Lib.hid (And.intro hown5 (And.intro hg5 ho5)); clear hown5 hg5 ho5)
      go_roundg (rm - 1).toNat
      case measure => omega
      case rel =>
        have h5 := H5.out.1
        rw [HAT.out, HMM.out] at h5
        have hg := H.out.good.put_ (f := blkF m) (by rw [← HRM.out]; exact hr) (fun i _ => blkF_le m i)
        refine ⟨_, _, ?_, Lib.hid (Rm1.put (f := blkF m) (by rw [HMM.out]; rw [HMM.out] at H; exact H.out) (by rw [← HRM.out]; exact hr) (fun i _ => blkF_le m i) HP.out.1 ((HC2.out.mono (by simp)).trans HP.out.2) HM.out.1 HM.out.2 _ H4.out.2.2.1 h5 H5.out.2.1 H5.out.2.2)⟩
        rw [hg.2.2.2.2.2.2.2.1, ← HRM.out]
    · have hrz : B.room = 0 := by rw [← HRM.out]; omega
      obtain rfl : rm = 0 := by omega
      have hmi : (m : Int) = (N : Int) - 2 - 2 * (need : Int) := by have := HRL.out; omega
      have E1 : wrap64 ((N : Int) - 2) = (N : Int) - 2 := by unfold wrap64; omega
      have E2 : wrap64 (2 * (need : Int)) = 2 * (need : Int) := by unfold wrap64; omega
      have E3 : wrap64 ((N : Int) - 2 - 2 * (need : Int)) = (m : Int) := by rw [← hmi]; unfold wrap64; omega
      have cb := block11_at (n := 1) wr (by omega)
      change Calls _ _ #[.int .u16 1] wr _ at cb
      have CB := Lib.hid cb
      have HMI := Lib.hid (And.intro hmi hrz)
      clear cb hmi hrz hgg hr hr0
      go_wp2_with fail
      refine (cr).mono ?_
      rintro e w' ⟨rfl, rfl⟩
      clear cr
      go_wp2_with fail
      refine CB.out.mono ?_
      clear CB
      rintro e w2 ⟨g, rfl, -, -, hc2⟩
      have hb2 := H.out.base.chg hc2 (by simp)
      have hF2 : ∀ q, q ∈ ownL (.slice va m vc) → q < w2.heap.size := fun q hq => Nat.lt_of_lt_of_le (H.out.hF q hq) hc2.size
      have cp := hb2.cFull (v := some ⟨g, 0, none⟩) (c := 128) HMI.out.2
      have cc := bCommit_any hb2 hF2 H.out.good (by omega)
      have hcm := H.out.good.commit_ (by omega)
      obtain ⟨B2, hB2⟩ : ∃ B2, B2 = B.commit := ⟨_, rfl⟩
      rw [← hB2] at cc hcm
      have CC := Lib.hid cc
      have HCM := Lib.hid hcm
      have HC2 := Lib.hid (H.out.c.trans hc2)
      have HR2 := Lib.hid (And.intro (ownRow_chg H.out.row hc2 (by simp)) (Nat.le_trans H.out.c1 hc2.size))
      clear hb2 hF2 cc hcm hB2 hc2
      go_wp2_with fail
      refine (cp).mono ?_
      rintro e w' ⟨rfl, rfl⟩
      clear cp
      go_wp2_with fail
      refine CC.out.mono ?_
      clear CC
      rintro e w3 ⟨rfl, hb3, hc3⟩
      have c1 := hb3.cBlocks
      rw [HCM.out.good.n] at c1
      have c2 := need_at (n := N) w3 (by omega) (by omega)
      rw [← HND.out] at c2
      have hrow3 := ownRow_chg HR2.out.1 hc3 (fun q hq hm => by have h1 := HM.out.2 q hm; have h2 := (HR2.out.1.lt q hq).1; omega)
      have H3 := Lib.hid (And.intro hb3 (And.intro (HC2.out.then hc3 (fun q hq => .inr (HM.out.1 q hq))) (And.intro hrow3 (Nat.le_trans HR2.out.2 hc3.size))))
      clear hb3 hc3 hrow3
      have hmp : 0 < m := by have := HMI.out.1; omega
      have E4 : ((m : Int) != max ((N : Int) - 2 - 2 * (need : Int)) 0) = false := by rw [← HMI.out.1]; simp
      go_wp2_with fail
      refine (c1).mono ?_
      rintro e w' ⟨rfl, rfl⟩
      go_wp2_with fail
      refine (c1).mono ?_
      rintro e w' ⟨rfl, rfl⟩
      go_wp2_with fail
      refine (c2).mono ?_
      rintro e w' ⟨rfl, rfl⟩
      clear c1 c2
      go_upto_region 14 with fail
      go_cut [76, 77, 78] (fun s l i wx => ∃ mm : Nat, mm ≤ 100 ∧ mm ≤ len ∧ s = .slice a mm cap ∧ l = .int .i64 (mm : Int) ∧ i = .int .i64 0 ∧ wx = w3)
      case first =>
        have h60 : 100 < len ∨ len ≤ 100 := by omega
        rcases h60 with h60 | h60
        · go_wp2_with fail
          go_meet
          exact ⟨100, by omega, by omega, by congr 1; omega, by congr 1; omega, rfl, rfl⟩
        · cases a with
          | none =>
            obtain ⟨rfl, rfl⟩ := Hnil.out rfl
            go_wp2_with fail
            go_meet
            exact ⟨0, by omega, by omega, rfl, rfl, rfl, rfl⟩
          | some a =>
            go_wp2_with fail
            go_meet
            exact ⟨len, by omega, by omega, by congr 1; omega, by congr 1; omega, rfl, rfl⟩
      case rest =>
        obtain ⟨mm, hm1, hm2, rfl, rfl, rfl, hwc⟩ := hcut
        obtain rfl : wc = w3 := hwc
        have H4 : Hid (Rm2 w w1 wc M N 2 L B2 (.slice va m vc) 0) := Lib.hid { base := H3.out.1, good := HCM.out.good, row := H3.out.2.2.1, wt := HCM.out.waits, cnt := by rw [cnt_congr (fun i _ => HCM.out.live i), H.out.cnt]; rfl, now := fun b hb => (by
          have hlb : B.live b = true := by rw [H.out.live]; simp [hb]
          have q := H.out.now b hb
          have n2 := (HCM.out.now b hlb).trans q.1
          exact ⟨q.2, by omega, (HCM.out.kept b q.2).trans n2, fun _ => (HCM.out.live b).trans hlb⟩), c := H3.out.2.1 }
        have HSM := Lib.hid HCM.out.same
        clear E1 E2 E3 E4 H3 HCM HC2 HR2
        go_wp2_with fail
        go_loopg [13, 78] mm (fun gg s13 s78 wr => ∃ (k d : Nat) (B : Bs), gg = mm - k ∧ k ≤ mm ∧ s13 = .int .i64 (d : Int) ∧ s78 = .int .i64 (k : Int) ∧ Hid (Rm2 w w1 wr M N 2 L B (.slice va m vc) d))
        case atStart => exact ⟨0, 0, B2, rfl, Nat.zero_le _, rfl, rfl, H4⟩
        case round =>
          obtain ⟨k, d, B3, hgg, hk, rfl, rfl, H5⟩ := hrel
          by_cases hkm : k < mm
          · obtain ⟨yb, yo, rfl, hyt, hyc0, hyw0⟩ := HR.out.get (i := k) (by omega)
            have hyc := (H5.out.c.cell (p := ⟨yb, yo + k, none⟩) hyt (by simp)).trans hyc0
            have hyb := bd_u8 hyw0
            have hyl := hyb.1
            obtain ⟨z, hz⟩ := Int.eq_ofNat_of_zero_le hyl
            have hzb : z ≤ 255 := by have := hyb.2; rw [hz] at this; omega
            rw [hz] at hyc
            have i1 : (k : Int) < (mm : Int) := by omega
            obtain ⟨j, hj⟩ : ∃ j, j = z % m := ⟨_, rfl⟩
            have hjm : j < m := by rw [hj]; exact Nat.mod_lt _ hmp
            have HE1 := Lib.hid (tmod_idx (m := m) hzb hj)
            clear hzb
            have i2 : (j : Int) < (m : Int) := by omega
            have i3 : ¬ (m : Int) = 0 := by omega
            have hjL : j < L.length := by rw [← HMM.out]; exact hjm
            obtain ⟨gz, gzc, eg, z1, z2, z3, z4, z5⟩ := ownRow_cells H5.out.row (by omega)
            injection eg with eg e2 e3
            clear e2 e3
            subst eg
            obtain ⟨ab, hab⟩ : ∃ ab, ab = L.getD j 0 := ⟨_, rfl⟩
            have hcz : wr.cell? ⟨gz, j, none⟩ = some (.int .i64 (ab : Int)) := by rw [z5 j (by omega), hab]; simp [intVs, hjL]
            have hmemL : ab ∈ L := by rw [hab, List.getD_eq_getElem?_getD, List.getElem?_eq_getElem hjL]; exact List.getElem_mem _
            have hnw := H5.out.now ab hmemL
            have cc := H5.out.base.cCount (ab : Int)
            rw [getV_nat (T := B3.T) (k := ab) (by rw [H5.out.good.n]; exact hnw.1)] at cc
            have HGG := Lib.hid hgg
            have HAB := Lib.hid (And.intro hmemL hnw)
            clear hgg hz hyl hyb hyw0 hyc0 hyt hj hjL z1 z2 z3 z4 z5 hab hmemL
            by_cases hn1 : B3.T.now ab = 1
            · rw [hn1] at cc
              have E1 := HE1.out
              change Calls _ _ _ wr (fun e w' => e = .returned (.int .i64 1) ∧ wr = w') at cc
              have cd := bDown_at H5.out.base (fun q hq => (H5.out.row.lt q (mem_ownL.1 hq)).2) (ab : Int)
              rw [(downs_eq H5.out.good hnw.1 (hnw.2.2.2 hn1)).1] at cd
              have CD := Lib.hid cd
              clear cd hnw
              go_wp2_with fail
              refine (cc).mono ?_
              rintro e w' ⟨rfl, rfl⟩
              clear cc E1
              go_wp2_with fail
              refine CD.out.mono ?_
              clear CD
              rintro e w5 ⟨rfl, hb5, hc5⟩
              have H6 := Lib.hid (H5.out.down HAB.out.1 hn1 hb5 hc5 HM.out.1 HM.out.2)
              clear hb5 hc5
              have hd100 : d ≤ 5000 := by have h1 := H5.out.cnt; have h2 := HMM.out; omega
              go_wp2_with fail
              go_roundg (mm - (k + 1))
              case measure => have := HGG.out; omega
              case rel => exact ⟨k + 1, d + 1, _, rfl, by omega, by go_num, by go_num, H6⟩
            · have hn0 : B3.T.now ab = 0 := by omega
              rw [hn0] at cc
              have E1 := HE1.out
              change Calls _ _ _ wr (fun e w' => e = .returned (.int .i64 0) ∧ wr = w') at cc
              clear hnw
              go_wp2_with fail
              refine (cc).mono ?_
              rintro e w' ⟨rfl, rfl⟩
              clear cc E1
              go_wp2_with fail
              go_roundg (mm - (k + 1))
              case measure => have := HGG.out; omega
              case rel => exact ⟨k + 1, d, _, rfl, by omega, by go_num, by go_num, H5⟩
          · obtain rfl : k = mm := by omega
            have hrm3 : B3.room = 0 := by have h1 := H5.out.room; have h2 := HMI.out.1; have h3 := HND.out; have h4 := HMM.out; rw [← h3] at h1; omega
            have c1 := H5.out.base.cWaits
            rw [H5.out.wt] at c1
            have c2 := H5.out.base.cRoom
            rw [hrm3] at c2
            have cc := bCommit_any H5.out.base (fun q hq => (H5.out.row.lt q (mem_ownL.1 hq)).2) H5.out.good (by omega)
            have hcm := H5.out.good.commit_ (by omega)
            obtain ⟨B4, hB4⟩ : ∃ B4, B4 = B3.commit := ⟨_, rfl⟩
            rw [← hB4] at cc hcm
            have hrm4 : B4.room = (d : Int) := by
              have h1 := hcm.good.room
              rw [hcm.waits, cnt_congr (fun i _ => hcm.live i)] at h1
              have h2 := HMI.out.1; have h3 := HND.out; have h4 := HMM.out; have h5 := H5.out.cnt
              rw [← h3] at h1
              omega
            have hd5 : d ≤ 4096 := by have h4 := HMM.out; have h5 := H5.out.cnt; omega
            have CC := Lib.hid cc
            have HG4 := Lib.hid (And.intro hcm.good hrm4)
            have HB0 := Lib.hid (H5.out.base.sub (F' := []) (by simp))
            have HC5 := Lib.hid H5.out.c
            clear cc hcm hrm4 hrm3 hB4 hgg
            go_wp2_with fail
            refine (c1).mono ?_
            rintro e w' ⟨rfl, rfl⟩
            go_wp2_with fail
            refine (c2).mono ?_
            rintro e w' ⟨rfl, rfl⟩
            clear c1 c2
            go_wp2_with fail
            refine CC.out.mono ?_
            clear CC
            rintro e w5 ⟨rfl, hb5, hc5⟩
            have c3 := hb5.cRoom
            rw [HG4.out.2] at c3
            have H6 : Hid (BaseAt w5 M [] B4 ∧ Good N 3 B4 ∧ B4.room = (d : Int) - ((0 : Nat) : Int) ∧ Chg [] w w5) := Lib.hid ⟨hb5.sub (by simp), HG4.out.1, by rw [HG4.out.2]; omega, HC5.out.then hc5 (fun q hq => .inr (HM.out.1 q hq))⟩
            clear hb5 hc5
            go_wp2_with fail
            refine (c3).mono ?_
            rintro e w' ⟨rfl, rfl⟩
            clear c3
            go_wp2_with fail
            go_loopg [122] d (fun gg s wr => ∃ (k : Nat) (B : Bs), gg = d - k ∧ k ≤ d ∧ s = .int .i64 (k : Int) ∧ Hid (BaseAt wr M [] B ∧ Good N 3 B ∧ B.room = (d : Int) - (k : Int) ∧ Chg [] w wr))
            case atStart => exact ⟨0, B4, rfl, Nat.zero_le _, rfl, H6⟩
            case round =>
              obtain ⟨k3, B5, hg3, hk3, rfl, H7⟩ := hrel
              by_cases hkd : k3 < d
              · have i1 : (k3 : Int) < (d : Int) := by omega
                have cb := block11_at (n := 7) wr (by omega)
                change Calls _ _ #[.int .u16 7] wr _ at cb
                have CB := Lib.hid cb
                clear cb
                go_wp2_with fail
                refine CB.out.mono ?_
                clear CB
                rintro e w6 ⟨g6, rfl, hg6, hby, hc6⟩
                have hb6 := H7.out.1.chg hc6 (by simp)
                have cp := bPut_at (c := 128) hb6 (noF w6) hby (fun hm => by have h1 := H7.out.1.ltL hm; omega) (by rw [H7.out.2.2.1]; omega)
                have CP := Lib.hid cp
                have HC6 := Lib.hid hc6
                have HPT := Lib.hid (H7.out.2.1.put_ (f := blkF 7) (by rw [H7.out.2.2.1]; omega) (fun i _ => blkF_le 7 i))
                clear hb6 hby hc6 cp
                go_wp2_with fail
                refine CP.out.mono ?_
                clear CP
                rintro e w7 ⟨rfl, hb7, hc7⟩
                have H8 := Lib.hid (And.intro hb7 ((H7.out.2.2.2.trans HC6.out).then hc7 (fun q hq => .inr (HM.out.1 q hq))))
                clear hb7 hc7
                go_wp2_with fail
                go_roundg (d - (k3 + 1))
                case measure => omega
                case rel => exact ⟨k3 + 1, _, rfl, by omega, by go_num, Lib.hid ⟨H8.out.1, HPT.out.1, by rw [HPT.out.2.2.2.2.2.2.2.1, H7.out.2.2.1]; omega, H8.out.2⟩⟩
              · obtain rfl : k3 = d := by omega
                have c1 := H7.out.1.cRoom
                rw [H7.out.2.2.1, Int.sub_self] at c1
                have cc := bCommit_any H7.out.1 (noF wr) H7.out.2.1 (by omega)
                have CC := Lib.hid cc
                clear cc
                go_wp2_with fail
                refine (c1).mono ?_
                rintro e w' ⟨rfl, rfl⟩
                clear c1
                go_wp2_with fail
                refine CC.out.mono ?_
                clear CC
                rintro e w6 ⟨rfl, -, hc6⟩
                have HC7 := Lib.hid (H7.out.2.2.2.then hc6 (fun q hq => .inr (HM.out.1 q hq)))
                clear hc6
                go_wp2_with fail
                refine (HAW.out w6).mono ?_
                rintro e w7 ⟨rfl, hc7⟩
                have HC8 := Lib.hid (HC7.out.trans hc7)
                clear hc7
                go_wp2_with fail
                go_ret
                exact ⟨rfl, HC8.out.below (by simp)⟩
end Go.Proofs.YtkhcaclndepgbaaGreat
