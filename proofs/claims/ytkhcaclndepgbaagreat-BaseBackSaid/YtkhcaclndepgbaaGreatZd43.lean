/- Layer 11's statements: is a base just what a state says? · Layer 11's statements: what an operation does to a base and to a state that tells of it. -/
import Derived.Test.YtkhcaclndepgbaaGreatZd40
import Derived.Test.YtkhcaclndepgbaaGreatZd42
import Derived.BigQuiet
import Derived.WalkSpells
import Derived.Deep.LoopGhost
import Derived.Test.YtkhcaclndepgbaaGreatZd41
set_option linter.unusedVariables false
set_option linter.unusedSimpArgs false
set_option maxRecDepth 100000
set_option maxHeartbeats 20000000
namespace Go.Proofs.YtkhcaclndepgbaaGreat
open Go.RowKit
structure StRel (N : Nat) (B : Bs) (S : St) : Prop where
 live : ∀ b, b < N → (S.c b ≠ 0 ↔ B.live b = true)
 now : ∀ b, b < N → S.c b ≠ 0 → S.c b = B.T.now b
 d : ∀ b, b < N → S.c b ≠ 0 → ∀ i, i < 128 → S.d b i = B.read b i
 r : ∀ i, 2 ≤ i → i < 8 → S.r i = B.S.roots i
 m : ∀ i, i < 8 → S.m i = B.S.marks i
theorem StRel.cnt {N : Nat} {B : Bs} {S : St} (h : StRel N B S) : Proofs.YtkhcaclndepgbaaGreat.cnt N (fun k => (S.cV k).isSome) = Proofs.YtkhcaclndepgbaaGreat.cnt N B.live := cnt_congr fun b hb => by
 unfold St.cV
 by_cases e : S.c b = 0
 ·rw [if_pos e]
  cases hl : B.live b with
  | false => rfl
  | true => exact absurd e ((h.live b hb).2 hl)
 ·rw [if_neg e, (h.live b hb).1 e]; rfl
theorem field_s1 (w : World) (v : Value) : (Instr.field 173 (.agg #[v]) 0).run Tryz.prog w = .ok v w := by kernel_rfl
theorem bstr_congr {n : Nat} {f g : Nat → Nat} (h : ∀ i, i < n → f i = g i) : bstr n f = bstr n g := by
 unfold bstr
 congr 1
 exact List.map_congr_left fun i hi => by rw [h i (List.mem_range.1 hi)]
theorem is11_at {w : World} {N G mc md : Nat} {M : Bm} {F : List Nat} {B : Bs} {S : St} (h : BaseAt w M F B) (hg : Good N G B) (s : StAt w N mc md S) (r : StRel N B S) (hwt : B.T.waits = 0) (hm : ∀ i, i < 8 → S.m i < 18446744073709551616) :
  Calls Tryz.prog 45 #[.agg (fnRow 18 (S.v mc md)), .pointer (some ⟨M.b, 0, none⟩)] w fun e w' => e = .returned (.bool true) ∧ Chg [] w w' := by
 have hN : 16 ≤ N ∧ N ≤ 4096 := by have := hg.ok.n; rw [hg.n] at this; exact this
 have HB := Lib.hid h
 have HS := Lib.hid s
 have HR := Lib.hid (And.intro r (And.intro hwt hm))
 have HG := Lib.hid hg
 clear h s r hwt hg hm
 go_enter Tryz.func45, Tryz.ntmps45
 go_upto_region 1 with (refine wpList_boxAgg rfl 72 (.tmp 0) rfl (cells := fnRow 18 (S.v mc md)) rfl ?_)
 have kx := new_block w (.cells (fnRow 18 (S.v mc md)) 72)
 have hc0 := (Chg.refl [] w).alloc (.cells (fnRow 18 (S.v mc md)) 72)
 generalize w.alloc (.cells (fnRow 18 (S.v mc md)) 72) = W0 at *
 obtain ⟨xb, hxb⟩ : ∃ xb, xb = w.heap.size := ⟨_, rfl⟩
 rw [← hxb] at kx ⊢
 have H0 := Lib.hid (And.intro kx (And.intro hc0 (HS.out.chg hc0 (by simp) (by simp))))
 have c0 : W0.cell? ⟨xb, 0, none⟩ = some (.map (some mc)) := (cell_fn kx (by omega)).trans rfl
 have hlx := heap_lt kx
 clear kx hc0 hxb
 go_wp2_with (refine wpList_krange rfl _ rfl Tryz.underlying3 Tryz.underlying68 H0.out.2.2.c rfl ?_; intro w6 hkr hg6 hs6; have H7 := Lib.hid (And.intro hkr (And.intro hg6 hs6)); clear hkr hg6 hs6)
 go_frame
 obtain ⟨it, hit⟩ : ∃ it, it = W0.heap.size := ⟨_, rfl⟩
 rw [← hit] at H7 ⊢
 have HIT := Lib.hid hit
 clear hit c0
 go_loopw [15] (fun _ wr => ∃ left : Nat → Bool, Hid (KR Tryz.prog 3 goodI wr mc it N S.cV left ∧ Chg [it] W0 wr)) (fun _ wr => wr.rangeLeft mc it)
 case atStart => exact ⟨_, Lib.hid ⟨H7.out.1, (Chg.refl [it] W0).grown H7.out.2.1 (fun k hk => by cases hk)⟩⟩
 case round =>
  obtain ⟨left, HX⟩ := hrel
  have hx := (HX.out.2.block xb hlx (by simp only [List.mem_singleton]; have := HIT.out; omega)).trans H0.out.1
  have hd := H0.out.2.2.d.chg HX.out.2 (by simp only [List.mem_singleton]; have h1 := H0.out.2.2.d.lt; have := HIT.out; omega)
  have hcW : Chg [] w wr := H0.out.2.1.then HX.out.2 (fun q hq => by simp only [List.mem_singleton] at hq; have h1 := HIT.out; have h2 := H0.out.2.1.size; exact .inr (by omega))
  have H1 := Lib.hid (And.intro hx (And.intro hd hcW))
  clear hx hd hcW
  go_upto_region 3 with (refine wpList_knext rfl _ rfl Tryz.underlying3 HX.out.1 rfl ?_ ?_)
  ·intro hl0
   have hmc := HX.out.1.kmap
   obtain ⟨W9, rfl⟩ : ∃ W9, W9 = wr := ⟨_, rfl⟩
   obtain ⟨cn, hcn⟩ : ∃ cn, cn = Proofs.YtkhcaclndepgbaaGreat.cnt N B.live := ⟨_, rfl⟩
   have hlen : ∀ q n, (Builtin.len_ #[68] 3 #[.map (some mc)]).run Tryz.prog ((W9.drewN q).drewN n) = .ok (.int .i64 (cn : Int)) ((W9.drewN q).drewN n) := fun q n => by
    obtain ⟨D, h1, h2⟩ := (hmc.chg (Chg.drewN (Chg.drewN (Chg.refl [] W9) q) n) (by simp)).len
    rw [HR.out.1.cnt, ← hcn] at h2
    rw [← h2]
    exact h1.len (t := 68) Tryz.underlying68 3
   have hq : ∀ q n, BaseAt ((W9.drewN q).drewN n) M F B := fun q n => HB.out.chg (Chg.drewN (Chg.drewN H1.out.2.2 q) n) (by simp)
   have HQ := Lib.hid (And.intro hq hlen)
   have hrt : ∀ (i q n : Nat), 2 ≤ i → i < 8 → Calls Tryz.prog 35 #[.pointer (some ⟨M.b, 0, none⟩), .int .i64 (i : Int)] ((W9.drewN q).drewN n) fun e w' => e = .returned (.int .i64 (S.r i : Int)) ∧ (W9.drewN q).drewN n = w' := fun i q n h1 h2 => by
    have := (hq q n).cRoot (i : Int)
    rw [show B.rootI (i : Int) = (S.r i : Int) from by unfold Bs.rootI; rw [if_pos ⟨by omega, by omega⟩, Int.toNat_natCast, HR.out.1.r i h1 h2]] at this
    exact this
   have hmk : ∀ (i q n : Nat), i < 8 → Calls Tryz.prog 36 #[.pointer (some ⟨M.b, 0, none⟩), .int .i64 (i : Int)] ((W9.drewN q).drewN n) fun e w' => e = .returned (.int .u64 (S.m i : Int)) ∧ (W9.drewN q).drewN n = w' := fun i q n h2 => by
    have := (hq q n).cMark (i : Int)
    rw [show B.markI (i : Int) = (S.m i : Int) from by unfold Bs.markI; rw [if_pos ⟨by omega, by omega⟩, Int.toNat_natCast, HR.out.1.m i h2]] at this
    exact this
   have HRT := Lib.hid (And.intro hrt hmk)
   have HCN := Lib.hid hcn
   have cR : ∀ i, i < 8 → W9.cell? ⟨xb, 2 + i, none⟩ = some (.int .i64 (S.r i : Int)) := fun i hi => (cell_fn H1.out.1 (by omega)).trans (by
    unfold St.v
    rw [if_neg (by omega), if_neg (by omega), if_pos (by omega), show 2 + i - 2 = i from by omega])
   have cM : ∀ i, i < 8 → W9.cell? ⟨xb, 10 + i, none⟩ = some (.int .u64 (S.m i : Int)) := fun i hi => (cell_fn H1.out.1 (by omega)).trans (by
    unfold St.v
    rw [if_neg (by omega), if_neg (by omega), if_neg (by omega), show 10 + i - 10 = i from by omega])
   have HC := Lib.hid (And.intro cR cM)
   clear hmc hlen hq hcn hrt hmk cR cM
   go_wp2_with fail
   go_loopg [9] 6 (fun gg s wx => ∃ (i q : Nat), gg + i = 8 ∧ 2 ≤ i ∧ s = .int .i64 (i : Int) ∧ wx = W9.drewN q)
   case atStart => exact ⟨2, 0, rfl, by omega, rfl, rfl⟩
   case round =>
    obtain ⟨i, q, hi, hi2, rfl, rfl⟩ := hrel
    by_cases hi8 : i < 8
    ·have i1 : (i : Int) < 8 := by omega
     have HR2 := Lib.hid (fun n => HRT.out.1 i q n hi2 hi8)
     have c2 : (W9.drewN q).cell? _ = _ := HC.out.1 i hi8
     obtain ⟨W8, hW8⟩ : ∃ W8, W8 = W9.drewN q := ⟨_, rfl⟩
     rw [← hW8] at HR2 c2 ⊢
     have HW8 := Lib.hid hW8
     clear hW8
     go_wp2_with fail
     go_quiet ((go_at_call 35; go_must (exact quiet_left (HR2.out _))))
     go_wp2_with fail
     go_roundg (8 - (i + 1))
     case measure => omega
     case rel => exact ⟨i + 1, q + nq, by omega, by omega, by go_num, by rw [HW8.out, World.drewN_drewN]⟩
    ·obtain rfl : i = 8 := by omega
     go_wp2_with fail
     go_loopg [57] 8 (fun gg s wx => ∃ (i q : Nat), gg + i = 8 ∧ s = .int .i64 (i : Int) ∧ wx = W9.drewN q)
     case atStart => exact ⟨0, q, rfl, rfl, rfl⟩
     case round =>
      obtain ⟨i, q, hi, rfl, rfl⟩ := hrel
      by_cases hi8 : i < 8
      ·have i1 : (i : Int) < 8 := by omega
       have HR2 := Lib.hid (fun n => HRT.out.2 i q n hi8)
       have c2 : (W9.drewN q).cell? _ = _ := HC.out.2 i hi8
       obtain ⟨W8, hW8⟩ : ∃ W8, W8 = W9.drewN q := ⟨_, rfl⟩
       rw [← hW8] at HR2 c2 ⊢
       have HW8 := Lib.hid hW8
       clear hW8
       go_wp2_with fail
       go_quiet ((go_at_call 36; go_must (exact quiet_left (HR2.out _))))
       go_wp2_with fail
       go_roundg (8 - (i + 1))
       case measure => omega
       case rel => exact ⟨i + 1, q + nq, by omega, by go_num, by rw [HW8.out, World.drewN_drewN]⟩
      ·obtain rfl : i = 8 := by omega
       have hcn := HCN.out
       have hrm := HG.out.room
       rw [HR.out.2.1, ← hcn] at hrm
       have hr0 : 0 ≤ B.room := by
        have h1 := HG.out.hr
        unfold Bs.room
        omega
       obtain ⟨nd, hnd⟩ : ∃ nd, nd = needN N := ⟨_, rfl⟩
       rw [← hnd] at hrm
       have hrq : ∀ n, Calls Tryz.prog 16 #[.pointer (some ⟨M.b, 0, none⟩)] ((W9.drewN q).drewN n) fun e w' => e = .returned (.int .i64 (max ((N : Int) - 2 - (cn : Int) - 2 * (nd : Int)) 0)) ∧ (W9.drewN q).drewN n = w' := fun n => by
        have := (HQ.out.1 q n).cRoom
        rw [show B.room = max ((N : Int) - 2 - (cn : Int) - 2 * (nd : Int)) 0 from by omega] at this
        exact this
       have hbq : ∀ n, Calls Tryz.prog 20 #[.pointer (some ⟨M.b, 0, none⟩)] ((W9.drewN q).drewN n) fun e w' => e = .returned (.int .i64 (N : Int)) ∧ (W9.drewN q).drewN n = w' := fun n => by
        have := (HQ.out.1 q n).cBlocks
        rw [HG.out.n] at this
        exact this
       have c2 := need_at (n := N) (W9.drewN q) (by omega) (by omega)
       rw [← hnd] at c2
       have c3 := hbq 0
       have HRB := Lib.hid (And.intro hrq hbq)
       have hlen := HQ.out.2 q
       have hb1 : cn ≤ 4096 := by omega
       have hb2 : nd ≤ 4096 := by omega
       have c0 : (W9.drewN q).cell? ⟨xb, 0, none⟩ = some (.map (some mc)) := (cell_fn H1.out.1 (by omega)).trans rfl
       have HW := Lib.hid (Chg.drewN H1.out.2.2 q)
       clear hrq hbq hcn hrm hr0 hnd
       change Calls _ _ _ (W9.drewN q) _ at c3
       obtain ⟨W8, hW8⟩ : ∃ W8, W8 = W9.drewN q := ⟨_, rfl⟩
       rw [← hW8] at HRB c2 c3 hlen c0 HW ⊢
       clear hW8
       clear HR HQ HRT HCN HC
       go_wp2_with fail
       refine (c3).mono ?_
       rintro e w' ⟨rfl, rfl⟩
       clear c3
       go_wp2_with fail
       refine (c2).mono ?_
       rintro e w' ⟨rfl, rfl⟩
       clear c2
       go_wp2_with fail
       go_quiet (first | (go_at_call 16; go_must (exact quiet_left (HRB.out.1 _))) | (go_at_call 20; go_must (exact quiet_left (HRB.out.2 _))))
       go_wp2_with fail
       go_ret
       exact ⟨rfl, Chg.drewN HW.out nq⟩
  ·intro k v w7 hk hv hlk hgv hkr hlt hg7 hs7 hen
   obtain ⟨hck, rfl⟩ : S.c k ≠ 0 ∧ v = .int .i64 (S.c k : Int) := by
    unfold St.cV at hv
    split at hv
    ·cases hv
    ·injection hv with hv
     exact ⟨by assumption, hv.symm⟩
   have hc7 : Chg [it] wr w7 := (Chg.refl [it] wr).grown hg7 (fun q hq => by injection hq with hq; subst hq; exact .inl (by simp))
   have hcw7 : Chg [] w w7 := H1.out.2.2.then hc7 (fun q hq => by simp only [List.mem_singleton] at hq; have h1 := HIT.out; have h2 := H0.out.2.1.size; exact .inr (by omega))
   have hb7 := HB.out.chg hcw7 (by simp)
   obtain ⟨R, hin, -⟩ := hb7
   have hgN := HG.out.n
   have cR := bRead_at hin (a := k) (by rw [hgN]; exact hk)
   have H8 := Lib.hid (And.intro hkr (And.intro hc7 (And.intro hcw7 (And.intro hlt hck))))
   have CR := Lib.hid cR
   clear hkr hc7 hcw7 hlt hck hin cR hg7 hgN hv
   go_wp2_with fail
   refine CR.out.mono ?_
   rintro e w8 ⟨g, c, rfl, q1, q2, q3, q4, q5, q6⟩
   have hcw8 := H8.out.2.2.1.trans q6
   have cC := (HB.out.chg hcw8 (by simp)).cCount (k : Int)
   rw [getV_nat (by rw [HG.out.n]; exact hk), ← HR.out.1.now k hk H8.out.2.2.2.2] at cC
   have hcv := conv_at (bytes_in q5 q1 q2)
   rw [bstr_congr (g := S.d k) (fun i hi => (HR.out.1.d k hk H8.out.2.2.2.2 i hi).symm)] at hcv
   have c78 : Chg [it] wr w8 := H8.out.2.1.trans (q6.mono (by simp))
   have hx8 := (c78.block xb (heap_lt H1.out.1) (by simp only [List.mem_singleton]; have := HIT.out; omega)).trans H1.out.1
   have c1 : w8.cell? ⟨xb, 1, none⟩ = some (.map (some md)) := (cell_fn hx8 (by omega)).trans rfl
   have hd8 := H1.out.2.1.chg c78 (by simp only [List.mem_singleton]; have h1 := H0.out.2.2.d.lt; have := HIT.out; omega)
   have lk := (hd8.look (t := 69) Tryz.underlying3 Tryz.underlying69 (zero_s1 w8) rfl hk hN.2).2
   rw [show S.dV k = some (.agg #[.string (bstr 128 (S.d k))]) from by unfold St.dV; rw [if_neg H8.out.2.2.2.2]] at lk
   simp only [Option.getD_some] at lk
   have hkr8 := H8.out.1.chg q6 (by simp) (by simp)
   have hlt8 : w8.rangeLeft mc it < wr.rangeLeft mc it := by
    rw [KR.left_eq H8.out.1 (q6.block mc H8.out.1.lt.1 (by simp)) (q6.block it H8.out.1.lt.2 (by simp))]
    exact H8.out.2.2.2.1
   have H9 := Lib.hid (And.intro hkr8 (And.intro (HX.out.2.trans c78) hlt8))
   clear hcw8 q1 q2 q3 q4 q5 q6 c78 hx8 hd8 hkr8 hlt8 CR
   go_wp2_with fail
   refine (cC).mono ?_
   rintro e w' ⟨rfl, rfl⟩
   clear cC
   have fl := field_s1 w8 (.string (bstr 128 (S.d k)))
   go_wp2_with fail
   go_roundw
   case rel => exact ⟨_, Lib.hid ⟨H9.out.1, H9.out.2.1⟩⟩
   case measure => exact H9.out.2.2
end Go.Proofs.YtkhcaclndepgbaaGreat
namespace Go.Proofs.YtkhcaclndepgbaaGreat
open Go.RowKit
def St.set (S : St) (k n : Nat) : St := { S with c := fun b => if b = k then n else S.c b }
def St.fill (S : St) (k : Nat) (f : Nat → Nat) : St := { S with d := fun b => if b = k then f else S.d b }
def St.root (S : St) (i b : Nat) : St := { S with r := fun j => if j = i then b else S.r j }
def St.mark (S : St) (i n : Nat) : St := { S with m := fun j => if j = i then n else S.m j }
structure KeptB (B B' : Bs) : Prop where
 n : B'.T.n = B.T.n
 kept : B'.T.kept = B.T.kept
 D : B'.D = B.D
 K : B'.Kp = B.Kp
 pg : ∀ b, pgB B' b = pgB B b
theorem KeptB.rfl' (B : Bs) : KeptB B B := ⟨rfl, rfl, rfl, rfl, fun _ => rfl⟩
theorem KeptB.trans {B B' B'' : Bs} (h : KeptB B B') (k : KeptB B' B'') : KeptB B B'' := ⟨k.n.trans h.n, k.kept.trans h.kept, k.D.trans h.D, k.K.trans h.K, fun b => (k.pg b).trans (h.pg b)⟩
theorem KeptB.back {B B' : Bs} (h : KeptB B B') (b : Nat) : B'.back.live b = B.back.live b := by
 show (B'.T.kept b != 0 && !pgB B'.back b) = (B.T.kept b != 0 && !pgB B.back b)
 rw [h.kept, show pgB B'.back b = pgB B' b from rfl, show pgB B.back b = pgB B b from rfl, h.pg b]
variable {N G : Nat} {B : Bs} {S : St}
theorem Good.up_ (h : Good N G B) {x : Nat} (hx : x < N) (hl : B.live x = true) (hm : B.T.now x < 65535) :
  B.upE (x : Int) = 0 ∧ B.up (x : Int) = B.counted (B.T.set x (B.T.now x + 1)) x ∧ Good N G (B.up (x : Int)) ∧ (∀ b, (B.up (x : Int)).live b = B.live b) := by
 obtain ⟨h1, h2, h3, h4⟩ := h.may hx hl
 have hg : getV B.T (x : Int) = (B.T.now x : Int) := getV_nat (by rw [h.n]; exact hx)
 have hg0 : ¬ getV B.T (x : Int) = 0 := by rw [hg]; omega
 have hh := (hasB_iff B.T (x : Int)).2 (by have := h.n; omega)
 have hd : Proofs.YtkhcaclndepgbaaGreat.upE B.T (x : Int) = 0 := by
  have : B.T.now x ≠ 65535 := by omega
  simp [Proofs.YtkhcaclndepgbaaGreat.upE, hh, this]
 have e1 : B.upE (x : Int) = 0 := by unfold Bs.upE; rw [h2, if_pos rfl, if_neg hg0]; exact hd
 have e2 : B.up (x : Int) = B.counted (B.T.set x (B.T.now x + 1)) x := by
  unfold Bs.up
  rw [h2, decide_eq_false hg0, if_pos (show (true && !false) = true from rfl), Int.toNat_natCast]
  unfold Proofs.YtkhcaclndepgbaaGreat.up
  rw [hd, if_pos rfl, Int.toNat_natCast]
 have hlv : ∀ b, (B.counted (B.T.set x (B.T.now x + 1)) x).live b = B.live b := fun b => by
  show ((if b = x then B.T.now x + 1 else B.T.now b) != 0 && !pgB B b) = (B.T.now b != 0 && !pgB B b)
  by_cases e : b = x
  ·subst e
   rw [if_pos rfl]
   have : B.T.now b + 1 ≠ 0 := by omega
   simp [h3]
  ·rw [if_neg e]
 refine ⟨e1, e2, ?_, ?_⟩
 ·rw [e2]
  refine h.turn (h.ok.counted_ok h3 h2 (by omega)) rfl rfl ?_
  have hw := waits_set B.T (b := x) (B.T.now x + 1) (by rw [h.n]; exact hx)
  have w1 : B.T.waitB x = false := by unfold Tal.waitB; simp [h3]
  have w2 : (B.T.set x (B.T.now x + 1)).waitB x = false := by
   unfold Tal.waitB Tal.set
   simp
  rw [w1, w2] at hw
  have ew : (B.counted (B.T.set x (B.T.now x + 1)) x).T.waits = (B.T.set x (B.T.now x + 1)).waits := rfl
  rw [ew, cnt_congr (fun b _ => hlv b)]
  simp at hw
  omega
 ·rw [e2]; exact hlv
theorem StRel.put (h : StRel N B S) (hg : Good N G B) (hr : 0 < B.room) {f : Nat → Nat} (hf : ∀ i, i < 128 → f i ≤ 255) :
  B.at_ < N ∧ S.c B.at_ = 0 ∧ Good N G (B.put f) ∧ KeptB B (B.put f) ∧ StRel N (B.put f) ((S.set B.at_ 1).fill B.at_ f) := by
 obtain ⟨h1, h2, h3, h4, h5, h6, h7, h8, h9⟩ := hg.put_ hr hf
 have h0 : S.c B.at_ = 0 := by
  by_cases e : S.c B.at_ = 0
  ·exact e
  ·rw [(h.live _ h4).1 e] at h2; cases h2
 refine ⟨h4, h0, h1, ⟨rfl, rfl, rfl, rfl, fun _ => rfl⟩, ⟨fun b hb => ?_, fun b hb hc => ?_, fun b hb hc i hi => ?_, h.r, h.m⟩⟩
 ·rw [h5 b]
  show (if b = B.at_ then 1 else S.c b) ≠ 0 ↔ _
  by_cases e : b = B.at_
  ·simp [e]
  ·rw [if_neg e, decide_eq_false e, Bool.false_or]; exact h.live b hb
 ·show (if b = B.at_ then 1 else S.c b) = (if b = B.at_ then 1 else B.T.now b)
  by_cases e : b = B.at_
  ·rw [if_pos e, if_pos e]
  ·rw [if_neg e, if_neg e]
   exact h.now b hb (by have : (if b = B.at_ then 1 else S.c b) ≠ 0 := hc; rwa [if_neg e] at this)
 ·show (if b = B.at_ then f else S.d b) i = ((if b = B.at_ then some f else B.fr b).getD (B.D b)) i
  by_cases e : b = B.at_
  ·rw [if_pos e, if_pos e]; rfl
  ·rw [if_neg e, if_neg e]
   exact h.d b hb (by have : (if b = B.at_ then 1 else S.c b) ≠ 0 := hc; rwa [if_neg e] at this) i hi
theorem StRel.over (h : StRel N B S) (hg : Good N G B) {x : Nat} (hx : (B.fr x).isSome = true) {f : Nat → Nat} (hf : ∀ i, i < 128 → f i ≤ 255) :
  Good N G (B.over x f) ∧ KeptB B (B.over x f) ∧ StRel N (B.over x f) (S.fill x f) := by
 refine ⟨hg.over_ hx hf, ⟨rfl, rfl, rfl, rfl, fun _ => rfl⟩, ⟨h.live, h.now, fun b hb hc i hi => ?_, h.r, h.m⟩⟩
 show (if b = x then f else S.d b) i = ((if b = x then some f else B.fr b).getD (B.D b)) i
 by_cases e : b = x
 ·rw [if_pos e, if_pos e]; rfl
 ·rw [if_neg e, if_neg e]; exact h.d b hb hc i hi
theorem StRel.up (h : StRel N B S) (hg : Good N G B) {x : Nat} (hx : x < N) (h0 : S.c x ≠ 0) (hm : S.c x < 65535) :
  B.upE (x : Int) = 0 ∧ Good N G (B.up (x : Int)) ∧ KeptB B (B.up (x : Int)) ∧ StRel N (B.up (x : Int)) (S.set x (S.c x + 1)) := by
 have hl := (h.live x hx).1 h0
 have hn := h.now x hx h0
 obtain ⟨h1, h2, h3, h4⟩ := hg.up_ hx hl (by omega)
 refine ⟨h1, h3, ?_, ⟨fun b hb => ?_, fun b hb hc => ?_, fun b hb hc i hi => ?_, ?_, ?_⟩⟩
 ·rw [h2]; exact ⟨rfl, rfl, rfl, rfl, fun _ => rfl⟩
 ·rw [h4 b]
  show (if b = x then S.c x + 1 else S.c b) ≠ 0 ↔ _
  by_cases e : b = x
  ·subst e; rw [if_pos rfl, hl]; simp
  ·rw [if_neg e]; exact h.live b hb
 ·rw [h2]
  show (if b = x then S.c x + 1 else S.c b) = (if b = x then B.T.now x + 1 else B.T.now b)
  by_cases e : b = x
  ·rw [if_pos e, if_pos e, hn]
  ·rw [if_neg e, if_neg e]
   exact h.now b hb (by have : (if b = x then S.c x + 1 else S.c b) ≠ 0 := hc; rwa [if_neg e] at this)
 ·have hc' : S.c b ≠ 0 := by
   by_cases e : b = x
   ·rw [e]; exact h0
   ·have : (if b = x then S.c x + 1 else S.c b) ≠ 0 := hc
    rwa [if_neg e] at this
  refine (h.d b hb hc' i hi).trans ?_
  rw [h2]
  show _ = ((if b = x ∧ (B.T.set x (B.T.now x + 1)).now x = 0 then none else B.fr b).getD (B.D b)) i
  rw [if_neg (by intro q; have := q.2; simp [Tal.set] at this)]
  rfl
 ·rw [h2]; exact h.r
 ·rw [h2]; exact h.m
theorem StRel.dn (h : StRel N B S) (hg : Good N G B) {x : Nat} (hx : x < N) (h0 : S.c x ≠ 0) :
  B.downE (x : Int) = 0 ∧ Good N G (B.down (x : Int)) ∧ KeptB B (B.down (x : Int)) ∧ StRel N (B.down (x : Int)) (S.set x (S.c x - 1)) := by
 have hl := (h.live x hx).1 h0
 have hn := h.now x hx h0
 obtain ⟨e1, e2⟩ := downs_eq hg hx hl
 obtain ⟨g1, g2, g3, g4, g5, g6⟩ := hg.down_ hx hl
 refine ⟨e1, g1, ?_, ⟨fun b hb => ?_, fun b hb hc => ?_, fun b hb hc i hi => ?_, ?_, ?_⟩⟩
 ·rw [e2]; exact ⟨rfl, rfl, rfl, rfl, fun _ => rfl⟩
 ·rw [g2 b]
  show (if b = x then S.c x - 1 else S.c b) ≠ 0 ↔ _
  by_cases e : b = x
  ·rw [if_pos e, if_pos e, decide_eq_true_eq]; omega
  ·rw [if_neg e, if_neg e]; exact h.live b hb
 ·rw [g3 b]
  show (if b = x then S.c x - 1 else S.c b) = _
  by_cases e : b = x
  ·rw [if_pos e, if_pos e, hn]
  ·rw [if_neg e, if_neg e]
   exact h.now b hb (by have : (if b = x then S.c x - 1 else S.c b) ≠ 0 := hc; rwa [if_neg e] at this)
 ·have hc' : S.c b ≠ 0 := by
   by_cases e : b = x
   ·rw [e]; exact h0
   ·have : (if b = x then S.c x - 1 else S.c b) ≠ 0 := hc
    rwa [if_neg e] at this
  refine (h.d b hb hc' i hi).trans ?_
  rw [e2]
  show _ = ((if b = x ∧ (B.T.set x (B.T.now x - 1)).now x = 0 then none else B.fr b).getD (B.D b)) i
  rw [if_neg (by
   rintro ⟨q1, q2⟩
   have hcx : (if b = x then S.c x - 1 else S.c b) ≠ 0 := hc
   rw [if_pos q1] at hcx
   simp [Tal.set] at q2
   omega)]
  rfl
 ·rw [e2]; exact h.r
 ·rw [e2]; exact h.m
theorem StRel.setRoot (h : StRel N B S) (hg : Good N G B) {i b : Nat} (hi : 2 ≤ i) (hb : b < N) :
  Good N G (B.setRoot i b) ∧ KeptB B (B.setRoot i b) ∧ StRel N (B.setRoot i b) (S.root i b) := by
 refine ⟨hg.setRoot_ hi hb, ⟨rfl, rfl, rfl, rfl, fun _ => rfl⟩, ⟨h.live, h.now, h.d, fun j hj hj8 => ?_, h.m⟩⟩
 show (if j = i then b else S.r j) = (if j = i then b else B.S.roots j)
 rw [h.r j hj hj8]
theorem StRel.setMark (h : StRel N B S) (hg : Good N G B) {i n : Nat} (hn : n < 18446744073709551616) :
  Good N G (B.setMark i n) ∧ KeptB B (B.setMark i n) ∧ StRel N (B.setMark i n) (S.mark i n) := by
 refine ⟨hg.setMark_ hn, ⟨rfl, rfl, rfl, rfl, fun _ => rfl⟩, ⟨h.live, h.now, h.d, h.r, fun j hj => ?_⟩⟩
 show (if j = i then n else S.m j) = (if j = i then n else B.S.marks j)
 rw [h.m j hj]
theorem StRel.commit {B' : Bs} (h : StRel N B S) (c : Cm N G B B') : StRel N B' S :=
 ⟨fun b hb => by rw [c.live b]; exact h.live b hb, fun b hb h0 => by rw [c.now b ((h.live b hb).1 h0)]; exact h.now b hb h0, fun b hb h0 i hi => by rw [c.read b hb ((h.live b hb).1 h0)]; exact h.d b hb h0 i hi, fun i a b => by rw [c.roots i a]; exact h.r i a b, fun i a => by rw [c.marks]; exact h.m i a⟩
end Go.Proofs.YtkhcaclndepgbaaGreat
