/- Package base: what a base tells of itself. · Package base: what its calls lean on: slices.Contains of numbers, slices.Clone of bytes. -/
import Derived.Test.YtkhcaclndepgbaaGreatZd28
import Derived.Test.YtkhcaclndepgbaaGreatZd16
import Derived.Test.YtkhcaclndepgbaaGreatZd24
set_option linter.unusedVariables false
set_option linter.unusedSimpArgs false
set_option maxRecDepth 100000
set_option maxHeartbeats 20000000
namespace Go.Proofs.YtkhcaclndepgbaaGreat
open Go.RowKit
def Bs.room (B : Bs) : Int := max (roomI B.T 2 - (needN B.T.n : Int)) 0
def Bs.freshB (B : Bs) (a : Int) : Bool := decide (0 ≤ a) && decide (a < (B.T.n : Int)) && (B.fr a.toNat).isSome
def Bs.rootI (B : Bs) (i : Int) : Int := if 0 ≤ i ∧ i < 8 then (B.S.roots i.toNat : Int) else 0
def Bs.markI (B : Bs) (i : Int) : Int := if 0 ≤ i ∧ i < 8 then (B.S.marks i.toNat : Int) else 0
theorem goodF_zero : goodF (.slice none 0 0) = true := rfl
theorem zeroSl8 (w : World) : (zeroValue 22).run Tryz.prog w = .ok (.slice none 0 0) w := Tryz.zeroValue22 w
section
variable {w : World} {M : Bm} {R : Br} {B : Bs} (h : BaseC w M R B)
include h
theorem bNone_at : Calls Tryz.prog 74 #[.pointer (some ⟨M.b, 0, none⟩)] w fun e w' => e = .returned (.bool false) ∧ w = w' := by
 have c1 := h.c1
 clear h
 go_enter Tryz.func74, Tryz.ntmps74
 go_wp2_with fail
 go_ret
 exact ⟨rfl, rfl⟩
theorem bMay_at : Calls Tryz.prog 76 #[.pointer (some ⟨M.b, 0, none⟩)] w fun e w' => e = .returned (.int .i64 0) ∧ w = w' := by
 have cn := bNone_at h
 have c1 := h.c43
 clear h
 go_enter Tryz.func76, Tryz.ntmps76
 go_wp2_with fail
 refine (cn).mono ?_
 rintro e w' ⟨rfl, rfl⟩
 go_wp2_with fail
 go_ret
 exact ⟨rfl, rfl⟩
theorem bGen_at : Calls Tryz.prog 34 #[.pointer (some ⟨M.b, 0, none⟩)] w fun e w' => e = .returned (.int .u64 (B.Kp.gen : Int)) ∧ w = w' := by
 have cn := bNone_at h
 have c1 : w.cell? ⟨M.b, 24, none⟩ = some (.int .u64 (B.Kp.gen : Int)) := h.kCell 0 (by omega)
 clear h
 go_enter Tryz.func34, Tryz.ntmps34
 go_wp2_with fail
 refine (cn).mono ?_
 rintro e w' ⟨rfl, rfl⟩
 go_wp2_with fail
 go_ret
 exact ⟨rfl, rfl⟩
theorem bBlocks_at : Calls Tryz.prog 20 #[.pointer (some ⟨M.b, 0, none⟩)] w fun e w' => e = .returned (.int .i64 (B.T.n : Int)) ∧ w = w' := by
 have cn := bNone_at h
 have c1 := h.c1
 have cb := blocks_at h.pt.ht
 clear h
 go_enter Tryz.func20, Tryz.ntmps20
 go_wp2_with fail
 refine (cn).mono ?_
 rintro e w' ⟨rfl, rfl⟩
 go_wp2_with fail
 refine (cb).mono ?_
 rintro e w' ⟨rfl, rfl⟩
 go_wp2_with fail
 go_ret
 exact ⟨rfl, rfl⟩
theorem bCount_at (a : Int) : Calls Tryz.prog 22 #[.pointer (some ⟨M.b, 0, none⟩), .int .i64 a] w fun e w' => e = .returned (.int .i64 (getV B.T a)) ∧ w = w' := by
 have cn := bNone_at h
 have c1 := h.c1
 have cb := get_at h.pt.ht a
 clear h
 go_enter Tryz.func22, Tryz.ntmps22
 go_wp2_with fail
 refine (cn).mono ?_
 rintro e w' ⟨rfl, rfl⟩
 go_wp2_with fail
 refine (cb).mono ?_
 rintro e w' ⟨rfl, rfl⟩
 go_wp2_with fail
 go_ret
 exact ⟨rfl, rfl⟩
theorem bWaits_at : Calls Tryz.prog 24 #[.pointer (some ⟨M.b, 0, none⟩)] w fun e w' => e = .returned (.int .i64 (B.T.waits : Int)) ∧ w = w' := by
 have cn := bNone_at h
 have c1 := h.c1
 have cb := waits_at h.pt.ht
 clear h
 go_enter Tryz.func24, Tryz.ntmps24
 go_wp2_with fail
 refine (cn).mono ?_
 rintro e w' ⟨rfl, rfl⟩
 go_wp2_with fail
 refine (cb).mono ?_
 rintro e w' ⟨rfl, rfl⟩
 go_wp2_with fail
 go_ret
 exact ⟨rfl, rfl⟩
theorem bBroken_at : Calls Tryz.prog 33 #[.pointer (some ⟨M.b, 0, none⟩)] w fun e w' => e = .returned (.bool false) ∧ w = w' := by
 have cn := bNone_at h
 have c1 := h.c43
 clear h
 go_enter Tryz.func33, Tryz.ntmps33
 go_wp2_with fail
 refine (cn).mono ?_
 rintro e w' ⟨rfl, rfl⟩
 go_wp2_with fail
 go_ret
 exact ⟨rfl, rfl⟩
theorem bRoom_at : Calls Tryz.prog 16 #[.pointer (some ⟨M.b, 0, none⟩)] w fun e w' => e = .returned (.int .i64 B.room) ∧ w = w' := by
 have cn := bNone_at h
 have c2 := h.c2
 have cb := h.pt.room
 rw [h.ok.first] at cb
 have cl := bBlocks_at h
 have cnd := need_at (n := B.T.n) w (by have := h.ok.n; omega) h.ok.n.2
 have hrb := roomI_bd (T := B.T) (f := 2) (by have := h.ok.n; omega)
 have hnd : needN B.T.n ≤ 5000 := by unfold needN pg; have := h.ok.n; omega
 have hn2 := h.ok.n.2
 have e1 : wrap64 (roomI B.T 2 - (needN B.T.n : Int)) = roomI B.T 2 - (needN B.T.n : Int) := by unfold wrap64; omega
 unfold Bs.room
 clear h
 generalize roomI B.T 2 = r at *
 generalize needN B.T.n = n at *
 go_enter Tryz.func16, Tryz.ntmps16
 go_wp2_with fail
 refine (cn).mono ?_
 rintro e w' ⟨rfl, rfl⟩
 go_wp2_with fail
 refine (cb).mono ?_
 rintro e w' ⟨rfl, rfl⟩
 go_wp2_with fail
 refine (cl).mono ?_
 rintro e w' ⟨rfl, rfl⟩
 go_wp2_with fail
 refine (cnd).mono ?_
 rintro e w' ⟨rfl, rfl⟩
 go_wp2_with fail
 go_ret
 exact ⟨rfl, rfl⟩
theorem bRoot_at (i : Int) : Calls Tryz.prog 35 #[.pointer (some ⟨M.b, 0, none⟩), .int .i64 i] w fun e w' => e = .returned (.int .i64 (B.rootI i)) ∧ w = w' := by
 have cn := bNone_at h
 by_cases hi : 0 ≤ i ∧ i < 8
 ·obtain ⟨j, rfl⟩ := Int.eq_ofNat_of_zero_le hi.1
  have hj : j < 8 := by omega
  have c1 : w.cell? ⟨M.b, 6 + (2 + j), none⟩ = some (.int .u32 (B.S.roots j : Int)) := (h.sCell (2 + j) (by omega)).trans (by unfold Sup.cellV; rw [if_neg (by omega), if_neg (by omega), if_pos (by omega), Nat.add_sub_cancel_left])
  rw [show 6 + (2 + j) = 8 + j by omega] at c1
  have hr := h.ok.s.ok.roots j hj
  have hb := h.ok.s.ok.blocks
  have e : B.rootI (j : Int) = (B.S.roots j : Int) := by unfold Bs.rootI; rw [if_pos hi]; rfl
  rw [e]
  obtain ⟨x, hx⟩ : ∃ x, x = B.S.roots j := ⟨_, rfl⟩
  rw [← hx] at c1 hr ⊢
  have E1 : IntKind.i64.wrap (x : Int) = (x : Int) := IntWalk.i64_in _ (by omega)
  have i0 : ¬ (j : Int) < 0 := by omega
  have i1 : ¬ (8 : Int) ≤ (j : Int) := by omega
  have i2 : (j : Int) < 8 := by omega
  clear h hx e
  go_enter Tryz.func35, Tryz.ntmps35
  go_wp2_with fail
  refine (cn).mono ?_
  rintro e w' ⟨rfl, rfl⟩
  go_wp2_with fail
  go_ret
  exact ⟨rfl, rfl⟩
 ·have e : B.rootI i = 0 := by unfold Bs.rootI; rw [if_neg hi]
  rw [e]
  clear h e
  by_cases h0 : i < 0
  ·go_enter Tryz.func35, Tryz.ntmps35
   go_wp2_with fail
   refine (cn).mono ?_
   rintro e w' ⟨rfl, rfl⟩
   go_wp2_with fail
   go_ret
   exact ⟨rfl, rfl⟩
  ·have i1 : (8 : Int) ≤ i := by omega
   go_enter Tryz.func35, Tryz.ntmps35
   go_wp2_with fail
   refine (cn).mono ?_
   rintro e w' ⟨rfl, rfl⟩
   go_wp2_with fail
   go_ret
   exact ⟨rfl, rfl⟩
theorem bMark_at (i : Int) : Calls Tryz.prog 36 #[.pointer (some ⟨M.b, 0, none⟩), .int .i64 i] w fun e w' => e = .returned (.int .u64 (B.markI i)) ∧ w = w' := by
 have cn := bNone_at h
 by_cases hi : 0 ≤ i ∧ i < 8
 ·obtain ⟨j, rfl⟩ := Int.eq_ofNat_of_zero_le hi.1
  have hj : j < 8 := by omega
  have c1 : w.cell? ⟨M.b, 6 + (10 + j), none⟩ = some (.int .u64 (B.S.marks j : Int)) := (h.sCell (10 + j) (by omega)).trans (by unfold Sup.cellV; rw [if_neg (by omega), if_neg (by omega), if_neg (by omega), Nat.add_sub_cancel_left])
  rw [show 6 + (10 + j) = 16 + j by omega] at c1
  have e : B.markI (j : Int) = (B.S.marks j : Int) := by unfold Bs.markI; rw [if_pos hi]; rfl
  rw [e]
  have i0 : ¬ (j : Int) < 0 := by omega
  have i1 : ¬ (8 : Int) ≤ (j : Int) := by omega
  have i2 : (j : Int) < 8 := by omega
  clear h e
  go_enter Tryz.func36, Tryz.ntmps36
  go_wp2_with fail
  refine (cn).mono ?_
  rintro e w' ⟨rfl, rfl⟩
  go_wp2_with fail
  go_ret
  exact ⟨rfl, rfl⟩
 ·have e : B.markI i = 0 := by unfold Bs.markI; rw [if_neg hi]
  rw [e]
  clear h e
  by_cases h0 : i < 0
  ·go_enter Tryz.func36, Tryz.ntmps36
   go_wp2_with fail
   refine (cn).mono ?_
   rintro e w' ⟨rfl, rfl⟩
   go_wp2_with fail
   go_ret
   exact ⟨rfl, rfl⟩
  ·have i1 : (8 : Int) ≤ i := by omega
   go_enter Tryz.func36, Tryz.ntmps36
   go_wp2_with fail
   refine (cn).mono ?_
   rintro e w' ⟨rfl, rfl⟩
   go_wp2_with fail
   go_ret
   exact ⟨rfl, rfl⟩
theorem bFresh_at (a : Int) (ha : (Lit.int .i64 a).wf = true) : Calls Tryz.prog 32 #[.pointer (some ⟨M.b, 0, none⟩), .int .i64 a] w fun e w' => e = .returned (.bool (B.freshB a)) ∧ w = w' := by
 have cn := bNone_at h
 have c5 := h.c5
 have hlk : ∃ v, (Instr.lookup 43 (.map (some M.mf)) (.int .i64 a) true).run Tryz.prog w = .ok (.tuple #[v, .bool (B.freshB a)]) w := by
  by_cases hi : 0 ≤ a ∧ a < (B.T.n : Int)
  ·obtain ⟨j, rfl⟩ := Int.eq_ofNat_of_zero_le hi.1
   have l := (h.fm.look (t := 43) Tryz.underlying3 Tryz.underlying43 (zeroSl8 w) goodF_zero (k := j) (by omega) h.ok.n.2).1
   have : B.freshB (j : Int) = (frV R B j).isSome := by
    unfold Bs.freshB frV
    rw [decide_eq_true hi.1, decide_eq_true hi.2]
    show (B.fr j).isSome = _
    by_cases q : (B.fr j).isSome = true
    ·rw [if_pos q, q]; rfl
    ·rw [if_neg q]; simpa using q
   rw [← this] at l
   exact ⟨_, l⟩
  ·have l := (h.fm.look_out (t := 43) Tryz.underlying3 Tryz.underlying43 (zeroSl8 w) goodF_zero ha (by omega)).1
   have : B.freshB a = false := by
    unfold Bs.freshB
    by_cases h0 : 0 ≤ a
    ·rw [decide_eq_false (show ¬ a < (B.T.n : Int) by omega)]; simp
    ·rw [decide_eq_false h0]; simp
   rw [← this] at l
   exact ⟨_, l⟩
 obtain ⟨v, hlk⟩ := hlk
 clear h
 generalize B.freshB a = r at *
 go_enter Tryz.func32, Tryz.ntmps32
 go_wp2_with fail
 refine (cn).mono ?_
 rintro e w' ⟨rfl, rfl⟩
 go_wp2_with fail
 go_ret
 exact ⟨rfl, rfl⟩
end
end Go.Proofs.YtkhcaclndepgbaaGreat
namespace Go.Proofs.YtkhcaclndepgbaaGreat
open Go.RowKit
theorem wpList_app {ops : Array Oper} {rest : List Oper} {o : Oper} {a : Act} {w : World} {Q : Exit → Act → World → Prop} (hg : o.guard = none) (s x : Operand) (t : TypeId)
  (hop : o.op = .call { callee := .builtin .append, args := #[s, x], argTypes := #[t, t] }) (hty : o.type = t) {base size n m bytes : Nat} {e : TypeId} {z v xv : Value} {xs news : List Value}
  (ht : Tryz.prog.underlying t = some (.slice e)) (hinfo : (Tryz.prog.info? e).map (fun i => (i.zero, i.size, i.bytes)) = some (some z, size, bytes)) (hzs : z.cells.size = size) (hsz : 0 < size) (hby : bytes ≤ 1000)
  (hs : a.eval s = v) (hx : a.eval x = xv) (hown : w.ownsRow base e size v n xs) (hsrc : AppSrc w size xv m news) (hnm : n + m ≤ 3000000) (hbase : base ≤ w.heap.size)
  (hK : ∀ v' w', w'.ownsRow base e size v' (n + m) (xs ++ news) → w.grownBy w' v.ownBlock → (v'.ownBlock = v.ownBlock ∨ v'.ownBlock = some w.heap.size) → wpList Tryz.prog ops Q rest (a.put o.dst v') w') : wpList Tryz.prog ops Q (o :: rest) a w := by
 refine wpList_plain hg fun K hK' => ?_
 obtain ⟨v', w', hrun, r1, r2, r3⟩ := run_app ht hinfo hzs hsz hby hown hsrc hnm hbase
 unfold Oper.wp
 simp [execOp, hop, resolve, invoke, builtin, hs, hx, hty, hrun, Result.andThen]
 exact hK' _ _ (hK _ _ r1 r2 r3)
def u8Vs (n : Nat) (f : Nat → Nat) : List Value := (List.range n).map fun i => .int .u8 (f i : Int)
theorem bytes_src {w : World} {k o n c : Nat} {f : Nat → Nat} (h : BytesAt w k o n f) (hk : k < w.heap.size) : AppSrc w 1 (.slice (some ⟨k, o, none⟩) n c) n (u8Vs n f) := by
 refine ⟨by simp [u8Vs], fun u hu => ?_, .inl ⟨k, o, c, rfl, hk, fun j u hu => ?_⟩⟩
 ·simp only [u8Vs, List.mem_map] at hu
  obtain ⟨i, _, rfl⟩ := hu
  rfl
 ·have hj : j < n := by
   have := (List.getElem?_eq_some_iff.1 hu).1
   simpa [u8Vs] using this
  have e : (u8Vs n f)[j]? = some (.int .u8 (f j : Int)) := by simp [u8Vs, hj]
  rw [e] at hu
  rw [← hu]
  exact (h j hj).1
theorem own_bytes {w : World} {base n : Nat} {v : Value} {f : Nat → Nat} (h : w.ownsRow base 5 1 v n (u8Vs n f)) (hn : 0 < n) (hf : ∀ i, i < n → f i ≤ 255) : ∃ g c, v = .slice (some ⟨g, 0, none⟩) n c ∧ n ≤ c ∧ c ≤ maxLen ∧ base ≤ g ∧ (∃ cur, w.heap[g]? = some (.cells cur 5 (0, 0))) ∧ BytesAt w g 0 n f := by
 obtain ⟨g, c, e, h1, h2, h3, h4, h5⟩ := ownRow_cells h hn
 refine ⟨g, c, e, h1, h2, h3, ?_, fun i hi => ⟨?_, hf i hi⟩⟩
 ·rcases h.2 with ⟨_, h0⟩ | ⟨g', c', cur, e', _, hg', _⟩
  ·omega
  ·rw [e] at e'
   injection e' with e' _ _
   injection e' with e'
   injection e' with e'
   subst e'
   exact ⟨cur, hg'⟩
 ·rw [Nat.zero_add, h5 i (by omega)]
  simp [u8Vs, hi]
theorem clone8_at {w : World} {k o n c : Nat} {f : Nat → Nat} (h : BytesAt w k o n f) (h0 : 0 < n) (hn : n ≤ 100000) :
  Calls Tryz.prog 78 #[.slice (some ⟨k, o, none⟩) n c] w fun e w' => ∃ g c', e = .returned (.slice (some ⟨g, 0, none⟩) n c') ∧ n ≤ c' ∧ c' ≤ maxLen ∧ w.heap.size ≤ g ∧ (∃ cur, w'.heap[g]? = some (.cells cur 5 (0, 0))) ∧ BytesAt w' g 0 n f ∧ Chg [] w w' := by
 have hk : k < w.heap.size := World.block_lt_of_cell? w ⟨k, o + 0, none⟩ (h 0 h0).1
 have hnil := fun w => Lib.run_eql_slice_nil (P := Tryz.prog) w 22 5 (some ⟨k, o, none⟩) n c 0 0 Tryz.underlying22
 simp only [Option.isNone_some] at hnil
 have HE := Lib.hid (own_emptyG (w := w) (base := w.heap.size) (size := 1) (e := 5) (Nat.le_refl _))
 have HC0 := Lib.hid ((Chg.refl [] w).alloc (.cells #[] 5))
 have H := Lib.hid (And.intro h hk)
 clear h
 go_enter Tryz.func78, Tryz.ntmps78
 go_wp2_with (at_builtin; refine wpList_app rfl _ _ 22 rfl rfl (base := w.heap.size) (size := 1) (n := 0) (m := n) (news := u8Vs n f) Tryz.underlying22 infoU8 rfl (by omega) (by omega) rfl rfl HE.out (bytes_src (H.out.1.chg HC0.out (by simp)) (Nat.lt_of_lt_of_le H.out.2 HC0.out.size)) (by omega) HC0.out.size ?_; intro v' w2 hown2 hg2 _; have HOWN2 := Lib.hid hown2; have HC2 := Lib.hid (HC0.out.grown hg2 (fun k hk => .inr (HE.out.lt k hk).1)); clear hown2 hg2)
 go_ret
 have ho := HOWN2.out
 rw [Nat.zero_add, List.nil_append] at ho
 obtain ⟨g, c', rfl, q1, q2, q3, q4, q5⟩ := own_bytes ho h0 (fun i hi => (H.out.1 i hi).2)
 exact ⟨g, c', rfl, q1, q2, q3, q4, q5, HC2.out⟩
theorem indexI_at {w : World} {g n c : Nat} {l : Nat → Nat} {x : Int} (hn : n ≤ 4096) (hc : n ≤ c) (hcells : ∀ i, i < n → w.cell? ⟨g, i, none⟩ = some (.int .i64 (l i : Int))) :
  Calls Tryz.prog 182 #[.slice (some ⟨g, 0, none⟩) n c, .int .i64 x] w fun e w' => (∃ z : Int, e = .returned (.int .i64 z) ∧ (0 ≤ z ↔ ∃ i, i < n ∧ (l i : Int) = x)) ∧ w = w' := by
 have H := Lib.hid hcells
 clear hcells
 go_enter Tryz.func182, Tryz.ntmps182
 go_wp2_with fail
 go_loopg [8] n (fun gg s wr => ∃ k : Nat, gg = n - k ∧ k ≤ n ∧ s = .int .i64 (k : Int) ∧ w = wr ∧ ∀ i, i < k → (l i : Int) ≠ x)
 case atStart => exact ⟨0, rfl, Nat.zero_le _, by go_num, rfl, fun i hi => by omega⟩
 case round =>
  obtain ⟨k, hgg, hkn, rfl, rfl, hno⟩ := hrel
  by_cases hk : k < n
  ·have c1 := H.out k hk
   have i1 : (k : Int) < (n : Int) := by omega
   obtain ⟨y, hy⟩ : ∃ y, y = l k := ⟨_, rfl⟩
   rw [← hy] at c1
   have HY := Lib.hid hy
   have HNO := Lib.hid hno
   clear hy hno
   by_cases e : x = (y : Int)
   ·subst e
    go_wp2_with fail
    go_ret
    exact ⟨⟨k, rfl, ⟨fun _ => ⟨k, hk, by rw [HY.out]⟩, fun _ => by omega⟩⟩, rfl⟩
   ·go_wp2_with fail
    go_roundg (n - (k + 1))
    case measure => omega
    case rel =>
     refine ⟨k + 1, rfl, by omega, by go_num, rfl, fun i hi => ?_⟩
     by_cases e2 : i = k
     ·subst e2; rw [← HY.out]; exact fun q => e q.symm
     ·exact HNO.out i (by omega)
  ·obtain rfl : k = n := by omega
   go_wp2_with fail
   go_ret
   exact ⟨⟨-1, rfl, ⟨fun h => by omega, fun ⟨i, hi, e⟩ => absurd e (hno i hi)⟩⟩, rfl⟩
theorem contI_at {w : World} {g n c : Nat} {l : Nat → Nat} {x : Int} (hn : n ≤ 4096) (hc : n ≤ c) (hcells : ∀ i, i < n → w.cell? ⟨g, i, none⟩ = some (.int .i64 (l i : Int))) {r : Bool} (hr : r = true ↔ ∃ i, i < n ∧ (l i : Int) = x) :
  Calls Tryz.prog 148 #[.slice (some ⟨g, 0, none⟩) n c, .int .i64 x] w fun e w' => e = .returned (.bool r) ∧ w = w' := by
 have ci := indexI_at (x := x) hn hc hcells
 have HR := Lib.hid hr
 clear hcells hr
 go_enter Tryz.func148, Tryz.ntmps148
 go_wp2_with fail
 refine ci.mono ?_
 rintro e w' ⟨⟨z, rfl, hz⟩, rfl⟩
 have HZ := Lib.hid hz
 clear hz ci
 go_wp2_with fail
 go_ret
 have : r = decide (0 ≤ z) := by rw [Bool.eq_iff_iff, HR.out, decide_eq_true_iff, HZ.out]
 subst this
 exact ⟨rfl, rfl⟩
def pageB (B : Bs) (k : Nat) (x : Int) : Bool := (List.range (nOf B.T.n k)).any fun i => decide ((B.a k i : Int) = x)
theorem pageB_iff {B : Bs} {k : Nat} {x : Int} : pageB B k x = true ↔ ∃ i, i < nOf B.T.n k ∧ (B.a k i : Int) = x := by simp [pageB]
end Go.Proofs.YtkhcaclndepgbaaGreat
