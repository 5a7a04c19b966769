/- catchmentlaw24.read; catchmentlow.EqualNumbers. -/
import Derived.Test.YtbejcmbdaoakbaaSoK
import Derived.Test.YtbejcmbdaoakbaaRgH
namespace Go.Proofs.Ytbejcmbdaoakbaa
open Go.RowKit Go.Sort Go.Maps
set_option linter.unusedVariables false
set_option linter.unusedSimpArgs false

def rdO (v p : Nat) : Opn := ⟨4, v, p, 0, 0, fun _ => 0⟩
theorem rd_st (S : St) (v p : Nat) : stOf S (rdO v p) = S := by
  by_cases he : errOf S (rdO v p) = 0
  · rw [stOf_ok he]; rfl
  · exact st_err he
def rdOk (S : St) (v p : Nat) : Bool := decide ((repOf S (rdO v p)).err = 0) && decide ((repOf S (rdO v p)).n = 128)
/-- What read tells. -/
def ReadPost (N : Nat) (L : List Nat) (w : World) (p : Nat) (S : St) (v q : Nat) (e : Ending) (w' : World) : Prop :=
  ∃ L' a c, e = .returned (.tuple #[.slice a (repOf S (rdO v q)).n c, .bool (rdOk S v q)]) ∧ MdAt (N + 1) L' w' p S ∧ (∀ b, b ∈ L' → b ∈ L ∨ w.heap.size ≤ b) ∧ BytesIn w' a (repOf S (rdO v q)).n c (repOf S (rdO v q)).f ∧
    (∀ b, a = some b → w.heap.size ≤ b.block ∧ b.block ∉ L') ∧ Chg L w w'

theorem rd_isOp (w : World) {v q : Nat} (hv : v < 18446744073709551616) (hq : q < 18446744073709551616) : IsOp w (opV 4 v q 0 (.slice none 0 0)) (rdO v q) := by
  exact ⟨none, 0, rfl, bytes_none, ⟨by show 4 ≤ 255; omega, hv, hq, by show 0 < 18446744073709551616; omega, Nat.zero_le _⟩⟩

set_option maxRecDepth 20000 in
set_option maxHeartbeats 4000000 in
theorem read24_at {N : Nat} {L : List Nat} {w : World} {p v q : Nat} {S : St} (h : MdAt N L w p S) (hN : N ≤ 1000000) (hv : v < 18446744073709551616) (hq : q < 18446744073709551616) :
    Calls Try.prog 26 #[.pointer (some ⟨p, 0, none⟩), .int .u64 (v : Int), .int .u64 (q : Int)] w (ReadPost N L w p S v q) := by
  have c := do_at h hN (rd_isOp w hv hq)
  rw [rd_st] at c
  unfold opV at c
  obtain ⟨R, hR⟩ : ∃ R, R = repOf S (rdO v q) := ⟨_, rfl⟩
  have hok : rdOk S v q = (decide (R.err = 0) && decide (R.n = 128)) := by unfold rdOk; rw [← hR]
  rw [← hR] at c
  have C := Lib.hid c
  have HR := Lib.hid hR
  have HOK := Lib.hid hok
  clear c hR hok h
  go_enter Try.func26, Try.ntmps26
  go_wp2_with fail
  refine C.out.mono ?_
  rintro e w1 ⟨L', a, c, rfl, hM, hL, hB, hF, hC⟩
  have HF := Lib.hid (And.intro hM (And.intro hL (And.intro hB (And.intro hF hC))))
  clear hM hL hB hF hC C
  unfold repV
  obtain ⟨er, vo, n, f, k⟩ := R
  have hln : n ≤ 9223372036854775807 := by have := HF.out.2.2.1.1; have h2 := HF.out.2.2.1.2.1; unfold maxLen at h2; exact Nat.le_trans this h2
  have HW : Hid (Chg L w (w1.alloc (.cells #[.int .i64 (er : Int), .int .u64 (vo : Int), .slice a n c, .int .i64 (k : Int)] 32))) := Lib.hid (HF.out.2.2.2.2.alloc _)
  have HW1 : Hid (Chg [] w1 (w1.alloc (.cells #[.int .i64 (er : Int), .int .u64 (vo : Int), .slice a n c, .int .i64 (k : Int)] 32))) := Lib.hid ((Chg.refl [] w1).alloc _)
  by_cases he : er = 0
  · have he' : ((er : Int) == 0) = true := by simp [he]
    by_cases hn : n = 128
    · subst he; subst hn
      go_wp2_with fail
      go_quiet (fail)
      go_wp2_with fail
      go_ret2
      refine ⟨L', a, c, ?_, HF.out.1.chg (HW1.out.drewN _) (by simp), HF.out.2.1, ?_, HF.out.2.2.2.1, HW.out.drewN _⟩
      · rw [HOK.out, ← HR.out]; rfl
      · rw [← HR.out]; exact HF.out.2.2.1.chg (HW1.out.drewN _) (by simp)
    · subst he
      have hn' : ((n : Int) == 128) = false := by simp; omega
      have HOK2 : Hid (rdOk S v q = false) := Lib.hid (by rw [HOK.out]; simp [hn])
      go_wp2_with fail
      go_quiet (fail)
      go_wp2_with fail
      go_ret2
      refine ⟨L', a, c, ?_, HF.out.1.chg (HW1.out.drewN _) (by simp), HF.out.2.1, ?_, HF.out.2.2.2.1, HW.out.drewN _⟩
      · rw [HOK2.out, ← HR.out]; rfl
      · rw [← HR.out]; exact HF.out.2.2.1.chg (HW1.out.drewN _) (by simp)
  · have he' : ((er : Int) == 0) = false := by simp; omega
    have HOK2 : Hid (rdOk S v q = false) := Lib.hid (by rw [HOK.out]; simp [he])
    go_wp2_with fail
    go_quiet (fail)
    go_wp2_with fail
    go_ret2
    refine ⟨L', a, c, ?_, HF.out.1.chg (HW1.out.drewN _) (by simp), HF.out.2.1, ?_, HF.out.2.2.2.1, HW.out.drewN _⟩
    · rw [HOK2.out, ← HR.out]; rfl
    · rw [← HR.out]; exact HF.out.2.2.1.chg (HW1.out.drewN _) (by simp)

/-! ### EqualNumbers -/
theorem ListU.cell {w : World} {B : Nat} {v : Value} {l : List Nat} (h : ListU w B v l) (hl : l ≠ []) : ∃ g c, v = .slice (some ⟨g, 0, none⟩) l.length c ∧ l.length ≤ c ∧ ∀ i, i < l.length → w.cell? ⟨g, i, none⟩ = some (.int .u64 ((l[i]! : Nat) : Int)) := by
  rcases h with ⟨h, _⟩ | ⟨_, g, c, h2, h3, h4, h5⟩
  · exact absurd h hl
  · exact ⟨g, c, h2, h3, fun i hi => by rw [h5.cell hi, arrI_get l i hi]⟩
theorem eqList_iff (l m : List Nat) (h : l.length = m.length) : (∀ i, i < l.length → l[i]! = m[i]!) ↔ l = m := by
  constructor
  · intro q
    refine List.ext_getElem h fun i h1 h2 => ?_
    have := q i h1
    rw [getElem!_pos l i h1, getElem!_pos m i h2] at this
    exact this
  · rintro rfl i _; rfl

set_option maxRecDepth 20000 in
set_option maxHeartbeats 4000000 in
theorem eqNums_at {w : World} {B1 B2 : Nat} {v u : Value} {l m : List Nat} (h1 : ListU w B1 v l) (h2 : ListU w B2 u m) (hl : l.length ≤ 1000000) :
    Calls Try.prog 23 #[v, u] w fun e w' => e = .returned (.bool (decide (l = m))) ∧ Chg [] w w' := by
  have len1 : ∃ a c, v = .slice a l.length c := by
    rcases h1 with ⟨q, e⟩ | ⟨_, g, c, e, _⟩
    · exact ⟨none, 0, by rw [e, q]; rfl⟩
    · exact ⟨_, c, e⟩
  have len2 : ∃ a c, u = .slice a m.length c := by
    rcases h2 with ⟨q, e⟩ | ⟨_, g, c, e, _⟩
    · exact ⟨none, 0, by rw [e, q]; rfl⟩
    · exact ⟨_, c, e⟩
  obtain ⟨a1, k1, rfl⟩ := len1
  obtain ⟨a2, k2, rfl⟩ := len2
  by_cases hlm : l.length = m.length
  · obtain ⟨n, hn⟩ : ∃ n, n = l.length := ⟨_, rfl⟩
    have Hlm := Lib.hid hlm
    have Hn := Lib.hid hn
    have hn6 : n ≤ 1000000 := by omega
    have H1 := Lib.hid h1
    have H2 := Lib.hid h2
    rw [← hlm, ← hn]
    clear h1 h2 hlm hl
    have q : ((n : Int) == (n : Int)) = true := by simp
    clear hn q
    go_enter Try.func23, Try.ntmps23
    go_wp2_with fail
    go_loopg [5] n (fun gg s wr => s = .int .i64 (gg : Int) ∧ gg ≤ n ∧ Hid (Chg [] w wr ∧ ∀ i, gg ≤ i → i < n → l[i]! = m[i]!))
    case atStart => exact ⟨rfl, Nat.le_refl _, ⟨Chg.refl _ _, fun i h1 h2 => by omega⟩⟩
    case round =>
      obtain ⟨rfl, hgn, hX⟩ := hrel
      cases gk with
      | zero =>
        go_wp2_with fail
        go_ret
        refine ⟨?_, hX.out.1⟩
        have : l = m := (eqList_iff l m Hlm.out).1 (fun i hi => hX.out.2 i (Nat.zero_le _) (by rw [Hn.out]; exact hi))
        rw [decide_eq_true this]; rfl
      | succ k =>
        have hl0 : l ≠ [] := fun e => by have := Hn.out; rw [e] at this; simp at this; omega
        have hm0 : m ≠ [] := fun e => by have := Hn.out; have h2 := Hlm.out; rw [e] at h2; simp at h2; rw [this, h2] at hgn; simp at hgn
        obtain ⟨g1, b1, e1, _, cl⟩ := H1.out.cell hl0
        obtain ⟨g2, b2, e2, _, cm⟩ := H2.out.cell hm0
        injection e1 with e1a e1b e1c
        injection e2 with e2a e2b e2c
        subst e1a; subst e2a
        have hg1 : g1 < w.heap.size := by
          rcases H1.out with ⟨q, _⟩ | ⟨_, g, c, e, _, _, h5⟩
          · exact absurd q hl0
          · injection e with ea _ _; injection ea with ea; injection ea with ea; rw [ea]; exact h5.lt
        have hg2 : g2 < w.heap.size := by
          rcases H2.out with ⟨q, _⟩ | ⟨_, g, c, e, _, _, h5⟩
          · exact absurd q hm0
          · injection e with ea _ _; injection ea with ea; injection ea with ea; rw [ea]; exact h5.lt
        obtain ⟨x, hx⟩ : ∃ x, x = l[k]! := ⟨_, rfl⟩
        obtain ⟨y, hy⟩ : ∃ y, y = m[k]! := ⟨_, rfl⟩
        have c1 := (hX.out.1.cell (p := ⟨g1, k, none⟩) hg1 (by simp)).trans (cl k (by have := Hn.out; omega))
        have c2 := (hX.out.1.cell (p := ⟨g2, k, none⟩) hg2 (by simp)).trans (cm k (by have := Hn.out; have := Hlm.out; omega))
        rw [← hx] at c1
        rw [← hy] at c2
        have Hx := Lib.hid hx
        have Hy := Lib.hid hy
        clear hx hy cl cm e1b e1c e2b e2c hl0 hm0 hg1 hg2
        have i1 : (k : Int) < (n : Int) := by omega
        have i2 : ((k + 1 : Nat) : Int) > 0 := by omega
        by_cases hxy : x = y
        · subst hxy
          go_wp2_with fail
          go_quiet (fail)
          go_wp2_with fail
          go_roundg k
          case measure => omega
          case rel =>
            refine ⟨by go_num, by omega, ⟨hX.out.1.drewN _, fun i hi hin => ?_⟩⟩
            by_cases e : i = k
            · rw [e, ← Hx.out, ← Hy.out]
            · exact hX.out.2 i (by omega) hin
        · have hne : ((x : Int) == (y : Int)) = false := by simp; omega
          have hne' : ((x : Int) != (y : Int)) = true := by simp; omega
          have HNE : Hid (l ≠ m) := Lib.hid (fun e => hxy (by rw [Hx.out, Hy.out, e]))
          go_wp2_with fail
          go_quiet (fail)
          go_wp2_with fail
          go_ret
          exact ⟨by rw [decide_eq_false HNE.out]; rfl, hX.out.1.drewN _⟩
  · have hb : ((l.length : Int) == (m.length : Int)) = false := by simp; omega
    have hb' : ((l.length : Int) != (m.length : Int)) = true := by simp; omega
    have HNE : Hid (l ≠ m) := Lib.hid (fun e => hlm (by rw [e]))
    clear h1 h2
    go_enter Try.func23, Try.ntmps23
    go_wp2_with fail
    go_ret
    exact ⟨by rw [decide_eq_false HNE.out]; rfl, Chg.refl _ _⟩

end Go.Proofs.Ytbejcmbdaoakbaa
/- Plain laws on states: what trim and write leave, and what is read then. -/
namespace Go.Proofs.Ytbejcmbdaoakbaa
open Go.RowKit Go.Sort Go.Maps
set_option linter.unusedVariables false
set_option linter.unusedSimpArgs false

/-- What a volume is like. -/
def GoodV (D : VD) : Prop := Canon D ∧ ∀ k, has D k = true → ∃ n, n < 18446744073709551616 ∧ k = kU n
theorem good_of {N : Nat} {L : List Nat} {w : World} {p : Nat} {S : St} (h : MdAt N L w p S) {k : Lit} {D : VD} (hk : S.vols k = some D) : GoodV D := by
  obtain ⟨mb, D0, C, hp, M⟩ := h
  rw [M.vols] at hk
  cases hh : has D0 k with
  | false => rw [hh] at hk; cases hk
  | true =>
    rw [hh] at hk
    injection hk with hk
    subst hk
    have hO := (M.vol k hh).2.2
    exact ⟨hO.canon KU, fun k' hk' => by
      obtain ⟨v, hv⟩ := own_key hO KU hk'
      obtain ⟨x, _, hx, hlt⟩ := keyOf_U hv
      exact ⟨x, hlt, hx⟩⟩
theorem id_lt {N : Nat} {L : List Nat} {w : World} {p : Nat} {S : St} (h : MdAt N L w p S) {l : List Nat} (hl : IdList S l) : ∀ x, x ∈ l → x ≤ S.last ∧ x < 18446744073709551616 := fun x hx => by
  obtain ⟨mb, D0, C, hp, M⟩ := h
  have h1 := (hl.2 x).1 hx
  rw [M.vols] at h1
  cases hh : has D0 (kU x) with
  | false => rw [hh] at h1; cases h1
  | true =>
    obtain ⟨n, hn, e⟩ := M.low _ hh
    have := kU_inj e
    have := M.last
    omega
theorem size_lt {N : Nat} {L : List Nat} {w : World} {p : Nat} {S : St} (h : MdAt N L w p S) : S.size < 18446744073709551616 := by
  obtain ⟨mb, D0, C, hp, M⟩ := h
  exact M.size

/-- A volume's places are as many as its entries. -/
theorem pl_size {D : VD} (g : GoodV D) {l : List Nat} (hl : PlList (some D) l) : size D = l.length := by
  obtain ⟨⟨es, rfl, s, hk⟩, hn⟩ := g
  have ap := keys_apart s
  have e : (l.map kU).length = (es.map Prod.fst).length := by
    have hnd : (l.map kU).Pairwise (· ≠ ·) := List.pairwise_map.2 (hl.1.imp fun hab e => by have := kU_inj e; omega)
    refine Nat.le_antisymm (len_le_of_sub _ _ hnd fun x hx => ?_) (len_le_of_sub _ _ ap fun x hx => ?_)
    · obtain ⟨y, hy, rfl⟩ := List.mem_map.1 hx
      exact (has_mem hk).1 ((hl.2 y).1 hy)
    · have hx' := (has_mem hk).2 hx
      obtain ⟨n, _, rfl⟩ := hn x hx'
      exact List.mem_map.2 ⟨n, (hl.2 n).2 hx', rfl⟩
  simp only [List.length_map] at e
  exact e.symm
theorem pl_eq {V V' : Option VD} {l l' : List Nat} (h : PlList V l) (h' : PlList V' l') (e : ∀ x, plHas V x = plHas V' x) : l = l' := by
  have hp : l.Perm l' := (List.perm_ext_iff_of_nodup (h.1.imp (fun hab => by omega)) (h'.1.imp (fun hab => by omega))).2 fun x => by rw [h.2, h'.2, e]
  exact List.Perm.eq_of_pairwise (le := fun a b => a < b) (fun a b _ _ h1 h2 => by omega) h.1 h'.1 hp

/-! ### trim -/
/-- Is a place trimmed? -/
def inT (a n x : Nat) : Bool := decide (a ≤ x) && decide (x < a + n)
theorem pdT_kU (a n x : Nat) (d : VD) : pdT a n (kU x) d = inT a n x := by
  unfold pdT kU inT
  show (decide ((a : Int) ≤ (x : Int)) && decide ((x : Int) - (a : Int) < (n : Int))) = _
  congr 1
  · exact decide_eq_decide.2 (by omega)
  · exact decide_eq_decide.2 (by omega)
theorem has_trim {D : VD} (g : GoodV D) (a n x : Nat) : has (Lib.deleteFuncD (pdT a n) D) (kU x) = (has D (kU x) && !inT a n x) := by
  obtain ⟨⟨es, rfl, s, hk⟩, hn⟩ := g
  have hk' : ∀ p ∈ es.filter (fun p => !pdT a n p.1 p.2), WideAt.IsKeyLit p.1 := fun p hp => hk p (List.mem_filter.1 hp).1
  rw [Bool.eq_iff_iff]
  show has (.map (es.filter fun p => !pdT a n p.1 p.2)) (kU x) = true ↔ _
  rw [has_mem hk', Bool.and_eq_true, has_mem hk, Bool.not_eq_true']
  constructor
  · intro h
    obtain ⟨p, hp, e⟩ := List.mem_map.1 h
    obtain ⟨h1, h2⟩ := List.mem_filter.1 hp
    refine ⟨List.mem_map.2 ⟨p, h1, e⟩, ?_⟩
    rw [e, pdT_kU] at h2
    simpa using h2
  · rintro ⟨h1, h2⟩
    obtain ⟨p, hp, e⟩ := List.mem_map.1 h1
    refine List.mem_map.2 ⟨p, List.mem_filter.2 ⟨hp, ?_⟩, e⟩
    rw [e, pdT_kU, h2]
    rfl
theorem at_trim {D : VD} (g : GoodV D) {a n x : Nat} (hx : inT a n x = false) (z : VD) : (Lib.deleteFuncD (pdT a n) D).atKey (kU x) z = D.atKey (kU x) z := by
  have hh := has_trim g a n x
  rw [hx] at hh
  simp only [Bool.not_false, Bool.and_true] at hh
  cases hq : has D (kU x) with
  | false =>
    rw [hq] at hh
    rw [atKey_of_not_has hh, atKey_of_not_has hq]
  | true =>
    obtain ⟨⟨es, rfl, s, hk⟩, hn⟩ := g
    have ap := apart_of_rising s
    obtain ⟨p, hp, e⟩ := List.mem_map.1 ((has_mem hk).1 hq)
    have hpf : p ∈ es.filter (fun p => !pdT a n p.1 p.2) := List.mem_filter.2 ⟨hp, by rw [e, pdT_kU, hx]; rfl⟩
    show (DataW.map (es.filter fun p => !pdT a n p.1 p.2)).atKey (kU x) z = _
    rw [← e, WideAt.atKey_mem z (hk p hp) (ap.filter _) hpf, WideAt.atKey_mem z (hk p hp) ap hp]
theorem blk_trim {D : VD} (g : GoodV D) {a n x : Nat} (hx : inT a n x = false) : blkAt (Lib.deleteFuncD (pdT a n) D) x = blkAt D x := by
  unfold blkAt; rw [at_trim g hx]
theorem blk_none {D : VD} {x : Nat} (h : has D (kU x) = false) : blkAt D x = .agg zBlk := by
  unfold blkAt; rw [atKey_of_not_has h]
theorem pl_trim {D : VD} (g : GoodV D) {a n : Nat} {l l' : List Nat} (hl : PlList (some D) l) (hl' : PlList (some (Lib.deleteFuncD (pdT a n) D)) l') : l' = l.filter fun x => !inT a n x := by
  refine pl_eq hl' (V' := some (Lib.deleteFuncD (pdT a n) D)) ⟨hl.1.filter _, fun x => ?_⟩ (fun _ => rfl)
  rw [List.mem_filter, hl.2]
  show _ ↔ has (Lib.deleteFuncD (pdT a n) D) (kU x) = true
  rw [has_trim g, Bool.and_eq_true]
  rfl
theorem filter_split {α : Type} (p : α → Bool) : ∀ l : List α, l.length = (l.filter p).length + (l.filter fun x => !p x).length
  | [] => rfl
  | a :: r => by
    have := filter_split p r
    simp only [List.filter_cons, List.length_cons]
    cases p a <;> simp <;> omega
theorem cnt_trim {D : VD} {a n : Nat} (g : GoodV D) (g' : GoodV (Lib.deleteFuncD (pdT a n) D)) {l : List Nat} (hl : PlList (some D) l) : size D - size (Lib.deleteFuncD (pdT a n) D) = (l.filter (inT a n)).length ∧ size (Lib.deleteFuncD (pdT a n) D) = l.length - (l.filter (inT a n)).length := by
  have h1 := pl_size g hl
  have hl' : PlList (some (Lib.deleteFuncD (pdT a n) D)) (l.filter fun x => !inT a n x) := ⟨hl.1.filter _, fun x => by
    rw [List.mem_filter, hl.2]
    show _ ↔ has (Lib.deleteFuncD (pdT a n) D) (kU x) = true
    rw [has_trim g, Bool.and_eq_true]
    rfl⟩
  have h2 := pl_size g' hl'
  have h3 := filter_split (inT a n) l
  omega
/-- Trimmed again, nothing goes. -/
theorem trim_twice {D : VD} (a n : Nat) : Lib.deleteFuncD (pdT a n) (Lib.deleteFuncD (pdT a n) D) = Lib.deleteFuncD (pdT a n) D := by
  cases D <;> try rfl
  show DataW.map _ = DataW.map _
  congr 1
  rw [List.filter_filter]
  exact List.filter_congr fun p _ => by simp

theorem st_size (S : St) (o : Opn) : (stOf S o).size = S.size := by
  by_cases he : errOf S o = 0
  · rw [stOf_ok he]
    split; · rfl
    split; · rfl
    split; · rfl
    split; · rfl
    split <;> rfl
  · rw [st_err he]
theorem run_size (S : St) (z : Nat → Opn) : ∀ k, (runS S z k).size = S.size
  | 0 => rfl
  | k + 1 => by show (stOf (runS S z k) (z k)).size = _; rw [st_size, run_size S z k]

/-! ### what is read -/
theorem rd_err {S : St} {v q : Nat} {D : VD} (hv : S.vols (kU v) = some D) (hq : q < S.size) : errOf S (rdO v q) = 0 := by
  have h1 : ¬ S.size ≤ q := by omega
  unfold errOf rdO flagsOf wrongS
  simp [hv, h1]
theorem rd_rep {S : St} {v q : Nat} {D : VD} (hv : S.vols (kU v) = some D) (hq : q < S.size) : repOf S (rdO v q) = ⟨0, 0, 128, byteOf' (blkAt D q), 0⟩ := by
  rw [repOf_ok (rd_err hv hq)]
  show (⟨0, 0, 128, byteOf' (blkAt (S.volOf v) q), 0⟩ : Rep) = _
  have : S.volOf v = D := by
    have := volOf_some (S := S) (v := v) (by rw [hv]; rfl)
    rw [hv] at this
    injection this with this
    exact this.symm
  rw [this]
theorem rd_ok {S : St} {v q : Nat} {D : VD} (hv : S.vols (kU v) = some D) (hq : q < S.size) : rdOk S v q = true := by
  unfold rdOk; rw [rd_rep hv hq]; rfl

theorem volOf_is {S : St} {v : Nat} {D : VD} (hv : S.vols (kU v) = some D) : S.volOf v = D := by
  have := volOf_some (S := S) (v := v) (by rw [hv]; rfl)
  rw [hv] at this
  injection this with this
  exact this.symm
def trO (v a n : Nat) : Opn := ⟨6, v, a, n, 0, fun _ => 0⟩
theorem tr_err {S : St} {v a n : Nat} {D : VD} (hv : S.vols (kU v) = some D) : errOf S (trO v a n) = if a < S.size ∧ n ≤ S.size - a then 0 else 241 := by
  unfold errOf trO flagsOf wrongS
  by_cases h1 : a < S.size ∧ n ≤ S.size - a
  · have h2 : ¬ S.size ≤ a := by omega
    have h3 : ¬ S.size - a < n := by omega
    rw [if_pos h1]
    simp [hv, h2, h3]
  · rw [if_neg h1]
    have h2 : S.size ≤ a ∨ S.size - a < n := by omega
    simp [hv, h2]
theorem tr_st {S : St} {v a n : Nat} {D : VD} (hv : S.vols (kU v) = some D) (h : a < S.size ∧ n ≤ S.size - a) : stOf S (trO v a n) = S.setVol v (Lib.deleteFuncD (pdT a n) D) := by
  rw [stOf_ok (by rw [tr_err hv, if_pos h])]
  show S.setVol v (Lib.deleteFuncD (pdT a n) (S.volOf v)) = _
  rw [volOf_is hv]
theorem tr_rep {S : St} {v a n : Nat} {D : VD} (hv : S.vols (kU v) = some D) (h : a < S.size ∧ n ≤ S.size - a) : repOf S (trO v a n) = ⟨0, 0, 0, fun _ => 0, size D - size (Lib.deleteFuncD (pdT a n) D)⟩ := by
  rw [repOf_ok (by rw [tr_err hv, if_pos h])]
  show (⟨0, 0, 0, fun _ => 0, size (S.volOf v) - size (Lib.deleteFuncD (pdT a n) (S.volOf v))⟩ : Rep) = _
  rw [volOf_is hv]
theorem tr_bad {S : St} {v a n : Nat} {D : VD} (hv : S.vols (kU v) = some D) (h : ¬ (a < S.size ∧ n ≤ S.size - a)) : stOf S (trO v a n) = S ∧ repOf S (trO v a n) = ⟨241, 0, 0, fun _ => 0, 0⟩ := by
  have he : errOf S (trO v a n) = 241 := by rw [tr_err hv, if_neg h]
  exact ⟨st_err (by rw [he]; decide), by rw [rep_err (by rw [he]; decide), he]⟩
theorem tr_isOp (w : World) {v a n : Nat} (hv : v < 18446744073709551616) (ha : a < 18446744073709551616) (hn : n < 18446744073709551616) : IsOp w (opV 6 v a n (.slice none 0 0)) (trO v a n) :=
  ⟨none, 0, rfl, bytes_none, ⟨by show 6 ≤ 255; omega, hv, ha, hn, Nat.zero_le _⟩⟩
theorem set_vol {S : St} {v : Nat} {D : VD} : (S.setVol v D).vols (kU v) = some D := upd_same
theorem set_size {S : St} {v : Nat} {D : VD} : (S.setVol v D).size = S.size := rfl

theorem vol_size {N : Nat} {L : List Nat} {w : World} {p : Nat} {S : St} (h : MdAt N L w p S) {k : Lit} {D : VD} (hk : S.vols k = some D) : size D ≤ N := by
  obtain ⟨mb, D0, C, hp, M⟩ := h
  rw [M.vols] at hk
  cases hh : has D0 k with
  | false => rw [hh] at hk; cases hk
  | true =>
    rw [hh] at hk
    injection hk with hk
    subst hk
    exact (M.vol k hh).2.2.size_le
theorem takeF_succ {α : Type} [Inhabited α] (p : α → Bool) (l : List α) (k : Nat) (h : k < l.length) : ((l.take (k + 1)).filter p).length = ((l.take k).filter p).length + (if p l[k]! then 1 else 0) := by
  rw [List.take_succ_eq_append_getElem h, List.filter_append, List.length_append, getElem!_pos l k h]
  congr 1
  cases h : p l[k] <;> simp [List.filter_cons, h]

end Go.Proofs.Ytbejcmbdaoakbaa
/- Two models in hand, and blocks that are not theirs. -/
namespace Go.Proofs.Ytbejcmbdaoakbaa
open Go.RowKit Go.Sort Go.Maps
set_option linter.unusedVariables false
set_option linter.unusedSimpArgs false

structure Two24 (w wr : World) (p q : Nat) (X L M : List Nat) (a b : Nat) (S T : St) : Prop where
  m : MdAt a L wr p S
  q : MdAt b M wr q T
  ap : ∀ x, x ∈ L → x ∉ M
  nl : ∀ x, x ∈ L → w.heap.size ≤ x ∧ x ∉ X
  nm : ∀ x, x ∈ M → w.heap.size ≤ x ∧ x ∉ X
  xl : ∀ x, x ∈ X → x < wr.heap.size
  chg : Chg [] w wr
section
variable {w wr w' : World} {p q : Nat} {X L L' M M' : List Nat} {a a' b b' : Nat} {S S' T T' : St}
theorem Two24.step (h : Two24 w wr p q X L M a b S T) (c : Chg [] wr w') : Two24 w w' p q X L M a b S T :=
  { h with m := h.m.chg c (by simp), q := h.q.chg c (by simp), xl := fun x hx => Nat.lt_of_lt_of_le (h.xl x hx) c.size, chg := h.chg.trans c }
/-- The first one was asked, or changed. -/
theorem Two24.one (h : Two24 w wr p q X L M a b S T) (hM : MdAt a' L' w' p S') (hL : ∀ x, x ∈ L' → x ∈ L ∨ wr.heap.size ≤ x) (c : Chg L wr w') : Two24 w w' p q X L' M a' b S' T where
  m := hM
  q := h.q.chg c (fun x hx hl => h.ap x hl hx)
  ap := fun x hx hm => by
    rcases hL x hx with g | g
    · exact h.ap x g hm
    · have := h.q.lt x hm; omega
  nl := fun x hx => by
    rcases hL x hx with g | g
    · exact h.nl x g
    · exact ⟨Nat.le_trans h.chg.size g, fun hX => by have := h.xl x hX; omega⟩
  nm := h.nm
  xl := fun x hx => Nat.lt_of_lt_of_le (h.xl x hx) c.size
  chg := h.chg.then c (fun x hx => .inr (h.nl x hx).1)
/-- The second one was. -/
theorem Two24.two (h : Two24 w wr p q X L M a b S T) (hM : MdAt b' M' w' q T') (hL : ∀ x, x ∈ M' → x ∈ M ∨ wr.heap.size ≤ x) (c : Chg M wr w') : Two24 w w' p q X L M' a b' S T' where
  m := h.m.chg c (fun x hx hl => h.ap x hx hl)
  q := hM
  ap := fun x hx hm => by
    rcases hL x hm with g | g
    · exact h.ap x hx g
    · have := h.m.lt x hx; omega
  nl := h.nl
  nm := fun x hx => by
    rcases hL x hx with g | g
    · exact h.nm x g
    · exact ⟨Nat.le_trans h.chg.size g, fun hX => by have := h.xl x hX; omega⟩
  xl := fun x hx => Nat.lt_of_lt_of_le (h.xl x hx) c.size
  chg := h.chg.then c (fun x hx => .inr (h.nm x hx).1)
/-- What stands in the protected blocks stays. -/
theorem Two24.kept1 (h : Two24 w wr p q X L M a b S T) (c : Chg L wr w') {x : Nat} (hx : x ∈ X) : w'.heap[x]? = wr.heap[x]? := c.block x (h.xl x hx) (fun hl => (h.nl x hl).2 hx)
theorem Two24.kept2 (h : Two24 w wr p q X L M a b S T) (c : Chg M wr w') {x : Nat} (hx : x ∈ X) : w'.heap[x]? = wr.heap[x]? := c.block x (h.xl x hx) (fun hl => (h.nm x hl).2 hx)
theorem Two24.mono (h : Two24 w wr p q X L M a b S T) (ha : a ≤ a') (hb : b ≤ b') : Two24 w wr p q X L M a' b' S T := { h with m := h.m.mono ha, q := h.q.mono hb }
end

/-- read, at a place that there is. -/
theorem read_ok {N : Nat} {L : List Nat} {w : World} {p v q : Nat} {S : St} {D : VD} (h : MdAt N L w p S) (hN : N ≤ 1000000) (hv : v < 18446744073709551616) (hD : S.vols (kU v) = some D) (hq : q < S.size) :
    Calls Try.prog 26 #[.pointer (some ⟨p, 0, none⟩), .int .u64 (v : Int), .int .u64 (q : Int)] w fun e w' =>
      ∃ L' a c, e = .returned (.tuple #[.slice a 128 c, .bool true]) ∧ MdAt (N + 1) L' w' p S ∧ (∀ b, b ∈ L' → b ∈ L ∨ w.heap.size ≤ b) ∧ BytesIn w' a 128 c (byteOf' (blkAt D q)) ∧
        (∀ b, a = some b → w.heap.size ≤ b.block ∧ b.block ∉ L') ∧ Chg L w w' := by
  have c := read24_at h hN hv (q := q) (by have := size_lt h; omega)
  unfold ReadPost at c
  rw [rd_ok hD hq, rd_rep hD hq] at c
  exact c

end Go.Proofs.Ytbejcmbdaoakbaa
/- Plain laws of write. -/
namespace Go.Proofs.Ytbejcmbdaoakbaa
open Go.RowKit Go.Sort Go.Maps
set_option linter.unusedVariables false
set_option linter.unusedSimpArgs false

def wrO (v p : Nat) (f : Nat → Nat) : Opn := ⟨5, v, p, 0, 128, f⟩
def blkV (f : Nat → Nat) : VD := .held (.agg (u8s 128 f))
theorem wr_err {S : St} {v p : Nat} {f : Nat → Nat} {D : VD} (hv : S.vols (kU v) = some D) (hp : p < S.size) : errOf S (wrO v p f) = 0 := by
  have h1 : ¬ S.size ≤ p := by omega
  unfold errOf wrO flagsOf wrongS
  simp [hv, h1]
theorem wr_st {S : St} {v p : Nat} {f : Nat → Nat} {D : VD} (hv : S.vols (kU v) = some D) (hp : p < S.size) : stOf S (wrO v p f) = S.setVol v (D.put (kU p) (blkV f)) := by
  rw [stOf_ok (wr_err hv hp)]
  show S.setVol v ((S.volOf v).put (kU p) (.held (.agg (u8s 128 f)))) = _
  rw [volOf_is hv]; rfl
theorem wr_rep {S : St} {v p : Nat} {f : Nat → Nat} {D : VD} (hv : S.vols (kU v) = some D) (hp : p < S.size) : repOf S (wrO v p f) = ⟨0, 0, 0, fun _ => 0, 0⟩ := by
  rw [repOf_ok (wr_err hv hp)]
  rfl
theorem wr_isOp {w : World} {v p cap : Nat} {a : Option Addr} {f : Nat → Nat} (hv : v < 18446744073709551616) (hp : p < 18446744073709551616) (hb : BytesIn w a 128 cap f) : IsOp w (opV 5 v p 0 (.slice a 128 cap)) (wrO v p f) :=
  ⟨a, cap, rfl, hb, ⟨by show 5 ≤ 255; omega, hv, hp, by show 0 < 18446744073709551616; omega, by show 128 ≤ 9223372036854775807; omega⟩⟩

theorem canon_map {D : VD} (c : Canon D) : IsMap D := by obtain ⟨es, rfl, _⟩ := c; exact ⟨es, rfl⟩
theorem blk_put_same {D : VD} (c : Canon D) {p : Nat} {f : Nat → Nat} : blkAt (D.put (kU p) (blkV f)) p = .agg (u8s 128 f) := by
  unfold blkAt
  rw [atKey_put_same (canon_map c) (kU_is p)]
  rfl
theorem blk_put_other {D : VD} {p x : Nat} {f : Nat → Nat} (h : x ≠ p) : blkAt (D.put (kU p) (blkV f)) x = blkAt D x := by
  unfold blkAt
  rw [atKey_put_other (fun e => h (kU_inj e))]

/-- What stands at a place of a volume is a block. -/
theorem vol_blk {N : Nat} {L : List Nat} {w : World} {p : Nat} {S : St} (h : MdAt N L w p S) {k k' : Lit} {D : VD} (hk : S.vols k = some D) (hh : has D k' = true) : ∃ cs, D.atKey k' .nil = .held (.agg cs) ∧ isBlk (.agg cs) = true := by
  obtain ⟨mb, D0, C, hp, M⟩ := h
  rw [M.vols] at hk
  cases hq : has D0 k with
  | false => rw [hq] at hk; cases hk
  | true =>
    rw [hq] at hk
    injection hk with hk
    subst hk
    obtain ⟨v, ps, hv⟩ := own_at (M.vol k hq).2.2 KU hh
    obtain ⟨h1, _, h3⟩ := RB_inv hv
    obtain ⟨cs, rfl, _, _⟩ := isBlk_inv h3
    exact ⟨cs, h1, h3⟩
theorem u8s_of {n : Nat} {f : Nat → Nat} {cs : Array Value} (hs : cs.size = n) (h : ∀ i, i < n → cs[i]? = some (.int .u8 (f i : Int))) : u8s n f = cs := by
  refine Array.ext_getElem? fun i => ?_
  by_cases hi : i < n
  · rw [u8s_get hi, h i hi]
  · rw [Array.getElem?_eq_none (by rw [u8s_size]; omega), Array.getElem?_eq_none (by omega)]
theorem byte_of {cs : Array Value} {i : Nat} {v : Value} (h : cs[i]? = some v) (hu : isU8 v = true) : v = .int .u8 (byteOf' (.agg cs) i : Int) := by
  unfold byteOf'
  simp only [h]
  unfold isU8 at hu
  split at hu
  · rename_i n
    simp only [Bool.and_eq_true, decide_eq_true_eq] at hu
    have : ((n.toNat : Nat) : Int) = n := Int.toNat_of_nonneg hu.1
    rw [this]
  · cases hu
theorem blk_back {cs : Array Value} (h : isBlk (.agg cs) = true) : u8s 128 (byteOf' (.agg cs)) = cs := by
  unfold isBlk at h
  simp only [Bool.and_eq_true, decide_eq_true_eq] at h
  obtain ⟨hs, ha⟩ := h
  generalize 128 = n at hs
  refine u8s_of hs fun i hi => ?_
  have h2 : i < cs.size := by omega
  have hu : isU8 cs[i] = true := Array.all_eq_true.1 ha i h2
  have he := Array.getElem?_eq_getElem h2
  rw [he]
  exact congrArg some (byte_of he hu)

/-- Written as before: all is as it was just where there was a block. -/
theorem wr_back {N N' : Nat} {L L' : List Nat} {w w' : World} {p p' v q : Nat} {S : St} {D : VD} {f : Nat → Nat} (h : MdAt N L w p S) (hv : S.vols (kU v) = some D)
    (h' : MdAt N' L' w' p' ((S.setVol v (D.put (kU q) (blkV f))).setVol v ((D.put (kU q) (blkV f)).put (kU q) (blkV (byteOf' (blkAt D q)))))) :
    stEq ((S.setVol v (D.put (kU q) (blkV f))).setVol v ((D.put (kU q) (blkV f)).put (kU q) (blkV (byteOf' (blkAt D q))))) S = has D (kU q) := by
  have g := good_of h hv
  have g' := good_of h' (set_vol)
  obtain ⟨E, hE⟩ : ∃ E, E = (D.put (kU q) (blkV f)).put (kU q) (blkV (byteOf' (blkAt D q))) := ⟨_, rfl⟩
  have hm : IsMap (D.put (kU q) (blkV f)) := by
    obtain ⟨es, hes⟩ := canon_map g.1
    subst hes
    exact ⟨_, rfl⟩
  have hEq : has E (kU q) = true := by rw [hE]; exact has_put_same hm (kU_is q) _
  rw [← hE] at g' ⊢
  have e1 : stEq ((S.setVol v (D.put (kU q) (blkV f))).setVol v E) S = volsEq (upd (upd S.vols (kU v) (some (D.put (kU q) (blkV f)))) (kU v) (some E)) S.vols := by
    unfold stEq St.setVol
    simp
  rw [e1, Bool.eq_iff_iff, volsEq_iff]
  constructor
  · intro hq
    have := congrFun hq (kU v)
    rw [upd_same, hv] at this
    injection this with this
    rw [← this]; exact hEq
  · intro hh
    funext k
    by_cases hk : k = kU v
    · subst hk
      rw [upd_same, hv]
      congr 1
      refine Maps.ext g'.1 g.1 (fun k => ?_) (fun k z hk => ?_)
      · by_cases e : k = kU q
        · rw [e, hEq, hh]
        · rw [hE, has_put_other e, has_put_other e]
      · by_cases e : k = kU q
        · subst e
          rw [hE, atKey_put_same hm (kU_is q)]
          obtain ⟨cs, hcs, hb⟩ := vol_blk h hv hh
          rw [Maps.atKey_indep hh z .nil, hcs]
          have : blkAt D q = .agg cs := by unfold blkAt; rw [Maps.atKey_indep hh _ .nil, hcs]
          rw [this]
          unfold blkV
          rw [blk_back hb]
        · rw [hE, atKey_put_other e, atKey_put_other e]
    · rw [upd_other hk, upd_other hk]

theorem bytes_same {w w' : World} {k o n cap : Nat} {f : Nat → Nat} (h : BytesIn w (some ⟨k, o, none⟩) n cap f) (e : w'.heap[k]? = w.heap[k]?) : BytesIn w' (some ⟨k, o, none⟩) n cap f := by
  refine ⟨h.1, h.2.1, h.2.2.1, fun b hb h0 => ?_⟩
  obtain ⟨k', o', e', hB⟩ := h.2.2.2 b hb h0
  refine ⟨k', o', e', fun i hi => ?_⟩
  have hk : k' = k := by injection hb with hb; rw [e'] at hb; injection hb with hb; exact hb.symm
  obtain ⟨h1, h2⟩ := hB i hi
  refine ⟨?_, h2⟩
  rw [← h1, hk]
  simp only [World.cell?, e]
theorem listU_same {w w' : World} {B g c : Nat} {l : List Nat} (h : ListU w B (.slice (some ⟨g, 0, none⟩) l.length c) l) (hl : l ≠ []) (e : w'.heap[g]? = w.heap[g]?) : ∀ i, i < l.length → w'.cell? ⟨g, i, none⟩ = some (.int .u64 ((l[i]! : Nat) : Int)) := by
  obtain ⟨g', c', e', _, hc⟩ := h.cell hl
  injection e' with ea _ _
  injection ea with ea
  injection ea with ea
  intro i hi
  have := hc i hi
  rw [← ea] at this
  rw [← this]
  simp only [World.cell?, e]
theorem quiet_size {N : Nat} {L : List Nat} {w : World} {p : Nat} {S : St} (h : MdAt N L w p S) {m : Nat} (hm : S.size = m) (n : Nat) :
    Calls Try.prog 21 #[.pointer (some ⟨p, 0, none⟩)] (w.drewN n) fun e w' => e = .returned (.int .u64 (m : Int)) ∧ ∃ k, w' = w.drewN k :=
  (size_at (h.chg (Chg.drewN (Chg.refl [] w) n) (by simp))).mono fun e w' ⟨he, hw⟩ => ⟨by rw [he, hm], n, hw.symm⟩

theorem listU_ge {w : World} {B g c : Nat} {l : List Nat} (h : ListU w B (.slice (some ⟨g, 0, none⟩) l.length c) l) (hl : l ≠ []) : B ≤ g := by
  rcases h with ⟨h, _⟩ | ⟨_, g', c', e, _, hb, _⟩
  · exact absurd h hl
  · injection e with ea _ _
    injection ea with ea
    injection ea with ea
    omega
theorem bytes_some {w : World} {a : Option Addr} {n c : Nat} {f : Nat → Nat} (h : BytesIn w a n c f) (hn : 0 < n) : ∃ k o, a = some ⟨k, o, none⟩ ∧ k < w.heap.size := by
  cases a with
  | none => have := (h.2.2.1 rfl).1; omega
  | some b =>
    obtain ⟨k, o, rfl, hB⟩ := h.2.2.2 b rfl hn
    exact ⟨k, o, rfl, World.block_lt_of_cell? w _ (hB 0 hn).1⟩
theorem Two24.guard {w wr : World} {p q : Nat} {X Y L M : List Nat} {a b : Nat} {S T : St} (h : Two24 w wr p q X L M a b S T) (hY : ∀ x, x ∈ Y → x ∈ X ∨ (x ∉ L ∧ x ∉ M ∧ x < wr.heap.size)) : Two24 w wr p q Y L M a b S T :=
  { h with
    nl := fun x hx => ⟨(h.nl x hx).1, fun hy => by rcases hY x hy with g | g; exact (h.nl x hx).2 g; exact g.1 hx⟩
    nm := fun x hx => ⟨(h.nm x hx).1, fun hy => by rcases hY x hy with g | g; exact (h.nm x hx).2 g; exact g.2.1 hx⟩
    xl := fun x hx => by rcases hY x hx with g | g; exact h.xl x g; exact g.2.2 }
/-- What the states say at a volume and a place, behind a write. -/
theorem wr_vols {S : St} {vol pq id : Nat} {D D0 : VD} {f : Nat → Nat} (hD : S.vols (kU vol) = some D) (h0 : S.vols (kU id) = some D0) (c : Canon D) :
    ∃ D1, (S.setVol vol (D.put (kU pq) (blkV f))).vols (kU id) = some D1 ∧ (id = vol → blkAt D1 pq = .agg (u8s 128 f)) ∧ ∀ k, ¬ (id = vol ∧ k = pq) → blkAt D1 k = blkAt D0 k := by
  by_cases e : id = vol
  · subst e
    rw [hD] at h0
    injection h0 with h0
    subst h0
    exact ⟨_, set_vol, fun _ => blk_put_same c, fun k hk => blk_put_other (fun e => hk ⟨rfl, e⟩)⟩
  · refine ⟨D0, ?_, fun e' => absurd e' e, fun k _ => rfl⟩
    show upd S.vols (kU vol) _ (kU id) = _
    rw [upd_other (fun q => e (kU_inj q)), h0]
theorem take_mem {l : List Nat} {x k : Nat} (h : k < l.length) : decide (x ∈ l.take (k + 1)) = (decide (x ∈ l.take k) || decide (l[k]! = x)) := by
  rw [List.take_succ_eq_append_getElem h, getElem!_pos l k h, Bool.eq_iff_iff]
  simp only [decide_eq_true_eq, Bool.or_eq_true, List.mem_append, List.mem_singleton]
  constructor
  · rintro (h | h); exact .inl h; exact .inr h.symm
  · rintro (h | h); exact .inl h; exact .inr h.symm

end Go.Proofs.Ytbejcmbdaoakbaa
/- Plain laws of snap. -/
namespace Go.Proofs.Ytbejcmbdaoakbaa
open Go.RowKit Go.Sort Go.Maps
set_option linter.unusedVariables false
set_option linter.unusedSimpArgs false

theorem st_last (S : St) (o : Opn) : S.last ≤ (stOf S o).last ∧ (stOf S o).last ≤ S.last + 1 := by
  by_cases he : errOf S o = 0
  · rw [stOf_ok he]
    split; · exact ⟨Nat.le_succ _, Nat.le_refl _⟩
    split; · exact ⟨Nat.le_refl _, Nat.le_succ _⟩
    split; · exact ⟨Nat.le_succ _, Nat.le_refl _⟩
    split; · exact ⟨Nat.le_refl _, Nat.le_succ _⟩
    split <;> exact ⟨Nat.le_refl _, Nat.le_succ _⟩
  · rw [st_err he]; exact ⟨Nat.le_refl _, Nat.le_succ _⟩
theorem run_last (S : St) (z : Nat → Opn) : ∀ k, (runS S z k).last ≤ S.last + k
  | 0 => Nat.le_refl _
  | k + 1 => by
    have h1 := run_last S z k
    have h2 := (st_last (runS S z k) (z k)).2
    show (stOf (runS S z k) (z k)).last ≤ _
    omega

def snO (v : Nat) : Opn := ⟨3, v, 0, 0, 0, fun _ => 0⟩
theorem sn_err {S : St} {v : Nat} {D : VD} (hv : S.vols (kU v) = some D) (hl : S.last < 18446744073709551615) : errOf S (snO v) = 0 := by
  have h1 : ¬ S.last = 18446744073709551615 := by omega
  unfold errOf snO flagsOf wrongS
  simp [hv, h1]
theorem sn_st {S : St} {v : Nat} {D : VD} (hv : S.vols (kU v) = some D) (hl : S.last < 18446744073709551615) : stOf S (snO v) = S.made D := by
  rw [stOf_ok (sn_err hv hl)]
  show S.made (S.volOf v) = _
  rw [volOf_is hv]
theorem sn_rep {S : St} {v : Nat} {D : VD} (hv : S.vols (kU v) = some D) (hl : S.last < 18446744073709551615) : repOf S (snO v) = ⟨0, S.last + 1, 0, fun _ => 0, 0⟩ := by
  rw [repOf_ok (sn_err hv hl)]
  rfl
theorem sn_isOp (w : World) {v : Nat} (hv : v < 18446744073709551616) : IsOp w (opV 3 v 0 0 (.slice none 0 0)) (snO v) :=
  ⟨none, 0, rfl, bytes_none, ⟨by show 3 ≤ 255; omega, hv, by show 0 < 18446744073709551616; omega, by show 0 < 18446744073709551616; omega, Nat.zero_le _⟩⟩
theorem made_vol (S : St) (D : VD) : (S.made D).vols (kU (S.last + 1)) = some D := upd_same
theorem made_size (S : St) (D : VD) : (S.made D).size = S.size := rfl
theorem made_last (S : St) (D : VD) : (S.made D).last = S.last + 1 := rfl

theorem id_eq {S : St} {l l' : List Nat} (h : IdList S l) (h' : IdList S l') : l = l' := by
  have hp : l.Perm l' := (List.perm_ext_iff_of_nodup (h.1.imp (fun hab => by omega)) (h'.1.imp (fun hab => by omega))).2 fun x => by rw [h.2, h'.2]
  exact List.Perm.eq_of_pairwise (le := fun a b => a < b) (fun a b _ _ h1 h2 => by omega) h.1 h'.1 hp
/-- One number more. -/
theorem made_ids {S : St} {D : VD} {l l' : List Nat} (h : IdList S l) (hle : ∀ x, x ∈ l → x ≤ S.last) (h' : IdList (S.made D) l') : l'.length = l.length + 1 := by
  have : l' = l ++ [S.last + 1] := id_eq h' ⟨List.pairwise_append.2 ⟨h.1, List.pairwise_singleton _ _, fun a ha b hb => by simp at hb; have := hle a ha; omega⟩, fun x => by
    simp only [List.mem_append, List.mem_singleton]
    by_cases e : x = S.last + 1
    · subst e; rw [made_vol]; simp
    · have : (S.made D).vols (kU x) = S.vols (kU x) := upd_other (fun q => e (kU_inj q))
      rw [this, ← h.2 x]
      simp [e]⟩
  rw [this]; simp

/-- A volume that nobody names stays as it is. -/
theorem keep_vol {T : St} {o : Opn} {rv : Nat} {D : VD} (h : T.vols (kU rv) = some D) (hl : rv ≤ T.last) (hne : o.vol ≠ rv) : (stOf T o).vols (kU rv) = some D := by
  have n1 : kU rv ≠ kU (T.last + 1) := fun e => by have := kU_inj e; omega
  have n2 : kU rv ≠ kU o.vol := fun e => hne (kU_inj e).symm
  by_cases he : errOf T o = 0
  · rw [stOf_ok he]
    split; · exact (upd_other n1).trans h
    split; · exact (upd_other n2).trans h
    split; · exact (upd_other n1).trans h
    split; · exact (upd_other n2).trans h
    split; · exact (upd_other n2).trans h
    exact h
  · rw [st_err he]; exact h
theorem rep_new {T : St} {o : Opn} (he : (repOf T o).err = 0) (hc : o.code = 1 ∨ o.code = 3) : (repOf T o).vol = T.last + 1 := by
  have h0 : errOf T o = 0 := by rw [← rep_errf]; exact he
  rw [repOf_ok h0, if_pos hc]

end Go.Proofs.Ytbejcmbdaoakbaa
