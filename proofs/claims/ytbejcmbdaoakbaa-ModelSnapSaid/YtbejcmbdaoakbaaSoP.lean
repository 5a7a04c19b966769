/- Plain laws on states: what trim and write leave, and what is read then. -/
import Derived.Test.YtbejcmbdaoakbaaSoM
namespace Go.Proofs.Ytbejcmbdaoakbaa
open Go.RowKit Go.Sort Go.Maps
set_option linter.unusedVariables false
set_option linter.unusedSimpArgs false

/-- What a volume is like. -/
def GoodV (D : VD) : Prop := Canon D ∧ ∀ k, has D k = true → ∃ n, n < 18446744073709551616 ∧ k = kU n
theorem good_of {N : Nat} {L : List Nat} {w : World} {p : Nat} {S : St} (h : MdAt N L w p S) {k : Lit} {D : VD} (hk : S.vols k = some D) : GoodV D := by
  obtain ⟨mb, D0, C, hp, M⟩ := h
  rw [M.vols] at hk
  cases hh : has D0 k with
  | false => rw [hh] at hk; cases hk
  | true =>
    rw [hh] at hk
    injection hk with hk
    subst hk
    have hO := (M.vol k hh).2.2
    exact ⟨hO.canon KU, fun k' hk' => by
      obtain ⟨v, hv⟩ := own_key hO KU hk'
      obtain ⟨x, _, hx, hlt⟩ := keyOf_U hv
      exact ⟨x, hlt, hx⟩⟩
theorem id_lt {N : Nat} {L : List Nat} {w : World} {p : Nat} {S : St} (h : MdAt N L w p S) {l : List Nat} (hl : IdList S l) : ∀ x, x ∈ l → x ≤ S.last ∧ x < 18446744073709551616 := fun x hx => by
  obtain ⟨mb, D0, C, hp, M⟩ := h
  have h1 := (hl.2 x).1 hx
  rw [M.vols] at h1
  cases hh : has D0 (kU x) with
  | false => rw [hh] at h1; cases h1
  | true =>
    obtain ⟨n, hn, e⟩ := M.low _ hh
    have := kU_inj e
    have := M.last
    omega
theorem size_lt {N : Nat} {L : List Nat} {w : World} {p : Nat} {S : St} (h : MdAt N L w p S) : S.size < 18446744073709551616 := by
  obtain ⟨mb, D0, C, hp, M⟩ := h
  exact M.size

/-- A volume's places are as many as its entries. -/
theorem pl_size {D : VD} (g : GoodV D) {l : List Nat} (hl : PlList (some D) l) : size D = l.length := by
  obtain ⟨⟨es, rfl, s, hk⟩, hn⟩ := g
  have ap := keys_apart s
  have e : (l.map kU).length = (es.map Prod.fst).length := by
    have hnd : (l.map kU).Pairwise (· ≠ ·) := List.pairwise_map.2 (hl.1.imp fun hab e => by have := kU_inj e; omega)
    refine Nat.le_antisymm (len_le_of_sub _ _ hnd fun x hx => ?_) (len_le_of_sub _ _ ap fun x hx => ?_)
    · obtain ⟨y, hy, rfl⟩ := List.mem_map.1 hx
      exact (has_mem hk).1 ((hl.2 y).1 hy)
    · have hx' := (has_mem hk).2 hx
      obtain ⟨n, _, rfl⟩ := hn x hx'
      exact List.mem_map.2 ⟨n, (hl.2 n).2 hx', rfl⟩
  simp only [List.length_map] at e
  exact e.symm
theorem pl_eq {V V' : Option VD} {l l' : List Nat} (h : PlList V l) (h' : PlList V' l') (e : ∀ x, plHas V x = plHas V' x) : l = l' := by
  have hp : l.Perm l' := (List.perm_ext_iff_of_nodup (h.1.imp (fun hab => by omega)) (h'.1.imp (fun hab => by omega))).2 fun x => by rw [h.2, h'.2, e]
  exact List.Perm.eq_of_pairwise (le := fun a b => a < b) (fun a b _ _ h1 h2 => by omega) h.1 h'.1 hp

/-! ### trim -/
/-- Is a place trimmed? -/
def inT (a n x : Nat) : Bool := decide (a ≤ x) && decide (x < a + n)
theorem pdT_kU (a n x : Nat) (d : VD) : pdT a n (kU x) d = inT a n x := by
  unfold pdT kU inT
  show (decide ((a : Int) ≤ (x : Int)) && decide ((x : Int) - (a : Int) < (n : Int))) = _
  congr 1
  · exact decide_eq_decide.2 (by omega)
  · exact decide_eq_decide.2 (by omega)
theorem has_trim {D : VD} (g : GoodV D) (a n x : Nat) : has (Lib.deleteFuncD (pdT a n) D) (kU x) = (has D (kU x) && !inT a n x) := by
  obtain ⟨⟨es, rfl, s, hk⟩, hn⟩ := g
  have hk' : ∀ p ∈ es.filter (fun p => !pdT a n p.1 p.2), WideAt.IsKeyLit p.1 := fun p hp => hk p (List.mem_filter.1 hp).1
  rw [Bool.eq_iff_iff]
  show has (.map (es.filter fun p => !pdT a n p.1 p.2)) (kU x) = true ↔ _
  rw [has_mem hk', Bool.and_eq_true, has_mem hk, Bool.not_eq_true']
  constructor
  · intro h
    obtain ⟨p, hp, e⟩ := List.mem_map.1 h
    obtain ⟨h1, h2⟩ := List.mem_filter.1 hp
    refine ⟨List.mem_map.2 ⟨p, h1, e⟩, ?_⟩
    rw [e, pdT_kU] at h2
    simpa using h2
  · rintro ⟨h1, h2⟩
    obtain ⟨p, hp, e⟩ := List.mem_map.1 h1
    refine List.mem_map.2 ⟨p, List.mem_filter.2 ⟨hp, ?_⟩, e⟩
    rw [e, pdT_kU, h2]
    rfl
theorem at_trim {D : VD} (g : GoodV D) {a n x : Nat} (hx : inT a n x = false) (z : VD) : (Lib.deleteFuncD (pdT a n) D).atKey (kU x) z = D.atKey (kU x) z := by
  have hh := has_trim g a n x
  rw [hx] at hh
  simp only [Bool.not_false, Bool.and_true] at hh
  cases hq : has D (kU x) with
  | false =>
    rw [hq] at hh
    rw [atKey_of_not_has hh, atKey_of_not_has hq]
  | true =>
    obtain ⟨⟨es, rfl, s, hk⟩, hn⟩ := g
    have ap := apart_of_rising s
    obtain ⟨p, hp, e⟩ := List.mem_map.1 ((has_mem hk).1 hq)
    have hpf : p ∈ es.filter (fun p => !pdT a n p.1 p.2) := List.mem_filter.2 ⟨hp, by rw [e, pdT_kU, hx]; rfl⟩
    show (DataW.map (es.filter fun p => !pdT a n p.1 p.2)).atKey (kU x) z = _
    rw [← e, WideAt.atKey_mem z (hk p hp) (ap.filter _) hpf, WideAt.atKey_mem z (hk p hp) ap hp]
theorem blk_trim {D : VD} (g : GoodV D) {a n x : Nat} (hx : inT a n x = false) : blkAt (Lib.deleteFuncD (pdT a n) D) x = blkAt D x := by
  unfold blkAt; rw [at_trim g hx]
theorem blk_none {D : VD} {x : Nat} (h : has D (kU x) = false) : blkAt D x = .agg zBlk := by
  unfold blkAt; rw [atKey_of_not_has h]
theorem pl_trim {D : VD} (g : GoodV D) {a n : Nat} {l l' : List Nat} (hl : PlList (some D) l) (hl' : PlList (some (Lib.deleteFuncD (pdT a n) D)) l') : l' = l.filter fun x => !inT a n x := by
  refine pl_eq hl' (V' := some (Lib.deleteFuncD (pdT a n) D)) ⟨hl.1.filter _, fun x => ?_⟩ (fun _ => rfl)
  rw [List.mem_filter, hl.2]
  show _ ↔ has (Lib.deleteFuncD (pdT a n) D) (kU x) = true
  rw [has_trim g, Bool.and_eq_true]
  rfl
theorem filter_split {α : Type} (p : α → Bool) : ∀ l : List α, l.length = (l.filter p).length + (l.filter fun x => !p x).length
  | [] => rfl
  | a :: r => by
    have := filter_split p r
    simp only [List.filter_cons, List.length_cons]
    cases p a <;> simp <;> omega
theorem cnt_trim {D : VD} {a n : Nat} (g : GoodV D) (g' : GoodV (Lib.deleteFuncD (pdT a n) D)) {l : List Nat} (hl : PlList (some D) l) : size D - size (Lib.deleteFuncD (pdT a n) D) = (l.filter (inT a n)).length ∧ size (Lib.deleteFuncD (pdT a n) D) = l.length - (l.filter (inT a n)).length := by
  have h1 := pl_size g hl
  have hl' : PlList (some (Lib.deleteFuncD (pdT a n) D)) (l.filter fun x => !inT a n x) := ⟨hl.1.filter _, fun x => by
    rw [List.mem_filter, hl.2]
    show _ ↔ has (Lib.deleteFuncD (pdT a n) D) (kU x) = true
    rw [has_trim g, Bool.and_eq_true]
    rfl⟩
  have h2 := pl_size g' hl'
  have h3 := filter_split (inT a n) l
  omega
/-- Trimmed again, nothing goes. -/
theorem trim_twice {D : VD} (a n : Nat) : Lib.deleteFuncD (pdT a n) (Lib.deleteFuncD (pdT a n) D) = Lib.deleteFuncD (pdT a n) D := by
  cases D <;> try rfl
  show DataW.map _ = DataW.map _
  congr 1
  rw [List.filter_filter]
  exact List.filter_congr fun p _ => by simp

theorem st_size (S : St) (o : Opn) : (stOf S o).size = S.size := by
  by_cases he : errOf S o = 0
  · rw [stOf_ok he]
    split; · rfl
    split; · rfl
    split; · rfl
    split; · rfl
    split <;> rfl
  · rw [st_err he]
theorem run_size (S : St) (z : Nat → Opn) : ∀ k, (runS S z k).size = S.size
  | 0 => rfl
  | k + 1 => by show (stOf (runS S z k) (z k)).size = _; rw [st_size, run_size S z k]

/-! ### what is read -/
theorem rd_err {S : St} {v q : Nat} {D : VD} (hv : S.vols (kU v) = some D) (hq : q < S.size) : errOf S (rdO v q) = 0 := by
  have h1 : ¬ S.size ≤ q := by omega
  unfold errOf rdO flagsOf wrongS
  simp [hv, h1]
theorem rd_rep {S : St} {v q : Nat} {D : VD} (hv : S.vols (kU v) = some D) (hq : q < S.size) : repOf S (rdO v q) = ⟨0, 0, 128, byteOf' (blkAt D q), 0⟩ := by
  rw [repOf_ok (rd_err hv hq)]
  show (⟨0, 0, 128, byteOf' (blkAt (S.volOf v) q), 0⟩ : Rep) = _
  have : S.volOf v = D := by
    have := volOf_some (S := S) (v := v) (by rw [hv]; rfl)
    rw [hv] at this
    injection this with this
    exact this.symm
  rw [this]
theorem rd_ok {S : St} {v q : Nat} {D : VD} (hv : S.vols (kU v) = some D) (hq : q < S.size) : rdOk S v q = true := by
  unfold rdOk; rw [rd_rep hv hq]; rfl

theorem volOf_is {S : St} {v : Nat} {D : VD} (hv : S.vols (kU v) = some D) : S.volOf v = D := by
  have := volOf_some (S := S) (v := v) (by rw [hv]; rfl)
  rw [hv] at this
  injection this with this
  exact this.symm
def trO (v a n : Nat) : Opn := ⟨6, v, a, n, 0, fun _ => 0⟩
theorem tr_err {S : St} {v a n : Nat} {D : VD} (hv : S.vols (kU v) = some D) : errOf S (trO v a n) = if a < S.size ∧ n ≤ S.size - a then 0 else 241 := by
  unfold errOf trO flagsOf wrongS
  by_cases h1 : a < S.size ∧ n ≤ S.size - a
  · have h2 : ¬ S.size ≤ a := by omega
    have h3 : ¬ S.size - a < n := by omega
    rw [if_pos h1]
    simp [hv, h2, h3]
  · rw [if_neg h1]
    have h2 : S.size ≤ a ∨ S.size - a < n := by omega
    simp [hv, h2]
theorem tr_st {S : St} {v a n : Nat} {D : VD} (hv : S.vols (kU v) = some D) (h : a < S.size ∧ n ≤ S.size - a) : stOf S (trO v a n) = S.setVol v (Lib.deleteFuncD (pdT a n) D) := by
  rw [stOf_ok (by rw [tr_err hv, if_pos h])]
  show S.setVol v (Lib.deleteFuncD (pdT a n) (S.volOf v)) = _
  rw [volOf_is hv]
theorem tr_rep {S : St} {v a n : Nat} {D : VD} (hv : S.vols (kU v) = some D) (h : a < S.size ∧ n ≤ S.size - a) : repOf S (trO v a n) = ⟨0, 0, 0, fun _ => 0, size D - size (Lib.deleteFuncD (pdT a n) D)⟩ := by
  rw [repOf_ok (by rw [tr_err hv, if_pos h])]
  show (⟨0, 0, 0, fun _ => 0, size (S.volOf v) - size (Lib.deleteFuncD (pdT a n) (S.volOf v))⟩ : Rep) = _
  rw [volOf_is hv]
theorem tr_bad {S : St} {v a n : Nat} {D : VD} (hv : S.vols (kU v) = some D) (h : ¬ (a < S.size ∧ n ≤ S.size - a)) : stOf S (trO v a n) = S ∧ repOf S (trO v a n) = ⟨241, 0, 0, fun _ => 0, 0⟩ := by
  have he : errOf S (trO v a n) = 241 := by rw [tr_err hv, if_neg h]
  exact ⟨st_err (by rw [he]; decide), by rw [rep_err (by rw [he]; decide), he]⟩
theorem tr_isOp (w : World) {v a n : Nat} (hv : v < 18446744073709551616) (ha : a < 18446744073709551616) (hn : n < 18446744073709551616) : IsOp w (opV 6 v a n (.slice none 0 0)) (trO v a n) :=
  ⟨none, 0, rfl, bytes_none, ⟨by show 6 ≤ 255; omega, hv, ha, hn, Nat.zero_le _⟩⟩
theorem set_vol {S : St} {v : Nat} {D : VD} : (S.setVol v D).vols (kU v) = some D := upd_same
theorem set_size {S : St} {v : Nat} {D : VD} : (S.setVol v D).size = S.size := rfl

theorem vol_size {N : Nat} {L : List Nat} {w : World} {p : Nat} {S : St} (h : MdAt N L w p S) {k : Lit} {D : VD} (hk : S.vols k = some D) : size D ≤ N := by
  obtain ⟨mb, D0, C, hp, M⟩ := h
  rw [M.vols] at hk
  cases hh : has D0 k with
  | false => rw [hh] at hk; cases hk
  | true =>
    rw [hh] at hk
    injection hk with hk
    subst hk
    exact (M.vol k hh).2.2.size_le
theorem takeF_succ {α : Type} [Inhabited α] (p : α → Bool) (l : List α) (k : Nat) (h : k < l.length) : ((l.take (k + 1)).filter p).length = ((l.take k).filter p).length + (if p l[k]! then 1 else 0) := by
  rw [List.take_succ_eq_append_getElem h, List.filter_append, List.length_append, getElem!_pos l k h]
  congr 1
  cases h : p l[k] <;> simp [List.filter_cons, h]

end Go.Proofs.Ytbejcmbdaoakbaa
