/- Plain laws of write. -/
import Derived.Test.YtbejcmbdaoakbaaSoQ
namespace Go.Proofs.Ytbejcmbdaoakbaa
open Go.RowKit Go.Sort Go.Maps
set_option linter.unusedVariables false
set_option linter.unusedSimpArgs false

def wrO (v p : Nat) (f : Nat → Nat) : Opn := ⟨5, v, p, 0, 128, f⟩
def blkV (f : Nat → Nat) : VD := .held (.agg (u8s 128 f))
theorem wr_err {S : St} {v p : Nat} {f : Nat → Nat} {D : VD} (hv : S.vols (kU v) = some D) (hp : p < S.size) : errOf S (wrO v p f) = 0 := by
  have h1 : ¬ S.size ≤ p := by omega
  unfold errOf wrO flagsOf wrongS
  simp [hv, h1]
theorem wr_st {S : St} {v p : Nat} {f : Nat → Nat} {D : VD} (hv : S.vols (kU v) = some D) (hp : p < S.size) : stOf S (wrO v p f) = S.setVol v (D.put (kU p) (blkV f)) := by
  rw [stOf_ok (wr_err hv hp)]
  show S.setVol v ((S.volOf v).put (kU p) (.held (.agg (u8s 128 f)))) = _
  rw [volOf_is hv]; rfl
theorem wr_rep {S : St} {v p : Nat} {f : Nat → Nat} {D : VD} (hv : S.vols (kU v) = some D) (hp : p < S.size) : repOf S (wrO v p f) = ⟨0, 0, 0, fun _ => 0, 0⟩ := by
  rw [repOf_ok (wr_err hv hp)]
  rfl
theorem wr_isOp {w : World} {v p cap : Nat} {a : Option Addr} {f : Nat → Nat} (hv : v < 18446744073709551616) (hp : p < 18446744073709551616) (hb : BytesIn w a 128 cap f) : IsOp w (opV 5 v p 0 (.slice a 128 cap)) (wrO v p f) :=
  ⟨a, cap, rfl, hb, ⟨by show 5 ≤ 255; omega, hv, hp, by show 0 < 18446744073709551616; omega, by show 128 ≤ 9223372036854775807; omega⟩⟩

theorem canon_map {D : VD} (c : Canon D) : IsMap D := by obtain ⟨es, rfl, _⟩ := c; exact ⟨es, rfl⟩
theorem blk_put_same {D : VD} (c : Canon D) {p : Nat} {f : Nat → Nat} : blkAt (D.put (kU p) (blkV f)) p = .agg (u8s 128 f) := by
  unfold blkAt
  rw [atKey_put_same (canon_map c) (kU_is p)]
  rfl
theorem blk_put_other {D : VD} {p x : Nat} {f : Nat → Nat} (h : x ≠ p) : blkAt (D.put (kU p) (blkV f)) x = blkAt D x := by
  unfold blkAt
  rw [atKey_put_other (fun e => h (kU_inj e))]

/-- What stands at a place of a volume is a block. -/
theorem vol_blk {N : Nat} {L : List Nat} {w : World} {p : Nat} {S : St} (h : MdAt N L w p S) {k k' : Lit} {D : VD} (hk : S.vols k = some D) (hh : has D k' = true) : ∃ cs, D.atKey k' .nil = .held (.agg cs) ∧ isBlk (.agg cs) = true := by
  obtain ⟨mb, D0, C, hp, M⟩ := h
  rw [M.vols] at hk
  cases hq : has D0 k with
  | false => rw [hq] at hk; cases hk
  | true =>
    rw [hq] at hk
    injection hk with hk
    subst hk
    obtain ⟨v, ps, hv⟩ := own_at (M.vol k hq).2.2 KU hh
    obtain ⟨h1, _, h3⟩ := RB_inv hv
    obtain ⟨cs, rfl, _, _⟩ := isBlk_inv h3
    exact ⟨cs, h1, h3⟩
theorem u8s_of {n : Nat} {f : Nat → Nat} {cs : Array Value} (hs : cs.size = n) (h : ∀ i, i < n → cs[i]? = some (.int .u8 (f i : Int))) : u8s n f = cs := by
  refine Array.ext_getElem? fun i => ?_
  by_cases hi : i < n
  · rw [u8s_get hi, h i hi]
  · rw [Array.getElem?_eq_none (by rw [u8s_size]; omega), Array.getElem?_eq_none (by omega)]
theorem byte_of {cs : Array Value} {i : Nat} {v : Value} (h : cs[i]? = some v) (hu : isU8 v = true) : v = .int .u8 (byteOf' (.agg cs) i : Int) := by
  unfold byteOf'
  simp only [h]
  unfold isU8 at hu
  split at hu
  · rename_i n
    simp only [Bool.and_eq_true, decide_eq_true_eq] at hu
    have : ((n.toNat : Nat) : Int) = n := Int.toNat_of_nonneg hu.1
    rw [this]
  · cases hu
theorem blk_back {cs : Array Value} (h : isBlk (.agg cs) = true) : u8s 128 (byteOf' (.agg cs)) = cs := by
  unfold isBlk at h
  simp only [Bool.and_eq_true, decide_eq_true_eq] at h
  obtain ⟨hs, ha⟩ := h
  generalize 128 = n at hs
  refine u8s_of hs fun i hi => ?_
  have h2 : i < cs.size := by omega
  have hu : isU8 cs[i] = true := Array.all_eq_true.1 ha i h2
  have he := Array.getElem?_eq_getElem h2
  rw [he]
  exact congrArg some (byte_of he hu)

/-- Written as before: all is as it was just where there was a block. -/
theorem wr_back {N N' : Nat} {L L' : List Nat} {w w' : World} {p p' v q : Nat} {S : St} {D : VD} {f : Nat → Nat} (h : MdAt N L w p S) (hv : S.vols (kU v) = some D)
    (h' : MdAt N' L' w' p' ((S.setVol v (D.put (kU q) (blkV f))).setVol v ((D.put (kU q) (blkV f)).put (kU q) (blkV (byteOf' (blkAt D q)))))) :
    stEq ((S.setVol v (D.put (kU q) (blkV f))).setVol v ((D.put (kU q) (blkV f)).put (kU q) (blkV (byteOf' (blkAt D q))))) S = has D (kU q) := by
  have g := good_of h hv
  have g' := good_of h' (set_vol)
  obtain ⟨E, hE⟩ : ∃ E, E = (D.put (kU q) (blkV f)).put (kU q) (blkV (byteOf' (blkAt D q))) := ⟨_, rfl⟩
  have hm : IsMap (D.put (kU q) (blkV f)) := by
    obtain ⟨es, hes⟩ := canon_map g.1
    subst hes
    exact ⟨_, rfl⟩
  have hEq : has E (kU q) = true := by rw [hE]; exact has_put_same hm (kU_is q) _
  rw [← hE] at g' ⊢
  have e1 : stEq ((S.setVol v (D.put (kU q) (blkV f))).setVol v E) S = volsEq (upd (upd S.vols (kU v) (some (D.put (kU q) (blkV f)))) (kU v) (some E)) S.vols := by
    unfold stEq St.setVol
    simp
  rw [e1, Bool.eq_iff_iff, volsEq_iff]
  constructor
  · intro hq
    have := congrFun hq (kU v)
    rw [upd_same, hv] at this
    injection this with this
    rw [← this]; exact hEq
  · intro hh
    funext k
    by_cases hk : k = kU v
    · subst hk
      rw [upd_same, hv]
      congr 1
      refine Maps.ext g'.1 g.1 (fun k => ?_) (fun k z hk => ?_)
      · by_cases e : k = kU q
        · rw [e, hEq, hh]
        · rw [hE, has_put_other e, has_put_other e]
      · by_cases e : k = kU q
        · subst e
          rw [hE, atKey_put_same hm (kU_is q)]
          obtain ⟨cs, hcs, hb⟩ := vol_blk h hv hh
          rw [Maps.atKey_indep hh z .nil, hcs]
          have : blkAt D q = .agg cs := by unfold blkAt; rw [Maps.atKey_indep hh _ .nil, hcs]
          rw [this]
          unfold blkV
          rw [blk_back hb]
        · rw [hE, atKey_put_other e, atKey_put_other e]
    · rw [upd_other hk, upd_other hk]

theorem bytes_same {w w' : World} {k o n cap : Nat} {f : Nat → Nat} (h : BytesIn w (some ⟨k, o, none⟩) n cap f) (e : w'.heap[k]? = w.heap[k]?) : BytesIn w' (some ⟨k, o, none⟩) n cap f := by
  refine ⟨h.1, h.2.1, h.2.2.1, fun b hb h0 => ?_⟩
  obtain ⟨k', o', e', hB⟩ := h.2.2.2 b hb h0
  refine ⟨k', o', e', fun i hi => ?_⟩
  have hk : k' = k := by injection hb with hb; rw [e'] at hb; injection hb with hb; exact hb.symm
  obtain ⟨h1, h2⟩ := hB i hi
  refine ⟨?_, h2⟩
  rw [← h1, hk]
  simp only [World.cell?, e]
theorem listU_same {w w' : World} {B g c : Nat} {l : List Nat} (h : ListU w B (.slice (some ⟨g, 0, none⟩) l.length c) l) (hl : l ≠ []) (e : w'.heap[g]? = w.heap[g]?) : ∀ i, i < l.length → w'.cell? ⟨g, i, none⟩ = some (.int .u64 ((l[i]! : Nat) : Int)) := by
  obtain ⟨g', c', e', _, hc⟩ := h.cell hl
  injection e' with ea _ _
  injection ea with ea
  injection ea with ea
  intro i hi
  have := hc i hi
  rw [← ea] at this
  rw [← this]
  simp only [World.cell?, e]
theorem quiet_size {N : Nat} {L : List Nat} {w : World} {p : Nat} {S : St} (h : MdAt N L w p S) {m : Nat} (hm : S.size = m) (n : Nat) :
    Calls Try.prog 21 #[.pointer (some ⟨p, 0, none⟩)] (w.drewN n) fun e w' => e = .returned (.int .u64 (m : Int)) ∧ ∃ k, w' = w.drewN k :=
  (size_at (h.chg (Chg.drewN (Chg.refl [] w) n) (by simp))).mono fun e w' ⟨he, hw⟩ => ⟨by rw [he, hm], n, hw.symm⟩

theorem listU_ge {w : World} {B g c : Nat} {l : List Nat} (h : ListU w B (.slice (some ⟨g, 0, none⟩) l.length c) l) (hl : l ≠ []) : B ≤ g := by
  rcases h with ⟨h, _⟩ | ⟨_, g', c', e, _, hb, _⟩
  · exact absurd h hl
  · injection e with ea _ _
    injection ea with ea
    injection ea with ea
    omega
theorem bytes_some {w : World} {a : Option Addr} {n c : Nat} {f : Nat → Nat} (h : BytesIn w a n c f) (hn : 0 < n) : ∃ k o, a = some ⟨k, o, none⟩ ∧ k < w.heap.size := by
  cases a with
  | none => have := (h.2.2.1 rfl).1; omega
  | some b =>
    obtain ⟨k, o, rfl, hB⟩ := h.2.2.2 b rfl hn
    exact ⟨k, o, rfl, World.block_lt_of_cell? w _ (hB 0 hn).1⟩
theorem Two24.guard {w wr : World} {p q : Nat} {X Y L M : List Nat} {a b : Nat} {S T : St} (h : Two24 w wr p q X L M a b S T) (hY : ∀ x, x ∈ Y → x ∈ X ∨ (x ∉ L ∧ x ∉ M ∧ x < wr.heap.size)) : Two24 w wr p q Y L M a b S T :=
  { h with
    nl := fun x hx => ⟨(h.nl x hx).1, fun hy => by rcases hY x hy with g | g; exact (h.nl x hx).2 g; exact g.1 hx⟩
    nm := fun x hx => ⟨(h.nm x hx).1, fun hy => by rcases hY x hy with g | g; exact (h.nm x hx).2 g; exact g.2.1 hx⟩
    xl := fun x hx => by rcases hY x hx with g | g; exact h.xl x g; exact g.2.2 }
/-- What the states say at a volume and a place, behind a write. -/
theorem wr_vols {S : St} {vol pq id : Nat} {D D0 : VD} {f : Nat → Nat} (hD : S.vols (kU vol) = some D) (h0 : S.vols (kU id) = some D0) (c : Canon D) :
    ∃ D1, (S.setVol vol (D.put (kU pq) (blkV f))).vols (kU id) = some D1 ∧ (id = vol → blkAt D1 pq = .agg (u8s 128 f)) ∧ ∀ k, ¬ (id = vol ∧ k = pq) → blkAt D1 k = blkAt D0 k := by
  by_cases e : id = vol
  · subst e
    rw [hD] at h0
    injection h0 with h0
    subst h0
    exact ⟨_, set_vol, fun _ => blk_put_same c, fun k hk => blk_put_other (fun e => hk ⟨rfl, e⟩)⟩
  · refine ⟨D0, ?_, fun e' => absurd e' e, fun k _ => rfl⟩
    show upd S.vols (kU vol) _ (kU id) = _
    rw [upd_other (fun q => e (kU_inj q)), h0]
theorem take_mem {l : List Nat} {x k : Nat} (h : k < l.length) : decide (x ∈ l.take (k + 1)) = (decide (x ∈ l.take k) || decide (l[k]! = x)) := by
  rw [List.take_succ_eq_append_getElem h, getElem!_pos l k h, Bool.eq_iff_iff]
  simp only [decide_eq_true_eq, Bool.or_eq_true, List.mem_append, List.mem_singleton]
  constructor
  · rintro (h | h); exact .inl h; exact .inr h.symm
  · rintro (h | h); exact .inl h; exact .inr h.symm

end Go.Proofs.Ytbejcmbdaoakbaa
