/- The model of layer 24 as it lies in memory: MdAt. -/
import Derived.Test.YtbejcmbdaoakbaaByt
import Derived.Test.YtbejcmbdaoakbaaMdL
import Derived.Maps.OwnSet
namespace Go.Proofs.Ytbejcmbdaoakbaa
open Go.RowKit Go.Maps
open Go.WideElems (Fit rg rd rd_val rd_key rg_of)
set_option linter.unusedVariables false
set_option linter.unusedSimpArgs false

/-- A volume as read: its blocks are tokens. -/
abbrev VD := DataW Value
def isU8 (v : Value) : Bool := match v with | .int .u8 n => decide (0 ≤ n) && decide (n ≤ 255) | _ => false
def isBlk (v : Value) : Bool := match v with | .agg cs => decide (cs.size = 128) && cs.all isU8 | _ => false
def RB (v : Value) : Option (VD × List MemPlace) := if isBlk v then some (.held v, []) else none
def RV (v : Value) : Option (DataW Nat × List MemPlace) := match v with | .map (some b) => some (.held b, []) | _ => none
/-- .. of these blocks alone. -/
def RVL (T : List Nat) (v : Value) : Option (DataW Nat × List MemPlace) := match v with | .map (some b) => if b ∈ T then some (.held b, []) else none | _ => none
def tok : DataW Nat → Nat
  | .held b => b
  | _ => 0

theorem RB_inv {v : Value} {d : VD} {ps : List MemPlace} (h : RB v = some (d, ps)) : d = .held v ∧ ps = [] ∧ isBlk v = true := by
  unfold RB at h
  split at h
  · rename_i hb; injection h with h; injection h with h1 h2; exact ⟨h1.symm, h2.symm, hb⟩
  · cases h
theorem RV_inv {v : Value} {d : DataW Nat} {ps : List MemPlace} (h : RV v = some (d, ps)) : ∃ b, v = .map (some b) ∧ d = .held b ∧ ps = [] := by
  unfold RV at h
  split at h
  · injection h with h; injection h with h1 h2; exact ⟨_, rfl, h1.symm, h2.symm⟩
  · cases h
theorem RVL_inv {T : List Nat} {v : Value} {d : DataW Nat} {ps : List MemPlace} (h : RVL T v = some (d, ps)) : ∃ b, v = .map (some b) ∧ d = .held b ∧ ps = [] ∧ b ∈ T := by
  unfold RVL at h
  split at h
  · split at h
    · rename_i hb; injection h with h; injection h with h1 h2; exact ⟨_, rfl, h1.symm, h2.symm, hb⟩
    · cases h
  · cases h

abbrev KU : Keyed Try.prog 23 := int_keyed Try.underlying23
abbrev OwnV (w : World) (b n : Nat) (D : VD) : Prop := w.ownsMap Try.prog 23 RB b n D
abbrev OwnM (w : World) (b n : Nat) (D : DataW Nat) : Prop := w.ownsMap Try.prog 23 RV b n D

section
variable {H : Type} {P : Program} {k : TypeId} {R R' : Value → Option (DataW H × List MemPlace)} {w w' : World} {b n : Nat} {D : DataW H}
theorem own_block (h : w.ownsMap P k R b n D) (e : w'.heap[b]? = w.heap[b]?) : w'.ownsMap P k R b n D := by
  obtain ⟨es, clock, hb, r⟩ := h
  exact ⟨es, clock, e.trans hb, r⟩
theorem own_chg {L : List Nat} (h : w.ownsMap P k R b n D) (c : Chg L w w') (hb : b ∉ L) : w'.ownsMap P k R b n D := own_block h (c.block b h.lt hb)

/-- A reader that reads the entries alike serves as well. -/
theorem own_stay (h : w.ownsMap P k R b n D) (K : Keyed P k) (hs : ∀ v d ps kl, has D kl = true → D.atKey kl .nil = d → R v = some (d, ps) → R' v = some (d, ps)) : w.ownsMap P k R' b n D := by
  have hc := h.canon K
  obtain ⟨es, clock, hb, F, hsz, hD⟩ := h
  have hx : ∀ x ∈ es.toList, ∀ z, R x.val = some z → R' x.val = some z := by
    intro x hx z hz
    obtain ⟨y, hy⟩ := F.reads x hx
    obtain ⟨z', hz', hy2⟩ := rd_val hy
    rw [hz] at hz'
    injection hz' with e
    subst e
    obtain ⟨es0, hes, s0, k0⟩ := hc
    have hm : (rg P k R x) ∈ es0 := by
      have e0 : (es.toList.map (rg P k R)).foldr DataW.insert [] = es0 := by
        have := hD.symm.trans hes
        injection this
      rw [← e0]
      exact mem_sorted.2 (List.mem_map.2 ⟨x, hx, rfl⟩)
    rw [rg_of hy] at hm
    have hh : has D y.1 = true := by rw [hes]; exact (has_mem k0).2 (List.mem_map.2 ⟨y, hm, rfl⟩)
    have ha : D.atKey y.1 .nil = y.2 := by rw [hes]; exact WideAt.atKey_mem .nil (k0 y hm) (apart_of_rising s0) hm
    obtain ⟨zd, zps⟩ := z
    exact hs x.val zd zps y.1 hh (by rw [ha, hy2]) hz
  obtain ⟨F1, hmap, _⟩ := F.stay hx
  exact ⟨es, clock, hb, F1, hsz, by rw [hD, ← hmap]⟩

/-- What a key's element is: what some value reads as. -/
theorem own_at (h : w.ownsMap P k R b n D) (K : Keyed P k) {kl : Lit} (hk : has D kl = true) : ∃ v ps, R v = some (D.atKey kl .nil, ps) := by
  obtain ⟨es0, hes, s0, k0⟩ := h.canon K
  obtain ⟨es, clock, hb, F, hsz, hD⟩ := h
  obtain ⟨p, hp, rfl⟩ := List.mem_map.1 ((has_mem k0).1 (by rw [← hes]; exact hk))
  have e0 : (es.toList.map (rg P k R)).foldr DataW.insert [] = es0 := by
    have := hD.symm.trans hes
    injection this
  have hm := hp
  rw [← e0] at hm
  obtain ⟨x, hx, hr⟩ := List.mem_map.1 (mem_sorted.1 hm)
  obtain ⟨y, hy⟩ := F.reads x hx
  obtain ⟨z, hz, hy2⟩ := rd_val hy
  have ha : D.atKey p.1 .nil = p.2 := by rw [hes]; exact WideAt.atKey_mem .nil (k0 p hp) (apart_of_rising s0) hp
  rw [ha, ← hr, rg_of hy, hy2]
  exact ⟨x.val, z.2, hz⟩
/-- .. and a key that is there is one that the type has. -/
theorem own_key (h : w.ownsMap P k R b n D) (K : Keyed P k) {kl : Lit} (hk : has D kl = true) : ∃ v, keyOf P k v = some kl := by
  obtain ⟨es0, hes, s0, k0⟩ := h.canon K
  obtain ⟨es, clock, hb, F, hsz, hD⟩ := h
  obtain ⟨p, hp, rfl⟩ := List.mem_map.1 ((has_mem k0).1 (by rw [← hes]; exact hk))
  have e0 : (es.toList.map (rg P k R)).foldr DataW.insert [] = es0 := by
    have := hD.symm.trans hes
    injection this
  rw [← e0] at hp
  obtain ⟨x, hx, hr⟩ := List.mem_map.1 (mem_sorted.1 hp)
  obtain ⟨y, hy⟩ := F.reads x hx
  rw [← hr, rg_of hy]
  exact ⟨x.key, rd_key hy⟩
end

/-- A model: its size, its last number, how many volumes it has, and which. -/
structure St where
  size : Nat
  last : Nat
  cnt : Nat
  vols : Lit → Option VD

def kU (n : Nat) : Lit := .int .u64 (n : Int)
theorem kU_key {n : Nat} (h : n < 18446744073709551616) : keyOf Try.prog 23 (.int .u64 (n : Int)) = some (kU n) :=
  keyOf_int_mk Try.underlying23 (by simp [Lit.wf, IntKind.min, IntKind.max, IntKind.signed, IntKind.bits]; omega)
theorem kU_is (n : Nat) : WideAt.IsKeyLit (kU n) := trivial
theorem kU_inj {a b : Nat} (h : kU a = kU b) : a = b := by unfold kU at h; injection h with _ h; exact Int.ofNat.inj h

/-- The model's parts: the map of volumes (block mb) reads as D; C says what stands in a volume's block. -/
structure MdPt (N : Nat) (L : List Nat) (w : World) (p mb : Nat) (S : St) (D : DataW Nat) (C : Nat → VD) : Prop where
  own : OwnM w mb N D
  cnt : S.cnt = size D
  vols : ∀ k, S.vols k = if has D k then some (C (tok (D.atKey k .nil))) else none
  vol : ∀ k, has D k = true → tok (D.atKey k .nil) ∈ L ∧ tok (D.atKey k .nil) ≠ mb ∧ OwnV w (tok (D.atKey k .nil)) N (C (tok (D.atKey k .nil)))
  apart : ∀ k k', has D k = true → has D k' = true → tok (D.atKey k .nil) = tok (D.atKey k' .nil) → k = k'
  low : ∀ k, has D k = true → ∃ n, n ≤ S.last ∧ k = kU n
  pin : p ∈ L
  min : mb ∈ L
  lt : ∀ b, b ∈ L → b < w.heap.size
  size : S.size < 18446744073709551616
  last : S.last < 18446744073709551616

def mdRow (S : St) (mb : Nat) : Array Value := #[.int .u64 (S.size : Int), .int .u64 (S.last : Int), .map (some mb)]
def MdAt (N : Nat) (L : List Nat) (w : World) (p : Nat) (S : St) : Prop :=
  ∃ mb D C, w.heap[p]? = some (.cells (mdRow S mb) 64 (0, 0)) ∧ MdPt N L w p mb S D C

theorem ownsMap_ne_cells {H : Type} {P : Program} {k : TypeId} {R : Value → Option (DataW H × List MemPlace)} {w : World} {b n p : Nat} {D : DataW H} {cs : Array Value} {T : TypeId} {z : Nat × Nat} (h : w.ownsMap P k R b n D) (hp : w.heap[p]? = some (.cells cs T z)) : b ≠ p := by
  rintro rfl
  obtain ⟨es, clock, hb, _⟩ := h
  rw [hp] at hb
  cases hb

theorem tok_held {w : World} {mb N : Nat} {D : DataW Nat} (h : OwnM w mb N D) {k : Lit} (hk : has D k = true) : D.atKey k .nil = .held (tok (D.atKey k .nil)) := by
  obtain ⟨v, ps, hv⟩ := own_at h KU hk
  obtain ⟨b, _, hd, _⟩ := RV_inv hv
  rw [hd]
  rfl

theorem MdPt.chg {N : Nat} {L L' : List Nat} {w w' : World} {p mb : Nat} {S : St} {D : DataW Nat} {C : Nat → VD} (h : MdPt N L w p mb S D C) (c : Chg L' w w') (hd : ∀ b, b ∈ L → b ∉ L') : MdPt N L w' p mb S D C :=
  { h with
    own := own_chg h.own c (hd _ h.min)
    vol := fun k hk => ⟨(h.vol k hk).1, (h.vol k hk).2.1, own_chg (h.vol k hk).2.2 c (hd _ (h.vol k hk).1)⟩
    lt := fun b hb => Nat.lt_of_lt_of_le (h.lt b hb) c.size }
theorem MdAt.chg {N : Nat} {L L' : List Nat} {w w' : World} {p : Nat} {S : St} (h : MdAt N L w p S) (c : Chg L' w w') (hd : ∀ b, b ∈ L → b ∉ L') : MdAt N L w' p S := by
  obtain ⟨mb, D, C, hp, M⟩ := h
  exact ⟨mb, D, C, (c.block p (M.lt p M.pin) (hd p M.pin)).trans hp, M.chg c hd⟩
theorem MdAt.lt {N : Nat} {L : List Nat} {w : World} {p : Nat} {S : St} (h : MdAt N L w p S) : ∀ b, b ∈ L → b < w.heap.size := by
  obtain ⟨mb, D, C, hp, M⟩ := h
  exact M.lt
theorem MdAt.pin {N : Nat} {L : List Nat} {w : World} {p : Nat} {S : St} (h : MdAt N L w p S) : p ∈ L := by
  obtain ⟨mb, D, C, hp, M⟩ := h
  exact M.pin

/-- What may be in a volume of a model. -/
theorem MdPt.canon {N : Nat} {L : List Nat} {w : World} {p mb : Nat} {S : St} {D : DataW Nat} {C : Nat → VD} (h : MdPt N L w p mb S D C) : Canon D := h.own.canon KU
theorem MdPt.vcanon {N : Nat} {L : List Nat} {w : World} {p mb : Nat} {S : St} {D : DataW Nat} {C : Nat → VD} (h : MdPt N L w p mb S D C) {k : Lit} (hk : has D k = true) : Canon (C (tok (D.atKey k .nil))) := (h.vol k hk).2.2.canon KU

theorem St.ext {S T : St} (h1 : S.size = T.size) (h2 : S.last = T.last) (h3 : S.cnt = T.cnt) (h4 : S.vols = T.vols) : S = T := by
  cases S; cases T; simp_all

end Go.Proofs.Ytbejcmbdaoakbaa
