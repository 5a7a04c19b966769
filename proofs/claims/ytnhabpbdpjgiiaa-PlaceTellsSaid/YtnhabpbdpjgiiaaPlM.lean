/- A map from small numbers to ints in memory. (Printed by mkplm.py out of XTal.) -/
import Derived.Test.YtnhabpbdpjgiiaaTal
namespace Go.Proofs.Ytnhabpbdpjgiiaa
open Go.RowKit Go.Maps
set_option linter.unusedVariables false
set_option linter.unusedSimpArgs false

/-- Block b holds a map that has at each k below n what f says, and nothing else. -/
def KMapI (P : Program) (kt et : TypeId) (w : World) (b n : Nat) (f : Nat → Option Nat) : Prop :=
  ∃ D : DataW Unit, w.ownsMap P kt (plainElem P et) b (Maps.size D) D ∧ Maps.size D = cnt n (fun k => (f k).isSome) ∧
    (∀ l, Maps.has D l = true → ∃ k, k < n ∧ l = .int .i64 (k : Int) ∧ (f k).isSome = true) ∧
    (∀ k v, k < n → f k = some v → Maps.has D (.int .i64 (k : Int)) = true ∧ ∀ z, D.atKey (.int .i64 (k : Int)) z = .lit (.int .i64 (v : Int)))


section
variable {P : Program} {kt et t : TypeId} {w : World} {b n : Nat} {f : Nat → Option Nat}

theorem KMapI.lt (h : KMapI P kt et w b n f) : b < w.heap.size := by
  obtain ⟨D, h1, _⟩ := h
  exact h1.lt

theorem KMapI.obj (h : KMapI P kt et w b n f) : ∃ es c, w.heap[b]? = some (.map es c) := by
  obtain ⟨D, ⟨es, c, hb, _⟩, _⟩ := h
  exact ⟨es, c, hb⟩

theorem KMapI.same {w' : World} (h : KMapI P kt et w b n f) (e : w'.heap[b]? = w.heap[b]?) : KMapI P kt et w' b n f := by
  obtain ⟨D, ⟨es, c, hb, hr⟩, hh⟩ := h
  exact ⟨D, ⟨es, c, e.trans hb, hr⟩, hh⟩

theorem KMapI.congr {g : Nat → Option Nat} (h : KMapI P kt et w b n f) (e : ∀ i, i < n → f i = g i) : KMapI P kt et w b n g := by
  obtain ⟨D, h1, h2, h3, h4⟩ := h
  refine ⟨D, h1, h2.trans (cnt_congr fun i hi => by rw [e i hi]), fun l hl => ?_, fun k v hk hv => h4 k v hk (by rw [e k hk]; exact hv)⟩
  obtain ⟨k, hk, hl', hs⟩ := h3 l hl
  exact ⟨k, hk, hl', by rw [← e k hk]; exact hs⟩

theorem KMapI.has (_h : KMapI P kt et w b n f) {D : DataW Unit} (h3 : ∀ l, Maps.has D l = true → ∃ k, k < n ∧ l = .int .i64 (k : Int) ∧ (f k).isSome = true)
    (h4 : ∀ k v, k < n → f k = some v → Maps.has D (.int .i64 (k : Int)) = true ∧ ∀ z, D.atKey (.int .i64 (k : Int)) z = .lit (.int .i64 (v : Int))) {k : Nat} (hk : k < n) :
    Maps.has D (.int .i64 (k : Int)) = (f k).isSome := by
  cases hf : f k with
  | some v => exact (h4 k v hk hf).1
  | none =>
    cases hh : Maps.has D (.int .i64 (k : Int)) with
    | false => rfl
    | true =>
      obtain ⟨k', hk', e, hs⟩ := h3 _ hh
      injection e with _ e
      have : k = k' := by omega
      subst this
      rw [hf] at hs
      cases hs

theorem KMapI.look (h : KMapI P kt et w b n f) (hkt : P.underlying kt = some (.int .i64)) (het : P.underlying et = some (.int .i64)) (ht : P.underlying t = some (.map kt et))
    (hz : (zeroValue et).run P w = .ok (.int .i64 0) w) {k : Nat} (hk : k < n) (hn : n ≤ 4096) :
    (Instr.lookup t (.map (some b)) (.int .i64 (k : Int)) true).run P w = .ok (.tuple #[.int .i64 (((f k).getD 0 : Nat) : Int), .bool (f k).isSome]) w ∧
    (Instr.lookup t (.map (some b)) (.int .i64 (k : Int)) false).run P w = .ok (.int .i64 (((f k).getD 0 : Nat) : Int)) w := by
  have hh := h
  obtain ⟨D, h1, h2, h3, h4⟩ := h
  have hkey : keyOf P kt (.int .i64 (k : Int)) = some (.int .i64 (k : Int)) := Maps.keyOf_int_mk hkt (WalkArith.wf_i64 (by omega))
  have K := Maps.int_keyed hkt
  obtain ⟨v, ps, hrun, hv⟩ := h1.look_ok K ht hz (plainElem_int het (by decide)) hkey
  obtain ⟨c, hrun', hat, _⟩ := h1.lookup_int K ht het hz hkey
  obtain ⟨a, rfl, ha, hw⟩ := plainElem_int_inv het hv
  simp only [Prod.mk.injEq] at ha
  have hc : c = a := by
    have := hat.symm.trans ha.1
    injection this with this
    injection this
  subst hc
  rw [hh.has h3 h4 hk] at hrun
  have e : c = (((f k).getD 0 : Nat) : Int) := by
    cases hf : f k with
    | some v =>
      have := ((h4 k v hk hf).2 _).symm.trans hat
      injection this with this
      injection this with _ this
      simpa using this.symm
    | none =>
      have hn : Maps.has D (.int .i64 (k : Int)) = false := by rw [hh.has h3 h4 hk, hf]; rfl
      have := (Maps.atKey_of_not_has hn (.lit (.int .i64 0))).symm.trans hat
      injection this with this
      injection this with _ this
      simpa using this.symm
  subst e
  exact ⟨hrun, hrun'⟩

theorem KMapI.del (h : KMapI P kt et w b n f) (hkt : P.underlying kt = some (.int .i64)) (ht : P.underlying t = some (.map kt et)) {k : Nat} (hk : k < n) (hn : n ≤ 4096) (ty : TypeId) :
    ∃ w', (Builtin.delete_ #[t, kt] ty #[.map (some b), .int .i64 (k : Int)]).run P w = .ok (.tuple #[]) w' ∧ KMapI P kt et w' b n (fun i => if i = k then none else f i) ∧ w.mapTurned w' b := by
  have hh := h
  obtain ⟨D, h1, h2, h3, h4⟩ := h
  have hkey : keyOf P kt (.int .i64 (k : Int)) = some (.int .i64 (k : Int)) := Maps.keyOf_int_mk hkt (WalkArith.wf_i64 (by omega))
  have K := Maps.int_keyed hkt
  obtain ⟨w', hrun, hown, hturn⟩ := h1.drop K ht hkey ty
  refine ⟨w', hrun, ⟨D.del (.int .i64 (k : Int)), ownsMap_tight hown, ?_, ?_, ?_⟩, hturn⟩
  · have e1 := Maps.size_del (k := .int .i64 (k : Int)) (h1.tidy K)
    have e2 := cnt_upd (p := fun i => (f i).isSome) (q := fun i => (if i = k then none else f i).isSome) hk (fun i _ hne => by simp [hne])
    simp only [if_true, Option.isSome_none, Bool.false_eq_true, if_false, hh.has h3 h4 hk] at e1 e2
    show _ = cnt n (fun i => (if i = k then none else f i).isSome)
    omega
  · intro l hl
    by_cases e : l = .int .i64 (k : Int)
    · subst e; rw [Maps.has_del_same] at hl; cases hl
    · rw [Maps.has_del_other e] at hl
      obtain ⟨k', hk', rfl, hs⟩ := h3 l hl
      have hne : k' ≠ k := fun q => e (by rw [q])
      exact ⟨k', hk', rfl, by simp [hne, hs]⟩
  · intro i v hi hv
    by_cases e : i = k
    · simp [e] at hv
    · simp only [e, if_false] at hv
      have hne : Lit.int .i64 (i : Int) ≠ .int .i64 (k : Int) := fun q => by injection q with _ q; omega
      obtain ⟨g1, g2⟩ := h4 i v hi hv
      exact ⟨by rw [Maps.has_del_other hne]; exact g1, fun z => by rw [Maps.atKey_del_other hne]; exact g2 z⟩

theorem KMapI.put (h : KMapI P kt et w b n f) (hkt : P.underlying kt = some (.int .i64)) (het : P.underlying et = some (.int .i64)) (ht : P.underlying t = some (.map kt et)) {k v : Nat} (hk : k < n) (hn : n ≤ 4096) (hv : v ≤ 1000000) :
    ∃ w', (Instr.mapUpdate t (.map (some b)) (.int .i64 (k : Int)) (.int .i64 (v : Int))).run P w = .ok () w' ∧ KMapI P kt et w' b n (fun i => if i = k then some v else f i) ∧ w.mapTurned w' b := by
  have hh := h
  obtain ⟨D, h1, h2, h3, h4⟩ := h
  have hkey : keyOf P kt (.int .i64 (k : Int)) = some (.int .i64 (k : Int)) := Maps.keyOf_int_mk hkt (WalkArith.wf_i64 (by omega))
  have K := Maps.int_keyed hkt
  have hle := cnt_le (fun k => (f k).isSome) n
  have hik : WideAt.IsKeyLit (.int .i64 (k : Int)) := K.key hkey
  obtain ⟨w', hrun, hown, hturn⟩ := h1.store K ht (by unfold maxLen; omega) hkey (plainElem_int het ((show (Lit.int .i64 (v : Int)).wf = true from WalkArith.wf_i64 (by omega))))
  refine ⟨w', hrun, ⟨_, ownsMap_tight hown, ?_, ?_, ?_⟩, hturn⟩
  · have e1 := Maps.size_put (k := .int .i64 (k : Int)) (h1.tidy K) (.lit (.int .i64 (v : Int)))
    have e2 := cnt_upd (p := fun i => (f i).isSome) (q := fun i => (if i = k then some v else f i).isSome) hk (fun i _ hne => by simp [hne])
    rw [hh.has h3 h4 hk] at e1
    simp only [if_true, Option.isSome_some] at e2
    rw [e1]
    split at e2 <;> split <;> simp_all <;> omega
  · intro l hl
    by_cases e : l = .int .i64 (k : Int)
    · exact ⟨k, hk, e, by simp⟩
    · rw [Maps.has_put_other e] at hl
      obtain ⟨k', hk', rfl, hs⟩ := h3 l hl
      have hne : k' ≠ k := fun q => e (by rw [q])
      exact ⟨k', hk', rfl, by simp [hne, hs]⟩
  · intro i v' hi hv'
    by_cases e : i = k
    · subst e
      simp only [if_true, Option.some.injEq] at hv'
      subst hv'
      exact ⟨Maps.has_put_same h1.isMap hik _, fun z => Maps.atKey_put_same h1.isMap hik _ z⟩
    · simp only [e, if_false] at hv'
      have hne : Lit.int .i64 (i : Int) ≠ .int .i64 (k : Int) := fun q => by injection q with _ q; omega
      obtain ⟨g1, g2⟩ := h4 i v' hi hv'
      exact ⟨by rw [Maps.has_put_other hne]; exact g1, fun z => by rw [Maps.atKey_put_other hne]; exact g2 z⟩

theorem KMapI.ofEmpty (h : w.ownsMap P kt (plainElem P et) b 0 (.map [] : DataW Unit)) (n : Nat) : KMapI P kt et w b n (fun _ => none) := by
  refine ⟨.map [], h, (cnt_zero fun _ _ => rfl).symm, ?_, ?_⟩
  · intro l hl; cases hl
  · intro k v _ hv; cases hv
theorem KMapI.made (w : World) (n : Nat) : KMapI P kt et (w.alloc (.map #[] 0)) w.heap.size n (fun _ => none) :=
  KMapI.ofEmpty (World.ownsMap_made _ _ _ _) n

end

end Go.Proofs.Ytnhabpbdpjgiiaa
