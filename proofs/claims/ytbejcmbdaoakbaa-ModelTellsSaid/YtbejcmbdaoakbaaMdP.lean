/- What an operation does to a model: plain laws. -/
import Derived.Test.YtbejcmbdaoakbaaMdC
namespace Go.Proofs.Ytbejcmbdaoakbaa
open Go.RowKit Go.Maps
set_option linter.unusedVariables false
set_option linter.unusedSimpArgs false

noncomputable def upd (V : Lit → Option VD) (k : Lit) (x : Option VD) (y : Lit) : Option VD := @ite _ (y = k) (Classical.propDecidable _) x (V y)
theorem upd_same {V : Lit → Option VD} {k : Lit} {x : Option VD} : upd V k x k = x := by unfold upd; simp
theorem upd_other {V : Lit → Option VD} {k y : Lit} {x : Option VD} (h : y ≠ k) : upd V k x y = V y := by unfold upd; simp [h]


set_option maxRecDepth 20000 in
theorem look_vol {w : World} {mb N : Nat} {D : DataW Nat} (h : OwnM w mb N D) {n : Nat} (hn : n < 18446744073709551616) (hk : has D (kU n) = true) :
    (Instr.lookup 62 (.map (some mb)) (.int .u64 (n : Int)) false).run Try.prog w = .ok (.map (some (tok (D.atKey (kU n) .nil)))) w := by
  have h2 : w.ownsMap Try.prog 23 (RVN (blksOf D)) mb N D := own_stay h KU fun v d ps kl hk hd hv => by
    obtain ⟨b, rfl, rfl, rfl⟩ := RV_inv hv
    have : b ∈ blksOf D := (blksOf_mem (h.canon KU)).2 ⟨kl, hk, by rw [hd]; rfl⟩
    unfold RVN
    simp only [if_pos this]
  obtain ⟨v, ps, hrun, hv⟩ := h2.lookup KU Try.underlying62 (z := .map none) (Try.zeroValue68 w) (zd := .nil) (zp := []) rfl (kU_key hn)
  rw [hrun]
  rw [tok_held h hk] at hv
  rcases RVN_inv hv with ⟨b, rfl, hb, _⟩ | ⟨rfl, hb⟩
  · injection hb with hb
    rw [hb]
  · cases hb
set_option maxRecDepth 20000 in
theorem look_vol_ok {w : World} {mb N : Nat} {D : DataW Nat} (h : OwnM w mb N D) {n : Nat} (hn : n < 18446744073709551616) :
    (Instr.lookup 62 (.map (some mb)) (.int .u64 (n : Int)) true).run Try.prog w = .ok (.tuple #[.map (if has D (kU n) then some (tok (D.atKey (kU n) .nil)) else none), .bool (has D (kU n))]) w := by
  have h2 : w.ownsMap Try.prog 23 (RVN (blksOf D)) mb N D := own_stay h KU fun v d ps kl hk hd hv => by
    obtain ⟨b, rfl, rfl, rfl⟩ := RV_inv hv
    have : b ∈ blksOf D := (blksOf_mem (h.canon KU)).2 ⟨kl, hk, by rw [hd]; rfl⟩
    unfold RVN
    simp only [if_pos this]
  obtain ⟨v, ps, hrun, hv⟩ := h2.look_ok KU Try.underlying62 (z := .map none) (Try.zeroValue68 w) (zd := .nil) (zp := []) rfl (kU_key hn)
  rw [hrun]
  cases hk : has D (kU n)
  · rw [atKey_of_not_has hk] at hv
    rcases RVN_inv hv with ⟨b, rfl, hb, _⟩ | ⟨rfl, hb⟩
    · cases hb
    · rfl
  · rw [tok_held h hk] at hv
    rcases RVN_inv hv with ⟨b, rfl, hb, _⟩ | ⟨rfl, hb⟩
    · injection hb with hb
      rw [hb]
      rfl
    · cases hb

/-- The lookup of a block. -/
def blkAt (D : VD) (n : Nat) : Value := match D.atKey (kU n) (.held (.agg zBlk)) with | .held v => v | _ => .agg zBlk
set_option maxRecDepth 20000 in
theorem look_blk {w : World} {b N : Nat} {D : VD} (h : OwnV w b N D) {n : Nat} (hn : n < 18446744073709551616) :
    (Instr.lookup 68 (.map (some b)) (.int .u64 (n : Int)) false).run Try.prog w = .ok (blkAt D n) w ∧ isBlk (blkAt D n) = true := by
  obtain ⟨v, ps, hrun, hv⟩ := h.lookup KU Try.underlying68 (z := .agg zBlk) (zeroBlk w) (zd := .held (.agg zBlk)) (zp := []) (RB_mk zBlk_is) (kU_key hn)
  obtain ⟨h1, h2, h3⟩ := RB_inv hv
  have : blkAt D n = v := by unfold blkAt; rw [h1]
  rw [hrun, this]
  exact ⟨rfl, h3⟩

section
variable {N : Nat} {L : List Nat} {w w2 : World} {p mb : Nat} {S : St} {D : DataW Nat} {C : Nat → VD}

theorem MdPt.mono (M : MdPt N L w p mb S D C) {N' : Nat} (h : N ≤ N') : MdPt N' L w p mb S D C :=
  { M with own := M.own.mono h, vol := fun k hk => ⟨(M.vol k hk).1, (M.vol k hk).2.1, (M.vol k hk).2.2.mono h⟩ }
theorem MdAt.mono (M : MdAt N L w p S) {N' : Nat} (h : N ≤ N') : MdAt N' L w p S := by
  obtain ⟨mb, D, C, hp, M⟩ := M
  exact ⟨mb, D, C, hp, M.mono h⟩

theorem MdPt.has_vols (M : MdPt N L w p mb S D C) (k : Lit) : (S.vols k).isSome = has D k := by
  rw [M.vols]
  cases has D k <;> rfl
theorem MdPt.vols_at (M : MdPt N L w p mb S D C) {k : Lit} {Dv : VD} (h : S.vols k = some Dv) : has D k = true ∧ C (tok (D.atKey k .nil)) = Dv := by
  rw [M.vols] at h
  cases hk : has D k
  · rw [hk] at h; cases h
  · rw [hk] at h
    simp only [if_true, Option.some.injEq] at h
    exact ⟨rfl, h⟩
/-- .. and it stands in a block of its own. -/
theorem MdPt.vol_at (M : MdPt N L w p mb S D C) {cs : Array Value} {T : TypeId} {z : Nat × Nat} (hp : w.heap[p]? = some (.cells cs T z)) {k : Lit} {Dv : VD} (h : S.vols k = some Dv) :
    has D k = true ∧ tok (D.atKey k .nil) ∈ L ∧ tok (D.atKey k .nil) ≠ mb ∧ tok (D.atKey k .nil) ≠ p ∧ OwnV w (tok (D.atKey k .nil)) N Dv := by
  obtain ⟨h1, h2⟩ := M.vols_at h
  obtain ⟨a, b, c⟩ := M.vol k h1
  rw [h2] at c
  exact ⟨h1, a, b, ownsMap_ne_cells c hp, c⟩

/-- A volume more. -/
theorem MdPt.put (M : MdPt N L w p mb S D C) {cs : Array Value} {T : TypeId} {z : Nat × Nat} (hp : w.heap[p]? = some (.cells cs T z)) (c : Chg [p, mb] w w2) {k : Lit} {b l : Nat} {Dv : VD} (hk : WideAt.IsKeyLit k)
    (hO : OwnM w2 mb (N + 1) (D.put k (.held b))) (hV : OwnV w2 b (N + 1) Dv) (hb : b ∉ L) (hl : l < 18446744073709551616) (hlow : S.last ≤ l) (hkl : ∃ n, n ≤ l ∧ k = kU n) :
    MdPt (N + 1) (b :: L) w2 p mb ⟨S.size, l, if (S.vols k).isSome then S.cnt else S.cnt + 1, upd S.vols k (some Dv)⟩ (D.put k (.held b)) (fun x => if x = b then Dv else C x) := by
  have hD := M.own.isMap
  have hmb := M.min
  have htk : (D.put k (.held b)).atKey k .nil = .held b := atKey_put_same hD hk _ _
  have hne : ∀ x, has D x = true → tok (D.atKey x .nil) ≠ b := fun x hx e => hb (e ▸ (M.vol x hx).1)
  constructor
  · exact hO
  · show (if (S.vols k).isSome then S.cnt else S.cnt + 1) = _
    rw [size_put (M.own.tidy KU), M.has_vols, M.cnt]
  · intro x
    show upd S.vols k (some Dv) x = _
    by_cases e : x = k
    · subst e
      rw [upd_same, has_put_same hD hk, htk]
      show some Dv = some (if b = b then Dv else C b)
      rw [if_pos rfl]
    · rw [upd_other e, M.vols, has_put_other e, atKey_put_other e]
      cases hx : has D x
      · rfl
      · show some _ = some (if tok (D.atKey x .nil) = b then Dv else C _)
        rw [if_neg (hne x hx)]
  · intro x hx
    by_cases e : x = k
    · subst e
      rw [htk]
      refine ⟨by show b ∈ b :: L; simp, fun (e : b = mb) => hb (by rw [e]; exact hmb), ?_⟩
      show OwnV w2 b (N + 1) (if b = b then Dv else C b)
      rw [if_pos rfl]
      exact hV
    · rw [has_put_other e] at hx
      rw [atKey_put_other e]
      obtain ⟨v1, v2, v3⟩ := M.vol x hx
      refine ⟨.tail _ v1, v2, ?_⟩
      show OwnV w2 _ (N + 1) (if tok (D.atKey x .nil) = b then Dv else C _)
      rw [if_neg (hne x hx)]
      exact (own_chg v3 c (by simp; exact ⟨ownsMap_ne_cells v3 hp, v2⟩)).mono (by omega)
  · intro x y hx hy he
    by_cases e1 : x = k
    · by_cases e2 : y = k
      · rw [e1, e2]
      · exfalso
        subst e1
        rw [has_put_other e2] at hy
        rw [htk, atKey_put_other e2] at he
        exact hne y hy he.symm
    · by_cases e2 : y = k
      · exfalso
        subst e2
        rw [has_put_other e1] at hx
        rw [htk, atKey_put_other e1] at he
        exact hne x hx he
      · rw [has_put_other e1] at hx
        rw [has_put_other e2] at hy
        rw [atKey_put_other e1, atKey_put_other e2] at he
        exact M.apart x y hx hy he
  · intro x hx
    by_cases e : x = k
    · rw [e]; exact hkl
    · rw [has_put_other e] at hx
      obtain ⟨n, h1, h2⟩ := M.low x hx
      exact ⟨n, Nat.le_trans h1 hlow, h2⟩
  · exact .tail _ M.pin
  · exact .tail _ M.min
  · intro x hx
    rcases List.mem_cons.1 hx with rfl | hx
    · exact hV.lt
    · exact Nat.lt_of_lt_of_le (M.lt x hx) c.size
  · exact M.size
  · exact hl

/-- A volume less. -/
theorem MdPt.del (M : MdPt N L w p mb S D C) {cs : Array Value} {T : TypeId} {z : Nat × Nat} (hp : w.heap[p]? = some (.cells cs T z)) (c : Chg [mb] w w2) {k : Lit} (hO : OwnM w2 mb N (D.del k)) :
    MdPt N L w2 p mb ⟨S.size, S.last, if (S.vols k).isSome then S.cnt - 1 else S.cnt, upd S.vols k none⟩ (D.del k) C := by
  have hsub : ∀ x, has (D.del k) x = true → x ≠ k ∧ has D x = true := fun x hx => by
    by_cases e : x = k
    · subst e; rw [has_del_same] at hx; cases hx
    · rw [has_del_other e] at hx; exact ⟨e, hx⟩
  constructor
  · exact hO
  · show (if (S.vols k).isSome then S.cnt - 1 else S.cnt) = _
    have := size_del (k := k) (M.own.tidy KU)
    rw [M.has_vols, M.cnt]
    split at this <;> rename_i h <;> simp [h] <;> omega
  · intro x
    show upd S.vols k none x = _
    by_cases e : x = k
    · subst e
      rw [upd_same, has_del_same]
      rfl
    · rw [upd_other e, M.vols, has_del_other e, atKey_del_other e]
  · intro x hx
    obtain ⟨e, hx⟩ := hsub x hx
    rw [atKey_del_other e]
    obtain ⟨v1, v2, v3⟩ := M.vol x hx
    exact ⟨v1, v2, own_chg v3 c (by simp; exact v2)⟩
  · intro x y hx hy he
    obtain ⟨e1, hx⟩ := hsub x hx
    obtain ⟨e2, hy⟩ := hsub y hy
    rw [atKey_del_other e1, atKey_del_other e2] at he
    exact M.apart x y hx hy he
  · exact fun x hx => M.low x (hsub x hx).2
  · exact M.pin
  · exact M.min
  · exact fun x hx => Nat.lt_of_lt_of_le (M.lt x hx) c.size
  · exact M.size
  · exact M.last

/-- A volume's blocks are others. -/
theorem MdPt.chgVol (M : MdPt N L w p mb S D C) {k : Lit} (hk : has D k = true) {b : Nat} (hb : tok (D.atKey k .nil) = b) (c : Chg [b] w w2) {Dv : VD} (hV : OwnV w2 b (N + 1) Dv) :
    MdPt (N + 1) L w2 p mb ⟨S.size, S.last, S.cnt, upd S.vols k (some Dv)⟩ D (fun x => if x = b then Dv else C x) := by
  have hbm : b ≠ mb := hb ▸ (M.vol k hk).2.1
  have hne : ∀ x, has D x = true → x ≠ k → tok (D.atKey x .nil) ≠ b := fun x hx e q => e (M.apart x k hx hk (q.trans hb.symm))
  constructor
  · exact (own_chg M.own c (by simp; exact fun e => hbm e.symm)).mono (by omega)
  · exact M.cnt
  · intro x
    show upd S.vols k (some Dv) x = _
    by_cases e : x = k
    · subst e
      rw [upd_same, hk, hb]
      show some Dv = some (if b = b then Dv else C b)
      rw [if_pos rfl]
    · rw [upd_other e, M.vols]
      cases hx : has D x
      · rfl
      · show some _ = some (if tok (D.atKey x .nil) = b then Dv else C _)
        rw [if_neg (hne x hx e)]
  · intro x hx
    obtain ⟨v1, v2, v3⟩ := M.vol x hx
    refine ⟨v1, v2, ?_⟩
    by_cases e : x = k
    · subst e
      rw [hb]
      show OwnV w2 b (N + 1) (if b = b then Dv else C b)
      rw [if_pos rfl]
      exact hV
    · show OwnV w2 _ (N + 1) (if tok (D.atKey x .nil) = b then Dv else C _)
      rw [if_neg (hne x hx e)]
      exact (own_chg v3 c (by simp; exact hne x hx e)).mono (by omega)
  · exact M.apart
  · exact M.low
  · exact M.pin
  · exact M.min
  · exact fun x hx => Nat.lt_of_lt_of_le (M.lt x hx) c.size
  · exact M.size
  · exact M.last

end
end Go.Proofs.Ytbejcmbdaoakbaa
