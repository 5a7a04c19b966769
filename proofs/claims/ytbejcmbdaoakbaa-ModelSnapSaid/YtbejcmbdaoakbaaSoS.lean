/- Plain laws of snap. -/
import Derived.Test.YtbejcmbdaoakbaaSoR
namespace Go.Proofs.Ytbejcmbdaoakbaa
open Go.RowKit Go.Sort Go.Maps
set_option linter.unusedVariables false
set_option linter.unusedSimpArgs false

theorem st_last (S : St) (o : Opn) : S.last ≤ (stOf S o).last ∧ (stOf S o).last ≤ S.last + 1 := by
  by_cases he : errOf S o = 0
  · rw [stOf_ok he]
    split; · exact ⟨Nat.le_succ _, Nat.le_refl _⟩
    split; · exact ⟨Nat.le_refl _, Nat.le_succ _⟩
    split; · exact ⟨Nat.le_succ _, Nat.le_refl _⟩
    split; · exact ⟨Nat.le_refl _, Nat.le_succ _⟩
    split <;> exact ⟨Nat.le_refl _, Nat.le_succ _⟩
  · rw [st_err he]; exact ⟨Nat.le_refl _, Nat.le_succ _⟩
theorem run_last (S : St) (z : Nat → Opn) : ∀ k, (runS S z k).last ≤ S.last + k
  | 0 => Nat.le_refl _
  | k + 1 => by
    have h1 := run_last S z k
    have h2 := (st_last (runS S z k) (z k)).2
    show (stOf (runS S z k) (z k)).last ≤ _
    omega

def snO (v : Nat) : Opn := ⟨3, v, 0, 0, 0, fun _ => 0⟩
theorem sn_err {S : St} {v : Nat} {D : VD} (hv : S.vols (kU v) = some D) (hl : S.last < 18446744073709551615) : errOf S (snO v) = 0 := by
  have h1 : ¬ S.last = 18446744073709551615 := by omega
  unfold errOf snO flagsOf wrongS
  simp [hv, h1]
theorem sn_st {S : St} {v : Nat} {D : VD} (hv : S.vols (kU v) = some D) (hl : S.last < 18446744073709551615) : stOf S (snO v) = S.made D := by
  rw [stOf_ok (sn_err hv hl)]
  show S.made (S.volOf v) = _
  rw [volOf_is hv]
theorem sn_rep {S : St} {v : Nat} {D : VD} (hv : S.vols (kU v) = some D) (hl : S.last < 18446744073709551615) : repOf S (snO v) = ⟨0, S.last + 1, 0, fun _ => 0, 0⟩ := by
  rw [repOf_ok (sn_err hv hl)]
  rfl
theorem sn_isOp (w : World) {v : Nat} (hv : v < 18446744073709551616) : IsOp w (opV 3 v 0 0 (.slice none 0 0)) (snO v) :=
  ⟨none, 0, rfl, bytes_none, ⟨by show 3 ≤ 255; omega, hv, by show 0 < 18446744073709551616; omega, by show 0 < 18446744073709551616; omega, Nat.zero_le _⟩⟩
theorem made_vol (S : St) (D : VD) : (S.made D).vols (kU (S.last + 1)) = some D := upd_same
theorem made_size (S : St) (D : VD) : (S.made D).size = S.size := rfl
theorem made_last (S : St) (D : VD) : (S.made D).last = S.last + 1 := rfl

theorem id_eq {S : St} {l l' : List Nat} (h : IdList S l) (h' : IdList S l') : l = l' := by
  have hp : l.Perm l' := (List.perm_ext_iff_of_nodup (h.1.imp (fun hab => by omega)) (h'.1.imp (fun hab => by omega))).2 fun x => by rw [h.2, h'.2]
  exact List.Perm.eq_of_pairwise (le := fun a b => a < b) (fun a b _ _ h1 h2 => by omega) h.1 h'.1 hp
/-- One number more. -/
theorem made_ids {S : St} {D : VD} {l l' : List Nat} (h : IdList S l) (hle : ∀ x, x ∈ l → x ≤ S.last) (h' : IdList (S.made D) l') : l'.length = l.length + 1 := by
  have : l' = l ++ [S.last + 1] := id_eq h' ⟨List.pairwise_append.2 ⟨h.1, List.pairwise_singleton _ _, fun a ha b hb => by simp at hb; have := hle a ha; omega⟩, fun x => by
    simp only [List.mem_append, List.mem_singleton]
    by_cases e : x = S.last + 1
    · subst e; rw [made_vol]; simp
    · have : (S.made D).vols (kU x) = S.vols (kU x) := upd_other (fun q => e (kU_inj q))
      rw [this, ← h.2 x]
      simp [e]⟩
  rw [this]; simp

/-- A volume that nobody names stays as it is. -/
theorem keep_vol {T : St} {o : Opn} {rv : Nat} {D : VD} (h : T.vols (kU rv) = some D) (hl : rv ≤ T.last) (hne : o.vol ≠ rv) : (stOf T o).vols (kU rv) = some D := by
  have n1 : kU rv ≠ kU (T.last + 1) := fun e => by have := kU_inj e; omega
  have n2 : kU rv ≠ kU o.vol := fun e => hne (kU_inj e).symm
  by_cases he : errOf T o = 0
  · rw [stOf_ok he]
    split; · exact (upd_other n1).trans h
    split; · exact (upd_other n2).trans h
    split; · exact (upd_other n1).trans h
    split; · exact (upd_other n2).trans h
    split; · exact (upd_other n2).trans h
    exact h
  · rw [st_err he]; exact h
theorem rep_new {T : St} {o : Opn} (he : (repOf T o).err = 0) (hc : o.code = 1 ∨ o.code = 3) : (repOf T o).vol = T.last + 1 := by
  have h0 : errOf T o = 0 := by rw [← rep_errf]; exact he
  rw [repOf_ok h0, if_pos hc]

end Go.Proofs.Ytbejcmbdaoakbaa
