/- What Do does: plainly. -/
import Derived.Test.YtbejcmbdaoakbaaMdW
namespace Go.Proofs.Ytbejcmbdaoakbaa
open Go.RowKit Go.Maps
set_option linter.unusedVariables false
set_option linter.unusedSimpArgs false

/-- An operation: its code, volume, place, number, data. -/
structure Opn where
  code : Nat
  vol : Nat
  pl : Nat
  n : Nat
  len : Nat
  f : Nat → Nat

def flagsOf (c : Nat) : Bool × Bool × Bool × Bool × Bool :=
  if c = 1 then (false, false, false, false, true) else if c = 2 then (true, false, false, false, false) else if c = 3 then (true, false, false, false, true)
  else if c = 4 then (true, true, false, false, false) else if c = 5 then (true, true, false, true, false) else if c = 6 then (true, true, true, false, false) else (false, false, false, false, false)
def errOf (S : St) (o : Opn) : Nat :=
  if o.code = 0 ∨ 9 < o.code then 240
  else wrongS S (flagsOf o.code).1 (flagsOf o.code).2.1 (flagsOf o.code).2.2.1 (flagsOf o.code).2.2.2.1 (flagsOf o.code).2.2.2.2 o.vol o.pl o.n o.len
def St.volOf (S : St) (v : Nat) : VD := (S.vols (kU v)).getD (.map [])
noncomputable def stOf (S : St) (o : Opn) : St :=
  if errOf S o ≠ 0 then S
  else if o.code = 1 then S.made (.map []) else if o.code = 2 then S.drop o.vol else if o.code = 3 then S.made (S.volOf o.vol)
  else if o.code = 5 then S.setVol o.vol ((S.volOf o.vol).put (kU o.pl) (.held (.agg (u8s 128 o.f))))
  else if o.code = 6 then S.setVol o.vol (Lib.deleteFuncD (pdT o.pl o.n) (S.volOf o.vol)) else S
def repOf (S : St) (o : Opn) : Rep :=
  if errOf S o ≠ 0 then ⟨errOf S o, 0, 0, fun _ => 0, 0⟩
  else if o.code = 1 ∨ o.code = 3 then ⟨0, S.last + 1, 0, fun _ => 0, 0⟩ else if o.code = 4 then ⟨0, 0, 128, byteOf' (blkAt (S.volOf o.vol) o.pl), 0⟩
  else if o.code = 6 then ⟨0, 0, 0, fun _ => 0, Maps.size (S.volOf o.vol) - Maps.size (Lib.deleteFuncD (pdT o.pl o.n) (S.volOf o.vol))⟩
  else if o.code = 9 then ⟨0, 0, 0, fun _ => 0, S.cnt⟩ else Rep.none

theorem volOf_some {S : St} {v : Nat} (h : (S.vols (kU v)).isSome = true) : S.vols (kU v) = some (S.volOf v) := by
  unfold St.volOf
  cases hq : S.vols (kU v) with
  | none => rw [hq] at h; cases h
  | some D => rfl
theorem wrong_there {S : St} {fa fn fd fx : Bool} {v pl n len : Nat} (h : wrongS S true fa fn fd fx v pl n len = 0) : S.vols (kU v) = some (S.volOf v) := by
  refine volOf_some ?_
  cases hq : (S.vols (kU v)).isSome with
  | true => rfl
  | false => unfold wrongS at h; rw [hq] at h; simp at h
theorem wrong_data {S : St} {fv fa fn fx : Bool} {v pl n len : Nat} (h : wrongS S fv fa fn true fx v pl n len = 0) : len = 128 := by
  unfold wrongS at h
  split at h
  · omega
  · split at h
    · omega
    · split at h
      · omega
      · rename_i hn; simp at hn; exact hn
theorem wrong_next {S : St} {fv fa fn fd : Bool} {v pl n len : Nat} (h : wrongS S fv fa fn fd true v pl n len = 0) (hl : S.last < 18446744073709551616) : S.last + 1 < 18446744073709551616 := by
  unfold wrongS at h
  split at h
  · omega
  · split at h
    · omega
    · split at h
      · omega
      · split at h
        · omega
        · rename_i hn; simp at hn; omega

theorem MdAt.lastlt {N : Nat} {L : List Nat} {w : World} {p : Nat} {S : St} (h : MdAt N L w p S) : S.last < 18446744073709551616 := by
  obtain ⟨mb, D, C, hp, M⟩ := h
  exact M.last

end Go.Proofs.Ytbejcmbdaoakbaa
