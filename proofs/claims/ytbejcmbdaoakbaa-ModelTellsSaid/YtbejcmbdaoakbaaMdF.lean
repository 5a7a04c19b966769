/- Model.Do, whole. -/
import Derived.Test.YtbejcmbdaoakbaaMdD1
import Derived.Test.YtbejcmbdaoakbaaMdD2
import Derived.Test.YtbejcmbdaoakbaaMdD3
import Derived.Test.YtbejcmbdaoakbaaMdI
namespace Go.Proofs.Ytbejcmbdaoakbaa
open Go.RowKit Go.Maps
set_option linter.unusedVariables false
set_option linter.unusedSimpArgs false

theorem doneIf_of {N : Nat} {L : List Nat} {w : World} {p : Nat} {S S' : St} {R : Rep} {o : Opn} {ev : Nat} (he : errOf S o = ev) (hs : ev = 0 → stOf S o = S') (hr : ev = 0 → repOf S o = R) {e : Ending} {w' : World} (h : DoneIf N L w p ev S' R S e w') : Done N L w p (stOf S o) (repOf S o) e w' := by
  unfold DoneIf at h
  by_cases h0 : ev = 0
  · rw [if_pos h0] at h
    rw [hs h0, hr h0]
    exact h
  · rw [if_neg h0] at h
    have e1 : stOf S o = S := by unfold stOf; rw [if_pos (by rw [he]; exact h0)]
    have e2 : repOf S o = ⟨ev, 0, 0, fun _ => 0, 0⟩ := by unfold repOf; rw [if_pos (by rw [he]; exact h0), he]
    rw [e1, e2]
    exact h

theorem stOf_ok {S : St} {o : Opn} (h : errOf S o = 0) : stOf S o = (if o.code = 1 then S.made (.map []) else if o.code = 2 then S.drop o.vol else if o.code = 3 then S.made (S.volOf o.vol)
    else if o.code = 5 then S.setVol o.vol ((S.volOf o.vol).put (kU o.pl) (.held (.agg (u8s 128 o.f))))
    else if o.code = 6 then S.setVol o.vol (Lib.deleteFuncD (pdT o.pl o.n) (S.volOf o.vol)) else S) := by
  unfold stOf
  rw [if_neg (by rw [h]; decide)]
theorem repOf_ok {S : St} {o : Opn} (h : errOf S o = 0) : repOf S o = (if o.code = 1 ∨ o.code = 3 then ⟨0, S.last + 1, 0, fun _ => 0, 0⟩ else if o.code = 4 then ⟨0, 0, 128, byteOf' (blkAt (S.volOf o.vol) o.pl), 0⟩
    else if o.code = 6 then ⟨0, 0, 0, fun _ => 0, Maps.size (S.volOf o.vol) - Maps.size (Lib.deleteFuncD (pdT o.pl o.n) (S.volOf o.vol))⟩
    else if o.code = 9 then ⟨0, 0, 0, fun _ => 0, S.cnt⟩ else Rep.none) := by
  unfold repOf
  rw [if_neg (by rw [h]; decide)]

theorem do_at {N : Nat} {L : List Nat} {w : World} {p : Nat} {S : St} {v : Value} {o : Opn} (h : MdAt N L w p S) (hN : N ≤ 1000000) (ho : IsOp w v o) :
    Calls Try.prog 12 #[.pointer (some ⟨p, 0, none⟩), v] w (Done N L w p (stOf S o) (repOf S o)) := by
  obtain ⟨a, cap, rfl, hB, hO⟩ := ho
  obtain ⟨code, vol, pl, n, len, f⟩ := o
  have hc := hO.code
  by_cases hbad : code = 0 ∨ 9 < code
  · have he : errOf S ⟨code, vol, pl, n, len, f⟩ = 240 := by unfold errOf; rw [if_pos hbad]
    have e1 : stOf S ⟨code, vol, pl, n, len, f⟩ = S := by unfold stOf; rw [if_pos (by rw [he]; decide)]
    have e2 : repOf S ⟨code, vol, pl, n, len, f⟩ = ⟨240, 0, 0, fun _ => 0, 0⟩ := by unfold repOf; rw [if_pos (by rw [he]; decide), he]
    rw [e1, e2]
    exact do_none h hbad hc
  · have h9 : code = 1 ∨ code = 2 ∨ code = 3 ∨ code = 4 ∨ code = 5 ∨ code = 6 ∨ code = 7 ∨ code = 8 ∨ code = 9 := by omega
    clear hbad
    rcases h9 with rfl | rfl | rfl | rfl | rfl | rfl | rfl | rfl | rfl
    · have he : errOf S ⟨1, vol, pl, n, len, f⟩ = wrongS S false false false false true vol pl n len := by simp [errOf, flagsOf]
      exact (do_1 h hN hO.vol hO.pl hO.n hO.len hB).mono fun e w' hd => doneIf_of he (fun h0 => by rw [stOf_ok (he.trans h0)]; simp) (fun h0 => by rw [repOf_ok (he.trans h0)]; simp) hd
    · have he : errOf S ⟨2, vol, pl, n, len, f⟩ = wrongS S true false false false false vol pl n len := by simp [errOf, flagsOf]
      exact (do_2 h hN hO.vol hO.pl hO.n hO.len hB).mono fun e w' hd => doneIf_of he (fun h0 => by rw [stOf_ok (he.trans h0)]; simp) (fun h0 => by rw [repOf_ok (he.trans h0)]; simp) hd
    · have he : errOf S ⟨3, vol, pl, n, len, f⟩ = wrongS S true false false false true vol pl n len := by simp [errOf, flagsOf]
      exact (do_3 h hN hO.vol hO.pl hO.n hO.len hB).mono fun e w' hd => doneIf_of he (fun h0 => by rw [stOf_ok (he.trans h0)]; simp) (fun h0 => by rw [repOf_ok (he.trans h0)]; simp) hd
    · have he : errOf S ⟨4, vol, pl, n, len, f⟩ = wrongS S true true false false false vol pl n len := by simp [errOf, flagsOf]
      exact (do_4 h hN hO.vol hO.pl hO.n hO.len hB).mono fun e w' hd => doneIf_of he (fun h0 => by rw [stOf_ok (he.trans h0)]; simp) (fun h0 => by rw [repOf_ok (he.trans h0)]; simp) hd
    · have he : errOf S ⟨5, vol, pl, n, len, f⟩ = wrongS S true true false true false vol pl n len := by simp [errOf, flagsOf]
      exact (do_5 h hN hO.vol hO.pl hO.n hO.len hB).mono fun e w' hd => doneIf_of he (fun h0 => by rw [stOf_ok (he.trans h0)]; simp) (fun h0 => by rw [repOf_ok (he.trans h0)]; simp) hd
    · have he : errOf S ⟨6, vol, pl, n, len, f⟩ = wrongS S true true true false false vol pl n len := by simp [errOf, flagsOf]
      exact (do_6 h hN hO.vol hO.pl hO.n hO.len hB).mono fun e w' hd => doneIf_of he (fun h0 => by rw [stOf_ok (he.trans h0)]; simp) (fun h0 => by rw [repOf_ok (he.trans h0)]; simp) hd
    · have he : errOf S ⟨7, vol, pl, n, len, f⟩ = wrongS S false false false false false vol pl n len := by simp [errOf, flagsOf]
      exact (do_7 h hN hO.vol hO.pl hO.n hO.len hB).mono fun e w' hd => doneIf_of he (fun h0 => by rw [stOf_ok (he.trans h0)]; simp) (fun h0 => by rw [repOf_ok (he.trans h0)]; simp) hd
    · have he : errOf S ⟨8, vol, pl, n, len, f⟩ = wrongS S false false false false false vol pl n len := by simp [errOf, flagsOf]
      exact (do_8 h hN hO.vol hO.pl hO.n hO.len hB).mono fun e w' hd => doneIf_of he (fun h0 => by rw [stOf_ok (he.trans h0)]; simp) (fun h0 => by rw [repOf_ok (he.trans h0)]; simp) hd
    · have he : errOf S ⟨9, vol, pl, n, len, f⟩ = wrongS S false false false false false vol pl n len := by simp [errOf, flagsOf]
      exact (do_9 h hN hO.vol hO.pl hO.n hO.len hB).mono fun e w' hd => doneIf_of he (fun h0 => by rw [stOf_ok (he.trans h0)]; simp) (fun h0 => by rw [repOf_ok (he.trans h0)]; simp) hd

end Go.Proofs.Ytbejcmbdaoakbaa
