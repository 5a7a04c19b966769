/- leaf.each, as Decode calls it: the closure. -/
import Derived.Test.YtjceoheiiohfcaaSort64
namespace Go.Proofs.Ytjceoheiiohfcaa
open Go.RowKit
set_option linter.unusedVariables false
set_option linter.unusedSimpArgs false

set_option maxRecDepth 20000 in
set_option maxHeartbeats 1000000 in
theorem dec1_at {w : World} {bb g N c nb no n : Nat} {f h : Nat → Nat} (hbb : w.cell? ⟨bb, 0, none⟩ = some (.slice (some ⟨g, 0, none⟩) N c)) (hb : BytesAt w g 0 N f) (hNc : N ≤ c) (hc : c ≤ 9223372036854775807) (hN : N ≤ 100000)
    (at' : Nat) (hat : at' + 8 ≤ N) (hr : Row64 w nb n h) (hno : no < n) :
    Calls Try.prog 28 #[.int .i64 (at' : Int), .pointer (some ⟨nb, no, none⟩), .pointer (some ⟨bb, 0, none⟩)] w fun e w' =>
      e = .returned (.tuple #[]) ∧ Row64 w' nb n (fun j => if j = no then num f at' 8 else h j) ∧ Chg [nb] w w' := by
  have cG := get_num hb hNc hc (by omega) at' 8 (by omega) (by omega) hat
  have hlt : num f at' 8 < 18446744073709551616 := by
    have := num_lt (f := f) (p := at') (k := 8) fun i hi => (hb (at' + i) (by omega)).2
    rwa [show (256 : Nat) ^ 8 = 18446744073709551616 by decide] at this
  have HS := Lib.hid (hr.set hno hlt)
  have cn := hr.cell hno
  have fn := hr.fz no
  clear hb hr
  go_enter Try.func28, Try.ntmps28
  go_wp2_with fail
  refine cG.mono ?_
  clear cG
  rintro e w' ⟨rfl, rfl⟩
  go_wp2_with fail
  go_end0
  exact ⟨rfl, HS.out, (Chg.refl _ _).setCell (.inl (by simp)) _⟩

end Go.Proofs.Ytjceoheiiohfcaa
