/- catchmentlaw03.refused. -/
import Derived.Test.YtjceoheiiohfcaaEqN
namespace Go.Proofs.Ytjceoheiiohfcaa
open Go.RowKit
set_option linter.unusedVariables false
set_option linter.unusedSimpArgs false

set_option maxRecDepth 20000 in
set_option maxHeartbeats 2000000 in
theorem refused_at {A : List Nat} {w : World} {leaf : Bool} {vk vv : Value} {nk nv : Nat} {keys vals : Nat → Nat} (hk : NumsIn A w vk nk keys) (hv : NumsIn A w vv nv vals) (hb : rightB leaf nk nv keys vals = false) :
    Calls Try.prog 22 #[.bool leaf, vk, vv] w fun e w' => e = .returned (.bool true) ∧ Chg [] w w' := by
  obtain ⟨ak, ck, rfl, _⟩ := hk.cap
  obtain ⟨av, cv, rfl, _⟩ := hv.cap
  have c := enc_bad hk hv hb
  clear hk hv hb
  go_enter Try.func22, Try.ntmps22
  go_wp2_with fail
  refine c.mono ?_
  clear c
  rintro e w1 ⟨rfl, hC⟩
  have HC := Lib.hid hC
  clear hC
  go_wp2_with fail
  go_ret
  exact ⟨rfl, HC.out⟩

end Go.Proofs.Ytjceoheiiohfcaa
