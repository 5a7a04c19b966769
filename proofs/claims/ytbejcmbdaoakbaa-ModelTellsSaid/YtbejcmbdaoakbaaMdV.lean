/- catchmentlaw24.Same: two replies. -/
import Derived.Test.YtbejcmbdaoakbaaMdO
namespace Go.Proofs.Ytbejcmbdaoakbaa
open Go.RowKit Go.Maps
set_option linter.unusedVariables false
set_option linter.unusedSimpArgs false

def repEq (R1 R2 : Rep) : Bool := decide (R1.err = R2.err) && decide (R1.vol = R2.vol) && decide (R1.cnt = R2.cnt) && eqF R1.n R2.n R1.f R2.f
theorem repEq_self (R : Rep) : repEq R R = true := by
  unfold repEq
  simp [eqF_iff]

set_option maxRecDepth 20000 in
set_option maxHeartbeats 4000000 in
theorem same24_at {w : World} {R1 R2 : Rep} {a1 a2 : Option Addr} {c1 c2 : Nat} (h1 : BytesIn w a1 R1.n c1 R1.f) (h2 : BytesIn w a2 R2.n c2 R2.f) :
    Calls Try.prog 13 #[repV R1.err R1.vol (.slice a1 R1.n c1) R1.cnt, repV R2.err R2.vol (.slice a2 R2.n c2) R2.cnt] w fun e w' => e = .returned (.bool (repEq R1 R2)) ∧ Chg [] w w' := by
  obtain ⟨e1, v1, n1, f1, k1⟩ := R1
  obtain ⟨e2, v2, n2, f2, k2⟩ := R2
  have HRE : Hid (repEq ⟨e1, v1, n1, f1, k1⟩ ⟨e2, v2, n2, f2, k2⟩ = (decide (e1 = e2) && decide (v1 = v2) && decide (k1 = k2) && eqF n1 n2 f1 f2)) := Lib.hid rfl
  have H1 := Lib.hid h1
  have H2 := Lib.hid h2
  clear h1 h2
  unfold repV
  by_cases he : e1 = e2
  case' neg =>
    have he' : ((e1 : Int) == (e2 : Int)) = false := by simp; omega
    have he'' : ¬ (e1 : Int) = (e2 : Int) := by omega
    go_enter Try.func13, Try.ntmps13
    go_wp2_with fail
    go_ret
    exact ⟨by rw [HRE.out, decide_eq_false he, Bool.false_and, Bool.false_and, Bool.false_and]; rfl, ((Chg.refl [] w).alloc _).alloc _⟩
  case' pos =>
    subst he
    by_cases hv : v1 = v2
    case' neg =>
      have he' : ((v1 : Int) == (v2 : Int)) = false := by simp; omega
      have he'' : ¬ (v1 : Int) = (v2 : Int) := by omega
      go_enter Try.func13, Try.ntmps13
      go_wp2_with fail
      go_ret
      exact ⟨by rw [HRE.out, decide_eq_false hv, Bool.and_false, Bool.false_and, Bool.false_and]; rfl, ((Chg.refl [] w).alloc _).alloc _⟩
    case' pos =>
      subst hv
      by_cases hk : k1 = k2
      case' neg =>
        have he' : ((k1 : Int) == (k2 : Int)) = false := by simp; omega
        have he'' : ¬ (k1 : Int) = (k2 : Int) := by omega
        go_enter Try.func13, Try.ntmps13
        go_wp2_with fail
        go_ret
        exact ⟨by rw [HRE.out, decide_eq_false hk, Bool.and_false, Bool.false_and]; rfl, ((Chg.refl [] w).alloc _).alloc _⟩
      case' pos =>
        subst hk
        go_enter Try.func13, Try.ntmps13
        go_wp2_with fail
        have hc := ((Chg.refl [] w).alloc (.cells #[.int .i64 (e1 : Int), .int .u64 (v1 : Int), .slice a1 n1 c1, .int .i64 (k1 : Int)] 32)).alloc (.cells #[.int .i64 (e1 : Int), .int .u64 (v1 : Int), .slice a2 n2 c2, .int .i64 (k1 : Int)] 32)
        refine (equal_at (H1.out.chg hc (by simp)) (H2.out.chg hc (by simp))).mono ?_
        rintro e w' ⟨rfl, rfl⟩
        go_wp2_with fail
        go_ret
        exact ⟨by rw [HRE.out]; simp, hc⟩

end Go.Proofs.Ytbejcmbdaoakbaa
