/- Package base: Commit. -/
import Derived.Test.YtkhcaclndepgbaaGreatZg40
set_option linter.unusedVariables false
set_option linter.unusedSimpArgs false
set_option maxRecDepth 100000
set_option maxHeartbeats 20000000
namespace Go.Proofs.YtkhcaclndepgbaaGreat
open Go.RowKit
theorem ShV.row {w:World} {v0 v1:Value} {S:Nat→Nat→Nat} {n g c:Nat→Nat} (h:ShV w v0 v1 S n g c) {k:Nat} (hk:k<2):n k≤c k∧c k≤maxLen∧g k<w.heap.size∧∀ i,i<n k→w.cell? ⟨g k,i,none⟩=some (.int .i64 (S k i:Int)):=by
 rcases h.l k hk with ⟨e,_⟩ | ⟨gg,cap,e,q1,q2,q3,q4⟩
 ·cases e
 ·injection e with e e2 e3
  injection e with e
  injection e with e
  rw [atL_len] at q1 q4
  subst e;subst e3
  refine ⟨q1,q2,q3,fun i hi=>?_⟩
  have:=q4 i hi
  rw [atL_get _ _ hi] at this
  exact this
end Go.Proofs.YtkhcaclndepgbaaGreat
