/- Package base: steps, put together; a super whose Gen is one more. -/
import Derived.Test.YtkhcaclndepgbaaGreatZg39
set_option linter.unusedVariables false
set_option linter.unusedSimpArgs false
set_option maxRecDepth 100000
set_option maxHeartbeats 20000000
namespace Go.Proofs.YtkhcaclndepgbaaGreat
open Go.RowKit
theorem steps_app {W w5:World} {base dp n k m:Nat} {v v':Value} {vs vs2:List Value} {ops ops2:List (Option (Nat × (Nat→Nat)))} (hk:ops.length=k) (hm:ops2.length=m) (hrow:W.ownsRow base 142 1 v k vs)
  (hall:∀ (i:Nat) (x:Option (Nat × (Nat→Nat))),ops[i]?=some x→∃ u:Value,vs[i]?=some u∧StepIs W dp n u x) (hall2:∀ (i:Nat) (x:Option (Nat × (Nat→Nat))),ops2[i]?=some x→∃ u:Value,vs2[i]?=some u∧StepIs W dp n u x)
  (hown:w5.ownsRow base 142 1 v' (k+m) (vs++vs2)) (hg:W.grownBy w5 v.ownBlock):StepsAt w5 base dp n v' (ops++ops2):=by
 have hlen:vs.length=k:=by have:=hrow.1;simpa using this
 refine ⟨vs++vs2,by rw [List.length_append,hk,hm];exact hown,fun i y hy=>?_⟩
 by_cases hi:i<k
 ·rw [List.getElem?_append_left (by omega)] at hy
  obtain ⟨u,h1,h2⟩:=hall i y hy
  exact ⟨u,by rw [List.getElem?_append_left (by omega)];exact h1,stepRow_far hrow hg h2⟩
 ·rw [List.getElem?_append_right (by omega)] at hy
  obtain ⟨u,h1,h2⟩:=hall2 _ y hy
  exact ⟨u,by rw [List.getElem?_append_right (by omega),hlen,← hk];exact h1,stepRow_far hrow hg h2⟩
theorem StepIs.one {w:World} {dp n:Nat} {u:Value} {x:Option (Nat × (Nat→Nat))} (h:StepIs w dp n u x):u.oneCell'=true:=by
 cases x with
 | none=>obtain rfl:u=_:=h;rfl
 | some x=>obtain ⟨a,b,c,k,o,cap,rfl,_⟩:=h;rfl
theorem steps_one {w:World} {base dp n:Nat} {v:Value} {vs:List Value} {ops:List (Option (Nat × (Nat→Nat)))} (hrow:w.ownsRow base 142 1 v ops.length vs)
  (hall:∀ (i:Nat) (x:Option (Nat × (Nat→Nat))),ops[i]?=some x→∃ u:Value,vs[i]?=some u∧StepIs w dp n u x):∀ u,u∈vs→u.oneCell'=true:=by
 intro u hu
 have hlen:vs.length=ops.length:=by have:=hrow.1;simpa using this
 obtain ⟨i,hi,rfl⟩:=List.mem_iff_getElem.1 hu
 obtain ⟨u',h1,h2⟩:=hall i _ (List.getElem?_eq_getElem (by omega))
 rw [List.getElem?_eq_getElem hi] at h1
 injection h1 with h1
 rw [h1];exact h2.one
theorem StepsAt.chg {w w':World} {base dp n:Nat} {v:Value} {ops:List (Option (Nat × (Nat→Nat)))} (h:StepsAt w base dp n v ops) (c:Chg [] w w'):StepsAt w' base dp n v ops:=by
 obtain ⟨vs,h1,h2⟩:=h
 exact ⟨vs,own_chgT h1 c (by simp),fun i x hx=>by obtain ⟨u,q1,q2⟩:=h2 i x hx;exact ⟨u,q1,q2.on c⟩⟩
theorem keep_n (T:Tal):T.keep.n=T.n:=rfl
end Go.Proofs.YtkhcaclndepgbaaGreat
