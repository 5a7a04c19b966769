/- Package base: steps, put together; a super whose Gen is one more. -/
import Derived.Test.YtkhcaclndepgbaaGreatZn29
set_option linter.unusedVariables false
set_option linter.unusedSimpArgs false
set_option maxRecDepth 100000
set_option maxHeartbeats 20000000
namespace Go.Proofs.YtkhcaclndepgbaaGreat
open Go.RowKit
theorem steps_app {W w5:World} {base dp n k m:Nat} {v v':Value} {vs vs2:List Value} {ops ops2:List (Option (Nat × (Nat->Nat)))} (hk:ops.length=k) (hm:ops2.length=m) (hrow:W.ownsRow base 142 1 v k vs)
  (hall:∀ (i:Nat) (x:Option (Nat × (Nat->Nat))),ops[i]?=some x->∃ u:Value,vs[i]?=some u/\StepIs W dp n u x) (hall2:∀ (i:Nat) (x:Option (Nat × (Nat->Nat))),ops2[i]?=some x->∃ u:Value,vs2[i]?=some u/\StepIs W dp n u x)
  (hown:w5.ownsRow base 142 1 v' (k+m) (vs++vs2)) (hg:W.grownBy w5 v.ownBlock):StepsAt w5 base dp n v' (ops++ops2):=by
 have hlen:vs.length=k:=by have:=hrow.1;simpa using this
 refine ⟨vs++vs2,by rw [List.length_append,hk,hm];exact hown,fun i y hy=>?_⟩;by_cases hi:i<k
 ·rw [List.getElem?_append_left (by omega)] at hy
  obtain ⟨u,h1,h2⟩:=hall i y hy;exact ⟨u,by rw [List.getElem?_append_left (by omega)];exact h1,stepRow_far hrow hg h2⟩
 ·rw [List.getElem?_append_right (by omega)] at hy
  obtain ⟨u,h1,h2⟩:=hall2 _ y hy;exact ⟨u,by rw [List.getElem?_append_right (by omega),hlen,<- hk];exact h1,stepRow_far hrow hg h2⟩
theorem StepIs.one {w:World} {dp n:Nat} {u:Value} {x:Option (Nat × (Nat->Nat))} (h:StepIs w dp n u x):u.oneCell'=true:=by
 cases x with
 | none=>obtain rfl:u=_:=h;rfl
 | some x=>obtain ⟨a,b,c,k,o,cap,rfl,_⟩:=h;rfl
theorem steps_one {w:World} {base dp n:Nat} {v:Value} {vs:List Value} {ops:List (Option (Nat × (Nat->Nat)))} (hrow:w.ownsRow base 142 1 v ops.length vs)
  (hall:∀ (i:Nat) (x:Option (Nat × (Nat->Nat))),ops[i]?=some x->∃ u:Value,vs[i]?=some u/\StepIs w dp n u x):∀ u,u∈vs->u.oneCell'=true:=by
 intro u hu;have hlen:vs.length=ops.length:=by have:=hrow.1;simpa using this
 obtain ⟨i,hi,rfl⟩:=List.mem_iff_getElem.1 hu;obtain ⟨u',h1,h2⟩:=hall i _ (List.getElem?_eq_getElem (by omega));rw [List.getElem?_eq_getElem hi] at h1;injection h1 with h1;rw [h1];exact h2.one
theorem StepsAt.chg {w w':World} {base dp n:Nat} {v:Value} {ops:List (Option (Nat × (Nat->Nat)))} (h:StepsAt w base dp n v ops) (c:Chg [] w w'):StepsAt w' base dp n v ops:=by
 obtain ⟨vs,h1,h2⟩:=h;exact ⟨vs,own_chgT h1 c (by simp),fun i x hx=>by obtain ⟨u,q1,q2⟩:=h2 i x hx;exact ⟨u,q1,q2.on c⟩⟩
theorem keep_now (T:Tal):T.keep.now=T.now:=rfl
theorem keep_n (T:Tal):T.keep.n=T.n:=rfl
theorem done_T (B:Bs):B.done.T=B.F.T.keep:=by unfold Bs.done;rfl
theorem done_K (B:Bs):B.done.K=B.F.K:=by unfold Bs.done;rfl
theorem done_a (B:Bs):B.done.a=B.F.a:=by unfold Bs.done;rfl
theorem done_now_le {B:Bs} (h:B.done.Ok) {i:Nat} (hi:i<B.F.T.n):B.F.T.now i<65536:=by
 have:=(h.le i (by rw [done_T,keep_n];exact hi)).1;rw [done_T,keep_now] at this;exact Nat.lt_of_le_of_lt this (by decide)
theorem sup_gen1 (S:Sup) (g:Nat):S.row.setIfInBounds 0 (.int .u64 (g:Int))=(Sup.mk g S.blocks S.roots S.marks).row:=by
 rw [row_lit,row_lit];rfl
theorem next_row {B:Bs} {N:Nat} (hN:N=B.T.n):(rootK B.S (nOf N 1) (B.F.a 1) 2).row.setIfInBounds 0 (.int .u64 ((B.S.gen+1:Nat):Int))=B.nextS.row:=by
 rw [sup_gen1];subst hN;rfl
theorem base_done {M:Bm} {R R':Br} {B B':Bs} {S:Sup} {SX:Nat->Value} {v:Value} (hn:B'.T.n=B.T.n) (h0:SX 0 = .slice (some ⟨R'.g 0,0,none⟩) (nOf B'.T.n 0) (R'.c 0)) (h1:SX 1 = .slice (some ⟨R'.g 1,0,none⟩) (nOf B'.T.n 1) (R'.c 1))
  (hS:B'.S=S) (hK:B'.Kp=S) (hv:v = .int .i64 ((B'.Kp.gen % 2:Nat):Int)) :
  (fnRow 44 (laid (laid (laid (baseV M R B) SX 3 2) S.cellV 6 18) S.cellV 24 18)).setIfInBounds 42 v=fnRow 44 (baseV M R' B'):=by
 refine base_set (by omega) (by rw [hv];rfl) (fun j hj hne=>?_);unfold laid;by_cases a:24<=j/\j<24+18
 ·rw [if_pos a]
  have e:j=24+(j - 24):=by omega
  rw [e,baseV_K _ _ _ (by omega),hK,Nat.add_sub_cancel_left]
 ·rw [if_neg a]
  by_cases b:6<=j/\j<6+18
  ·rw [if_pos b]
   have e:j=6+(j - 6):=by omega
   rw [e,baseV_S _ _ _ (by omega),hS,Nat.add_sub_cancel_left]
  ·rw [if_neg b]
   by_cases c:3<=j/\j<3+2
   ·rw [if_pos c]
    rcases (show j=3∨j=4 by omega) with rfl | rfl
    ·exact h0.symm
    ·exact h1.symm
   ·rw [if_neg c]
    unfold baseV;by_cases j0:j=0
    ·subst j0;rfl
    by_cases j1:j=1
    ·subst j1;rfl
    by_cases j2:j=2
    ·subst j2;rfl
    by_cases j5:j=5
    ·subst j5;rfl
    obtain rfl:j=43:=by omega
    rfl
theorem frV_some {R:Br} {B:Bs} (k:Nat):(frV R B k).isSome=(B.fr k).isSome:=by
 unfold frV;cases h:(B.fr k).isSome <;> simp
theorem ops_wr {R:Br} {B:Bs} {frs l0 l1:List Nat} {N:Nat} (hN:N=B.T.n) (hf:frs=yesTo (fun k=>(frV R B k).isSome) N) (h0:l0=yesTo (B.F.p 0) (nOf N 0)) (h1:l1=yesTo (B.F.p 1) (nOf N 1)) :
  frs.map (fun b=>some (b,(B.fr b).getD fun _=>0))++((l0.map fun i=>some (B.F.a 0 i,rowP 5 N B.F.T.now i))++(l1.map fun i=>some (B.F.a 1 i,rowP 4 (pg N) (B.F.a 0) i)))=B.wr.map some:=by
 have e:frs=B.frs:=by
  rw [hf,hN];unfold Bs.frs;congr 1;funext k
  exact frV_some k
 subst hN;rw [e,h0,h1];unfold Bs.wr Bs.frW pagesW dirsW;simp only [List.map_append,List.map_map];rfl
end Go.Proofs.YtkhcaclndepgbaaGreat
