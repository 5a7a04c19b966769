/- Regions that draw their order: loads may be taken ahead though later stores of the region change what they read, if these stores wait for them. -/
import Derived.Test.YtkhcaclndepgbaaGreatZn01
set_option linter.unusedVariables false
set_option linter.unusedSimpArgs false
set_option maxRecDepth 100000
set_option maxHeartbeats 20000000
namespace Go.Proofs.YtkhcaclndepgbaaGreat
section
variable {P:Program} {ops:Array Oper} {Q:Exit->Act->World->Prop} {md:Region.Mode} {D:List Nat} {R:World->Prop}
def Brk (D:List Nat) (R:World->Prop) (listed:Array Bool) (w:World):Prop:=(∀ d,d∈D->listed.getD d false=false)->R w
def wpAnyB (P:Program) (md:Region.Mode) (ops:Array Oper) (Q:Exit->Act->World->Prop) (D:List Nat) (R:World->Prop):Nat->Array Bool->Act->World->Prop
 | 0,listed,a,w=>Region.ready md ops listed=[]/\Q .normal a w
 | fuel+1,listed,a,w =>
  (Region.ready md ops listed=[]->Q .normal a w) /\
  ∀ i∈Region.ready md ops listed,wpOp P ops Q i (fun a' w'=>Brk D R (listed.setIfInBounds i true) w'/\wpAnyB P md ops Q D R fuel (listed.setIfInBounds i true) a' w') a w
theorem wpAny_of_B:∀ (fuel:Nat) (listed:Array Bool) (a:Act) (w:World),wpAnyB P md ops Q D R fuel listed a w->wpAny P md ops Q fuel listed a w
 | 0,_,_,_,h=>h
 | fuel+1,_,_,_,h=>⟨h.1,fun i hi=>wpOp_mono (fun a' w' h'=>wpAny_of_B fuel _ a' w' h'.2) (h.2 i hi)⟩
def Closed (md:Region.Mode) (ops:Array Oper) (l:Array Bool):Prop:=∀ j oj,ops[j]?=some oj->l.getD j false=true->∀ e∈oj.after,Region.binds md e=true->l.getD e.on false=true
def closedB (md:Region.Mode) (ops:Array Oper) (l:Array Bool):Bool:=(List.range ops.size).all fun j => !l.getD j false||((ops[j]?).map (·.after.all fun e => !Region.binds md e||l.getD e.on false)).getD true
theorem closed_of {l:Array Bool} (h:closedB md ops l=true):Closed md ops l:=fun j oj hj hl e he hb=>by
 unfold closedB at h;rw [List.all_eq_true] at h;have:=h j (List.mem_range.2 (Array.getElem?_eq_some_iff.1 hj).1);rw [hj,hl] at this;simp only [Bool.not_true,Bool.false_or,Option.map_some,Option.getD_some,Array.all_eq_true_iff_forall_mem,Bool.or_eq_true] at this;rcases this e he with q | q
 ·rw [hb] at q;cases q
 ·exact q
theorem Closed.step {l:Array Bool} (h:Closed md ops l) {i:Nat} (hi:i∈Region.ready md ops l):Closed md ops (l.setIfInBounds i true):=fun j oj hj hl e he hb=>by
 by_cases hij:i=j
 ·subst hij
  obtain ⟨_,o,ho,hall⟩:=mem_ready.1 hi;rw [hj] at ho;cases ho
  exact getD_set_true (hall e he hb)
 ·rw [getD_set_ne false hij] at hl
  exact getD_set_true (h j oj hj hl e he hb)
def behindB (md:Region.Mode) (ops:Array Oper) (i:Nat):Nat->Nat->Bool
 | 0,_=>false
 | f+1,d=>((ops[d]?).map (·.after.any fun e=>Region.binds md e&&(e.on==i||behindB md ops i f e.on))).getD false
theorem behind_spec {i:Nat} {l:Array Bool} (hc:Closed md ops l) (hi:l.getD i false=false):∀ (f d:Nat),behindB md ops i f d=true->l.getD d false=false
 | 0,d,h=>by cases h
 | f+1,d,h=>by
  unfold behindB at h
  cases ho:ops[d]? with
  | none=>rw [ho] at h;cases h
  | some o =>
   rw [ho] at h;simp only [Option.map_some,Option.getD_some,Array.any_eq_true',Bool.and_eq_true,Bool.or_eq_true,beq_iff_eq] at h;obtain ⟨e,he,hb,h⟩:=h
   cases hd:l.getD d false with
   | false=>rfl
   | true =>
    have h1:=hc d o ho hd e he hb;rcases h with rfl | h
    ·rw [hi] at h1;cases h1
    ·rw [behind_spec hc hi f e.on h] at h1;cases h1
theorem getD_false {l:Array Bool} {i:Nat} (h:l.getD i true=false):l.getD i false=false:=by
 rcases Nat.lt_or_ge i l.size with h' | h'
 ·simp [h'] at h ⊢;exact h
 ·simp [Array.getElem?_eq_none h'] at h
theorem ne_of_not {i d:Nat} {D:List Nat} (h:i∉D) (hd:d∈D):i≠d:=fun e=>h (by rw [e];exact hd)
theorem wpAnyB_first {T:World->Prop} {i:Nat} {oi:Oper} {v:Value} (hi:ops[i]?=some oi) (hsel:∀ (j:Nat) (o:Oper) cs b,ops[j]?=some o->o.op ≠ .select cs b)
  (hQ:∀ c a w,Q (.panic c) (a.put oi.dst v) w->Q (.panic c) a w) (hT:∀ l w,Closed md ops l->l.getD i true=false->Brk D R l w->T w) (hD:i∉D) :
  ∀ (fuel:Nat) (listed:Array Bool) (a:Act) (w:World),
   (∀ j oj,ops[j]?=some oj->j≠i->listed.getD j true=false->(∀ e∈oj.after,Region.binds md e=true->e.on≠i)->oi.apart ops oj=true) ->
   i∈Region.ready md ops listed->Closed md ops listed->YieldsIf P ops T oi v a->Brk D R listed w ->
   wpAnyB P md ops Q D R fuel (listed.setIfInBounds i true) (a.put oi.dst v) w->wpAnyB P md ops Q D R (fuel+1) listed a w:=by
 have hset:∀ (l:Array Bool) (w:World),Brk D R l w->Brk D R (l.setIfInBounds i true) w:=fun l w h q=>h fun d hd=>by
  have:=q d hd;rwa [getD_set_ne false (ne_of_not hD hd)] at this
 have hunset:∀ (l:Array Bool) (w:World),Brk D R (l.setIfInBounds i true) w->Brk D R l w:=fun l w h q=>h fun d hd=>by
  rw [getD_set_ne false (ne_of_not hD hd)];exact q d hd
 intro fuel
 induction fuel with
 | zero =>
  intro listed a w _ hr hc hy hS H;refine ⟨fun h=>(by rw [h] at hr;cases hr),fun j hj=>?_⟩;by_cases hji:j=i
  ·subst hji;exact hy.wpOp hi (hT listed w hc (mem_ready.1 hr).1 hS) ⟨hset _ _ hS,H⟩
  ·have:=ready_mono hj hji
   rw [H.1] at this;cases this
 | succ fuel ih =>
  intro listed a w hfree hr hc hy hS H;refine ⟨fun h=>(by rw [h] at hr;cases hr),fun j hj=>?_⟩;by_cases hji:j=i
  ·subst hji;exact hy.wpOp hi (hT listed w hc (mem_ready.1 hr).1 hS) ⟨hset _ _ hS,H⟩
  ·have h1:=H.2 j (ready_mono hj hji)
   obtain ⟨hjun,oj,hoj,hall⟩:=mem_ready.1 hj
   have hnot:∀ e∈oj.after,Region.binds md e=true->e.on≠i:=fun e he hb heq=>by
    have h1:=hall e he hb;have h0:=(mem_ready.1 hr).1;rw [heq,getD_false h0] at h1;cases h1
   have h2:=wpOp_putIf hoj (hfree j oj hoj hji hjun hnot) (fun cs b=>hsel i oi cs b hi) (fun cs b=>hsel j oj cs b hoj) hQ hy h1
   have hfree':∀ k ok,ops[k]?=some ok->k≠i->(listed.setIfInBounds j true).getD k true=false ->
     (∀ e∈ok.after,Region.binds md e=true->e.on≠i)->oi.apart ops ok=true:=fun k ok hk hki hun hno=>by
    refine hfree k ok hk hki ?_ hno;by_cases hjk:j=k
    ·subst hjk;exact hjun
    ·rw [getD_set_ne true hjk] at hun;exact hun
   refine wpOp_mono (fun a' w' h3=>?_) h2;have hS':Brk D R (listed.setIfInBounds j true) w':=hunset _ _ (by rw [Array.setIfInBounds_comm _ _ hji];exact h3.2.1);refine ⟨hS',ih (listed.setIfInBounds j true) a' w' hfree' (ready_mono hr (Ne.symm hji)) (hc.step hj) h3.1 hS' ?_⟩;rw [Array.setIfInBounds_comm _ _ hji];exact h3.2.2
theorem wpAnyB_load {i:Nat} {oi:Oper} {v:Value} {fuel:Nat} {listed:Array Bool} {a:Act} {w:World} (hi:ops[i]?=some oi)
  (hs:Region.noSelect ops=true) (hf:Region.free md ops listed i=true) (hr:(Region.ready md ops listed).contains i=true) (hc:closedB md ops listed=true) (hb:D.all (fun d=>d != i&&behindB md ops i ops.size d)=true)
  (hQ:∀ c a w,Q (.panic c) (a.put oi.dst v) w->Q (.panic c) a w) (hy:YieldsIf P ops R oi v a) (hS:Brk D R listed w)
  (h:Brk D R (listed.setIfInBounds i true) w->wpAnyB P md ops Q D R fuel (listed.setIfInBounds i true) (a.put oi.dst v) w):wpAnyB P md ops Q D R (fuel+1) listed a w:=by
 rw [List.all_eq_true] at hb;have hD:i∉D:=fun hm=>by have:=hb i hm;simp at this
 refine wpAnyB_first hi (Region.noSelect_spec hs) hQ (T:=R) (fun l w hc hl hB=>hB fun d hd=>?_) hD fuel listed a w (Region.free_spec hi hf) (by simpa using hr) (closed_of hc) hy hS (h fun q=>hS fun d hd=>?_)
 ·have:=hb d hd
  rw [Bool.and_eq_true] at this;exact behind_spec hc (getD_false hl) _ d this.2
 ·have:=q d hd
  rwa [getD_set_ne false (ne_of_not hD hd)] at this
theorem wpAnyB_pure {i:Nat} {oi:Oper} {v:Value} {fuel:Nat} {listed:Array Bool} {a:Act} {w:World} (hi:ops[i]?=some oi)
  (hs:Region.noSelect ops=true) (hf:Region.free md ops listed i=true) (hr:(Region.ready md ops listed).contains i=true) (hc:closedB md ops listed=true) (hb:D.contains i=false)
  (hQ:∀ c a w,Q (.panic c) (a.put oi.dst v) w->Q (.panic c) a w) (hy:YieldsIf P ops (fun _=>True) oi v a) (hS:Brk D R listed w)
  (h:Brk D R (listed.setIfInBounds i true) w->wpAnyB P md ops Q D R fuel (listed.setIfInBounds i true) (a.put oi.dst v) w):wpAnyB P md ops Q D R (fuel+1) listed a w:=by
 have hD:i∉D:=fun hm=>by simp [hm] at hb
 exact wpAnyB_first hi (Region.noSelect_spec hs) hQ (T:=fun _=>True) (fun l w _ _ _=>trivial) hD fuel listed a w (Region.free_spec hi hf) (by simpa using hr) (closed_of hc) hy hS (h fun q=>hS fun d hd=>by
  have:=q d hd;rwa [getD_set_ne false (ne_of_not hD hd)] at this)
def ZRB (P:Program) (md:Region.Mode) (ops:Array Oper) (Q:Exit->Act->World->Prop) (D:List Nat) (R:World->Prop) (fuel:Nat) (listed:Array Bool) (a:Act) (w:World) (rs:List Nat):Prop :=
 ∀ i∈rs,wpOp P ops Q i (fun a' w'=>Brk D R (listed.setIfInBounds i true) w'/\wpAnyB P md ops Q D R fuel (listed.setIfInBounds i true) a' w') a w
theorem ZRB.nil {fuel:Nat} {listed:Array Bool} {a:Act} {w:World} : ZRB P md ops Q D R fuel listed a w []:=fun _ h=>by cases h
theorem ZRB.cons {fuel:Nat} {listed:Array Bool} {a:Act} {w:World} {i:Nat} {o:Oper} {rs:List Nat} (ho:ops[i]?=some o)
  (h:∀ K':Act->World->Prop,Shut (∀ a w,(D.contains i=false->(D.all fun d => !listed.getD d false)=true->R w)->(Brk D R (listed.setIfInBounds i true) w->wpAnyB P md ops Q D R fuel (listed.setIfInBounds i true) a w)->K' a w)->if Region.wanted o (yielded ops a.tmps)=true then Oper.wp P o a w K' Q else K' (a.put o.dst undef) w)
  (hs:ZRB P md ops Q D R fuel listed a w rs) (hlt:i<listed.size):ZRB P md ops Q D R fuel listed a w (i::rs):=fun j hj=>by
 rcases List.mem_cons.1 hj with rfl | hj
 ·refine wpOp_step ho (fun K' hK=>h K' (fun a w hS hW=>?_))
  have hB:Brk D R (listed.setIfInBounds j true) w:=fun q=>by
   have hD:j∉D:=fun hm=>by
    have:=q j hm;simp [hlt] at this
   refine hS (by simpa using hD) ?_;rw [List.all_eq_true];intro d hd;have:=q d hd;rw [getD_set_ne false (ne_of_not hD hd)] at this;rw [this];rfl
  exact hK a w ⟨hB,hW hB⟩
 ·exact hs j hj
theorem zrb {rs:List Nat} {fuel:Nat} {listed:Array Bool} {a:Act} {w:World} (hr:Region.ready md ops listed=rs) (hne:rs≠[])
  (h:ZRB P md ops Q D R fuel listed a w rs):wpAnyB P md ops Q D R (fuel+1) listed a w:=⟨fun h0=>absurd (hr▸h0) hne,hr▸h⟩
theorem wpAnyB_done {listed:Array Bool} {a:Act} {w:World} (hr:Region.ready md ops listed=[]) (h:Q .normal a w):∀ fuel,wpAnyB P md ops Q D R fuel listed a w
 | 0=>⟨hr,h⟩
 | _+1=>⟨fun _=>h,by rw [hr];simp⟩
theorem wp_region_brk {id:Nat} {a:Act} {w:World} (D:List Nat) (R:World->Prop) (hm:P.follows .mixedOrders=true) (hS:R w.drew)
  (h:Brk D R (Array.replicate ops.size false) w.drew->wpAnyB P .any ops Q D R ops.size (Array.replicate ops.size false) a w.drew):(Code.region id ops true).wp P Q a w :=
 wp_region_any hm (wpAny_of_B _ _ _ _ (h fun _=>hS))
end
theorem wbP {P:Program} {ops:Array Oper} {Q:Exit->Act->World->Prop} {md:Region.Mode} {D:List Nat} {R:World->Prop} {fuel:Nat} {listed:Array Bool} {a:Act} {w:World} (i:Nat) {oi:Oper} {v:Value} (h:Brk D R (listed.setIfInBounds i true) w->wpAnyB P md ops Q D R fuel (listed.setIfInBounds i true) (a.put oi.dst v) w) (hi:ops[i]?=some oi:=by (simp only [tA1,tA2,tA3];rfl)) (hg:Region.wanted oi (yielded ops a.tmps)=true:=by rfl) (hy:∀ w,True->(execOp a.eval oi).run P w=.ok (.value v) w:=by (intro w _;go_simp;first | done | with_reducible rfl)) (hS:Brk D R listed w:=by assumption) (hs:Region.noSelect ops=true:=by kernel_rfl) (hf:Region.free md ops listed i=true:=by kernel_rfl) (hr:(Region.ready md ops listed).contains i=true:=by kernel_rfl) (hc:closedB md ops listed=true:=by kernel_rfl) (hb:D.contains i=false:=by kernel_rfl) (hQ:∀ c a w,Q (.panic c) (a.put oi.dst v) w->Q (.panic c) a w:=by exact fun _ _ _ h=>h):wpAnyB P md ops Q D R (fuel+1) listed a w:=wpAnyB_pure hi hs hf hr hc hb hQ (.inl ⟨hg,hy⟩) hS h
theorem wbL {P:Program} {ops:Array Oper} {Q:Exit->Act->World->Prop} {md:Region.Mode} {D:List Nat} {R:World->Prop} {fuel:Nat} {listed:Array Bool} {a:Act} {w:World} (i:Nat) {oi:Oper} {v:Value} (h:Brk D R (listed.setIfInBounds i true) w->wpAnyB P md ops Q D R fuel (listed.setIfInBounds i true) (a.put oi.dst v) w) (hi:ops[i]?=some oi:=by (simp only [tA1,tA2,tA3];rfl)) (hg:Region.wanted oi (yielded ops a.tmps)=true:=by rfl) (hy:∀ w,R w->(execOp a.eval oi).run P w=.ok (.value v) w) (hS:Brk D R listed w:=by assumption) (hs:Region.noSelect ops=true:=by kernel_rfl) (hf:Region.free md ops listed i=true:=by kernel_rfl) (hr:(Region.ready md ops listed).contains i=true:=by kernel_rfl) (hc:closedB md ops listed=true:=by kernel_rfl) (hb:D.all (fun d=>d != i&&behindB md ops i ops.size d)=true:=by kernel_rfl) (hQ:∀ c a w,Q (.panic c) (a.put oi.dst v) w->Q (.panic c) a w:=by exact fun _ _ _ h=>h):wpAnyB P md ops Q D R (fuel+1) listed a w:=wpAnyB_load hi hs hf hr hc hb hQ (.inl ⟨hg,hy⟩) hS h
theorem wbR {P:Program} {ops:Array Oper} {Q:Exit->Act->World->Prop} {md:Region.Mode} {D:List Nat} {R:World->Prop} {fuel:Nat} {listed:Array Bool} {a:Act} {w:World} (rs:List Nat) (h:ZRB P md ops Q D R fuel listed a w rs) (hr:Region.ready md ops listed=rs:=by kernel_rfl) (hne:rs≠[]:=by simp):wpAnyB P md ops Q D R (fuel+1) listed a w:=zrb hr hne h
theorem wbC {P:Program} {ops:Array Oper} {Q:Exit->Act->World->Prop} {md:Region.Mode} {D:List Nat} {R:World->Prop} {fuel:Nat} {listed:Array Bool} {a:Act} {w:World} {i:Nat} {rs:List Nat} {o:Oper} (h:∀ K':Act->World->Prop,Shut (∀ a w,(D.contains i=false->(D.all fun d=>!listed.getD d false)=true->R w)->(Brk D R (listed.setIfInBounds i true) w->wpAnyB P md ops Q D R fuel (listed.setIfInBounds i true) a w)->K' a w)->if Region.wanted o (yielded ops a.tmps)=true then Oper.wp P o a w K' Q else K' (a.put o.dst undef) w) (hs:ZRB P md ops Q D R fuel listed a w rs) (ho:ops[i]?=some o:=by (simp only [tA1,tA2,tA3];rfl)) (hl:i<listed.size:=by exact of_decide_eq_true (by kernel_rfl)):ZRB P md ops Q D R fuel listed a w (i::rs):=ZRB.cons ho h hs hl
theorem wbD {P:Program} {ops:Array Oper} {Q:Exit->Act->World->Prop} {md:Region.Mode} {D:List Nat} {R:World->Prop} {fuel:Nat} {listed:Array Bool} {a:Act} {w:World} {i:Nat} {o:Oper} (h:∀ K':Act->World->Prop,Shut (∀ a w,(D.contains i=false->(D.all fun d=>!listed.getD d false)=true->R w)->(Brk D R (listed.setIfInBounds i true) w->wpAnyB P md ops Q D R fuel (listed.setIfInBounds i true) a w)->K' a w)->if Region.wanted o (yielded ops a.tmps)=true then Oper.wp P o a w K' Q else K' (a.put o.dst undef) w) (ho:ops[i]?=some o:=by (simp only [tA1,tA2,tA3];rfl)) (hl:i<listed.size:=by exact of_decide_eq_true (by kernel_rfl)):ZRB P md ops Q D R fuel listed a w [i]:=ZRB.cons ho h ZRB.nil hl
theorem wbE {P:Program} {ops:Array Oper} {Q:Exit->Act->World->Prop} {md:Region.Mode} {D:List Nat} {R:World->Prop} {fuel:Nat} {listed:Array Bool} {a:Act} {w:World} (i:Nat) {o:Oper} (h:∀ K':Act->World->Prop,Shut (∀ a w,(D.contains i=false->(D.all fun d=>!listed.getD d false)=true->R w)->(Brk D R (listed.setIfInBounds i true) w->wpAnyB P md ops Q D R fuel (listed.setIfInBounds i true) a w)->K' a w)->if Region.wanted o (yielded ops a.tmps)=true then Oper.wp P o a w K' Q else K' (a.put o.dst undef) w) (ho:ops[i]?=some o:=by (simp only [tA1,tA2,tA3];rfl)) (hl:i<listed.size:=by exact of_decide_eq_true (by kernel_rfl)) (hr:Region.ready md ops listed=[i]:=by kernel_rfl):wpAnyB P md ops Q D R (fuel+1) listed a w:=zrb hr (by simp) (ZRB.cons ho h ZRB.nil hl)
end Go.Proofs.YtkhcaclndepgbaaGreat
