/- A loop over an iterator whose body keeps a growing slice of its own: blocks that the body alone writes (Pv: in each world, which). · Package find: items, walk. · Package find: items, any tree. -/
import Derived.Test.YtkhcaclndepgbaaGreatZn23
import Derived.BigGuardIn
set_option linter.unusedVariables false
set_option linter.unusedSimpArgs false
set_option maxRecDepth 100000
set_option maxHeartbeats 20000000
namespace Go.Proofs.YtkhcaclndepgbaaGreat
open Go.RowKit
structure Yfr (Pv:World->Nat->Prop) (Lw:List Nat) (W W':World):Prop where
 c:∃ L,Chg L W W'/\∀ q,q∈L->q∈Lw∨Pv W q
 p:∀ q,Pv W' q->Pv W q∨W.heap.size<=q
section
variable {Pv:World->Nat->Prop} {Lw Lw':List Nat} {W W' W1 W2 W3:World}
theorem Yfr.size (h:Yfr Pv Lw W W'):W.heap.size<=W'.heap.size:=by obtain ⟨L,c,_⟩:=h.c;exact c.size
theorem Yfr.mono (h:Yfr Pv Lw W W') (hl:∀ q,q∈Lw->q∈Lw'):Yfr Pv Lw' W W':=by
 obtain ⟨L,c,hL⟩:=h.c;exact ⟨⟨L,c,fun q hq=>(hL q hq).imp (hl q) id⟩,h.p⟩
theorem Yfr.trans (h:Yfr Pv Lw W1 W2) (k:Yfr Pv Lw W2 W3):Yfr Pv Lw W1 W3:=by
 obtain ⟨L,c,hL⟩:=h.c;obtain ⟨L2,c2,hL2⟩:=k.c;refine ⟨⟨L++L2.filter (fun q=>decide (q<W1.heap.size)),(c.mono (fun q hq=>zal _ hq)).then c2 (fun q hq=>?_),fun q hq=>?_⟩,fun q hq=>?_⟩
 ·by_cases e:q<W1.heap.size
  ·exact .inl (zar _ (List.mem_filter.2 ⟨hq,by simp [e]⟩))
  ·exact .inr (by omega)
 ·rcases List.mem_append.1 hq with hq | hq
  ·exact hL q hq
  ·obtain ⟨h1,h2⟩:=List.mem_filter.1 hq
   simp at h2;rcases hL2 q h1 with h3 | h3
   ·exact .inl h3
   ·rcases h.p q h3 with h4 | h4
    ·exact .inr h4
    ·omega
 ·rcases k.p q hq with h1 | h1
  ·exact h.p q h1
  ·exact .inr (zLt h.size h1)
theorem Yfr.refl (Pv:World->Nat->Prop) (Lw:List Nat) (W:World):Yfr Pv Lw W W:=⟨⟨[],Chg.refl _ _,fun q hq=>by cases hq⟩,fun q hq => .inl hq⟩
theorem Yfr.of (c:Chg Lw W W') (hp:∀ q,Pv W' q->Pv W q∨W.heap.size<=q):Yfr Pv Lw W W':=⟨⟨Lw,c,fun q hq => .inl hq⟩,hp⟩
end
structure Blv (Pv:World->Nat->Prop) (n:Nat) (A B:World):Prop where
 b:Below n A B
 p:∀ q,Pv A q->B.heap[q]?=A.heap[q]?
theorem Blv.mono {Pv:World->Nat->Prop} {n m:Nat} {A B:World} (h:Blv Pv n A B) (hm:m<=n):Blv Pv m A B:=⟨h.b.mono hm,h.p⟩
theorem Blv.of_chg {Pv:World->Nat->Prop} {n:Nat} {A B:World} (hb:Below n A B) (c:Chg [] A B) (h1:∀ q,Pv A q->q<A.heap.size):Blv Pv n A B:=⟨hb,fun q hq=>c.block q (h1 q hq) (by simp)⟩
theorem Blv.put {Pv:World->Nat->Prop} {A:World} {n l:Nat} (o:Obj) (h:n<=l) (h1:∀ q,Pv A q->q≠l):Blv Pv n A (A.putObj l o):=⟨below_put o h,fun q hq=>World.putObj_heap_other (h1 q hq)⟩
def rfPostP (Pv:World->Nat->Prop) (Lw:List Nat) (I:World->Prop) (Ix:Code->World->Prop) (W:World):Exit->Act->World->Prop
 | .normal,_,W'=>Yfr Pv Lw W W'/\I W'
 | .ret,_,W'=>Yfr Pv Lw W W'/\Ix .ret W'
 | .exit id,_,W'=>Yfr Pv Lw W W'/\Ix (.exit id) W'
 | _,_,_=>False
def IterP (F:Fence) (n:Nat) (P:Program) (gf:Nat) (lb:Array Value) (Pj:World->Prop) (Av:Nat->World->Array Value->Prop) (N:Nat) (Lw:List Nat) (w:World):Prop :=
 ∀ (Pv:World->Nat->Prop) (l:Nat) (J Jx:Nat->World->Prop) (W:World),Below w.heap.size w W->w.heap.size<=l->l<W.heap.size ->
  (∀ k A B,J k A->Blv Pv W.heap.size A B->J k B)->(∀ k A B,Jx k A->Blv Pv W.heap.size A B->Jx k B)->(∀ k A,J k A->Pj A) ->
  (∀ k A q,J k A->Pv A q->q<A.heap.size)->(∀ k A B q,J k A->Below W.heap.size A B->Pv B q->Pv A q) ->
  (∀ k W1 av,J k W1->k<N->Av k W1 av->YieldAt F (n - 1) P l av W1 fun e W'=>(e = .returned (.bool true)/\J (k+1) W'/\Yfr Pv (l::Lw) W1 W')∨(e = .returned (.bool false)/\Jx (k+1) W'/\Yfr Pv (l::Lw) W1 W')) ->
  J 0 W->CallsIn F n P gf (#[.func (.yield l) #[] #[]]++lb) W fun e W'=>(∃ v,e = .returned v)/\(J N W'∨∃ k,k<=N/\Jx k W')
variable {F:Fence} {n:Nat} {P:Program}
theorem wpIn_rangeFunc_pv {g:Operand} {ps:Array Tmp} {assign body:Code} {Q:Exit->Act->World->Prop} {a:Act} {w:World}
  (hro:F.round=none) (h1:1<=n) {gf:Nat} {lb:Array Value} (hg:a.eval g = .func (.func gf) #[] lb) (hFg:F.fn gf) (eg:∀ args w,(callFunc gf args).run P w = .ok (.enter gf args) w)
  {Av:Nat->World->Array Value->Prop} {N:Nat} {Lw:List Nat} {Pj:World->Prop} (hseq:IterP F (n - 1) P gf lb Pj Av N Lw w) (hLw:∀ x,x∈Lw->x<w.heap.size) (hps:∀ k W av,Av k W av->av.size=ps.size)
  (Pv:World->Nat->Prop) (I:Nat->World->Prop) (Ix:Code->Nat->World->Prop) (hI:∀ k A B,I k A->Blv Pv w.heap.size A B->I k B) (hIx:∀ c k A B,Ix c k A->Blv Pv w.heap.size A B->Ix c k B) (h0:I 0 w) (hPj:∀ k A,I k A->Pj A)
  (hv1:∀ k A q,I k A->Pv A q->q<A.heap.size/\(q<w.heap.size∨w.heap.size+1<q)) (hv2:∀ k A B q,I k A->Below w.heap.size A B->Pv B q->Pv A q) (hv3:∀ c k A B q,Ix c k A->Below w.heap.size A B->Pv B q->Pv A q) (hv4:∀ c k A q,Ix c k A->Pv A q->q<w.heap.size∨w.heap.size+1<q)
  (hround:∀ (l k:Nat) (W:World) (av:Array Value),w.heap.size<=l->l<W.heap.size->I k W->k<N->Av k W av->(∃ r:Loop,W.heap[l]?=some (.loop r)) ->
   assign.wpIn (F.inRound l) (n - 1 - 1) P (Exit.then (fun a1 W1=>Chg [] W W1/\∀ W2,Chg [l] W1 W2->body.wpIn (F.inRound l) (n - 1 - 1) P (rfPostP Pv Lw (I (k+1)) (fun c=>Ix c (k+1)) W2) a1 W2) (fun _ _ _=>False))
    { tmps:=(ps.zip av).foldl (fun t (p,v)=>t.setIfInBounds p v) a.tmps,defers:=[] } W)
  (hdone:∀ (D:Nat) (W:World),w.heap.size<=D->I N W->W.heap[D]?=some (.deferred (some []))->Q .normal { a with defers := { target := .collected D,args:=#[] } :: a.defers } W)
  (hstop:∀ (D:Nat) (c:Code) (k:Nat) (W:World),w.heap.size<=D->k<=N->Ix c k W->W.heap[D]?=some (.deferred (some []))->c.wpIn F n P Q { a with defers := { target := .collected D,args:=#[] } :: a.defers } W) :
  (Code.rangeFunc g ps assign body).wpIn F n P Q a w:=by
 refine wpIn_rangeFunc ?_;intro fn hfn;rw [hro];obtain ⟨rec,hrec⟩:∃ rec:LoopState->Option Code->Loop,rec=fun st pe => { state:=st,pending:=pe,fn,tmps:=a.tmps,params:=ps,assign,body,defers:=w.heap.size } := ⟨_,rfl⟩;obtain ⟨W1,hW1⟩:∃ W1,(w.alloc (.deferred (some []))).alloc (.loop (rec .ready none))=W1:=⟨_,rfl⟩;have hL1:W1.heap[w.heap.size+1]?=some (.loop (rec .ready none)):=by rw [<- hW1];exact znc w _ _
 have hK1:W1.heap[w.heap.size]?=some (.deferred (some [])):=by rw [<- hW1];exact znd w _ _
 have hb1:Below w.heap.size w W1:=by rw [<- hW1];exact ((Below.refl _ w).alloc (zLr _) _).alloc (by simp) _
 have hs1:W1.heap.size=w.heap.size+2:=by rw [<- hW1];simp
 refine ⟨w.heap.size+1,[{ target := .collected w.heap.size,args:=#[] }],W1,{ target := .fn (.func gf) lb,args:=#[.func (.yield (w.heap.size+1)) #[] #[]] },W1,gf,
  #[.func (.yield (w.heap.size+1)) #[] #[]]++lb,W1,?_,?_,?_,?_,fun _=>h1,?_⟩
 ·rw [<- hW1,hrec];exact run_enterLoop_outer _ _ _ _ _
 ·simp only [resolve,hg]
  simp [go_sem]
 ·intro f' hf';simp [Target.leads] at hf';subst hf';exact hFg
 ·simp [invoke,go_sem,eg]
 ·refine (hseq Pv (w.heap.size+1)
   (fun k W=>I k W/\W.heap[w.heap.size+1]?=some (.loop (rec .ready none))/\W.heap[w.heap.size]?=some (.deferred (some [])))
   (fun k W=>∃ c,Ix c k W/\W.heap[w.heap.size+1]?=some (.loop (rec .done (some c)))/\W.heap[w.heap.size]?=some (.deferred (some [])))
   W1 hb1 (by omega) (by omega)
   (fun k A B h hab=>⟨hI k A B h.1 (hab.mono (by omega)),(hab.b.block _ (by omega)).trans h.2.1,(hab.b.block _ (by omega)).trans h.2.2⟩)
   (fun k A B h hab=>by
    obtain ⟨c,hc,hl,hk⟩:=h;exact ⟨c,hIx c k A B hc (hab.mono (by omega)),(hab.b.block _ (by omega)).trans hl,(hab.b.block _ (by omega)).trans hk⟩)
   (fun k A h=>hPj k A h.1) (fun k A q h hq=>(hv1 k A q h.1 hq).1) (fun k A B q h hab hq=>hv2 k A B q h.1 (hab.mono (by omega)) hq) ?_ ⟨hI 0 w W1 h0 ⟨hb1,fun q hq=>hb1.block q (hv1 0 w q h0 hq).1⟩,hL1,hK1⟩).mono ?_
  ·rintro k W av ⟨hi,hl,hk⟩ hkN hav
   have hlt:w.heap.size+1<W.heap.size:=zhl hl;have hy:=run_yield (P:=P) (args:=av) hl (by rw [hrec];exact hps k W av hav);rw [hrec] at hy;refine ⟨fn,_,assign,body,hy,roundIn_of_wpIn hfn (wpIn_mono (hround (w.heap.size+1) k W av (by omega) hlt hi hkN hav ⟨_,hl⟩) ?_)⟩;clear hy;intro e a1 Wa hp
   cases e with
   | normal =>
    obtain ⟨hca,hbd⟩:=hp;have hla:=(hca.block _ hlt (by simp)).trans hl;have hka:=(hca.block _ (by omega) (by simp)).trans hk;have hlta:w.heap.size+1<Wa.heap.size:=zhl hla;refine ⟨_,run_beginRound hla (by rw [hrec]),?_⟩;have hc2:=chg_put (W:=Wa) (l:=w.heap.size+1) (.loop { rec .ready none with state := .busy });have hl2:(Wa.putObj (w.heap.size+1) (.loop { rec .ready none with state := .busy })).heap[w.heap.size+1]?=some (.loop { rec .ready none with state := .busy }):=World.putObj_heap_same hlta;have hk2:(Wa.putObj (w.heap.size+1) (.loop { rec .ready none with state := .busy })).heap[w.heap.size]?=some (.deferred (some [])):=(World.putObj_heap_other (by omega)).trans hka;have hcW2:Chg [w.heap.size+1] W (Wa.putObj (w.heap.size+1) (.loop { rec .ready none with state := .busy })):=(hca.mono (by simp)).trans hc2;have hbW2:Below w.heap.size W (Wa.putObj (w.heap.size+1) (.loop { rec .ready none with state := .busy })):=⟨hcW2.os,hcW2.tape,hcW2.output,hcW2.size,fun q hq=>hcW2.block q (by omega) (by simp only [zms];omega)⟩;refine wpIn_mono (hbd _ hc2) ?_;generalize Wa.putObj (w.heap.size+1) (.loop { rec .ready none with state := .busy })=V2 at *;have hpv:∀ q,Pv V2 q->Pv W q:=fun q hq=>hv2 k W V2 q hi hbW2 hq
    have fin:∀ (jump:Option Code) (W3:World),Yfr Pv Lw V2 W3->(∀ B q,Below w.heap.size W3 B->Pv B q->Pv W3 q) ->
      (Instr.endRound (w.heap.size+1) jump).run P W3 = .ok (.bool jump.isNone) (W3.putObj (w.heap.size+1) (.loop (rec (if jump.isNone then .ready else .done) jump))) /\
      (W3.putObj (w.heap.size+1) (.loop (rec (if jump.isNone then .ready else .done) jump))).heap[w.heap.size+1]?=some (.loop (rec (if jump.isNone then .ready else .done) jump)) /\
      (W3.putObj (w.heap.size+1) (.loop (rec (if jump.isNone then .ready else .done) jump))).heap[w.heap.size]?=some (.deferred (some [])) /\
      Yfr Pv ((w.heap.size+1)::Lw) W (W3.putObj (w.heap.size+1) (.loop (rec (if jump.isNone then .ready else .done) jump))):=fun jump W3 hk3 hx3=>by
     obtain ⟨L3,c3,hL3⟩:=hk3.c
     have hnL:∀ i,i=w.heap.size∨i=w.heap.size+1->i∉L3:=fun i hi' hm=>by
      rcases hL3 i hm with h | h
      ·have:=hLw i h;omega
      ·have:=(hv1 k W i hi (hpv i h)).2;omega
     have hl3:=(c3.block _ (zhl hl2) (hnL _ (.inr rfl))).trans hl2;have hk3':=(c3.block _ (zhl hk2) (hnL _ (.inl rfl))).trans hk2;have hr:=run_endRound (P:=P) jump hl3;refine ⟨?_,World.putObj_heap_same (zhl hl3),(World.putObj_heap_other (by omega)).trans hk3',?_⟩
     ·rw [hrec] at hr ⊢
      exact hr
     ·have y1:Yfr Pv ((w.heap.size+1)::Lw) W V2:=(Yfr.of hcW2 (fun q hq => .inl (hpv q hq))).mono (by simp)
      have y3:Yfr Pv ((w.heap.size+1)::Lw) W3 (W3.putObj (w.heap.size+1) (.loop (rec (if jump.isNone then .ready else .done) jump))):=(Yfr.of (chg_put _) (fun q hq => .inl (hx3 _ q (below_put _ (by omega)) hq))).mono (by simp);exact (y1.trans (hk3.mono (by simp +contextual))).trans y3
    rintro e a3 W3 hp
    cases e with
    | normal =>
     obtain ⟨hk3,hi3⟩:=hp;obtain ⟨hr,hl4,hk4,hc4⟩:=fin none W3 hk3 (fun B q hb hq=>hv2 _ W3 B q hi3 hb hq);exact ⟨_,_,hr,.inl ⟨rfl,⟨hI _ _ _ hi3 (Blv.put _ (by omega) (fun q hq=>by have:=(hv1 _ _ q hi3 hq).2;omega)),hl4,hk4⟩,hc4⟩⟩
    | ret =>
     obtain ⟨hk3,hi3⟩:=hp;obtain ⟨hr,hl4,hk4,hc4⟩:=fin (some .ret) W3 hk3 (fun B q hb hq=>hv3 _ _ W3 B q hi3 hb hq);exact ⟨_,_,hr,.inr ⟨rfl,⟨.ret,hIx _ _ _ _ hi3 (Blv.put _ (by omega) (fun q hq=>by have:=hv4 _ _ _ q hi3 hq;omega)),hl4,hk4⟩,hc4⟩⟩
    | exit id =>
     obtain ⟨hk3,hi3⟩:=hp;obtain ⟨hr,hl4,hk4,hc4⟩:=fin (some (.exit id)) W3 hk3 (fun B q hb hq=>hv3 _ _ W3 B q hi3 hb hq);exact ⟨_,_,hr,.inr ⟨rfl,⟨.exit id,hIx _ _ _ _ hi3 (Blv.put _ (by omega) (fun q hq=>by have:=hv4 _ _ _ q hi3 hq;omega)),hl4,hk4⟩,hc4⟩⟩
    | goto t=>exact hp.elim
    | panic ch=>exact hp.elim
    | outgrown=>exact hp.elim
   | ret=>exact hp.elim
   | exit id=>exact hp.elim
   | goto t=>exact hp.elim
   | panic ch=>exact hp.elim
   | outgrown=>exact hp.elim
  ·rintro e W2 ⟨⟨v,rfl⟩,(⟨hi,hl,hk⟩ | ⟨k,hkN,c,hi,hl,hk⟩)⟩
   ·exact ⟨none,_,by have:=run_endLoop (P:=P) hl (by rw [hrec];simp);rw [hrec] at this;exact this,hdone _ _ (zLr _) (hI _ _ _ hi (Blv.put _ (by omega) (fun q hq=>by have:=(hv1 _ _ q hi hq).2;omega))) ((World.putObj_heap_other (by omega)).trans hk)⟩
   ·exact ⟨some c,_,by have:=run_endLoop (P:=P) hl (by rw [hrec];simp);rw [hrec] at this;exact this,hstop _ c k _ (zLr _) hkN (hIx _ _ _ _ hi (Blv.put _ (by omega) (fun q hq=>by have:=hv4 _ _ _ q hi hq;omega))) ((World.putObj_heap_other (by omega)).trans hk)⟩
end Go.Proofs.YtkhcaclndepgbaaGreat
namespace Go.Proofs.YtkhcaclndepgbaaGreat
open Go.RowKit Go.Shelf
attribute [local go_sem] Oper.semAt_some
def toldV (t:(Nat × Nat) × Int):Value := .agg #[.int .u64 (t.1.1:Int),.int .u64 (t.1.2:Int),.int .i64 t.2]
theorem wpListIn_no {n:Nat} {P:Program} {ops:Array Oper} {Q:Exit->Act->World->Prop} {rest:List Oper} {o:Oper} {a:Act} {w:World} (h:Region.wanted o (yielded ops a.tmps)=false) (k:wpListIn Fence.wide n P ops Q rest (a.put o.dst undef) w) :
  wpListIn Fence.wide n P ops Q (o::rest) a w:=by
 unfold wpListIn;rw [if_neg (by rw [h];decide)];exact ⟨fun _ _=>trivial,k⟩
theorem wide_fn (f:FuncId):Fence.wide.fn f:=trivial
theorem wide_none:∀ f:FuncId,(none:Option FuncId)=some f->Fence.wide.fn f:=fun f h=>by cases h
def upTo {α:Type} (g:Nat->List α) (i:Nat):List α:=(List.range i).flatMap g
theorem upTo_succ {α:Type} (g:Nat->List α) (i:Nat):upTo g (i+1)=upTo g i++g i:=by
 unfold upTo;rw [List.range_succ,List.flatMap_append];simp
theorem upTo_get {α:Type} {g:Nat->List α} {i:Nat} : ∀ {n:Nat},i<n->∀ {j:Nat},j<(g i).length->(upTo g n)[(upTo g i).length+j]?=(g i)[j]?
 | n+1,hi,j,hj=>by
  rw [upTo_succ];by_cases e:i=n
  ·subst e
   rw [List.getElem?_append_right (by omega),Nat.add_sub_cancel_left]
  ·have ih:=upTo_get (g:=g) (i:=i) (n:=n) (by omega) hj
   have hlt:(upTo g i).length+j<(upTo g n).length:=by
    rcases Nat.lt_or_ge ((upTo g i).length+j) (upTo g n).length with h | h
    ·exact h
    ·rw [List.getElem?_eq_none h,List.getElem?_eq_getElem hj] at ih;cases ih
   rw [List.getElem?_append_left hlt,ih]
theorem upTo_le {α:Type} {g:Nat->List α} {i:Nat} : ∀ {n:Nat},i<=n->(upTo g i).length<=(upTo g n).length
 | 0,h=>by
  obtain rfl:i=0:=(by omega);exact zLr _
 | n+1,h=>by
  by_cases e:i=n+1
  ·subst e;exact zLr _
  ·rw [upTo_succ,List.length_append]
   exact zLt (upTo_le (n:=n) (by omega)) (by omega)
theorem upTo_rest {α:Type} {g:Nat->List α} {i:Nat} : ∀ {n:Nat},i<=n->(∀ j,i<=j->j<n->g j=[])->(upTo g n).length=(upTo g i).length
 | 0,h,_=>by
  obtain rfl:i=0:=(by omega);rfl
 | n+1,h,hg=>by
  by_cases e:i=n+1
  ·subst e;rfl
  ·rw [upTo_succ,hg n (by omega) (by omega),List.append_nil]
   exact upTo_rest (by omega) fun j h1 h2=>hg j h1 (by omega)
def kidG (B:Bs) (lo hi f:Nat) (d:Nd) (i:Nat):List ((Nat × Nat) × Int):=if hi<d.k i then [] else if d.leaf then (if lo<=d.k i then [((d.k i,d.v i),0)] else []) else if i+1=d.n∨lo<d.k (i+1) then itemsP B lo hi f (kidI (d.v i)) else []
theorem items_node {B:Bs} {lo hi f:Nat} {y:Int} {d:Nd} (h:B.nodeI y=some d):itemsP B lo hi (f+1) y=upTo (kidG B lo hi f d) d.n:=by
 rw [itemsP,h];rfl
theorem items_none {B:Bs} {lo hi f:Nat} {y:Int} (h:B.nodeI y=none):itemsP B lo hi f y=[((0,0),B.nodeE y)]:=by
 cases f <;> (rw [itemsP,h])
theorem items_zero {B:Bs} {lo hi:Nat} {y:Int} {d:Nd} (h:B.nodeI y=some d):itemsP B lo hi 0 y=[((0,0),130)]:=by
 rw [itemsP,h]
structure Yld (M:Bm) (F:List Nat) (B:Bs) (L:Nat->(Nat × Nat) × Int) (N l:Nat) (J Jx:Nat->World->Prop) (W0:World) (Lw:List Nat) (Pv:World->Nat->Prop):Prop where
 lt:l<W0.heap.size
 lw:∀ x,x∈Lw->x<W0.heap.size
 j:∀ k A B,J k A->Blv Pv W0.heap.size A B->J k B
 p:∀ k A,J k A->BaseAt A M F B
 q1:∀ k A q,J k A->Pv A q->q<A.heap.size
 q2:∀ k A B q,J k A->Below W0.heap.size A B->Pv B q->Pv A q
 y:∀ k W1,J k W1->k<N->YieldAt Fence.wide 5 Tryz.prog l #[toldV (L k)] W1 fun e W'=>(e = .returned (.bool true)/\J (k+1) W'/\Yfr Pv (l::Lw) W1 W')∨(e = .returned (.bool false)/\Jx (k+1) W'/\Yfr Pv (l::Lw) W1 W')
def ItEnd (W:World) (l:Nat) (Lw:List Nat) (Pv:World->Nat->Prop) (J Jx:Nat->World->Prop) (k N:Nat) (e:Ending) (W':World):Prop :=
 Yfr Pv (l::Lw) W W'/\((e = .returned (.bool true)/\J k W')∨(e = .returned (.bool false)/\∃ k,k<=N/\Jx k W'))
section
variable {M:Bm} {F:List Nat} {B:Bs} {L:Nat->(Nat × Nat) × Int} {N l:Nat} {J Jx:Nat->World->Prop} {W0:World} {Lw:List Nat} {Pv:World->Nat->Prop}
theorem Yld.below (h:Yld M F B L N l J Jx W0 Lw Pv) {q:Nat} (hq:q∈l::Lw):q<W0.heap.size:=by
 rcases List.mem_cons.1 hq with rfl | hq
 ·exact h.lt
 ·exact h.lw q hq
theorem items_err (ok:B.Ok) (hY:Yld M F B L N l J Jx W0 Lw Pv) {lo hi f k0:Nat} {y:Int} {W:World} (hW:W0.heap.size<=W.heap.size) (hJ:J k0 W) (hf:f<=8) (hc:B.nodeI y=none∨f=0) (hk:k0+(itemsP B lo hi f y).length<=N)
  (hL:∀ i,i<(itemsP B lo hi f y).length->(itemsP B lo hi f y)[i]?=some (L (k0+i))) :
  Calls Tryz.prog 157 #[.pointer (some ⟨M.b,0,none⟩),.int .i64 y,.int .i64 ((8 - f:Nat):Int),.int .u64 (lo:Int),.int .u64 (hi:Int),.func (.yield l) #[] #[]] W (ItEnd W l Lw Pv J Jx (k0+(itemsP B lo hi f y).length) N):=by
 have cn:=(hY.p _ _ hJ).cNode y
 obtain ⟨E,hE,hEl,hE2⟩:∃ E:Int,itemsP B lo hi f y=[((0,0),E)]/\¬ E=0/\((B.nodeI y=none/\E=B.nodeE y)∨(f=0/\E=130/\B.nodeI y≠none)):=by
  rcases hc with h | rfl
  ·exact ⟨_,items_none h,by unfold Bs.nodeE;split <;> decide,.inl ⟨h,rfl⟩⟩
  ·cases h:B.nodeI y with
   | none=>exact ⟨_,items_none h,by unfold Bs.nodeE;split <;> decide,.inl ⟨rfl,rfl⟩⟩
   | some d=>exact ⟨_,items_zero h,by decide,.inr ⟨rfl,rfl,fun q=>by cases q⟩⟩
 rw [hE] at hk hL ⊢
 have hL0:L k0=((0,0),E):=by
  have:=hL 0 (by simp);simpa using this.symm
 have hkN:k0<N:=by simp at hk;omega
 have HY:=zh hY;have HJ:=zh (zA hJ hW);have CN:=zh cn;have HL:=zh hL0;have HE:=zh hE2;clear hY hJ cn hL hL0 hE hc hE2 hk;refine (callsIn_wide (n:=6)).1 ?_;refine callsIn_of_wp Tryz.func157 rfl trivial ?_ rfl;simp only [Tryz.ntmps157,List.size_toArray,List.length_cons,List.length_nil,Nat.reduceAdd,Nat.reduceSub,Array.replicate_succ,Array.replicate_zero,List.push_toArray,List.append_toArray,List.nil_append,List.cons_append]
 gi_wp2
 refine ⟨trivial,(callsIn_wide.2 CN.out).mono ?_⟩;clear CN;intro e w1 hend
 have key:∀ (w2:World) (v0 v1 v2:Value),Chg [] W w1->Chg [w1.heap.size] w1 w2->YieldAt Fence.wide 5 Tryz.prog l #[.agg #[.int .u64 0,.int .u64 0,.int .i64 E]] w2 fun e W'=>Yfr Pv (l::Lw) W W'/\((e = .returned (.bool true)/\J (k0+1) W')∨(e = .returned (.bool false)/\Jx (k0+1) W')):=by
  intro w2 _ _ _ c1 c2;have hb:Below W0.heap.size W w2:=⟨c2.os.trans c1.os,c2.tape.trans c1.tape,c2.output.trans c1.output,zLt c1.size c2.size,fun k hk=>(c2.block k (zLl (zLl hk HJ.out.2) c1.size) (by simp only [zms];have:=c1.size;have:=HJ.out.2;omega)).trans (c1.block k (zLl hk HJ.out.2) (by simp))⟩;have hcw:Chg [] W w2:=⟨hb.os,hb.tape,hb.output,hb.size,fun k hk hn=>(c2.block k (zLl hk c1.size) (by simp only [zms];have:=c1.size;omega)).trans (c1.block k hk (by simp))⟩;have hy:=HY.out.y k0 w2 (HY.out.j _ _ _ HJ.out.1 (Blv.of_chg hb hcw (fun q hq=>HY.out.q1 _ _ q HJ.out.1 hq))) hkN;rw [HL.out] at hy
  change YieldAt Fence.wide 5 Tryz.prog l #[.agg #[.int .u64 0,.int .u64 0,.int .i64 E]] w2 _ at hy
  obtain ⟨fn,tmps,assign,body,h1,h2⟩:=hy;refine ⟨fn,tmps,assign,body,h1,h2.mono ?_⟩;rintro e W' hr;have hch:Yfr Pv (l::Lw) W w2:=(Yfr.of hcw (fun q hq => .inl (HY.out.q2 _ _ _ q HJ.out.1 hb hq))).mono (by simp);rcases hr with ⟨rfl,r1,r2⟩ | ⟨rfl,r1,r2⟩
  ·exact ⟨hch.trans r2,.inl ⟨rfl,r1⟩⟩
  ·exact ⟨hch.trans r2,.inr ⟨rfl,r1⟩⟩
 have KEY:=zh key;clear key;rcases hend with ⟨d,kb,vb,hd,rfl,k1,k2,k3,r1,r2,c1⟩ | ⟨hd,rfl,c1⟩
 ·have hE2:=HE.out
  rcases hE2 with ⟨q,_⟩ | ⟨rfl,rfl,_⟩
  ·rw [hd] at q;cases q
  have hd1:=(ok.node_ok hd).1;have hnb:=znb w1 (.cells #[.bool d.leaf,.slice (some ⟨kb,0,none⟩) d.n d.n,.slice (some ⟨vb,0,none⟩) d.n d.n] 107);have hcb:=(Chg.refl [] w1).alloc (.cells #[.bool d.leaf,.slice (some ⟨kb,0,none⟩) d.n d.n,.slice (some ⟨vb,0,none⟩) d.n d.n] 107);have hy:=KEY.out _ undef undef undef c1 (hcb.mono (by simp));clear hnb hcb r1 r2 k1 k2 k3 c1 KEY HY HJ HL;obtain ⟨fn,tmps,assign,body,hrun,hR⟩:=hy
  gi_wp2
  refine hR.mono ?_;rintro e W' ⟨hc,⟨rfl,hj⟩ | ⟨rfl,hj⟩⟩
  ·have HZ:=zh (zA hc hj)
   clear hc hj
   gi_wp2
   go_ret;exact ⟨HZ.out.1,.inl ⟨rfl,HZ.out.2⟩⟩
  ·have HZ:=zh (zA hc hj)
   clear hc hj
   gi_wp2
   go_ret;exact ⟨HZ.out.1,.inr ⟨rfl,_,hkN,HZ.out.2⟩⟩
 ·have hE2:E=B.nodeE y:=by
   rcases HE.out with ⟨_,q⟩ | ⟨_,_,q⟩
   ·exact q
   ·exact absurd hd q
  subst hE2;have hcb:=(Chg.refl [] w1).alloc (.cells #[.bool false,.slice none 0 0,.slice none 0 0] 107);have hy:=KEY.out _ undef undef undef c1 (hcb.mono (by simp));obtain ⟨E,hE'⟩:∃ E,E=B.nodeE y:=⟨_,rfl⟩;rw [<- hE'] at hEl hy ⊢;have hEb:(E==0)=false:=by rw [beq_eq_false_iff_ne];exact hEl
  clear hcb c1 KEY HY HJ HL HE hE';obtain ⟨fn,tmps,assign,body,hrun,hR⟩:=hy
  gi_wp2
  case h_1.isFalse=>rename_i b h1 h2;injection h1 with h1;cases h1
  ·have hh:∃ b,some undef=some (Value.bool b):=⟨_,by assumption⟩;obtain ⟨b,hb⟩:=hh;injection hb with hb;cases hb
  refine hR.mono ?_;rintro e W' ⟨hc,⟨rfl,hj⟩ | ⟨rfl,hj⟩⟩
  ·have HZ:=zh (zA hc hj)
   clear hc hj
   gi_wp2
   go_ret;exact ⟨HZ.out.1,.inl ⟨rfl,HZ.out.2⟩⟩
  ·have HZ:=zh (zA hc hj)
   clear hc hj
   gi_wp2
   go_ret;exact ⟨HZ.out.1,.inr ⟨rfl,_,hkN,HZ.out.2⟩⟩
end
end Go.Proofs.YtkhcaclndepgbaaGreat
namespace Go.Proofs.YtkhcaclndepgbaaGreat
open Go.RowKit Go.Shelf
attribute [local go_sem] Oper.semAt_some
section
variable {M:Bm} {F:List Nat} {B:Bs} {L:Nat->(Nat × Nat) × Int} {N l:Nat} {J Jx:Nat->World->Prop} {W0:World} {Lw:List Nat} {Pv:World->Nat->Prop}
theorem told_leaf {lo hi f:Nat} {d:Nd} {i:Nat} (hl:d.leaf=true) (h1:¬ hi<d.k i) (h2:lo<=d.k i):kidG B lo hi f d i=[((d.k i,d.v i),0)]:=by
 unfold kidG;rw [if_neg h1,hl,if_pos rfl,if_pos h2]
theorem told_skip {lo hi f:Nat} {d:Nd} {i:Nat} (hl:d.leaf=true) (h1:¬ hi<d.k i) (h2:¬ lo<=d.k i):kidG B lo hi f d i=[]:=by
 unfold kidG;rw [if_neg h1,hl,if_pos rfl,if_neg h2]
theorem told_kid {lo hi f:Nat} {d:Nd} {i:Nat} (hl:d.leaf=false) (h1:¬ hi<d.k i) (h2:i+1=d.n∨lo<d.k (i+1)):kidG B lo hi f d i=itemsP B lo hi f (kidI (d.v i)):=by
 unfold kidG;rw [if_neg h1,hl,if_neg (by decide),if_pos h2]
theorem told_over {lo hi f:Nat} {d:Nd} {i:Nat} (hl:d.leaf=false) (h1:¬ hi<d.k i) (h2:¬ (i+1=d.n∨lo<d.k (i+1))):kidG B lo hi f d i=[]:=by
 unfold kidG;rw [if_neg h1,hl,if_neg (by decide),if_neg h2]
theorem told_end {lo hi f:Nat} {d:Nd} (hd:d.Ok) {i:Nat} (h1:hi<d.k i):∀ j,i<=j->j<d.n->kidG B lo hi f d j=[]:=fun j hj hn=>by
 unfold kidG;rw [if_pos];by_cases e:i=j
 ·subst e;exact h1
 ·have:=asc_lt hd.asc (i:=i) (j:=j) (by omega) hn
  omega
def ItAt (l:Nat) (J Jx:Nat->World->Prop) (W0:World) (Lw:List Nat) (Pv:World->Nat->Prop) (M:Bm) (B:Bs) (L:Nat->(Nat × Nat) × Int) (N lo hi f:Nat):Prop:=∀ (y:Int) (k0:Nat) (W:World),W0.heap.size<=W.heap.size->J k0 W->f<=8->k0+(itemsP B lo hi f y).length<=N ->
  (∀ i,i<(itemsP B lo hi f y).length->(itemsP B lo hi f y)[i]?=some (L (k0+i)))->Calls Tryz.prog 157 #[.pointer (some ⟨M.b,0,none⟩),.int .i64 y,.int .i64 ((8 - f:Nat):Int),.int .u64 (lo:Int),.int .u64 (hi:Int),.func (.yield l) #[] #[]] W (ItEnd W l Lw Pv J Jx (k0+(itemsP B lo hi f y).length) N)
theorem items_step (ok:B.Ok) (hY:Yld M F B L N l J Jx W0 Lw Pv) {lo hi:Nat} (hlo:lo<18446744073709551616) (hhi:hi<18446744073709551616) {f:Nat} (ih0:ItAt l J Jx W0 Lw Pv M B L N lo hi f) {y:Int} {k0:Nat} {W:World} {d:Nd} (hd:B.nodeI y=some d) (hW:W0.heap.size<=W.heap.size) (hJ:J k0 W) (hf:f+1<=8) (hk:k0+(itemsP B lo hi (f+1) y).length<=N)
  (hL:∀ i,i<(itemsP B lo hi (f+1) y).length->(itemsP B lo hi (f+1) y)[i]?=some (L (k0+i))) :
  Calls Tryz.prog 157 #[.pointer (some ⟨M.b,0,none⟩),.int .i64 y,.int .i64 ((8 - (f+1):Nat):Int),.int .u64 (lo:Int),.int .u64 (hi:Int),.func (.yield l) #[] #[]] W (ItEnd W l Lw Pv J Jx (k0+(itemsP B lo hi (f+1) y).length) N):=by
 have hd1:=(ok.node_ok hd).1;have cn:=(hY.p _ _ hJ).cNode y;rw [items_node hd] at hk hL ⊢;obtain ⟨G,hG⟩:∃ G,G=kidG B lo hi f d:=⟨_,rfl⟩;rw [<- hG] at hk hL ⊢;have IH:=zh ih0;have HY:=zh hY;have HJ:=zh (zA hJ hW);have CN:=zh cn;have HL:=zh (zA hk hL);have HG:=zh hG;have HD:=zh hd1;have HNI:=zh hd;have n7:=hd1.n;obtain ⟨n,hn⟩:∃ n,n=d.n:=⟨_,rfl⟩;rw [<- hn] at HL n7 ⊢;have HN:=zh hn;have i0:¬ (((8 - (f+1):Nat):Int)=8):=by omega
 have i0b:((((7 - f:Nat):Int))==8)=false:=by simp;omega
 have i3:(((7 - f:Nat):Int)+1)=((8 - f:Nat):Int):=by omega
 obtain ⟨tot,htot⟩:∃ tot,tot=k0+(upTo G n).length:=⟨_,rfl⟩;rw [<- htot];have HT:=zh htot;clear hY hJ cn hk hL hG hd1 hn hd htot ih0;refine (callsIn_wide (n:=6)).1 ?_;refine callsIn_of_wp Tryz.func157 rfl trivial ?_ rfl;simp only [Tryz.ntmps157,List.size_toArray,List.length_cons,List.length_nil,Nat.reduceAdd,Nat.reduceSub,Array.replicate_succ,Array.replicate_zero,List.push_toArray,List.append_toArray,List.nil_append,List.cons_append]
 gi_wp2
 refine ⟨trivial,(callsIn_wide.2 CN.out).mono ?_⟩;clear CN;rintro e w1 (⟨d',kb,vb,hd,rfl,k1,k2,k3,r1,r2,c1⟩ | ⟨hd,rfl,c1⟩)
 case inr=>rw [HNI.out] at hd;cases hd
 rw [HNI.out] at hd;injection hd with hd;subst hd;have hnb:=znb w1 (.cells #[.bool d.leaf,.slice (some ⟨kb,0,none⟩) d.n d.n,.slice (some ⟨vb,0,none⟩) d.n d.n] 107);have hcb:=(Chg.refl [] w1).alloc (.cells #[.bool d.leaf,.slice (some ⟨kb,0,none⟩) d.n d.n,.slice (some ⟨vb,0,none⟩) d.n d.n] 107);have hnd:=NodeEnd.box HD.out k1 k2 r1 r2 c1 hnb (hcb.mono (by simp));rw [<- HN.out] at hnb hcb hnd ⊢
 have hbel:Below W0.heap.size W (w1.alloc (.cells #[.bool d.leaf,.slice (some ⟨kb,0,none⟩) n n,.slice (some ⟨vb,0,none⟩) n n] 107)):=by
  have c2:=c1.trans hcb;exact ⟨c2.os,c2.tape,c2.output,c2.size,fun k hk=>c2.block k (zLl hk HJ.out.2) (by simp)⟩
 have HC1:=zh (c1.trans hcb);have HJ1:=zh (HY.out.j _ _ _ HJ.out.1 (Blv.of_chg hbel HC1.out (fun q hq=>HY.out.q1 _ _ q HJ.out.1 hq)));have HY1:Hid (Yfr Pv (l::Lw) W _):=zh ((Yfr.of HC1.out (fun q hq => .inl (HY.out.q2 _ _ _ q HJ.out.1 hbel hq))).mono (by simp));have HPB:=zh (fun q hq=>HY.out.q1 _ _ q HJ.out.1 (HY.out.q2 _ _ _ q HJ.out.1 hbel hq));have HND:=zh hnd;obtain ⟨y0,y1,y2⟩:=hnd.c;rw [<- HN.out] at y1 y2;clear hnb hcb hnd hbel r1 r2 k1 k2 k3 c1
 gi_wp2
 generalize w1.alloc (.cells #[.bool d.leaf,.slice (some ⟨kb,0,none⟩) n n,.slice (some ⟨vb,0,none⟩) n n] 107)=W1 at *;obtain ⟨xb,hxb⟩:∃ xb,xb=w1.heap.size:=⟨_,rfl⟩;rw [<- hxb] at HND y0 y1 y2 ⊢;clear hxb
 gi_loopw [47] (fun s wr=>∃ i:Nat,s = .int .i64 (i:Int)/\i<=n/\Hid (J (k0+(upTo G i).length) wr/\Yfr Pv (l::Lw) W1 wr)) (fun s _=>n - (intOf s).toNat)
 case atStart=>exact ⟨0,rfl,Nat.zero_le _,zh ⟨HJ1.out,Yfr.refl _ _ _⟩⟩
 case round =>
  obtain ⟨i,rfl,hi',HX⟩:=hrel;obtain ⟨Lx,cx,hLx⟩:=HX.out.2.c
  have hnd2:=HND.out.chg cx (fun q hq => .inl (by
   rcases hLx q hq with h | h
   ·exact zLl (HY.out.below h) HJ.out.2
   ·exact HPB.out q h))
  have HPX:Hid (¬ Pv wr xb):=zh fun h=>by
   rcases HX.out.2.p _ h with h | h
   ·have h1:=HPB.out _ h;have h2:=HND.out.far.1;omega
   ·have h1:=zhl HND.out.top;omega
  clear cx hLx;obtain ⟨z0,z1,z2⟩:=hnd2.c;rw [<- HN.out] at z1 z2;have HN2:=zh hnd2;clear hnd2;by_cases hin:i<n
  ·have hkc:=HN2.out.k.cell (i:=i) (by rw [<- HN.out];exact hin)
   have i1:(i:Int)<(n:Int):=by omega
   have hcle:=upTo_le (g:=G) (i:=i+1) (n:=n) (by omega);rw [upTo_succ,List.length_append] at hcle;by_cases hki:hi<d.k i
   ·have hrest:(upTo G n).length=(upTo G i).length:=by rw [HG.out];exact upTo_rest hi' (by rw [HN.out];exact told_end HD.out hki)
    have i2:(hi:Int)<(d.k i:Int):=by omega
    have HZ:Hid (J tot wr):=zh (by rw [HT.out,hrest];exact HX.out.1);clear hki hrest hcle
    gi_wp2_with (first | (refine wpListIn_no (o:=⟨_,_,_,_,_,some _⟩) ?hno ?kno;case hno=>rfl) | with_reducible refine zA (wide_fn _) ?_ | with_reducible refine zA wide_none ?_)
    go_ret;exact ⟨HY1.out.trans HX.out.2,.inl ⟨rfl,HZ.out⟩⟩
   ·have i2:¬ (hi:Int)<(d.k i:Int):=by omega
    have hvc:=HN2.out.v.cell (i:=i) (by rw [<- HN.out];exact hin);have HKI:=zh hki;have HCL:=zh hcle;clear hki hcle
    cases hl:d.leaf with
    | true =>
     rw [hl] at z0;by_cases hlk:lo<=d.k i
     ·have hg:G i=[((d.k i,d.v i),0)]:=by rw [HG.out];exact told_leaf hl HKI.out hlk
      have i4:(lo:Int)<=(d.k i:Int):=by omega
      have hcl:=HCL.out;rw [hg] at hcl;simp only [List.length_cons,List.length_nil] at hcl;have hlx:=HL.out.2 (upTo G i).length (by omega);have hux:=upTo_get (g:=G) (i:=i) (n:=n) hin (j:=0) (by rw [hg];simp);rw [Nat.add_zero,hg,hlx] at hux;simp only [tA3,Option.some.injEq] at hux;have hy:=HY.out.y _ wr HX.out.1 (by have:=HL.out.1;omega);rw [hux] at hy
      change YieldAt Fence.wide 5 Tryz.prog l #[.agg #[.int .u64 (d.k i:Int),.int .u64 (d.v i:Int),.int .i64 0]] wr _ at hy
      have HS:Hid ((upTo G (i+1)).length=(upTo G i).length+1):=zh (by rw [upTo_succ,hg,List.length_append];rfl);obtain ⟨fn,tmps,assign,body,hrun,hR⟩:=hy;clear hux hlx hcl hg
      gi_wp2_with (first | (refine wpListIn_no (o:=⟨_,_,_,_,_,some _⟩) ?hno ?kno;case hno=>rfl) | with_reducible refine zA (wide_fn _) ?_ | with_reducible refine zA wide_none ?_)
      refine hR.mono ?_;rintro e W' (⟨rfl,hj,hc⟩ | ⟨rfl,hj,hc⟩)
      ·have HZ:=zh (zA hj (HX.out.2.trans hc))
       obtain ⟨Lh,ch,hLh⟩:=hc.c
       have z0':=(ch.cell (p:=⟨xb,0,none⟩) (World.block_lt_of_cell? _ _ z0) (fun hm=>by
        rcases hLh _ hm with hm | hm
        ·have h1:=HY.out.below hm;have h2:=HN2.out.far.1;have h3:=HJ.out.2;change xb<W0.heap.size at h1;omega
        ·exact HPX.out hm)).trans z0
       clear ch hLh;clear hj hc hrun hR
       gi_wp2_with (first | with_reducible refine zA (wide_fn _) ?_ | with_reducible refine zA wide_none ?_)
       go_roundw
       case rel =>
        first
         | exact ⟨i+1,by go_num,by omega,zh ⟨by rw [HS.out];exact HZ.out.1,HZ.out.2⟩⟩
         | exact ⟨_,_,_,.int .i64 ((i+1:Nat):Int),⟨i+1,rfl,by omega,zh ⟨by rw [HS.out];exact HZ.out.1,HZ.out.2⟩⟩,rfl,rfl,rfl,by go_num⟩
       case measure=>first | (simp [intOf];omega) | omega
      ·have HZ:=zh (zA hj (HX.out.2.trans hc))
       clear hj hc hrun hR
       gi_wp2_with (first | with_reducible refine zA (wide_fn _) ?_ | with_reducible refine zA wide_none ?_)
       go_ret;exact ⟨HY1.out.trans HZ.out.2,.inr ⟨rfl,_,by have h1:=HL.out.1;have h2:=HCL.out;have h3:=HS.out;rw [upTo_succ,List.length_append] at h3;omega,HZ.out.1⟩⟩
     ·have hg:G i=[]:=by rw [HG.out];exact told_skip hl HKI.out hlk
      have i4:¬ (lo:Int)<=(d.k i:Int):=by omega
      have HS:Hid ((upTo G (i+1)).length=(upTo G i).length):=zh (by rw [upTo_succ,hg,List.append_nil]);clear hg hlk
      gi_wp2_with (first | (refine wpListIn_no (o:=⟨_,_,_,_,_,some _⟩) ?hno ?kno;case hno=>rfl) | with_reducible refine zA (wide_fn _) ?_ | with_reducible refine zA wide_none ?_)
      go_roundw
      case rel =>
       first
        | exact ⟨i+1,by go_num,by omega,zh ⟨by rw [HS.out];exact HX.out.1,HX.out.2⟩⟩
        | exact ⟨_,_,_,.int .i64 ((i+1:Nat):Int),⟨i+1,rfl,by omega,zh ⟨by rw [HS.out];exact HX.out.1,HX.out.2⟩⟩,rfl,rfl,rfl,by go_num⟩
      case measure=>first | (simp [intOf];omega) | omega
    | false =>
     rw [hl] at z0;have hkn:∀ j,j<n->d.v j<4096:=fun j hj=>((kidsB_iff _ _).1 (HD.out.kids hl)).2.1 j (by rw [<- HN.out];exact hj) |>.2
     have hv5:=hkn i hin;have ck:=kid_at (d.v i) (by omega) wr;by_cases hin2:i+1=n∨lo<d.k (i+1)
     ·have hg:G i=itemsP B lo hi f (kidI (d.v i)):=by rw [HG.out];exact told_kid hl HKI.out (by rw [<- HN.out];exact hin2)
      have hcl:=HCL.out;rw [hg] at hcl
      have ih:=IH.out (kidI (d.v i)) (k0+(upTo G i).length) wr (zLt HJ.out.2 (by have h1:=HC1.out.size;have h2:=HX.out.2.size;omega)) HX.out.1 (by omega) (by have:=HL.out.1;omega) (fun j hj=>by
       have h1:=HL.out.2 ((upTo G i).length+j) (by omega);have h2:=upTo_get (g:=G) (i:=i) (n:=n) hin (j:=j) (by rw [hg];exact hj);rw [hg] at h2;rw [<- h2,h1,Nat.add_assoc])
      have HS:Hid ((upTo G (i+1)).length=(upTo G i).length+(itemsP B lo hi f (kidI (d.v i))).length):=zh (by rw [upTo_succ,hg,List.length_append]);have IHH:=zh ih;have CK:=zh ck
      have hcase:(i:Int)+1=(n:Int)∨(¬ ((i:Int)+1=(n:Int))/\(i:Int)+1<(n:Int)/\(lo:Int)<(d.k (i+1):Int)/\wr.cell? ⟨kb,i+1,none⟩=some (.int .u64 (d.k (i+1):Int))):=by
       by_cases q:i+1=n
       ·exact .inl (by omega)
       ·exact .inr ⟨by omega,by omega,by rcases hin2 with h | h <;> omega,HN2.out.k.cell (i:=i+1) (by have:=HN.out;omega)⟩
      have HNN:=zh (show k0+(upTo G i).length<=N from by have:=HL.out.1;omega);clear hg hcl ih ck hkn hin2;rcases hcase with i4 | ⟨i4,i5,i6,hk2⟩
      all_goals
       gi_wp2_with (first | (refine wpListIn_no (o:=⟨_,_,_,_,_,some _⟩) ?hno ?kno;case hno=>rfl) | with_reducible refine zA wide_none ?_)
       refine ⟨trivial,(callsIn_wide.2 CK.out).mono ?_⟩;rintro e w' ⟨rfl,rfl⟩
       gi_wp2_with (first | (refine wpListIn_no (o:=⟨_,_,_,_,_,some _⟩) ?hno ?kno;case hno=>rfl) | with_reducible refine zA wide_none ?_)
       refine ⟨trivial,(callsIn_wide.2 IHH.out).mono ?_⟩;rintro e W' ⟨hc,⟨rfl,hj⟩ | ⟨rfl,k,hkN,hjx⟩⟩
       ·have HZ:=zh (zA hj (HX.out.2.trans hc))
        clear hc hj
        gi_wp2_with (first | (refine wpListIn_no (o:=⟨_,_,_,_,_,some _⟩) ?hno ?kno;case hno=>rfl) | with_reducible refine zA wide_none ?_)
        go_roundw
        case rel =>
         first
          | exact ⟨i+1,by go_num,by omega,zh ⟨by rw [HS.out,<- Nat.add_assoc];exact HZ.out.1,HZ.out.2⟩⟩
          | exact ⟨_,_,_,.int .i64 ((i+1:Nat):Int),⟨i+1,rfl,by omega,zh ⟨by rw [HS.out,<- Nat.add_assoc];exact HZ.out.1,HZ.out.2⟩⟩,rfl,rfl,rfl,by go_num⟩
        case measure=>first | (simp [intOf];omega) | omega
       ·have HZ:=zh (zA hjx (HX.out.2.trans hc))
        clear hc hjx
        gi_wp2_with (first | (refine wpListIn_no (o:=⟨_,_,_,_,_,some _⟩) ?hno ?kno;case hno=>rfl) | with_reducible refine zA wide_none ?_)
        go_ret;exact ⟨HY1.out.trans HZ.out.2,.inr ⟨rfl,k,hkN,HZ.out.1⟩⟩
     ·have hg:G i=[]:=by rw [HG.out];exact told_over hl HKI.out (by rw [<- HN.out];exact hin2)
      have hlt:i+1<n:=by omega
      have i4:¬ ((i:Int)+1=(n:Int)):=by omega
      have hk2:=HN2.out.k.cell (i:=i+1) (by rw [<- HN.out];exact hlt);have i5:¬ ((lo:Int)<(d.k (i+1):Int)):=by omega
      have i6:(i:Int)+1<(n:Int):=by omega
      have HS:Hid ((upTo G (i+1)).length=(upTo G i).length):=zh (by rw [upTo_succ,hg,List.append_nil]);clear hg hin2 hkn ck
      gi_wp2_with (first | (refine wpListIn_no (o:=⟨_,_,_,_,_,some _⟩) ?hno ?kno;case hno=>rfl) | with_reducible refine zA (wide_fn _) ?_ | with_reducible refine zA wide_none ?_)
      go_roundw
      case rel =>
       first
        | exact ⟨i+1,by go_num,by omega,zh ⟨by rw [HS.out];exact HX.out.1,HX.out.2⟩⟩
        | exact ⟨_,_,_,.int .i64 ((i+1:Nat):Int),⟨i+1,rfl,by omega,zh ⟨by rw [HS.out];exact HX.out.1,HX.out.2⟩⟩,rfl,rfl,rfl,by go_num⟩
      case measure=>first | (simp [intOf];omega) | omega
  ·obtain rfl:i=n:=by omega
   have HZ:Hid (J tot wr):=zh (by rw [HT.out];exact HX.out.1)
   gi_wp2_with (first | (refine wpListIn_no (o:=⟨_,_,_,_,_,some _⟩) ?hno ?kno;case hno=>rfl) | with_reducible refine zA (wide_fn _) ?_ | with_reducible refine zA wide_none ?_)
   go_ret;exact ⟨HY1.out.trans HX.out.2,.inl ⟨rfl,HZ.out⟩⟩
theorem items_at (ok:B.Ok) (hY:Yld M F B L N l J Jx W0 Lw Pv) {lo hi:Nat} (hlo:lo<18446744073709551616) (hhi:hi<18446744073709551616):∀ f:Nat,ItAt l J Jx W0 Lw Pv M B L N lo hi f
 | 0=>fun y k0 W hW hJ hf hk hL=>items_err ok hY hW hJ hf (.inr rfl) hk hL
 | f+1=>fun y k0 W hW hJ hf hk hL=>by
  cases hd:B.nodeI y with
  | none=>exact items_err ok hY hW hJ hf (.inl hd) hk hL
  | some d=>exact items_step ok hY hlo hhi (items_at ok hY hlo hhi f) hd hW hJ hf hk hL
end
end Go.Proofs.YtkhcaclndepgbaaGreat
