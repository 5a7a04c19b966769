/- A loop over an iterator whose body keep -/
import Derived.Test.YtegpiomkmfhadaaGreatZo16
import Derived.BigGuardIn
set_option linter.all false
set_option maxRecDepth 100000
set_option maxHeartbeats 20000000
namespace Go.Proofs.YtegpiomkmfhadaaGreat
open Go.RowKit
variable {Pv:World->Nat->Prop} {n:Nat} {A:World}
structure Qt (Pv:World->Nat->Prop) (Lw:List Nat) (W W':World):Prop where
 c:∃ L,zv L W W'/\∀ q,q∈L->q∈Lw∨Pv W q
 p:∀ q,Pv W' q->Pv W q∨W.heap.size<=q
section
variable {Pv:World->Nat->Prop} {Lw Lw':List Nat} {W W' W1 W2 W3:World}
theorem Qt.size (h:Qt Pv Lw W W'):W.heap.size<=W'.heap.size:=by obtain ⟨L,c,_⟩:=h.c;exact c.size
theorem Qt.mono (h:Qt Pv Lw W W') (hl:∀ q,q∈Lw->q∈Lw'):Qt Pv Lw' W W':=by
 obtain ⟨L,c,hL⟩:=h.c;exact ⟨⟨L,c,fun q hq=>(hL q hq).imp (hl q) id⟩,h.p⟩
theorem Qt.trans (h:Qt Pv Lw W1 W2) (k:Qt Pv Lw W2 W3):Qt Pv Lw W1 W3:=by
 obtain ⟨L,c,hL⟩:=h.c;obtain ⟨L2,c2,Sc⟩:=k.c;refine ⟨⟨L++L2.filter (fun q=>decide (q<W1.heap.size)),(c.mono (fun q hq=>zal _ hq)).then c2 (fun q hq=>?_),fun q hq=>?_⟩,fun q hq=>?_⟩
 ·by_cases e:q<W1.heap.size
  ·exact .inl (zar _ (yG.2 ⟨hq,by simp [e]⟩))
  ·exact .inr zo
 ·rcases yx.1 hq with hq | hq
  ·exact hL q hq
  ·obtain ⟨h1,h2⟩:=yG.1 hq
   simp at h2;rcases Sc q h1 with h3 | h3
   ·exact .inl h3
   ·rcases h.p q h3 with h4 | h4
    ·exact .inr h4
    ·omega
 ·rcases k.p q hq with h1 | h1
  ·exact h.p q h1
  ·exact .inr (qh h.size h1)
theorem Qt.refl (Pv:World->Nat->Prop) (Lw:List Nat) (W:World):Qt Pv Lw W W:=⟨⟨[],zv.refl _ _,fun q hq=>by cases hq⟩,fun q hq => .inl hq⟩
theorem Qt.of (c:zv Lw W W') (hp:∀ q,Pv W' q->Pv W q∨W.heap.size<=q):Qt Pv Lw W W':=⟨⟨Lw,c,fun q hq => .inl hq⟩,hp⟩
end
structure dm (Pv:World->Nat->Prop) (n:Nat) (A B:World):Prop where
 b:Below n A B
 p:∀ q,Pv A q->B.heap[q]?=A.heap[q]?
theorem dm.mono {Pv:World->Nat->Prop} {n m:Nat} {A B:World} (h:dm Pv n A B) (hm:m<=n):dm Pv m A B:=⟨h.b.mono hm,h.p⟩
theorem dm.of_chg {B:World} (hb:Below n A B) (c:zv [] A B) (h1:∀ q,Pv A q->q<A.heap.size):dm Pv n A B:=⟨hb,fun q hq=>c.block q (h1 q hq) zaa⟩
theorem dm.put {l:Nat} (o:Obj) (h:n<=l) (h1:∀ q,Pv A q->q≠l):dm Pv n A (A.putObj l o):=⟨Zb o h,fun q hq=>World.putObj_heap_other (h1 q hq)⟩
def vw (Pv:World->Nat->Prop) (Lw:List Nat) (I:World->Prop) (Ix:Code->World->Prop) (W:World):Exit->Act->World->Prop
 | .normal,_,W'=>Qt Pv Lw W W'/\I W'
 | .ret,_,W'=>Qt Pv Lw W W'/\Ix .ret W'
 | .exit id,_,W'=>Qt Pv Lw W W'/\Ix (.exit id) W'
 | _,_,_=>False
def wL (F:Fence) (n:Nat) (P:Program) (gf:Nat) (lb:Array Value) (Pj:World->Prop) (Av:Nat->World->Array Value->Prop) (N:Nat) (Lw:List Nat) (w:World):Prop :=
 ∀ (Pv:World->Nat->Prop) (l:Nat) (J Jx:Nat->World->Prop) (W:World),Below w.heap.size w W->w.heap.size<=l->l<W.heap.size ->
  (∀ k A B,J k A->dm Pv W.heap.size A B->J k B)->(∀ k A B,Jx k A->dm Pv W.heap.size A B->Jx k B)->(∀ k A,J k A->Pj A) ->
  (∀ k A q,J k A->Pv A q->q<A.heap.size)->(∀ k A B q,J k A->Below W.heap.size A B->Pv B q->Pv A q) ->
  (∀ k W1 av,J k W1->k<N->Av k W1 av->YieldAt F (n - 1) P l av W1 fun e W'=>(e = .returned (.bool true)/\J (k+1) W'/\Qt Pv (l::Lw) W1 W')∨(e = .returned (.bool false)/\Jx (k+1) W'/\Qt Pv (l::Lw) W1 W')) ->
  J 0 W->CallsIn F n P gf (#[.func (.yield l) #[] #[]]++lb) W fun e W'=>(∃ v,e = .returned v)/\(J N W'∨∃ k,k<=N/\Jx k W')
variable {F:Fence} {n:Nat} {P:Program}
theorem Vs {g:Operand} {ps:Array Tmp} {assign body:Code} {Q:Exit->Act->World->Prop} {a:Act} {w:World}
  (Kl:F.round=none) (h1:1<=n) {gf:Nat} {lb:Array Value} (hg:a.eval g = .func (.func gf) #[] lb) (U1:F.fn gf) (eg:∀ args w,(callFunc gf args).run P w = .ok (.enter gf args) w)
  {Av:Nat->World->Array Value->Prop} {N:Nat} {Lw:List Nat} {Pj:World->Prop} (EM:wL F (n - 1) P gf lb Pj Av N Lw w) (Lt:∀ x,x∈Lw->x<w.heap.size) (hps:∀ k W av,Av k W av->av.size=ps.size)
  (Pv:World->Nat->Prop) (I:Nat->World->Prop) (Ix:Code->Nat->World->Prop) (hI:∀ k A B,I k A->dm Pv w.heap.size A B->I k B) (L6:∀ c k A B,Ix c k A->dm Pv w.heap.size A B->Ix c k B) (h0:I 0 w) (Sf:∀ k A,I k A->Pj A)
  (EZ:∀ k A q,I k A->Pv A q->q<A.heap.size/\(q<w.heap.size∨w.heap.size+1<q)) (Ge:∀ k A B q,I k A->Below w.heap.size A B->Pv B q->Pv A q) (Rp:∀ c k A B q,Ix c k A->Below w.heap.size A B->Pv B q->Pv A q) (LI:∀ c k A q,Ix c k A->Pv A q->q<w.heap.size∨w.heap.size+1<q)
  (F5:∀ (l k:Nat) (W:World) (av:Array Value),w.heap.size<=l->l<W.heap.size->I k W->k<N->Av k W av->(∃ r:Loop,W.heap[l]?=some (.loop r)) ->
   assign.wpIn (F.inRound l) (n - 1 - 1) P (Exit.then (fun a1 W1=>zv [] W W1/\∀ W2,zv [l] W1 W2->body.wpIn (F.inRound l) (n - 1 - 1) P (vw Pv Lw (I (k+1)) (fun c=>Ix c (k+1)) W2) a1 W2) (fun _ _ _=>False))
    { tmps:=(ps.zip av).foldl (fun t (p,v)=>t.setIfInBounds p v) a.tmps,defers:=[] } W)
  (Ip:∀ (D:Nat) (W:World),w.heap.size<=D->I N W->W.heap[D]?=some (.deferred (some []))->Q .normal { a with defers := { target := .collected D,args:=#[] } :: a.defers } W)
  (IE:∀ (D:Nat) (c:Code) (k:Nat) (W:World),w.heap.size<=D->k<=N->Ix c k W->W.heap[D]?=some (.deferred (some []))->c.wpIn F n P Q { a with defers := { target := .collected D,args:=#[] } :: a.defers } W) :
  (Code.rangeFunc g ps assign body).wpIn F n P Q a w:=by
 refine wpIn_rangeFunc ?_;intro fn hfn;rw [Kl];obtain ⟨Ei,DY⟩:∃ Ei:LoopState->Option Code->Loop,Ei=fun st pe => { state:=st,pending:=pe,fn,tmps:=a.tmps,params:=ps,assign,body,defers:=w.heap.size } := ⟨_,rfl⟩;obtain ⟨W1,G5⟩:∃ W1,(w.alloc (.deferred (some []))).alloc (.loop (Ei .ready none))=W1:=⟨_,rfl⟩;have M5:W1.heap[w.heap.size+1]?=some (.loop (Ei .ready none)):=by rw [<- G5];exact cZ w _ _
 have hK1:W1.heap[w.heap.size]?=some (.deferred (some [])):=by rw [<- G5];exact kC w _ _
 have al:Below w.heap.size w W1:=by rw [<- G5];exact ((Below.refl _ w).alloc (xd _) _).alloc zaa _
 have Gd:W1.heap.size=w.heap.size+2:=by rw [<- G5];simp
 refine ⟨w.heap.size+1,[{ target := .collected w.heap.size,args:=#[] }],W1,{ target := .fn (.func gf) lb,args:=#[.func (.yield (w.heap.size+1)) #[] #[]] },W1,gf,
  #[.func (.yield (w.heap.size+1)) #[] #[]]++lb,W1,?_,?_,?_,?_,fun _=>h1,?_⟩
 ·rw [<- G5,DY];exact run_enterLoop_outer _ _ _ _ _
 ·simp only [resolve,hg]
  simp [go_sem]
 ·intro f' Gm;simp [Target.leads] at Gm;subst Gm;exact U1
 ·simp [invoke,go_sem,eg]
 ·refine (EM Pv (w.heap.size+1)
   (fun k W=>I k W/\W.heap[w.heap.size+1]?=some (.loop (Ei .ready none))/\W.heap[w.heap.size]?=some (.deferred (some [])))
   (fun k W=>∃ c,Ix c k W/\W.heap[w.heap.size+1]?=some (.loop (Ei .done (some c)))/\W.heap[w.heap.size]?=some (.deferred (some [])))
   W1 al zo zo
   (fun k A B h Cq=>⟨hI k A B h.1 (Cq.mono zo),(Cq.b.block _ zo).trans h.2.1,(Cq.b.block _ zo).trans h.2.2⟩)
   (fun k A B h Cq=>by
    obtain ⟨c,hc,hl,hk⟩:=h;exact ⟨c,L6 c k A B hc (Cq.mono zo),(Cq.b.block _ zo).trans hl,(Cq.b.block _ zo).trans hk⟩)
   (fun k A h=>Sf k A h.1) (fun k A q h hq=>(EZ k A q h.1 hq).1) (fun k A B q h Cq hq=>Ge k A B q h.1 (Cq.mono zo) hq) ?_ ⟨hI 0 w W1 h0 ⟨al,fun q hq=>al.block q (EZ 0 w q h0 hq).1⟩,M5,hK1⟩).mono ?_
  ·rintro k W av ⟨hi,hl,hk⟩ Fw Lz
   have BY:w.heap.size+1<W.heap.size:=zz hl;have hy:=run_yield (P:=P) (args:=av) hl (by rw [DY];exact hps k W av Lz);rw [DY] at hy;refine ⟨fn,_,assign,body,hy,roundIn_of_wpIn hfn (wpIn_mono (F5 (w.heap.size+1) k W av zo BY hi Fw Lz ⟨_,hl⟩) ?_)⟩;clear hy;intro e a1 Wa hp
   cases e with
   | normal =>
    obtain ⟨Mg,TP⟩:=hp;have hla:=(Mg.block _ BY zaa).trans hl;have hka:=(Mg.block _ zo zaa).trans hk;have SJ:w.heap.size+1<Wa.heap.size:=zz hla;refine ⟨_,run_beginRound hla (by rw [DY]),?_⟩;have BW:=Yd (W:=Wa) (l:=w.heap.size+1) (.loop { Ei .ready none with state := .busy });have DI:(Wa.putObj (w.heap.size+1) (.loop { Ei .ready none with state := .busy })).heap[w.heap.size+1]?=some (.loop { Ei .ready none with state := .busy }):=World.putObj_heap_same SJ;have Cy:(Wa.putObj (w.heap.size+1) (.loop { Ei .ready none with state := .busy })).heap[w.heap.size]?=some (.deferred (some [])):=(World.putObj_heap_other zo).trans hka;have K5:zv [w.heap.size+1] W (Wa.putObj (w.heap.size+1) (.loop { Ei .ready none with state := .busy })):=(Mg.mono zaa).trans BW;have hbW2:Below w.heap.size W (Wa.putObj (w.heap.size+1) (.loop { Ei .ready none with state := .busy })):=⟨K5.os,K5.tape,K5.output,K5.size,fun q hq=>K5.block q zo zad⟩;refine wpIn_mono (TP _ BW) ?_;generalize Wa.putObj (w.heap.size+1) (.loop { Ei .ready none with state := .busy })=V2 at *;have hpv:∀ q,Pv V2 q->Pv W q:=fun q hq=>Ge k W V2 q hi hbW2 hq
    have fin:∀ (Dc:Option Code) (W3:World),Qt Pv Lw V2 W3->(∀ B q,Below w.heap.size W3 B->Pv B q->Pv W3 q) ->
      (Instr.endRound (w.heap.size+1) Dc).run P W3 = .ok (.bool Dc.isNone) (W3.putObj (w.heap.size+1) (.loop (Ei (if Dc.isNone then .ready else .done) Dc))) /\
      (W3.putObj (w.heap.size+1) (.loop (Ei (if Dc.isNone then .ready else .done) Dc))).heap[w.heap.size+1]?=some (.loop (Ei (if Dc.isNone then .ready else .done) Dc)) /\
      (W3.putObj (w.heap.size+1) (.loop (Ei (if Dc.isNone then .ready else .done) Dc))).heap[w.heap.size]?=some (.deferred (some [])) /\
      Qt Pv ((w.heap.size+1)::Lw) W (W3.putObj (w.heap.size+1) (.loop (Ei (if Dc.isNone then .ready else .done) Dc))):=fun Dc W3 Eu hx3=>by
     obtain ⟨L3,c3,hL3⟩:=Eu.c
     have SK:∀ i,i=w.heap.size∨i=w.heap.size+1->i∉L3:=fun i hi' hm=>by
      rcases hL3 i hm with h | h
      ·have:=Lt i h;omega
      ·have:=(EZ k W i hi (hpv i h)).2;omega
     have Nh:=(c3.block _ (zz DI) (SK _ (.inr rfl))).trans DI;have La:=(c3.block _ (zz Cy) (SK _ (.inl rfl))).trans Cy;have hr:=run_endRound (P:=P) Dc Nh;refine ⟨?_,World.putObj_heap_same (zz Nh),(World.putObj_heap_other zo).trans La,?_⟩
     ·rw [DY] at hr ⊢
      exact hr
     ·have y1:Qt Pv ((w.heap.size+1)::Lw) W V2:=(Qt.of K5 (fun q hq => .inl (hpv q hq))).mono zaa
      have y3:Qt Pv ((w.heap.size+1)::Lw) W3 (W3.putObj (w.heap.size+1) (.loop (Ei (if Dc.isNone then .ready else .done) Dc))):=(Qt.of (Yd _) (fun q hq => .inl (hx3 _ q (Zb _ zo) hq))).mono zaa;exact (y1.trans (Eu.mono zax)).trans y3
    rintro e a3 W3 hp
    cases e with
    | normal =>
     obtain ⟨Eu,GO⟩:=hp;obtain ⟨hr,Lb,Gb,Cd⟩:=fin none W3 Eu (fun B q hb hq=>Ge _ W3 B q GO hb hq);exact ⟨_,_,hr,.inl ⟨rfl,⟨hI _ _ _ GO (dm.put _ zo (fun q hq=>by have:=(EZ _ _ q GO hq).2;omega)),Lb,Gb⟩,Cd⟩⟩
    | ret =>
     obtain ⟨Eu,GO⟩:=hp;obtain ⟨hr,Lb,Gb,Cd⟩:=fin (some .ret) W3 Eu (fun B q hb hq=>Rp _ _ W3 B q GO hb hq);exact ⟨_,_,hr,.inr ⟨rfl,⟨.ret,L6 _ _ _ _ GO (dm.put _ zo (fun q hq=>by have:=LI _ _ _ q GO hq;omega)),Lb,Gb⟩,Cd⟩⟩
    | exit id =>
     obtain ⟨Eu,GO⟩:=hp;obtain ⟨hr,Lb,Gb,Cd⟩:=fin (some (.exit id)) W3 Eu (fun B q hb hq=>Rp _ _ W3 B q GO hb hq);exact ⟨_,_,hr,.inr ⟨rfl,⟨.exit id,L6 _ _ _ _ GO (dm.put _ zo (fun q hq=>by have:=LI _ _ _ q GO hq;omega)),Lb,Gb⟩,Cd⟩⟩
    | goto t=>exact hp.elim
    | panic ch=>exact hp.elim
    | outgrown=>exact hp.elim
   | ret=>exact hp.elim
   | exit id=>exact hp.elim
   | goto t=>exact hp.elim
   | panic ch=>exact hp.elim
   | outgrown=>exact hp.elim
  ·rintro e W2 ⟨⟨v,rfl⟩,(⟨hi,hl,hk⟩ | ⟨k,Fw,c,hi,hl,hk⟩)⟩
   ·exact ⟨none,_,by have:=run_endLoop (P:=P) hl (by rw [DY];simp);rw [DY] at this;exact this,Ip _ _ (xd _) (hI _ _ _ hi (dm.put _ zo (fun q hq=>by have:=(EZ _ _ q hi hq).2;omega))) ((World.putObj_heap_other zo).trans hk)⟩
   ·exact ⟨some c,_,by have:=run_endLoop (P:=P) hl (by rw [DY];simp);rw [DY] at this;exact this,IE _ c k _ (xd _) Fw (L6 _ _ _ _ hi (dm.put _ zo (fun q hq=>by have:=LI _ _ _ q hi hq;omega))) ((World.putObj_heap_other zo).trans hk)⟩
end Go.Proofs.YtegpiomkmfhadaaGreat
namespace Go.Proofs.YtegpiomkmfhadaaGreat
open Go.RowKit Go.Shelf
attribute [local go_sem] Oper.semAt_some
variable {B:Bs} {lo hi f:Nat} {y:Int} {d:Nd}
def sP (t:(Nat × Nat) × Int):Value := .agg #[.int .u64 (t.1.1:Int),.int .u64 (t.1.2:Int),.int .i64 t.2]
theorem qC {n:Nat} {P:Program} {ops:Array Oper} {Q:Exit->Act->World->Prop} {rest:List Oper} {o:Oper} {a:Act} {w:World} (h:Region.wanted o (yielded ops a.tmps)=false) (k:wpListIn Fence.wide n P ops Q rest (a.put o.dst undef) w) :
  wpListIn Fence.wide n P ops Q (o::rest) a w:=by
 unfold wpListIn;rw [if_neg (by rw [h];decide)];exact ⟨fun _ _=>trivial,k⟩
theorem Qg (f:FuncId):Fence.wide.fn f:=trivial
theorem qR:∀ f:FuncId,(none:Option FuncId)=some f->Fence.wide.fn f:=fun f h=>by cases h
def YU {α:Type} (g:Nat->List α) (i:Nat):List α:=(List.range i).flatMap g
theorem Yy {α:Type} (g:Nat->List α) (i:Nat):YU g (i+1)=YU g i++g i:=by
 unfold YU;rw [zn,zi];simp
theorem bA {α:Type} {g:Nat->List α} {i:Nat} : ∀ {n:Nat},i<n->∀ {j:Nat},j<(g i).length->(YU g n)[(YU g i).length+j]?=(g i)[j]?
 | n+1,hi,j,hj=>by
  rw [Yy];by_cases e:i=n
  ·subst e
   rw [yF zo,yA]
  ·have ih:=bA (g:=g) (i:=i) (n:=n) zo hj
   have BY:(YU g i).length+j<(YU g n).length:=by
    rcases Nat.lt_or_ge ((YU g i).length+j) (YU g n).length with h | h
    ·exact h
    ·rw [List.getElem?_eq_none h,yt hj] at ih;cases ih
   rw [yI BY,ih]
theorem mX {α:Type} {g:Nat->List α} {i:Nat} : ∀ {n:Nat},i<=n->(YU g i).length<=(YU g n).length
 | 0,h=>by
  obtain rfl:i=0:=zo;exact xd _
 | n+1,h=>by
  by_cases e:i=n+1
  ·subst e;exact xd _
  ·rw [Yy,ym]
   exact qh (mX (n:=n) zo) zo
theorem eF {α:Type} {g:Nat->List α} {i:Nat} : ∀ {n:Nat},i<=n->(∀ j,i<=j->j<n->g j=[])->(YU g n).length=(YU g i).length
 | 0,h,_=>by
  obtain rfl:i=0:=zo;rfl
 | n+1,h,hg=>by
  by_cases e:i=n+1
  ·subst e;rfl
  ·rw [Yy,hg n zo zo,yY]
   exact eF zo fun j h1 h2=>hg j h1 zo
def O8 (B:Bs) (lo hi f:Nat) (d:Nd) (i:Nat):List ((Nat × Nat) × Int):=if hi<d.k i then [] else if d.leaf then (if lo<=d.k i then [((d.k i,d.v i),0)] else []) else if i+1=d.n∨lo<d.k (i+1) then xT B lo hi f (Qs (d.v i)) else []
theorem lu (h:B.nodeI y=some d):xT B lo hi (f+1) y=YU (O8 B lo hi f d) d.n:=by
 rw [xT,h];rfl
theorem bB (h:B.nodeI y=none):xT B lo hi f y=[((0,0),B.nodeE y)]:=by
 cases f <;> (rw [xT,h])
theorem lz (h:B.nodeI y=some d):xT B lo hi 0 y=[((0,0),130)]:=by
 rw [xT,h]
structure AR (M:Bm) (F:List Nat) (B:Bs) (L:Nat->(Nat × Nat) × Int) (N l:Nat) (J Jx:Nat->World->Prop) (W0:World) (Lw:List Nat) (Pv:World->Nat->Prop):Prop where
 lt:l<W0.heap.size
 lw:∀ x,x∈Lw->x<W0.heap.size
 j:∀ k A B,J k A->dm Pv W0.heap.size A B->J k B
 p:∀ k A,J k A->zx A M F B
 q1:∀ k A q,J k A->Pv A q->q<A.heap.size
 q2:∀ k A B q,J k A->Below W0.heap.size A B->Pv B q->Pv A q
 y:∀ k W1,J k W1->k<N->YieldAt Fence.wide 5 Tryz.prog l #[sP (L k)] W1 fun e W'=>(e = .returned (.bool true)/\J (k+1) W'/\Qt Pv (l::Lw) W1 W')∨(e = .returned (.bool false)/\Jx (k+1) W'/\Qt Pv (l::Lw) W1 W')
def sQ (W:World) (l:Nat) (Lw:List Nat) (Pv:World->Nat->Prop) (J Jx:Nat->World->Prop) (k N:Nat) (e:Ending) (W':World):Prop :=
 Qt Pv (l::Lw) W W'/\((e = .returned (.bool true)/\J k W')∨(e = .returned (.bool false)/\∃ k,k<=N/\Jx k W'))
section
variable {M:Bm} {F:List Nat} {B:Bs} {L:Nat->(Nat × Nat) × Int} {N l:Nat} {J Jx:Nat->World->Prop} {W0:World} {Lw:List Nat} {Pv:World->Nat->Prop}
theorem AR.below (h:AR M F B L N l J Jx W0 Lw Pv) {q:Nat} (hq:q∈l::Lw):q<W0.heap.size:=by
 rcases ya.1 hq with rfl | hq
 ·exact h.lt
 ·exact h.lw q hq
theorem eG (ok:B.Ok) (hY:AR M F B L N l J Jx W0 Lw Pv) {k0:Nat} {W:World} (hW:W0.heap.size<=W.heap.size) (hJ:J k0 W) (hf:f<=8) (hc:B.nodeI y=none∨f=0) (hk:k0+(xT B lo hi f y).length<=N)
  (hL:∀ i,i<(xT B lo hi f y).length->(xT B lo hi f y)[i]?=some (L (k0+i))) :
  Calls Tryz.prog 125 #[.pointer (some ⟨M.b,0,none⟩),.int .i64 y,.int .i64 ((8 - f:Nat):Int),.int .u64 (lo:Int),.int .u64 (hi:Int),.func (.yield l) #[] #[]] W (sQ W l Lw Pv J Jx (k0+(xT B lo hi f y).length) N):=by
 have cn:=(hY.p _ _ hJ).cNode y
 obtain ⟨E,hE,hEl,TM⟩:∃ E:Int,xT B lo hi f y=[((0,0),E)]/\¬ E=0/\((B.nodeI y=none/\E=B.nodeE y)∨(f=0/\E=130/\B.nodeI y≠none)):=by
  rcases hc with h | rfl
  ·exact ⟨_,bB h,by unfold Bs.nodeE;split <;> decide,.inl ⟨h,rfl⟩⟩
  ·cases h:B.nodeI y with
   | none=>exact ⟨_,bB h,by unfold Bs.nodeE;split <;> decide,.inl ⟨rfl,rfl⟩⟩
   | some d=>exact ⟨_,lz h,zaf,.inr ⟨rfl,rfl,fun q=>by cases q⟩⟩
 rw [hE] at hk hL ⊢
 have Sb:L k0=((0,0),E):=by
  have:=hL 0 zaa;simpa using this.symm
 have Fw:k0<N:=by simp at hk;omega
 have HY:=zh hY;have HJ:=zh (zA hJ hW);have CN:=zh cn;have HL:=zh Sb;have HE:=zh TM;clear hY hJ cn hL Sb hE hc TM hk;refine (callsIn_wide (n:=6)).1 ?_;refine callsIn_of_wp Tryz.func125 rfl trivial ?_ rfl;simp only [Tryz.ntmps125,List.size_toArray,yu,List.length_nil,Nat.reduceAdd,Nat.reduceSub,Array.replicate_succ,Array.replicate_zero,List.push_toArray,yE,yy,yK]
 gi_wp2
 refine ⟨trivial,(callsIn_wide.2 CN).mono ?_⟩;clear CN;intro e w1 D9
 have key:∀ (w2:World) (v0 v1 v2:Value),zv [] W w1->zv [w1.heap.size] w1 w2->YieldAt Fence.wide 5 Tryz.prog l #[.agg #[.int .u64 0,.int .u64 0,.int .i64 E]] w2 fun e W'=>Qt Pv (l::Lw) W W'/\((e = .returned (.bool true)/\J (k0+1) W')∨(e = .returned (.bool false)/\Jx (k0+1) W')):=by
  intro w2 _ _ _ c1 c2;have hb:Below W0.heap.size W w2:=⟨c2.os.trans c1.os,c2.tape.trans c1.tape,c2.output.trans c1.output,qh c1.size c2.size,fun k hk=>(c2.block k (qe (qe hk HJ.2) c1.size) (by simp only [zms];have:=c1.size;have:=HJ.2;omega)).trans (c1.block k (qe hk HJ.2) zaa)⟩;have Dv:zv [] W w2:=⟨hb.os,hb.tape,hb.output,hb.size,fun k hk hn=>(c2.block k (qe hk c1.size) (by simp only [zms];have:=c1.size;omega)).trans (c1.block k hk zaa)⟩;have hy:=HY.y k0 w2 (HY.j _ _ _ HJ.1 (dm.of_chg hb Dv (fun q hq=>HY.q1 _ _ q HJ.1 hq))) Fw;rw [HL.o] at hy
  change YieldAt Fence.wide 5 Tryz.prog l #[.agg #[.int .u64 0,.int .u64 0,.int .i64 E]] w2 _ at hy
  obtain ⟨fn,tmps,assign,body,h1,h2⟩:=hy;refine ⟨fn,tmps,assign,body,h1,h2.mono ?_⟩;rintro e W' hr;have IT:Qt Pv (l::Lw) W w2:=(Qt.of Dv (fun q hq => .inl (HY.q2 _ _ _ q HJ.1 hb hq))).mono zaa;rcases hr with ⟨rfl,r1,r2⟩ | ⟨rfl,r1,r2⟩
  ·exact ⟨IT.trans r2,.inl ⟨rfl,r1⟩⟩
  ·exact ⟨IT.trans r2,.inr ⟨rfl,r1⟩⟩
 have TE:=zh key;clear key;rcases D9 with ⟨d,kb,vb,hd,rfl,k1,k2,k3,r1,r2,c1⟩ | ⟨hd,rfl,c1⟩
 ·have TM:=HE.o
  rcases TM with ⟨q,_⟩ | ⟨rfl,rfl,_⟩
  ·rw [hd] at q;cases q
  have D6:=(ok.node_ok hd).1;have Cv:=xo w1 (.cells #[.bool d.leaf,.slice (some ⟨kb,0,none⟩) d.n d.n,.slice (some ⟨vb,0,none⟩) d.n d.n] 42);have Cn:=(zv.refl [] w1).alloc (.cells #[.bool d.leaf,.slice (some ⟨kb,0,none⟩) d.n d.n,.slice (some ⟨vb,0,none⟩) d.n d.n] 42);have hy:=TE _ undef undef undef c1 (Cn.mono zaa);clear Cv Cn r1 r2 k1 k2 k3 c1 TE HY HJ HL;obtain ⟨fn,tmps,assign,body,B8,hR⟩:=hy
  gi_wp2
  refine hR.mono ?_;rintro e W' ⟨hc,⟨rfl,hj⟩ | ⟨rfl,hj⟩⟩
  ·have HZ:=zh (zA hc hj)
   clear hc hj
   gi_wp2
   go_ret;exact ⟨HZ.1,.inl ⟨rfl,HZ.2⟩⟩
  ·have HZ:=zh (zA hc hj)
   clear hc hj
   gi_wp2
   go_ret;exact ⟨HZ.1,.inr ⟨rfl,_,Fw,HZ.2⟩⟩
 ·have TM:E=B.nodeE y:=by
   rcases HE.o with ⟨_,q⟩ | ⟨_,_,q⟩
   ·exact q
   ·exact absurd hd q
  subst TM;have Cn:=(zv.refl [] w1).alloc (.cells #[.bool false,.slice none 0 0,.slice none 0 0] 42);have hy:=TE _ undef undef undef c1 (Cn.mono zaa);obtain ⟨E,KW⟩:=zE (B.nodeE y);rw [<- KW] at hEl hy ⊢;have hEb:(E==0)=false:=by rw [yD];exact hEl
  clear Cn c1 TE HY HJ HL HE KW;obtain ⟨fn,tmps,assign,body,B8,hR⟩:=hy
  gi_wp2
  case h_1.isFalse=>rename_i b h1 h2;injection h1 with h1;cases h1
  ·have hh:∃ b,some undef=some (Value.bool b):=⟨_,zau⟩;obtain ⟨b,hb⟩:=hh;injection hb with hb;cases hb
  refine hR.mono ?_;rintro e W' ⟨hc,⟨rfl,hj⟩ | ⟨rfl,hj⟩⟩
  ·have HZ:=zh (zA hc hj)
   clear hc hj
   gi_wp2
   go_ret;exact ⟨HZ.1,.inl ⟨rfl,HZ.2⟩⟩
  ·have HZ:=zh (zA hc hj)
   clear hc hj
   gi_wp2
   go_ret;exact ⟨HZ.1,.inr ⟨rfl,_,Fw,HZ.2⟩⟩
end
end Go.Proofs.YtegpiomkmfhadaaGreat
namespace Go.Proofs.YtegpiomkmfhadaaGreat
open Go.RowKit Go.Shelf
attribute [local go_sem] Oper.semAt_some
variable {lo hi f i:Nat} {d:Nd}
section
variable {M:Bm} {F:List Nat} {B:Bs} {L:Nat->(Nat × Nat) × Int} {N l:Nat} {J Jx:Nat->World->Prop} {W0:World} {Lw:List Nat} {Pv:World->Nat->Prop}
theorem oS (hl:d.leaf=true) (h1:¬ hi<d.k i) (h2:lo<=d.k i):O8 B lo hi f d i=[((d.k i,d.v i),0)]:=by
 unfold O8;rw [if_neg h1,hl,if_pos rfl,if_pos h2]
theorem oT (hl:d.leaf=true) (h1:¬ hi<d.k i) (h2:¬ lo<=d.k i):O8 B lo hi f d i=[]:=by
 unfold O8;rw [if_neg h1,hl,if_pos rfl,if_neg h2]
theorem sR (hl:d.leaf=false) (h1:¬ hi<d.k i) (h2:i+1=d.n∨lo<d.k (i+1)):O8 B lo hi f d i=xT B lo hi f (Qs (d.v i)):=by
 unfold O8;rw [if_neg h1,hl,if_neg zaf,if_pos h2]
theorem oU (hl:d.leaf=false) (h1:¬ hi<d.k i) (h2:¬ (i+1=d.n∨lo<d.k (i+1))):O8 B lo hi f d i=[]:=by
 unfold O8;rw [if_neg h1,hl,if_neg zaf,if_neg h2]
theorem sS (hd:d.Ok) (h1:hi<d.k i):∀ j,i<=j->j<d.n->O8 B lo hi f d j=[]:=fun j hj hn=>by
 unfold O8;rw [if_pos];by_cases e:i=j
 ·subst e;exact h1
 ·have:=qI hd.asc (i:=i) (j:=j) zo hn
  omega
def AZ (l:Nat) (J Jx:Nat->World->Prop) (W0:World) (Lw:List Nat) (Pv:World->Nat->Prop) (M:Bm) (B:Bs) (L:Nat->(Nat × Nat) × Int) (N lo hi f:Nat):Prop:=∀ (y:Int) (k0:Nat) (W:World),W0.heap.size<=W.heap.size->J k0 W->f<=8->k0+(xT B lo hi f y).length<=N ->
  (∀ i,i<(xT B lo hi f y).length->(xT B lo hi f y)[i]?=some (L (k0+i)))->zC 125 #[zP M.b,.int .i64 y,.int .i64 ((8 - f:Nat):Int),.int .u64 (lo:Int),.int .u64 (hi:Int),.func (.yield l) #[] #[]] W (sQ W l Lw Pv J Jx (k0+(xT B lo hi f y).length) N)
theorem lA (ok:B.Ok) (hY:AR M F B L N l J Jx W0 Lw Pv) (ED:lo<18446744073709551616) (FH:hi<18446744073709551616) (ih0:AZ l J Jx W0 Lw Pv M B L N lo hi f) {y:Int} {k0:Nat} {W:World} (hd:B.nodeI y=some d) (hW:W0.heap.size<=W.heap.size) (hJ:J k0 W) (hf:f+1<=8) (hk:k0+(xT B lo hi (f+1) y).length<=N)
  (hL:∀ i,i<(xT B lo hi (f+1) y).length->(xT B lo hi (f+1) y)[i]?=some (L (k0+i))) :
  Calls Tryz.prog 125 #[.pointer (some ⟨M.b,0,none⟩),.int .i64 y,.int .i64 ((8 - (f+1):Nat):Int),.int .u64 (lo:Int),.int .u64 (hi:Int),.func (.yield l) #[] #[]] W (sQ W l Lw Pv J Jx (k0+(xT B lo hi (f+1) y).length) N):=by
 have D6:=(ok.node_ok hd).1;have cn:=(hY.p _ _ hJ).cNode y;rw [lu hd] at hk hL ⊢;obtain ⟨G,hG⟩:=zE (O8 B lo hi f d);rw [<- hG] at hk hL ⊢;have IH:=zh ih0;have HY:=zh hY;have HJ:=zh (zA hJ hW);have CN:=zh cn;have HL:=zh (zA hk hL);have HG:=zh hG;have HD:=zh D6;have HNI:=zh hd;have n7:=D6.n;obtain ⟨n,hn⟩:=zE d.n;rw [<- hn] at HL n7 ⊢;have HN:=zh hn;have i0:¬ (((8 - (f+1):Nat):Int)=8):=zo
 have i0b:((((7 - f:Nat):Int))==8)=false:=by simp;omega
 have i3:(((7 - f:Nat):Int)+1)=((8 - f:Nat):Int):=zo;obtain ⟨tot,S5⟩:=zE (k0+(YU G n).length);rw [<- S5];have HT:=zh S5;clear hY hJ cn hk hL hG D6 hn hd S5 ih0;refine (callsIn_wide (n:=6)).1 ?_;refine callsIn_of_wp Tryz.func125 rfl trivial ?_ rfl;simp only [Tryz.ntmps125,List.size_toArray,yu,List.length_nil,Nat.reduceAdd,Nat.reduceSub,Array.replicate_succ,Array.replicate_zero,List.push_toArray,yE,yy,yK]
 gi_wp2
 refine ⟨trivial,(callsIn_wide.2 CN).mono ?_⟩;clear CN;rintro e w1 (⟨d',kb,vb,hd,rfl,k1,k2,k3,r1,r2,c1⟩ | ⟨hd,rfl,c1⟩)
 case inr=>rw [HNI.o] at hd;cases hd
 rw [HNI.o] at hd;injection hd with hd;subst hd;have Cv:=xo w1 (.cells #[.bool d.leaf,.slice (some ⟨kb,0,none⟩) d.n d.n,.slice (some ⟨vb,0,none⟩) d.n d.n] 42);have Cn:=(zv.refl [] w1).alloc (.cells #[.bool d.leaf,.slice (some ⟨kb,0,none⟩) d.n d.n,.slice (some ⟨vb,0,none⟩) d.n d.n] 42);have Cp:=ZQ.box HD k1 k2 r1 r2 c1 Cv (Cn.mono zaa);rw [<- HN.o] at Cv Cn Cp ⊢
 have KY:Below W0.heap.size W (w1.alloc (.cells #[.bool d.leaf,.slice (some ⟨kb,0,none⟩) n n,.slice (some ⟨vb,0,none⟩) n n] 42)):=by
  have c2:=c1.trans Cn;exact ⟨c2.os,c2.tape,c2.output,c2.size,fun k hk=>c2.block k (qe hk HJ.2) zaa⟩
 have Ce:=zh (c1.trans Cn);have MX:=zh (HY.j _ _ _ HJ.1 (dm.of_chg KY Ce (fun q hq=>HY.q1 _ _ q HJ.1 hq)));have HY1:Hd (Qt Pv (l::Lw) W _):=zh ((Qt.of Ce (fun q hq => .inl (HY.q2 _ _ _ q HJ.1 KY hq))).mono zaa);have HPB:=zh (fun q hq=>HY.q1 _ _ q HJ.1 (HY.q2 _ _ _ q HJ.1 KY hq));have Ed:=zh Cp;obtain ⟨y0,y1,y2⟩:=Cp.c;rw [<- HN.o] at y1 y2;clear Cv Cn Cp KY r1 r2 k1 k2 k3 c1
 gi_wp2
 generalize w1.alloc (.cells #[.bool d.leaf,.slice (some ⟨kb,0,none⟩) n n,.slice (some ⟨vb,0,none⟩) n n] 42)=W1 at *;obtain ⟨xb,C5⟩:=zE w1.heap.size;rw [<- C5] at Ed y0 y1 y2 ⊢;clear C5
 gi_loopw [47] (fun s wr=>∃ i:Nat,s = .int .i64 (i:Int)/\i<=n/\Hd (J (k0+(YU G i).length) wr/\Qt Pv (l::Lw) W1 wr)) (fun s _=>n - (intOf s).toNat)
 case atStart=>exact ⟨0,rfl,yg _,zh ⟨MX.o,Qt.refl _ _ _⟩⟩
 case round =>
  obtain ⟨i,rfl,hi',HX⟩:=hrel;obtain ⟨Lx,cx,hLx⟩:=HX.2.c
  have SL:=Ed.chg cx (fun q hq => .inl (by
   rcases hLx q hq with h | h
   ·exact qe (HY.below h) HJ.2
   ·exact HPB q h))
  have HPX:Hd (¬ Pv wr xb):=zh fun h=>by
   rcases HX.2.p _ h with h | h
   ·have h1:=HPB _ h;have h2:=Ed.far.1;omega
   ·have h1:=zz Ed.top;omega
  clear cx hLx;obtain ⟨z0,z1,z2⟩:=SL.c;rw [<- HN.o] at z1 z2;have PC:=zh SL;clear SL;by_cases Cm:i<n
  ·have hkc:=PC.k.cell (i:=i) (by rw [<- HN.o];exact Cm)
   have i1:(i:Int)<(n:Int):=zo;have NQ:=mX (g:=G) (i:=i+1) (n:=n) zo;rw [Yy,ym] at NQ;by_cases N0:hi<d.k i
   ·have Rh:(YU G n).length=(YU G i).length:=by rw [HG.o];exact eF hi' (by rw [HN.o];exact sS HD N0)
    have i2:(hi:Int)<(d.k i:Int):=zo;have HZ:Hd (J tot wr):=zh (by rw [HT.o,Rh];exact HX.1);clear N0 Rh NQ
    gi_wp2_with (first | (refine qC (o:=⟨_,_,_,_,_,some _⟩) ?hno ?kno;case hno=>rfl) | with_reducible refine zA (Qg _) ?_ | with_reducible refine zA qR ?_)
    go_ret;exact ⟨HY1.trans HX.2,.inl ⟨rfl,HZ⟩⟩
   ·have i2:¬ (hi:Int)<(d.k i:Int):=zo
    have IG:=PC.v.cell (i:=i) (by rw [<- HN.o];exact Cm);have RJ:=zh N0;have Ts:=zh NQ;clear N0 NQ
    cases hl:d.leaf with
    | true =>
     rw [hl] at z0;by_cases Co:lo<=d.k i
     ·have hg:G i=[((d.k i,d.v i),0)]:=by rw [HG.o];exact oS hl RJ Co
      have i4:(lo:Int)<=(d.k i:Int):=zo;have Eo:=Ts.o;rw [hg] at Eo;simp only [yu,List.length_nil] at Eo;have TZ:=HL.2 (YU G i).length zo;have hux:=bA (g:=G) (i:=i) (n:=n) Cm (j:=0) (by rw [hg];simp);rw [Nat.add_zero,hg,TZ] at hux;simp only [tA3,Option.some.injEq] at hux;have hy:=HY.y _ wr HX.1 (zq HL.1);rw [hux] at hy
      change YieldAt Fence.wide 5 Tryz.prog l #[.agg #[.int .u64 (d.k i:Int),.int .u64 (d.v i:Int),.int .i64 0]] wr _ at hy
      have HS:Hd ((YU G (i+1)).length=(YU G i).length+1):=zh (by rw [Yy,hg,ym];rfl);obtain ⟨fn,tmps,assign,body,B8,hR⟩:=hy;clear hux TZ Eo hg
      gi_wp2_with (first | (refine qC (o:=⟨_,_,_,_,_,some _⟩) ?hno ?kno;case hno=>rfl) | with_reducible refine zA (Qg _) ?_ | with_reducible refine zA qR ?_)
      refine hR.mono ?_;rintro e W' (⟨rfl,hj,hc⟩ | ⟨rfl,hj,hc⟩)
      ·have HZ:=zh (zA hj (HX.2.trans hc))
       obtain ⟨Lh,ch,hLh⟩:=hc.c
       have z0':=(ch.cell (p:=⟨xb,0,none⟩) (yc _ _ z0) (fun hm=>by
        rcases hLh _ hm with hm | hm
        ·have h1:=HY.below hm;have h2:=PC.far.1;have h3:=HJ.2;change xb<W0.heap.size at h1;omega
        ·exact HPX hm)).trans z0
       clear ch hLh;clear hj hc B8 hR
       gi_wp2_with (first | with_reducible refine zA (Qg _) ?_ | with_reducible refine zA qR ?_)
       go_roundw
       case rel =>
        first
         | exact ⟨i+1,zac,zo,zh ⟨by rw [HS.o];exact HZ.1,HZ.2⟩⟩
         | exact ⟨_,_,_,.int .i64 ((i+1:Nat):Int),⟨i+1,rfl,zo,zh ⟨by rw [HS.o];exact HZ.1,HZ.2⟩⟩,rfl,rfl,rfl,zac⟩
       case measure=>first | (simp [intOf];omega) | omega
      ·have HZ:=zh (zA hj (HX.2.trans hc))
       clear hj hc B8 hR
       gi_wp2_with (first | with_reducible refine zA (Qg _) ?_ | with_reducible refine zA qR ?_)
       go_ret;exact ⟨HY1.trans HZ.2,.inr ⟨rfl,_,by have h1:=HL.1;have h2:=Ts.o;have h3:=HS.o;rw [Yy,ym] at h3;omega,HZ.1⟩⟩
     ·have hg:G i=[]:=by rw [HG.o];exact oT hl RJ Co
      have i4:¬ (lo:Int)<=(d.k i:Int):=zo;have HS:Hd ((YU G (i+1)).length=(YU G i).length):=zh (by rw [Yy,hg,yY]);clear hg Co
      gi_wp2_with (first | (refine qC (o:=⟨_,_,_,_,_,some _⟩) ?hno ?kno;case hno=>rfl) | with_reducible refine zA (Qg _) ?_ | with_reducible refine zA qR ?_)
      go_roundw
      case rel =>
       first
        | exact ⟨i+1,zac,zo,zh ⟨by rw [HS.o];exact HX.1,HX.2⟩⟩
        | exact ⟨_,_,_,.int .i64 ((i+1:Nat):Int),⟨i+1,rfl,zo,zh ⟨by rw [HS.o];exact HX.1,HX.2⟩⟩,rfl,rfl,rfl,zac⟩
      case measure=>first | (simp [intOf];omega) | omega
    | false =>
     rw [hl] at z0;have DH:∀ j,j<n->d.v j<4096:=fun j hj=>((qs _ _).1 (HD.kids hl)).2.1 j (by rw [<- HN.o];exact hj) |>.2
     have LK:=DH i Cm;have ck:=ln (d.v i) zo wr;by_cases Kc:i+1=n∨lo<d.k (i+1)
     ·have hg:G i=xT B lo hi f (Qs (d.v i)):=by rw [HG.o];exact sR hl RJ (by rw [<- HN.o];exact Kc)
      have Eo:=Ts.o;rw [hg] at Eo
      have ih:=IH (Qs (d.v i)) (k0+(YU G i).length) wr (qh HJ.2 (by have h1:=Ce.size;have h2:=HX.2.size;omega)) HX.1 zo (zq HL.1) (fun j hj=>by
       have h1:=HL.2 ((YU G i).length+j) zo;have h2:=bA (g:=G) (i:=i) (n:=n) Cm (j:=j) (by rw [hg];exact hj);rw [hg] at h2;rw [<- h2,h1,Nat.add_assoc])
      have HS:Hd ((YU G (i+1)).length=(YU G i).length+(xT B lo hi f (Qs (d.v i))).length):=zh (by rw [Yy,hg,ym]);have IHH:=zh ih;have CK:=zh ck
      have Io:(i:Int)+1=(n:Int)∨(¬ ((i:Int)+1=(n:Int))/\(i:Int)+1<(n:Int)/\(lo:Int)<(d.k (i+1):Int)/\wr.cell? ⟨kb,i+1,none⟩=some (.int .u64 (d.k (i+1):Int))):=by
       by_cases q:i+1=n
       ·exact .inl zo
       ·exact .inr ⟨zo,zo,by rcases Kc with h | h <;> omega,PC.k.cell (i:=i+1) (zq HN.o)⟩
      have Gz:=zh (show k0+(YU G i).length<=N from by have:=HL.1;omega);clear hg Eo ih ck DH Kc;rcases Io with i4 | ⟨i4,i5,i6,Cy⟩
      all_goals
       gi_wp2_with (first | (refine qC (o:=⟨_,_,_,_,_,some _⟩) ?hno ?kno;case hno=>rfl) | with_reducible refine zA qR ?_)
       refine ⟨trivial,(callsIn_wide.2 CK).mono ?_⟩;rintro e w' ⟨rfl,rfl⟩
       gi_wp2_with (first | (refine qC (o:=⟨_,_,_,_,_,some _⟩) ?hno ?kno;case hno=>rfl) | with_reducible refine zA qR ?_)
       refine ⟨trivial,(callsIn_wide.2 IHH).mono ?_⟩;rintro e W' ⟨hc,⟨rfl,hj⟩ | ⟨rfl,k,Fw,hjx⟩⟩
       ·have HZ:=zh (zA hj (HX.2.trans hc))
        clear hc hj
        gi_wp2_with (first | (refine qC (o:=⟨_,_,_,_,_,some _⟩) ?hno ?kno;case hno=>rfl) | with_reducible refine zA qR ?_)
        go_roundw
        case rel =>
         first
          | exact ⟨i+1,zac,zo,zh ⟨by rw [HS.o,<- Nat.add_assoc];exact HZ.1,HZ.2⟩⟩
          | exact ⟨_,_,_,.int .i64 ((i+1:Nat):Int),⟨i+1,rfl,zo,zh ⟨by rw [HS.o,<- Nat.add_assoc];exact HZ.1,HZ.2⟩⟩,rfl,rfl,rfl,zac⟩
        case measure=>first | (simp [intOf];omega) | omega
       ·have HZ:=zh (zA hjx (HX.2.trans hc))
        clear hc hjx
        gi_wp2_with (first | (refine qC (o:=⟨_,_,_,_,_,some _⟩) ?hno ?kno;case hno=>rfl) | with_reducible refine zA qR ?_)
        go_ret;exact ⟨HY1.trans HZ.2,.inr ⟨rfl,k,Fw,HZ.1⟩⟩
     ·have hg:G i=[]:=by rw [HG.o];exact oU hl RJ (by rw [<- HN.o];exact Kc)
      have BY:i+1<n:=zo;have i4:¬ ((i:Int)+1=(n:Int)):=zo;have Cy:=PC.k.cell (i:=i+1) (by rw [<- HN.o];exact BY);have i5:¬ ((lo:Int)<(d.k (i+1):Int)):=zo
      have i6:(i:Int)+1<(n:Int):=zo;have HS:Hd ((YU G (i+1)).length=(YU G i).length):=zh (by rw [Yy,hg,yY]);clear hg Kc DH ck
      gi_wp2_with (first | (refine qC (o:=⟨_,_,_,_,_,some _⟩) ?hno ?kno;case hno=>rfl) | with_reducible refine zA (Qg _) ?_ | with_reducible refine zA qR ?_)
      go_roundw
      case rel =>
       first
        | exact ⟨i+1,zac,zo,zh ⟨by rw [HS.o];exact HX.1,HX.2⟩⟩
        | exact ⟨_,_,_,.int .i64 ((i+1:Nat):Int),⟨i+1,rfl,zo,zh ⟨by rw [HS.o];exact HX.1,HX.2⟩⟩,rfl,rfl,rfl,zac⟩
      case measure=>first | (simp [intOf];omega) | omega
  ·obtain rfl:i=n:=zo
   have HZ:Hd (J tot wr):=zh (by rw [HT.o];exact HX.1)
   gi_wp2_with (first | (refine qC (o:=⟨_,_,_,_,_,some _⟩) ?hno ?kno;case hno=>rfl) | with_reducible refine zA (Qg _) ?_ | with_reducible refine zA qR ?_)
   go_ret;exact ⟨HY1.trans HX.2,.inl ⟨rfl,HZ⟩⟩
theorem ja (ok:B.Ok) (hY:AR M F B L N l J Jx W0 Lw Pv) {lo hi:Nat} (ED:lo<18446744073709551616) (FH:hi<18446744073709551616):∀ f:Nat,AZ l J Jx W0 Lw Pv M B L N lo hi f
 | 0=>fun y k0 W hW hJ hf hk hL=>eG ok hY hW hJ hf (.inr rfl) hk hL
 | f+1=>fun y k0 W hW hJ hf hk hL=>by
  cases hd:B.nodeI y with
  | none=>exact eG ok hY hW hJ hf (.inl hd) hk hL
  | some d=>exact lA ok hY ED FH (ja ok hY ED FH f) hd hW hJ hf hk hL
end
end Go.Proofs.YtegpiomkmfhadaaGreat
namespace Go.Proofs.YtegpiomkmfhadaaGreat
open Go.RowKit
def qp (l:zL):List Value:=l.flatMap fun p=>[.int .u64 (p.1:Int),.int .u64 (p.2:Int)]
theorem ZB:∀ l:List (Nat × Nat),(qp l).length=l.length*2
 | []=>rfl
 | p::r=>by
  have:=ZB r
  show ([Value.int .u64 (p.1:Int),zU p.2]++qp r).length=_
  rw [ym,this,yu];simp;omega
theorem ZC (l m:zL):qp (l++m)=qp l++qp m:=zi
theorem XX (p:Nat × Nat) (r:zL):qp (p::r) = .int .u64 (p.1:Int) :: .int .u64 (p.2:Int)::qp r:=rfl
theorem QM:∀ (l:zL) (i:Nat),i<l.length->(qp l)[i*2]?=some (.int .u64 ((l.getD i (0,0)).1:Int))/\(qp l)[i*2+1]?=some (.int .u64 ((l.getD i (0,0)).2:Int))
 | [],i,h=>by simp at h
 | p::r,0,_=>by rw [XX];exact ⟨rfl,rfl⟩
 | p::r,i+1,h=>by
  have:=QM r i (by simpa using h);rw [XX,show (i+1)*2=i*2+1+1 by omega,show i*2+1+1+1=(i*2+1)+1+1 by omega,tA2,tA2,tA2,tA2,List.getD_cons_succ];exact this
theorem sU {l:zL} : ∀ u,u∈qp l->u.oneCell'=true:=by
 intro u hu;unfold qp at hu;obtain ⟨p,_,hp⟩:=yH.1 hu;simp only [ya,yk,or_false] at hp;rcases hp with rfl | rfl <;> rfl
def Y4 (l:zL):Prop:=∀ p,p∈l->p.1<18446744073709551616/\p.2<18446744073709551616
theorem Y4.getD {l:zL} (h:Y4 l) (i:Nat):(l.getD i (0,0)).1<18446744073709551616/\(l.getD i (0,0)).2<18446744073709551616:=by
 by_cases hi:i<l.length
 ·rw [zgD,yt hi]
  exact h _ (zt hi)
 ·rw [zgD,List.getElem?_eq_none zo]
  exact ⟨zaf,zaf⟩
structure xU (A:List Nat) (w:World) (v:Value) (l:zL):Prop where
 e:∃ a c,v = .slice a l.length c/\l.length<=c/\c<=maxLen/\(0<l.length->∃ b o,a=some ⟨b,o,none⟩/\b<w.heap.size/\b∉A/\∀ j,j<l.length*2->w.cell? ⟨b,o+j,none⟩=(qp l)[j]?)
 u:Y4 l
section
variable {A:List Nat} {w w':World} {v:Value} {l:List (Nat × Nat)}
theorem xU.chg {L:List Nat} (h:xU A w v l) (c:zv L w w') (hL:∀ k,k∈L->k∈A∨w.heap.size<=k:=by simp):xU A w' v l:=by
 obtain ⟨⟨a,cp,rfl,h1,h2,h3⟩,hu⟩:=h;refine ⟨⟨a,cp,rfl,h1,h2,fun h0=>?_⟩,hu⟩;obtain ⟨b,o,rfl,hb,hA,hc⟩:=h3 h0;refine ⟨b,o,rfl,qe hb c.size,hA,fun j hj=>(c.cell (p:=⟨b,o+j,none⟩) hb (fun hm=>?_)).trans (hc j hj)⟩;rcases hL _ hm with q | q
 ·exact hA q
 ·have:b<w.heap.size:=hb
  change w.heap.size<=b at q
  omega
theorem xU.len (h:xU A w v l):∃ a c,v = .slice a l.length c/\l.length<=c/\c<=9223372036854775807:=by
 obtain ⟨⟨a,cp,rfl,h1,h2,h3⟩,hu⟩:=h;exact ⟨a,cp,rfl,h1,by unfold maxLen at h2;omega⟩
theorem xU.get {a:Option Addr} {n c:Nat} (h:xU A w (.slice a n c) l) {i:Nat} (hi:i<l.length):∃ b o,a=some ⟨b,o,none⟩/\b<w.heap.size/\b∉A/\w.cell? ⟨b,o+i*2,none⟩=some (.int .u64 ((l.getD i (0,0)).1:Int))/\w.cell? ⟨b,o+i*2+1,none⟩=some (.int .u64 ((l.getD i (0,0)).2:Int)):=by
 obtain ⟨⟨a,cp,e,h1,h2,h3⟩,hu⟩:=h;injection e with e1 e2 e3;subst e1;obtain ⟨b,o,rfl,hb,hA,hc⟩:=h3 zo;have:=QM l i hi;refine ⟨b,o,rfl,hb,hA,?_,?_⟩
 ·rw [hc _ zo];exact this.1
 ·rw [Nat.add_assoc,hc _ zo];exact this.2
theorem xU.of_own {base:Nat} (h:w.ownsRow base 78 2 v l.length (qp l)) (hu:Y4 l) (hA:∀ g,v.ownBlock=some g->g∉A):xU A w v l:=by
 refine ⟨?_,hu⟩;by_cases h0:0<l.length
 ·obtain ⟨g,c,rfl,h1,h2,h3,h4,h5⟩:=aE h h0
  exact ⟨_,c,rfl,h1,h2,fun _=>⟨g,0,rfl,h4,hA g rfl,fun j hj=>by rw [yn];exact h5 j hj⟩⟩
 ·obtain ⟨a,c,rfl,h1,h2⟩:=XI h
  exact ⟨a,c,rfl,h1,h2,fun q=>absurd q h0⟩
end
theorem Vt:(Tryz.prog.info? 78).map (fun i=>(i.zero,i.size,i.bytes))=some (some (.agg #[.int .u64 0,.int .u64 0]),2,16):=zab
def jb:Nat->Nat->Nat
 | 0,_=>0
 | f+1,n=>if 7<n then jb f ((n+6) / 7)+1 else 1
def eH (n:Nat):Nat:=if n=0 then 0 else jb 10 n
end Go.Proofs.YtegpiomkmfhadaaGreat
