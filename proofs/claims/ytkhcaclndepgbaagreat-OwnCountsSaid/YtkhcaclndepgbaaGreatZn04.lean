/- A loop over an iterator, told by how many rounds are over: the iterator may keep state of its own in cells, the body writes some blocks that there were. · Package disk: slices.Backward over the writes that wait; last. · Package disk: what is read of a disk (or of a copy): Len, Read, Cached, Copy; slices.Clone of bytes. · Package disk: Cached and Copy of a disk on which nothing waits; slices.Clone of blocks. (Printed by mkdsk6.py.) -/
import Derived.RangeFuncNested
import Derived.RangeFuncBound
import Derived.RangeFuncCalls
import Derived.RangeFuncLeaves
import Derived.Shelf.Abstract
import Derived.Shelf.RegionOpen
import Derived.OwnWalkIn
import Derived.TacticsInMore
import Derived.LoopNIn
import Derived.LoopIn
import Derived.Test.YtkhcaclndepgbaaGreatZn03
set_option linter.unusedVariables false
set_option linter.unusedSimpArgs false
set_option maxRecDepth 100000
set_option maxHeartbeats 20000000
namespace Go.Proofs.YtkhcaclndepgbaaGreat
open Go.RowKit
def rfPost (Lw:List Nat) (I:World->Prop) (Ix:Code->World->Prop) (W:World):Exit->Act->World->Prop
 | .normal,_,W'=>Chg Lw W W'/\I W'
 | .ret,_,W'=>Chg Lw W W'/\Ix .ret W'
 | .exit id,_,W'=>Chg Lw W W'/\Ix (.exit id) W'
 | _,_,_=>False
def IterN (F:Fence) (n:Nat) (P:Program) (gf:Nat) (lb:Array Value) (args:Nat->Array Value) (N:Nat) (Lw:List Nat) (w:World):Prop :=
 ∀ (l:Nat) (J Jx:Nat->World->Prop) (W:World),Below w.heap.size w W->w.heap.size<=l->l<W.heap.size ->
  (∀ k A B,J k A->Below W.heap.size A B->J k B)->(∀ k A B,Jx k A->Below W.heap.size A B->Jx k B) ->
  (∀ k W1,J k W1->k<N->YieldAt F (n - 1) P l (args k) W1 fun e W'=>(e = .returned (.bool true)/\J (k+1) W'/\Chg (l::Lw) W1 W')∨(e = .returned (.bool false)/\Jx (k+1) W'/\Chg (l::Lw) W1 W')) ->
  J 0 W->CallsIn F n P gf (#[.func (.yield l) #[] #[]]++lb) W fun e W'=>(∃ v,e = .returned v)/\(J N W'∨∃ k,k<=N/\Jx k W')
def IterA (F:Fence) (n:Nat) (P:Program) (gf:Nat) (lb:Array Value) (Pj:World->Prop) (Av:Nat->World->Array Value->Prop) (N:Nat) (Lw:List Nat) (w:World):Prop :=
 ∀ (l:Nat) (J Jx:Nat->World->Prop) (W:World),Below w.heap.size w W->w.heap.size<=l->l<W.heap.size ->
  (∀ k A B,J k A->Below W.heap.size A B->J k B)->(∀ k A B,Jx k A->Below W.heap.size A B->Jx k B)->(∀ k A,J k A->Pj A) ->
  (∀ k W1 av,J k W1->k<N->Av k W1 av->YieldAt F (n - 1) P l av W1 fun e W'=>(e = .returned (.bool true)/\J (k+1) W'/\Chg (l::Lw) W1 W')∨(e = .returned (.bool false)/\Jx (k+1) W'/\Chg (l::Lw) W1 W')) ->
  J 0 W->CallsIn F n P gf (#[.func (.yield l) #[] #[]]++lb) W fun e W'=>(∃ v,e = .returned v)/\(J N W'∨∃ k,k<=N/\Jx k W')
theorem IterN.av {F:Fence} {n:Nat} {P:Program} {gf:Nat} {lb:Array Value} {args:Nat->Array Value} {N:Nat} {Lw:List Nat} {w:World} (h:IterN F n P gf lb args N Lw w):IterA F n P gf lb (fun _=>True) (fun k _ av=>av=args k) N Lw w :=
 fun l J Jx W h1 h2 h3 h4 h5 _ h6 h7=>h l J Jx W h1 h2 h3 h4 h5 (fun k W1 a b=>h6 k W1 _ a b rfl) h7
theorem Chg.afar {L:List Nat} {W0 A B:World} (c:Chg L W0 A) (h:Below W0.heap.size A B):Chg L W0 B :=
 ⟨h.os.trans c.os,h.tape.trans c.tape,h.output.trans c.output,zLt c.size h.size,fun k hk hn=>(h.block k hk).trans (c.block k hk hn)⟩
theorem below_put {W:World} {B l:Nat} (o:Obj) (h:B<=l):Below B W (W.putObj l o) :=
 ⟨rfl,rfl,rfl,by simp,fun k hk=>World.putObj_heap_other (by omega)⟩
theorem chg_put {W:World} {l:Nat} (o:Obj):Chg [l] W (W.putObj l o) :=
 ⟨rfl,rfl,rfl,by simp,fun k hk hn=>World.putObj_heap_other (by simpa using hn)⟩
variable {F:Fence} {n:Nat} {P:Program}
theorem wpIn_rangeFunc_av {g:Operand} {ps:Array Tmp} {assign body:Code} {Q:Exit->Act->World->Prop} {a:Act} {w:World}
  (hro:F.round=none) (h1:1<=n) {gf:Nat} {lb:Array Value} (hg:a.eval g = .func (.func gf) #[] lb) (hFg:F.fn gf) (eg:∀ args w,(callFunc gf args).run P w = .ok (.enter gf args) w)
  {Av:Nat->World->Array Value->Prop} {N:Nat} {Lw:List Nat} {Pj:World->Prop} (hseq:IterA F (n - 1) P gf lb Pj Av N Lw w) (hLw:∀ x,x∈Lw->x<w.heap.size) (hps:∀ k W av,Av k W av->av.size=ps.size)
  (I:Nat->World->Prop) (Ix:Code->Nat->World->Prop) (hI:∀ k A B,I k A->Below w.heap.size A B->I k B) (hIx:∀ c k A B,Ix c k A->Below w.heap.size A B->Ix c k B) (h0:I 0 w) (hPj:∀ k A,I k A->Pj A)
  (hround:∀ (l k:Nat) (W:World) (av:Array Value),w.heap.size<=l->l<W.heap.size->I k W->k<N->Av k W av->(∃ r:Loop,W.heap[l]?=some (.loop r)) ->
   assign.wpIn (F.inRound l) (n - 1 - 1) P (Exit.then (fun a1 W1=>Chg Lw W W1/\∀ W2,Chg [l] W1 W2->body.wpIn (F.inRound l) (n - 1 - 1) P (rfPost Lw (I (k+1)) (fun c=>Ix c (k+1)) W2) a1 W2) (fun _ _ _=>False))
    { tmps:=(ps.zip av).foldl (fun t (p,v)=>t.setIfInBounds p v) a.tmps,defers:=[] } W)
  (hdone:∀ (D:Nat) (W:World),w.heap.size<=D->I N W->W.heap[D]?=some (.deferred (some []))->Q .normal { a with defers := { target := .collected D,args:=#[] } :: a.defers } W)
  (hstop:∀ (D:Nat) (c:Code) (k:Nat) (W:World),w.heap.size<=D->k<=N->Ix c k W->W.heap[D]?=some (.deferred (some []))->c.wpIn F n P Q { a with defers := { target := .collected D,args:=#[] } :: a.defers } W) :
  (Code.rangeFunc g ps assign body).wpIn F n P Q a w:=by
 refine wpIn_rangeFunc ?_;intro fn hfn;rw [hro];obtain ⟨rec,hrec⟩:∃ rec:LoopState->Option Code->Loop,rec=fun st pe => { state:=st,pending:=pe,fn,tmps:=a.tmps,params:=ps,assign,body,defers:=w.heap.size } := ⟨_,rfl⟩;obtain ⟨W1,hW1⟩:∃ W1,(w.alloc (.deferred (some []))).alloc (.loop (rec .ready none))=W1:=⟨_,rfl⟩;have hL1:W1.heap[w.heap.size+1]?=some (.loop (rec .ready none)):=by rw [<- hW1];exact znc w _ _
 have hK1:W1.heap[w.heap.size]?=some (.deferred (some [])):=by rw [<- hW1];exact znd w _ _
 have hb1:Below w.heap.size w W1:=by rw [<- hW1];exact ((Below.refl _ w).alloc (zLr _) _).alloc (by simp) _
 have hs1:W1.heap.size=w.heap.size+2:=by rw [<- hW1];simp
 refine ⟨w.heap.size+1,[{ target := .collected w.heap.size,args:=#[] }],W1,{ target := .fn (.func gf) lb,args:=#[.func (.yield (w.heap.size+1)) #[] #[]] },W1,gf,
  #[.func (.yield (w.heap.size+1)) #[] #[]]++lb,W1,?_,?_,?_,?_,fun _=>h1,?_⟩
 ·rw [<- hW1,hrec];exact run_enterLoop_outer _ _ _ _ _
 ·simp only [resolve,hg]
  simp [go_sem]
 ·intro f' hf';simp [Target.leads] at hf';subst hf';exact hFg
 ·simp [invoke,go_sem,eg]
 ·refine (hseq (w.heap.size+1)
   (fun k W=>I k W/\W.heap[w.heap.size+1]?=some (.loop (rec .ready none))/\W.heap[w.heap.size]?=some (.deferred (some [])))
   (fun k W=>∃ c,Ix c k W/\W.heap[w.heap.size+1]?=some (.loop (rec .done (some c)))/\W.heap[w.heap.size]?=some (.deferred (some [])))
   W1 hb1 (by omega) (by omega)
   (fun k A B h hab=>⟨hI k A B h.1 (hab.mono (by omega)),(hab.block _ (by omega)).trans h.2.1,(hab.block _ (by omega)).trans h.2.2⟩)
   (fun k A B h hab=>by
    obtain ⟨c,hc,hl,hk⟩:=h;exact ⟨c,hIx c k A B hc (hab.mono (by omega)),(hab.block _ (by omega)).trans hl,(hab.block _ (by omega)).trans hk⟩)
   (fun k A h=>hPj k A h.1) ?_ ⟨hI 0 w W1 h0 hb1,hL1,hK1⟩).mono ?_
  ·rintro k W av ⟨hi,hl,hk⟩ hkN hav
   have hlt:w.heap.size+1<W.heap.size:=zhl hl;have hy:=run_yield (P:=P) (args:=av) hl (by rw [hrec];exact hps k W av hav);rw [hrec] at hy;refine ⟨fn,_,assign,body,hy,roundIn_of_wpIn hfn (wpIn_mono (hround (w.heap.size+1) k W av (by omega) hlt hi hkN hav ⟨_,hl⟩) ?_)⟩;clear hy;intro e a1 Wa hp
   cases e with
   | normal =>
    obtain ⟨hca,hbd⟩:=hp;have hnL:∀ i,w.heap.size<=i->i∉Lw:=fun i hi hm=>by have:=hLw i hm;omega
    have hla:=(hca.block _ hlt (hnL _ (by omega))).trans hl;have hka:=(hca.block _ (by omega) (hnL _ (zLr _))).trans hk;have hlta:w.heap.size+1<Wa.heap.size:=zhl hla;refine ⟨_,run_beginRound hla (by rw [hrec]),?_⟩;have hc2:=chg_put (W:=Wa) (l:=w.heap.size+1) (.loop { rec .ready none with state := .busy });have hl2:(Wa.putObj (w.heap.size+1) (.loop { rec .ready none with state := .busy })).heap[w.heap.size+1]?=some (.loop { rec .ready none with state := .busy }):=World.putObj_heap_same hlta;have hk2:(Wa.putObj (w.heap.size+1) (.loop { rec .ready none with state := .busy })).heap[w.heap.size]?=some (.deferred (some [])):=(World.putObj_heap_other (by omega)).trans hka;refine wpIn_mono (hbd _ hc2) ?_
    have fin:∀ (jump:Option Code) (W3:World),Chg Lw (Wa.putObj (w.heap.size+1) (.loop { rec .ready none with state := .busy })) W3 ->
      (Instr.endRound (w.heap.size+1) jump).run P W3 = .ok (.bool jump.isNone) (W3.putObj (w.heap.size+1) (.loop (rec (if jump.isNone then .ready else .done) jump))) /\
      (W3.putObj (w.heap.size+1) (.loop (rec (if jump.isNone then .ready else .done) jump))).heap[w.heap.size+1]?=some (.loop (rec (if jump.isNone then .ready else .done) jump)) /\
      (W3.putObj (w.heap.size+1) (.loop (rec (if jump.isNone then .ready else .done) jump))).heap[w.heap.size]?=some (.deferred (some [])) /\
      Chg ((w.heap.size+1)::Lw) W (W3.putObj (w.heap.size+1) (.loop (rec (if jump.isNone then .ready else .done) jump))):=fun jump W3 hk3=>by
     have hl3:=(hk3.block _ (zhl hl2) (hnL _ (by omega))).trans hl2;have hk3':=(hk3.block _ (zhl hk2) (hnL _ (zLr _))).trans hk2;have hr:=run_endRound (P:=P) jump hl3;refine ⟨?_,World.putObj_heap_same (zhl hl3),(World.putObj_heap_other (by omega)).trans hk3',?_⟩
     ·rw [hrec] at hr ⊢
      exact hr
     ·exact (((hca.mono (by simp +contextual)).trans (hc2.mono (by simp))).trans (hk3.mono (by simp +contextual))).trans ((chg_put _).mono (by simp))
    rintro e a3 W3 hp
    cases e with
    | normal =>
     obtain ⟨hk3,hi3⟩:=hp;obtain ⟨hr,hl4,hk4,hc4⟩:=fin none W3 hk3;exact ⟨_,_,hr,.inl ⟨rfl,⟨hI _ _ _ hi3 (below_put _ (by omega)),hl4,hk4⟩,hc4⟩⟩
    | ret =>
     obtain ⟨hk3,hi3⟩:=hp;obtain ⟨hr,hl4,hk4,hc4⟩:=fin (some .ret) W3 hk3;exact ⟨_,_,hr,.inr ⟨rfl,⟨.ret,hIx _ _ _ _ hi3 (below_put _ (by omega)),hl4,hk4⟩,hc4⟩⟩
    | exit id =>
     obtain ⟨hk3,hi3⟩:=hp;obtain ⟨hr,hl4,hk4,hc4⟩:=fin (some (.exit id)) W3 hk3;exact ⟨_,_,hr,.inr ⟨rfl,⟨.exit id,hIx _ _ _ _ hi3 (below_put _ (by omega)),hl4,hk4⟩,hc4⟩⟩
    | goto t=>exact hp.elim
    | panic ch=>exact hp.elim
    | outgrown=>exact hp.elim
   | ret=>exact hp.elim
   | exit id=>exact hp.elim
   | goto t=>exact hp.elim
   | panic ch=>exact hp.elim
   | outgrown=>exact hp.elim
  ·rintro e W2 ⟨⟨v,rfl⟩,(⟨hi,hl,hk⟩ | ⟨k,hkN,c,hi,hl,hk⟩)⟩
   ·exact ⟨none,_,by have:=run_endLoop (P:=P) hl (by rw [hrec];simp);rw [hrec] at this;exact this,hdone _ _ (zLr _) (hI _ _ _ hi (below_put _ (by omega))) ((World.putObj_heap_other (by omega)).trans hk)⟩
   ·exact ⟨some c,_,by have:=run_endLoop (P:=P) hl (by rw [hrec];simp);rw [hrec] at this;exact this,hstop _ c k _ (zLr _) hkN (hIx _ _ _ _ hi (below_put _ (by omega))) ((World.putObj_heap_other (by omega)).trans hk)⟩
theorem wpIn_rangeFunc_idx {g:Operand} {ps:Array Tmp} {assign body:Code} {Q:Exit->Act->World->Prop} {a:Act} {w:World}
  (hro:F.round=none) (h1:1<=n) {gf:Nat} {lb:Array Value} (hg:a.eval g = .func (.func gf) #[] lb) (hFg:F.fn gf) (eg:∀ args w,(callFunc gf args).run P w = .ok (.enter gf args) w)
  {args:Nat->Array Value} {N:Nat} {Lw:List Nat} (hseq:IterN F (n - 1) P gf lb args N Lw w) (hLw:∀ x,x∈Lw->x<w.heap.size) (hps:∀ k,(args k).size=ps.size)
  (I:Nat->World->Prop) (Ix:Code->Nat->World->Prop) (hI:∀ k A B,I k A->Below w.heap.size A B->I k B) (hIx:∀ c k A B,Ix c k A->Below w.heap.size A B->Ix c k B) (h0:I 0 w)
  (hround:∀ (l k:Nat) (W:World),w.heap.size<=l->l<W.heap.size->I k W->k<N ->
   assign.wpIn (F.inRound l) (n - 1 - 1) P (Exit.then (fun a1 W1=>Chg Lw W W1/\∀ W2,Chg [l] W1 W2->body.wpIn (F.inRound l) (n - 1 - 1) P (rfPost Lw (I (k+1)) (fun c=>Ix c (k+1)) W2) a1 W2) (fun _ _ _=>False))
    { tmps:=(ps.zip (args k)).foldl (fun t (p,v)=>t.setIfInBounds p v) a.tmps,defers:=[] } W)
  (hdone:∀ (D:Nat) (W:World),w.heap.size<=D->I N W->W.heap[D]?=some (.deferred (some []))->Q .normal { a with defers := { target := .collected D,args:=#[] } :: a.defers } W)
  (hstop:∀ (D:Nat) (c:Code) (k:Nat) (W:World),w.heap.size<=D->k<=N->Ix c k W->W.heap[D]?=some (.deferred (some []))->c.wpIn F n P Q { a with defers := { target := .collected D,args:=#[] } :: a.defers } W) :
  (Code.rangeFunc g ps assign body).wpIn F n P Q a w:=by
 exact wpIn_rangeFunc_av hro h1 hg hFg eg (Av:=fun k _ av=>av=args k) hseq.av hLw (fun k W av h=>by rw [h];exact hps k) I Ix hI hIx h0 (fun _ _ _=>trivial) (fun l k W av h2 h3 h4 h5 h6 _=>by rw [h6];exact hround l k W h2 h3 h4 h5) hdone hstop
end Go.Proofs.YtkhcaclndepgbaaGreat
namespace Go.Proofs.YtkhcaclndepgbaaGreat
open Go.RowKit Go.Shelf
attribute [local go_sem] Oper.semAt_some
theorem wpListIn_loadV {F:Fence} {m:Nat} {ops:Array Oper} {rest:List Oper} {op:Oper} {a:Act} {w:World} {Q:Exit->Act->World->Prop} {t:TypeId} {d:TypeDesc} {n k o:Nat} {V:Nat->Value} (hgd:op.guard=none) (x:Operand) (ho:op.op = .load t x) (hu:Tryz.prog.underlying t=some d) (hd:d.isRow=true) (hi:(Tryz.prog.info? t).map (·.size)=some n)
  (hx:a.eval x = .pointer (some ⟨k,o,none⟩)) (hS:∀ j,j<n->w.cell? ⟨k,o+j,none⟩=some (V j)) (h:wpListIn F m Tryz.prog ops Q rest (a.put op.dst (.agg (fnRow n V))) w):wpListIn F m Tryz.prog ops Q (op::rest) a w:=by
 refine wpListIn_plain hgd fun K hK'=>?_
 have hr:=run_loadAt_mid (P:=Tryz.prog) w k o t (fnRow n V).toList d (fun j v hv=>by
  have hj:j<n:=by
   by_cases hj:j<n
   ·exact hj
   ·rw [Array.getElem?_toList,Array.getElem?_eq_none (by rw [zfs];omega)] at hv;cases hv
  rw [Array.getElem?_toList,zfg hj] at hv;rw [<- Option.some.inj hv];exact hS j hj) hu hd (by rw [hi,Array.length_toList,zfs])
 rw [Array.toArray_toList] at hr;unfold Oper.wpIn;refine ⟨?_,?_⟩
 ·simp [Oper.about,ho]
 ·rw [Oper.semAt_plain F _ _ (by rw [ho];intro c hc';cases hc')]
  unfold execOp;simp only [ho,hx,Sem.run_bind,hr,Result.andThen];exact hK' _ _ h
theorem wpListIn_storeNew {F:Fence} {m:Nat} {ops:Array Oper} {rest:List Oper} {op:Oper} {a:Act} {W:World} {Q:Exit->Act->World->Prop} (hgd:op.guard=none) (t:TypeId) (x y:Operand) (ho:op.op = .store t x y) (Z cs:Array Value) (b n:Nat) (hb:b=W.heap.size)
  (hx:a.eval x = .pointer (some ⟨b,0,none⟩)) (hy:a.eval y = .agg cs) (hi:(Tryz.prog.info? t).map (·.size)=some n) (hZ:Z.size=n) (hc:cs.size=n) (h1:cs.all (·.oneCell')=true)
  (h:wpListIn F m Tryz.prog ops Q rest (a.put op.dst undef) (W.alloc (.cells cs t))):wpListIn F m Tryz.prog ops Q (op::rest) a (W.alloc (.cells Z t)):=by
 subst hb;refine wpListIn_plain hgd fun K' hK'=>?_;have hr:=run_storeAt_new (P:=Tryz.prog) W t Z cs (by rw [hi,hc]) (by omega) h1;unfold Oper.wpIn;refine ⟨?_,?_⟩
 ·simp [Oper.about,ho]
 ·rw [Oper.semAt_plain F _ _ (by rw [ho];intro c hc';cases hc')]
  unfold execOp;simp only [ho,hx,hy,Sem.run_bind,hr,Result.andThen,Sem.run_pure];exact hK' _ _ h
def bwArgs (ws:List (Nat × (Nat->Nat))) (k:Nat):Array Value:=#[.int .i64 ((ws.length - 1 - k:Nat):Int),.agg (wrRow (ws[ws.length - 1 - k]!))]
theorem backW_at (n:Nat) (v:Value) (a:Option Addr) (len cap:Nat) (hv:v = .slice a len cap) (w:World):CallsIn Fence.wide n Tryz.prog 154 #[v] w fun e w'=>e = .returned (.func (.func 187) #[] #[.pointer (some ⟨w.heap.size,0,none⟩)])/\w.alloc (.cells #[v] 152)=w':=by
 subst hv;refine callsIn_of_wp Tryz.func154 rfl trivial ?_ rfl;simp only [Tryz.ntmps154,List.size_toArray,List.length_cons,List.length_nil,Nat.reduceAdd,Nat.reduceSub,Array.replicate_succ,Array.replicate_zero,List.push_toArray,List.append_toArray,List.nil_append,List.cons_append]
 gi_wp2
 go_ret;exact ⟨rfl,rfl⟩
theorem backW_iter (n:Nat) (hn:1<=n) (B0:Nat) (wv:Value) (ws:List (Nat × (Nat->Nat))) (Lw:List Nat) (w:World) (hB:w.cell? ⟨B0,0,none⟩=some wv) (hrow:w.ownsRow 0 171 129 wv ws.length (wrCells ws)) (h1:B0∉Lw) (h2:∀ g,wv.ownBlock=some g->g∉Lw) (hN:ws.length<=1000000) :
  IterN Fence.wide n Tryz.prog 187 #[.pointer (some ⟨B0,0,none⟩)] (bwArgs ws) ws.length Lw w:=by
 intro l J Jx W hW hl0 hl hJ hJx hY hJ0;have hBl:B0<w.heap.size:=World.block_lt_of_cell? w ⟨B0,0,none⟩ hB;obtain ⟨a,c,hwv,_,_⟩:=zos hrow;obtain ⟨len,hlen⟩:∃ len,len=ws.length:=⟨_,rfl⟩;rw [<- hlen] at hwv hY hN ⊢;subst hwv;have hBW:=(hW.cell (p:=⟨B0,0,none⟩) hBl).trans hB
 have hc:∀ k,k<len->∃ g,a=some ⟨g,0,none⟩/\g<w.heap.size/\g∉Lw/\∀ j,j<129->W.cell? ⟨g,k*129+j,none⟩=some (wrV (ws[k]!) j):=by
  intro k hk;obtain ⟨g,c',e1,_,_,_,hgl,hcell⟩:=zol hrow (by omega);injection e1 with e1a e1b e1c;subst e1a;refine ⟨g,rfl,hgl,h2 g rfl,fun j hj=>?_⟩;rw [getElem!_pos ws k (by omega)];exact (hW.cell (p:=⟨g,k*129+j,none⟩) hgl).trans ((hcell _ (by omega)).trans (wrCells_get ws k j (by omega) hj))
 have HC:=zh hc;have HL:=zh hlen;clear hrow hB hc hlen;refine callsIn_of_wp Tryz.func187 rfl trivial ?_ rfl;simp only [Tryz.ntmps187,List.size_toArray,List.length_cons,List.length_nil,Nat.reduceAdd,Nat.reduceSub,Array.replicate_succ,Array.replicate_zero,List.push_toArray,List.append_toArray,List.nil_append,List.cons_append]
 gi_wp2
 gi_loopw [3] (fun i wr=>∃ k:Nat,k<=len/\i = .int .i64 ((len:Int) - 1 - (k:Int))/\J k wr/\Chg (l::Lw) W wr) (fun i _=>(intOf i+1).toNat)
 case atStart=>exact ⟨0,Nat.zero_le _,by simp,hJ0,Chg.refl _ _⟩
 case round =>
  obtain ⟨k,hk,rfl,hJs,hch⟩:=hrel;have hBr:=(hch.cell (p:=⟨B0,0,none⟩) (zLl hBl hW.size) (by simp only [List.mem_cons,not_or];exact ⟨by omega,h1⟩)).trans hBW;by_cases hlt:k<len
  ·obtain ⟨fn,tmps,assign,body,hy,hR⟩:=hY k wr hJs hlt
   obtain ⟨i,hi⟩:∃ i,i=len - 1 - k:=⟨_,rfl⟩;have hil:i<len:=by omega
   obtain ⟨g,rfl,hgl,hgn,hcells⟩:=HC.out i hil;obtain ⟨xx,hxx⟩:∃ xx,xx=ws[i]!:=⟨_,rfl⟩;have HCW:Hid (∀ j,j<129->wr.cell? ⟨g,i*129+j,none⟩=some (wrV xx j)):=zh fun j hj=>by rw [hxx];exact (hch.cell (p:=⟨g,i*129+j,none⟩) (zLl hgl hW.size) (by simp only [List.mem_cons,not_or];exact ⟨by omega,hgn⟩)).trans (hcells j hj)
   unfold bwArgs at hy;rw [show ((ws.length - 1 - k:Nat):Int)=(i:Int) by rw [hi,HL.out],show ws.length - 1 - k=i by rw [hi,HL.out],<- hxx] at hy;rw [show (len:Int) - 1 - (k:Int)=(i:Int) by omega];have i1:(i:Int)<(len:Int):=by omega
   have i2:(0:Int)<=(i:Int):=by omega
   have HI:Hid ((i:Int)=(len:Int) - 1 - (k:Int)):=zh (by omega);unfold wrRow at hy;clear hcells hi hxx h2 hBW
   gi_wp2_with (refine wpListIn_loadV rfl (.tmp 15) (t:=171) (n:=129) (k:=g) (o:=i*129) (V:=wrV xx) rfl Tryz.underlying171 rfl (by rw [show (Tryz.prog.info? 171).map (·.size)=some 129 from by kernel_rfl]) (by simp [Act.eval,Act.put]) HCW.out ?_)
   refine hR.mono ?_;rintro e W3 (⟨rfl,hJ3,hk3⟩ | ⟨rfl,hJx3,hk3⟩)
   ·gi_wp2
    go_roundw
    case rel=>exact ⟨k+1,by omega,by first | (rw [HI.out];go_num) | go_num,hJ3,hch.trans hk3⟩
    case measure=>have:=HI.out;simp [intOf]
   ·gi_wp2
    refine bodyPost_ret (results_none rfl _ _ _) rfl ?_;exact ⟨⟨_,rfl⟩,.inr ⟨k+1,by omega,hJx3⟩⟩
  ·obtain rfl:k=len:=by omega
   rw [show (k:Int) - 1 - (k:Int) = -1 by omega]
   gi_wp2
   go_end0
   exact ⟨⟨_,rfl⟩,.inl hJs⟩
def lastIx (ws:List (Nat × (Nat->Nat))) (at':Nat):Nat->Int
 | 0 => -1
 | k+1=>if (ws[k]!).1=at' then (k:Int) else lastIx ws at' k
theorem lastIx_fl (ws:List (Nat × (Nat->Nat))) (d:Nat->Nat->Nat) (b:Nat):∀ k,k<=ws.length->lastIx ws b k<(k:Int) /\ -1<=lastIx ws b k/\fl d (ws.take k) b=if lastIx ws b k<0 then d b else (ws[(lastIx ws b k).toNat]!).2
 | 0,_=>⟨by simp [lastIx],by simp [lastIx],by simp [lastIx,fl]⟩
 | k+1,h=>by
  obtain ⟨h1,h2,h3⟩:=lastIx_fl ws d b k (by omega);have hk:k<ws.length:=by omega
  unfold lastIx;rw [fl_take hk];by_cases e:(ws[k]!).1=b
  ·rw [if_pos e]
   refine ⟨by omega,by omega,?_⟩;rw [getElem!_pos ws k hk] at e
   show (if b=ws[k].1 then ws[k].2 else _)=_
   rw [if_pos e.symm,if_neg (by omega),Int.toNat_natCast,getElem!_pos ws k hk]
  ·rw [if_neg e]
   refine ⟨by omega,h2,?_⟩;rw [getElem!_pos ws k hk] at e
   show (if b=ws[k].1 then ws[k].2 else _)=_
   rw [if_neg (fun q:b=_=>e q.symm)];exact h3
theorem lastIx_at {ws:List (Nat × (Nat->Nat))} {at' len k i:Nat} {xx:Nat × (Nat->Nat)} (hi:i=len - 1 - k/\xx=ws[i]!) (h:lastIx ws at' (len - k)=lastIx ws at' len) (hk:k<len):lastIx ws at' len=if xx.1=at' then (i:Int) else lastIx ws at' (len - (k+1)):=by
 obtain ⟨h1,h2⟩:=hi;rw [<- h,show len - k=i+1 by omega,show len - (k+1)=i by omega,h2];rfl
theorem dcLast_at {w:World} {p at':Nat} {wv:Value} {ws:List (Nat × (Nat->Nat))} (hc:w.cell? ⟨p,1,none⟩=some wv) (hrow:w.ownsRow 0 171 129 wv ws.length (wrCells ws)) (hN:ws.length<=1000000) :
  Calls Tryz.prog 109 #[.pointer (some ⟨p,1,none⟩),.int .i64 (at':Int)] w fun e w'=>e = .returned (.int .i64 (lastIx ws at' ws.length))/\Chg [] w w':=by
 obtain ⟨a,c,hwv,_,_⟩:=zos hrow;obtain ⟨len,hlen⟩:∃ len,len=ws.length:=⟨_,rfl⟩;have HL:=zh hlen;rw [<- hlen] at hwv hN ⊢;have hpl:p<w.heap.size:=World.block_lt_of_cell? w ⟨p,1,none⟩ hc;have cb:CallsIn Fence.wide 5 Tryz.prog 154 #[.slice a len c] ((w.alloc (.cells #[.int .i64 (at':Int)] 3)).alloc (.cells #[.int .i64 0] 3)) _:=backW_at 5 (.slice a len c) a len c rfl _;have HR:=zh hrow;subst hwv;clear hrow hlen;refine (callsIn_wide (n:=6)).1 ?_;refine callsIn_of_wp_marks Tryz.func109 rfl trivial ?_ rfl;simp only [Tryz.ntmps109,List.size_toArray,List.length_cons,List.length_nil,Nat.reduceAdd,Nat.reduceSub,Array.replicate_succ,Array.replicate_zero,List.push_toArray,List.append_toArray,List.nil_append,List.cons_append]
 gi_wp2
 refine ⟨trivial,?_⟩;refine cb.mono ?_;rintro e w' ⟨rfl,rfl⟩;clear cb
 gi_wp2
 obtain ⟨W0,hW0⟩:∃ W0,W0=((w.alloc (.cells #[.int .i64 (at':Int)] 3)).alloc (.cells #[.int .i64 0] 3)).alloc (.cells #[.slice a len c] 152):=⟨_,rfl⟩;have hcw:Chg [] w W0:=by rw [hW0];exact (((Chg.refl [] w).alloc _).alloc _).alloc _
 have hs0:W0.heap.size=w.heap.size+3:=by rw [hW0];simp
 have k0:W0.heap[w.heap.size]?=some (.cells #[.int .i64 (at':Int)] 3 (0,0)):=by rw [hW0,Below.heap_alloc _ _ _ (by simp;omega)];exact znd _ _ _
 have k1:W0.heap[w.heap.size+1]?=some (.cells #[.int .i64 0] 3 (0,0)):=by rw [hW0,Below.heap_alloc _ _ _ (by simp)];exact znc _ _ _
 have k2:W0.cell? ⟨w.heap.size+2,0,none⟩=some (.slice a len c):=by
  have:W0.heap[w.heap.size+2]?=some (.cells #[.slice a len c] 152 (0,0)):=by
   rw [hW0];have:=heap_alloc_new ((w.alloc (.cells #[.int .i64 (at':Int)] 3)).alloc (.cells #[.int .i64 0] 3)) (.cells #[.slice a len c] 152);simpa using this
  exact (zcb this 0).trans rfl
 rw [<- hW0];clear hW0;obtain ⟨s,hs⟩:∃ s,s=w.heap.size:=⟨_,rfl⟩;rw [<- hs] at k0 k1 k2 hs0 ⊢;have hpl':p<s:=by omega
 have HCW:=zh hcw;have HS:=zh hs;have hrowW:W0.ownsRow 0 171 129 (.slice a len c) ws.length (wrCells ws):=zoc HR.out hcw (by simp)
 have hit:=backW_iter 5 (by omega) (s+1+1) (.slice a len c) ws [s+1] W0 k2 hrowW (by simp) (fun g hg hm=>by
  simp only [zms] at hm;have:=(HR.out.lt g hg).2;omega) (by rw [<- HL.out];exact hN)
 rw [<- HL.out] at hit;clear hcw hs hc hrowW k2
 refine wpIn_rangeFunc_idx rfl (by omega) (gf:=187) (lb:=#[.pointer (some ⟨s+1+1,0,none⟩)]) rfl trivial (enters_of Tryz.func187 (by kernel_rfl) rfl) hit (by simp;omega) (fun _=>rfl)
  (fun k W=>Chg [] W0 W/\k<=len/\lastIx ws at' (len - k)=lastIx ws at' len)
  (fun c k W=>c = .ret/\∃ i:Nat,Chg [s+1] W0 W/\W.heap[s+1]?=some (.cells #[.int .i64 (i:Int)] 3 (0,0))/\lastIx ws at' len=(i:Int))
  (fun k A B h hab=>⟨h.1.afar hab,h.2⟩)
  (fun c k A B h hab=>by
   obtain ⟨rfl,i,h1,h2,h3⟩:=h;exact ⟨rfl,i,h1.afar hab,(hab.block _ (by omega)).trans h2,h3⟩)
  ⟨Chg.refl _ _,Nat.zero_le _,by rw [Nat.sub_zero]⟩ ?round ?done ?stop
 case round =>
  intro l k W hl1 hl2 hI hk;obtain ⟨hcI,hkl,hix⟩:=hI;have b0:=(hcI.block s (by omega) (by simp)).trans k0;have b1:=(hcI.block (s+1) (by omega) (by simp)).trans k1;unfold bwArgs;obtain ⟨i,hi⟩:∃ i,i=ws.length - 1 - k:=⟨_,rfl⟩;rw [<- hi];obtain ⟨xx,hxx⟩:∃ xx,xx=ws[i]!:=⟨_,rfl⟩;rw [<- hxx];have HI:Hid (i=len - 1 - k/\xx=ws[i]!):=zh ⟨by rw [hi,HL.out],hxx⟩;have HB:=zh (zA b0 b1);have HX:=zh (zA hcI hix);clear hi hxx b0 b1 hcI hix k0 k1
  gi_wp2_with (refine wpListIn_storeNew rfl 171 (.tmp 6) (.tmp 13) rfl _ (wrRow xx) _ 129 rfl rfl rfl (by kernel_rfl) (by rw [zeroWr,wrRow,zfs]) (by rw [wrRow,zfs]) (wrRow_one _) ?_)
  refine ⟨((Chg.refl [] W).alloc _).mono (by simp),fun W2 hc2=>?_⟩;have hc3:Chg [l] W W2:=(((Chg.refl [] W).alloc (.cells (wrRow xx) 171)).mono (by simp)).trans hc2;have b0:=(hc3.block s (by omega) (by simp;omega)).trans HB.out.1;have b1:=(hc3.block (s+1) (by omega) (by simp;omega)).trans HB.out.2;have bw:=(hc2.block W.heap.size (by simp) (by simp;omega)).trans (znb W (.cells (wrRow xx) 171));have d0:W2.cell? ⟨W.heap.size,0,none⟩=some (.int .i64 (xx.1:Int)):=(zcb bw 0).trans (by rw [wrRow,zfg (by omega)];rfl);have d1:W2.cell? ⟨s,0,none⟩=some (.int .i64 (at':Int)):=(zcb b0 0).trans rfl;have d2:W2.cell? ⟨s+1,0,none⟩=some (.int .i64 0):=(zcb b1 0).trans rfl;have f2:=zfb b1 0;have hlW:=zhl b1;have HC3:=zh hc3;have HB2:=zh b1;clear b0 b1 bw hc3 hc2;by_cases hat:xx.1=at'
  ·have j1:((xx.1:Int)==(at':Int))=true:=by simp [hat]
   have HA:=zh hat;have j2:(xx.1:Int)=(at':Int):=by omega
   clear hat
   gi_wp2
   have hl:=lastIx_at HI.out HX.out.2 hk;rw [if_pos HA.out] at hl;exact ⟨(Chg.refl [s+1] W2).setCell (.inl (by simp)) _,rfl,i,((HX.out.1.then HC3.out (fun q hq=>by simp only [zms] at hq;subst hq;exact .inr hl1)).mono (by simp)).setCell (.inl (by simp)) _,zsb HB2.out 0 _,hl⟩
  ·have j1:¬ (xx.1:Int)=(at':Int):=by omega
   have HA:=zh hat;clear hat
   gi_wp2
   have hl:=lastIx_at HI.out HX.out.2 hk;rw [if_neg HA.out] at hl;exact ⟨Chg.refl _ _,HX.out.1.then HC3.out (fun q hq=>by simp only [zms] at hq;subst hq;exact .inr hl1),by omega,hl.symm⟩
 case done =>
  rintro D W hD ⟨hc,_,hix⟩ hK;have b1:=(hc.block (s+1) (by omega) (by simp)).trans k1;have d2:W.cell? ⟨s+1,0,none⟩=some (.int .i64 0):=(zcb b1 0).trans rfl;have f2:=zfb b1 0;have hlW:=zhl b1
  gi_wp2
  have hK':(W.setCell ⟨s+1,0,none⟩ (.int .i64 (-1))).heap[D]?=some (.deferred (some [])):=(zso 0 _ (by omega)).trans hK;have hR:=(World.putObj_heap_other (w:=W.setCell ⟨s+1,0,none⟩ (.int .i64 (-1))) (o := .deferred none) (show s+1≠D by omega)).trans (zsb b1 0 (.int .i64 (-1)));have hlx:lastIx ws at' len = -1:=by rw [<- hix,Nat.sub_self];rfl
  refine ⟨by simp,.inl ⟨_,_,rfl,run_takeDeferred hK',?_⟩⟩;have cR:((W.setCell ⟨s+1,0,none⟩ (.int .i64 (-1))).putObj D (.deferred none)).cell? ⟨s+1,0,none⟩=some (.int .i64 (-1)):=(zcb hR 0).trans rfl;refine ⟨.int .i64 (-1),by simp [results,Tryz.results109,go_sem,cR],by rw [hlx],?_⟩;exact HCW.out.then (((hc.mono (L':=[s+1]) (by simp)).setCell (p:=⟨s+1,0,none⟩) (.inl (by simp)) (.int .i64 (-1))).then (chg_put (.deferred none)) (fun q hq=>by simp only [zms] at hq;subst hq;exact .inr hD)) (fun q hq=>by simp only [zms] at hq;subst hq;exact .inr (by have:=HS.out;omega))
 case stop =>
  rintro D c k W hD hk ⟨rfl,i,hc,hb,hix⟩ hK
  gi_wp2
  have hR:=(World.putObj_heap_other (w:=W) (o := .deferred none) (show s+1≠D by omega)).trans hb;refine ⟨by simp,.inl ⟨_,_,rfl,run_takeDeferred hK,?_⟩⟩;have cR:(W.putObj D (.deferred none)).cell? ⟨s+1,0,none⟩=some (.int .i64 (i:Int)):=(zcb hR 0).trans rfl;refine ⟨.int .i64 (i:Int),by simp [results,Tryz.results109,go_sem,cR],by rw [hix],?_⟩;exact (HCW.out.then (hc.then (chg_put (.deferred none)) (fun q hq=>by simp only [zms] at hq;subst hq;exact .inr hD)) (fun q hq=>by simp only [zms] at hq;subst hq;exact .inr (by have:=HS.out;omega)))
end Go.Proofs.YtkhcaclndepgbaaGreat
namespace Go.Proofs.YtkhcaclndepgbaaGreat
open Go.RowKit
theorem laid_all {V:Nat->Value} {f:Nat->Nat} : fnRow 128 (laid V (fun i => .int .u8 (f i:Int)) 0 128)=u8s 128 f:=by
 apply Array.ext_getElem?;intro i;by_cases hi:i<128
 ·rw [zfg hi,u8s_get hi]
  unfold laid;rw [if_pos (by omega),Nat.sub_zero]
 ·rw [Array.getElem?_eq_none (by rw [zfs];omega),Array.getElem?_eq_none (by simp [u8s];omega)]
structure DiskRd (w:World) (p bb cap:Nat) (wv:Value) (D:Dk):Prop where
 n1:1<=D.n
 n2:D.n<=4096
 le:∀ b,b<D.n->∀ i,i<128->D.data b i<=255
 cp:D.n<=cap/\cap<=9223372036854775807
 top:w.heap[p]?=some (.cells #[.slice (some ⟨bb,0,none⟩) D.n cap,wv,.int .i64 (-1),.bool false] 156 (0,0))
 ty:∃ cur,w.heap[bb]?=some (.cells cur 169 (0,0))
 blk:∀ b,b<D.n->∀ i,i<128->w.cell? ⟨bb,b*128+i,none⟩=some (.int .u8 (D.data b i:Int))
 wts:w.ownsRow 0 171 129 wv D.waits.length (wrCells D.waits)
 wle:∀ x,x∈D.waits->x.1<D.n/\∀ i,i<128->x.2 i<=255
 wl:D.waits.length<=1000000
theorem DiskAt.rd {w:World} {p bb:Nat} {wv:Value} {D:Dk} (h:DiskAt w p bb wv D):DiskRd w p bb D.n wv D :=
  { n1:=h.n1,n2:=h.n2,le:=h.le,cp:=⟨zLr _,by have:=h.n2;omega⟩,top:=h.top,ty:=⟨_,h.blk⟩,wts:=h.wts,wle:=h.wle,wl:=h.wl,
    blk:=fun b hb i hi=>by
      rw [zcb h.blk,rowD,u8s_get (by omega)];rw [show (b*128+i) / 128=b by omega,show (b*128+i) % 128=i by omega] }
def Dk.rd (D:Dk) (b:Nat):Nat->Nat:=fl D.data D.waits b
section
variable {w w':World} {p bb cap:Nat} {wv:Value} {D:Dk}
theorem DiskRd.chg {L:List Nat} (h:DiskRd w p bb cap wv D) (c:Chg L w w') (h1:p∉L) (h2:bb∉L) (h3:∀ k,wv.ownBlock=some k->k∉L):DiskRd w' p bb cap wv D:=by
 obtain ⟨cur,hcur⟩:=h.ty;exact { h with top:=(c.block p (zhl h.top) h1).trans h.top,ty:=⟨cur,(c.block bb (zhl hcur) h2).trans hcur⟩,blk:=fun b hb i hi=>(c.cell (p:=⟨bb,b*128+i,none⟩) (zhl hcur) h2).trans (h.blk b hb i hi),wts:=zoc h.wts c h3 }
theorem DiskRd.rd_le (h:DiskRd w p bb cap wv D) {b:Nat} (hb:b<D.n):∀ i,i<128->D.rd b i<=255:=fl_le (d:=D.data) _ _ h.le (fun x hx=>(h.wle x hx).2) b hb
theorem rdMay_at (h:DiskRd w p bb cap wv D):Calls Tryz.prog 104 #[.pointer (some ⟨p,0,none⟩)] w fun e w'=>e = .returned (.int .i64 0)/\w=w':=by
 have ht:=h.top;have c0:=zcb ht 0;have c1:=zcb ht 1;have c2:=zcb ht 2;have c3:=zcb ht 3;simp only [tA1,tA3,tA2] at c0 c1 c2 c3;have hn:=Lib.run_eql_slice_nil (P:=Tryz.prog) w 149 169 (some ⟨bb,0,none⟩) D.n cap 0 0 Tryz.underlying149;go_enter Tryz.func104,Tryz.ntmps104;go_wp2_with fail;go_ret;exact ⟨rfl,rfl⟩
theorem rdLen_at (h:DiskRd w p bb cap wv D):Calls Tryz.prog 43 #[.pointer (some ⟨p,0,none⟩)] w fun e w'=>e = .returned (.int .i64 (D.n:Int))/\w=w':=by
 have ht:=h.top;have c0:=zcb ht 0;have c1:=zcb ht 1;have c2:=zcb ht 2;have c3:=zcb ht 3;simp only [tA1,tA3,tA2] at c0 c1 c2 c3;go_enter Tryz.func43,Tryz.ntmps43;go_wp2_with fail;go_ret;exact ⟨rfl,rfl⟩
end
theorem dRead_bad {w:World} {p bb cap:Nat} {wv:Value} {D:Dk} (h:DiskRd w p bb cap wv D) (at':Int) (ha:at'<0∨(D.n:Int)<=at') :
  Calls Tryz.prog 44 #[.pointer (some ⟨p,0,none⟩),.int .i64 at'] w fun e w'=>e = .returned (.tuple #[.slice none 0 0,.int .i64 2])/\w=w':=by
 have ht:=h.top;have cm:=rdMay_at h;have c0:=zcb ht 0;have c1:=zcb ht 1;have c2:=zcb ht 2;have c3:=zcb ht 3;simp only [tA1,tA3,tA2] at c0 c1 c2 c3;clear h ht;by_cases h0:at'<0
 case' neg=>have h1:(D.n:Int)<=at':=by omega
 all_goals
  clear ha;go_enter Tryz.func44,Tryz.ntmps44;go_wp2_with fail;refine cm.mono ?_;rintro e w' ⟨rfl,rfl⟩;go_wp2_with fail;exact bodyPost_ret (v := .tuple #[.slice none 0 0,.int .i64 2]) (by simp [results,Tryz.results44,go_sem]) rfl ⟨rfl,rfl⟩
theorem dRead_at {w:World} {p bb cap at':Nat} {wv:Value} {D:Dk} (h:DiskRd w p bb cap wv D) (ha:at'<D.n) :
  Calls Tryz.prog 44 #[.pointer (some ⟨p,0,none⟩),.int .i64 (at':Int)] w fun e w'=>e = .returned (.tuple #[.slice (some ⟨w.heap.size,0,none⟩) 128 128,.int .i64 0])/\w'.heap[w.heap.size]?=some (.cells (u8s 128 (D.rd at')) 5 (0,0))/\Chg [] w w':=by
 have ht:=h.top;have cm:=rdMay_at h;have hmk:(Instr.makeSlice 22 (.int .i64 128) (.int .i64 128)).run Tryz.prog w = .ok (.slice (some ⟨w.heap.size,0,none⟩) 128 128) (w.alloc (.cells (zrow 128 (.int .u8 0)) 5)):=run_make1 (P:=Tryz.prog) 22 5 Tryz.underlying22 infoU8 rfl .i64 .i64 128 (by omega) (by omega) w;rw [zrow_u8s] at hmk;have b1:¬ (at':Int)<0:=by omega
 have b2:(at':Int)<(D.n:Int):=by omega
 have HH:=zh h;have c0:=zcb ht 0;have c1:=zcb ht 1;have c2:=zcb ht 2;have c3:=zcb ht 3;simp only [tA1,tA3,tA2] at c0 c1 c2 c3;clear h ht;go_enter Tryz.func44,Tryz.ntmps44;go_wp2_with fail;refine cm.mono ?_;rintro e w' ⟨rfl,rfl⟩;clear cm;go_upto_region 7 with fail;have hc1:=(Chg.refl [] w).alloc (.cells (u8s 128 (fun _=>0)) 5);have hx:=znb w (.cells (u8s 128 (fun _=>0)) 5);generalize w.alloc (.cells (u8s 128 (fun _=>0)) 5)=W at *;have HD:=zh (HH.out.chg hc1 (by simp) (by simp) (by simp));have HC:=zh hc1;have HX:=zh hx;have ht:=HD.out.top;clear c0 c1 c2 c3 hc1 hx hmk;have c0:=zcb ht 0;have c1:=zcb ht 1;have c2:=zcb ht 2;have c3:=zcb ht 3;simp only [tA1,tA3,tA2] at c0 c1 c2 c3;have cl:=dcLast_at (at':=at') c1 HD.out.wts HD.out.wl;clear ht;go_wp2_with fail;refine cl.mono ?_;rintro e w2 ⟨rfl,hc2⟩;have HD2:=zh (HD.out.chg hc2 (by simp) (by simp) (by simp));have HX2:=zh ((hc2.block _ (zhl HX.out) (by simp)).trans HX.out);have HC2:=zh (HC.out.trans hc2);clear hc2 cl c0 c1 c2 c3;have ht:=HD2.out.top;obtain ⟨a,c,hwv,_,_⟩:=zos HD2.out.wts;obtain ⟨n,hn⟩:∃ n,n=D.waits.length:=⟨_,rfl⟩;rw [<- hn] at hwv ⊢;rw [hwv] at ht;have HWV:=zh hwv;have HN:=zh hn;obtain ⟨l1,l2,l3⟩:=lastIx_fl D.waits D.data at' n (by omega);rw [hn,List.take_length] at l3;obtain ⟨ix,hix⟩:∃ ix,ix=lastIx D.waits at' n:=⟨_,rfl⟩;rw [<- hn] at l3;rw [<- hix] at l1 l2 l3 ⊢;have HL3:=zh l3;have c0:=zcb ht 0;have c1:=zcb ht 1;have c2:=zcb ht 2;have c3:=zcb ht 3;simp only [tA1,tA3,tA2] at c0 c1 c2 c3;clear ht hwv hn hix l3
 by_cases hi:ix<0
 ·rw [if_pos hi] at HL3
  have i1:¬ (0:Int)<=ix:=by omega
  go_wp2_with (refine wpList_copy_fn rfl (.tmp 45) (.tmp 53) 22 22 rfl 5 Tryz.underlying22 (by kernel_rfl) w.heap.size 0 128 128 (some ⟨bb,at'*128,none⟩) 128 128 rfl rfl 128 (fun _ => .int .u8 0) 5 HX2.out 128 (by decide) (fun i => .int .u8 (D.data at' i:Int)) (fun _=>⟨bb,at'*128,rfl,fun j hj=>HD2.out.blk at' ha j hj⟩) (fun j _=>rfl) (by omega) ?_;intro w3 HF3 HC3;have HC3:=zh HC3);have hf:=HF3.out;rw [laid_all] at hf;refine bodyPost_ret (v := .tuple #[.slice (some ⟨w.heap.size,0,none⟩) 128 128,.int .i64 0]) (by simp [results,Tryz.results44,go_sem]) rfl ⟨rfl,?_,HC2.out.then HC3.out (fun q hq=>by simp only [zms] at hq;subst hq;exact .inr (zLr _))⟩;rw [hf];unfold Dk.rd;rw [HL3.out]
 ·rw [if_neg hi] at HL3
  obtain ⟨i,rfl⟩:∃ i:Nat,ix=(i:Int):=⟨ix.toNat,by omega⟩;rw [Int.toNat_natCast] at HL3;have hin:i<D.waits.length:=by have:=HN.out;omega
  obtain ⟨g,cg,e1,_,_,_,hgl,hcell⟩:=zol HD2.out.wts (by omega);rw [HWV.out] at e1;injection e1 with e1a e1b e1c;subst e1a
  have HCE:Hid (∀ j,j<128->w2.cell? ⟨g,i*129+1+j,none⟩=some (.int .u8 ((D.waits[i]!).2 j:Int))):=zh fun j hj=>by
   rw [show i*129+1+j=i*129+(1+j) by omega];refine (hcell _ (by omega)).trans ((wrCells_get D.waits i (1+j) hin (by omega)).trans ?_);unfold wrV;rw [if_neg (by omega),Nat.add_sub_cancel_left,getElem!_pos D.waits i hin]
  have i1:(0:Int)<=(i:Int):=by omega
  have i2:(i:Int)<(n:Int):=by have:=HN.out;omega
  clear hcell e1b e1c hi;go_wp2_with (refine wpList_copy_fn rfl (.tmp 34) (.tmp 43) 22 22 rfl 5 Tryz.underlying22 (by kernel_rfl) w.heap.size 0 128 128 (some ⟨g,i*129+1,none⟩) 128 128 rfl rfl 128 (fun _ => .int .u8 0) 5 HX2.out 128 (by decide) (fun j => .int .u8 ((D.waits[i]!).2 j:Int)) (fun _=>⟨g,i*129+1,rfl,fun j hj=>HCE.out j hj⟩) (fun j _=>rfl) (by omega) ?_;intro w3 HF3 HC3;have HC3:=zh HC3);have hf:=HF3.out;rw [laid_all] at hf;refine bodyPost_ret (v := .tuple #[.slice (some ⟨w.heap.size,0,none⟩) 128 128,.int .i64 0]) (by simp [results,Tryz.results44,go_sem]) rfl ⟨rfl,?_,HC2.out.then HC3.out (fun q hq=>by simp only [zms] at hq;subst hq;exact .inr (zLr _))⟩;rw [hf];unfold Dk.rd;rw [HL3.out]
end Go.Proofs.YtkhcaclndepgbaaGreat
