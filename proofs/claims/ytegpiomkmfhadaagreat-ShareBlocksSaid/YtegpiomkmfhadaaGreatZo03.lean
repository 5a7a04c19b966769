/- Package disk: Flush. (Printed by mkdsk3 -/
import Derived.Test.YtegpiomkmfhadaaGreatZo02
import Derived.Deep.LoopGhost
import Derived.RangeFuncNested
import Derived.RangeFuncBound
import Derived.RangeFuncCalls
import Derived.RangeFuncLeaves
import Derived.Shelf.Abstract
import Derived.Shelf.RegionOpen
import Derived.OwnWalkIn
import Derived.TacticsInMore
import Derived.LoopNIn
import Derived.LoopIn
set_option linter.all false
set_option maxRecDepth 100000
set_option maxHeartbeats 20000000
namespace Go.Proofs.YtegpiomkmfhadaaGreat
open Go.RowKit
variable {k n gf N l:Nat} {a:Act} {w W:World} {Q:Exit->Act->World->Prop} {lb:Array Value} {args:Nat->Array Value} {Lw:List Nat} {g:Operand} {ps:Array Tmp} {assign body:Code}
def fl (d:Nat->Nat->Nat) (l:List (Nat × (Nat->Nat))):Nat->Nat->Nat:=l.foldl (fun d x b=>if b=x.1 then x.2 else d b) d
theorem uv (d:Nat->Nat->Nat) (l:List (Nat × (Nat->Nat))) (x:Nat × (Nat->Nat)):fl d (l++[x])=fun b=>if b=x.1 then x.2 else fl d l b:=by unfold fl;rw [List.foldl_append];rfl
theorem mt {d:Nat->Nat->Nat} {l:List (Nat × (Nat->Nat))} (h:k<l.length):fl d (l.take (k+1))=fun b=>if b=l[k].1 then l[k].2 else fl d (l.take k) b:=by
 rw [List.take_succ_eq_append_getElem h,uv]
theorem gY {d:Nat->Nat->Nat} {n:Nat} : ∀ (l:List (Nat × (Nat->Nat))) (d:Nat->Nat->Nat),(∀ b,b<n->∀ i,i<128->d b i<=255)->(∀ x,x∈l->∀ i,i<128->x.2 i<=255)->∀ b,b<n->∀ i,i<128->fl d l b i<=255
 | [],d,h,_=>h
 | x::r,d,h,hl=>by
  show ∀ b,b<n->∀ i,i<128->fl (fun b=>if b=x.1 then x.2 else d b) r b i<=255
  refine gY (d:=d) r _ (fun b hb i hi=>?_) (fun y hy=>hl y (by simp [hy]))
  split
  ·exact hl x zaa i hi
  ·exact h b hb i hi
theorem J1 {ops:Array Oper} {rest:List Oper} {op:Oper} {t:TypeId} {d:TypeDesc} {o:Nat} {V:Nat->Value} (Eg:op.guard=none) (x:Operand) (ho:op.op = .load t x) (hu:Tryz.prog.underlying t=some d) (hd:d.isRow=true) (hi:(Tryz.prog.info? t).map (·.size)=some n)
  (hx:a.eval x = .pointer (some ⟨k,o,none⟩)) (hS:∀ j,j<n->w.cell? ⟨k,o+j,none⟩=some (V j)) (h:wpList Tryz.prog ops Q rest (a.put op.dst (.agg (zK n V))) w):wpList Tryz.prog ops Q (op::rest) a w:=by
 refine wpList_load_mid Eg t x ho k o hx (zK n V).toList d (fun j v hv=>?_) hu hd (by rw [hi,Array.length_toList,ZT]) (by rw [Array.toArray_toList];exact h)
 have hj:j<n:=by
  by_cases hj:j<n
  ·exact hj
  ·rw [yB,yo zaj] at hv;cases hv
 rw [yB,Qn hj] at hv;rw [<- yj hv];exact hS j hj
theorem nU {p bb:Nat} {wv:Value} {D:Dk} (h:xE w p bb wv D) :
  zC 93 #[zP p] w fun e w'=>e = .returned (.int .i64 0)/\xE w' p bb (.slice none 0 0) { D with data:=fl D.data D.waits,waits:=[] } /\ zv [p,bb] w w':=by
 have ht:=h.top;have cm:=ms h;have cp:=dF h;obtain ⟨a,c,Hm,hwc,hwm⟩:=XI h.wts;obtain ⟨n,hn⟩:=zE D.waits.length;rw [<- hn] at Hm;have hn6:n<=1000000:=zq h.wl
 rw [Hm] at ht;have HWV:=zh Hm;have HN:=zh hn;have H:=zh h;have HT:=zh ht;obtain ⟨c0,c1,c2,c3⟩:=pW ht;clear h ht Hm hn hwc hwm;go_enter Tryz.func93,Tryz.ntmps93;go_wp2_with fail;refine zm cm ?_;go_wp2_with fail;refine zm cp ?_;clear cm cp;go_wp2_with fail;go_loopg [23] n (fun gg s wr=>∃ k:Nat,gg=n - k/\k<=n/\s = .int .i64 (k:Int)/\Hd (wr.heap[bb]?=some (.cells (JG D.n (fl D.data (D.waits.take k))) 227 (0,0))/\zv [bb] w wr))
 case atStart=>exact ⟨0,rfl,yg _,zac,zh ⟨H.blk,zv.refl _ _⟩⟩
 case round =>
  obtain ⟨k,DM,DH,rfl,hX⟩:=hrel;obtain ⟨wo,rfl⟩:=zE wr;have HX:=zh hX.o;have IP:=zh DM;clear hX DM c0 c1 c2 c3;have NB:=zh ((HX.2.block p H.lt.1 (by simp;exact H.ne)).trans HT);by_cases hk:k<n
  case' neg =>
   obtain rfl:k=n:=zo;have ht:=NB.o;obtain ⟨d0,d1,d2,d3⟩:=pW ht;have lp:=zz ht;have fz:=xB ht 1;clear ht;go_wp2_with fail;go_ret;refine ⟨rfl,{ n1:=H.n1,n2:=H.n2,le:=gY (d:=D.data) _ _ H.le (fun x hx=>(H.wle x hx).2),top:=Yh NB 1 _,blk:=?_,wts:=aF,wle:=(fun x hx=>by cases hx),wl:=yg _ },?_⟩
   ·have:=HX.1
    rw [HN.o,List.take_length] at this;exact (ZS 1 _ (fun e=>H.ne e.symm)).trans this
   ·exact (HX.2.mo).setCell (.inl zaa) _
  case' pos =>
   have N1:k<D.waits.length:=by rw [<- HN.o];exact hk
   obtain ⟨g,cg,e1,_,_,_,EQ,BX⟩:=aE H.wts zo;rw [HWV.o] at e1;injection e1 with LY UQ UR;subst LY;obtain ⟨xx,GW⟩:=zE (D.waits[k]);have Ee:=zh GW;have BU:g≠bb:=fun e=>H.wne.2 (by rw [HWV.o];simp [Value.ownBlock,e]);have HL:Hd (∀ j,j<129->wo.cell? ⟨g,k*129+j,none⟩=some (JZ xx j)):=zh fun j hj=>(HX.2.cell (p:=⟨g,k*129+j,none⟩) EQ (by simp;exact BU)).trans ((BX _ zo).trans (by rw [Qw D.waits k j N1 hj,GW]));have HAT:Hd (xx.1<D.n):=zh (by rw [GW];exact (H.wle _ (zt N1)).1);have i1:(k:Int)<(n:Int):=zo
   have LV:=zh EQ;clear BX GW UQ UR EQ BU
   go_upto_region 10 with (first
    | (refine J1 rfl (.tmp 25) (t:=229) (n:=129) (k:=g) (o:=k*129) (V:=JZ xx) rfl Tryz.underlying229 rfl (by rw [show (Tryz.prog.info? 229).map (·.size)=some 129 from by kernel_rfl]) zag HL ?_)
    | (refine qZ rfl 229 (.tmp 6) (.tmp 26) rfl _ (zK 129 (JZ xx)) _ 129 rfl rfl rfl zab (by rw [fP,xy,ZT]) (by rw [ZT]) (XJ _) ?_))
   have hx:=xo wo (.cells (zK 129 (JZ xx)) 229);have B5:=(zv.refl [] wo).alloc (.cells (zK 129 (JZ xx)) 229);generalize wo.alloc (.cells (zK 129 (JZ xx)) 229)=W at *;have Ce:=zh B5;have If:=zh hx;have HP:=zh ((B5.cell (p:=⟨p,0,none⟩) (zz NB) zaa).trans (show wo.cell? ⟨p,0,none⟩=some (zS bb D.n D.n) from (zM NB 0).trans rfl));have I0:=zh ((B5.block bb (zz HX.1) zaa).trans HX.1);have MZ:Hd (∀ j,j<129->W.cell? ⟨wo.heap.size,j,none⟩=some (JZ xx j)):=zh fun j hj=>(zM hx j).trans (Qn hj);clear B5 hx;refine wp_region_held_drew (S:=fun W'=>∀ j,j<129->W'.cell? ⟨wo.heap.size,j,none⟩=some (JZ xx j)) zab (by exact MZ) fun BS=>?_;refine Xy 0 ?_;refine Xy 1 ?_;refine Xy 2 ?_;refine zu ?_
   refine wpAnyH_take (i:=3) (oi:=?_) (v := .agg (zK 129 (JZ xx))) ?_ zab zab zab ?_ (ZX (k:=wo.heap.size) (o:=0) (n:=129) (V:=JZ xx) Tryz.underlying229 rfl (by rw [show (Tryz.prog.info? 229).map (·.size)=some 129 from by kernel_rfl]) ?_ (.tmp 6) ?_ ?_ (fun w' hw=>by intro j hj;rw [yn];exact hw j hj)) BS ?_
   rotate_left 1
   ·(simp only [tA1,tA2,tA3];rfl)
   ·exact fun _ _ _ h=>h
   ·rfl
   ·rfl
   ·simp [Act.eval,Act.put]
   refine zu ?_;refine wE 4 (fun K hK=>?_)
   ·(go_simp;refine (rm (w:=W.drew) (p:=p) (bb:=bb) (at':=xx.1) (f:=xx.2) HP I0 HAT H.n2).mono ?_;rintro e w5 ⟨rfl,Fr,DF⟩;have HB5:=zh Fr;have Fp:=zh DF;clear Fr DF)
    refine hK.out _ _ (fun j hj=>(Fp.cell (p:=⟨wo.heap.size,j,none⟩) (zz If) (by simp only [zms];have:=zz HX.1;omega)).trans (MZ j hj)) fun BS=>?_;clear hK K;refine zu ?_;refine wpAnyH_done zab ?_ _;go_wp2_with fail;go_roundg (n - (k+1))
    case measure=>rw [IP.o];omega
    case rel =>
     refine ⟨k+1,rfl,zo,zac,zh ⟨?_,?_⟩⟩
     ·rw [HB5.o,mt (by rw [<- HN.o];exact hk),<- Ee.o]
     ·exact (HX.2.trans (Ce.mo)).trans ((zv.refl [bb] W).drew.trans Fp)
def rn (Lw:List Nat) (I:World->Prop) (Ix:Code->World->Prop) (W:World):Exit->Act->World->Prop
 | .normal,_,W'=>zv Lw W W'/\I W'
 | .ret,_,W'=>zv Lw W W'/\Ix .ret W'
 | .exit id,_,W'=>zv Lw W W'/\Ix (.exit id) W'
 | _,_,_=>False
def gZ (F:Fence) (n:Nat) (P:Program) (gf:Nat) (lb:Array Value) (args:Nat->Array Value) (N:Nat) (Lw:List Nat) (w:World):Prop :=
 ∀ (l:Nat) (J Jx:Nat->World->Prop) (W:World),Below w.heap.size w W->w.heap.size<=l->l<W.heap.size ->
  (∀ k A B,J k A->Below W.heap.size A B->J k B)->(∀ k A B,Jx k A->Below W.heap.size A B->Jx k B) ->
  (∀ k W1,J k W1->k<N->YieldAt F (n - 1) P l (args k) W1 fun e W'=>(e = .returned (.bool true)/\J (k+1) W'/\zv (l::Lw) W1 W')∨(e = .returned (.bool false)/\Jx (k+1) W'/\zv (l::Lw) W1 W')) ->
  J 0 W->CallsIn F n P gf (#[.func (.yield l) #[] #[]]++lb) W fun e W'=>(∃ v,e = .returned v)/\(J N W'∨∃ k,k<=N/\Jx k W')
def rp (F:Fence) (n:Nat) (P:Program) (gf:Nat) (lb:Array Value) (Pj:World->Prop) (Av:Nat->World->Array Value->Prop) (N:Nat) (Lw:List Nat) (w:World):Prop :=
 ∀ (l:Nat) (J Jx:Nat->World->Prop) (W:World),Below w.heap.size w W->w.heap.size<=l->l<W.heap.size ->
  (∀ k A B,J k A->Below W.heap.size A B->J k B)->(∀ k A B,Jx k A->Below W.heap.size A B->Jx k B)->(∀ k A,J k A->Pj A) ->
  (∀ k W1 av,J k W1->k<N->Av k W1 av->YieldAt F (n - 1) P l av W1 fun e W'=>(e = .returned (.bool true)/\J (k+1) W'/\zv (l::Lw) W1 W')∨(e = .returned (.bool false)/\Jx (k+1) W'/\zv (l::Lw) W1 W')) ->
  J 0 W->CallsIn F n P gf (#[.func (.yield l) #[] #[]]++lb) W fun e W'=>(∃ v,e = .returned v)/\(J N W'∨∃ k,k<=N/\Jx k W')
theorem gZ.av {F:Fence} {P:Program} (h:gZ F n P gf lb args N Lw w):rp F n P gf lb (fun _=>True) (fun k _ av=>av=args k) N Lw w :=
 fun l J Jx W h1 h2 h3 h4 h5 _ h6 h7=>h l J Jx W h1 h2 h3 h4 h5 (fun k W1 a b=>h6 k W1 _ a b rfl) h7
theorem zv.afar {L:List Nat} {W0 A B:World} (c:zv L W0 A) (h:Below W0.heap.size A B):zv L W0 B :=
 ⟨h.os.trans c.os,h.tape.trans c.tape,h.output.trans c.output,qh c.size h.size,fun k hk hn=>(h.block k hk).trans (c.block k hk hn)⟩
theorem Zb {B:Nat} (o:Obj) (h:B<=l):Below B W (W.putObj l o) :=
 ⟨rfl,rfl,rfl,zaa,fun k hk=>World.putObj_heap_other zo⟩
theorem Yd (o:Obj):zv [l] W (W.putObj l o) :=
 ⟨rfl,rfl,rfl,zaa,fun k hk hn=>World.putObj_heap_other (by simpa using hn)⟩
variable {F:Fence} {n:Nat} {P:Program}
theorem YW 
  (Kl:F.round=none) (h1:1<=n) (hg:a.eval g = .func (.func gf) #[] lb) (U1:F.fn gf) (eg:∀ args w,(callFunc gf args).run P w = .ok (.enter gf args) w)
  {Av:Nat->World->Array Value->Prop} {Pj:World->Prop} (EM:rp F (n - 1) P gf lb Pj Av N Lw w) (Lt:∀ x,x∈Lw->x<w.heap.size) (hps:∀ k W av,Av k W av->av.size=ps.size)
  (I:Nat->World->Prop) (Ix:Code->Nat->World->Prop) (hI:∀ k A B,I k A->Below w.heap.size A B->I k B) (L6:∀ c k A B,Ix c k A->Below w.heap.size A B->Ix c k B) (h0:I 0 w) (Sf:∀ k A,I k A->Pj A)
  (F5:∀ (l k:Nat) (W:World) (av:Array Value),w.heap.size<=l->l<W.heap.size->I k W->k<N->Av k W av->(∃ r:Loop,W.heap[l]?=some (.loop r)) ->
   assign.wpIn (F.inRound l) (n - 1 - 1) P (Exit.then (fun a1 W1=>zv Lw W W1/\∀ W2,zv [l] W1 W2->body.wpIn (F.inRound l) (n - 1 - 1) P (rn Lw (I (k+1)) (fun c=>Ix c (k+1)) W2) a1 W2) (fun _ _ _=>False))
    { tmps:=(ps.zip av).foldl (fun t (p,v)=>t.setIfInBounds p v) a.tmps,defers:=[] } W)
  (Ip:∀ (D:Nat) (W:World),w.heap.size<=D->I N W->W.heap[D]?=some (.deferred (some []))->Q .normal { a with defers := { target := .collected D,args:=#[] } :: a.defers } W)
  (IE:∀ (D:Nat) (c:Code) (k:Nat) (W:World),w.heap.size<=D->k<=N->Ix c k W->W.heap[D]?=some (.deferred (some []))->c.wpIn F n P Q { a with defers := { target := .collected D,args:=#[] } :: a.defers } W) :
  (Code.rangeFunc g ps assign body).wpIn F n P Q a w:=by
 refine wpIn_rangeFunc ?_;intro fn hfn;rw [Kl];obtain ⟨Ei,DY⟩:∃ Ei:LoopState->Option Code->Loop,Ei=fun st pe => { state:=st,pending:=pe,fn,tmps:=a.tmps,params:=ps,assign,body,defers:=w.heap.size } := ⟨_,rfl⟩;obtain ⟨W1,G5⟩:∃ W1,(w.alloc (.deferred (some []))).alloc (.loop (Ei .ready none))=W1:=⟨_,rfl⟩;have M5:W1.heap[w.heap.size+1]?=some (.loop (Ei .ready none)):=by rw [<- G5];exact cZ w _ _
 have hK1:W1.heap[w.heap.size]?=some (.deferred (some [])):=by rw [<- G5];exact kC w _ _
 have al:Below w.heap.size w W1:=by rw [<- G5];exact ((Below.refl _ w).alloc (xd _) _).alloc zaa _
 have Gd:W1.heap.size=w.heap.size+2:=by rw [<- G5];simp
 refine ⟨w.heap.size+1,[{ target := .collected w.heap.size,args:=#[] }],W1,{ target := .fn (.func gf) lb,args:=#[.func (.yield (w.heap.size+1)) #[] #[]] },W1,gf,
  #[.func (.yield (w.heap.size+1)) #[] #[]]++lb,W1,?_,?_,?_,?_,fun _=>h1,?_⟩
 ·rw [<- G5,DY];exact run_enterLoop_outer _ _ _ _ _
 ·simp only [resolve,hg]
  simp [go_sem]
 ·intro f' Gm;simp [Target.leads] at Gm;subst Gm;exact U1
 ·simp [invoke,go_sem,eg]
 ·refine (EM (w.heap.size+1)
   (fun k W=>I k W/\W.heap[w.heap.size+1]?=some (.loop (Ei .ready none))/\W.heap[w.heap.size]?=some (.deferred (some [])))
   (fun k W=>∃ c,Ix c k W/\W.heap[w.heap.size+1]?=some (.loop (Ei .done (some c)))/\W.heap[w.heap.size]?=some (.deferred (some [])))
   W1 al zo zo
   (fun k A B h Cq=>⟨hI k A B h.1 (Cq.mono zo),(Cq.block _ zo).trans h.2.1,(Cq.block _ zo).trans h.2.2⟩)
   (fun k A B h Cq=>by
    obtain ⟨c,hc,hl,hk⟩:=h;exact ⟨c,L6 c k A B hc (Cq.mono zo),(Cq.block _ zo).trans hl,(Cq.block _ zo).trans hk⟩)
   (fun k A h=>Sf k A h.1) ?_ ⟨hI 0 w W1 h0 al,M5,hK1⟩).mono ?_
  ·rintro k W av ⟨hi,hl,hk⟩ Fw Lz
   have BY:w.heap.size+1<W.heap.size:=zz hl;have hy:=run_yield (P:=P) (args:=av) hl (by rw [DY];exact hps k W av Lz);rw [DY] at hy;refine ⟨fn,_,assign,body,hy,roundIn_of_wpIn hfn (wpIn_mono (F5 (w.heap.size+1) k W av zo BY hi Fw Lz ⟨_,hl⟩) ?_)⟩;clear hy;intro e a1 Wa hp
   cases e with
   | normal =>
    obtain ⟨Mg,TP⟩:=hp;have SK:∀ i,w.heap.size<=i->i∉Lw:=fun i hi hm=>by have:=Lt i hm;omega
    have hla:=(Mg.block _ BY (SK _ zo)).trans hl;have hka:=(Mg.block _ zo (SK _ (xd _))).trans hk;have SJ:w.heap.size+1<Wa.heap.size:=zz hla;refine ⟨_,run_beginRound hla (by rw [DY]),?_⟩;have BW:=Yd (W:=Wa) (l:=w.heap.size+1) (.loop { Ei .ready none with state := .busy });have DI:(Wa.putObj (w.heap.size+1) (.loop { Ei .ready none with state := .busy })).heap[w.heap.size+1]?=some (.loop { Ei .ready none with state := .busy }):=World.putObj_heap_same SJ;have Cy:(Wa.putObj (w.heap.size+1) (.loop { Ei .ready none with state := .busy })).heap[w.heap.size]?=some (.deferred (some [])):=(World.putObj_heap_other zo).trans hka;refine wpIn_mono (TP _ BW) ?_
    have fin:∀ (Dc:Option Code) (W3:World),zv Lw (Wa.putObj (w.heap.size+1) (.loop { Ei .ready none with state := .busy })) W3 ->
      (Instr.endRound (w.heap.size+1) Dc).run P W3 = .ok (.bool Dc.isNone) (W3.putObj (w.heap.size+1) (.loop (Ei (if Dc.isNone then .ready else .done) Dc))) /\
      (W3.putObj (w.heap.size+1) (.loop (Ei (if Dc.isNone then .ready else .done) Dc))).heap[w.heap.size+1]?=some (.loop (Ei (if Dc.isNone then .ready else .done) Dc)) /\
      (W3.putObj (w.heap.size+1) (.loop (Ei (if Dc.isNone then .ready else .done) Dc))).heap[w.heap.size]?=some (.deferred (some [])) /\
      zv ((w.heap.size+1)::Lw) W (W3.putObj (w.heap.size+1) (.loop (Ei (if Dc.isNone then .ready else .done) Dc))):=fun Dc W3 Eu=>by
     have Nh:=(Eu.block _ (zz DI) (SK _ zo)).trans DI;have La:=(Eu.block _ (zz Cy) (SK _ (xd _))).trans Cy;have hr:=run_endRound (P:=P) Dc Nh;refine ⟨?_,World.putObj_heap_same (zz Nh),(World.putObj_heap_other zo).trans La,?_⟩
     ·rw [DY] at hr ⊢
      exact hr
     ·exact (((Mg.mono zax).trans (BW.mo)).trans (Eu.mono zax)).trans ((Yd _).mo)
    rintro e a3 W3 hp
    cases e with
    | normal =>
     obtain ⟨Eu,GO⟩:=hp;obtain ⟨hr,Lb,Gb,Cd⟩:=fin none W3 Eu;exact ⟨_,_,hr,.inl ⟨rfl,⟨hI _ _ _ GO (Zb _ zo),Lb,Gb⟩,Cd⟩⟩
    | ret =>
     obtain ⟨Eu,GO⟩:=hp;obtain ⟨hr,Lb,Gb,Cd⟩:=fin (some .ret) W3 Eu;exact ⟨_,_,hr,.inr ⟨rfl,⟨.ret,L6 _ _ _ _ GO (Zb _ zo),Lb,Gb⟩,Cd⟩⟩
    | exit id =>
     obtain ⟨Eu,GO⟩:=hp;obtain ⟨hr,Lb,Gb,Cd⟩:=fin (some (.exit id)) W3 Eu;exact ⟨_,_,hr,.inr ⟨rfl,⟨.exit id,L6 _ _ _ _ GO (Zb _ zo),Lb,Gb⟩,Cd⟩⟩
    | goto t=>exact hp.elim
    | panic ch=>exact hp.elim
    | outgrown=>exact hp.elim
   | ret=>exact hp.elim
   | exit id=>exact hp.elim
   | goto t=>exact hp.elim
   | panic ch=>exact hp.elim
   | outgrown=>exact hp.elim
  ·rintro e W2 ⟨⟨v,rfl⟩,(⟨hi,hl,hk⟩ | ⟨k,Fw,c,hi,hl,hk⟩)⟩
   ·exact ⟨none,_,by have:=run_endLoop (P:=P) hl (by rw [DY];simp);rw [DY] at this;exact this,Ip _ _ (xd _) (hI _ _ _ hi (Zb _ zo)) ((World.putObj_heap_other zo).trans hk)⟩
   ·exact ⟨some c,_,by have:=run_endLoop (P:=P) hl (by rw [DY];simp);rw [DY] at this;exact this,IE _ c k _ (xd _) Fw (L6 _ _ _ _ hi (Zb _ zo)) ((World.putObj_heap_other zo).trans hk)⟩
theorem ZY 
  (Kl:F.round=none) (h1:1<=n) (hg:a.eval g = .func (.func gf) #[] lb) (U1:F.fn gf) (eg:∀ args w,(callFunc gf args).run P w = .ok (.enter gf args) w)
  (EM:gZ F (n - 1) P gf lb args N Lw w) (Lt:∀ x,x∈Lw->x<w.heap.size) (hps:∀ k,(args k).size=ps.size)
  (I:Nat->World->Prop) (Ix:Code->Nat->World->Prop) (hI:∀ k A B,I k A->Below w.heap.size A B->I k B) (L6:∀ c k A B,Ix c k A->Below w.heap.size A B->Ix c k B) (h0:I 0 w)
  (F5:∀ (l k:Nat) (W:World),w.heap.size<=l->l<W.heap.size->I k W->k<N ->
   assign.wpIn (F.inRound l) (n - 1 - 1) P (Exit.then (fun a1 W1=>zv Lw W W1/\∀ W2,zv [l] W1 W2->body.wpIn (F.inRound l) (n - 1 - 1) P (rn Lw (I (k+1)) (fun c=>Ix c (k+1)) W2) a1 W2) (fun _ _ _=>False))
    { tmps:=(ps.zip (args k)).foldl (fun t (p,v)=>t.setIfInBounds p v) a.tmps,defers:=[] } W)
  (Ip:∀ (D:Nat) (W:World),w.heap.size<=D->I N W->W.heap[D]?=some (.deferred (some []))->Q .normal { a with defers := { target := .collected D,args:=#[] } :: a.defers } W)
  (IE:∀ (D:Nat) (c:Code) (k:Nat) (W:World),w.heap.size<=D->k<=N->Ix c k W->W.heap[D]?=some (.deferred (some []))->c.wpIn F n P Q { a with defers := { target := .collected D,args:=#[] } :: a.defers } W) :
  (Code.rangeFunc g ps assign body).wpIn F n P Q a w:=by
 exact YW Kl h1 hg U1 eg (Av:=fun k _ av=>av=args k) EM.av Lt (fun k W av h=>by rw [h];exact hps k) I Ix hI L6 h0 (fun _ _ _=>trivial) (fun l k W av h2 h3 h4 h5 h6 _=>by rw [h6];exact F5 l k W h2 h3 h4 h5) Ip IE
end Go.Proofs.YtegpiomkmfhadaaGreat
namespace Go.Proofs.YtegpiomkmfhadaaGreat
open Go.RowKit Go.Shelf
attribute [local go_sem] Oper.semAt_some
variable {F:Fence} {m k at':Nat} {ops:Array Oper} {rest:List Oper} {op:Oper} {a:Act} {w:World} {Q:Exit->Act->World->Prop} {ws:List (Nat × (Nat->Nat))}
theorem Qx {t:TypeId} {d:TypeDesc} {n o:Nat} {V:Nat->Value} (Eg:op.guard=none) (x:Operand) (ho:op.op = .load t x) (hu:Tryz.prog.underlying t=some d) (hd:d.isRow=true) (hi:(Tryz.prog.info? t).map (·.size)=some n)
  (hx:a.eval x = .pointer (some ⟨k,o,none⟩)) (hS:∀ j,j<n->w.cell? ⟨k,o+j,none⟩=some (V j)) (h:wpListIn F m Tryz.prog ops Q rest (a.put op.dst (.agg (zK n V))) w):wpListIn F m Tryz.prog ops Q (op::rest) a w:=by
 refine wpListIn_plain Eg fun K Ii=>?_
 have hr:=run_loadAt_mid (P:=Tryz.prog) w k o t (zK n V).toList d (fun j v hv=>by
  have hj:j<n:=by
   by_cases hj:j<n
   ·exact hj
   ·rw [yB,yo zaj] at hv;cases hv
  rw [yB,Qn hj] at hv;rw [<- yj hv];exact hS j hj) hu hd (by rw [hi,Array.length_toList,ZT])
 rw [Array.toArray_toList] at hr;unfold Oper.wpIn;refine ⟨?_,?_⟩
 ·simp [Oper.about,ho]
 ·rw [Oper.semAt_plain F _ _ (by rw [ho];intro c G7;cases G7)]
  unfold execOp;simp only [ho,hx,Sem.run_bind,hr,Result.andThen];exact Ii _ _ h
theorem YX {W:World} (Eg:op.guard=none) (t:TypeId) (x y:Operand) (ho:op.op = .store t x y) (Z cs:Array Value) (b n:Nat) (hb:b=W.heap.size)
  (hx:a.eval x = zP b) (hy:a.eval y = .agg cs) (hi:(Tryz.prog.info? t).map (·.size)=some n) (hZ:Z.size=n) (hc:cs.size=n) (h1:cs.all (·.oneCell')=true)
  (h:wpListIn F m Tryz.prog ops Q rest (a.put op.dst undef) (W.alloc (.cells cs t))):wpListIn F m Tryz.prog ops Q (op::rest) a (W.alloc (.cells Z t)):=by
 subst hb;refine wpListIn_plain Eg fun K' Ii=>?_;have hr:=run_storeAt_new (P:=Tryz.prog) W t Z cs (by rw [hi,hc]) zo h1;unfold Oper.wpIn;refine ⟨?_,?_⟩
 ·simp [Oper.about,ho]
 ·rw [Oper.semAt_plain F _ _ (by rw [ho];intro c G7;cases G7)]
  unfold execOp;simp only [ho,hx,hy,Sem.run_bind,hr,Result.andThen,Sem.run_pure];exact Ii _ _ h
def kH (ws:List (Nat × (Nat->Nat))) (k:Nat):Array Value:=#[.int .i64 ((ws.length - 1 - k:Nat):Int),.agg (xy (ws[ws.length - 1 - k]!))]
theorem rq (n:Nat) (v:Value) (a:Option Addr) (len cap:Nat) (hv:v = .slice a len cap) (w:World):CallsIn Fence.wide n Tryz.prog 180 #[v] w fun e w'=>e = .returned (.func (.func 219) #[] #[zP w.heap.size])/\w.alloc (.cells #[v] 167)=w':=by
 subst hv;refine callsIn_of_wp Tryz.func180 rfl trivial ?_ rfl;simp only [Tryz.ntmps180,List.size_toArray,yu,List.length_nil,Nat.reduceAdd,Nat.reduceSub,Array.replicate_succ,Array.replicate_zero,List.push_toArray,yE,yy,yK]
 gi_wp2
 go_ret;exact ⟨rfl,rfl⟩
theorem kI (n:Nat) (hn:1<=n) (B0:Nat) (wv:Value) (ws:List (Nat × (Nat->Nat))) (Lw:List Nat) (w:World) (hB:w.cell? ⟨B0,0,none⟩=some wv) (Cc:w.ownsRow 0 229 129 wv ws.length (qa ws)) (h1:B0∉Lw) (h2:∀ g,wv.ownBlock=some g->g∉Lw) (hN:ws.length<=1000000) :
  gZ Fence.wide n Tryz.prog 219 #[zP B0] (kH ws) ws.length Lw w:=by
 intro l J Jx W hW Dt hl hJ U3 hY L7;have KV:B0<w.heap.size:=yc w ⟨B0,0,none⟩ hB;obtain ⟨a,c,Hm,_,_⟩:=XI Cc;obtain ⟨len,B9⟩:=zE ws.length;rw [<- B9] at Hm hY hN ⊢;subst Hm;have R9:=(hW.cell (p:=⟨B0,0,none⟩) KV).trans hB
 have hc:∀ k,k<len->∃ g,a=some ⟨g,0,none⟩/\g<w.heap.size/\g∉Lw/\∀ j,j<129->W.cell? ⟨g,k*129+j,none⟩=some (JZ (ws[k]!) j):=by
  intro k hk;obtain ⟨g,c',e1,_,_,_,EQ,BX⟩:=aE Cc zo;injection e1 with LY UQ UR;subst LY;refine ⟨g,rfl,EQ,h2 g rfl,fun j hj=>?_⟩;rw [getElem!_pos ws k zo];exact (hW.cell (p:=⟨g,k*129+j,none⟩) EQ).trans ((BX _ zo).trans (Qw ws k j zo hj))
 have HC:=zh hc;have HL:=zh B9;clear Cc hB hc B9;refine callsIn_of_wp Tryz.func219 rfl trivial ?_ rfl;simp only [Tryz.ntmps219,List.size_toArray,yu,List.length_nil,Nat.reduceAdd,Nat.reduceSub,Array.replicate_succ,Array.replicate_zero,List.push_toArray,yE,yy,yK]
 gi_wp2
 gi_loopw [3] (fun i wr=>∃ k:Nat,k<=len/\i = .int .i64 ((len:Int) - 1 - (k:Int))/\J k wr/\zv (l::Lw) W wr) (fun i _=>(intOf i+1).toNat)
 case atStart=>exact ⟨0,yg _,zaa,L7,zv.refl _ _⟩
 case round =>
  obtain ⟨k,hk,rfl,PL,IT⟩:=hrel;have:=(IT.cell (p:=⟨B0,0,none⟩) (qe KV hW.size) (by simp only [ya,not_or];exact ⟨zo,h1⟩)).trans R9;by_cases BY:k<len
  ·obtain ⟨fn,tmps,assign,body,hy,hR⟩:=hY k wr PL BY
   obtain ⟨i,hi⟩:=zE (len - 1 - k);have SF:i<len:=zo;obtain ⟨g,rfl,EQ,Gq,Cs⟩:=HC i SF;obtain ⟨xx,GW⟩:=zE (ws[i]!);have DQ:Hd (∀ j,j<129->wr.cell? ⟨g,i*129+j,none⟩=some (JZ xx j)):=zh fun j hj=>by rw [GW];exact (IT.cell (p:=⟨g,i*129+j,none⟩) (qe EQ hW.size) (by simp only [ya,not_or];exact ⟨zo,Gq⟩)).trans (Cs j hj)
   unfold kH at hy;rw [show ((ws.length - 1 - k:Nat):Int)=(i:Int) by rw [hi,HL.o],show ws.length - 1 - k=i by rw [hi,HL.o],<- GW] at hy;rw [show (len:Int) - 1 - (k:Int)=(i:Int) by omega];have:(i:Int)<(len:Int):=zo;have:(0:Int)<=(i:Int):=zo;have HI:Hd ((i:Int)=(len:Int) - 1 - (k:Int)):=zh zo;unfold xy at hy;clear Cs hi GW h2 R9
   gi_wp2_with (refine Qx rfl (.tmp 15) (t:=229) (n:=129) (k:=g) (o:=i*129) (V:=JZ xx) rfl Tryz.underlying229 rfl (by rw [show (Tryz.prog.info? 229).map (·.size)=some 129 from by kernel_rfl]) zag DQ ?_)
   refine hR.mono ?_;rintro e W3 (⟨rfl,U2,Eu⟩ | ⟨rfl,Sa,Eu⟩)
   ·gi_wp2
    go_roundw
    case rel=>exact ⟨k+1,zo,by first | (rw [HI.o];go_num) | go_num,U2,IT.trans Eu⟩
    case measure=>have:=HI.o;simp [intOf]
   ·gi_wp2
    refine bodyPost_ret (results_none rfl _ _ _) rfl ?_;exact ⟨⟨_,rfl⟩,.inr ⟨k+1,zo,Sa⟩⟩
  ·obtain rfl:k=len:=zo
   rw [show (k:Int) - 1 - (k:Int) = -1 by omega]
   gi_wp2
   go_end0
   exact ⟨⟨_,rfl⟩,.inl PL⟩
def qW (ws:List (Nat × (Nat->Nat))) (at':Nat):Nat->Int
 | 0 => -1
 | k+1=>if (ws[k]!).1=at' then (k:Int) else qW ws at' k
theorem dG (ws:List (Nat × (Nat->Nat))) (d:Nat->Nat->Nat) (b:Nat):∀ k,k<=ws.length->qW ws b k<(k:Int) /\ -1<=qW ws b k/\fl d (ws.take k) b=if qW ws b k<0 then d b else (ws[(qW ws b k).toNat]!).2
 | 0,_=>⟨by simp [qW],by simp [qW],by simp [qW,fl]⟩
 | k+1,h=>by
  obtain ⟨h1,h2,h3⟩:=dG ws d b k zo;have hk:k<ws.length:=zo;unfold qW;rw [mt hk];by_cases e:(ws[k]!).1=b
  ·rw [if_pos e]
   refine ⟨zo,zo,?_⟩;rw [getElem!_pos ws k hk] at e
   show (if b=ws[k].1 then ws[k].2 else _)=_
   rw [if_pos e.symm,if_neg zo,yz,getElem!_pos ws k hk]
  ·rw [if_neg e]
   refine ⟨zo,h2,?_⟩;rw [getElem!_pos ws k hk] at e
   show (if b=ws[k].1 then ws[k].2 else _)=_
   rw [if_neg (fun q:b=_=>e q.symm)];exact h3
theorem dH {len i:Nat} {xx:Nat × (Nat->Nat)} (hi:i=len - 1 - k/\xx=ws[i]!) (h:qW ws at' (len - k)=qW ws at' len) (hk:k<len):qW ws at' len=if xx.1=at' then (i:Int) else qW ws at' (len - (k+1)):=by
 obtain ⟨h1,h2⟩:=hi;rw [<- h,show len - k=i+1 by omega,show len - (k+1)=i by omega,h2];rfl
theorem nV {p:Nat} {wv:Value} (hc:w.cell? ⟨p,1,none⟩=some wv) (Cc:w.ownsRow 0 229 129 wv ws.length (qa ws)) (hN:ws.length<=1000000) :
  zC 127 #[.pointer (some ⟨p,1,none⟩),.int .i64 (at':Int)] w fun e w'=>e = .returned (.int .i64 (qW ws at' ws.length))/\zv [] w w':=by
 obtain ⟨a,c,Hm,_,_⟩:=XI Cc;obtain ⟨len,B9⟩:∃ len,len=ws.length:=⟨_,rfl⟩;have HL:=zh B9;rw [<- B9] at Hm hN ⊢;have F0:p<w.heap.size:=yc w ⟨p,1,none⟩ hc;have cb:CallsIn Fence.wide 5 Tryz.prog 180 #[.slice a len c] ((w.alloc (.cells #[zI at'] 3)).alloc (.cells #[.int .i64 0] 3)) _:=rq 5 (.slice a len c) a len c rfl _;have HR:=zh Cc;subst Hm;clear Cc B9;refine (callsIn_wide (n:=6)).1 ?_;refine callsIn_of_wp_marks Tryz.func127 rfl trivial ?_ rfl;simp only [Tryz.ntmps127,List.size_toArray,yu,List.length_nil,Nat.reduceAdd,Nat.reduceSub,Array.replicate_succ,Array.replicate_zero,List.push_toArray,yE,yy,yK]
 gi_wp2
 refine ⟨trivial,?_⟩;refine cb.mono ?_;rintro e w' ⟨rfl,rfl⟩;clear cb
 gi_wp2
 obtain ⟨W0,D4⟩:∃ W0,W0=((w.alloc (.cells #[zI at'] 3)).alloc (.cells #[.int .i64 0] 3)).alloc (.cells #[.slice a len c] 167):=⟨_,rfl⟩;have Dv:zv [] w W0:=by rw [D4];exact (((zv.refl [] w).alloc _).alloc _).alloc _
 have F6:W0.heap.size=w.heap.size+3:=by rw [D4];simp
 have k0:W0.heap[w.heap.size]?=some (.cells #[zI at'] 3 (0,0)):=by rw [D4,Below.heap_alloc _ _ _ (by simp;omega)];exact kC _ _ _
 have k1:W0.heap[w.heap.size+1]?=some (.cells #[.int .i64 0] 3 (0,0)):=by rw [D4,Below.heap_alloc _ _ _ (by simp)];exact cZ _ _ _
 have k2:W0.cell? ⟨w.heap.size+2,0,none⟩=some (.slice a len c):=by
  have:W0.heap[w.heap.size+2]?=some (.cells #[.slice a len c] 167 (0,0)):=by
   rw [D4];have:=heap_alloc_new ((w.alloc (.cells #[zI at'] 3)).alloc (.cells #[.int .i64 0] 3)) (.cells #[.slice a len c] 167);simpa using this
  exact (zM this 0).trans rfl
 rw [<- D4];clear D4;obtain ⟨s,hs⟩:∃ s,s=w.heap.size:=⟨_,rfl⟩;rw [<- hs] at k0 k1 k2 F6 ⊢;have hpl':p<s:=by omega
 have DQ:=zh Dv;have HS:=zh hs;have Rl:W0.ownsRow 0 229 129 (.slice a len c) ws.length (qa ws):=Xg HR.o Dv (by simp)
 have DN:=kI 5 (by omega) (s+1+1) (.slice a len c) ws [s+1] W0 k2 Rl (by simp) (fun g hg hm=>by
  simp only [zms] at hm;have:=(HR.o.lt g hg).2;omega) (by rw [<- HL.o];exact hN)
 rw [<- HL.o] at DN;clear Dv hs hc Rl k2
 refine ZY rfl (by omega) (gf:=219) (lb:=#[zP (s+1+1)]) rfl trivial (enters_of Tryz.func219 (by kernel_rfl) rfl) DN (by simp;omega) (fun _=>rfl)
  (fun k W=>zv [] W0 W/\k<=len/\qW ws at' (len - k)=qW ws at' len)
  (fun c k W=>c = .ret/\∃ i:Nat,zv [s+1] W0 W/\W.heap[s+1]?=some (.cells #[zI i] 3 (0,0))/\qW ws at' len=(i:Int))
  (fun k A B h Cq=>⟨h.1.afar Cq,h.2⟩)
  (fun c k A B h Cq=>by
   obtain ⟨rfl,i,h1,h2,h3⟩:=h;exact ⟨rfl,i,h1.afar Cq,(Cq.block _ (by omega)).trans h2,h3⟩)
  ⟨zv.refl _ _,yg _,by rw [Nat.sub_zero]⟩ ?round ?done ?stop
 case round =>
  intro l k W Dj DI hI hk;obtain ⟨ET,N1,K8⟩:=hI;have b0:=(ET.block s (by omega) (by simp)).trans k0;have b1:=(ET.block (s+1) (by omega) (by simp)).trans k1;unfold kH;obtain ⟨i,hi⟩:∃ i,i=ws.length - 1 - k:=⟨_,rfl⟩;rw [<- hi];obtain ⟨xx,GW⟩:∃ xx,xx=ws[i]!:=⟨_,rfl⟩;rw [<- GW];have HI:Hd (i=len - 1 - k/\xx=ws[i]!):=zh ⟨by rw [hi,HL.o],GW⟩;have HB:=zh (zA b0 b1);have HX:=zh (zA ET K8);clear hi GW b0 b1 ET K8 k0 k1
  gi_wp2_with (refine YX rfl 229 (.tmp 6) (.tmp 13) rfl _ (xy xx) _ 129 rfl rfl rfl (by kernel_rfl) (by rw [fP,xy,ZT]) (by rw [xy,ZT]) (XJ _) ?_)
  refine ⟨((zv.refl [] W).alloc _).mo,fun W2 BW=>?_⟩;have Ci:zv [l] W W2:=(((zv.refl [] W).alloc (.cells (xy xx) 229)).mo).trans BW;have b0:=(Ci.block s (by omega) (by simp;omega)).trans HB.o.1;have b1:=(Ci.block (s+1) (by omega) (by simp;omega)).trans HB.o.2;have bw:=(BW.block W.heap.size (by simp) (by simp;omega)).trans (xo W (.cells (xy xx) 229));have d0:W2.cell? ⟨W.heap.size,0,none⟩=some (zI xx.1):=(zM bw 0).trans (by rw [xy,Qn (by omega)];rfl);have d1:W2.cell? ⟨s,0,none⟩=some (zI at'):=(zM b0 0).trans rfl;have d2:W2.cell? ⟨s+1,0,none⟩=some (.int .i64 0):=(zM b1 0).trans rfl;have f2:=xB b1 0;have hlW:=zz b1;have Cj:=zh Ci;have IN:=zh b1;clear b0 b1 bw Ci BW;by_cases DT:xx.1=at'
  ·have j1:((xx.1:Int)==(at':Int))=true:=by simp [DT]
   have HA:=zh DT;have j2:(xx.1:Int)=(at':Int):=by omega
   clear DT
   gi_wp2
   have hl:=dH HI.o HX.o.2 hk;rw [if_pos HA.o] at hl;exact ⟨(zv.refl [s+1] W2).setCell (.inl (by simp)) _,rfl,i,((HX.o.1.then Cj.o (fun q hq=>by simp only [zms] at hq;subst hq;exact .inr Dj)).mo).setCell (.inl (by simp)) _,Yh IN.o 0 _,hl⟩
  ·have j1:¬ (xx.1:Int)=(at':Int):=by omega
   have HA:=zh DT;clear DT
   gi_wp2
   have hl:=dH HI.o HX.o.2 hk;rw [if_neg HA.o] at hl;exact ⟨zv.refl _ _,HX.o.1.then Cj.o (fun q hq=>by simp only [zms] at hq;subst hq;exact .inr Dj),by omega,hl.symm⟩
 case done =>
  rintro D W hD ⟨hc,_,K8⟩ hK;have b1:=(hc.block (s+1) (by omega) (by simp)).trans k1;have d2:W.cell? ⟨s+1,0,none⟩=some (.int .i64 0):=(zM b1 0).trans rfl;have f2:=xB b1 0;have hlW:=zz b1
  gi_wp2
  have Ii:(W.setCell ⟨s+1,0,none⟩ (.int .i64 (-1))).heap[D]?=some (.deferred (some [])):=(ZS 0 _ (by omega)).trans hK;have hR:=(World.putObj_heap_other (w:=W.setCell ⟨s+1,0,none⟩ (.int .i64 (-1))) (o := .deferred none) (show s+1≠D by omega)).trans (Yh b1 0 (.int .i64 (-1)));have TZ:qW ws at' len = -1:=by rw [<- K8,Nat.sub_self];rfl
  refine ⟨by simp,.inl ⟨_,_,rfl,run_takeDeferred Ii,?_⟩⟩;have cR:((W.setCell ⟨s+1,0,none⟩ (.int .i64 (-1))).putObj D (.deferred none)).cell? ⟨s+1,0,none⟩=some (.int .i64 (-1)):=(zM hR 0).trans rfl;refine ⟨.int .i64 (-1),by simp [results,Tryz.results127,go_sem,cR],by rw [TZ],?_⟩;exact DQ.o.then (((hc.mono (L':=[s+1]) (by simp)).setCell (p:=⟨s+1,0,none⟩) (.inl (by simp)) (.int .i64 (-1))).then (Yd (.deferred none)) (fun q hq=>by simp only [zms] at hq;subst hq;exact .inr hD)) (fun q hq=>by simp only [zms] at hq;subst hq;exact .inr (by have:=HS.o;omega))
 case stop =>
  rintro D c k W hD hk ⟨rfl,i,hc,hb,K8⟩ hK
  gi_wp2
  have hR:=(World.putObj_heap_other (w:=W) (o := .deferred none) (show s+1≠D by omega)).trans hb;refine ⟨by simp,.inl ⟨_,_,rfl,run_takeDeferred hK,?_⟩⟩;have cR:(W.putObj D (.deferred none)).cell? ⟨s+1,0,none⟩=some (zI i):=(zM hR 0).trans rfl;refine ⟨zI i,by simp [results,Tryz.results127,go_sem,cR],by rw [K8],?_⟩;exact (DQ.o.then (hc.then (Yd (.deferred none)) (fun q hq=>by simp only [zms] at hq;subst hq;exact .inr hD)) (fun q hq=>by simp only [zms] at hq;subst hq;exact .inr (by have:=HS.o;omega)))
end Go.Proofs.YtegpiomkmfhadaaGreat
namespace Go.Proofs.YtegpiomkmfhadaaGreat
open Go.RowKit
variable {w:World} {p bb:Nat} {wv:Value} {D:Dk}
theorem g7 {V:Nat->Value} {f:zF} : zK 128 (laid V (fun i => .int .u8 (f i:Int)) 0 128)=Y7 128 f:=by
 apply yM;intro i;by_cases hi:i<128
 ·rw [Qn hi,xL hi]
  unfold laid;rw [if_pos zo,Nat.sub_zero]
 ·rw [yo zaj,yo (by simp [Y7];omega)]
structure ZG (w:World) (p bb cap:Nat) (wv:Value) (D:Dk):Prop where
 n1:1<=D.n
 n2:D.n<=4096
 le:∀ b,b<D.n->∀ i,i<128->D.data b i<=255
 cp:D.n<=cap/\cap<=9223372036854775807
 top:w.heap[p]?=some (.cells #[zS bb D.n cap,wv,.int .i64 (-1),.bool false] 171 (0,0))
 ty:∃ BV,w.heap[bb]?=some (.cells BV 227 (0,0))
 blk:∀ b,b<D.n->∀ i,i<128->w.cell? ⟨bb,b*128+i,none⟩=some (.int .u8 (D.data b i:Int))
 wts:w.ownsRow 0 229 129 wv D.waits.length (qa D.waits)
 wle:∀ x,x∈D.waits->x.1<D.n/\∀ i,i<128->x.2 i<=255
 wl:D.waits.length<=1000000
theorem xE.rd (h:xE w p bb wv D):ZG w p bb D.n wv D :=
  { n1:=h.n1,n2:=h.n2,le:=h.le,cp:=⟨xd _,by have:=h.n2;omega⟩,top:=h.top,ty:=⟨_,h.blk⟩,wts:=h.wts,wle:=h.wle,wl:=h.wl,
    blk:=fun b hb i hi=>by
      rw [zM h.blk,JG,xL zo];rw [show (b*128+i) / 128=b by omega,show (b*128+i) % 128=i by omega] }
def Dk.rd (D:Dk) (b:Nat):Nat->Nat:=fl D.data D.waits b
section
variable {w w':World} {p bb cap:Nat} {wv:Value} {D:Dk}
theorem ZG.chg {L:List Nat} (h:ZG w p bb cap wv D) (c:zv L w w') (h1:p∉L:=by simp) (h2:bb∉L:=by simp) (h3:∀ k,wv.ownBlock=some k->k∉L:=by simp):ZG w' p bb cap wv D:=by
 obtain ⟨BV,Gl⟩:=h.ty;exact { h with top:=(c.block p (zz h.top) h1).trans h.top,ty:=⟨BV,(c.block bb (zz Gl) h2).trans Gl⟩,blk:=fun b hb i hi=>(c.cell (p:=⟨bb,b*128+i,none⟩) (zz Gl) h2).trans (h.blk b hb i hi),wts:=Xg h.wts c h3 }
theorem ZG.rd_le (h:ZG w p bb cap wv D) {b:Nat} (hb:b<D.n):∀ i,i<128->D.rd b i<=255:=gY (d:=D.data) _ _ h.le (fun x hx=>(h.wle x hx).2) b hb
theorem rt (h:ZG w p bb cap wv D):zC 126 #[zP p] w fun e w'=>e = .returned (.int .i64 0)/\w=w':=by
 have ht:=h.top;obtain ⟨c0,c1,c2,c3⟩:=pW ht;have:=Lib.run_eql_slice_nil (P:=Tryz.prog) w 164 227 (some ⟨bb,0,none⟩) D.n cap 0 0 Tryz.underlying164;go_enter Tryz.func126,Tryz.ntmps126;go_wp2_with fail;go_ret;exact ⟨rfl,rfl⟩
theorem ia (h:ZG w p bb cap wv D):zC 85 #[zP p] w fun e w'=>e = .returned (.int .i64 (D.n:Int))/\w=w':=by
 have ht:=h.top;obtain ⟨c0,c1,c2,c3⟩:=pW ht;go_enter Tryz.func85,Tryz.ntmps85;go_wp2_with fail;go_ret;exact ⟨rfl,rfl⟩
end
theorem J2 {cap at':Nat} (h:ZG w p bb cap wv D) (ha:at'<D.n) :
  zC 76 #[zP p,.int .i64 (at':Int)] w fun e w'=>e = .returned (.tuple #[zS w.heap.size 128 128,.int .i64 0])/\w'.heap[w.heap.size]?=some (.cells (Y7 128 (D.rd at')) 5 (0,0))/\zv [] w w':=by
 have ht:=h.top;have cm:=rt h;have EA:(Instr.makeSlice 81 (.int .i64 128) (.int .i64 128)).run Tryz.prog w = .ok (zS w.heap.size 128 128) (w.alloc (.cells (zO 128 (.int .u8 0)) 5)):=xW (P:=Tryz.prog) 81 5 Tryz.underlying81 X7 rfl .i64 .i64 128 zo zo w;rw [ZW] at EA;have:¬ (at':Int)<0:=zo
 have:(at':Int)<(D.n:Int):=zo;have HH:=zh h;obtain ⟨c0,c1,c2,c3⟩:=pW ht;clear h ht;go_enter Tryz.func76,Tryz.ntmps76;go_wp2_with fail;refine zm cm ?_;clear cm;go_upto_region 7 with fail;have B5:=(zv.refl [] w).alloc (.cells (Y7 128 (fun _=>0)) 5);have hx:=xo w (.cells (Y7 128 (fun _=>0)) 5);generalize w.alloc (.cells (Y7 128 (fun _=>0)) 5)=W at *;have HD:=zh (HH.chg B5);have HC:=zh B5;have HX:=zh hx;have ht:=HD.top;clear c0 c1 c2 c3 B5 hx EA;obtain ⟨c0,c1,c2,c3⟩:=pW ht;have cl:=nV (at':=at') c1 HD.wts HD.wl;clear ht;go_wp2_with fail;refine cl.mono ?_;rintro e w2 ⟨rfl,BW⟩;have Tt:=zh (HD.chg BW);have Fd:=zh (BW.kp HX);have BZ:=zh (HC.trans BW);clear BW cl c0 c1 c2 c3;have ht:=Tt.top;obtain ⟨a,c,Hm,_,_⟩:=XI Tt.wts;obtain ⟨n,hn⟩:=zE D.waits.length;rw [<- hn] at Hm ⊢;rw [Hm] at ht;have HWV:=zh Hm;have HN:=zh hn;obtain ⟨l1,l2,l3⟩:=dG D.waits D.data at' n zo;rw [hn,List.take_length] at l3;obtain ⟨ix,K8⟩:=zE (qW D.waits at' n);rw [<- hn] at l3;rw [<- K8] at l1 l2 l3 ⊢;have Uw:=zh l3;obtain ⟨c0,c1,c2,c3⟩:=pW ht;clear ht Hm hn K8 l3
 by_cases hi:ix<0
 ·rw [if_pos hi] at Uw
  have i1:¬ (0:Int)<=ix:=zo;go_wp2_with (refine YV rfl (.tmp 45) (.tmp 53) 81 81 rfl 5 Tryz.underlying81 zab w.heap.size 0 128 128 (some ⟨bb,at'*128,none⟩) 128 128 rfl rfl 128 (fun _ => .int .u8 0) 5 Fd 128 zaf (fun i => .int .u8 (D.data at' i:Int)) (fun _=>⟨bb,at'*128,rfl,fun j hj=>Tt.blk at' ha j hj⟩) (fun j _=>rfl) zo ?_;intro w3 HF3 Cj;have Cj:=zh Cj);have hf:=HF3.o;rw [g7] at hf;refine bodyPost_ret (v := .tuple #[zS w.heap.size 128 128,.int .i64 0]) (by simp [results,Tryz.results76,go_sem]) rfl ⟨rfl,?_,BZ.tn Cj (xd _)⟩;rw [hf];unfold Dk.rd;rw [Uw.o]
 ·rw [if_neg hi] at Uw
  obtain ⟨i,rfl⟩:∃ i:Nat,ix=(i:Int):=⟨ix.toNat,zo⟩;rw [yz] at Uw;have Cm:i<D.waits.length:=zq HN.o;obtain ⟨g,cg,e1,_,_,_,EQ,BX⟩:=aE Tt.wts zo;rw [HWV.o] at e1;injection e1 with LY UQ UR;subst LY
  have HCE:Hd (∀ j,j<128->w2.cell? ⟨g,i*129+1+j,none⟩=some (.int .u8 ((D.waits[i]!).2 j:Int))):=zh fun j hj=>by
   rw [show i*129+1+j=i*129+(1+j) by omega];refine (BX _ zo).trans ((Qw D.waits i (1+j) Cm zo).trans ?_);unfold JZ;rw [if_neg zo,yA,getElem!_pos D.waits i Cm]
  have i1:(0:Int)<=(i:Int):=zo;have:(i:Int)<(n:Int):=zq HN.o;clear BX UQ UR hi;go_wp2_with (refine YV rfl (.tmp 34) (.tmp 43) 81 81 rfl 5 Tryz.underlying81 zab w.heap.size 0 128 128 (some ⟨g,i*129+1,none⟩) 128 128 rfl rfl 128 (fun _ => .int .u8 0) 5 Fd 128 zaf (fun j => .int .u8 ((D.waits[i]!).2 j:Int)) (fun _=>⟨g,i*129+1,rfl,fun j hj=>HCE j hj⟩) (fun j _=>rfl) zo ?_;intro w3 HF3 Cj;have Cj:=zh Cj);have hf:=HF3.o;rw [g7] at hf;refine bodyPost_ret (v := .tuple #[zS w.heap.size 128 128,.int .i64 0]) (by simp [results,Tryz.results76,go_sem]) rfl ⟨rfl,?_,BZ.tn Cj (xd _)⟩;rw [hf];unfold Dk.rd;rw [Uw.o]
end Go.Proofs.YtegpiomkmfhadaaGreat
