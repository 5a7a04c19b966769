/- Layers 14 and on, in plain words: a node taken out of its tree, and laid back as another. · Layer 14's path in plain words. · Layer 13's statements: trees that Build makes; the examples' tree. · Layer 14 and on, in plain words: a list of roots, whose trees all tell the same. · A map from bytes to values of any kind in memory (printed by mkkmu.py). · Layer 13's statements: the chapter's examples; a tree of any items. -/
import Derived.Test.YtkhcaclndepgbaaGreatZn41
set_option linter.unusedVariables false
set_option linter.unusedSimpArgs false
set_option maxRecDepth 100000
set_option maxHeartbeats 20000000
namespace Go.Proofs.YtkhcaclndepgbaaGreat
section
variable {N G:Nat} {B:Bs} {ht:Ht} {pend:Nat->Nat}
theorem occ_zero {d:Nd} {b:Nat} (h:∀ i,i<d.n->d.v i≠b):occ d b=0:=by
 by_cases e:0<occ d b
 ·obtain ⟨i,hi,q⟩:=occ_pos e
  exact absurd q (h i hi)
 ·omega
theorem refs_cut {x:Nat} {d:Nd} {c:Nat} (hN:x<N) (hx:ht x=some c) (hd:B.nodeI (x:Int)=some d) (b:Nat):Refs B (updH ht x none) N b+occ d b=Refs B ht N b:=by
 have:=sumTo_upd (f:=refsF B ht b) (g:=refsF B (updH ht x none) b) (k:=x) (n:=N) hN (fun i _ hi=>by unfold refsF;rw [updH_ne hi]);have h0:refsF B ht b x=occ d b:=by unfold refsF;rw [hx,hd];rfl
 have h1:refsF B (updH ht x none) b x=0:=by unfold refsF;rw [updH_same];rfl
 rw [h0,h1] at this;unfold Refs;omega
theorem Gr.detach (g:Gr N G B ht pend) {x c:Nat} {d:Nd} (hx:ht x=some c) (hd:B.nodeI (x:Int)=some d) (hz:Refs B ht N x=0) :
  Gr N G B (updH ht x none) (fun b=>pend b+occ d b)/\Refs B (updH ht x none) N x=0/\NdAt N (updH ht x none) c d/\occ d x=0:=by
 obtain ⟨hN,hl,d0,hd0,nd⟩:=g.node x c hx;obtain rfl:d=d0:=Option.some.inj (hd.symm.trans hd0);have hrf:=refs_cut hN hx hd;have ho:occ d x=0:=g.refs_node hx hd hz;refine ⟨⟨g.good,fun n h hn=>?_,fun b b2 bN=>?_⟩,by have:=hrf x;omega,nd.congr fun i hi=>updH_ne fun q=>(by have:=occ_of hi q;omega),ho⟩
 ·have e:n≠x:=fun q=>by rw [q,updH_same] at hn;cases hn
  rw [updH_ne e] at hn;obtain ⟨a1,a2,d',a3,a4⟩:=g.node n h hn;refine ⟨a1,a2,d',a3,a4.congr fun i hi=>updH_ne fun q=>?_⟩;have h1:=Refs_ge (N:=N) a1 hn a3 x;have h2':=occ_of hi q;omega
 ·have h0:=g.ref b b2 bN
  have:=hrf b;rw [<- h0]
  show pend b+occ d b+_=_
  omega
theorem Gr.relay (g:Gr N G B ht pend) {x h:Nat} (hN:x<N) (hl:B.live x=true) (hx:ht x=none) (hz:Refs B ht N x=0) (hfr:(B.fr x).isSome=true) {f:Nat->Nat} (hf:∀ i,i<128->f i<=255) {d:Nd} (hd:decN f=some d) (nd:NdAt N ht h d) (hox:occ d x=0) {p:Nat->Nat} (hp:∀ b,2<=b->b<N->pend b=p b+occ d b) :
  Gr N G (B.over x f) (updH ht x (some h)) p/\(B.over x f).nodeI (x:Int)=some d/\(∀ n:Nat,n≠x->(B.over x f).nodeI (n:Int)=B.nodeI (n:Int))/\(B.over x f).room=B.room/\(∀ b,Refs (B.over x f) (updH ht x (some h)) N b=Refs B ht N b+occ d b):=by
 have h2:=g.two hl hN;have g2:=g.good.over_ hfr hf
 have hnd:(B.over x f).nodeI (x:Int)=some d:=by
  have:(B.over x f).nodeI (x:Int)=decN f:=by
   unfold Bs.nodeI;rw [if_pos (inI_iff.2 ⟨by omega,by show (x:Int)<(B.T.n:Int);rw [g.good.n];omega⟩),Int.toNat_natCast];congr 1;unfold Bs.read Bs.over;simp
  rw [this,hd]
 have hkn:∀ n:Nat,n≠x->(B.over x f).nodeI (n:Int)=B.nodeI (n:Int):=fun n hn=>nodeI_of (B:=B) (B':=B.over x f) rfl (by unfold Bs.read Bs.over;simp [hn])
 have hrf:∀ b,Refs (B.over x f) (updH ht x (some h)) N b=Refs B ht N b+occ d b:=fun b=>by
  have:=sumTo_upd (f:=refsF B ht b) (g:=refsF (B.over x f) (updH ht x (some h)) b) (k:=x) (n:=N) hN (fun i _ hi=>by unfold refsF;rw [updH_ne hi,hkn i hi]);have h0:refsF B ht b x=0:=by unfold refsF;rw [hx];rfl
  have h1:refsF (B.over x f) (updH ht x (some h)) b x=occ d b:=by unfold refsF;rw [updH_same,hnd];rfl
  rw [h0,h1] at this;unfold Refs;omega
 refine ⟨⟨g2,fun n h' hn=>?_,fun b h2b hNb=>?_⟩,hnd,hkn,rfl,hrf⟩
 ·by_cases e:n=x
  ·subst e
   rw [updH_same] at hn;obtain rfl:h=h':=Option.some.inj hn;exact ⟨hN,hl,d,hnd,nd.congr fun i hi=>updH_ne fun q=>by have:=occ_of hi q;omega⟩
  ·rw [updH_ne e] at hn
   obtain ⟨a1,a2,d',a3,a4⟩:=g.node n h' hn;refine ⟨a1,a2,d',by rw [hkn n e];exact a3,a4.congr fun i hi=>updH_ne fun q=>?_⟩;have h1:=Refs_ge (N:=N) a1 hn a3 x;have h2':=occ_of hi q;omega
 ·have h0:=g.ref b h2b hNb
  have hpb:=hp b h2b hNb;rw [hrf]
  show p b+_=if B.live b=true then B.T.now b else 0
  omega
end
structure Work (N G:Nat) (B:Bs) (ht:Ht) (pend:Nat->Nat) (x c:Nat) (d:Nd) (y:Nat) (B1:Bs) (ht1:Ht) (P:Nat->Nat) (B2:Bs) (ht2:Ht):Prop where
 own:Owned N G B ht pend x c d y B1 ht1
 gr:Gr N G B2 ht2 P
 kp:Kpt N B1 (updH ht1 y none) B2 ht2 (mor (les pend x) y)
 one:P y=1
section
variable {N G:Nat} {B:Bs} {ht:Ht} {pend:Nat->Nat} {x c y:Nat} {d:Nd} {B1 B2:Bs} {ht1 ht2:Ht} {P:Nat->Nat}
theorem Owned.low (o:Owned N G B ht pend x c d y B1 ht1):les pend x y=0/\y<N/\B1.live y=true/\(B1.fr y).isSome=true/\2<=y:=by
 obtain ⟨hN,hl⟩:=o.gr.lt o.top;have h2:=o.gr.two hl hN;obtain ⟨_,_,hf,h1,_⟩:=Bs.isI_iff o.is;rw [o.gr.getV hN] at h1;rw [Int.toNat_natCast] at hf;have hr:=o.gr.ref y h2 hN;rw [hl,if_pos rfl,o.refs] at hr;unfold mor at hr;rw [if_pos rfl] at hr;exact ⟨by omega,hN,hl,hf,h2⟩
theorem Owned.work (o:Owned N G B ht pend x c d y B1 ht1):Work N G B ht pend x c d y B1 ht1 (fun b=>mor (les pend x) y b+occ d b) B1 (updH ht1 y none)/\NdAt N (updH ht1 y none) c d:=by
 obtain ⟨a,b,nd,e⟩:=o.gr.detach o.top o.node o.refs;refine ⟨⟨o,a,Kpt.refl _ _ _ _,?_⟩,nd⟩
 show mor (les pend x) y y+_=1
 unfold mor;rw [if_pos rfl,o.low.1,e]
theorem Work.at_ (W:Work N G B ht pend x c d y B1 ht1 P B2 ht2):y<N/\B2.live y=true/\ht2 y=none/\Refs B2 ht2 N y=0/\(B2.fr y).isSome=true/\B2.nodeI (y:Int)=some d/\B2.isI (y:Int)=true:=by
 obtain ⟨l0,hN,hl,hf,h2⟩:=W.own.low;have hr:=(W.own.gr.detach W.own.top W.own.node W.own.refs).2.1;obtain ⟨a1,a2,a3,a4,a5⟩:=W.kp.lone y hN hl updH_same hr (by unfold mor;rw [if_pos rfl];omega);have hd:B2.nodeI (y:Int)=some d:=a3.trans W.own.node;have hf2:(B2.fr y).isSome=true:=by rw [a4];exact hf
 refine ⟨hN,a2,a1,a5,hf2,hd,W.gr.isI_of hN hf2 ?_ hd⟩;have:=W.gr.ref y h2 hN;rw [a2,if_pos rfl,a5,W.one] at this;omega
theorem Work.next (W:Work N G B ht pend x c d y B1 ht1 P B2 ht2) {B3:Bs} {ht3:Ht} {Q p:Nat->Nat} (g:Gr N G B3 ht3 Q) (k:Kpt N B2 ht2 B3 ht3 p) (hp:∀ b,1<=mor (les pend x) y b->1<=p b) (h1:Q y=1):Work N G B ht pend x c d y B1 ht1 Q B3 ht3 :=
 ⟨W.own,g,W.kp.trans k hp,h1⟩
structure LaidN (N G:Nat) (B:Bs) (ht:Ht) (pend:Nat->Nat) (x c y:Nat) (d':Nd) (B2:Bs) (ht2:Ht) (p:Nat->Nat) (B3:Bs) (ht3:Ht):Prop where
 gr:Gr N G B3 ht3 p
 top:ht3 y=some c
 node:B3.nodeI (y:Int)=some d'
 refs:Refs B3 ht3 N y=0
 kp:Kpt N B ht B3 ht3 (les pend x)
 room:B3.room=B2.room
 n:B3.T.n=B2.T.n
 keep:∀ r k,ht2 r=some k->ht3 r=some k/\SameT B2 B3 (k % 100) r r
 rest:∀ n:Nat,n≠y->B3.nodeI (n:Int)=B2.nodeI (n:Int)
theorem Work.lay (W:Work N G B ht pend x c d y B1 ht1 P B2 ht2) {f:Nat->Nat} (hf:∀ i,i<128->f i<=255) {d':Nd} (hd:decN f=some d') (nd:NdAt N ht2 c d') {p:Nat->Nat} (hp:∀ b,2<=b->b<N->P b=p b+occ d' b) (h1:1<=p y) (hv:∀ b,1<=les pend x b->ht2 b=none->Refs B2 ht2 N b=0->occ d' b=0) :
  LaidN N G B ht pend x c y d' B2 ht2 p (B2.over y f) (updH ht2 y (some c)):=by
 obtain ⟨yN,yl,yh,yr,yf,yd,yi⟩:=W.at_;obtain ⟨l0,_,_,_,h2⟩:=W.own.low;have hox:occ d' y=0:=by have:=hp y h2 yN;have:=W.one;omega
 obtain ⟨g3,n3,k3,r3,f3⟩:=W.gr.relay yN yl yh yr yf hf hd nd hox hp;have hne:∀ r k,ht2 r=some k->r≠y:=fun r k h q=>by rw [q,yh] at h;cases h
 have keep:∀ r k,ht2 r=some k->updH ht2 y (some c) r=some k/\SameT B2 (B2.over y f) (k % 100) r r:=fun r k h =>
  ⟨by rw [updH_ne (hne r k h)];exact h,W.gr.tree (by rw [g3.good.n,W.gr.good.n]) W.gr.refs_one (fun n hn _=>k3 n (fun q=>by rw [q,yh] at hn;cases hn)) h (W.gr.ne1 h)⟩
 refine ⟨g3,updH_same,n3,by rw [f3,yr,hox],W.own.kp.trans (p':=les pend x) ⟨fun r k hr hpr=>?_,fun b bN bl bh br bp=>?_,fun n k hn=>?_⟩ (fun b h=>h),r3,rfl,keep,k3⟩
 ·have hry:r≠y:=fun q=>by rw [q,l0] at hpr;omega
  obtain ⟨a1,a2⟩:=W.kp.tree r k (by rw [updH_ne hry];exact hr) (by unfold mor;omega);obtain ⟨b1,b2⟩:=keep r k a1;exact ⟨b1,a2.trans b2⟩
 ·have hby:b≠y:=fun q=>by rw [q,W.own.top] at bh;cases bh
  have hc:=refs_cut (N:=N) (by exact yN) W.own.top W.own.node b;obtain ⟨a1,a2,a3,a4,a5⟩:=W.kp.lone b bN bl (by rw [updH_ne hby];exact bh) (by omega) (by unfold mor;omega);refine ⟨by rw [updH_ne hby];exact a1,a2,by rw [k3 b hby];exact a3,?_,by rw [f3,a5,hv b bp a1 a5]⟩
  show (if b=y then some f else B2.fr b)=B1.fr b
  rw [if_neg hby,a4]
 ·by_cases e:n=y
  ·subst e;rw [updH_same] at hn;exact ⟨_,W.own.top.trans hn⟩
  ·rw [updH_ne e] at hn
   obtain ⟨m,hm⟩:=W.kp.sub n k hn;have hmy:m≠y:=fun q=>by rw [q,updH_same] at hm;cases hm
   rw [updH_ne hmy] at hm;exact ⟨m,hm⟩
end
structure Pathd (N G:Nat) (B:Bs) (ht:Ht) (pend:Nat->Nat) (x c y:Nat) (B':Bs) (ht':Ht):Prop where
 gr:Gr N G B' ht' (mor (les pend x) y)
 top:ht' y=some c
 same:SameT B B' (c % 100) x y
 kp:Kpt N B ht B' ht' (les pend x)
 room:B.room - (c+1)<=B'.room
 new:y≠x->ht y=none
section
variable {N G:Nat} {B:Bs} {ht:Ht} {pend:Nat->Nat} {x c y z:Nat} {d:Nd} {B1 B2:Bs} {ht1 ht2:Ht}
theorem Owned.pathd (o:Owned N G B ht pend x c d y B1 ht1):Pathd N G B ht pend x c y B1 ht1:=⟨o.gr,o.top,o.same,o.kp,by have:=o.room;omega,fun h=>(o.new h).1⟩
theorem occ_upd {d d':Nd} {i z:Nat} (hi:i<d.n) (en:d'.n=d.n) (ev:∀ j,j<d.n->d'.v j=if j=i then z else d.v j) (b:Nat):occ d' b+(if d.v i=b then 1 else 0)=occ d b+(if z=b then 1 else 0):=by
 have:=cnt_upd (q:=fun j=>decide (d'.v j=b)) (p:=fun j=>decide (d.v j=b)) (n:=d.n) hi (fun j hj hn=>by rw [ev j hj,if_neg hn]);rw [ev i hi,if_pos rfl] at this;simp only [decide_eq_true_eq] at this;unfold occ;rw [en];exact this
theorem occ_two {d:Nd} {i j:Nat} (hi:i<d.n) (hj:j<d.n) (hij:i≠j) (e:d.v i=d.v j):2<=occ d (d.v j):=by
 have h2:=cnt_upd (p:=fun k=>decide (d.v k=d.v j)) (q:=fun k=>decide (k≠j/\d.v k=d.v j)) (n:=d.n) hj (fun k hk hn=>by simp [hn]);have h3:=cnt_upd (p:=fun k=>decide (k≠j/\d.v k=d.v j)) (q:=fun k=>decide (k≠i/\k≠j/\d.v k=d.v j)) (n:=d.n) hi (fun k hk hn=>by simp [hn]);simp [e,hij] at h2 h3;unfold occ;omega
theorem Owned.path_work (o:Owned N G B ht pend x (c+1) d y B1 ht1) {i:Nat} (hi:i<d.n) (q:Pathd N G B1 (updH ht1 y none) (fun b=>mor (les pend x) y b+occ d b) (d.v i) c z B2 ht2) :
  Work N G B ht pend x (c+1) d y B1 ht1 (mor (les (fun b=>mor (les pend x) y b+occ d b) (d.v i)) z) B2 ht2/\z≠y:=by
 obtain ⟨W,nd⟩:=o.work;have hpv:1<=occ d (d.v i):=occ_of hi rfl;have hoy:occ d y=0:=(o.gr.detach o.top o.node o.refs).2.2.2;have hvy:d.v i≠y:=fun e=>by rw [<- e] at hoy;omega
 have hzy:z≠y:=fun e=>by
  have h1:=q.kp.lone y o.low.2.1 o.low.2.2.1 updH_same (o.gr.detach o.top o.node o.refs).2.1 (by unfold les;rw [if_neg (fun h=>hvy h.symm)];show 1<=mor _ y y+_ - 0;unfold mor;rw [if_pos rfl];omega);rw [<- e,q.top] at h1;cases h1.1
 have hP1:mor (les pend x) y y+occ d y=1:=W.one
 refine ⟨W.next q.gr q.kp (fun b hb=>by
  unfold les
  split
  ·rename_i e;subst e;show 1<=mor (les pend x) y (d.v i)+occ d (d.v i) - 1;omega
  ·show 1<=mor _ y b+_ - 0;unfold les at hb;omega) (by
  unfold mor;rw [if_neg (fun h=>hzy h.symm)]
  show les _ (d.v i) y+0=1
  unfold les;rw [if_neg (fun h=>hvy h.symm)];exact hP1),hzy⟩
theorem Owned.path_step (o:Owned N G B ht pend x (c+1) d y B1 ht1) (hc:c+1<100) {i:Nat} (hi:i<d.n) (q:Pathd N G B1 (updH ht1 y none) (fun b=>mor (les pend x) y b+occ d b) (d.v i) c z B2 ht2)
  {f:Nat->Nat} (hf:∀ i,i<128->f i<=255) {d':Nd} (hd:decN f=some d') (el:d'.leaf=d.leaf) (en:d'.n=d.n) (ek:∀ j,j<d.n->d'.k j=d.k j) (ev:∀ j,j<d.n->d'.v j=if j=i then z else d.v j) :
  Pathd N G B ht pend x (c+1) y (B2.over y f) (updH ht2 y (some (c+1))):=by
 obtain ⟨W,nd⟩:=o.work;obtain ⟨W2,hzy⟩:=o.path_work hi q;have hpv:1<=occ d (d.v i):=occ_of hi rfl;have hoc:=occ_upd hi en ev
 have hkid:∀ j,j<d.n->ht2 (d'.v j)=some c:=fun j hj=>by
  rw [ev j hj]
  split
  ·exact q.top
  ·rename_i hji
   have h1:=nd.kid (by omega) j hj;rw [show c+1 - 1=c by omega] at h1;refine (q.kp.tree _ _ h1 ?_).1;unfold les;by_cases e:d.v j=d.v i
   ·rw [if_pos e]
    have:=occ_two hi hj (fun h=>hji h.symm) e.symm
    show 1<=mor _ y _+occ d (d.v j) - 1
    omega
   ·rw [if_neg e]
    have:=occ_of hj rfl
    show 1<=mor _ y _+occ d (d.v j) - 0
    omega
 have L:=W2.lay (p:=mor (les pend x) y) hf hd ⟨by rw [el,nd.leaf],fun h j hj=>by rw [en] at hj;rw [hkid j hj];rfl,fun h=>by omega,fun h=>by omega⟩ (fun b b2 bN=>by
  have h1:=hoc b
  show les _ (d.v i) b+(if b=z then 1 else 0)=_
  unfold les
  show (mor _ y b+occ d b) - _+_=mor _ y b+occ d' b
  by_cases e1:b=d.v i
  ·subst e1
   rw [if_pos rfl] at h1 ⊢;by_cases e2:d.v i=z
   ·rw [if_pos e2.symm] at h1;rw [if_pos e2];omega
   ·rw [if_neg (fun h=>e2 h.symm)] at h1;rw [if_neg e2];omega
  ·rw [if_neg (fun h=>e1 h.symm)] at h1
   rw [if_neg e1];by_cases e2:b=z
   ·rw [if_pos e2.symm] at h1;rw [if_pos e2];omega
   ·rw [if_neg (fun h=>e2 h.symm)] at h1;rw [if_neg e2];omega) (by unfold mor;rw [if_pos rfl];omega) (fun b hb h0 _=>occ_zero fun j hj e=>by
  rw [en] at hj;have:=hkid j hj;rw [e,h0] at this;cases this)
 refine ⟨L.gr,L.top,?_,L.kp,by rw [L.room];have:=q.room;have:=o.room;omega,fun h=>(o.new h).1⟩;refine o.same.trans ?_;rw [show (c+1) % 100=c % 100+1 by omega];refine SameT.node (by rw [L.n,q.gr.good.n,o.gr.good.n]) o.node L.node el en ek fun j hj=>?_;have hz2:=q.gr.lt q.top;have hz3:=q.gr.two hz2.2 hz2.1
 have hvl:=o.gr.val_live o.top o.node hj (fun e=>by
  have h1:=nd.kid (by omega) j hj;have h2:=(W.gr.lt h1);have:=W.gr.two h2.2 h2.1;omega)
 rw [o.gr.good.n];have hkeep:=L.keep _ _ (hkid j hj);rw [ev j hj] at hkeep ⊢;by_cases e:j=i
 ·subst e
  rw [if_pos rfl] at hkeep ⊢;exact ⟨q.same.trans hkeep.2,⟨fun _=>⟨hvl.1,hvl.2.1⟩,fun _=>⟨hz3,hz2.1⟩⟩⟩
 ·rw [if_neg e] at hkeep ⊢
  have h1:=nd.kid (by omega) j hj;rw [show c+1 - 1=c by omega] at h1;refine ⟨((q.kp.tree _ _ h1 ?_).2).trans hkeep.2,Iff.rfl⟩;have h2:=hkid j hj;unfold les;have:=occ_of hj rfl;by_cases e3:d.v j=d.v i
  ·rw [if_pos e3]
   have:=occ_two hi hj (fun h=>e h.symm) e3.symm
   show 1<=mor _ y _+occ d (d.v j) - 1
   omega
  ·rw [if_neg e3]
   show 1<=mor _ y _+occ d (d.v j) - 0
   omega
theorem Owned.path_kids (o:Owned N G B ht pend x (c+1) d y B1 ht1) (hM:N<=4096) (hc:c+1<100) {i:Nat} (hi:i<d.n) (q:Pathd N G B1 (updH ht1 y none) (fun b=>mor (les pend x) y b+occ d b) (d.v i) c z B2 ht2) :
  rightB d.leaf d.n d.n d.k (fun j=>if j=i then z else d.v j)=true:=by
 obtain ⟨W,nd⟩:=o.work;have hok:=(o.gr.good.ok.node_ok o.node).1;have hlf:d.leaf=false:=by rw [nd.leaf];exact decide_eq_false (by omega)
 have hz:=q.gr.lt q.top;have hz2:=q.gr.two hz.2 hz.1;obtain ⟨k1,k2,k3⟩:=(kidsB_iff _ _).1 (hok.kids hlf);refine rightB_eq (b:=true) ⟨fun _=>rfl,fun _=>⟨hok.n,rfl,?_,hok.asc⟩⟩;rw [hlf,Bool.false_or,kidsB_iff]
 have hne:∀ j,j<d.n->j≠i->d.v j≠z:=fun j hj hji e=>by
  have h1:=nd.kid (by omega) j hj;by_cases e2:z=d.v i
  ·rcases Nat.lt_or_ge j i with h | h
   ·exact k3 j i h hi (by rw [e,e2])
   ·exact k3 i j (by omega) hj (by rw [e,e2])
  ·rw [e,q.new e2] at h1
   cases h1
 refine ⟨k1,fun j hj=>?_,fun a b hab hb=>?_⟩
 ·show (if j=i then z else d.v j)≠0/\(if j=i then z else d.v j)<4096
  split
  ·omega
  ·exact k2 j hj
 ·show (if a=i then z else d.v a)≠(if b=i then z else d.v b)
  by_cases ea:a=i
  ·rw [if_pos ea,if_neg (by omega)]
   exact fun e=>hne b hb (by omega) e.symm
  ·rw [if_neg ea]
   by_cases eb:b=i
   ·rw [if_pos eb];exact hne a (by omega) ea
   ·rw [if_neg eb];exact k3 a b hab hb
end
open Go.RowKit
def TreeOf (B:Bs) (x:Int) (items:List (Nat × Nat)):Prop:=(x=0/\items=[])∨∃ h,TreeIs B x h items/\h<8
theorem bldP_one {items:List (Nat × Nat)} {B:Bs} (h1:1<=items.length) (h7:items.length<=7):bldP 8 0 items B=(B.put (pageF true items.length (kOf items) (vOf items)),B.at_):=by
 have hm:manyG items.length=1:=by unfold manyG;omega
 have hg:grp items 1 0=items:=by
  have:=grp_all (l:=items) (q:=1) (by omega);simpa using this
 rw [bldP,if_pos hm,lvlP_succ,hm,hg];rfl
theorem build13_any {w:World} {M:Bm} {F:List Nat} {B:Bs} {N:Nat} {items:List (Nat × Nat)} {v:Value} (hb:BaseAt w M F B) (hF:∀ q,q∈F->q<w.heap.size) (hg:Good N 1 B) (hr:(items.length:Int)+1<=2*B.room) (hM:N<=4096) (ha:Asc items) (hu:It64 items) (hit:ItemsIn M.L w v items) (h200:items.length<=200) :
  Calls Tryz.prog 51 #[.pointer (some ⟨M.b,0,none⟩),v] w fun e w'=>∃ (x:Nat) (B':Bs),e = .returned (.tuple #[.int .i64 (x:Int),.bool true])/\BaseAt w' M F B'/\Good N 1 B'/\TreeOf B' (x:Int) items/\heightP B' 8 (x:Int)=(highR items.length,0)/\Chg M.L w w'/\(items≠[]->(B',x)=bldP 8 0 items B)/\(items=[]->B'=B/\x=0):=by
 by_cases h0:items=[]
 ·subst h0
  obtain ⟨a,c,rfl,hc1,hc2⟩:=hit.len;have H:Hid (BaseAt w M F B/\Good N 1 B):=zh ⟨hb,hg⟩;clear hb hF hg hr ha hu hit
  show Calls _ _ #[.pointer (some ⟨M.b,0,none⟩),.slice a 0 c] w _
  go_enter Tryz.func51,Tryz.ntmps51;go_wp2_with fail;refine bodyPost_ret (v := .tuple #[.int .i64 ((0:Nat):Int),.bool true]) (by simp [results,Tryz.results51,go_sem]) rfl ⟨0,B,rfl,H.out.1,H.out.2,.inl ⟨rfl,rfl⟩,rfl,Chg.refl _ _,fun q=>absurd rfl q,fun _=>⟨rfl,rfl⟩⟩
 ·have hl:1<=items.length:=by
   cases items with
   | nil=>exact absurd rfl h0
   | cons p r=>simp
  refine (build13_at hb hF ⟨hg,hr,hl,.inl ⟨rfl,rfl,ha,hu⟩⟩ hM hit h200).mono fun e w' ⟨x,h,B',q1,q2,q3,q4,q5,q6,q7,q8⟩=>?_;have q4h:=q4.height q3.ok q5;rw [<- q6] at q4h;exact ⟨x,B',q1,q2,q3,.inr ⟨h,q4,q5⟩,q4h,q7,fun _=>q8,fun q=>absurd q h0⟩
theorem at40:(Bs.fmt 40).at_=4:=by kernel_rfl
theorem pendL_les (a b:List Nat) (x:Nat):les (pendL (a++x::b)) x=pendL (a++b):=by
 funext q
 unfold les pendL;rw [List.count_append,List.count_append,List.count_cons];by_cases e:q=x
 ·subst e;simp
 ·have e':¬ x=q:=fun h=>e h.symm
  simp [e,e']
theorem pendL_mor (a b:List Nat) (y:Nat):mor (pendL (a++b)) y=pendL (a++y::b):=by
 funext q
 unfold mor pendL;rw [List.count_append,List.count_append,List.count_cons];by_cases e:q=y
 ·subst e;simp;omega
 ·have e':¬ y=q:=fun h=>e h.symm
  simp [e,e']
theorem split_at {l:List Nat} {i:Nat} (hi:i<l.length):l=l.take i++l.getD i 0::l.drop (i+1):=by
 rw [zgD,List.getElem?_eq_getElem hi,Option.getD_some,<- List.drop_eq_getElem_cons hi,List.take_append_drop]
section
variable {N G:Nat} {B:Bs} {ht:Ht} {pend:Nat->Nat}
theorem Gr.treeIs (g:Gr N G B ht pend) {x c:Nat} {items:List (Nat × Nat)} (hx:ht x=some c) (hc:c<100) (hr:rightP B c (x:Int) 0 topK (if c=0 then 1 else 2)=true) (ha:allP B c (x:Int)=items):TreeIs B (x:Int) c items:=by
 refine ⟨hr,ha,fun b hb=>?_⟩;have:=g.blks g.refs_one c x hx (g.ne1 hx) b (by rw [Nat.mod_eq_of_lt hc];exact hb);obtain ⟨n,rfl,hn,_⟩:=this;obtain ⟨k,hk⟩:=Option.isSome_iff_exists.1 hn;obtain ⟨h1,h2⟩:=g.lt hk;exact ⟨n,rfl,by rw [g.good.n];exact h1,h2⟩
theorem TreeIs.same (g:Gr N G B ht pend) {B0:Bs} {x y c:Nat} {items:List (Nat × Nat)} (T:TreeIs B0 (x:Int) c items) (hc:c<100) (hy:ht y=some c) (s:SameT B0 B (c % 100) x y):TreeIs B (y:Int) c items:=by
 rw [Nat.mod_eq_of_lt hc] at s;exact g.treeIs hy hc (by rw [s.1];exact T.right) (by rw [s.2];exact T.all)
end
structure Rts (N G:Nat) (B:Bs) (R:List Nat) (items:List (Nat × Nat)) (ht:Ht):Prop where
 gr:Gr N G B ht (pendL R)
 top:∀ r,r∈R->∃ c,ht r=some c/\TreeIs B (r:Int) c items
 low:∀ n c,ht n=some c->c<8
 hM:N<=4096
section
variable {N G:Nat} {B:Bs} {R:List Nat} {items:List (Nat × Nat)} {ht:Ht}
theorem Rts.built {x c:Nat} (hM:N<=4096) (b:Built N G noHt (fun _=>0) items B x ht c):Rts N G B [x] items ht :=
  ⟨b.gr.pendc fun q _ _=>by show ([x]:List Nat).count q=0+_;rw [List.count_singleton,Nat.zero_add];by_cases e:q=x <;> simp [e];exact fun h=>e h.symm,
   fun r hr=>by rw [zms] at hr;subst hr;exact ⟨c,b.top,b.tree⟩,fun n k h=>by
    rcases b.sub n k h with q | q
    · cases q
    · exact q,hM⟩
theorem Rts.now (h:Rts N G B R items ht) (hR:R.length<=1000) {r:Nat} (hr:r∈R):r<N/\B.live r=true/\B.T.now r<65535:=by
 obtain ⟨c,hc,_⟩:=h.top r hr;obtain ⟨h1,h2⟩:=h.gr.lt hc;have:=h.gr.now_le (h.gr.two h2 h1) h1 h2;have:=pendL_le R r;have:=h.hM;exact ⟨h1,h2,by omega⟩
theorem Rts.up (h:Rts N G B R items ht) (hR:R.length<=1000) {r:Nat} (hr:r∈R):B.upE (r:Int)=0/\Rts N G (B.up (r:Int)) (R++[r]) items ht/\(B.up (r:Int)).room=B.room:=by
 obtain ⟨n1,n2,n3⟩:=h.now hR hr;obtain ⟨u1,u2,u3,u4,u5,u6,u7⟩:=h.gr.up n1 n2 n3
 have u2:Gr N G (B.up (r:Int)) ht (pendL (R++[r])):=u2.pendc fun b _ _=>by
  rw [<- pendL_app];unfold mor;by_cases e:b=r
  ·rw [if_pos e,if_pos e]
  ·rw [if_neg e,if_neg e];rfl
 refine ⟨u1,⟨u2,fun q hq=>?_,h.low,h.hM⟩,u6⟩
 have hq':q∈R:=by
  rcases List.mem_append.1 hq with hq | hq
  ·exact hq
  ·rw [zms] at hq;rw [hq];exact hr
 obtain ⟨c,hc,T⟩:=h.top q hq';exact ⟨c,hc,T.same u2 (by have:=h.low q c hc;omega) hc (h.gr.tree (by rw [u2.good.n,h.gr.good.n]) h.gr.refs_one (fun n _ _=>u3 n) hc (h.gr.ne1 hc))⟩
theorem Rts.move {a b:List Nat} {x y c:Nat} {B':Bs} {ht':Ht} (h:Rts N G B (a++x::b) items ht) (g:Gr N G B' ht' (mor (les (pendL (a++x::b)) x) y)) (hx:ht x=some c) (hy:ht' y=some c) (hs:SameT B B' (c % 100) x y) (k:Kpt N B ht B' ht' (les (pendL (a++x::b)) x)) :
  Rts N G B' (a++y::b) items ht':=by
 rw [pendL_les] at g k;rw [pendL_mor] at g
 have hsub:∀ n c,ht' n=some c->c<8:=fun n c hn=>by
  obtain ⟨m,hm⟩:=k.sub n c hn;exact h.low m c hm
 refine ⟨g,fun r hr=>?_,hsub,h.hM⟩
 have ho:r∈a++b->∃ c,ht' r=some c/\TreeIs B' (r:Int) c items:=fun hq=>by
  obtain ⟨cr,hcr,T⟩:=h.top r (by rcases List.mem_append.1 hq with q | q <;> simp [q]);obtain ⟨k1,k2⟩:=k.tree r cr hcr (pendL_pos hq);exact ⟨cr,k1,T.same g (by have:=h.low r cr hcr;omega) k1 k2⟩
 rcases List.mem_append.1 hr with hr | hr
 ·exact ho (zal _ hr)
 ·rcases List.mem_cons.1 hr with rfl | hr
  ·obtain ⟨cx,hcx,T⟩:=h.top x (by simp)
   obtain rfl:cx=c:=Option.some.inj (hcx.symm.trans hx);exact ⟨cx,hy,T.same g (by have:=h.low x cx hcx;omega) hy hs⟩
  ·exact ho (zar _ hr)
theorem Rts.less {a b:List Nat} {x:Nat} {B':Bs} {ht':Ht} (h:Rts N G B (a++x::b) items ht) (l:Less N G B ht (pendL (a++x::b)) x B' ht'):Rts N G B' (a++b) items ht':=by
 have g:=l.gr;have k:=l.kp;rw [pendL_les] at g k;refine ⟨g,fun r hr=>?_,fun n c hn=>?_,h.hM⟩
 ·obtain ⟨cr,hcr,T⟩:=h.top r (by rcases List.mem_append.1 hr with q | q <;> simp [q])
  obtain ⟨k1,k2⟩:=k.tree r cr hcr (pendL_pos hr);exact ⟨cr,k1,T.same g (by have:=h.low r cr hcr;omega) k1 k2⟩
 ·obtain ⟨m,hm⟩:=k.sub n c hn
  exact h.low m c hm
theorem Rts.commit (h:Rts N G B R items ht) {B':Bs} (c:Cm N G B B'):Rts N (G+1) B' R items ht:=by
 obtain ⟨g,hk⟩:=h.gr.commit c;refine ⟨g,fun r hr=>?_,h.low,h.hM⟩;obtain ⟨cr,hcr,T⟩:=h.top r hr
 exact ⟨cr,hcr,T.same g (by have:=h.low r cr hcr;omega) hcr (h.gr.tree (by rw [g.good.n,h.gr.good.n]) h.gr.refs_one (fun n hn _=>by
  obtain ⟨q,hq⟩:=Option.isSome_iff_exists.1 hn;exact hk n q hq) hcr (h.gr.ne1 hcr))⟩
end
open Go.RowKit Go.Maps
def KMap8 (P:Program) (kt:TypeId) (good:Value->Bool) (w:World) (b n:Nat) (f:Nat->Option Value):Prop :=
 ∃ D:DataW Value,w.ownsMap P kt (RG good) b (Maps.size D) D/\Maps.size D=cnt n (fun k=>(f k).isSome) /\
  (∀ l,Maps.has D l=true->∃ k,k<n/\l = .int .u8 (k:Int)/\(f k).isSome=true) /\
  (∀ k v,k<n->f k=some v->Maps.has D (.int .u8 (k:Int))=true/\∀ z,D.atKey (.int .u8 (k:Int)) z = .held v)
section
variable {P:Program} {kt et t:TypeId} {w:World} {b n:Nat} {f:Nat->Option Value} {good:Value->Bool}
theorem KMap8.lt (h:KMap8 P kt good w b n f):b<w.heap.size:=by
 obtain ⟨D,h1,_⟩:=h;exact h1.lt
theorem KMap8.same {w':World} (h:KMap8 P kt good w b n f) (e:w'.heap[b]?=w.heap[b]?):KMap8 P kt good w' b n f:=by
 obtain ⟨D,⟨es,c,hb,hr⟩,hh⟩:=h;exact ⟨D,⟨es,c,e.trans hb,hr⟩,hh⟩
theorem KMap8.chg {L:List Nat} {w':World} (h:KMap8 P kt good w b n f) (c:Chg L w w') (hb:b∉L):KMap8 P kt good w' b n f:=h.same (c.block b h.lt hb)
theorem KMap8.congr {g:Nat->Option Value} (h:KMap8 P kt good w b n f) (e:∀ i,i<n->f i=g i):KMap8 P kt good w b n g:=by
 obtain ⟨D,h1,h2,h3,h4⟩:=h;refine ⟨D,h1,h2.trans (cnt_congr fun i hi=>by rw [e i hi]),fun l hl=>?_,fun k v hk hv=>h4 k v hk (by rw [e k hk];exact hv)⟩;obtain ⟨k,hk,hl',hs⟩:=h3 l hl;exact ⟨k,hk,hl',by rw [<- e k hk];exact hs⟩
theorem KMap8.has (_h:KMap8 P kt good w b n f) {D:DataW Value} (h3:∀ l,Maps.has D l=true->∃ k,k<n/\l = .int .u8 (k:Int)/\(f k).isSome=true)
  (h4:∀ k v,k<n->f k=some v->Maps.has D (.int .u8 (k:Int))=true/\∀ z,D.atKey (.int .u8 (k:Int)) z = .held v) {k:Nat} (hk:k<n) :
  Maps.has D (.int .u8 (k:Int))=(f k).isSome:=by
 cases hf:f k with
 | some v=>exact (h4 k v hk hf).1
 | none =>
  cases hh:Maps.has D (.int .u8 (k:Int)) with
  | false=>rfl
  | true =>
   obtain ⟨k',hk',e,hs⟩:=h3 _ hh;injection e with _ e;have:k=k':=by omega
   subst this;rw [hf] at hs;cases hs
theorem KMap8.look (h:KMap8 P kt good w b n f) (hkt:P.underlying kt=some (.int .u8)) (ht:P.underlying t=some (.map kt et))
  {z:Value} (hz:(zeroValue et).run P w = .ok z w) (hg:good z=true) {k:Nat} (hk:k<n) (hn:n<=256) :
  (Instr.lookup t (.map (some b)) (.int .u8 (k:Int)) true).run P w = .ok (.tuple #[(f k).getD z,.bool (f k).isSome]) w /\
  (Instr.lookup t (.map (some b)) (.int .u8 (k:Int)) false).run P w = .ok ((f k).getD z) w:=by
 have hh:=h;obtain ⟨D,h1,h2,h3,h4⟩:=h;have hkey:keyOf P kt (.int .u8 (k:Int))=some (.int .u8 (k:Int)):=Maps.keyOf_int_mk hkt (WalkArith.wf_u8 (by omega));have K:=Maps.int_keyed hkt;obtain ⟨v,ps,hrun,hv⟩:=h1.look_ok K ht hz (zd := .held z) (zp:=[]) (RG_mk hg) hkey;obtain ⟨v',ps',hrun',hv'⟩:=h1.lookup K ht (z:=z) hz (zd := .held z) (zp:=[]) (RG_mk hg) hkey;rw [hh.has h3 h4 hk] at hrun;obtain ⟨e1,-,-⟩:=RG_inv hv;obtain ⟨e2,-,-⟩:=RG_inv hv'
 have e:v=(f k).getD z/\v'=(f k).getD z:=by
  cases hf:f k with
  | some u =>
   have hu:=(h4 k u hk hf).2 (.held z);rw [hu] at e1 e2;injection e1 with e1;injection e2 with e2;exact ⟨e1.symm,e2.symm⟩
  | none =>
   have hn:Maps.has D (.int .u8 (k:Int))=false:=by rw [hh.has h3 h4 hk,hf];rfl
   rw [Maps.atKey_of_not_has hn] at e1 e2;injection e1 with e1;injection e2 with e2;exact ⟨e1.symm,e2.symm⟩
 rw [hrun,hrun',e.1,e.2];exact ⟨rfl,rfl⟩
theorem KMap8.put (h:KMap8 P kt good w b n f) (hkt:P.underlying kt=some (.int .u8)) (ht:P.underlying t=some (.map kt et)) {k:Nat} {v:Value} (hk:k<n) (hn:n<=256) (hv:good v=true) :
  ∃ w',(Instr.mapUpdate t (.map (some b)) (.int .u8 (k:Int)) v).run P w = .ok () w'/\KMap8 P kt good w' b n (fun i=>if i=k then some v else f i)/\w.mapTurned w' b:=by
 have hh:=h;obtain ⟨D,h1,h2,h3,h4⟩:=h;have hkey:keyOf P kt (.int .u8 (k:Int))=some (.int .u8 (k:Int)):=Maps.keyOf_int_mk hkt (WalkArith.wf_u8 (by omega));have K:=Maps.int_keyed hkt;have hle:=cnt_le (fun k=>(f k).isSome) n;have hik:WideAt.IsKeyLit (.int .u8 (k:Int)):=K.key hkey;obtain ⟨w',hrun,hown,hturn⟩:=h1.store K ht (by unfold maxLen;omega) hkey (RG_mk hv);refine ⟨w',hrun,⟨_,ownsMap_tightV hown,?_,?_,?_⟩,hturn⟩
 ·have e1:=Maps.size_put (k := .int .u8 (k:Int)) (h1.tidy K) (.held v)
  have e2:=cnt_upd (p:=fun i=>(f i).isSome) (q:=fun i=>(if i=k then some v else f i).isSome) hk (fun i _ hne=>by simp [hne]);rw [hh.has h3 h4 hk] at e1;simp only [if_true,Option.isSome_some] at e2;rw [e1]
  split at e2 <;> split <;> simp_all <;> omega
 ·intro l hl
  by_cases e:l = .int .u8 (k:Int)
  ·exact ⟨k,hk,e,by simp⟩
  ·rw [Maps.has_put_other e] at hl
   obtain ⟨k',hk',rfl,hs⟩:=h3 l hl;have hne:k'≠k:=fun q=>e (by rw [q]);exact ⟨k',hk',rfl,by simp [hne,hs]⟩
 ·intro i v' hi hv'
  by_cases e:i=k
  ·subst e
   simp only [if_true,Option.some.injEq] at hv';subst hv';exact ⟨Maps.has_put_same h1.isMap hik _,fun z=>Maps.atKey_put_same h1.isMap hik _ z⟩
  ·simp only [e,if_false] at hv'
   have hne:Lit.int .u8 (i:Int) ≠ .int .u8 (k:Int):=fun q=>by injection q with _ q;omega
   obtain ⟨g1,g2⟩:=h4 i v' hi hv';exact ⟨by rw [Maps.has_put_other hne];exact g1,fun z=>by rw [Maps.atKey_put_other hne];exact g2 z⟩
theorem KMap8.ofEmpty (h:w.ownsMap P kt (RG good) b 0 (.map []:DataW Value)) (n:Nat):KMap8 P kt good w b n (fun _=>none):=by
 refine ⟨.map [],h,(cnt_zero fun _ _=>rfl).symm,?_,?_⟩
 ·intro l hl;cases hl
 ·intro k v _ hv;cases hv
theorem KMap8.made (w:World) (n:Nat):KMap8 P kt good (w.alloc (.map #[] 0)) w.heap.size n (fun _=>none) :=
 KMap8.ofEmpty (World.ownsMap_made _ _ _ _) n
end
end Go.Proofs.YtkhcaclndepgbaaGreat
namespace Go.Proofs.YtkhcaclndepgbaaGreat
open Go.RowKit
end Go.Proofs.YtkhcaclndepgbaaGreat
