/- Layer 15 in plain words: two nodes of o -/
import Derived.Test.YtegpiomkmfhadaaGreatZo29
set_option linter.all false
set_option maxRecDepth 100000
set_option maxHeartbeats 20000000
namespace Go.Proofs.YtegpiomkmfhadaaGreat
variable {h zl zr i z j key lo hi least:Nat} {dl dr d d':Nd} {p f:zF} {B B':Bs}
section
variable {N G:Nat} {B:Bs} {ht:Ht} {P:Nat->Nat}
structure Bu (N G:Nat) (B:Bs) (ht:Ht) (P:zF) (h zl zr:Nat) (dl dr:Nd) (Cg:Ht):Prop where
 gr:Gr N G B Cg (fun b=>P b+xi dr b+xi dl b)
 l:Cg zl=none
 r:Cg zr=none
 o:∀ n,n≠zl->n≠zr->Cg n=ht n
 rl:xq B Cg N zl=0
 rr:xq B Cg N zr=0
 cut:∀ b,xq B Cg N b+xi dl b+xi dr b=xq B ht N b
 ndl:Zm N Cg h dl
 ndr:Zm N Cg h dr
 ol:xi dl zl=0/\xi dl zr=0
 or_:xi dr zl=0/\xi dr zr=0
theorem Gr.two_out (g:Gr N G B ht P) (BU:zl≠zr) (Et:ht zl=some h) (Hw:ht zr=some h) (NS:B.nodeI (zl:Int)=some dl) (I8:B.nodeI (zr:Int)=some dr) (rl:xq B ht N zl=0) (rr:xq B ht N zr=0) :
  Bu N G B ht P h zl zr dl dr (zY (zY ht zr none) zl none):=by
 obtain ⟨g1,r1,nd1,o1⟩:=g.detach Hw I8 rr;have Dj:zY ht zr none zl=some h:=by rw [zy BU];exact Et
 have c1:=X6 (N:=N) (g.lt Hw).1 Hw I8;have rl1:xq B (zY ht zr none) N zl=0:=zq (c1 zl)
 obtain ⟨g2,r2,Ps,o2⟩:=g1.detach Dj NS rl1;have c2:=X6 (N:=N) (g.lt Et).1 Dj NS;have or1:xi dr zl=0:=zq (c1 zl)
 have ol2:xi dl zr=0:=zq (c2 zr);refine ⟨g2,zH,by rw [zy (Ne.symm BU)];exact zH,fun n a b=>by rw [zy a,zy b],r2,by have:=c2 zr;omega,fun b=>by have:=c1 b;have:=c2 b;omega,Ps,nd1.congr fun i hi=>?_,⟨o2,ol2⟩,⟨or1,o1⟩⟩;refine zy fun e=>?_;have:=xK hi e;omega
theorem Bu.kept {Cg:Ht} (T:Bu N G B ht P h zl zr dl dr Cg) (Et:ht zl=some h) (Hw:ht zr=some h) {B3:Bs} {DB:Ht} {Q:zF} (g3:Gr N G B3 DB Q) (hn:∀ n:Nat,n≠zl->n≠zr->B3.nodeI (n:Int)=B.nodeI (n:Int)) (hh:∀ n,n≠zl->n≠zr->DB n=ht n)
  (hs:∀ n c,DB n=some c->∃ m,ht m=some c) (hl:∀ b,b≠zl->b≠zr->B3.live b=B.live b/\B3.fr b=B.fr b) (hr:∀ b,xq B ht N b=0->xq B3 DB N b=0) (GP:KK B B3) (pl:p zl=0) (pr:p zr=0):JY N B ht B3 DB p/\∀ r k,r≠zl->r≠zr->ht r=some k->DB r=some k/\xV B B3 (k % 100) r r:=by
 have keep:∀ r k,r≠zl->r≠zr->ht r=some k->DB r=some k/\xV B B3 (k % 100) r r:=fun r k a b e =>
  ⟨by rw [hh r a b];exact e,T.gr.tree (by rw [g3.good.n,T.gr.good.n]) T.gr.refs_one (fun n hq _=>hn n (fun q=>by rw [q,T.l] at hq;cases hq) (fun q=>by rw [q,T.r] at hq;cases hq)) (by rw [T.o r a b];exact e) (fun q=>by
   have h2:Cg r=some k:=by rw [T.o r a b];exact e
   exact T.gr.ne1 h2 q)⟩
 refine ⟨⟨fun r c hc hp=>keep r c (fun q=>by rw [q,pl] at hp;omega) (fun q=>by rw [q,pr] at hp;omega) hc,fun b bN bl bh br bp=>?_,hs,GP,fun r k e hp=>?_⟩,keep⟩
 rotate_left 1
 ·have a:r≠zl:=fun q=>by rw [q,pl] at hp;omega
  have b:r≠zr:=fun q=>by rw [q,pr] at hp;omega
  have h2:Cg r=some k:=by rw [T.o r a b];exact e
  exact T.gr.tree_nd T.gr.refs_one (fun n hq _=>hn n (fun q=>by rw [q,T.l] at hq;cases hq) (fun q=>by rw [q,T.r] at hq;cases hq)) h2 (T.gr.ne1 h2)
 have a:b≠zl:=fun q=>by rw [q,pl] at bp;omega
 have c:b≠zr:=fun q=>by rw [q,pr] at bp;omega
 obtain ⟨l1,l2⟩:=hl b a c;exact ⟨by rw [hh b a c];exact bh,by rw [l1];exact bl,hn b a c,l2,hr b br⟩
structure BN (N G:Nat) (B:Bs) (ht:Ht) (Q:zF) (h zl zr:Nat) (dj:Nd) (B':Bs) (B6:Ht):Prop where
 gr:Gr N G B' B6 Q
 l:B6 zl=some h
 node:B'.nodeI (zl:Int)=some dj
 kp:∀ p,p zl=0->p zr=0->(∀ b,1<=p b->1<=Q b)->JY N B ht B' B6 p
 room:B.room<=B'.room
 keep:∀ r k,r≠zl->r≠zr->ht r=some k->B6 r=some k/\xV B B' (k % 100) r r
 none:∀ n,ht n=none->B6 n=none
theorem Gr.join1 (g:Gr N G B ht P) {dj:Nd} (BU:zl≠zr) (Et:ht zl=some h) (Hw:ht zr=some h) (NS:B.nodeI (zl:Int)=some dl) (I8:B.nodeI (zr:Int)=some dr) (rl:xq B ht N zl=0) (rr:xq B ht N zr=0)
  (WS:(B.fr zl).isSome=true) (hP:P zr=1) (hf:∀ i,i<128->f i<=255) (hd:Y2 f=some dj) (el:dj.leaf=dl.leaf) (eo:∀ b,xi dj b=xi dl b+xi dr b) (ev:∀ i,i<dj.n->(∃ j,j<dl.n/\dj.v i=dl.v j)∨∃ j,j<dr.n/\dj.v i=dr.v j) :
  (B.over zl f).downE (zr:Int)=0/\∃ B6,BN N G B ht (xt P zr) h zl zr dj ((B.over zl f).down (zr:Int)) B6:=by
 have T:=g.two_out BU Et Hw NS I8 rl rr;obtain ⟨Cg,hht⟩:=zE (zY (zY ht zr none) zl none);rw [<- hht] at T;obtain ⟨lN,ll⟩:=g.lt Et;obtain ⟨rN,rlv⟩:=g.lt Hw
 have nd:Zm N Cg h dj:=by
  refine ⟨by rw [el];exact T.ndl.leaf,fun h0 i hi=>?_,fun h0 i hi=>?_,fun h0 i hi hv=>?_⟩
  ·rcases ev i hi with ⟨j,hj,e⟩ | ⟨j,hj,e⟩
   ·rw [e];exact T.ndl.kid h0 j hj
   ·rw [e];exact T.ndr.kid h0 j hj
  ·rcases ev i hi with ⟨j,hj,e⟩ | ⟨j,hj,e⟩
   ·rw [e];exact T.ndl.val h0 j hj
   ·rw [e];exact T.ndr.val h0 j hj
  ·rcases ev i hi with ⟨j,hj,e⟩ | ⟨j,hj,e⟩
   ·rw [e] at hv ⊢;exact T.ndl.flat h0 j hj hv
   ·rw [e] at hv ⊢;exact T.ndr.flat h0 j hj hv
 obtain ⟨g3,n3,k3,r3,f3⟩:=T.gr.relay lN ll T.l T.rl WS hf hd nd (by rw [eo,T.ol.1,T.or_.1]) (p:=P) fun b _ _=>by rw [eo];show P b+xi dr b+xi dl b=_;omega
 have hr3:zY Cg zl (some h) zr=none:=by rw [zy (Ne.symm BU)];exact T.r
 have h2r:=g.two rlv rN;obtain ⟨d0,L⟩:=g3.less rN h2r zo hr3
 have K:∀ p:Nat->Nat,p zl=0->p zr=0->_:=fun p pl pr=>T.kept Et Hw g3 (fun n a b=>k3 n a) (fun n a b=>by rw [zy a];exact T.o n a b) (fun n c hc=>by
  by_cases e:n=zl
  ·rw [e,zH] at hc;exact ⟨zl,Et.trans hc⟩
  ·rw [zy e] at hc
   by_cases e2:n=zr
   ·rw [e2,T.r] at hc;cases hc
   ·rw [T.o n e e2] at hc;exact ⟨n,hc⟩) (fun b a c=>⟨rfl,if_neg a⟩) (fun b hb=>by rw [f3,eo];have:=T.cut b;omega) ⟨rfl,rfl⟩ (p:=p) pl pr
 have FI:xq (B.over zl f) (zY Cg zl (some h)) N zr=0:=by rw [f3,eo,T.rr,T.ol.2,T.or_.2]
 have DX:(B.over zl f).T.now zr=1:=by
  have:=g3.ref zr h2r rN;rw [FI,show (B.over zl f).live zr=true from rlv,if_pos rfl] at this;omega
 obtain ⟨_,_,w3,_⟩:=g3.down1 rN h2r zo DX;refine ⟨d0,_,⟨L.gr,zH,?_,fun p pl pr hp=>(K p pl pr).1.trans L.kp hp,by have:=L.room;omega,fun r k a b e=>?_,fun n hn=>?_⟩⟩
 ·rw [w3 zl BU];exact n3
 ·obtain ⟨k1,k2⟩:=(K (fun _=>0) rfl rfl).2 r k a b e
  exact ⟨k1,k2.trans (g3.tree (by rw [L.gr.good.n,g3.good.n]) FI (fun n _ hn=>w3 n hn) k1 b)⟩
 ·have e1:n≠zl:=fun e=>by rw [e,Et] at hn;cases hn
  have e2:n≠zr:=fun e=>by rw [e,Hw] at hn;cases hn
  rw [zy e1,T.o n e1 e2];exact hn
structure BO (N G:Nat) (B:Bs) (ht:Ht) (P:zF) (h zl zr:Nat) (a b:Nd) (B':Bs) (B6:Ht):Prop where
 gr:Gr N G B' B6 P
 l:B6 zl=some h
 r:B6 zr=some h
 nl:B'.nodeI (zl:Int)=some a
 nr:B'.nodeI (zr:Int)=some b
 kp:∀ p,p zl=0->p zr=0->JY N B ht B' B6 p
 room:B'.room=B.room
 keep:∀ r k,r≠zl->r≠zr->ht r=some k->B6 r=some k/\xV B B' (k % 100) r r
 none:∀ n,ht n=none->B6 n=none
theorem Gr.join2 (g:Gr N G B ht P) {a b:Nd} (BU:zl≠zr) (Et:ht zl=some h) (Hw:ht zr=some h) (NS:B.nodeI (zl:Int)=some dl) (I8:B.nodeI (zr:Int)=some dr) (rl:xq B ht N zl=0) (rr:xq B ht N zr=0)
  (WS:(B.fr zl).isSome=true) (Fa:(B.fr zr).isSome=true) {f':zF} (hf:∀ i,i<128->f i<=255) (Gm:∀ i,i<128->f' i<=255) (ha:Y2 f=some a) (hb:Y2 f'=some b) (ea:a.leaf=dl.leaf) (eb:b.leaf=dl.leaf)
  (eo:∀ q,xi a q+xi b q=xi dl q+xi dr q) (ev:∀ z,(∃ i,i<a.n/\a.v i=z)∨(∃ i,i<b.n/\b.v i=z)->(∃ j,j<dl.n/\z=dl.v j)∨∃ j,j<dr.n/\z=dr.v j) :
  ∃ B6,BO N G B ht P h zl zr a b ((B.over zl f).over zr f') B6:=by
 have T:=g.two_out BU Et Hw NS I8 rl rr;obtain ⟨Cg,hht⟩:=zE (zY (zY ht zr none) zl none);rw [<- hht] at T;obtain ⟨lN,ll⟩:=g.lt Et;obtain ⟨rN,rlv⟩:=g.lt Hw
 have nd:∀ d':Nd,d'.leaf=dl.leaf->(∀ i,i<d'.n->(∃ j,j<dl.n/\d'.v i=dl.v j)∨∃ j,j<dr.n/\d'.v i=dr.v j)->Zm N Cg h d':=fun d' e hv=>by
  refine ⟨by rw [e];exact T.ndl.leaf,fun h0 i hi=>?_,fun h0 i hi=>?_,fun h0 i hi h1=>?_⟩
  ·rcases hv i hi with ⟨j,hj,e⟩ | ⟨j,hj,e⟩
   ·rw [e];exact T.ndl.kid h0 j hj
   ·rw [e];exact T.ndr.kid h0 j hj
  ·rcases hv i hi with ⟨j,hj,e⟩ | ⟨j,hj,e⟩
   ·rw [e];exact T.ndl.val h0 j hj
   ·rw [e];exact T.ndr.val h0 j hj
  ·rcases hv i hi with ⟨j,hj,e⟩ | ⟨j,hj,e⟩
   ·rw [e] at h1 ⊢;exact T.ndl.flat h0 j hj h1
   ·rw [e] at h1 ⊢;exact T.ndr.flat h0 j hj h1
 have na:=nd a ea fun i hi=>ev _ (.inl ⟨i,hi,rfl⟩);have nb:=nd b eb fun i hi=>ev _ (.inr ⟨i,hi,rfl⟩);have oal:xi a zl=0:=by have:=eo zl;rw [T.ol.1,T.or_.1] at this;omega
 have oar:xi a zr=0:=by have:=eo zr;rw [T.ol.2,T.or_.2] at this;omega
 have obr:xi b zr=0:=by have:=eo zr;rw [T.ol.2,T.or_.2] at this;omega
 have obl:xi b zl=0:=by have:=eo zl;rw [T.ol.1,T.or_.1] at this;omega
 obtain ⟨g3,n3,k3,r3,f3⟩:=T.gr.relay lN ll T.l T.rl WS hf ha na oal (p:=fun q=>P q+xi b q) fun q _ _=>by have:=eo q;show P q+xi dr q+xi dl q=_;omega
 have hr3:zY Cg zl (some h) zr=none:=by rw [zy (Ne.symm BU)];exact T.r
 have nb3:Zm N (zY Cg zl (some h)) h b:=nb.congr fun i hi=>zy fun e=>by have:=xK hi e;omega
 have hfr3:((B.over zl f).fr zr).isSome=true:=by show (if zr=zl then some f else B.fr zr).isSome=true;rw [if_neg (Ne.symm BU)];exact Fa
 obtain ⟨g4,n4,k4,r4,f4⟩:=g3.relay rN rlv hr3 (by rw [f3,T.rr,oar]) hfr3 Gm hb nb3 obr (p:=P) fun q _ _=>rfl
 have K:∀ p:Nat->Nat,p zl=0->p zr=0->_:=fun p pl pr=>T.kept Et Hw g4 (fun n x y=>(k4 n y).trans (k3 n x)) (fun n x y=>by rw [zy y,zy x];exact T.o n x y) (fun n c hc=>by
  by_cases e2:n=zr
  ·rw [e2,zH] at hc;exact ⟨zr,Hw.trans hc⟩
  ·rw [zy e2] at hc
   by_cases e:n=zl
   ·rw [e,zH] at hc;exact ⟨zl,Et.trans hc⟩
   ·rw [zy e,T.o n e e2] at hc;exact ⟨n,hc⟩) (fun q x y=>⟨rfl,(if_neg y).trans (if_neg x)⟩) (fun q hq=>by rw [f4,f3];have:=T.cut q;have:=eo q;omega) ⟨rfl,rfl⟩ (p:=p) pl pr
 exact ⟨_,g4,by rw [zy BU];exact zH,zH,(k4 zl BU).trans n3,n4,fun p pl pr=>(K p pl pr).1,r4.trans r3,(K (fun _=>0) rfl rfl).2,fun n hn=>by
  have e1:n≠zl:=fun e=>by rw [e,Et] at hn;cases hn
  have e2:n≠zr:=fun e=>by rw [e,Hw] at hn;cases hn
  rw [zy e2,zy e1,T.o n e1 e2];exact hn⟩
end
section
variable {N G:Nat} {B:Bs} {ht:Ht} {BR:Nat->Nat} {x c y z:Nat} {d:Nd} {B1 B2:Bs} {Ct Cg:Ht}
theorem ay (hi:i<d.n) (en:d'.n=d.n) (ev:∀ j,j<d.n->d'.v j=if j=i then z else d.v j) (b:Nat):xi d' b+(if d.v i=b then 1 else 0)=xi d b+(if z=b then 1 else 0):=by
 have:=xN (q:=fun j=>decide (d'.v j=b)) (p:=fun j=>decide (d.v j=b)) (n:=d.n) hi (fun j hj hn=>by rw [ev j hj,if_neg hn]);rw [ev i hi,if_pos rfl] at this;simp only [decide_eq_true_eq] at this;unfold xi;rw [en];exact this
theorem ny (hi:i<d.n) (hj:j<d.n) (DP:i≠j) (e:d.v i=d.v j):2<=xi d (d.v j):=by
 have h2:=xN (p:=fun k=>decide (d.v k=d.v j)) (q:=fun k=>decide (k≠j/\d.v k=d.v j)) (n:=d.n) hj (fun k hk hn=>by simp [hn]);have h3:=xN (p:=fun k=>decide (k≠j/\d.v k=d.v j)) (q:=fun k=>decide (k≠i/\k≠j/\d.v k=d.v j)) (n:=d.n) hi (fun k hk hn=>by simp [hn]);simp [e,DP] at h2 h3;unfold xi;omega
end
section
variable {N G:Nat} {B:Bs} {ht:Ht} {BR:Nat->Nat} {x c y:Nat} {d:Nd} {B1 B2:Bs} {Ct Cg:Ht} {P:Nat->Nat}
theorem Ji.lay2 (W:Ji N G B ht BR x c d y B1 Ct P B2 Cg) (hf:∀ i,i<128->f i<=255) (hd:Y2 f=some d') (nd:Zm N Cg c d') (hp:∀ b,2<=b->b<N->P b=p b+xi d' b) (h1:1<=p y) (hv:∀ b,1<=xt BR x b->Cg b=none->xq B2 Cg N b=0->xi d b=0->xi d' b=0) :
  wQ N G B ht BR x c y d' B2 Cg p (B2.over y f) (zY Cg y (some c)):=by
 obtain ⟨yN,yl,yh,yr,yf,yd,yi⟩:=W.at_;obtain ⟨l0,_,_,_,h2⟩:=W.own.low;have SS:xi d' y=0:=by have:=hp y h2 yN;have:=W.one;omega
 obtain ⟨g3,n3,k3,r3,f3⟩:=W.gr.relay yN yl yh yr yf hf hd nd SS hp;have BU:∀ r k,Cg r=some k->r≠y:=fun r k h q=>by rw [q,yh] at h;cases h
 have keep:∀ r k,Cg r=some k->zY Cg y (some c) r=some k/\xV B2 (B2.over y f) (k % 100) r r:=fun r k h =>
  ⟨by rw [zy (BU r k h)];exact h,W.gr.tree (by rw [g3.good.n,W.gr.good.n]) W.gr.refs_one (fun n hn _=>k3 n (fun q=>by rw [q,yh] at hn;cases hn)) h (W.gr.ne1 h)⟩
 refine ⟨g3,zH,n3,by rw [f3,yr,SS],W.own.kp.trans (p':=xt BR x) ⟨fun r k hr F1=>?_,fun b bN bl bh br bp=>?_,fun n k hn=>?_,W.kp.kk,fun r k hr F1 b hb=>by
  have Gw:r≠y:=fun q=>by rw [q,l0] at F1;omega
  have e:=W.kp.nd r k zaw zat;obtain ⟨a1,a2⟩:=W.kp.tree r k zaw zat;refine Eq.trans ?_ (e b hb);obtain ⟨n,rfl,hn,-⟩:=W.gr.blks W.gr.refs_one k r a1 (W.gr.ne1 a1) b (by rw [Xc e];exact hb);exact k3 n (fun q=>by rw [q,yh] at hn;cases hn)⟩ (fun b h=>h),r3,rfl,keep,k3⟩
 ·have Gw:r≠y:=fun q=>by rw [q,l0] at F1;omega
  obtain ⟨a1,a2⟩:=W.kp.tree r k zaw zat;obtain ⟨b1,b2⟩:=keep r k a1;exact ⟨b1,a2.trans b2⟩
 ·have D5:b≠y:=fun q=>by rw [q,W.own.top] at bh;cases bh
  have:=X6 (N:=N) (by exact yN) W.own.top W.own.node b;obtain ⟨a1,a2,a3,a4,a5⟩:=W.kp.lone b bN bl (by rw [zy D5];exact bh) zo zat;refine ⟨by rw [zy D5];exact a1,a2,by rw [k3 b D5];exact a3,?_,by rw [f3,a5,hv b bp a1 a5 zo]⟩
  show (if b=y then some f else B2.fr b)=B1.fr b
  rw [if_neg D5,a4]
 ·by_cases e:n=y
  ·subst e;rw [zH] at hn;exact ⟨_,W.own.top.trans hn⟩
  ·rw [zy e] at hn
   obtain ⟨m,hm⟩:=W.kp.sub n k hn;have Pc:m≠y:=fun q=>by rw [q,zH] at hm;cases hm
   rw [zy Pc] at hm;exact ⟨m,hm⟩
structure Xk (N G:Nat) (B:Bs) (ht:Ht) (BR:zF) (x c key lo hi y m v:Nat) (B':Bs) (B6:Ht):Prop where
 gr:Gr N G B' B6 (xA (xA (xt BR x) y) v)
 top:B6 y=some c
 node:∃ d',B'.nodeI (y:Int)=some d'/\d'.n=m
 right:∀ l,l<=m->zG B' c (y:Int) lo hi l=true
 all:zR B' c (y:Int)=(zR B c (x:Int)).filter fun p=>decide (p.1≠key)
 val:(key,v)∈zR B c (x:Int)
 kp:JY N B ht B' B6 (xt BR x)
 room:B.room - (2*c+1)<=B'.room
 refs:xq B' B6 N y=0
 new:y≠x->ht y=none
 low:xt BR x y=0
 ne:v≠y
 fr:(B'.fr y).isSome=true
 flat:B6 v=none
theorem nA {y:Nat} : ((B.over y f).fr y).isSome=true:=by unfold Bs.over;simp
theorem pv (ha:ZA d.k d.n) (hi:i<d.n) (hk:d.k i=key):(d.del i).items=d.items.filter fun p=>decide (p.1≠key):=by
 have e1:=ns (f:=fun j=>(d.k j,d.v j)) hi;have e2:=fp (f:=fun j=>(d.k j,d.v j)) hi
 have e0:(d.del i).items=(List.range (d.n - 1)).map fun j=>(d.k (if j<i then j else j+1),d.v (if j<i then j else j+1)):=yU fun j _=>by
  show (qS d.k i j,qS d.v i j)=_
  unfold qS
  split <;> rfl
 rw [e0,show d.items=_ from e2];refine e1.trans ?_;rw [List.filter_append,y7 (by simp [hk])];congr 1
 ·exact (List.filter_eq_self.2 fun p hp=>by
   obtain ⟨j,hj,rfl⟩:=yw.1 hp;have:=qI ha (ye.1 hj) hi;simp;omega).symm
 ·exact (List.filter_eq_self.2 fun p hp=>by
   obtain ⟨j,hj,rfl⟩:=yw.1 hp;have hj:=ye.1 hj;have:=qI ha (show i<i+1+j by omega) zo;simp;omega).symm
theorem VR.del0 (v:VR B 0 d lo hi) (hi':i<d.n):VR B 0 (d.del i) lo hi :=
 ⟨v.leaf,fun j hj=>by
  have hj:j<d.n - 1:=hj
  show lo<=qS d.k i j/\qS d.k i j<=hi
  unfold qS
  split
  ·exact v.bd _ zo
  ·exact v.bd _ zo,ax v.asc,fun k e=>zo⟩
theorem VR.at0 (v:VR B 0 d lo hi):VR B' 0 d lo hi:=⟨v.leaf,v.bd,v.asc,fun k e=>zo⟩
theorem A4 (d:Nd) (i:Nat) (hj:j<d.n - 1):∃ k,k<d.n/\(d.del i).v j=d.v k:=by
 show ∃ k,k<d.n/\qS d.v i j=d.v k
 unfold qS
 split
 ·exact ⟨j,zo,rfl⟩
 ·exact ⟨j+1,zo,rfl⟩
theorem qf.took0 (o:qf N G B ht BR x 0 d y B1 Ct) (hr:zG B 0 (x:Int) lo hi least=true) (hi':i<d.n) (hk:d.k i=key) (hf:∀ i,i<128->f i<=255) (hd:Y2 f=some d') (e':d'.Lk (d.del i)) :
  Xk N G B ht BR x 0 key lo hi y (d.n - 1) (d.v i) (B1.over y f) (zY (zY Ct y none) y (some 0))/\least<=d.n:=by
 obtain ⟨W,nd⟩:=o.work;have Fj:zG B1 0 (y:Int) lo hi least=true:=(o.same.1 lo hi least).trans hr;obtain ⟨d0,Ez,Dt,v0,a0⟩:=VR.of o.gr.good.ok Fj;obtain rfl:d=d0:=yj (o.node.symm.trans Ez);have ha:zR B 0 (x:Int)=d.items:=o.same.2.symm.trans a0;have en:d'.n=d.n - 1:=e'.n;have eo:∀ b,xi d' b+(if d.v i=b then 1 else 0)=xi d b:=fun b=>by rw [JW e'];exact nt hi' b
 have ev:∀ j,j<d'.n->∃ k,k<d.n/\d'.v j=d.v k:=fun j hj=>by
  rw [en] at hj;obtain ⟨k,DH,e⟩:=A4 d i hj;exact ⟨k,DH,(e'.v j hj).trans e⟩
 have L:=W.lay2 (p:=xA (xA (xt BR x) y) (d.v i)) hf hd ⟨e'.leaf.trans nd.leaf,fun h=>zo,fun h j hj=>?_,fun h j hj=>?_⟩ (fun b _ _=>?_) ?_ (fun b _ _ _ h=>?_)
 ·have WT:∀ {Q:zF},Gr N G (B1.over y f) (zY (zY Ct y none) y (some 0)) Q->zY (zY Ct y none) y (some 0) (d.v i)=none:=fun gq=>by
   by_cases h0:d.v i=0
   ·rw [h0]
    cases hq:zY (zY Ct y none) y (some 0) 0 with
    | none=>rfl
    | some k=>have:=gq.two (gq.lt hq).2 (gq.lt hq).1;omega
   ·rw [zy (fun q=>by
     have h1:=(o.gr.detach o.top o.node o.refs).2.2.2;have h2:=xK hi' q;omega)]
    exact nd.flat rfl i hi' h0
  have v2:=((v0.del0 hi').lk e').at0 (B':=B1.over y f);have a2:VA (B1.over y f) 0 d'=(d.del i).items:=VA.lk e'
  exact ⟨⟨L.gr,L.top,⟨_,L.node,en⟩,fun l hl=>(v2.to L.node zo).1,by rw [ha];exact ((v2.to L.node (xd _)).2.trans a2).trans (pv v0.asc hi' hk),by rw [ha];exact yw.2 ⟨i,ye.2 hi',by rw [hk]⟩,L.kp,by rw [L.room];have:=o.room;omega,L.refs,fun h=>(o.new h).1,o.low.1,fun q=>by
   have h1:=(o.gr.detach o.top o.node o.refs).2.2.2;have h2:=xK hi' q;omega,nA,WT L.gr⟩,Dt⟩
 ·obtain ⟨k,DH,e⟩:=ev j hj
  rw [e];exact nd.val h k DH
 ·obtain ⟨k,DH,e⟩:=ev j hj
  rw [e];exact nd.flat h k DH
 ·have:=eo b
  show xA (xt BR x) y b+xi d b=xA (xt BR x) y b+(if b=d.v i then 1 else 0)+_
  by_cases e:b=d.v i
  ·rw [if_pos e.symm] at this;rw [if_pos e];omega
  ·rw [if_neg (fun q=>e q.symm)] at this;rw [if_neg e];omega
 ·show 1<=xA (xt BR x) y y+_
  unfold xA;rw [if_pos rfl];omega
 ·have:=eo b
  omega
end
section
variable {N G:Nat} {B:Bs} {ht:Ht} {BR:Nat->Nat} {x c y z m v key:Nat} {d:Nd} {B1 B2:Bs} {Ct Cg:Ht} {P:Nat->Nat}
theorem Gr.all_refs (g:Gr N G B ht P):∀ {c x:Nat},c<100->ht x=some c->∀ p,p∈zR B c (x:Int)->1<=xq B ht N p.2:=by
 intro c
 induction c with
 | zero =>
  intro x _ hx p hp;obtain ⟨hN,hl,d,hd,nd⟩:=g.node x 0 hx;have e:zR B 0 (x:Int)=d.items:=by show (match B.nodeI (x:Int) with | none=>[] | some d=>d.items)=_;rw [hd]
  rw [e] at hp;obtain ⟨i,hi,rfl⟩:=yw.1 hp;exact qh (xK (ye.1 hi) rfl) (ZR hN hx hd _)
 | succ c ih =>
  intro x hc hx p hp;obtain ⟨hN,hl,d,hd,nd⟩:=g.node x (c+1) hx;have e:zR B (c+1) (x:Int)=(List.range d.n).flatMap fun i=>zR B c (d.v i:Int):=by show (match B.nodeI (x:Int) with | none=>[] | some d=>_)=_;rw [hd]
  rw [e] at hp;obtain ⟨i,hi,hp⟩:=yH.1 hp;exact ih zo (nd.kid zo i (ye.1 hi)) p hp
theorem qf.took_work (o:qf N G B ht BR x (c+1) d y B1 Ct) (hc:c+1<100) (hi':i<d.n) (q:Xk N G B1 (zY Ct y none) (fun b=>xA (xt BR x) y b+xi d b) (d.v i) c key lo hi z m v B2 Cg) :
  Ji N G B ht BR x (c+1) d y B1 Ct (xA (xA (xt (fun b=>xA (xt BR x) y b+xi d b) (d.v i)) z) v) B2 Cg/\z≠y/\v≠y/\(∀ b,1<=xA (xt BR x) y b->1<=xt (fun b=>xA (xt BR x) y b+xi d b) (d.v i) b)/\d.v i≠y:=by
 obtain ⟨W,nd⟩:=o.work;have hpv:1<=xi d (d.v i):=xK hi' rfl;have Gw:=(o.gr.detach o.top o.node o.refs).2.1;have hoy:xi d y=0:=(o.gr.detach o.top o.node o.refs).2.2.2;have hvy:d.v i≠y:=fun e=>by rw [<- e] at hoy;omega
 have hzy:z≠y:=fun e=>by
  have h1:=q.kp.lone y o.low.2.1 o.low.2.2.1 zH Gw (by unfold xt;rw [if_neg (fun h=>hvy h.symm)];show 1<=xA _ y y+_ - 0;unfold xA;rw [if_pos rfl];omega);rw [<- e,q.top] at h1;cases h1.1
 have Nn:v≠y:=fun e=>by
  have:=W.gr.all_refs zo (nd.kid zo i hi') _ (by rw [show c+1 - 1=c by omega];exact q.val);rw [e,Gw] at this;omega
 have Lu:xA (xt BR x) y y+xi d y=1:=W.one
 have Dl:∀ b,1<=xA (xt BR x) y b->1<=xt (fun b=>xA (xt BR x) y b+xi d b) (d.v i) b:=fun b hb=>by
  unfold xt
  split
  ·rename_i e;subst e;show 1<=xA (xt BR x) y (d.v i)+xi d (d.v i) - 1;omega
  ·show 1<=xA _ y b+_ - 0;unfold xt at hb;omega
 refine ⟨W.next q.gr q.kp Dl ?_,hzy,Nn,Dl,hvy⟩;unfold xA;rw [if_neg (fun h=>hzy h.symm),if_neg (fun h=>Nn h.symm)]
 show xt _ (d.v i) y+0+0=1
 unfold xt;rw [if_neg (fun h=>hvy h.symm)];exact Lu
theorem VR.frame (v:VR B (h+1) d lo hi) (hn:B'.T.n=B.T.n) (hs:∀ j,j<d.n->xV B B' h (d.v j) (d.v j)):VR B' (h+1) d lo hi/\VA B' (h+1) d=VA B (h+1) d:=by
 refine ⟨VR.inner (by rw [v.leaf];rfl) v.bd v.asc fun j hj=>?_,xu fun j hj=>(hs j (ye.1 hj)).2⟩;obtain ⟨q1,q2,q3⟩:=v.kid h rfl j hj;exact ⟨q1,by rw [hn];exact q2,((hs j hj).1 _ _ _).trans q3⟩
theorem VR.any (v:VR B h d lo hi) (hn:B'.T.n=B.T.n) (hs:∀ k,h=k+1->∀ j,j<d.n->xV B B' k (d.v j) (d.v j)):VR B' h d lo hi/\VA B' h d=VA B h d:=by
 cases h with
 | zero=>exact ⟨v.at0,rfl⟩
 | succ h=>exact v.frame hn (hs h rfl)
theorem Ji.took (W:Ji N G B ht BR x (c+1) d y B1 Ct P B2 Cg) (hc:c+1<100) (hf:∀ i,i<128->f i<=255) (hd:Y2 f=some d') (hk:∀ j,j<d'.n->Cg (d'.v j)=some c) (hv:VR B2 (c+1) d' lo hi)
  (ha:VA B2 (c+1) d'=(zR B (c+1) (x:Int)).filter fun p=>decide (p.1≠key)) (hp:∀ b,2<=b->b<N->P b=xA (xA (xt BR x) y) v b+xi d' b) (DE:(key,v)∈zR B (c+1) (x:Int)) (hr:B.room - (2*(c+1)+1)<=B2.room) (Nn:v≠y) (WS:Cg v=none) :
  Xk N G B ht BR x (c+1) key lo hi y d'.n v (B2.over y f) (zY Cg y (some (c+1))):=by
 have L:=W.lay (p:=xA (xA (xt BR x) y) v) hf hd ⟨by rw [hv.leaf];exact (yC zo).trans (yC zo).symm,fun _ j hj=>by rw [hk j hj];rfl,fun h=>zo,fun h=>zo⟩ hp (by
  show 1<=xA (xt BR x) y y+_
  unfold xA;rw [if_pos rfl];omega) (fun b hb h0 _=>jK fun j hj e=>by have:=hk j hj;rw [e,h0] at this;cases this)
 obtain ⟨v3,a3⟩:=hv.frame (B':=B2.over y f) L.n fun j hj=>by
  have:=(L.keep _ _ (hk j hj)).2;rwa [yS zo] at this
 exact ⟨L.gr,L.top,⟨_,L.node,rfl⟩,fun l hl=>(v3.to L.node hl).1,((v3.to L.node (xd _)).2.trans a3).trans ha,DE,L.kp,by rw [L.room];exact hr,L.refs,fun h=>(W.own.new h).1,W.own.low.1,Nn,nA,by rw [zy Nn];exact WS⟩
end
section
variable {N G:Nat} {B:Bs} {ht:Ht} {BR:Nat->Nat} {x c y z m v key:Nat} {d:Nd} {B1 B2:Bs} {Ct Cg:Ht}
theorem qf.seen (o:qf N G B ht BR x (c+1) d y B1 Ct) (hc:c+1<100) (hr:zG B (c+1) (x:Int) lo hi least=true):least<=d.n/\VR B1 (c+1) d lo hi/\zR B (c+1) (x:Int)=VA B1 (c+1) d/\d.Ok:=by
 have hs:=o.same;rw [yS hc] at hs;obtain ⟨d0,Ez,Dt,v0,a0⟩:=VR.of o.gr.good.ok ((hs.1 lo hi least).trans hr);obtain rfl:d=d0:=yj (o.node.symm.trans Ez);exact ⟨Dt,v0,hs.2.symm.trans a0,(o.gr.good.ok.node_ok Ez).1⟩
theorem qf.took_kids (o:qf N G B ht BR x (c+1) d y B1 Ct) (hc:c+1<100) (hi':i<d.n) (v1:VR B1 (c+1) d lo hi) (ok:d.Ok) (q:Xk N G B1 (zY Ct y none) (fun b=>xA (xt BR x) y b+xi d b) (d.v i) c key (d.k i) (d.hi hi i) z m v B2 Cg) (hj:j<d.n) (DJ:j≠i) :
  Cg (d.v j)=some c/\xV B1 B2 c (d.v j) (d.v j)/\(∀ p,p∈zR B1 c (d.v j:Int)->decide (p.1≠key)=true)/\1<=xt (fun b=>xA (xt BR x) y b+xi d b) (d.v i) (d.v j):=by
 obtain ⟨W,nd⟩:=o.work;have h1:=nd.kid zo j hj;rw [show c+1 - 1=c by omega] at h1
 have Dl:1<=xt (fun b=>xA (xt BR x) y b+xi d b) (d.v i) (d.v j):=by
  unfold xt;by_cases e:d.v j=d.v i
  ·rw [if_pos e]
   have:=ny hi' hj (fun h=>DJ h.symm) e.symm
   show 1<=xA _ y _+xi d (d.v j) - 1
   omega
  ·rw [if_neg e]
   have:=xK hj rfl
   show 1<=xA _ y _+xi d (d.v j) - 0
   omega
 obtain ⟨t1,t2⟩:=q.kp.tree _ _ h1 Dl;rw [yS zo] at t2;refine ⟨t1,t2,fun p hp=>?_,Dl⟩;have bi:=(Y3 o.gr.good.ok (v1.kid c rfl i hi').2.2).1 _ q.val;have bj:=(Y3 o.gr.good.ok (v1.kid c rfl j hj).2.2).1 p hp;have bi1:d.k i<=key/\key<=d.hi hi i:=bi;rw [decide_eq_true_eq];rcases Nat.lt_or_ge j i with h | h
 ·have:=Xt ok (hi:=hi) h hi' bj.2
  omega
 ·have:=Xt ok (hi:=hi) (show i<j by omega) hj bi1.2
  omega
theorem ft {n:Nat} {keys vals:zF} (h:zV false n n keys vals=true) (hz:z≠0/\z<4096) (BU:∀ j,j<n->j≠i->vals j≠z):zV false n n keys (fun j=>if j=i then z else vals j)=true:=by
 obtain ⟨h1,_,h2,h3⟩:=Yo.1 h;simp only [Bool.false_or] at h2;obtain ⟨k1,k2,k3⟩:=(qs _ _).1 h2;refine Yo.2 ⟨h1,rfl,?_,h3⟩;rw [Bool.false_or,qs];refine ⟨k1,fun j hj=>?_,fun a b Cq hb=>?_⟩
 ·show (if j=i then z else vals j)≠0/\(if j=i then z else vals j)<4096
  split
  ·exact hz
  ·exact k2 j hj
 ·show (if a=i then z else vals a)≠if b=i then z else vals b
  by_cases ea:a=i
  ·rw [if_pos ea,if_neg zo]
   exact fun e=>BU b hb zo e.symm
  ·rw [if_neg ea]
   by_cases eb:b=i
   ·rw [if_pos eb];exact BU a zo ea
   ·rw [if_neg eb];exact k3 a b Cq hb
theorem qf.right0 (o:qf N G B ht BR x (c+1) d y B1 Ct) (hc:c+1<100):zV false d.n d.n d.k d.v=true:=by
 have h:=(o.gr.pg (o.gr.lt o.top).1 o.node).1;obtain ⟨_,_,d0,Ez,nd⟩:=o.gr.node _ _ o.top;obtain rfl:d=d0:=yj (o.node.symm.trans Ez);have hlf:d.leaf=false:=by rw [nd.leaf];exact yC zo
 rwa [hlf] at h
theorem qf.took_right (o:qf N G B ht BR x (c+1) d y B1 Ct) (hc:c+1<100) (hM:N<=4096) (hi':i<d.n) (hr:zG B (c+1) (x:Int) lo hi least=true) (q:Xk N G B1 (zY Ct y none) (fun b=>xA (xt BR x) y b+xi d b) (d.v i) c key (d.k i) (d.hi hi i) z m v B2 Cg):zV false d.n d.n d.k (d.upd i z).v=true:=by
 obtain ⟨hl,v1,a1,ok⟩:=o.seen hc hr;have hz:=q.gr.lt q.top;have LN:=q.gr.two hz.2 hz.1
 exact ft (o.right0 hc) zo fun j hj DJ e=>by
  have:=(o.took_kids hc hi' v1 ok q hj DJ).2.2.2;rw [e,q.low] at this;omega
theorem qf.took1 (o:qf N G B ht BR x (c+1) d y B1 Ct) (hc:c+1<100) (hi':i<d.n) (hr:zG B (c+1) (x:Int) lo hi least=true) (q:Xk N G B1 (zY Ct y none) (fun b=>xA (xt BR x) y b+xi d b) (d.v i) c key (d.k i) (d.hi hi i) z m v B2 Cg) (hm:3<=m)
  (hf:∀ i,i<128->f i<=255) (hd:Y2 f=some d') (e':d'.Lk (d.upd i z)):Xk N G B ht BR x (c+1) key lo hi y d'.n v (B2.over y f) (zY Cg y (some (c+1)))/\least<=d.n:=by
 obtain ⟨hl,v1,a1,ok⟩:=o.seen hc hr;obtain ⟨W2,hzy,Nn,Dl,hvy⟩:=o.took_work hc hi' q;have:1<=xi d (d.v i):=xK hi' rfl;have hz:=q.gr.lt q.top;have LN:=q.gr.two hz.2 hz.1;have Fh:B2.T.n=B1.T.n:=by rw [q.gr.good.n,o.gr.good.n]
 refine ⟨W2.took hc hf hd (fun j hj=>?_) ((v1.upd Fh hi' ⟨LN,by rw [o.gr.good.n];exact hz.1⟩ (q.right 3 hm) fun j hj DJ=>(o.took_kids hc hi' v1 ok q hj DJ).2.1).lk e') ?_ (fun b _ _=>?_) ?_ (by have:=q.room;have:=o.room;omega) Nn q.flat,hl⟩
 ·have hj:j<d.n:=by rw [e'.n] at hj;exact hj
  rw [e'.v j hj]
  show Cg (if j=i then z else d.v j)=_
  by_cases e:j=i
  ·rw [if_pos e];exact q.top
  ·rw [if_neg e];exact (o.took_kids hc hi' v1 ok q hj e).1
 ·rw [a1,VA.lk e']
  exact VA.upd q.all fun j hj DJ=>⟨(o.took_kids hc hi' v1 ok q hj DJ).2.1.2,(o.took_kids hc hi' v1 ok q hj DJ).2.2.1⟩
 ·have h1:=ay (d:=d) (d':=d.upd i z) hi' rfl (fun j _=>rfl) b
  rw [JW e']
  show xt _ (d.v i) b+(if b=z then 1 else 0)+(if b=v then 1 else 0)=xA (xt BR x) y b+(if b=v then 1 else 0)+_
  unfold xt
  show (xA _ y b+xi d b) - _+_+_=xA _ y b+_+_
  by_cases e1:b=d.v i
  ·subst e1
   rw [if_pos rfl] at h1 ⊢;by_cases e2:d.v i=z
   ·rw [if_pos e2.symm] at h1;rw [if_pos e2];omega
   ·rw [if_neg (fun h=>e2 h.symm)] at h1;rw [if_neg e2];omega
  ·rw [if_neg (fun h=>e1 h.symm)] at h1
   rw [if_neg e1];by_cases e2:b=z
   ·rw [if_pos e2.symm] at h1;rw [if_pos e2];omega
   ·rw [if_neg (fun h=>e2 h.symm)] at h1;rw [if_neg e2];omega
 ·rw [a1]
  exact yH.2 ⟨i,ye.2 hi',q.val⟩
end
end Go.Proofs.YtegpiomkmfhadaaGreat
