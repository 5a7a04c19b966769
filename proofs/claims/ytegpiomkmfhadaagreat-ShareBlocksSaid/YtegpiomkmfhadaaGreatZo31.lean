/- Layer 15 in plain words: a key is taken -/
import Derived.Test.YtegpiomkmfhadaaGreatZo30
set_option linter.all false
set_option maxRecDepth 100000
set_option maxHeartbeats 20000000
namespace Go.Proofs.YtegpiomkmfhadaaGreat
variable {x N c i j lo hi least:Nat} {d:Nd} {ht:Ht}
section
variable {N G:Nat} {B:Bs} {ht:Ht} {BR:Nat->Nat}
theorem Gr.attach (g:Gr N G B ht BR) {h:Nat} (hN:x<N) (hl:B.live x=true) (hx:ht x=none) (hz:xq B ht N x=0) (hd:B.nodeI (x:Int)=some d) (nd:Zm N ht h d) (SS:xi d x=0) {p:zF} (hp:∀ b,2<=b->b<N->BR b=p b+xi d b) :
  Gr N G B (zY ht x (some h)) p/\∀ b,xq B (zY ht x (some h)) N b=xq B ht N b+xi d b:=by
 have EW:∀ b,xq B (zY ht x (some h)) N b=xq B ht N b+xi d b:=fun b=>by
  have:=qA (f:=zN B ht b) (g:=zN B (zY ht x (some h)) b) (k:=x) (n:=N) hN (fun i _ hi=>by unfold zN;rw [zy hi]);have h0:zN B ht b x=0:=by unfold zN;rw [hx];rfl
  have h1:zN B (zY ht x (some h)) b x=xi d b:=by unfold zN;rw [zH,hd];rfl
  rw [h0,h1] at this;unfold xq;omega
 refine ⟨⟨g.good,fun n h' hn=>?_,fun b M3 Ij=>?_⟩,EW⟩
 ·by_cases e:n=x
  ·subst e
   rw [zH] at hn;obtain rfl:h=h':=yj hn;exact ⟨hN,hl,d,hd,nd.congr fun i hi=>zy fun q=>by have:=xK hi q;omega⟩
  ·rw [zy e] at hn
   obtain ⟨a1,a2,d',a3,a4⟩:=g.node n h' hn;refine ⟨a1,a2,d',a3,a4.congr fun i hi=>zy fun q=>?_⟩;have h1:=ZR (N:=N) a1 hn a3 x;have h2':=xK hi q;omega
 ·have h0:=g.ref b M3 Ij
  have ME:=hp b M3 Ij;rw [EW];omega
theorem Zm.no {z:Nat} (nd:Zm N ht c d) (hc:c<100) (hz:ht z=some c) (h2:2<=z):xi d z=0:=by
 refine jK fun i hi q=>?_;by_cases e:c=0
 ·have:=nd.flat e i hi zo
  rw [q,hz] at this;cases this
 ·have:=nd.kid zo i hi
  rw [q,hz] at this;have:=yj this;omega
theorem AH (a b:Nat):(if a=b then 1 else 0:Nat)=if b=a then 1 else 0:=by
 by_cases e:a=b
 ·rw [if_pos e,if_pos e.symm]
 ·rw [if_neg e,if_neg fun q=>e q.symm]
end
abbrev aa (BR:zF) (x y v:Nat) (D:Nd):Nat->Nat:=fun b=>xA (xt BR x) y b+(if b=v then 1 else 0)+xi D b
structure b8 (N G:Nat) (B:Bs) (ht:Ht) (BR:zF) (x c key lo hi:Nat) (d:Nd) (y:Nat) (B1:Bs) (Ct:Ht) (v:Nat) (D:Nd) (l:Nat) (B3:Bs) (DB:Ht):Prop where
 work:Ji N G B ht BR x (c+1) d y B1 Ct (aa BR x y v D) B3 DB
 lt:l+1<D.n
 two:∀ k,k=l∨k=l+1->DB (D.v k)=some c/\xq B3 DB N (D.v k)=0/\(B3.fr (D.v k)).isSome=true/\aa BR x y v D (D.v k)=1/\xA (xt BR x) y (D.v k)=0
 ne:D.v l≠D.v (l+1)
 kid:∀ k,k<D.n->k≠l->k≠l+1->DB (D.v k)=some c/\D.v k≠D.v l/\D.v k≠D.v (l+1)
 vk:VK B3 c D lo hi (fun k=>if k=l∨k=l+1 then 2 else 3)
 va:VA B3 (c+1) D=(zR B (c+1) (x:Int)).filter fun p=>decide (p.1≠key)
 val:(key,v)∈zR B (c+1) (x:Int)
 vy:v≠y
 room:B.room - (2*(c+1)+1)<=B3.room
 good:zV false D.n D.n D.k D.v=true
 flat:DB v=none
section
variable {N G:Nat} {B:Bs} {ht:Ht} {BR:Nat->Nat} {x c y z m v key:Nat} {d dz:Nd} {B1 B2 B3:Bs} {Ct Cg DB:Ht}
theorem qf.near_may (o:qf N G B ht BR x (c+1) d y B1 Ct) (hc:c+1<100) (hi':i<d.n) (hr:zG B (c+1) (x:Int) lo hi least=true) (q:Xk N G B1 (zY Ct y none) (fun b=>xA (xt BR x) y b+xi d b) (d.v i) c key (d.k i) (d.hi hi i) z m v B2 Cg) (hj:j<d.n) (DJ:j≠i) (LD:B2.nodeI (z:Int)=some dz) :
  Gr N G B2 (zY Cg z none) (fun b=>xA (xt BR x) y b+(if b=v then 1 else 0)+xi (d.upd i z) b+xi dz b)/\zY Cg z none (d.v j)=some c/\(d.v j)≠z/\1<=xi (d.upd i z) (d.v j)/\Zm N (zY Cg z none) c dz/\xi dz z=0/\xq B2 (zY Cg z none) N z=0/\(∀ b,xA (xA (xt (fun b=>xA (xt BR x) y b+xi d b) (d.v i)) z) v b=xA (xt BR x) y b+(if b=v then 1 else 0)+xi (d.upd i z) b):=by
 obtain ⟨hl,v1,a1,ok⟩:=o.seen hc hr;have:1<=xi d (d.v i):=xK hi' rfl
 have F2:∀ b,xA (xA (xt (fun b=>xA (xt BR x) y b+xi d b) (d.v i)) z) v b=xA (xt BR x) y b+(if b=v then 1 else 0)+xi (d.upd i z) b:=fun b=>by
  have h1:=ay (d:=d) (d':=d.upd i z) hi' rfl (fun j _=>rfl) b;rw [AH,AH z] at h1
  show (xA (xt BR x) y b+xi d b) - (if b=d.v i then 1 else 0)+(if b=z then 1 else 0)+(if b=v then 1 else 0)=_
  by_cases e1:b=d.v i
  ·subst e1
   rw [if_pos rfl] at h1 ⊢;omega
  ·rw [if_neg e1] at h1 ⊢
   omega
 obtain ⟨k1,k2,k3,k4⟩:=o.took_kids hc hi' v1 ok q hj DJ;have Ru:d.v j≠z:=fun e=>by rw [e,q.low] at k4;omega
 obtain ⟨g2,r2,nd,oz⟩:=q.gr.detach q.top LD q.refs;refine ⟨g2.pendc fun b _ _=>?_,by rw [zy Ru];exact k1,Ru,?_,nd,oz,r2,F2⟩
 ·rw [F2]
 ·exact xK (d:=d.upd i z) (i:=j) hj (if_neg DJ)
theorem qf.near (o:qf N G B ht BR x (c+1) d y B1 Ct) (hc:c+1<100) (hM:N<=4096) {l:Nat} (hi':i<d.n) (hr:zG B (c+1) (x:Int) lo hi least=true) (q:Xk N G B1 (zY Ct y none) (fun b=>xA (xt BR x) y b+xi d b) (d.v i) c key (d.k i) (d.hi hi i) z m v B2 Cg) (hm:2<=m) (hj:j<d.n) (DJ:j≠i) (LD:B2.nodeI (z:Int)=some dz) {dj:Nd} {zj:Nat}
  (O:qf N G B2 (zY Cg z none) (fun b=>xA (xt BR x) y b+(if b=v then 1 else 0)+xi (d.upd i z) b+xi dz b) (d.v j) c dj zj B3 DB) (hl:(l=i/\l+1=j)∨(l=j/\l+1=i)) :
  b8 N G B ht BR x c key lo hi d y B1 Ct v ((d.upd i z).upd j zj) l B3 (zY DB z (some c))/\least<=d.n/\B3.nodeI (z:Int)=some dz/\B3.nodeI (zj:Int)=some dj:=by
 obtain ⟨Dt,v1,a1,ok⟩:=o.seen hc hr;obtain ⟨W2,hzy,Nn,Dl,hvy⟩:=o.took_work hc hi' q;obtain ⟨g2,hw,Ru,ow,Ps,oz,rz,F2⟩:=o.near_may hc hi' hr q hj DJ LD;have F8:c % 100=c:=yS zo;obtain ⟨O1,O2,O3,O4,O5⟩:=O.low;have hoy:xi d y=0:=(o.gr.detach o.top o.node o.refs).2.2.2;have hz:=q.gr.lt q.top;have LN:=q.gr.two hz.2 hz.1
 have e1:∀ b,xi (d.upd i z) b+(if b=d.v i then 1 else 0)=xi d b+(if b=z then 1 else 0):=fun b=>by
  have:=ay (d:=d) (d':=d.upd i z) hi' rfl (fun j _=>rfl) b;rwa [AH,AH z] at this
 have ej:(d.upd i z).v j=d.v j:=if_neg DJ
 have e2:∀ b,xi ((d.upd i z).upd j zj) b+(if b=d.v j then 1 else 0)=xi (d.upd i z) b+(if b=zj then 1 else 0):=fun b=>by
  have:=ay (d:=d.upd i z) (d':=(d.upd i z).upd j zj) hj rfl (fun j _=>rfl) b;rwa [ej,AH,AH zj] at this
 have hoz:xi (d.upd i z) z≥1:=xK (d:=d.upd i z) (i:=i) hi' (if_pos rfl)
 have hpz:xA (xt BR x) y z=0/\xi (d.upd i z) z=1:=by
  have h1:=F2 z;have h2:=q.low
  have h3:xA (xA (xt (fun b=>xA (xt BR x) y b+xi d b) (d.v i)) z) v z=1:=by
   unfold xA;rw [if_pos rfl,if_neg (fun h=>q.ne h.symm)];exact congrArg (· + 1+0) h2
  omega
 have Ud:zj≠z:=fun e=>by
  by_cases h:zj=d.v j
  ·exact Ru (h.symm.trans e)
  ·have:=(O.new h).2
   rw [e,hz.2] at this;cases this
 obtain ⟨n1,n2,n3,n4,n5⟩:=O.kp.lone z hz.1 hz.2 zH rz (by
  unfold xt;rw [if_neg (fun h=>Ru h.symm)]
  show 1<=xA (xt BR x) y z+_+_+_ - 0
  omega)
 have hzn:B3.nodeI (z:Int)=some dz:=n3.trans LD;have kt:∀ r k,zY Cg z none r=some k->1<=xA (xt BR x) y r+(if r=v then 1 else 0)+xi (d.upd i z) r+xi dz r - (if r=d.v j then 1 else 0)->DB r=some k/\xV B2 B3 (k % 100) r r:=fun r k h1 h2=>O.kp.tree r k h1 h2
 have hzjN:∀ u,zY Cg z none u=none->B2.live u=true->u≠zj:=fun u h1 h2 e=>by
  by_cases h:zj=d.v j
  ·rw [e,h,hw] at h1;cases h1
  ·have:=(O.new h).2
   rw [<- e,h2] at this;cases this
 have nd3:Zm N DB c dz:=by
  refine ⟨Ps.leaf,fun h0 k hk=>?_,Ps.val,fun h0 k hk hv=>?_⟩
  ·have h1:=Ps.kid h0 k hk
   refine (kt _ _ h1 ?_).1;have h2:=xK hk rfl;rw [if_neg (show ¬ dz.v k=d.v j from fun e=>by rw [e,hw] at h1;have:=yj h1;omega)];omega
  ·have h1:=Ps.flat h0 k hk hv
   cases h2:DB (dz.v k) with
   | none=>rfl
   | some k' =>
    rcases O.sub2 _ _ h2 with h3 | h3
    ·rw [h1] at h3;cases h3
    ·exact absurd h3 (hzjN _ h1 (q.gr.val_live q.top LD hk hv).2.2)
 have F3:∀ b,xA (xt (fun b=>xA (xt BR x) y b+(if b=v then 1 else 0)+xi (d.upd i z) b+xi dz b) (d.v j)) zj b=aa BR x y v ((d.upd i z).upd j zj) b+xi dz b:=fun b=>by
  have:=e2 b
  show xA (xt BR x) y b+_+_+_ - (if b=d.v j then 1 else 0)+(if b=zj then 1 else 0)=_
  unfold aa;by_cases e:b=d.v j
  ·subst e
   rw [if_pos rfl] at this ⊢;omega
  ·rw [if_neg e] at this ⊢
   omega
 obtain ⟨g3,f3⟩:=O.gr.attach hz.1 n2 n1 n5 hzn nd3 oz fun b _ _=>F3 b;have hjz:zY DB z (some c) zj=some c:=by rw [zy Ud];exact O.top
 have hvz:=q.ne
 have h1j:xA (xt BR x) y zj=0/\xi ((d.upd i z).upd j zj) zj=1/\zj≠v:=by
  have h1:xA (xt BR x) y zj+(if zj=v then 1 else 0)+xi (d.upd i z) zj+xi dz zj - (if zj=d.v j then 1 else 0)=0:=O1;have h2:=e2 zj;rw [if_pos rfl] at h2;by_cases e:zj=d.v j
  ·rw [if_pos e] at h1 h2
   rw [e] at h1 h2 ⊢;by_cases e3:d.v j=v
   ·rw [if_pos e3] at h1;omega
   ·rw [if_neg e3] at h1;exact ⟨zo,zo,e3⟩
  ·rw [if_neg e] at h1 h2
   by_cases e3:zj=v
   ·rw [if_pos e3] at h1;omega
   ·rw [if_neg e3] at h1;exact ⟨zo,zo,e3⟩
 have oD:xi ((d.upd i z).upd j zj) z=1:=by
  have:=e2 z;rw [if_neg (fun h=>Ru h.symm),if_neg (fun h=>Ud h.symm)] at this;omega
 have TK:((d.upd i z).upd j zj).v i=z:=by
  show (if i=j then zj else (d.upd i z).v i)=z
  rw [if_neg (fun h=>DJ h.symm)];exact if_pos rfl
 have TL:((d.upd i z).upd j zj).v j=zj:=if_pos rfl
 have M4:∀ k,k≠i->k≠j->((d.upd i z).upd j zj).v k=d.v k:=fun k h1 h2=>by
  show (if k=j then zj else if k=i then z else d.v k)=_
  rw [if_neg h2,if_neg h1]
 have two:∀ k,k=i∨k=j->zY DB z (some c) (((d.upd i z).upd j zj).v k)=some c/\xq B3 (zY DB z (some c)) N (((d.upd i z).upd j zj).v k)=0/\(B3.fr (((d.upd i z).upd j zj).v k)).isSome=true/\aa BR x y v ((d.upd i z).upd j zj) (((d.upd i z).upd j zj).v k)=1/\xA (xt BR x) y (((d.upd i z).upd j zj).v k)=0:=fun k hk=>by
  rcases hk with rfl | rfl
  ·rw [TK]
   refine ⟨zH,by rw [f3,n5,oz],by rw [n4];exact q.fr,?_,hpz.1⟩
   show xA (xt BR x) y z+(if z=v then 1 else 0)+_=1
   rw [hpz.1,if_neg (fun h=>hvz h.symm),oD]
  ·rw [TL]
   refine ⟨hjz,by rw [f3,O.refs,nd3.no zo O.top O5],O4,?_,h1j.1⟩
   show xA (xt BR x) y zj+(if zj=v then 1 else 0)+_=1
   rw [h1j.1,if_neg h1j.2.2,h1j.2.1]
 have oth:∀ k,k<d.n->k≠i->k≠j->DB (d.v k)=some c/\xV B2 B3 c (d.v k) (d.v k)/\d.v k≠z/\d.v k≠zj:=fun k hk h1 h2=>by
  obtain ⟨k1,k2,k3,k4⟩:=o.took_kids hc hi' v1 ok q hk h1;have hkz:d.v k≠z:=fun e=>by rw [e,q.low] at k4;omega
  have h3:zY Cg z none (d.v k)=some c:=by rw [zy hkz];exact k1
  have h4:1<=xi (d.upd i z) (d.v k):=xK (d:=d.upd i z) (i:=k) hk (if_neg h1)
  have h5:d.v k=d.v j->2<=xi (d.upd i z) (d.v j):=fun e=>by
   have:=ny (d:=d.upd i z) (i:=k) (j:=j) hk hj h2 (by rw [ej];exact (if_neg h1:(d.upd i z).v k=d.v k).trans e);rwa [ej] at this
  obtain ⟨t1,t2⟩:=kt _ _ h3 (by
   by_cases e:d.v k=d.v j
   ·rw [if_pos e,e];have:=h5 e;omega
   ·rw [if_neg e];omega)
  rw [F8] at t2;refine ⟨t1,t2,hkz,fun e=>?_⟩;by_cases h:zj=d.v j
  ·have h6:=h5 (e.trans h)
   have h7:xA (xt BR x) y zj+(if zj=v then 1 else 0)+xi (d.upd i z) zj+xi dz zj - (if zj=d.v j then 1 else 0)=0:=O1;rw [if_pos h,h] at h7;omega
  ·have:=(O.new h).1
   rw [<- e,h3] at this;cases this
 have GR:B3.T.n=B1.T.n:=by rw [O.gr.good.n,o.gr.good.n]
 have hn32:B3.T.n=B2.T.n:=by rw [O.gr.good.n,q.gr.good.n]
 obtain ⟨dz',z1,z2,z3,z4⟩:=VR.of q.gr.good.ok (q.right 2 hm);obtain rfl:dz=dz':=yj (LD.symm.trans z1)
 obtain ⟨z5,z6⟩:=z3.any hn32 fun k e k' hk=>by
  have h1:=Ps.kid zo k' hk
  have:=(kt _ _ h1 (by
   have h2:=xK hk rfl;rw [if_neg (show ¬ dz.v k'=d.v j from fun e=>by rw [e,hw] at h1;have:=yj h1;omega)];omega)).2
  rwa [show (c - 1) % 100=k by omega] at this
 obtain ⟨z7,z8⟩:=z5.to hzn z2;obtain ⟨j1,j2,j3,j4⟩:=o.took_kids hc hi' v1 ok q hj DJ;have sj:=O.same;rw [F8] at sj;have pD:∀ k,((d.upd i z).upd j zj).hi hi k=d.hi hi k:=fun k=>rfl
 have all:∀ k,k<d.n->2<=((d.upd i z).upd j zj).v k/\((d.upd i z).upd j zj).v k<B3.T.n/\zG B3 c (((d.upd i z).upd j zj).v k:Int) (d.k k) (d.hi hi k) (if k=i∨k=j then 2 else 3)=true/\zR B3 c (((d.upd i z).upd j zj).v k:Int)=(zR B1 c (d.v k:Int)).filter fun p=>decide (p.1≠key):=fun k hk=>by
  by_cases h1:k=i
  ·subst h1
   rw [TK,if_pos (.inl rfl)];exact ⟨LN,by rw [O.gr.good.n];exact hz.1,z7,z8.trans (z6.trans (z4.symm.trans q.all))⟩
  ·by_cases h2:k=j
   ·subst h2
    rw [TL,if_pos (.inr rfl)];refine ⟨O5,by rw [O.gr.good.n];exact O2,?_,?_⟩
    ·exact Qi ((sj.1 _ _ 3).trans ((j2.1 _ _ 3).trans (v1.kid c rfl k hk).2.2)) (xd _) (xd _) zo
    ·rw [sj.2,j2.2,List.filter_eq_self.2 j3]
   ·obtain ⟨k1,k2,k3,k4⟩:=o.took_kids hc hi' v1 ok q hk h1
    obtain ⟨q1,q2,q3⟩:=v1.kid c rfl k hk;rw [M4 k h1 h2,if_neg zo];exact ⟨q1,by rw [GR];exact q2,((oth k hk h1 h2).2.1.1 _ _ 3).trans ((k2.1 _ _ 3).trans q3),by rw [(oth k hk h1 h2).2.1.2,k2.2,List.filter_eq_self.2 k3]⟩
 have Gt:∀ k,(k=l∨k=l+1)↔(k=i∨k=j):=fun k=>zo
 have Nf:DB v=none:=by
  cases hq:DB v with
  | none=>rfl
  | some k =>
   exfalso
   rcases O.sub2 v k hq with h | h
   ·rw [zy q.ne,q.flat] at h;cases h
   ·by_cases e:zj=d.v j
    ·have h1:=hw
     rw [<- e,<- h,zy q.ne,q.flat] at h1;cases h1
    ·have h1:=(O.new e).2
     have Uc:=O.gr.lt O.top;have h2:=O.gr.two Uc.2 Uc.1;rw [<- h] at h1 Uc h2;have:=q.gr.live_of h2 Uc.1 (by unfold xA;rw [if_pos rfl];omega);rw [h1] at this;cases this
 refine ⟨⟨⟨o,g3,W2.kp.trans (p':=xA (xt BR x) y) ⟨fun r k h1 h2=>?_,fun b bN bl bh br bp=>?_,fun n k h=>?_,O.kp.kk,fun r k h1 h2=>by
  have KG:r≠z:=fun e=>by rw [e] at h2;omega
  exact O.kp.nd r k (by rw [zy KG];exact h1) (by
   show 1<=xA (xt BR x) y r+(if r=v then 1 else 0)+xi (d.upd i z) r+xi dz r - (if r=d.v j then 1 else 0)
   by_cases e:r=d.v j
   ·rw [if_pos e];rw [e] at h2 ⊢;omega
   ·rw [if_neg e];omega)⟩ (fun b h=>h),?_⟩,?_,fun k hk=>two k ((Gt k).1 hk),?_,fun k hk h1 h2=>?_,⟨?_,v1.bd,v1.asc,fun k hk=>?_⟩,?_,?_,Nn,?_,?_,by rw [zy q.ne];exact Nf⟩,Dt,hzn,O.node⟩
 ·have KG:r≠z:=fun e=>by rw [e] at h2;omega
  obtain ⟨t1,t2⟩:=kt r k (by rw [zy KG];exact h1) (by
   by_cases e:r=d.v j
   ·rw [if_pos e];rw [e] at h2 ⊢;omega
   ·rw [if_neg e];omega)
  exact ⟨by rw [zy KG];exact t1,t2⟩
 ·have FR:b≠z:=fun e=>by rw [e] at bp;omega
  have BW:=X6 hz.1 q.top LD b
  obtain ⟨t1,t2,t3,t4,t5⟩:=O.kp.lone b bN bl (by rw [zy FR];exact bh) zo (by
   show 1<=xA (xt BR x) y b+_+_+_ - (if b=d.v j then 1 else 0)
   by_cases e:b=d.v j
   ·rw [if_pos e];rw [e] at bp ⊢;omega
   ·rw [if_neg e];omega)
  exact ⟨by rw [zy FR];exact t1,t2,t3,t4,by rw [f3,t5];omega⟩
 ·by_cases e:n=z
  ·rw [e,zH] at h;exact ⟨z,q.top.trans h⟩
  ·rw [zy e] at h
   obtain ⟨m',Fx⟩:=O.kp.sub n k h;have:m'≠z:=fun e=>by rw [e,zH] at Fx;cases Fx
   rw [zy this] at Fx;exact ⟨m',Fx⟩
 ·have h1:=e1 y
  have h2:=e2 y;have h3:=W2.one;have h4:=F2 y
  have h5:y≠zj:=fun e=>by
   by_cases h:zj=d.v j
   ·have:=xK hj (e.trans h).symm;omega
   ·have:=(O.new h).2
    have h6:=W2.at_.2.1;rw [e,this] at h6;cases h6
  have h6:y≠d.v j:=fun e=>by have:=xK hj e.symm;omega
  rw [if_neg h5,if_neg h6] at h2
  show xA (xt BR x) y y+_+_=1
  omega
 ·show l+1<d.n
  omega
 ·rcases hl with ⟨a,b⟩ | ⟨a,b⟩
  ·rw [b,a,TK,TL];exact fun e=>Ud e.symm
  ·rw [b,a,TK,TL];exact Ud
 ·have h3:k≠i:=fun e=>by have:=(Gt k).2 (.inl e);omega
  have h4:k≠j:=fun e=>by have:=(Gt k).2 (.inr e);omega
  obtain ⟨o1,_,o3,o4⟩:=oth k hk h3 h4;rw [M4 k h3 h4];refine ⟨by rw [zy o3];exact o1,?_,?_⟩
  ·rcases (Gt l).1 (.inl rfl) with e | e <;> rw [e]
   ·rw [TK];exact o3
   ·rw [TL];exact o4
  ·rcases (Gt (l+1)).1 (.inr rfl) with e | e <;> rw [e]
   ·rw [TK];exact o3
   ·rw [TL];exact o4
 ·show d.leaf=false
  rw [v1.leaf];rfl
 ·obtain ⟨p1,p2,p3,_⟩:=all k hk
  refine ⟨p1,p2,?_⟩;rw [pD]
  have:(if k=l∨k=l+1 then 2 else 3:Nat)=if k=i∨k=j then 2 else 3:=by
   by_cases e:k=i∨k=j
   ·rw [if_pos e,if_pos ((Gt k).2 e)]
   ·rw [if_neg e,if_neg fun q=>e ((Gt k).1 q)]
  rw [this];exact p3
 ·rw [a1]
  exact OW fun k hk=>(all k hk).2.2.2
 ·rw [a1]
  exact yH.2 ⟨i,ye.2 hi',q.val⟩
 ·have:=q.room
  have:=o.room;have:=O.room;omega
 ·refine ft (o.took_right hc hM hi' hr q) zo fun k hk hkj=>?_
  show (if k=i then z else d.v k)≠zj
  by_cases e:k=i
  ·rw [if_pos e];exact fun h=>Ud h.symm
  ·rw [if_neg e];exact (oth k hk e hkj).2.2.2
end
section
variable {N G:Nat} {B:Bs} {ht:Ht} {BR:Nat->Nat} {x c y v key lo hi l:Nat} {d D dl dr:Nd} {B1 B3:Bs} {Ct DB:Ht}
structure Bv (N:Nat) (B3:Bs) (DB:Ht) (c lo hi l:Nat) (D dl dr:Nd):Prop where
 nl:2<=dl.n
 nr:2<=dr.n
 cat:VR B3 c (dl.cat dr) (D.k l) (D.hi hi (l+1))
 all:VA B3 c (dl.cat dr)=zR B3 c (D.v l:Int)++zR B3 c (D.v (l+1):Int)
 kid:∀ k,c=k+1->∀ j,j<(dl.cat dr).n->DB ((dl.cat dr).v j)=some k/\(dl.cat dr).v j≠D.v l/\(dl.cat dr).v j≠D.v (l+1)
 le:D.k l<=(dl.cat dr).k 0
 leaf:dr.leaf=dl.leaf
theorem tD (a b:Nd) (hi:i<(a.cat b).n):(∃ j,j<a.n/\(a.cat b).v i=a.v j)∨∃ j,j<b.n/\(a.cat b).v i=b.v j:=by
 have hi:i<a.n+b.n:=hi;by_cases e:i<a.n
 ·exact .inl ⟨i,e,if_pos e⟩
 ·exact .inr ⟨i - a.n,zo,if_neg e⟩
theorem b8.pair (n:b8 N G B ht BR x c key lo hi d y B1 Ct v D l B3 DB) (hl:B3.nodeI (D.v l:Int)=some dl) (hr:B3.nodeI (D.v (l+1):Int)=some dr):Bv N B3 DB c lo hi l D dl dr:=by
 have ok:=n.work.gr.good.ok;obtain ⟨_,_,p3⟩:=n.vk.kid l (zq n.lt);obtain ⟨_,_,q3⟩:=n.vk.kid (l+1) n.lt;rw [if_pos (.inl rfl)] at p3;rw [if_pos (.inr rfl)] at q3;obtain ⟨d1,h1,h2,h3,h4⟩:=VR.of ok p3;obtain rfl:dl=d1:=yj (hl.symm.trans h1);obtain ⟨d2,g1,g2,g3,g4⟩:=VR.of ok q3;obtain rfl:dr=d2:=yj (hr.symm.trans g1);have ha:D.k l<D.k (l+1):=n.vk.asc (l+1) zo n.lt;have hh:D.hi hi l=D.k (l+1) - 1:=if_pos n.lt
 have hk:D.k (l+1)<=D.hi hi (l+1):=by
  unfold Nd.hi;by_cases e:l+1+1<D.n
  ·rw [if_pos e]
   have:=n.vk.asc (l+1+1) zo e;rw [zg] at this;omega
  ·rw [if_neg e];exact (n.vk.bd (l+1) n.lt).2
 refine ⟨h2,g2,VR.cat h3 g3 (xd _) zo (xd _) zo zo,by rw [VA.cat,h4,g4],fun k e j hj=>?_,?_,by rw [g3.leaf,h3.leaf]⟩
 ·have a1:=(n.two l (.inl rfl)).1
  have a2:=(n.two (l+1) (.inr rfl)).1;obtain ⟨_,_,d1,e1,nl⟩:=n.work.gr.node _ _ a1;obtain rfl:dl=d1:=yj (hl.symm.trans e1);obtain ⟨_,_,d2,e2,nr⟩:=n.work.gr.node _ _ a2;obtain rfl:dr=d2:=yj (hr.symm.trans e2)
  have hv:DB ((dl.cat dr).v j)=some k:=by
   have hc:c % 100≠0∨c % 100=0:=zo;have hlf:dl.leaf=false:=by rw [h3.leaf,e];rfl
   have hm:c % 100≠0:=fun q=>by have:=nl.leaf;rw [hlf,yq q] at this;cases this
   rcases tD dl dr hj with ⟨i,hi,q⟩ | ⟨i,hi,q⟩
   ·rw [q];have:=nl.kid hm i hi;rw [this];congr 1;omega
   ·rw [q];have:=nr.kid hm i hi;rw [this];congr 1;omega
  exact ⟨hv,fun q=>by rw [q,a1] at hv;have:=yj hv;omega,fun q=>by rw [q,a2] at hv;have:=yj hv;omega⟩
 ·show D.k l<=if 0<dl.n then dl.k 0 else _
  rw [if_pos zo];exact (h3.bd 0 zo).1
theorem AI (d:Nd) (r:Nat) (hj:j<(d.del r).n) (hr:r<d.n):∃ k,k<d.n/\k≠r/\(d.del r).v j=d.v k:=by
 have hj:j<d.n - 1:=hj
 show ∃ k,k<d.n/\k≠r/\qS d.v r j=d.v k
 unfold qS;by_cases e:j<r
 ·rw [if_pos e];exact ⟨j,zo,zo,rfl⟩
 ·rw [if_neg e];exact ⟨j+1,zo,zo,rfl⟩
def Xd (P:Nd->Prop) (N G:Nat) (B:Bs) (ht:Ht) (BR:zF) (x c key lo hi y v:Nat) (B4:Bs):Prop:=B4.isI (y:Int)=true/\∀ {g:zF} {d':Nd},(∀ i,i<128->g i<=255)->Y2 g=some d'->P d'->∃ B6,Xk N G B ht BR x c key lo hi y d'.n v (B4.over y g) B6
theorem b8.join1 (n:b8 N G B ht BR x c key lo hi d y B1 Ct v D l B3 DB) (hc:c+1<100) (hl:B3.nodeI (D.v l:Int)=some dl) (hr:B3.nodeI (D.v (l+1):Int)=some dr)
  {f:zF} (hf:∀ i,i<128->f i<=255) {dj:Nd} (hd:Y2 f=some dj) (ej:dj.Lk (dl.cat dr)) :
  (B3.over (D.v l) f).downE (D.v (l+1):Int)=0/\Xd (fun d'=>d'.Lk (D.del (l+1))) N G B ht BR x (c+1) key lo hi y v ((B3.over (D.v l) f).down (D.v (l+1):Int))/\zV false (D.n - 1) (D.n - 1) (qS D.k (l+1)) (qS D.v (l+1))=true:=by
 have P:=n.pair hl hr;obtain ⟨l1,l2,l3,l4,l5⟩:=n.two l (.inl rfl);obtain ⟨r1,r2,r3,r4,r5⟩:=n.two (l+1) (.inr rfl);have F8:c % 100=c:=yS zo;have eo:∀ b,xi dj b=xi dl b+xi dr b:=fun b=>by rw [JW ej,nw]
 obtain ⟨d0,Rm,J⟩:=n.work.gr.join1 n.ne l1 r1 hl hr l2 r2 l3 r4 hf hd ej.leaf eo fun i hi=>by
  have hi:i<(dl.cat dr).n:=by rw [ej.n] at hi;exact hi
  rw [ej.v i hi];exact tD dl dr hi
 refine ⟨d0,?_,by rw [fj n.good n.lt,Bool.false_or];exact yq (zq n.lt)⟩;obtain ⟨B4,G2⟩:=zE ((B3.over (D.v l) f).down (D.v (l+1):Int));rw [<- G2] at J ⊢
 have hyz:y≠D.v (l+1):=fun e=>by
  rw [<- e] at r5;unfold xA at r5;rw [if_pos rfl] at r5;omega
 have Dl:∀ b,xt (aa BR x y v D) (D.v (l+1)) b+(if b=D.v (l+1) then 1 else 0)=aa BR x y v D b:=fun b=>by
  unfold xt;by_cases e:b=D.v (l+1)
  ·subst e
   rw [if_pos rfl,r4]
  ·rw [if_neg e];omega
 have W4:Ji N G B ht BR x (c+1) d y B1 Ct (xt (aa BR x y v D) (D.v (l+1))) B4 Rm:=n.work.next J.gr (J.kp (xA (xt BR x) y) l5 r5 fun b hb=>by
   have h1:=Dl b;have h2:b≠D.v (l+1):=fun e=>by rw [e] at hb;omega
   rw [if_neg h2] at h1;have h3:aa BR x y v D b=xA (xt BR x) y b+(if b=v then 1 else 0)+xi D b:=rfl
   omega) (fun b h=>h) (by
   have h1:=Dl y;rw [if_neg hyz,n.work.one] at h1;exact h1)
 have hn:B4.T.n=B3.T.n:=by rw [J.gr.good.n,n.work.gr.good.n]
 have hs:∀ j,j<D.n->j≠l->j≠l+1->Rm (D.v j)=some c/\xV B3 B4 c (D.v j) (D.v j):=fun j hj h1 h2=>by
  obtain ⟨k1,k2,k3⟩:=n.kid j hj h1 h2;have:=J.keep _ _ k2 k3 k1;rwa [F8] at this
 obtain ⟨v4,a4⟩:=P.cat.any hn fun k e j hj=>by
  obtain ⟨k1,k2,k3⟩:=P.kid k e j hj;have:=(J.keep _ _ k2 k3 k1).2;rwa [yS zo] at this
 have h3:3<=dj.n:=by rw [ej.n];show 3<=dl.n+dr.n;have:=P.nl;have:=P.nr;omega
 have vj:=v4.lk ej;have aj:zR B4 c (D.v l:Int)=zR B3 c (D.v l:Int)++zR B3 c (D.v (l+1):Int):=((vj.to J.node (xd _)).2.trans ((VA.lk ej).trans a4)).trans P.all;refine ⟨W4.at_.2.2.2.2.2.2,fun {g d'} hg hd' e'=>⟨zY Rm y (some (c+1)),?_⟩⟩
 exact W4.took hc hg hd' (fun j hj=>by
   rw [e'.n] at hj;rw [e'.v j hj];obtain ⟨k,hk,Dz,e⟩:=AI D (l+1) hj n.lt;rw [e];by_cases q:k=l
   ·rw [q];exact J.l
   ·exact (hs k hk q Dz).1)
  ((n.vk.join1 hn n.lt (fun j hj h1 h2=>if_neg zo) (fun j hj h1 h2=>(hs j hj h1 h2).2) J.node h3 vj).lk e')
  ((VA.lk e').trans ((VA.join1 n.lt (fun j hj h1 h2=>(hs j hj h1 h2).2) aj).trans n.va))
  (fun b _ _=>by
   have h1:=Dl b;have h2:=nt (d:=D) n.lt b;rw [AH] at h2;rw [JW e'];have h3:aa BR x y v D b=xA (xt BR x) y b+(if b=v then 1 else 0)+xi D b:=rfl
   show _=xA (xt BR x) y b+(if b=v then 1 else 0)+_
   omega)
  n.val (by have:=n.room;have:=J.room;omega) n.vy (J.none _ n.flat)
theorem b8.join2 (n:b8 N G B ht BR x c key lo hi d y B1 Ct v D l B3 DB) (hc:c+1<100) (hl:B3.nodeI (D.v l:Int)=some dl) (hr:B3.nodeI (D.v (l+1):Int)=some dr)
  {f f':zF} (hf:∀ i,i<128->f i<=255) (Gm:∀ i,i<128->f' i<=255) {k:Nat} (h3:3<=k) (h4:k+3<=dl.n+dr.n) {a b:Nd} (ha:Y2 f=some a) (ea:a.Lk ((dl.cat dr).sub 0 k)) (hb:Y2 f'=some b) (eb:b.Lk ((dl.cat dr).sub k (dl.n+dr.n - k))) :
  Xd (fun d'=>d'.Lk (D.key (l+1) ((dl.cat dr).k k))) N G B ht BR x (c+1) key lo hi y v ((B3.over (D.v l) f).over (D.v (l+1)) f')/\zV false D.n D.n (fun j=>if j=l+1 then (dl.cat dr).k k else D.k j) D.v=true:=by
 have P:=n.pair hl hr;obtain ⟨l1,l2,l3,l4,l5⟩:=n.two l (.inl rfl);obtain ⟨r1,r2,r3,r4,r5⟩:=n.two (l+1) (.inr rfl);have F8:c % 100=c:=yS zo;have Gk:(dl.cat dr).n=dl.n+dr.n:=rfl
 have eo:∀ q,xi a q+xi b q=xi dl q+xi dr q:=fun q=>by
  rw [JW ea,JW eb,<- nw dl dr];exact vK (d:=dl.cat dr) (k:=k) (by rw [Gk];omega) q
 have ev:∀ z,(∃ i,i<a.n/\a.v i=z)∨(∃ i,i<b.n/\b.v i=z)->(∃ j,j<dl.n/\z=dl.v j)∨∃ j,j<dr.n/\z=dr.v j:=fun z h=>by
  have:∃ i,i<(dl.cat dr).n/\(dl.cat dr).v i=z:=by
   rcases h with ⟨i,hi,e⟩ | ⟨i,hi,e⟩
   ·rw [ea.n] at hi
    have Mm:i<k:=hi;have h5:0+i<(dl.cat dr).n:=by rw [Gk];omega
    exact ⟨0+i,h5,(ea.v i hi).symm.trans e⟩
   ·rw [eb.n] at hi
    have Mm:i<dl.n+dr.n - k:=hi;have h5:k+i<(dl.cat dr).n:=by rw [Gk];omega
    exact ⟨k+i,h5,(eb.v i hi).symm.trans e⟩
  obtain ⟨i,hi,rfl⟩:=this;exact tD dl dr hi
 obtain ⟨Rm,H⟩:=n.work.gr.join2 n.ne l1 r1 hl hr l2 r2 l3 r3 hf Gm ha hb ea.leaf eb.leaf eo ev;obtain ⟨B4,G2⟩:=zE ((B3.over (D.v l) f).over (D.v (l+1)) f');rw [<- G2] at H ⊢;have W4:Ji N G B ht BR x (c+1) d y B1 Ct (aa BR x y v D) B4 Rm:=n.work.next H.gr (H.kp (xA (xt BR x) y) l5 r5) (fun b h=>h) n.work.one;have hn:B4.T.n=B3.T.n:=by rw [H.gr.good.n,n.work.gr.good.n]
 have hs:∀ j,j<D.n->j≠l->j≠l+1->Rm (D.v j)=some c/\xV B3 B4 c (D.v j) (D.v j):=fun j hj h1 h2=>by
  obtain ⟨k1,k2,k3⟩:=n.kid j hj h1 h2;have:=H.keep _ _ k2 k3 k1;rwa [F8] at this
 obtain ⟨v4,a4⟩:=P.cat.any hn fun k e j hj=>by
  obtain ⟨k1,k2,k3⟩:=P.kid k e j hj;have:=(H.keep _ _ k2 k3 k1).2;rwa [yS zo] at this
 have Il:∀ i j,i<j->j<dl.n+dr.n->(dl.cat dr).k i<(dl.cat dr).k j:=fun i j h1 h2=>qI v4.asc h1 h2
 have va:VR B4 c a (D.k l) ((dl.cat dr).k k - 1):=by
  have:=v4.sub (a:=0) (m:=k) (hi':=(dl.cat dr).k k - 1) zo (fun i hi=>by
   have:=Il (0+i) k zo zo;omega) (fun _=>by rw [yn];exact xd _) (fun h=>zo)
  rw [if_neg zo] at this;exact (this.lower P.le).lk ea
 have vb:VR B4 c b ((dl.cat dr).k k) (D.hi hi (l+1)):=by
  have:=v4.sub (a:=k) (m:=dl.n+dr.n - k) (hi':=D.hi hi (l+1)) zo (fun i hi=>(v4.bd (k+i) zo).2) (fun h=>zo) (fun _=>xd _);rw [if_neg zo] at this;exact this.lk eb
 have an:a.n=k:=ea.n;have bn:b.n=dl.n+dr.n - k:=eb.n
 have aj:zR B4 c (D.v l:Int)++zR B4 c (D.v (l+1):Int)=zR B3 c (D.v l:Int)++zR B3 c (D.v (l+1):Int):=by
  rw [(va.to H.nl (xd _)).2,(vb.to H.nr (xd _)).2,VA.lk ea,VA.lk eb,<- P.all,<- a4];exact VA.sub (d:=dl.cat dr) zo
 have v5:=n.vk.join2 hn n.lt (fun j hj h1 h2=>if_neg zo) (fun j hj h1 h2=>(hs j hj h1 h2).2) H.nl H.nr zo zo va vb (by have:=Il 0 k zo zo;have:=P.le;omega) ((v4.bd k zo).2)
 refine ⟨⟨W4.at_.2.2.2.2.2.2,fun {g d'} hg hd' e'=>⟨zY Rm y (some (c+1)),?_⟩⟩,by
  obtain ⟨h1,_,h2,_⟩:=Yo.1 n.good;exact Yo.2 ⟨h1,rfl,h2,v5.asc⟩⟩
 exact W4.took hc hg hd' (fun j hj=>by
   rw [e'.n] at hj;rw [e'.v j hj]
   show Rm (D.v j)=some c
   by_cases q:j=l
   ·rw [q];exact H.l
   ·by_cases q2:j=l+1
    ·rw [q2];exact H.r
    ·exact (hs j hj q q2).1)
  (v5.lk e')
  ((VA.lk e').trans ((VA.join2 n.lt (fun j hj h1 h2=>(hs j hj h1 h2).2) aj).trans n.va))
  (fun b _ _=>by
   rw [JW e'];rfl)
  n.val (by have:=n.room;have:=H.room;omega) n.vy (H.none _ n.flat)
end
open Go.RowKit
def qU (w:World) (p:Nat) (M:Bm) (key val old:Nat) (was:Bool):Prop:=w.heap[p]?=some (.cells #[zP M.b,.int .u64 (key:Int),.int .u64 (val:Int),.int .u64 (old:Int),.bool was,.int .i64 0] 142 (0,0))
section
variable {w w':World} {p:Nat} {M:Bm} {key val old:Nat} {was:Bool} {L:List Nat}
theorem qU.lt (h:qU w p M key val old was):p<w.heap.size:=zz h
theorem qU.chg (h:qU w p M key val old was) (c:zv L w w') (hp:p∉L:=by simp):qU w' p M key val old was:=(c.block p h.lt hp).trans h
theorem qU.cells (h:qU w p M key val old was):w.cell? ⟨p,0,none⟩=some (zP M.b)/\w.cell? ⟨p,1,none⟩=some (.int .u64 (key:Int))/\w.cell? ⟨p,2,none⟩=some (.int .u64 (val:Int))/\w.cell? ⟨p,3,none⟩=some (.int .u64 (old:Int))/\w.cell? ⟨p,4,none⟩=some (.bool was)/\w.cell? ⟨p,5,none⟩=some (.int .i64 0) :=
 ⟨(zM h 0).trans rfl,(zM h 1).trans rfl,(zM h 2).trans rfl,(zM h 3).trans rfl,(zM h 4).trans rfl,(zM h 5).trans rfl⟩
theorem qU.ok (h:qU w p M key val old was):qU (w.setCell ⟨p,5,none⟩ (.int .i64 0)) p M key val old was:=by
 have:=Yh h 5 (.int .i64 0);exact this.trans zaa
theorem qU.setOld (h:qU w p M key val old was) (v:Nat):qU (w.setCell ⟨p,3,none⟩ (.int .u64 (v:Int))) p M key val v was:=by
 have:=Yh h 3 (.int .u64 (v:Int));exact this.trans zaa
theorem qD (h:qU w p M key val old was):zC 113 #[zP p,.int .i64 0] w fun e w'=>e = .returned (.bool false)/\qU w' p M key val old was/\zv [p] w w':=by
 obtain ⟨x0,x1,x2,x3,x4,x5⟩:=h.cells;have:=xB h 5;have ho:=h.ok;have hc:zv [p] w (w.setCell ⟨p,5,none⟩ (.int .i64 0)):=(zv.refl [p] w).setCell (.inl zaa) _;obtain ⟨y0,y1,y2,y3,y4,y5⟩:=ho.cells;have HE:=zh (zA ho hc);clear ho hc h;go_enter Tryz.func113,Tryz.ntmps113;go_upto_region 3 with fail;generalize w.setCell ⟨p,5,none⟩ (.int .i64 0)=W at *;go_wp2_with fail;go_ret;exact ⟨rfl,HE⟩
end
section
variable {w:World} {p:Nat} {M:Bm} {F:List Nat} {B:Bs} {key val old:Nat} {was:Bool}
theorem QU (h:zx w M F B) (hF:∀ q,q∈F->q<w.heap.size) (hp:p∈F) (hc:qU w p M key val old was) (hi:B.isI (x:Int)=true) {A:List Nat} {leaf:Bool} {vk vv:Value} {n:Nat} {keys vals:zF} (hk:zT A w vk n keys) (hv:zT A w vv n vals) (hb:zV leaf n n keys vals=true) :
  zC 114 #[zP p,.int .i64 (x:Int),.agg #[.bool leaf,vk,vv]] w fun e w'=>e = .returned (.tuple #[])/\zx w' M F (B.over x (xg leaf n keys vals))/\qU w' p M key val old was/\zv (p::M.L) w w':=by
 have k0:=xo w (.cells #[.bool leaf,vk,vv] 42);have c0:=(zv.refl [] w).alloc (.cells #[.bool leaf,vk,vv] 42);have cs:∀ W,zv [] w W->_:=fun W c=>tm (h.chg c) (fun q hq=>qe (hF q hq) c.size) hi (hk.chg c) (hv.chg c) hb;obtain ⟨ak,ck,rfl⟩:=hk.len;obtain ⟨av,cv,rfl⟩:=hv.len;have x0:(w.alloc (.cells #[.bool leaf,.slice ak n ck,.slice av n cv] 42)).cell? ⟨w.heap.size,0,none⟩=some (.bool leaf):=(zM k0 0).trans rfl;have x1:(w.alloc (.cells #[.bool leaf,.slice ak n ck,.slice av n cv] 42)).cell? ⟨w.heap.size,1,none⟩=some (.slice ak n ck):=(zM k0 1).trans rfl;have x2:(w.alloc (.cells #[.bool leaf,.slice ak n ck,.slice av n cv] 42)).cell? ⟨w.heap.size,2,none⟩=some (.slice av n cv):=(zM k0 2).trans rfl;have y0:=(hc.chg c0).cells.1;have CS:=zh cs;have Df:=zh c0;have HN:p∉M.L:=h.notL hp;have HPF:p∈F:=hp;have FA:=zh (fun q hq=>h.ltL hq:∀ q,q∈M.L->q<w.heap.size);have HH:=zh (zA hc (hF p hp));clear cs h hF hp hc hk hv hb k0 c0;go_enter Tryz.func114,Tryz.ntmps114;go_upto_region 1 with (refine qJ rfl 42 (.tmp 5) rfl (cells:=#[.bool leaf,.slice ak n ck,.slice av n cv]) rfl ?_)
 generalize w.alloc (.cells #[.bool leaf,.slice ak n ck,.slice av n cv] 42)=W at *;refine wp_region_held_drew (S:=fun W'=>W'.cell? ⟨p,0,none⟩=some (zP M.b)/\W'.cell? ⟨w.heap.size,0,none⟩=some (.bool leaf)/\W'.cell? ⟨w.heap.size,1,none⟩=some (.slice ak n ck)/\W'.cell? ⟨w.heap.size,2,none⟩=some (.slice av n cv)) zab (by exact ⟨y0,x0,x1,x2⟩) fun BS=>?_;refine Zq 0 ?_;refine Zq 1 ?_;refine Zq 2 ?_;refine Zq 3 ?_;refine Zq 4 ?_;refine Zq 5 ?_;refine Zq 6 ?_;refine zu ?_;refine wE 7 (fun K hK=>?_)
 (go_simp;refine (CS _ Df.drew).mono ?_;rintro e w2 ⟨rfl,Cr,BW⟩;have H2:=zh (zA Cr BW);have C8:=(HH.1.chg Df.drew).chg BW HN;have BX:∀ i v,W.cell? ⟨w.heap.size,i,none⟩=some v->w2.cell? ⟨w.heap.size,i,none⟩=some v:=fun i v q=>(BW.cell (p:=⟨w.heap.size,i,none⟩) (yc _ _ q) (fun hm=>absurd (FA _ hm) (Nat.lt_irrefl _))).trans q;have z0:=C8.cells.1;have z1:=BX 0 _ x0;have z2:=BX 1 _ x1;have z3:=BX 2 _ x2;have Uq:=zh C8;clear Cr BW BX C8)
 refine hK.out _ _ (⟨z0,z1,z2,z3⟩) fun BS=>?_;clear hK K;refine zu ?_;refine wE 8 (fun K hK=>?_)
 (go_simp;refine (qD Uq).mono ?_;rintro e w3 ⟨rfl,F9,Ci⟩;have H3:=zh (zA F9 Ci);have BX:∀ i v,w2.cell? ⟨w.heap.size,i,none⟩=some v->w3.cell? ⟨w.heap.size,i,none⟩=some v:=fun i v q=>(Ci.cell (p:=⟨w.heap.size,i,none⟩) (yc _ _ q) (by have:=HH.2;simp only [zms];omega)).trans q;have u0:=F9.cells.1;have u1:=BX 0 _ z1;have u2:=BX 1 _ z2;have u3:=BX 2 _ z3;clear F9 Ci BX)
 refine hK.out _ _ (⟨u0,u1,u2,u3⟩) fun BS=>?_;clear hK K;refine zu ?_;refine wpAnyH_done zab ?_ _;go_wp2_with fail
 go_end0
 refine ⟨rfl,?_,H3.1,?_⟩
 ·exact H2.1.chg H3.2 (fun q hq=>by rw [zms] at hq;rw [hq];exact HPF)
 ·exact (((Df.drew.mo:zv M.L w W.drew).trans H2.2).mono (fun q hq=>zco _ hq)).trans (H3.2.mo)
theorem lW {P:Program} {fn:Func} {tmps:Array Value} {a b:Nat} {w:World} {p:Addr} {t:TypeId} {v:Value} (h:fn.results=#[.tmp b,.cell a t]) (ha:tmps.getD a undef = .pointer (some p)) (hl:(loadVar t p).run P w = .ok v w) :
  (results fn tmps).run P w = .ok (.tuple #[tmps.getD b undef,v]) w:=by
 have M7:tmps[a]?.getD undef = .pointer (some p):=by simpa using ha
 simp [results,h,M7,asAddr,hl,Sem.run_bind,Result.andThen]
def vM (w:World) (p:Nat) (M:Bm) (F:List Nat) (B:Bs) (N G:Nat) (ht:Ht) (BR:zF) (x c key val old:Nat) (was:Bool) (y kb vb:Nat) (d:Nd) (w':World):Prop :=
 ∃ B1 Ct,B.nodeI (x:Int)=some d/\zx w' M (kb::vb::F) B1/\qf N G B ht BR x c d y B1 Ct/\qU w' p M key val old was/\zv (p::M.L) w w'/\zQ w' kb d.n d.k/\zQ w' vb d.n d.v/\w.heap.size<=kb/\w.heap.size<=vb/\kb≠vb
theorem fu {G:Nat} {BR:zF} (h:zx w M F B) (hF:∀ q,q∈F->q<w.heap.size) (hp:p∈F) (hc:qU w p M key val old was) (g:Gr N G B ht BR) (hM:N<=4096) (hm:∀ b,BR b<=30000) (hx:ht x=some c) (Nj:1<=BR x) (hr:0<B.room) :
  zC 111 #[zP p,.int .i64 (x:Int)] w fun e w'=>∃ (y kb vb:Nat) (d:Nd),e = .returned (.tuple #[.int .i64 (y:Int),.agg #[.bool d.leaf,zS kb d.n d.n,zS vb d.n d.n]])/\vM w p M F B N G ht BR x c key val old was y kb vb d w':=by
 have b0:=xo w (.cells #[.bool false,.slice none 0 0,.slice none 0 0] 42);have d0:=(zv.refl [] w).alloc (.cells #[.bool false,.slice none 0 0,.slice none 0 0] 42)
 have co:=tz ((h.new (xd _)).chg d0) (fun q hq=>by
  rcases ya.1 hq with rfl | hq
  ·exact zz b0
  ·exact qe (hF q hq) d0.size) g hM hm hx Nj hr
 have EX:=hc.chg d0;have y0:=EX.cells.1;have HN:p∉M.L:=h.notL hp;have FA:=zh (fun q hq=>h.ltL hq:∀ q,q∈M.L->q<w.heap.size);have HH:=zh (zA EX (zA (hF p hp) (zA b0 d0)));have CO:=zh co;clear co hc hF h EX b0 d0;go_enter Tryz.func111,Tryz.ntmps111;go_upto_region 1 with fail;generalize w.alloc (.cells #[.bool false,.slice none 0 0,.slice none 0 0] 42)=W at *;go_wp2_with fail;refine CO.mono ?_;clear CO;rintro e w1 ⟨y,rfl,d,B1,Ct,hd,al,ho,B5⟩;have Fu:=HH.1.chg B5 HN;have cf:=zh (qD Fu);have H1:=zh (zA hd (zA al (zA ho B5)));clear hd al ho B5 Fu y0;go_wp2_with fail;refine cf.mono ?_;clear cf;rintro e w2 ⟨rfl,C8,BW⟩;have Cr:=H1.2.1.chg BW (fun q hq=>by rw [zms] at hq;rw [hq];exact zco _ hp);have cn:=zh (Cr.cNode (y:Int));have y0:=C8.cells.1;have H2:=zh (zA C8 (zA Cr BW));clear C8 Cr BW;go_wp2_with fail;refine cn.mono ?_;clear cn;rintro e w3 (⟨d',kb,vb,hd',rfl,q1,q2,q3,r1,r2,Ci⟩ | ⟨hd',rfl,Ci⟩)
 case inr=>exact absurd (H1.2.2.1.node.symm.trans hd') zaa
 obtain rfl:d'=d:=yj (hd'.symm.trans H1.2.2.1.node);have Cv:=xo w3 (.cells #[.bool d'.leaf,zS kb d'.n d'.n,zS vb d'.n d'.n] 42);have Cn:=(zv.refl [] w3).alloc (.cells #[.bool d'.leaf,zS kb d'.n d'.n,zS vb d'.n d'.n] 42);have Gb:=r1.chg Cn;have LI:=r2.chg Cn;have Fe:=(H2.1.chg Ci).chg Cn;have Ex:=(((H2.2.1.new q2).new q1).chg Ci).chg Cn;have BY:=zz Cv;obtain ⟨z0,z1,z2⟩:=Za Cv;have cf:=zh (qD Fe);have H4:=zh (zA Gb (zA LI (zA Ex (zA (Ci.trans Cn) (zA q1 (zA q2 (zA q3 Cv)))))));have:=Ci.size;clear Gb LI Fe Ex Cv Cn Ci r1 r2 q1 q2 q3 hd' y0;go_upto_region 5 with fail;generalize w3.alloc (.cells #[.bool d'.leaf,zS kb d'.n d'.n,zS vb d'.n d'.n] 42)=W4 at *;go_wp2_with fail;refine cf.mono ?_;clear cf;rintro e w5 ⟨rfl,Dd,DF⟩;have BU:w3.heap.size≠p:=by have:=HH.2.1;have:=HH.2.2.2.size;have:=H1.2.2.2.size;have:=H2.2.2.size;omega
 have u0:=(DF.cell (p:=⟨w3.heap.size,0,none⟩) BY (by simp [BU])).trans z0;have u1:=(DF.cell (p:=⟨w3.heap.size,1,none⟩) BY (by simp [BU])).trans z1;have u2:=(DF.cell (p:=⟨w3.heap.size,2,none⟩) BY (by simp [BU])).trans z2;have Fp:=zh (zA Dd DF);have HB5:=zh (H4.2.2.1.chg DF (fun q hq=>by rw [zms] at hq;rw [hq];simp [hp]));have In:zv (p::M.L) W w5:=(((H1.2.2.2.mono (fun q hq=>zco _ hq)).trans (H2.2.2.mo)).trans (H4.2.2.2.1.mo)).trans (DF.mo)
 have T7:=(In.block w.heap.size (zz HH.2.2.1) (by
  have:=HH.2.1;simp only [ya,not_or];exact ⟨zo,fun hm=>by have:=FA _ hm;omega⟩)).trans HH.2.2.1
 have Um:=zh (zA In T7);have:=xB T7 0;have:=xB T7 1;have:=xB T7 2;obtain ⟨r0,r1,r2⟩:=Za T7;have:w.heap.size<kb/\w.heap.size<vb/\p<kb/\p<vb:=by have:=H4.2.2.2.2.1;have:=H4.2.2.2.2.2.1;have:=zz HH.2.2.1;have:=H1.2.2.2.size;have:=H2.2.2.size;have:=HH.2.1;omega
 have:w.heap.size<w3.heap.size:=by have:=zz HH.2.2.1;have:=H1.2.2.2.size;have:=H2.2.2.size;omega
 clear Dd DF In z0 z1 z2 T7;go_upto_region 6 with fail;refine wp_region_held_drew (S:=fun W'=>W'.cell? ⟨w3.heap.size,0,none⟩=some (.bool d'.leaf)/\W'.cell? ⟨w3.heap.size,1,none⟩=some (zS kb d'.n d'.n)/\W'.cell? ⟨w3.heap.size,2,none⟩=some (zS vb d'.n d'.n)) zab (by exact ⟨u0,u1,u2⟩) fun BS=>?_;refine ZF 0 ?_;refine ZF 1 ?_;refine ZF 2 ?_;refine zu ?_
 refine wE 3 fun K hK=>?_;go_simp;refine hK.out _ _ (⟨xX u0 zo,xX u1 zo,xX u2 zo⟩) fun BS=>?_;clear hK K;refine zu ?_;refine wpAnyH_done zab ?_ _;go_wp2_with fail;refine bodyPost_ret (lW (a:=5) (b:=4) zab rfl (Ju (JP Um.2 _ _ _))) rfl ⟨y,kb,vb,d',rfl,B1,Ct,H1.1,?_,H1.2.2.1,?_,?_,?_,?_,?_,?_,H4.2.2.2.2.2.2.1⟩
 ·exact ((HB5.chg (zv.refl [] w5).drew zaa).chg (xn w5.drew w.heap.size _ _ _) (fun q hq=>by rw [zms] at hq;rw [hq];simp)).sub fun q hq=>by simp only [ya] at hq ⊢;rcases hq with h | h | h <;> simp [h]
 ·exact (Fp.1.chg (zv.refl [] w5).drew zaa).chg (xn w5.drew w.heap.size _ _ _) (by have:=HH.2.1;simp only [zms];omega)
 ·exact ((HH.2.2.2.mo).trans Um.1.drew).tn (xn w5.drew w.heap.size _ _ _) (xd _)
 ·exact ((H4.1.chg Fp.2 zad).chg (zv.refl [] w5).drew zaa).chg (xn w5.drew w.heap.size _ _ _) zad
 ·exact ((H4.2.1.chg Fp.2 zad).chg (zv.refl [] w5).drew zaa).chg (xn w5.drew w.heap.size _ _ _) zad
 ·omega
 ·omega
end
end Go.Proofs.YtegpiomkmfhadaaGreat
