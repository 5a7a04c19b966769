/- Layer 15 in plain words: the root behin -/
import Derived.Test.YtegpiomkmfhadaaGreatZo34
set_option linter.all false
set_option maxRecDepth 100000
set_option maxHeartbeats 20000000
namespace Go.Proofs.YtegpiomkmfhadaaGreat
variable {B:Bs} {h x c N:Nat} {D:Nat->Bool} {d:Nd} {ht:Ht} {R DL:List Nat} {q:Nat × Nat} {r:zL}
section
variable {N G:Nat} {B:Bs} {ht:Ht} {BR:Nat->Nat} {x c key lo hi y m v:Nat} {B':Bs} {B6:Ht} {d':Nd}
theorem gF (ok:B.Ok) {x:Int} {lo hi l l':Nat} (hr:zG B h x lo hi l=true) (hl:l'<=l):zG B h x lo hi l'=true:=by
 obtain ⟨d,hd,h1,vr,-⟩:=VR.of ok hr;exact (VR.to hd zo vr).1
theorem Xk.drop (T:Xk N G B ht BR x c key lo hi y m v B' B6) (hd:B'.nodeI (y:Int)=some d') :
  B'.downE (y:Int)=0/\Gr N G (B'.down (y:Int)) (zY B6 y none) (fun b=>xA (xt BR x) v b+xi d' b)/\JY N B ht (B'.down (y:Int)) (zY B6 y none) (xt BR x)/\B'.room<=(B'.down (y:Int)).room/\(∀ n:Nat,n≠y->(B'.down (y:Int)).nodeI (n:Int)=B'.nodeI (n:Int))/\Zm N (zY B6 y none) c d'/\xi d' y=0:=by
 have g:=T.gr;obtain ⟨Np,hyl⟩:=g.lt T.top;have h2:=g.two hyl Np
 have hp:xA (xA (xt BR x) y) v y=1:=by
  have:=T.low;have:=T.ne;unfold xA;rw [if_pos rfl,if_neg (Ne.symm this)];omega
 have DX:B'.T.now y=1:=by
  have:=g.ref y h2 Np;rw [hyl,if_pos rfl,hp,T.refs] at this;omega
 obtain ⟨e1,G1,e3,nd⟩:=g.gone T.top hd zo DX;obtain ⟨-,-,w3,-⟩:=g.down1 Np h2 zo DX;refine ⟨e1,G1.gr.pendc fun b _ _=>?_,T.kp.trans G1.kp fun b hb=>?_,G1.room,w3,nd,g.refs_node T.top hd T.refs⟩
 ·show xA (xt BR x) v b+xi d' b=(xA (xA (xt BR x) y) v b - if b=y then 1 else 0)+(xi d' b - 0)
  unfold xA
  split <;> split <;> omega
 ·show 1<=xA (xA (xt BR x) y) v b - if b=y then 1 else 0
  unfold xA
  split <;> omega
def Xm (p:zF) (z:Nat):Nat->Nat:=if z=0 then p else xA p z
structure AK (N G:Nat) (B:Bs) (ht:Ht) (BR:zF) (x Cb key:Nat) (items:zL) (z v:Nat) (B':Bs) (B6:Ht) (Cw:Nat):Prop where
 gr:Gr N G B' B6 (xA (Xm (xt BR x) z) v)
 tr:Xl B' B6 z Cw (items.filter fun p=>decide (p.1≠key))
 kp:JY N B ht B' B6 (xt BR x)
 room:B.room - ((2*Cb+2:Nat):Int)<=B'.room
 val:(key,v)∈items
 flat:B6 v=none
variable {items:List (Nat × Nat)}
theorem Xk.root0 (T:Xk N G B ht BR x c key 0 Qu y 0 v B' B6) (h7:c<7) (hl:(if c=0 then 1 else 2)<=0+1) (ha:zR B c (x:Int)=items) :
  B'.downE (y:Int)=0/\∃ h2,AK N G B ht BR x (c+1) key items 0 v (B'.down (y:Int)) (zY B6 y none) h2:=by
 obtain rfl:c=0:=by
  by_cases e:c=0
  ·exact e
  ·rw [if_neg e] at hl;omega
 obtain ⟨d',hd',hn⟩:=T.node;obtain ⟨e1,g1,k1,r1,n1,nd,o1⟩:=T.drop hd';refine ⟨e1,0,?_,.inl ⟨rfl,rfl,?_⟩,k1,by have:=T.room;omega,by rw [<- ha];exact T.val,by rw [zy T.ne];exact T.flat⟩
 ·refine g1.pendc fun b _ _=>?_
  have:xi d' b=0:=by unfold xi;rw [hn];rfl
  show xA (Xm (xt BR x) 0) v b=xA (xt BR x) v b+xi d' b
  rw [this];rfl
 ·rw [<- ha,<- T.all]
  obtain ⟨d2,EJ,-,-,a2⟩:=VR.of T.gr.good.ok (T.right 0 (xd _));obtain rfl:d'=d2:=yj (hd'.symm.trans EJ);rw [a2]
  show d'.items=[]
  unfold Nd.items;rw [hn];rfl
theorem Xk.root1 (T:Xk N G B ht BR x (c+1) key 0 Qu y 1 v B' B6) (h7:c+1<7) (ha:zR B (c+1) (x:Int)=items) (hd:B'.nodeI (y:Int)=some d') :
  B'.downE (y:Int)=0/\d'.v 0<N/\∃ h2,AK N G B ht BR x (c+2) key items (d'.v 0) v (B'.down (y:Int)) (zY B6 y none) h2:=by
 obtain ⟨d2,EJ,hn⟩:=T.node;obtain rfl:d'=d2:=yj (hd.symm.trans EJ);obtain ⟨e1,g1,k1,r1,n1,nd,o1⟩:=T.drop hd;obtain ⟨d2,EJ,-,vr,a2⟩:=VR.of T.gr.good.ok (T.right 1 (xd _));obtain rfl:d'=d2:=yj (hd.symm.trans EJ);have h0:0<d'.n:=zo;obtain ⟨q2,qN,qr⟩:=vr.kid c rfl 0 h0;have hk:=nd.kid zo 0 h0;rw [show c+1 - 1=c by omega] at hk;obtain ⟨_,_,d3,Sv,nd0⟩:=T.gr.node _ _ T.top;obtain rfl:d'=d3:=yj (hd.symm.trans Sv);have Fv:=nd0.kid zo 0 h0;rw [show c+1 - 1=c by omega] at Fv;have BU:d'.v 0≠y:=fun e=>by have:=xK h0 e;omega
 have st:=T.gr.tree (B':=B'.down (y:Int)) (by rw [g1.good.n,T.gr.good.n]) T.refs (fun n _ h=>n1 n h) Fv BU;rw [yS (show c<100 by omega)] at st;have FH:d'.hi Qu 0=Qu:=by unfold Nd.hi;rw [if_neg zo]
 rw [FH] at qr;refine ⟨e1,(g1.lt hk).1,c+1,?_,.inr ⟨c,rfl,zo,hk,?_,?_⟩,k1,by have:=T.room;omega,by rw [<- ha];exact T.val,by rw [zy T.ne];exact T.flat⟩
 ·refine g1.pendc fun b _ _=>?_
  have ho:xi d' b=if b=d'.v 0 then 1 else 0:=by
   unfold xi;rw [hn,qO];by_cases e:b=d'.v 0
   ·subst e;simp;rfl
   ·have e':¬ d'.v 0=b:=fun q=>e q.symm
    simp [e,e'];rfl
  show xA (Xm (xt BR x) (d'.v 0)) v b=xA (xt BR x) v b+xi d' b
  rw [ho];unfold Xm;rw [if_neg zo];unfold xA;omega
 ·rw [st.1]
  refine gF T.gr.good.ok (Og qr (yg _)) ?_
  split <;> omega
 ·rw [st.2,<- ha,<- T.all,a2]
  show _=(List.range d'.n).flatMap fun i=>zR B' c (d'.v i:Int)
  rw [hn];simp
theorem Xk.root (T:Xk N G B ht BR x c key 0 Qu y m v B' B6) (h7:c<7) (hm:(if c=0 then 1 else 2)<=m) (ha:zR B c (x:Int)=items) :
  AK N G B ht BR x (c+1) key items y v B' B6 (c+1) :=
 ⟨T.gr.pendc fun b _ _=>by
  have:=T.gr.two (T.gr.lt T.top).2 (T.gr.lt T.top).1;unfold Xm;rw [if_neg zo],.inr ⟨c,rfl,h7,T.top,T.right _ hm,by rw [T.all,ha]⟩,T.kp,by have:=T.room;omega,by rw [<- ha];exact T.val,T.flat⟩
end
section
variable {N G:Nat} {B:Bs} {ht:Ht} {BR:Nat->Nat}
theorem Gr.treeIs (g:Gr N G B ht BR) {items:zL} (hx:ht x=some c) (hc:c<100) (hr:zG B c (x:Int) 0 Qu (if c=0 then 1 else 2)=true) (ha:zR B c (x:Int)=items):Zl B (x:Int) c items:=by
 refine ⟨hr,ha,fun b hb=>?_⟩;have:=g.blks g.refs_one c x hx (g.ne1 hx) b (by rw [yS hc];exact hb);obtain ⟨n,rfl,hn,_⟩:=this;obtain ⟨k,hk⟩:=yR.1 hn;obtain ⟨h1,h2⟩:=g.lt hk;exact ⟨n,rfl,by rw [g.good.n];exact h1,h2⟩
end
structure Bh (N G:Nat) (B:Bs) (R:List Nat) (items:zL) (ht:Ht):Prop where
 gr:Gr N G B ht (xG R)
 top:∀ r,r∈R->∃ c,ht r=some c/\Zl B (r:Int) c items
 low:∀ n c,ht n=some c->c<8
 hM:N<=4096
section
variable {N G:Nat} {B:Bs} {R:List Nat} {items:List (Nat × Nat)} {ht:Ht}
theorem Bh.built (hM:N<=4096) (b:tw N G jI (fun _=>0) items B x ht c):Bh N G B [x] items ht :=
  ⟨b.gr.pendc fun q _ _=>by show ([x]:List Nat).count q=0+_;rw [List.count_singleton,yn];by_cases e:q=x <;> simp [e];exact fun h=>e h.symm,
   fun r hr=>by rw [zms] at hr;subst hr;exact ⟨c,b.top,b.tree⟩,fun n k h=>by
    rcases b.sub n k h with q | q
    · cases q
    · exact q,hM⟩
end
def Ol (B:Bs) (N:Nat) (D:Nat->Bool) (b:Nat):Nat:=Yz (fun n=>if D n then lP (B.nodeI (n:Int)) b else 0) N
theorem pB (b:Nat):Ol B N (fun _=>false) b=0:=JS fun i _=>rfl
def QV (D:Nat->Bool) (x:Nat):Nat->Bool:=fun n=>if n=x then true else D n
theorem jP (hN:x<N) (hx:D x=false) (hd:B.nodeI (x:Int)=some d) (b:Nat):Ol B N (QV D x) b=Ol B N D b+xi d b:=by
 have:=qA (f:=fun n=>if D n then lP (B.nodeI (n:Int)) b else 0) (g:=fun n=>if QV D x n then lP (B.nodeI (n:Int)) b else 0) (k:=x) (n:=N) hN (fun i _ hi=>by unfold QV;rw [if_neg hi]);have h0:(if D x then lP (B.nodeI (x:Int)) b else 0)=0:=by rw [hx];rfl
 have h1:(if QV D x x then lP (B.nodeI (x:Int)) b else 0)=xi d b:=by unfold QV;rw [if_pos rfl,if_pos rfl,hd];rfl
 simp only [h0,h1] at this;unfold Ol;omega
structure Y6 (B:Bs) (ht:Ht) (D D':Nat->Bool):Prop where
 sub:∀ n,D n=true->D' n=true
 node:∀ n,D' n=true->D n=false->(ht n).isSome=true
 clos:∀ n,D' n=true->D n=false->∀ d,B.nodeI (n:Int)=some d->d.leaf=false->∀ i,i<d.n->D' (d.v i)=true
theorem Y6.refl (B:Bs) (ht:Ht) (D:Nat->Bool):Y6 B ht D D:=⟨fun _ h=>h,fun n h1 h2=>(by rw [h1] at h2;cases h2),fun n h1 h2=>(by rw [h1] at h2;cases h2)⟩
theorem Y6.trans {D1 D2:Nat->Bool} (a:Y6 B ht D D1) (b:Y6 B ht D1 D2):Y6 B ht D D2:=by
 refine ⟨fun n h=>b.sub n (a.sub n h),fun n h1 h2=>?_,fun n h1 h2 d hd hl i hi=>?_⟩
 ·cases e:D1 n with
  | true=>exact a.node n e h2
  | false=>exact b.node n h1 e
 ·cases e:D1 n with
  | true=>exact b.sub _ (a.clos n e h2 d hd hl i hi)
  | false=>exact b.clos n h1 e d hd hl i hi
theorem Y6.top {D':Nat->Bool} (hx:(ht x).isSome=true) (hd:B.nodeI (x:Int)=some d) (a:Y6 B ht (QV D x) D') (hk:d.leaf=false->∀ i,i<d.n->D' (d.v i)=true):Y6 B ht D D'/\D' x=true:=by
 have hs:∀ n,n≠x->QV D x n=D n:=fun n hn=>by unfold QV;rw [if_neg hn]
 have h1:QV D x x=true:=by unfold QV;rw [if_pos rfl]
 refine ⟨⟨fun n h=>a.sub n (by by_cases e:n=x <;> simp [QV,e,h]),fun n h1 h2=>?_,fun n h1 h2 d' hd' hl i hi=>?_⟩,a.sub x h1⟩
 ·by_cases e:n=x
  ·rw [e];exact hx
  ·exact a.node n h1 (by rw [hs n e];exact h2)
 ·by_cases e:n=x
  ·subst e
   obtain rfl:d=d':=yj (hd.symm.trans hd');exact hk hl i hi
  ·exact a.clos n h1 (by rw [hs n e];exact h2) d' hd' hl i hi
section
variable {N G:Nat} {B:Bs} {ht:Ht} {BR:Nat->Nat}
theorem Gr.met (g:Gr N G B ht BR) {D:Nat->Bool} (M:Y6 B ht (fun _=>false) D) (hr:∀ n,(ht n).isSome=true->1<=BR n->D n=true) (h1:∀ n c,ht n=some c->c<200)
  (hh:∀ k c,ht k=some c->100<=c->c % 100=0->∀ d,B.nodeI (k:Int)=some d->∀ i,i<d.n->d.v i≠0->D (d.v i)=true):∀ m n c,ht n=some c->200 - c=m->D n=true
 | m,n,c,hn,hm=>by
  obtain ⟨hN,hl⟩:=g.lt hn;have h2:=g.two hl hN;by_cases Pe:1<=BR n
  ·exact hr n (by rw [hn];rfl) Pe
  have Gc:=g.ref n h2 hN;have hz:=(g.good.may hN hl).2.2.1;rw [hl,if_pos rfl] at Gc;obtain ⟨k,hk,hp⟩:=Oh (f:=zN B ht n) (n:=N) (by show 0<xq B ht N n;omega);unfold zN at hp
  split at hp
  ·rename_i hs
   obtain ⟨c',G7⟩:=yR.1 hs;obtain ⟨_,_,d,hd,nd⟩:=g.node k c' G7;rw [hd] at hp;obtain ⟨i,hi,hv⟩:=aq hp;have BY:=h1 k c' G7;by_cases e:c' % 100=0
   ·by_cases e2:c'=0
    ·have:=nd.flat e2 i hi zo
     rw [hv,hn] at this;cases this
    ·have:=hh k c' G7 zo e d hd i hi zo
     rw [hv] at this;exact this
   ·have Eb:=nd.kid e i hi
    rw [hv,hn] at Eb;have e2:=yj Eb;have hk:=g.met M hr h1 hh (200 - c') k c' G7 rfl;have:=M.clos k hk rfl d hd (by rw [nd.leaf];exact yC e) i hi;rw [hv] at this;exact this
  ·omega
termination_by m=>m
decreasing_by
 simp_wf
 omega
theorem Gr.addS_eq (g:Gr N G B ht BR) (M:Y6 B ht (fun _=>false) D) (hr:∀ n,(ht n).isSome=true->1<=BR n->D n=true) (h1:∀ n c,ht n=some c->c<200)
  (hh:∀ k c,ht k=some c->100<=c->c % 100=0->∀ d,B.nodeI (k:Int)=some d->∀ i,i<d.n->d.v i≠0->D (d.v i)=true) (b:Nat):Ol B N D b=xq B ht N b:=qq fun n hn=>by
 unfold zN
 cases e:D n with
 | true=>rw [if_pos (M.node n e rfl)];rfl
 | false =>
  have hs:(ht n).isSome=false:=by
   cases hq:ht n with
   | none=>rfl
   | some c =>
    have:=g.met M hr h1 hh _ n c hq rfl;rw [e] at this;cases this
  rw [hs]
theorem Gr.counted (g:Gr N G B ht BR) {q:Nat->Int} (h0:q 0=0) (h1:q 1=0) (hq:∀ b,2<=b->b<N->q b=((BR b+xq B ht N b:Nat):Int)) :
  (∀ b,b<N->¬ (q b=0/\B.T.now b=1)->(B.T.now b:Int)=q b)/\cnt N (fun b=>decide (q b=0/\B.T.now b=1))=qu N:=by
 have T5:∀ b,b<N->bG B b=true->B.T.now b=1:=fun b hb hp=>by
  obtain ⟨k,i,hk,hi,e⟩:=Jb.1 hp;rw [<- e];exact g.good.ok.own.now k i hk hi
 have hlow:∀ b,b<2->bG B b=false:=fun b hb=>by
  cases hp:bG B b with
  | false=>rfl
  | true =>
   obtain ⟨k,i,hk,hi,e⟩:=Jb.1 hp;have:=g.good.ok.a2 k i hk hi;omega
 have key:∀ b,b<N->(q b=0/\B.T.now b=1↔bG B b=true)/\(¬ (q b=0/\B.T.now b=1)->(B.T.now b:Int)=q b):=fun b hb=>by
  by_cases b2:2<=b
  ·have hr:=g.ref b b2 hb
   have Nk:=hq b b2 hb;rw [hr] at Nk
   cases hl:B.live b with
   | true =>
    have hz:=(g.good.may hb hl);rw [hl,if_pos rfl] at Nk;refine ⟨⟨fun h=>by have:=hz.2.2.1;omega,fun h=>?_⟩,fun _=>Nk.symm⟩;rw [hz.2.2.2] at h;cases h
   | false =>
    rw [hl] at Nk;simp at Nk
    cases hp:bG B b with
    | true =>
     have:=T5 b hb hp;exact ⟨⟨fun _=>rfl,fun _=>⟨Nk,this⟩⟩,fun h=>absurd ⟨Nk,this⟩ h⟩
    | false =>
     have Ha:B.T.now b=0:=by
      unfold Bs.live at hl;rw [hp] at hl;simpa using hl
     exact ⟨⟨fun h=>zo,fun h=>by cases h⟩,fun _=>by rw [Ha,Nk];rfl⟩
  ·have hl:=(g.good.ok.low b zo).1
   have hqb:q b=0:=by rcases (show b=0∨b=1 by omega) with rfl | rfl <;> assumption
   rw [hlow b zo];exact ⟨⟨fun h=>zo,fun h=>by cases h⟩,fun _=>by rw [hl,hqb];rfl⟩
 refine ⟨fun b hb=>(key b hb).2,?_⟩;have e1:=g.good.ok.pages_cnt;rw [g.good.n] at e1;rw [<- e1];refine zZ fun b hb=>?_
 cases hp:bG B b with
 | true=>exact yq ((key b hb).1.2 hp)
 | false=>exact yC fun h=>by have:=(key b hb).1.1 h;rw [hp] at this;cases this
end
theorem Qj {α β γ:Type} {f:α->List β} {g:α->List γ} : ∀ l:List α,(∀ a,a∈l->2*(f a).length+1<=(g a).length)->2*(l.flatMap f).length+l.length<=(l.flatMap g).length
 | [],_=>xd _
 | a::r,h=>by
  have:=Qj r fun b hb=>h b (zco _ hb);have:=h a yJ;rw [List.flatMap_cons,List.flatMap_cons,ym,ym,yu];omega
theorem b9 : d.items.length=d.n:=by unfold Nd.items;rw [yX,List.length_range]
theorem fC {B:Bs} : ∀ {h:Nat} {x:Int} {lo hi least:Nat},zG B h x lo hi least=true->3<=least->2*(z9 B h x).length+1<=(zR B h x).length
 | 0,x,lo,hi,least,hr,hl=>by
  obtain ⟨d,h1,h2,h3,h4,h5⟩:=qX hr;rw [h4,b9]
  show 2*[x].length+1<=d.n
  rw [yZ];omega
 | h+1,x,lo,hi,least,hr,hl=>by
  obtain ⟨d,I⟩:=qB hr
  have hb:z9 B (h+1) x=x::(List.range d.n).flatMap fun i=>z9 B h (d.v i:Int):=by
   show (match B.nodeI x with | none=>_ | some d=>_)=_
   rw [I.node]
  have:=Qj (f:=fun i=>z9 B h (d.v i:Int)) (g:=fun i=>zR B h (d.v i:Int)) (List.range d.n) fun i hi=>fC (I.right i (ye.1 hi)) (xd _);have Dl:=I.least;rw [hb,I.all,yu];rw [List.length_range] at this;omega
theorem tI {x:Int} (hr:zG B h x 0 Qu (if h=0 then 1 else 2)=true):2*(z9 B h x).length<=(zR B h x).length+1:=by
 cases h with
 | zero =>
  obtain ⟨d,h1,h2,h3,h4,h5⟩:=qX hr;rw [h4,b9]
  show 2*[x].length<=d.n+1
  rw [if_pos rfl] at h3;rw [yZ];omega
 | succ h =>
  obtain ⟨d,I⟩:=qB hr
  have hb:z9 B (h+1) x=x::(List.range d.n).flatMap fun i=>z9 B h (d.v i:Int):=by
   show (match B.nodeI x with | none=>_ | some d=>_)=_
   rw [I.node]
  have:=Qj (f:=fun i=>z9 B h (d.v i:Int)) (g:=fun i=>zR B h (d.v i:Int)) (List.range d.n) fun i hi=>fC (I.right i (ye.1 hi)) (xd _);have Dl:=I.least;rw [if_neg zo] at Dl;rw [hb,I.all,yu];rw [List.length_range] at this;omega
theorem Om (B:Bs):∀ (h:Nat) (x:Int),x∈z9 B h x
 | 0,x=>by simp [z9]
 | h+1,x=>by unfold z9;cases B.nodeI x <;> simp
section
variable {N G:Nat} {B:Bs} {ht:Ht} {BR:Nat->Nat}
theorem cy (hd:B.nodeI (x:Int)=some d):zR B (h+1) (x:Int)=(List.range d.n).flatMap fun i=>zR B h (d.v i:Int):=by
 show (match B.nodeI (x:Int) with | none=>_ | some d=>_)=_
 rw [hd]
theorem Gr.in_tree (g:Gr N G B ht BR):∀ (h x:Nat),ht x=some h->h<100->∀ n,n∈z9 B h (x:Int)->∃ (m c:Nat) (d:Nd),n=(m:Int)/\ht m=some c/\c<=h/\B.nodeI (m:Int)=some d/\Zm N ht c d/\(c=0->∀ p,p∈d.items->p∈zR B h (x:Int))/\(c≠0->∀ i,i<d.n->(d.v i:Int)∈z9 B h (x:Int))
 | 0,x,hx,_,n,hn=>by
  obtain ⟨_,_,d,hd,nd⟩:=g.node x 0 hx;simp only [z9,zms] at hn;exact ⟨x,0,d,hn,hx,xd _,hd,nd,fun _ p hp=>by show p∈(match B.nodeI (x:Int) with | none=>[] | some d=>d.items);rw [hd];exact hp,fun h=>absurd rfl h⟩
 | h+1,x,hx,h100,n,hn=>by
  obtain ⟨_,_,d,hd,nd⟩:=g.node x (h+1) hx;have e:=Zn (h:=h) hd;rw [e] at hn;rcases ya.1 hn with rfl | hn
  ·refine ⟨x,h+1,d,rfl,hx,xd _,hd,nd,fun h=>zo,fun _ i hi=>?_⟩
   rw [e];exact zco _ (yH.2 ⟨i,ye.2 hi,Om B h _⟩)
  ·obtain ⟨i,hi,hn⟩:=yH.1 hn
   have hk:=nd.kid zo i (ye.1 hi);obtain ⟨m,c,d',e1,e2,e3,e4,e5,e6,e7⟩:=g.in_tree h (d.v i) hk zo n hn;refine ⟨m,c,d',e1,e2,zo,e4,e5,fun h0 p hp=>?_,fun h0 j hj=>?_⟩
   ·rw [cy hd]
    exact yH.2 ⟨i,hi,e6 h0 p hp⟩
   ·rw [e]
    exact zco _ (yH.2 ⟨i,hi,e7 h0 j hj⟩)
def Yq (B:Bs) (ht:Ht) (R:List Nat):List Int:=R.flatMap fun r=>match ht r with | some h=>z9 B h (r:Int) | none=>[]
theorem qY {n:Int} : n∈Yq B ht R↔∃ r,r∈R/\∃ h,ht r=some h/\n∈z9 B h (r:Int):=by
 unfold Yq;rw [yH];constructor
 ·rintro ⟨r,hr,hn⟩
  cases e:ht r with
  | none=>rw [e] at hn;cases hn
  | some h=>rw [e] at hn;exact ⟨r,hr,h,e,hn⟩
 ·rintro ⟨r,hr,h,e,hn⟩
  exact ⟨r,hr,by rw [e];exact hn⟩
theorem Gr.reach (g:Gr N G B ht BR) (hR:∀ n,(ht n).isSome=true->1<=BR n->n∈R) (low:∀ n c,ht n=some c->c<8) {n:Nat} (hn:ht n=some c):(n:Int)∈Yq B ht R:=by
 have key:∀ {m:Nat},(m:Int)∈Yq B ht R->∃ (c:Nat) (d:Nd),ht m=some c/\B.nodeI (m:Int)=some d/\Zm N ht c d/\(c≠0->∀ i,i<d.n->(d.v i:Int)∈Yq B ht R):=fun {m} hm=>by
  obtain ⟨r,hr,h,e,hm⟩:=qY.1 hm;obtain ⟨m',c,d,e1,e2,e3,e4,e5,e6,e7⟩:=g.in_tree h r e (zq (low r h e)) _ hm;obtain rfl:m=m':=zo;exact ⟨c,d,e2,e4,e5,fun h0 i hi=>qY.2 ⟨r,hr,h,e,e7 h0 i hi⟩⟩
 have:=g.met (D:=fun n=>decide ((n:Int)∈Yq B ht R)) ⟨fun n h=>(by cases h),fun n h _=>by
   obtain ⟨c,d,e,_⟩:=key (of_decide_eq_true h)
   rw [e];rfl,fun n h _ d hd hl i hi=>by
   obtain ⟨c,d',e1,e2,e3,e4⟩:=key (of_decide_eq_true h);obtain rfl:d=d':=yj (hd.symm.trans e2);have hc:=low n c e1;refine yq (e4 (fun h0=>?_) i hi);rw [e3.leaf,h0] at hl
   cases hl⟩ (fun n hs hp=>by
   obtain ⟨c,hc⟩:=yR.1 hs;exact yq (qY.2 ⟨n,hR n hs hp,c,hc,Om B c _⟩)) (fun n c h=>by have:=low n c h;omega) (fun k c h h1=>by have:=low k c h;omega) _ n c hn rfl
 exact of_decide_eq_true this
theorem jQ (N:Nat):∀ L:List Nat,cnt N (fun b=>decide (b∈L))<=L.length
 | []=>by rw [qM fun i _=>by simp];exact yg _
 | x::r=>by
  have ih:=jQ N r;by_cases hx:x<N
  ·have:=xN (p:=fun b=>decide (b∈x::r)) (q:=fun b=>decide (b∈r)) (k:=x) hx fun i _ hi=>by simp [hi]
   rw [yu]
   split at this <;> split at this <;> omega
  ·rw [zZ (q:=fun b=>decide (b∈r)) fun i hi=>by simp [show i≠x by omega],yu]
   omega
theorem nC {p q:Nat->Bool} : ∀ {n:Nat},(∀ i,i<n->p i=true->q i=true)->cnt n p<=cnt n q
 | 0,_=>xd _
 | n+1,h=>by
  have:=nC (p:=p) (q:=q) (n:=n) fun i hi=>h i zo;have h2:=h n zo;unfold cnt
  cases e:p n with
  | false=>simp;omega
  | true=>rw [h2 e];simp;omega
theorem Gr.live_le (g:Gr N G B ht BR) (hR:∀ n,(ht n).isSome=true->1<=BR n->n∈R) (low:∀ n c,ht n=some c->c<8) (hp:∀ b,2<=b->1<=BR b->ht b=none->b∈DL) (hd:∀ r,r∈R->∀ h,ht r=some h->∀ p,p∈zR B h (r:Int)->p.2=0∨p.2∈DL) :
  cnt N B.live<=(Yq B ht R).length+DL.length:=by
 have h1:cnt N B.live<=cnt N fun b=>decide (b∈(Yq B ht R).map Int.toNat++DL):=nC fun b hb hl=>by
  refine yq (yx.2 ?_)
  cases e:ht b with
  | some c =>
   have:=g.reach hR low e;exact .inl (yw.2 ⟨_,this,zaa⟩)
  | none =>
   have h2:=g.two hl hb;have hr:=g.ref b h2 hb;have h0:=(g.good.may hb hl).2.2.1;rw [hl,if_pos rfl] at hr;by_cases hq:1<=BR b
   ·exact .inr (hp b h2 hq e)
   obtain ⟨k,hk,Ms⟩:=Oh (f:=zN B ht b) (n:=N) (by show 0<xq B ht N b;omega);unfold zN at Ms
   split at Ms
   ·rename_i hs
    obtain ⟨c,hc⟩:=yR.1 hs;obtain ⟨r,hrR,h,er,hm⟩:=qY.1 (g.reach hR low hc);obtain ⟨m,c',d,e1,e2,e3,e4,e5,e6,e7⟩:=g.in_tree h r er (zq (low r h er)) _ hm;obtain rfl:k=m:=zo;rw [e4] at Ms;obtain ⟨i,hi,hv⟩:=aq Ms;by_cases Ef:c'=0
    ·rcases hd r hrR h er (d.k i,d.v i) (e6 Ef _ (yw.2 ⟨i,ye.2 hi,rfl⟩)) with q | q
     ·have:d.v i=0:=q
      omega
     ·rw [<- hv];exact .inr q
    ·have:=e5.kid (zq (low k c' e2)) i hi
     rw [hv,e] at this;cases this
   ·omega
 refine qh h1 (qh (jQ N _) ?_);rw [ym,yX];exact xd _
end
def tJ (B:Bs):Prop:=∀ b,b<B.T.n->B.T.kept b≠0->B.page b
theorem tJ.waits (f:tJ B) (ok:B.Ok):B.T.waits=0:=qM fun b hb=>by
 unfold zW.waitB;by_cases e:B.T.kept b=0
 ·simp [e]
 ·obtain ⟨k,i,hk,hi,e'⟩:=f b hb e
  have:=ok.own.now k i hk hi;rw [e'] at this;simp [this]
theorem tJ.kk {B':Bs} (f:tJ B) (k:KK B B') (hn:B'.T.n=B.T.n):tJ B':=fun b hb h=>by
 rw [k.1] at h;rw [hn] at hb;obtain ⟨j,i,hj,hi,e⟩:=f b hb h;exact ⟨j,i,hj,by rw [hn];exact hi,by rw [k.2];exact e⟩
theorem vR (h:16<=N/\N<=4096):tJ (Bs.fmt N):=fun b hb hk=>by
 have F:=Ja h.1;have tn:(Bs.fmt N).T.n=N:=F.tn;obtain ⟨k,i,hk,hi,e⟩:=F.pages b hk;exact ⟨k,i,hk,by rw [tn];exact hi,e⟩
theorem tJ.room {N G:Nat} {B:Bs} (f:tJ B) (g:qy N G B):(N:Int) - 2 - 2*(qu N:Int) - (cnt N B.live:Int)<=B.room:=by
 have h1:=g.ok.room_all;rw [f.waits g.ok,g.n] at h1;unfold Bs.room;rw [h1,g.n];omega
theorem Gr.room_ge {G:Nat} {BR:zF} (g:Gr N G B ht BR) (f:tJ B) (hR:∀ n,(ht n).isSome=true->1<=BR n->n∈R) (low:∀ n c,ht n=some c->c<8) (hp:∀ b,2<=b->1<=BR b->ht b=none->b∈DL) {m:Nat}
  (hd:∀ r,r∈R->∀ h,ht r=some h->zG B h (r:Int) 0 Qu (if h=0 then 1 else 2)=true/\(zR B h (r:Int)).length<=2*m/\∀ p,p∈zR B h (r:Int)->p.2=0∨p.2∈DL):(N:Int) - 2 - 2*(qu N:Int) - (R.length*m+DL.length:Nat)<=B.room:=by
 have h1:=g.live_le hR low hp fun r hr h e=>(hd r hr h e).2.2
 have:(Yq B ht R).length<=R.length*m:=by
  clear h1 hR;unfold Yq
  induction R with
  | nil=>simp
  | cons r R ih =>
   have:=ih fun r' DA=>hd r' (zco _ DA);rw [List.flatMap_cons,ym,yu,Nat.succ_mul]
   cases e:ht r with
   | none=>simp only [List.length_nil];omega
   | some h =>
    obtain ⟨q1,q2,_⟩:=hd r yJ h e;have:=tI q1;simp only;omega
 have:=f.room g.good;omega
def Xn (lo hi:Nat) (p:Nat × Nat):Bool:=decide (lo<=p.1)&&decide (p.1<=hi)
section
variable {N G:Nat} {B B':Bs} {ht B6:Ht} {BR p:Nat->Nat} {x Cb:Nat} {items:List (Nat × Nat)}
theorem Xl.kpt (t:Xl B ht x Cb items) (k:JY N B ht B' B6 p) (hp:x≠0->1<=p x) (h0:ht 0=none):Xl B' B6 x Cb items:=by
 rcases t with t | ⟨h,rfl,h7,t⟩
 ·exact .inl t
 ·have hx:x≠0:=fun e=>by have:=t.top;rw [e,h0] at this;cases this
  obtain ⟨e1,e2⟩:=k.tree x h t.top (hp hx);rw [yS zo] at e2;exact .inr ⟨h,rfl,h7,e1,(e2.1 _ _ _).trans t.right,e2.2.trans t.all⟩
theorem Gr.none0 (g:Gr N G B ht BR):ht 0=none:=by
 cases hq:ht 0 with
 | none=>rfl
 | some q=>have:=g.two (g.lt hq).2 (g.lt hq).1;omega
theorem Xl.walk (t:Xl B ht x Cb items) (g:Gr N G B ht BR) (lo hi:Nat):Xb B lo hi (x:Int)=(items.filter (Xn lo hi)).map fun p=>(p,0):=by
 rcases t with ⟨rfl,-,rfl⟩ | ⟨h,rfl,h7,t⟩
 ·unfold Xb;rw [if_pos (by rfl)];rfl
 ·exact (g.treeIs t.top zo t.right t.all).walk g.good.ok zo lo hi
theorem Xl.asc (t:Xl B ht x Cb items) (ok:B.Ok):Jw items:=by
 rcases t with ⟨-,-,rfl⟩ | ⟨h,rfl,h7,t⟩
 ·exact List.Pairwise.nil
 ·rw [<- t.all];exact (Y3 ok t.right).2
theorem Xl.key_le (t:Xl B ht x Cb items) (ok:B.Ok) (hq:q∈items):q.1<18446744073709551616:=by
 rcases t with ⟨-,-,rfl⟩ | ⟨h,rfl,h7,t⟩
 ·cases hq
 ·rw [<- t.all] at hq
  have:=((Y3 ok t.right).1 q hq).2;unfold Qu at this;omega
theorem Gr.all_vals (g:Gr N G B ht BR):∀ (h x:Nat),ht x=some h->h<100->∀ q,q∈zR B h (x:Int)->q.2=0∨(2<=q.2/\q.2<N)
 | 0,x,hx,_,q,hq=>by
  obtain ⟨_,_,d,hd,nd⟩:=g.node x 0 hx;have e:zR B 0 (x:Int)=d.items:=by show (match B.nodeI (x:Int) with | none=>[] | some d=>d.items)=_;rw [hd]
  rw [e] at hq;obtain ⟨i,hi,rfl⟩:=yw.1 hq;exact nd.val rfl i (ye.1 hi)
 | h+1,x,hx,h100,q,hq=>by
  obtain ⟨_,_,d,hd,nd⟩:=g.node x (h+1) hx;rw [cy hd] at hq;obtain ⟨i,hi,hq⟩:=yH.1 hq;have hk:=nd.kid zo i (ye.1 hi);exact g.all_vals h (d.v i) hk zo q hq
theorem Xl.vals (t:Xl B ht x Cb items) (g:Gr N G B ht BR) (hq:q∈items):q.2=0∨(2<=q.2/\q.2<N):=by
 rcases t with ⟨-,-,rfl⟩ | ⟨h,rfl,h7,t⟩
 ·cases hq
 ·rw [<- t.all] at hq
  exact g.all_vals h x t.top zo q hq
theorem Xl.ne0 (t:Xl B ht x Cb items) (g:Gr N G B ht BR) (hq:q∈items):x≠0:=by
 rcases t with ⟨-,-,rfl⟩ | ⟨h,rfl,h7,t⟩
 ·cases hq
 ·have:=g.two (g.lt t.top).2 (g.lt t.top).1;omega
theorem tK {z:Nat} (hz:z≠0):xt (Xm p z) z=p:=by
 funext b
 unfold xt Xm;rw [if_neg hz];unfold xA
 split <;> omega
end
structure QW (N G:Nat) (B:Bs) (ht:Ht) (BR:zF) (x lo hi:Nat) (items:zL) (z:Nat) (B':Bs) (B6:Ht) (Cw:Nat) (its gone:zL):Prop where
 gr:Gr N G B' B6 (Xm (xt BR x) z)
 tr:Xl B' B6 z Cw its
 kp:JY N B ht B' B6 (xt BR x)
 in_:items.filter (Xn lo hi)=gone++its.filter (Xn lo hi)
 oro:its.filter (fun p => !Xn lo hi p)=items.filter fun p => !Xn lo hi p
 sub:∀ q,q∈its->q∈items
 still:gone=[]->z=x/\B'=B
section
variable {N G:Nat} {B B' B2:Bs} {ht B6 Cg:Ht} {BR:Nat->Nat} {x lo hi z z2 Cb Cw Fg key v:Nat} {items its gone:List (Nat × Nat)}
theorem QW.start (g:Gr N G B ht BR) (t:Xl B ht x Cb items) (hp:x≠0->1<=BR x):QW N G B ht BR x lo hi items x B ht Cb items []:=by
 refine ⟨g.pendc fun b h2 _=>?_,t,JY.refl _ _ _ _,rfl,rfl,fun q h=>h,fun _=>⟨rfl,rfl⟩⟩;unfold Xm;by_cases e:x=0
 ·rw [if_pos e];unfold xt;rw [if_neg zo];rfl
 ·rw [if_neg e]
  unfold xA xt;by_cases q:b=x
  ·rw [if_pos q];rw [q];have:=hp e;omega
  ·rw [if_neg q];rfl
theorem QW.took (C:QW N G B ht BR x lo hi items z B' B6 Cw its gone) (hq:its.filter (Xn lo hi)=q::r) (T:AK N G B' B6 (Xm (xt BR x) z) z Cw q.1 its z2 v B2 Cg Fg) :
  Gr N G B2 Cg (xA (Xm (xt BR x) z2) v)/\JY N B ht B2 Cg (xt BR x)/\(v=0∨(2<=v/\v<N)) /\
  (items.filter (Xn lo hi)=(gone++[q])++(its.filter fun p=>decide (p.1≠q.1)).filter (Xn lo hi)) /\
  ((its.filter fun p=>decide (p.1≠q.1)).filter (fun p => !Xn lo hi p)=items.filter fun p => !Xn lo hi p)/\∀ u,u∈(its.filter fun p=>decide (p.1≠q.1))->u∈items:=by
 have hqm:q∈its.filter (Xn lo hi):=by rw [hq];exact yJ
 obtain ⟨T6,SU⟩:=yG.1 hqm;have hz:z≠0:=C.tr.ne0 C.gr T6;have g:=T.gr;have k:=T.kp;rw [tK hz] at g k;have ha:=C.tr.asc C.gr.good.ok;refine ⟨g,C.kp.trans k fun b h=>h,C.tr.vals C.gr T.val,?_,?_,fun u hu=>C.sub u (yG.1 hu).1⟩
 ·have e:(its.filter fun p=>decide (p.1≠q.1)).filter (Xn lo hi)=r:=by
   have e1:(its.filter fun p=>decide (p.1≠q.1)).filter (Xn lo hi)=(its.filter (Xn lo hi)).filter fun p=>decide (p.1≠q.1):=by
    rw [List.filter_filter,List.filter_filter];exact List.filter_congr fun p _=>Bool.and_comm _ _
   have ha2:(q::r).Pairwise fun a b=>a.1<b.1:=by rw [<- hq];exact List.Pairwise.filter _ ha
   rw [e1,hq,List.filter_cons,if_neg zaa,List.filter_eq_self];intro a har;have:=(List.pairwise_cons.1 ha2).1 a har;simp;omega
  rw [e,C.in_,hq,zf];rfl
 ·rw [<- C.oro,List.filter_filter]
  refine List.filter_congr fun p hp=>?_
  cases e:Xn lo hi p with
  | true=>rfl
  | false =>
   have:p.1≠q.1:=fun h=>by
    unfold Xn at e SU;rw [h,SU] at e;cases e
   simp [this]
theorem QW.next0 (C:QW N G B ht BR x lo hi items z B' B6 Cw its gone) (hq:its.filter (Xn lo hi)=q::r) (T:AK N G B' B6 (Xm (xt BR x) z) z Cw q.1 its z2 0 B2 Cg Fg) :
  QW N G B ht BR x lo hi items z2 B2 Cg Fg (its.filter fun p=>decide (p.1≠q.1)) (gone++[q]):=by
 obtain ⟨g,k,-,h1,h2,h3⟩:=C.took hq T;refine ⟨g.pendc fun b hb _=>?_,T.tr,k,h1,h2,h3,fun e=>absurd e zaa⟩;unfold xA;rw [if_neg zo];rfl
theorem QW.next (C:QW N G B ht BR x lo hi items z B' B6 Cw its gone) (hq:its.filter (Xn lo hi)=q::r) (T:AK N G B' B6 (Xm (xt BR x) z) z Cw q.1 its z2 v B2 Cg Fg) (hv:v≠0) :
  v<N/\B2.downE (v:Int)=0/\QW N G B ht BR x lo hi items z2 (B2.down (v:Int)) Cg Fg (its.filter fun p=>decide (p.1≠q.1)) (gone++[q]):=by
 obtain ⟨g,k,Rs,h1,h2,h3⟩:=C.took hq T;obtain ⟨v2,vN⟩:2<=v/\v<N:=zo;obtain ⟨e1,L⟩:=g.less vN v2 (by unfold xA;rw [if_pos rfl];omega) T.flat
 have el:xt (xA (Xm (xt BR x) z2) v) v=Xm (xt BR x) z2:=by
  funext b
  unfold xt xA
  split <;> omega
 have gg:=L.gr;have kk:=L.kp;rw [el] at gg kk
 have Dl:∀ b,xt BR x b<=Xm (xt BR x) z2 b:=fun b=>by
  unfold Xm
  split
  ·exact xd _
  ·unfold xA;omega
 refine ⟨vN,e1,gg,T.tr.kpt kk (fun hz=>?_) g.none0,k.trans kk fun b hb=>qh hb (Dl b),h1,h2,h3,fun e=>absurd e zaa⟩;unfold Xm;rw [if_neg hz];unfold xA;rw [if_pos rfl];omega
theorem QW.all (C:QW N G B ht BR x lo hi items z B' B6 Cw its gone) (h:its.filter (Xn lo hi)=[]):its=items.filter (fun p => !Xn lo hi p)/\gone=items.filter (Xn lo hi):=by
 have e:=C.in_;rw [h,yY] at e;refine ⟨?_,e.symm⟩;rw [<- C.oro,List.filter_eq_self.2 fun p hp=>?_]
 cases q:Xn lo hi p with
 | false=>rfl
 | true =>
  have:p∈its.filter (Xn lo hi):=yG.2 ⟨hp,q⟩;rw [h] at this;cases this
end
open Go.RowKit
section
variable {w:World} {M:Bm} {F:List Nat} {B:Bs}
theorem jR (hb:zx w M F B) (hn:16<=B.T.n):zC 11 #[zP M.b,.int .i64 0] w fun e w'=>e = .returned (.tuple #[.int .i64 0,.int .i64 0])/\w'=w:=by
 have cb:=hb.cBlocks;obtain ⟨n,hn'⟩:=zE B.T.n;rw [<- hn'] at cb hn;have:((n:Int)==0)=false:=by rw [yD];omega
 clear hb hn';go_enter Tryz.func11,Tryz.ntmps11;go_wp2_with fail;refine zm (cb) ?_;go_wp2_with fail
 go_ret2
 exact ⟨rfl,rfl⟩
theorem pC (hb:zx w M F B) (hF:∀ q,q∈F->q<w.heap.size) (hn:16<=B.T.n) (hd:B.nodeI (x:Int)=some d) (hu:B.upE (x:Int)=0) (LM:x≠0) :
  zC 11 #[zP M.b,.int .i64 (x:Int)] w fun e w'=>e = .returned (.tuple #[.int .i64 (x:Int),.int .i64 0])/\zx w' M F (B.up (x:Int))/\zv M.L w w':=by
 have cb:=hb.cBlocks;have cn:=Yp hb hd
 have cu:∀ W,zv [] w W->zC 29 #[zP M.b,zI x] W fun e w'=>e = .returned (.int .i64 0)/\zx w' M F (B.up (x:Int))/\zv M.L W w':=fun W c=>by
  have:=lE (hb.chg c) (fun q hq=>qe (hF q hq) c.size) (x:Int);rwa [hu] at this
 obtain ⟨n,hn'⟩:=zE B.T.n;rw [<- hn'] at cb hn;have n0:((n:Int)==0)=false:=by rw [yD];omega
 have x0:((x:Int)==0)=false:=by rw [yD];omega
 have CU:=zh cu;have CN:=zh cn;clear hb hF hd hu LM cn cu hn';go_enter Tryz.func11,Tryz.ntmps11;go_wp2_with fail;refine zm (cb) ?_;go_wp2_with fail;refine CN.mono ?_;clear CN;rintro e w1 ⟨kx,vx,rfl,k1,k2,rk,rv,c5⟩;have Cn:=(zv.refl [] w1).alloc (.cells #[.bool d.leaf,zS kx d.n d.n,zS vx d.n d.n] 42);have HC:=zh (c5.trans Cn);clear k1 k2 rk rv c5 Cn;go_upto_region 6 with fail;generalize w1.alloc (.cells #[.bool d.leaf,zS kx d.n d.n,zS vx d.n d.n] 42)=W at *;go_wp2_with fail;refine (CU _ HC).mono ?_;rintro e w3 ⟨rfl,Du,c3⟩;have H3:=zh (zA Du ((HC.mo:zv M.L w _).trans c3));clear Du c3;go_wp2_with fail
 go_ret2
 exact ⟨rfl,H3⟩
end
end Go.Proofs.YtegpiomkmfhadaaGreat
