/- Layer 11's statements: what an operatio -/
import Derived.Test.YtegpiomkmfhadaaGreatZo23
set_option linter.all false
set_option maxRecDepth 100000
set_option maxHeartbeats 20000000
namespace Go.Proofs.YtegpiomkmfhadaaGreat
open Go.RowKit
variable {N G:Nat} {B:Bs} {S:St}
theorem qy.up_ (h:qy N G B) {x:Nat} (hx:x<N) (hl:B.live x=true) (hm:B.T.now x<65535) :
  B.upE (x:Int)=0/\B.up (x:Int)=B.counted (B.T.set x (B.T.now x+1)) x/\qy N G (B.up (x:Int))/\(∀ b,(B.up (x:Int)).live b=B.live b):=by
 obtain ⟨h1,h2,h3,h4⟩:=h.may hx hl;have hg:getV B.T (x:Int)=(B.T.now x:Int):=Ve (by rw [h.n];exact hx);have EX:¬ getV B.T (x:Int)=0:=by rw [hg];omega
 have hh:=(x7 B.T (x:Int)).2 (zq h.n)
 have hd:Proofs.YtegpiomkmfhadaaGreat.upE B.T (x:Int)=0:=by
  have:B.T.now x≠65535:=zo;simp [Proofs.YtegpiomkmfhadaaGreat.upE,hh,this]
 have e1:B.upE (x:Int)=0:=by unfold Bs.upE;rw [h2,if_pos rfl,if_neg EX];exact hd
 have e2:B.up (x:Int)=B.counted (B.T.set x (B.T.now x+1)) x:=by
  unfold Bs.up;rw [h2,yC EX,if_pos (show (true && !false)=true from rfl),yz];unfold Proofs.YtegpiomkmfhadaaGreat.up;rw [hd,if_pos rfl,yz]
 have DD:∀ b,(B.counted (B.T.set x (B.T.now x+1)) x).live b=B.live b:=fun b=>by
  show ((if b=x then B.T.now x+1 else B.T.now b) != 0 && !bG B b)=(B.T.now b != 0 && !bG B b)
  by_cases e:b=x
  ·subst e
   rw [if_pos rfl];have:B.T.now b+1≠0:=zo;simp [h3]
  ·rw [if_neg e]
 refine ⟨e1,e2,?_,?_⟩
 ·rw [e2]
  refine h.turn (h.ok.counted_ok h3 h2 zo) rfl rfl ?_;have hw:=Ze B.T (b:=x) (B.T.now x+1) (by rw [h.n];exact hx);have w1:B.T.waitB x=false:=by unfold zW.waitB;simp [h3]
  have w2:(B.T.set x (B.T.now x+1)).waitB x=false:=by
   unfold zW.waitB zW.set;simp
  rw [w1,w2] at hw;have ew:(B.counted (B.T.set x (B.T.now x+1)) x).T.waits=(B.T.set x (B.T.now x+1)).waits:=rfl;rw [ew,zZ (fun b _=>DD b)];simp at hw;omega
 ·rw [e2];exact DD
end Go.Proofs.YtegpiomkmfhadaaGreat
namespace Go.Proofs.YtegpiomkmfhadaaGreat
variable {n b i h x z c fuel:Nat} {d:Nd} {o oi:Oper} {B B':Bs} {w:World} {M:Bm} {F A D rs:List Nat} {leaf:Bool} {keys vals:zF} {vk vv v:Value} {l listed:Array Bool} {a:Act} {P:Program} {ops:Array Oper} {Q:Exit->Act->World->Prop} {md:Region.Mode} {R:World->Prop}
def Yz (f:zF):Nat->Nat
 | 0=>0
 | n+1=>Yz f n+f n
theorem qq {f g:zF} : ∀ {n:Nat},(∀ i,i<n->f i=g i)->Yz f n=Yz g n
 | 0,_=>rfl
 | n+1,h=>by unfold Yz;rw [qq (fun i hi=>h i zo),h n zo]
theorem qA {f g:zF} {k:Nat} : ∀ {n:Nat},k<n->(∀ i,i<n->i≠k->f i=g i)->Yz f n+g k=Yz g n+f k
 | 0,h,_=>zo
 | n+1,h,hfg=>by
  unfold Yz;by_cases e:k=n
  ·subst e
   rw [qq (n:=k) (fun i hi=>hfg i zo zo)];omega
  ·have:=qA (f:=f) (g:=g) (k:=k) (n:=n) zo (fun i hi he=>hfg i zo he)
   rw [hfg n zo (fun q=>e q.symm)];omega
theorem ju {f:zF} : ∀ {n k:Nat},k<n->f k<=Yz f n
 | 0,k,h=>zo
 | n+1,k,h=>by
  unfold Yz;by_cases e:k=n
  ·subst e;omega
  ·have:=ju (f:=f) (n:=n) (k:=k) zo;omega
theorem VD {f:zF} {c:Nat} (h:∀ i,f i<=c):∀ n,Yz f n<=n*c
 | 0=>by simp [Yz]
 | n+1=>by unfold Yz;have:=VD h n;have:=h n;rw [Nat.succ_mul];omega
theorem JS {f:zF} (h:∀ i,i<n->f i=0):Yz f n=0:=by
 rw [qq (g:=fun _=>0) h];clear h
 induction n with
 | zero=>rfl
 | succ n ih=>unfold Yz;rw [ih]
theorem Oh {f:zF} : ∀ {n:Nat},0<Yz f n->∃ k,k<n/\0<f k
 | 0,h=>by simp [Yz] at h
 | n+1,h=>by
  unfold Yz at h;by_cases e:0<f n
  ·exact ⟨n,zo,e⟩
  ·obtain ⟨k,hk,h2⟩:=Oh (f:=f) (n:=n) zo
   exact ⟨k,zo,h2⟩
def xi (d:Nd) (b:Nat):Nat:=cnt d.n fun i=>decide (d.v i=b)
def lP (o:Option Nd) (b:Nat):Nat:=match o with | some d=>xi d b | none=>0
theorem bI (d:Nd) (b:Nat):xi d b<=d.n:=Yj _ _
theorem aq (h:0<xi d b):∃ i,i<d.n/\d.v i=b:=by
 unfold xi at h
 induction hn:d.n with
 | zero=>rw [hn] at h;simp [cnt] at h
 | succ n ih =>
  clear ih;by_cases q:∃ i,i<n+1/\d.v i=b
  ·exact q
  ·exfalso
   rw [qM (fun i hi=>by
    rw [hn] at hi;simp only [decide_eq_false_iff_not];exact fun e=>q ⟨i,hi,e⟩)] at h
   omega
theorem xK (hi:i<d.n) (hb:d.v i=b):0<xi d b:=by
 have:=xN (p:=fun i=>decide (d.v i=b)) (q:=fun j=>decide (d.v j=b)&&decide (j≠i)) (k:=i) (n:=d.n) hi (fun j _ hj=>by simp [hj]);simp [hb] at this;unfold xi;omega
abbrev Ht:=Nat->Option Nat
def zN (B:Bs) (ht:Ht) (b n:Nat):Nat:=if (ht n).isSome then lP (B.nodeI (n:Int)) b else 0
def xq (B:Bs) (ht:Ht) (N b:Nat):Nat:=Yz (zN B ht b) N
structure Zm (N:Nat) (ht:Ht) (h:Nat) (d:Nd):Prop where
 leaf:d.leaf=decide (h % 100=0)
 kid:h % 100≠0->∀ i,i<d.n->ht (d.v i)=some (h - 1)
 val:h % 100=0->∀ i,i<d.n->d.v i=0∨(2<=d.v i/\d.v i<N)
 flat:h=0->∀ i,i<d.n->d.v i≠0->ht (d.v i)=none
theorem Zm.congr {N:Nat} {ht B6:Ht} (a:Zm N ht h d) (e:∀ i,i<d.n->B6 (d.v i)=ht (d.v i)):Zm N B6 h d :=
 ⟨a.leaf,fun h0 i hi=>(e i hi).trans (a.kid h0 i hi),a.val,fun h0 i hi hv=>(e i hi).trans (a.flat h0 i hi hv)⟩
structure Gr (N G:Nat) (B:Bs) (ht:Ht) (BR:zF):Prop where
 good:qy N G B
 node:∀ n h,ht n=some h->n<N/\B.live n=true/\∃ d,B.nodeI (n:Int)=some d/\Zm N ht h d
 ref:∀ b,2<=b->b<N->BR b+xq B ht N b=if B.live b then B.T.now b else 0
section
variable {N G:Nat} {B:Bs} {ht:Ht} {BR:Nat->Nat}
theorem Gr.lt (g:Gr N G B ht BR) (hn:ht n=some h):n<N/\B.live n=true:=⟨(g.node n h hn).1,(g.node n h hn).2.1⟩
theorem Gr.two (g:Gr N G B ht BR) (hl:B.live n=true) (hn:n<N):2<=n:=(g.good.may hn hl).1
theorem Gr.live_of (g:Gr N G B ht BR) (h2:2<=b) (hN:b<N) (h:0<BR b+xq B ht N b):B.live b=true:=by
 have:=g.ref b h2 hN
 cases hl:B.live b with
 | true=>rfl
 | false=>rw [hl] at this;simp at this;omega
theorem ZR (hn:n<N) (hh:ht n=some h) (hd:B.nodeI (n:Int)=some d) (b:Nat):xi d b<=xq B ht N b:=by
 have:=ju (f:=zN B ht b) hn;unfold zN at this;rw [hh,hd] at this;exact this
theorem Gr.val_live (g:Gr N G B ht BR) (hh:ht n=some h) (hd:B.nodeI (n:Int)=some d) (hi:i<d.n) (h0:d.v i≠0):2<=d.v i/\d.v i<N/\B.live (d.v i)=true:=by
 obtain ⟨hn,hl,d',hd',nd⟩:=g.node n h hh;rw [hd] at hd';cases hd'
 have hb:2<=d.v i/\d.v i<N:=by
  by_cases e:h % 100=0
  ·rcases nd.val e i hi with q | q
   ·exact absurd q h0
   ·exact q
  ·have:=g.lt (nd.kid e i hi)
   exact ⟨g.two this.2 this.1,this.1⟩
 refine ⟨hb.1,hb.2,g.live_of hb.1 hb.2 ?_⟩;have h1:=ZR (N:=N) hn hh hd (d.v i);have h2:=xK hi (rfl:d.v i=d.v i);omega
theorem Gr.now_le (g:Gr N G B ht BR) (h2:2<=b) (hN:b<N) (hl:B.live b=true):B.T.now b<=BR b+N*7:=by
 have h:=g.ref b h2 hN;rw [hl,if_pos rfl] at h
 have:xq B ht N b<=N*7:=VD (fun n=>by
  unfold zN
  split
  ·unfold lP
   cases hd:B.nodeI (n:Int) with
   | none=>exact yg _
   | some d=>exact qh (bI d b) (zq ((g.good.ok.node_ok hd).1.n))
  ·exact yg _) N
 omega
end
def zY (ht:Ht) (x:Nat) (o:Option Nat):Ht:=fun n=>if n=x then o else ht n
theorem zH {ht:Ht} {o:Option Nat} : zY ht x o x=o:=if_pos rfl
theorem zy {ht:Ht} {o:Option Nat} (h:n≠x):zY ht x o n=ht n:=if_neg h
section
variable {N G:Nat} {B:Bs} {ht:Ht} {BR:Nat->Nat}
theorem QQ (hn:B'.T.n=B.T.n) (h:B'.read x=B.read x):B'.nodeI (x:Int)=B.nodeI (x:Int):=by
 unfold Bs.nodeI Bs.inI;rw [hn,yz,h]
theorem Gr.up (g:Gr N G B ht BR) {x:Nat} (hx:x<N) (hl:B.live x=true) (hm:B.T.now x<65535) :
  B.upE (x:Int)=0/\Gr N G (B.up (x:Int)) ht (fun b=>if b=x then BR b+1 else BR b)/\(∀ n:Nat,(B.up (x:Int)).nodeI (n:Int)=B.nodeI (n:Int))/\(∀ b,(B.up (x:Int)).live b=B.live b)/\(∀ b,(B.up (x:Int)).T.now b=if b=x then B.T.now x+1 else B.T.now b)/\(B.up (x:Int)).room=B.room/\(∀ b,(B.up (x:Int)).fr b=B.fr b):=by
 obtain ⟨e1,e2,g2,DD⟩:=g.good.up_ hx hl hm;have h0:=(g.good.may hx hl).2.2.1
 have Fa:∀ b,(B.up (x:Int)).fr b=B.fr b:=fun b=>by
  rw [e2]
  show (if b=x/\(if x=x then B.T.now x+1 else B.T.now x)=0 then none else B.fr b)=_
  rw [if_neg (fun q=>by have:=q.2;rw [if_pos rfl] at this;omega)]
 have Cp:∀ n:Nat,(B.up (x:Int)).nodeI (n:Int)=B.nodeI (n:Int):=fun n=>by
  refine QQ (by rw [e2];rfl) ?_;unfold Bs.read;rw [Fa];rw [e2];rfl
 have DX:∀ b,(B.up (x:Int)).T.now b=if b=x then B.T.now x+1 else B.T.now b:=fun b=>by rw [e2];rfl
 have EW:∀ b,xq (B.up (x:Int)) ht N b=xq B ht N b:=fun b=>qq fun n _=>by unfold zN;rw [Cp]
 have Er:(B.up (x:Int)).room=B.room:=by
  have r1:=g.good.room;have r2:=g2.room
  have hw:(B.up (x:Int)).T.waits=B.T.waits:=by
   have:=Ze B.T (b:=x) (B.T.now x+1) (by rw [g.good.n];exact hx);have w1:B.T.waitB x=false:=by unfold zW.waitB;simp [h0]
   have w2:(B.T.set x (B.T.now x+1)).waitB x=false:=by unfold zW.waitB zW.set;simp
   rw [w1,w2] at this;rw [e2];exact this
  rw [zZ (q:=B.live) (fun b _=>DD b),hw] at r2;omega
 refine ⟨e1,⟨g2,fun n h hn=>?_,fun b h2 hN=>?_⟩,Cp,DD,DX,Er,Fa⟩
 ·obtain ⟨a1,a2,d,a3,a4⟩:=g.node n h hn
  exact ⟨a1,by rw [DD];exact a2,d,by rw [Cp];exact a3,a4⟩
 ·have:=g.ref b h2 hN
  rw [EW,DD,DX];by_cases e:b=x
  ·subst e
   rw [hl,if_pos rfl] at this;rw [hl,if_pos rfl,if_pos rfl,if_pos rfl];omega
  ·rw [if_neg e,if_neg e];exact this
theorem Gr.down2 (g:Gr N G B ht BR) (hx:x<N) (FO:2<=x) (hp:1<=BR x) (hm:2<=B.T.now x) :
  B.downE (x:Int)=0/\Gr N G (B.down (x:Int)) ht (fun b=>if b=x then BR b - 1 else BR b)/\(∀ n:Nat,(B.down (x:Int)).nodeI (n:Int)=B.nodeI (n:Int))/\(∀ b,(B.down (x:Int)).live b=B.live b)/\(∀ b,(B.down (x:Int)).T.now b=if b=x then B.T.now x - 1 else B.T.now b)/\(B.down (x:Int)).room=B.room/\(∀ b,(B.down (x:Int)).fr b=B.fr b):=by
 have hl:B.live x=true:=g.live_of FO hx zo;obtain ⟨e1,e2⟩:=Vx g.good hx hl;obtain ⟨g2,DD,DX,hk,-,IX⟩:=g.good.down_ hx hl
 have Gu:∀ b,(B.down (x:Int)).live b=B.live b:=fun b=>by
  rw [DD];by_cases e:b=x
  ·subst e;rw [if_pos rfl,hl,yq hm]
  ·rw [if_neg e]
 have Fa:∀ b,(B.down (x:Int)).fr b=B.fr b:=fun b=>by
  rw [e2]
  show (if b=x/\(if x=x then B.T.now x - 1 else B.T.now x)=0 then none else B.fr b)=_
  rw [if_neg (fun q=>by have:=q.2;rw [if_pos rfl] at this;omega)]
 have Cp:∀ n:Nat,(B.down (x:Int)).nodeI (n:Int)=B.nodeI (n:Int):=fun n=>by
  refine QQ (by rw [e2];rfl) ?_;unfold Bs.read;rw [Fa];rw [e2];rfl
 have EW:∀ b,xq (B.down (x:Int)) ht N b=xq B ht N b:=fun b=>qq fun n _=>by unfold zN;rw [Cp]
 have Er:(B.down (x:Int)).room=B.room:=by
  have r1:=g.good.room;have r2:=g2.room
  have hw:(B.down (x:Int)).T.waits=B.T.waits:=by
   have:=Ze B.T (b:=x) (B.T.now x - 1) (by rw [g.good.n];exact hx);have w1:B.T.waitB x=false:=by unfold zW.waitB;have:B.T.now x≠0:=zo;simp [this]
   have w2:(B.T.set x (B.T.now x - 1)).waitB x=false:=by unfold zW.waitB zW.set;have:B.T.now x - 1≠0:=zo;simp [this]
   rw [w1,w2] at this;rw [e2];exact this
  rw [zZ (q:=B.live) (fun b _=>Gu b),hw] at r2;omega
 refine ⟨e1,⟨g2,fun n h hn=>?_,fun b h2 hN=>?_⟩,Cp,Gu,DX,Er,Fa⟩
 ·obtain ⟨a1,a2,d,a3,a4⟩:=g.node n h hn
  exact ⟨a1,by rw [Gu];exact a2,d,by rw [Cp];exact a3,a4⟩
 ·have:=g.ref b h2 hN
  rw [EW,Gu,DX];by_cases e:b=x
  ·subst e
   rw [hl,if_pos rfl] at this;rw [hl,if_pos rfl,if_pos rfl,if_pos rfl];omega
  ·rw [if_neg e,if_neg e];exact this
theorem lQ (hn:B.T.n=N) (hx:x<N) (h1:B.T.now x=1):(B.T.set x (B.T.now x - 1)).waits=B.T.waits+(if B.T.kept x=0 then 0 else 1):=by
 have hw:=Ze B.T (b:=x) (B.T.now x - 1) (by rw [hn];exact hx);have w1:B.T.waitB x=false:=by unfold zW.waitB;simp [h1]
 have w2:(B.T.set x (B.T.now x - 1)).waitB x=decide (B.T.kept x≠0):=by
  unfold zW.waitB zW.set;by_cases q:B.T.kept x=0 <;> simp [h1,q]
 rw [w1,w2] at hw;by_cases q:B.T.kept x=0
 ·rw [if_pos q];simp [q] at hw;exact hw
 ·rw [if_neg q];simp [q] at hw;exact hw
theorem Gr.down1 (g:Gr N G B ht BR) (hx:x<N) (FO:2<=x) (hp:1<=BR x) (hm:B.T.now x=1) :
  B.downE (x:Int)=0/\Gr N G (B.down (x:Int)) (zY ht x none) (fun b=>(if b=x then 0 else BR b)+zN B ht b x)/\(∀ n:Nat,n≠x->(B.down (x:Int)).nodeI (n:Int)=B.nodeI (n:Int))/\(∀ b,(B.down (x:Int)).live b=if b=x then false else B.live b)/\(∀ b,(B.down (x:Int)).T.now b=if b=x then 0 else B.T.now b)/\(B.down (x:Int)).room=B.room+(if B.T.kept x=0 then 1 else 0)/\(∀ b,b≠x->(B.down (x:Int)).fr b=B.fr b)/\BR x=1/\xq B ht N x=0:=by
 have hl:B.live x=true:=g.live_of FO hx zo;have KF:=g.ref x FO hx;rw [hl,if_pos rfl,hm] at KF;have L9:xq B ht N x=0:=zo
 obtain ⟨e1,e2⟩:=Vx g.good hx hl;obtain ⟨g2,DD,DX,hk,-,IX⟩:=g.good.down_ hx hl
 have Gu:∀ b,(B.down (x:Int)).live b=if b=x then false else B.live b:=fun b=>by
  rw [DD,hm];rfl
 have Rd:∀ b,(B.down (x:Int)).T.now b=if b=x then 0 else B.T.now b:=fun b=>by rw [DX,hm]
 have Fa:∀ b,b≠x->(B.down (x:Int)).fr b=B.fr b:=fun b hb=>by
  rw [e2]
  show (if b=x/\_ then none else B.fr b)=_
  rw [if_neg (fun q=>hb q.1)]
 have Cp:∀ n:Nat,n≠x->(B.down (x:Int)).nodeI (n:Int)=B.nodeI (n:Int):=fun n hn=>by
  refine QQ (by rw [e2];rfl) ?_;unfold Bs.read;rw [Fa n hn];rw [e2];rfl
 have EW:∀ b,xq B ht N b=xq (B.down (x:Int)) (zY ht x none) N b+zN B ht b x:=fun b=>by
  have:=qA (f:=zN B ht b) (g:=zN (B.down (x:Int)) (zY ht x none) b) (k:=x) (n:=N) hx (fun i _ hi=>by unfold zN;rw [zy hi,Cp i hi]);have h0:zN (B.down (x:Int)) (zY ht x none) b x=0:=by unfold zN;rw [zH];rfl
  rw [h0] at this;exact this
 have Er:(B.down (x:Int)).room=B.room+(if B.T.kept x=0 then 1 else 0):=by
  have r1:=g.good.room;have r2:=g2.room
  have hw:(B.down (x:Int)).T.waits=B.T.waits+(if B.T.kept x=0 then 0 else 1):=by
   rw [e2];exact lQ g.good.n hx hm
  have hc:=xN (p:=B.live) (q:=(B.down (x:Int)).live) (k:=x) (n:=N) hx (fun i _ hi=>by rw [Gu i,if_neg hi]);rw [Gu x,if_pos rfl,hl] at hc;simp at hc;rw [hw] at r2;by_cases q:B.T.kept x=0
  ·rw [if_pos q] at r2 ⊢;omega
  ·rw [if_neg q] at r2 ⊢;omega
 refine ⟨e1,⟨g2,fun n h hn=>?_,fun b h2 hN=>?_⟩,Cp,Gu,Rd,Er,Fa,zo,L9⟩
 ·have BU:n≠x:=fun e=>by subst e;rw [zH] at hn;cases hn
  rw [zy BU] at hn;obtain ⟨a1,a2,d,a3,a4⟩:=g.node n h hn;refine ⟨a1,by rw [Gu,if_neg BU];exact a2,d,by rw [Cp n BU];exact a3,a4.congr fun i hi=>zy fun e=>?_⟩;have h1:=ZR (N:=N) a1 hn a3 (d.v i);have h2:=xK hi (rfl:d.v i=d.v i);rw [e,L9] at h1;rw [e] at h2;omega
 ·have h0:=g.ref b h2 hN
  have h1:=EW b;rw [Gu,Rd];by_cases e:b=x
  ·subst e
   rw [if_pos rfl,if_pos rfl];rw [L9] at h1;simp;omega
  ·rw [if_neg e,if_neg e,if_neg e]
   omega
theorem Gr.put (g:Gr N G B ht BR) (hr:0<B.room) {f:zF} (hf:∀ i,i<128->f i<=255) {d:Nd} {h:Nat} (hd:Y2 f=some d) (nd:Zm N ht h d) {p:zF} (hp:∀ b,2<=b->b<N->BR b=p b+xi d b) :
  Gr N G (B.put f) (zY ht B.at_ (some h)) (fun b=>if b=B.at_ then 1 else p b)/\(B.put f).nodeI (B.at_:Int)=some d/\(∀ n:Nat,n≠B.at_->(B.put f).nodeI (n:Int)=B.nodeI (n:Int))/\ht B.at_=none/\2<=B.at_/\B.at_<N/\BR B.at_=0/\(B.put f).room=B.room - 1/\(∀ b,(B.put f).live b=(decide (b=B.at_)||B.live b)):=by
 obtain ⟨g2,l0,h2,hN,DD,-,-,Er,-⟩:=g.good.put_ hr hf;have FI:=g.ref B.at_ h2 hN;rw [l0] at FI;simp at FI
 have GE:ht B.at_=none:=by
  cases hq:ht B.at_ with
  | none=>rfl
  | some q=>have:=(g.lt hq).2;rw [l0] at this;cases this
 have Cp:(B.put f).nodeI (B.at_:Int)=some d:=by
  have:(B.put f).nodeI (B.at_:Int)=Y2 f:=by
   unfold Bs.nodeI;rw [if_pos (Qd.2 ⟨zo,by show (B.at_:Int)<(B.T.n:Int);rw [g.good.n];omega⟩),yz];congr 1;unfold Bs.read Bs.put;simp
  rw [this,hd]
 have DH:∀ n:Nat,n≠B.at_->(B.put f).nodeI (n:Int)=B.nodeI (n:Int):=fun n hn=>Od zo
 have EW:∀ b,xq (B.put f) (zY ht B.at_ (some h)) N b=xq B ht N b+xi d b:=fun b=>by
  have:=qA (f:=zN B ht b) (g:=zN (B.put f) (zY ht B.at_ (some h)) b) (k:=B.at_) (n:=N) hN (fun i _ hi=>by unfold zN;rw [zy hi,DH i hi]);have h0:zN B ht b B.at_=0:=by unfold zN;rw [GE];rfl
  have h1:zN (B.put f) (zY ht B.at_ (some h)) b B.at_=xi d b:=by unfold zN;rw [zH,Cp];rfl
  rw [h0,h1] at this;exact this.symm
 refine ⟨⟨g2,fun n h' hn=>?_,fun b M3 Ij=>?_⟩,Cp,DH,GE,h2,hN,FI.1,Er,DD⟩
 ·by_cases e:n=B.at_
  ·subst e
   rw [zH] at hn;obtain rfl:h=h':=yj hn;refine ⟨hN,by rw [DD];simp,d,Cp,nd.congr fun i hi=>zy fun q=>?_⟩;have h1:=hp B.at_ h2 hN;have h2':=xK hi q;omega
  ·rw [zy e] at hn
   obtain ⟨a1,a2,d',a3,a4⟩:=g.node n h' hn;refine ⟨a1,by rw [DD,a2,Bool.or_true],d',by rw [DH n e];exact a3,a4.congr fun i hi=>zy fun q=>?_⟩;have h1:=ZR (N:=N) a1 hn a3 B.at_;have h2':=xK hi q;omega
 ·have h0:=g.ref b M3 Ij
  have ME:=hp b M3 Ij;rw [EW,DD]
  show (if b=B.at_ then 1 else p b)+_=if _ then (if b=B.at_ then 1 else B.T.now b) else 0
  by_cases e:b=B.at_
  ·subst e
   rw [if_pos rfl,if_pos rfl,yq rfl,Bool.true_or,if_pos rfl];omega
  ·rw [if_neg e,if_neg e,yC e,Bool.false_or]
   omega
theorem Zn (hd:B.nodeI (x:Int)=some d):z9 B (h+1) (x:Int)=(x:Int)::(List.range d.n).flatMap fun i=>z9 B h (d.v i:Int):=by
 show (match B.nodeI (x:Int) with | none=>_ | some d=>_)=_
 rw [hd]
theorem Gr.blks (g:Gr N G B ht BR) (hz:xq B ht N z=0):∀ (c x:Nat),ht x=some c->x≠z->∀ b,b∈z9 B (c % 100) (x:Int)->∃ n:Nat,b=(n:Int)/\(ht n).isSome=true/\n≠z:=by
 intro c
 induction hk:c % 100 generalizing c with
 | zero =>
  intro x hx Td b hb;unfold z9 at hb;simp only [zms] at hb;exact ⟨x,hb,by rw [hx];rfl,Td⟩
 | succ k ih =>
  intro x hx Td b hb;obtain ⟨Eh,_,d,hd,nd⟩:=g.node x c hx;rw [Zn hd] at hb;rcases ya.1 hb with rfl | hb
  ·exact ⟨x,rfl,by rw [hx];rfl,Td⟩
  ·obtain ⟨i,hi,hb⟩:=yH.1 hb
   have hi:=ye.1 hi;refine ih (c - 1) zo (d.v i) (nd.kid zo i hi) (fun e=>?_) b hb;have:=ZR (N:=N) Eh hx hd z;have:=xK hi e;omega
def xV (B B':Bs) (h x y:Nat):Prop:=(∀ lo hi least,zG B' h (y:Int) lo hi least=zG B h (x:Int) lo hi least)/\zR B' h (y:Int)=zR B h (x:Int)
theorem xV.refl (B:Bs) (h x:Nat):xV B B h x x:=⟨fun _ _ _=>rfl,rfl⟩
theorem xV.trans {B B' Pw:Bs} {h x y z:Nat} (a:xV B B' h x y) (b:xV B' Pw h y z):xV B Pw h x z:=⟨fun lo hi least=>(b.1 lo hi least).trans (a.1 lo hi least),b.2.trans a.2⟩
theorem Gr.tree (g:Gr N G B ht BR) (hn:B'.T.n=B.T.n) (hz:xq B ht N z=0) (same:∀ n:Nat,(ht n).isSome=true->n≠z->B'.nodeI (n:Int)=B.nodeI (n:Int)) (hx:ht x=some c) (Td:x≠z):xV B B' (c % 100) x x:=by
 have hb:∀ b,b∈z9 B (c % 100) (x:Int)->B'.nodeI b=B.nodeI b:=fun b hb=>by
  obtain ⟨n,rfl,hn,BU⟩:=g.blks hz c x hx Td b hb;exact same n hn BU
 refine ⟨fun lo hi least=>?_,?_⟩
 ·exact (Qf (B:=B) (B':=B') hn (lo:=lo) (hi:=hi) (least:=least) (h:=c % 100) (x:=(x:Int)) hb).1
 ·exact (Qf (B:=B) (B':=B') hn (lo:=0) (hi:=0) (least:=0) (h:=c % 100) (x:=(x:Int)) hb).2.1
theorem Gr.tree_nd (g:Gr N G B ht BR) (hz:xq B ht N z=0) (same:∀ n:Nat,(ht n).isSome=true->n≠z->B'.nodeI (n:Int)=B.nodeI (n:Int)) (hx:ht x=some c) (Td:x≠z):∀ b,b∈z9 B (c % 100) (x:Int)->B'.nodeI b=B.nodeI b:=fun b hb=>by
 obtain ⟨n,rfl,hn,BU⟩:=g.blks hz c x hx Td b hb;exact same n hn BU
theorem Xc {B':Bs} : ∀ {h:Nat} {x:Int},(∀ b,b∈z9 B h x->B'.nodeI b=B.nodeI b)->z9 B' h x=z9 B h x
 | 0,x,_=>rfl
 | h+1,x,hb=>by
  have e:=hb x (by unfold z9;cases B.nodeI x <;> simp);unfold z9;rw [e]
  cases hd:B.nodeI x with
  | none=>rfl
  | some d =>
   exact congrArg (x :: ·) (xu fun i hi=>Xc fun b hm=>hb b (by unfold z9;rw [hd];exact zco _ (yH.2 ⟨i,hi,hm⟩)))
end
theorem bJ (v:Nat) (hv:v<4096) (w:World):zC 40 #[.int .u64 (v:Int)] w fun e w'=>e = .returned (.tuple #[.int .i64 (v:Int),.bool (decide (v≠0))])/\w=w':=by
 have:min (v:Int) 2147483648=(v:Int):=zo;have:IntKind.i64.wrap (v:Int)=(v:Int):=yv _ zo;by_cases h:v=0
 ·subst h
  go_enter Tryz.func40,Tryz.ntmps40;go_wp2_with fail
  go_ret2
  exact ⟨rfl,rfl⟩
 ·have:((v:Int) != 0)=true:=by rw [bne_iff_ne];omega
  have e4:decide (v≠0)=true:=yq h;rw [e4];go_enter Tryz.func40,Tryz.ntmps40;go_wp2_with fail
  go_ret2
  exact ⟨rfl,rfl⟩
def Bs.isI (B:Bs) (x:Int):Bool:=B.freshB x&&decide (getV B.T x=1)&&(B.nodeI x).isSome
theorem nc (h:zx w M F B) (x:Int) (hx:(Lit.int .i64 x).wf=true) :
  zC 206 #[zP M.b,.int .i64 x] w fun e w'=>e = .returned (.bool (B.isI x))/\zv [] w w':=by
 have cf:=h.cFresh x hx;have cc:=h.cCount x;have cn:=zh (h.cNode x);unfold Bs.isI
 cases hf:B.freshB x with
 | false =>
  rw [hf] at cf;clear h cn cc;go_enter Tryz.func206,Tryz.ntmps206;go_wp2_with fail;refine zm (cf) ?_;go_wp2_with fail;go_ret;exact ⟨rfl,zv.refl _ _⟩
 | true =>
  rw [hf] at cf;by_cases hg:getV B.T x=1
  ·rw [yq hg]
   rw [hg] at cc;obtain ⟨sb,D8⟩:=zE ((B.nodeI x).isSome);rw [<- D8];have HS:=zh D8;clear h hg D8;go_enter Tryz.func206,Tryz.ntmps206;go_wp2_with fail;refine zm (cf) ?_;go_wp2_with fail;refine zm (cc) ?_;go_wp2_with fail;refine cn.mono ?_;clear cn;rintro e w1 (⟨d,kb,vb,hd,rfl,k1,k2,k3,r1,r2,B5⟩ | ⟨hd,rfl,B5⟩)
   ·obtain rfl:sb=true:=by rw [HS.o,hd];rfl
    clear r1 r2 hd;go_wp2_with fail;go_ret;exact ⟨rfl,B5.alloc _⟩
   ·obtain rfl:sb=false:=by rw [HS.o,hd];rfl
    have BU:(B.nodeE x==0)=false:=by unfold Bs.nodeE;split <;> decide
    have hE:(Lit.int .i64 (B.nodeE x)).wf=true:=by unfold Bs.nodeE;split <;> decide
    obtain ⟨E,KW⟩:=zE (B.nodeE x);rw [<- KW] at BU hE ⊢;clear KW hd;go_wp2_with fail;go_ret;exact ⟨rfl,B5.alloc _⟩
  ·rw [yC hg]
   obtain ⟨c,hc⟩:=zE (getV B.T x);rw [<- hc] at cc hg;clear h hc cn;go_enter Tryz.func206,Tryz.ntmps206;go_wp2_with fail;refine zm (cf) ?_;go_wp2_with fail;refine zm (cc) ?_;go_wp2_with fail;go_ret;exact ⟨rfl,zv.refl _ _⟩
section
variable {w:World} {M:Bm} {F:List Nat} {B:Bs}
theorem zx.ok (h:zx w M F B):B.Ok:=by obtain ⟨R,hi,_⟩:=h;exact hi.c.ok
theorem zx.nz (h:zx w M F B):((B.T.n:Int)==0)=false/\B.T.n<=4096:=by
 obtain ⟨R,hi,_⟩:=h;have:=hi.c.ok.n;exact ⟨by rw [yD];omega,this.2⟩
end
theorem bK {g:Nat} (hb:zV leaf n n keys vals=true) (IV:w.heap[g]?=some (.cells (Y7 128 (xg leaf n keys vals)) 5 (0,0))):zB w g 0 128 (xg leaf n keys vals) :=
 fun i hi=>⟨by rw [yn,zM IV,xL hi],YY (by cases leaf <;> decide) (fun j _=>Zy keys vals n j (zq ((XV hb).1))) i⟩
theorem jv (h:zx w M F B) (hF:∀ q,q∈F->q<w.heap.size) (hr:0<B.room) (hk:zT A w vk n keys) (hv:zT A w vv n vals) (hb:zV leaf n n keys vals=true) :
  zC 63 #[zP M.b,.agg #[.bool leaf,vk,vv]] w fun e w'=>e = .returned (.tuple #[.int .i64 (B.at_:Int),.int .i64 0])/\zx w' M F (B.put (xg leaf n keys vals))/\zv M.L w w':=by
 have c0:=(zv.refl [] w).alloc (.cells #[.bool leaf,vk,vv] 42);have k0:=xo w (.cells #[.bool leaf,vk,vv] 42);have ce:=bf (hk.chg c0) (hv.chg c0) hb;have CE:=zh ce;have cb:=(h.chg c0).cBlocks;have:=h.nz.1;have HB:=zh (zA h (zA hF (zA hr c0)));have HM:=zh (fun q hq=>h.ltL hq:∀ q,q∈M.L->q<w.heap.size);obtain ⟨ak,ck,rfl⟩:=hk.len;obtain ⟨av,cv,rfl⟩:=hv.len;have x0:(w.alloc (.cells #[.bool leaf,.slice ak n ck,.slice av n cv] 42)).cell? ⟨w.heap.size,0,none⟩=some (.bool leaf):=(zM k0 0).trans rfl;have x1:(w.alloc (.cells #[.bool leaf,.slice ak n ck,.slice av n cv] 42)).cell? ⟨w.heap.size,1,none⟩=some (.slice ak n ck):=(zM k0 1).trans rfl;have x2:(w.alloc (.cells #[.bool leaf,.slice ak n ck,.slice av n cv] 42)).cell? ⟨w.heap.size,2,none⟩=some (.slice av n cv):=(zM k0 2).trans rfl;have UB:=zh hb;clear h hF hr ce hk hv hb c0 k0;go_enter Tryz.func63,Tryz.ntmps63;go_wp2_with fail;refine zm (cb) ?_;go_wp2_with (refine qJ rfl 42 (.tmp 1) rfl (cells:=#[.bool leaf,.slice ak n ck,.slice av n cv]) rfl ?_);refine CE.mono ?_;clear CE x0 x1 x2;rintro e w1 ⟨g,rfl,hg,IV,B5⟩;have KT:=HB.2.2.2.trans B5
 have cp:=f6 (c:=128) (HB.1.chg KT) (fun q hq=>qe (HB.2.1 q hq) KT.size) (k:=g) (o:=0) (f:=xg leaf n keys vals)
  (bK UB IV) (fun hm=>by have:=HM g hm;have:=HB.2.2.2.size;omega) HB.2.2.1
 have CP:=zh cp;have HC:=zh KT;clear cp KT hg IV B5;go_wp2_with fail;refine CP.mono ?_;clear CP;rintro e w2 ⟨rfl,Cr,BW⟩;have H2:=zh (zA Cr ((HC.mo).trans BW));clear Cr BW;go_wp2_with fail
 go_ret2
 exact ⟨rfl,H2⟩
theorem Bs.isI_iff {x:Int} (hi:B.isI x=true):0<=x/\x<(B.T.n:Int)/\(B.fr x.toNat).isSome=true/\getV B.T x=1/\∃ d,B.nodeI x=some d:=by
 unfold Bs.isI Bs.freshB at hi;simp only [Bool.and_eq_true,decide_eq_true_eq] at hi;obtain ⟨⟨⟨⟨a,b⟩,c⟩,d⟩,e⟩:=hi;exact ⟨a,b,c,d,yR.1 e⟩
theorem tm (h:zx w M F B) (hF:∀ q,q∈F->q<w.heap.size) (hi:B.isI (x:Int)=true) (hk:zT A w vk n keys) (hv:zT A w vv n vals) (hb:zV leaf n n keys vals=true) :
  zC 163 #[zP M.b,.int .i64 (x:Int),.agg #[.bool leaf,vk,vv]] w fun e w'=>e = .returned (.int .i64 0)/\zx w' M F (B.over x (xg leaf n keys vals))/\zv M.L w w':=by
 have c0:=(zv.refl [] w).alloc (.cells #[.bool leaf,vk,vv] 42);have k0:=xo w (.cells #[.bool leaf,vk,vv] 42);have ce:=bf (hk.chg c0) (hv.chg c0) hb;have CE:=zh ce;have cb:=(h.chg c0).cBlocks;have hz:=h.nz;have xw:(Lit.int .i64 (x:Int)).wf=true:=WalkArith.wf_i64 (zq (Bs.isI_iff hi));have HB:=zh (zA h (zA hF (zA hi c0)));have HM:=zh (fun q hq=>h.ltL hq:∀ q,q∈M.L->q<w.heap.size);obtain ⟨ak,ck,rfl⟩:=hk.len;obtain ⟨av,cv,rfl⟩:=hv.len;have x0:(w.alloc (.cells #[.bool leaf,.slice ak n ck,.slice av n cv] 42)).cell? ⟨w.heap.size,0,none⟩=some (.bool leaf):=(zM k0 0).trans rfl;have x1:(w.alloc (.cells #[.bool leaf,.slice ak n ck,.slice av n cv] 42)).cell? ⟨w.heap.size,1,none⟩=some (.slice ak n ck):=(zM k0 1).trans rfl;have x2:(w.alloc (.cells #[.bool leaf,.slice ak n ck,.slice av n cv] 42)).cell? ⟨w.heap.size,2,none⟩=some (.slice av n cv):=(zM k0 2).trans rfl;have UB:=zh hb;replace hz:=hz.1;clear h hF ce hk hv hb c0 k0 hi;go_enter Tryz.func163,Tryz.ntmps163;go_wp2_with fail;refine zm (cb) ?_;go_wp2_with (refine qJ rfl 42 (.tmp 2) rfl (cells:=#[.bool leaf,.slice ak n ck,.slice av n cv]) rfl ?_);refine CE.mono ?_;clear CE x0 x1 x2;rintro e w1 ⟨g,rfl,hg,IV,B5⟩;have KT:=HB.2.2.2.trans B5;have ci:=nc (HB.1.chg KT) x xw;rw [HB.2.2.1] at ci;have CI:=zh ci;have HC:=zh (zA KT IV);have EQ:=zz IV;clear ci KT hg IV B5;go_wp2_with fail;refine CI.mono ?_;clear CI
 rintro e w2 ⟨rfl,BW⟩;have RW:=HC.1.trans BW;have hx:=Bs.isI_iff HB.2.2.1
 have cp:=sk (c:=128) (HB.1.chg RW) (fun q hq=>qe (HB.2.1 q hq) RW.size) (k:=g) (o:=0) (f:=xg leaf n keys vals)
  (bK UB ((BW.block g EQ zaa).trans HC.2)) (x:=x) zo (by have:=hx.2.2.1;rwa [yz] at this)
 have CP:=zh cp;have H2:=zh RW;clear cp RW BW hx;go_wp2_with fail;refine CP.mono ?_;clear CP;rintro e w3 ⟨rfl,Du,Ci⟩;have H3:=zh (zA Du ((H2.mo).trans Ci));clear Du Ci;go_wp2_with fail;go_ret;exact ⟨rfl,H3⟩
section
variable {P:Program} {ops:Array Oper} {Q:Exit->Act->World->Prop} {md:Region.Mode} {D:List Nat} {R:World->Prop}
def bL (D:List Nat) (R:World->Prop) (listed:Array Bool) (w:World):Prop:=(∀ d,d∈D->listed.getD d false=false)->R w
def qz (P:Program) (md:Region.Mode) (ops:Array Oper) (Q:Exit->Act->World->Prop) (D:List Nat) (R:World->Prop):Nat->Array Bool->Act->World->Prop
 | 0,listed,a,w=>Region.ready md ops listed=[]/\Q .normal a w
 | fuel+1,listed,a,w =>
  (Region.ready md ops listed=[]->Q .normal a w) /\
  ∀ i∈Region.ready md ops listed,wpOp P ops Q i (fun a' w'=>bL D R (listed.setIfInBounds i true) w'/\qz P md ops Q D R fuel (listed.setIfInBounds i true) a' w') a w
theorem bM:∀ (fuel:Nat) (listed:Array Bool) (a:Act) (w:World),qz P md ops Q D R fuel listed a w->wpAny P md ops Q fuel listed a w
 | 0,_,_,_,h=>h
 | fuel+1,_,_,_,h=>⟨h.1,fun i hi=>wpOp_mono (fun a' w' h'=>bM fuel _ a' w' h'.2) (h.2 i hi)⟩
def JT (md:Region.Mode) (ops:Array Oper) (l:Array Bool):Prop:=∀ j oj,ops[j]?=some oj->l.getD j false=true->∀ e∈oj.after,Region.binds md e=true->l.getD e.on false=true
def Jd (md:Region.Mode) (ops:Array Oper) (l:Array Bool):Bool:=(List.range ops.size).all fun j => !l.getD j false||((ops[j]?).map (·.after.all fun e => !Region.binds md e||l.getD e.on false)).getD true
theorem eO (h:Jd md ops l=true):JT md ops l:=fun j oj hj hl e he hb=>by
 unfold Jd at h;rw [yQ] at h;have:=h j (ye.2 (yL.1 hj).1);rw [hj,hl] at this;simp only [Bool.not_true,Bool.false_or,Option.map_some,Option.getD_some,Array.all_eq_true_iff_forall_mem,Bool.or_eq_true] at this;rcases this e he with q | q
 ·rw [hb] at q;cases q
 ·exact q
theorem JT.step (h:JT md ops l) (hi:i∈Region.ready md ops l):JT md ops (l.setIfInBounds i true):=fun j oj hj hl e he hb=>by
 by_cases DP:i=j
 ·subst DP
  obtain ⟨_,o,ho,DC⟩:=mem_ready.1 hi;rw [hj] at ho;cases ho;exact getD_set_true (DC e he hb)
 ·rw [getD_set_ne false DP] at hl
  exact getD_set_true (h j oj hj hl e he hb)
def VE (md:Region.Mode) (ops:Array Oper) (i:Nat):Nat->Nat->Bool
 | 0,_=>false
 | f+1,d=>((ops[d]?).map (·.after.any fun e=>Region.binds md e&&(e.on==i||VE md ops i f e.on))).getD false
theorem OR {i:Nat} {l:Array Bool} (hc:JT md ops l) (hi:l.getD i false=false):∀ (f d:Nat),VE md ops i f d=true->l.getD d false=false
 | 0,d,h=>by cases h
 | f+1,d,h=>by
  unfold VE at h
  cases ho:ops[d]? with
  | none=>rw [ho] at h;cases h
  | some o =>
   rw [ho] at h;simp only [Option.map_some,Option.getD_some,Array.any_eq_true',Bool.and_eq_true,Bool.or_eq_true,beq_iff_eq] at h;obtain ⟨e,he,hb,h⟩:=h
   cases hd:l.getD d false with
   | false=>rfl
   | true =>
    have h1:=hc d o ho hd e he hb;rcases h with rfl | h
    ·rw [hi] at h1;cases h1
    ·rw [OR hc hi f e.on h] at h1;cases h1
theorem bO (h:l.getD i true=false):l.getD i false=false:=by
 rcases Nat.lt_or_ge i l.size with h' | h'
 ·simp [h'] at h ⊢;exact h
 ·simp [yo h'] at h
theorem XY {d:Nat} (h:i∉D) (hd:d∈D):i≠d:=fun e=>h (by rw [e];exact hd)
theorem VF {T:World->Prop} (hi:ops[i]?=some oi) (Ph:∀ (j:Nat) (o:Oper) cs b,ops[j]?=some o->o.op ≠ .select cs b)
  (hQ:∀ c a w,Q (.panic c) (a.put oi.dst v) w->Q (.panic c) a w) (hT:∀ l w,JT md ops l->l.getD i true=false->bL D R l w->T w) (hD:i∉D) :
  ∀ (fuel:Nat) (listed:Array Bool) (a:Act) (w:World),
   (∀ j oj,ops[j]?=some oj->j≠i->listed.getD j true=false->(∀ e∈oj.after,Region.binds md e=true->e.on≠i)->oi.apart ops oj=true) ->
   i∈Region.ready md ops listed->JT md ops listed->YieldsIf P ops T oi v a->bL D R listed w ->
   qz P md ops Q D R fuel (listed.setIfInBounds i true) (a.put oi.dst v) w->qz P md ops Q D R (fuel+1) listed a w:=by
 have Km:∀ (l:Array Bool) (w:World),bL D R l w->bL D R (l.setIfInBounds i true) w:=fun l w h q=>h fun d hd=>by
  have:=q d hd;rwa [getD_set_ne false (XY hD hd)] at this
 have S7:∀ (l:Array Bool) (w:World),bL D R (l.setIfInBounds i true) w->bL D R l w:=fun l w h q=>h fun d hd=>by
  rw [getD_set_ne false (XY hD hd)];exact q d hd
 intro fuel
 induction fuel with
 | zero =>
  intro listed a w _ hr hc hy hS H;refine ⟨fun h=>(by rw [h] at hr;cases hr),fun j hj=>?_⟩;by_cases DJ:j=i
  ·subst DJ;exact hy.wpOp hi (hT listed w hc (mem_ready.1 hr).1 hS) ⟨Km _ _ hS,H⟩
  ·have:=ready_mono hj DJ
   rw [H.1] at this;cases this
 | succ fuel ih =>
  intro listed a w Iq hr hc hy hS H;refine ⟨fun h=>(by rw [h] at hr;cases hr),fun j hj=>?_⟩;by_cases DJ:j=i
  ·subst DJ;exact hy.wpOp hi (hT listed w hc (mem_ready.1 hr).1 hS) ⟨Km _ _ hS,H⟩
  ·have h1:=H.2 j (ready_mono hj DJ)
   obtain ⟨hjun,oj,SQ,DC⟩:=mem_ready.1 hj
   have hnot:∀ e∈oj.after,Region.binds md e=true->e.on≠i:=fun e he hb G8=>by
    have h1:=DC e he hb;have h0:=(mem_ready.1 hr).1;rw [G8,bO h0] at h1;cases h1
   have h2:=wpOp_putIf SQ (Iq j oj SQ DJ hjun hnot) (fun cs b=>Ph i oi cs b hi) (fun cs b=>Ph j oj cs b SQ) hQ hy h1
   have SA:∀ k ok,ops[k]?=some ok->k≠i->(listed.setIfInBounds j true).getD k true=false ->
     (∀ e∈ok.after,Region.binds md e=true->e.on≠i)->oi.apart ops ok=true:=fun k ok hk N0 hun hno=>by
    refine Iq k ok hk N0 ?_ hno;by_cases K9:j=k
    ·subst K9;exact hjun
    ·rw [getD_set_ne true K9] at hun;exact hun
   refine wpOp_mono (fun a' w' h3=>?_) h2;have TN:bL D R (listed.setIfInBounds j true) w':=S7 _ _ (by rw [Array.setIfInBounds_comm _ _ DJ];exact h3.2.1);refine ⟨TN,ih (listed.setIfInBounds j true) a' w' SA (ready_mono hr (Ne.symm DJ)) (hc.step hj) h3.1 TN ?_⟩;rw [Array.setIfInBounds_comm _ _ DJ];exact h3.2.2
theorem jw (hi:ops[i]?=some oi)
  (hs:Region.noSelect ops=true) (hf:Region.free md ops listed i=true) (hr:(Region.ready md ops listed).contains i=true) (hc:Jd md ops listed=true) (hb:D.all (fun d=>d != i&&VE md ops i ops.size d)=true)
  (hQ:∀ c a w,Q (.panic c) (a.put oi.dst v) w->Q (.panic c) a w) (hy:YieldsIf P ops R oi v a) (hS:bL D R listed w)
  (h:bL D R (listed.setIfInBounds i true) w->qz P md ops Q D R fuel (listed.setIfInBounds i true) (a.put oi.dst v) w):qz P md ops Q D R (fuel+1) listed a w:=by
 rw [yQ] at hb;have hD:i∉D:=fun hm=>by have:=hb i hm;simp at this
 refine VF hi (Region.noSelect_spec hs) hQ (T:=R) (fun l w hc hl hB=>hB fun d hd=>?_) hD fuel listed a w (Region.free_spec hi hf) (by simpa using hr) (eO hc) hy hS (h fun q=>hS fun d hd=>?_)
 ·have:=hb d hd
  rw [Bool.and_eq_true] at this;exact OR hc (bO hl) _ d this.2
 ·have:=q d hd
  rwa [getD_set_ne false (XY hD hd)] at this
theorem jy (hi:ops[i]?=some oi)
  (hs:Region.noSelect ops=true) (hf:Region.free md ops listed i=true) (hr:(Region.ready md ops listed).contains i=true) (hc:Jd md ops listed=true) (hb:D.contains i=false)
  (hQ:∀ c a w,Q (.panic c) (a.put oi.dst v) w->Q (.panic c) a w) (hy:YieldsIf P ops (fun _=>True) oi v a) (hS:bL D R listed w)
  (h:bL D R (listed.setIfInBounds i true) w->qz P md ops Q D R fuel (listed.setIfInBounds i true) (a.put oi.dst v) w):qz P md ops Q D R (fuel+1) listed a w:=by
 have hD:i∉D:=fun hm=>by simp [hm] at hb
 exact VF hi (Region.noSelect_spec hs) hQ (T:=fun _=>True) (fun l w _ _ _=>trivial) hD fuel listed a w (Region.free_spec hi hf) (by simpa using hr) (eO hc) hy hS (h fun q=>hS fun d hd=>by
  have:=q d hd;rwa [getD_set_ne false (XY hD hd)] at this)
def lR (P:Program) (md:Region.Mode) (ops:Array Oper) (Q:Exit->Act->World->Prop) (D:List Nat) (R:World->Prop) (fuel:Nat) (listed:Array Bool) (a:Act) (w:World) (rs:List Nat):Prop :=
 ∀ i∈rs,wpOp P ops Q i (fun a' w'=>bL D R (listed.setIfInBounds i true) w'/\qz P md ops Q D R fuel (listed.setIfInBounds i true) a' w') a w
theorem lR.nil : lR P md ops Q D R fuel listed a w []:=fun _ h=>by cases h
theorem lR.cons (ho:ops[i]?=some o)
  (h:∀ K':Act->World->Prop,Shut (∀ a w,(D.contains i=false->(D.all fun d => !listed.getD d false)=true->R w)->(bL D R (listed.setIfInBounds i true) w->qz P md ops Q D R fuel (listed.setIfInBounds i true) a w)->K' a w)->if Region.wanted o (yielded ops a.tmps)=true then Oper.wp P o a w K' Q else K' (a.put o.dst undef) w)
  (hs:lR P md ops Q D R fuel listed a w rs) (BY:i<listed.size):lR P md ops Q D R fuel listed a w (i::rs):=fun j hj=>by
 rcases ya.1 hj with rfl | hj
 ·refine wpOp_step ho (fun K' hK=>h K' (fun a w hS hW=>?_))
  have hB:bL D R (listed.setIfInBounds j true) w:=fun q=>by
   have hD:j∉D:=fun hm=>by
    have:=q j hm;simp [BY] at this
   refine hS (by simpa using hD) ?_;rw [yQ];intro d hd;have:=q d hd;rw [getD_set_ne false (XY hD hd)] at this;rw [this];rfl
  exact hK a w ⟨hB,hW hB⟩
 ·exact hs j hj
theorem BC (hr:Region.ready md ops listed=rs) (BU:rs≠[])
  (h:lR P md ops Q D R fuel listed a w rs):qz P md ops Q D R (fuel+1) listed a w:=⟨fun h0=>absurd (hr▸h0) BU,hr▸h⟩
theorem Xw (hr:Region.ready md ops listed=[]) (h:Q .normal a w):∀ fuel,qz P md ops Q D R fuel listed a w
 | 0=>⟨hr,h⟩
 | _+1=>⟨fun _=>h,by rw [hr];simp⟩
theorem JA {id:Nat} (D:List Nat) (R:World->Prop) (hm:P.follows .mixedOrders=true) (hS:R w.drew)
  (h:bL D R (Array.replicate ops.size false) w.drew->qz P .any ops Q D R ops.size (Array.replicate ops.size false) a w.drew):(Code.region id ops true).wp P Q a w :=
 wp_region_any hm (bM _ _ _ _ (h fun _=>hS))
end
theorem gR (i:Nat) (h:bL D R (listed.setIfInBounds i true) w->qz P md ops Q D R fuel (listed.setIfInBounds i true) (a.put oi.dst v) w) (hi:ops[i]?=some oi:=by (simp only [tA1,tA2,tA3];rfl)) (hg:Region.wanted oi (yielded ops a.tmps)=true:=by rfl) (hy:∀ w,True->(execOp a.eval oi).run P w=.ok (.value v) w:=by (intro w _;go_simp;first | done | with_reducible rfl)) (hS:bL D R listed w:=by assumption) (hs:Region.noSelect ops=true:=by kernel_rfl) (hf:Region.free md ops listed i=true:=by kernel_rfl) (hr:(Region.ready md ops listed).contains i=true:=by kernel_rfl) (hc:Jd md ops listed=true:=by kernel_rfl) (hb:D.contains i=false:=by kernel_rfl) (hQ:∀ c a w,Q (.panic c) (a.put oi.dst v) w->Q (.panic c) a w:=by exact fun _ _ _ h=>h):qz P md ops Q D R (fuel+1) listed a w:=jy hi hs hf hr hc hb hQ (.inl ⟨hg,hy⟩) hS h
theorem Ay (i:Nat) (h:bL D R (listed.setIfInBounds i true) w->qz P md ops Q D R fuel (listed.setIfInBounds i true) (a.put oi.dst v) w) (hi:ops[i]?=some oi:=by (simp only [tA1,tA2,tA3];rfl)) (hg:Region.wanted oi (yielded ops a.tmps)=true:=by rfl) (hy:∀ w,R w->(execOp a.eval oi).run P w=.ok (.value v) w) (hS:bL D R listed w:=by assumption) (hs:Region.noSelect ops=true:=by kernel_rfl) (hf:Region.free md ops listed i=true:=by kernel_rfl) (hr:(Region.ready md ops listed).contains i=true:=by kernel_rfl) (hc:Jd md ops listed=true:=by kernel_rfl) (hb:D.all (fun d=>d != i&&VE md ops i ops.size d)=true:=by kernel_rfl) (hQ:∀ c a w,Q (.panic c) (a.put oi.dst v) w->Q (.panic c) a w:=by exact fun _ _ _ h=>h):qz P md ops Q D R (fuel+1) listed a w:=jw hi hs hf hr hc hb hQ (.inl ⟨hg,hy⟩) hS h
theorem BD (rs:List Nat) (h:lR P md ops Q D R fuel listed a w rs) (hr:Region.ready md ops listed=rs:=by kernel_rfl) (BU:rs≠[]:=by simp):qz P md ops Q D R (fuel+1) listed a w:=BC hr BU h
theorem BE (h:∀ K':Act->World->Prop,Shut (∀ a w,(D.contains i=false->(D.all fun d=>!listed.getD d false)=true->R w)->(bL D R (listed.setIfInBounds i true) w->qz P md ops Q D R fuel (listed.setIfInBounds i true) a w)->K' a w)->if Region.wanted o (yielded ops a.tmps)=true then Oper.wp P o a w K' Q else K' (a.put o.dst undef) w) (hs:lR P md ops Q D R fuel listed a w rs) (ho:ops[i]?=some o:=by (simp only [tA1,tA2,tA3];rfl)) (hl:i<listed.size:=by exact of_decide_eq_true (by kernel_rfl)):lR P md ops Q D R fuel listed a w (i::rs):=lR.cons ho h hs hl
theorem BG (h:∀ K':Act->World->Prop,Shut (∀ a w,(D.contains i=false->(D.all fun d=>!listed.getD d false)=true->R w)->(bL D R (listed.setIfInBounds i true) w->qz P md ops Q D R fuel (listed.setIfInBounds i true) a w)->K' a w)->if Region.wanted o (yielded ops a.tmps)=true then Oper.wp P o a w K' Q else K' (a.put o.dst undef) w) (ho:ops[i]?=some o:=by (simp only [tA1,tA2,tA3];rfl)) (hl:i<listed.size:=by exact of_decide_eq_true (by kernel_rfl)):lR P md ops Q D R fuel listed a w [i]:=lR.cons ho h lR.nil hl
theorem lS (i:Nat) (h:∀ K':Act->World->Prop,Shut (∀ a w,(D.contains i=false->(D.all fun d=>!listed.getD d false)=true->R w)->(bL D R (listed.setIfInBounds i true) w->qz P md ops Q D R fuel (listed.setIfInBounds i true) a w)->K' a w)->if Region.wanted o (yielded ops a.tmps)=true then Oper.wp P o a w K' Q else K' (a.put o.dst undef) w) (ho:ops[i]?=some o:=by (simp only [tA1,tA2,tA3];rfl)) (hl:i<listed.size:=by exact of_decide_eq_true (by kernel_rfl)) (hr:Region.ready md ops listed=[i]:=by kernel_rfl):qz P md ops Q D R (fuel+1) listed a w:=BC hr zaa (lR.cons ho h lR.nil hl)
end Go.Proofs.YtegpiomkmfhadaaGreat
