/- Layer 11's statements: what an operation does to a base and to a state that tells of it. · Layers 14 and on, in plain words: which block is referred to how often. · Package own: block, Is. · Package own: Put, Set. -/
import Derived.Test.YtkhcaclndepgbaaGreatZn35
set_option linter.unusedVariables false
set_option linter.unusedSimpArgs false
set_option maxRecDepth 100000
set_option maxHeartbeats 20000000
namespace Go.Proofs.YtkhcaclndepgbaaGreat
open Go.RowKit
variable {N G:Nat} {B:Bs} {S:St}
theorem Good.up_ (h:Good N G B) {x:Nat} (hx:x<N) (hl:B.live x=true) (hm:B.T.now x<65535) :
  B.upE (x:Int)=0/\B.up (x:Int)=B.counted (B.T.set x (B.T.now x+1)) x/\Good N G (B.up (x:Int))/\(∀ b,(B.up (x:Int)).live b=B.live b):=by
 obtain ⟨h1,h2,h3,h4⟩:=h.may hx hl;have hg:getV B.T (x:Int)=(B.T.now x:Int):=getV_nat (by rw [h.n];exact hx);have hg0:¬ getV B.T (x:Int)=0:=by rw [hg];omega
 have hh:=(hasB_iff B.T (x:Int)).2 (by have:=h.n;omega)
 have hd:Proofs.YtkhcaclndepgbaaGreat.upE B.T (x:Int)=0:=by
  have:B.T.now x≠65535:=by omega
  simp [Proofs.YtkhcaclndepgbaaGreat.upE,hh,this]
 have e1:B.upE (x:Int)=0:=by unfold Bs.upE;rw [h2,if_pos rfl,if_neg hg0];exact hd
 have e2:B.up (x:Int)=B.counted (B.T.set x (B.T.now x+1)) x:=by
  unfold Bs.up;rw [h2,decide_eq_false hg0,if_pos (show (true && !false)=true from rfl),Int.toNat_natCast];unfold Proofs.YtkhcaclndepgbaaGreat.up;rw [hd,if_pos rfl,Int.toNat_natCast]
 have hlv:∀ b,(B.counted (B.T.set x (B.T.now x+1)) x).live b=B.live b:=fun b=>by
  show ((if b=x then B.T.now x+1 else B.T.now b) != 0 && !pgB B b)=(B.T.now b != 0 && !pgB B b)
  by_cases e:b=x
  ·subst e
   rw [if_pos rfl];have:B.T.now b+1≠0:=by omega
   simp [h3]
  ·rw [if_neg e]
 refine ⟨e1,e2,?_,?_⟩
 ·rw [e2]
  refine h.turn (h.ok.counted_ok h3 h2 (by omega)) rfl rfl ?_;have hw:=waits_set B.T (b:=x) (B.T.now x+1) (by rw [h.n];exact hx);have w1:B.T.waitB x=false:=by unfold Tal.waitB;simp [h3]
  have w2:(B.T.set x (B.T.now x+1)).waitB x=false:=by
   unfold Tal.waitB Tal.set;simp
  rw [w1,w2] at hw;have ew:(B.counted (B.T.set x (B.T.now x+1)) x).T.waits=(B.T.set x (B.T.now x+1)).waits:=rfl;rw [ew,cnt_congr (fun b _=>hlv b)];simp at hw;omega
 ·rw [e2];exact hlv
end Go.Proofs.YtkhcaclndepgbaaGreat
namespace Go.Proofs.YtkhcaclndepgbaaGreat
def sumTo (f:Nat->Nat):Nat->Nat
 | 0=>0
 | n+1=>sumTo f n+f n
theorem sumTo_congr {f g:Nat->Nat} : ∀ {n:Nat},(∀ i,i<n->f i=g i)->sumTo f n=sumTo g n
 | 0,_=>rfl
 | n+1,h=>by unfold sumTo;rw [sumTo_congr (fun i hi=>h i (by omega)),h n (by omega)]
theorem sumTo_upd {f g:Nat->Nat} {k:Nat} : ∀ {n:Nat},k<n->(∀ i,i<n->i≠k->f i=g i)->sumTo f n+g k=sumTo g n+f k
 | 0,h,_=>by omega
 | n+1,h,hfg=>by
  unfold sumTo;by_cases e:k=n
  ·subst e
   rw [sumTo_congr (n:=k) (fun i hi=>hfg i (by omega) (by omega))];omega
  ·have:=sumTo_upd (f:=f) (g:=g) (k:=k) (n:=n) (by omega) (fun i hi he=>hfg i (by omega) he)
   rw [hfg n (by omega) (fun q=>e q.symm)];omega
theorem sumTo_ge {f:Nat->Nat} : ∀ {n k:Nat},k<n->f k<=sumTo f n
 | 0,k,h=>by omega
 | n+1,k,h=>by
  unfold sumTo;by_cases e:k=n
  ·subst e;omega
  ·have:=sumTo_ge (f:=f) (n:=n) (k:=k) (by omega);omega
theorem sumTo_le {f:Nat->Nat} {c:Nat} (h:∀ i,f i<=c):∀ n,sumTo f n<=n*c
 | 0=>by simp [sumTo]
 | n+1=>by unfold sumTo;have:=sumTo_le h n;have:=h n;rw [Nat.succ_mul];omega
theorem sumTo_zero {f:Nat->Nat} {n:Nat} (h:∀ i,i<n->f i=0):sumTo f n=0:=by
 rw [sumTo_congr (g:=fun _=>0) h];clear h
 induction n with
 | zero=>rfl
 | succ n ih=>unfold sumTo;rw [ih]
theorem sumTo_pos {f:Nat->Nat} : ∀ {n:Nat},0<sumTo f n->∃ k,k<n/\0<f k
 | 0,h=>by simp [sumTo] at h
 | n+1,h=>by
  unfold sumTo at h;by_cases e:0<f n
  ·exact ⟨n,by omega,e⟩
  ·obtain ⟨k,hk,h2⟩:=sumTo_pos (f:=f) (n:=n) (by omega)
   exact ⟨k,by omega,h2⟩
def occ (d:Nd) (b:Nat):Nat:=cnt d.n fun i=>decide (d.v i=b)
def occO (o:Option Nd) (b:Nat):Nat:=match o with | some d=>occ d b | none=>0
theorem occ_le (d:Nd) (b:Nat):occ d b<=d.n:=cnt_le _ _
theorem occ_pos {d:Nd} {b:Nat} (h:0<occ d b):∃ i,i<d.n/\d.v i=b:=by
 unfold occ at h
 induction hn:d.n with
 | zero=>rw [hn] at h;simp [cnt] at h
 | succ n ih =>
  clear ih;by_cases q:∃ i,i<n+1/\d.v i=b
  ·exact q
  ·exfalso
   rw [cnt_zero (fun i hi=>by
    rw [hn] at hi;simp only [decide_eq_false_iff_not];exact fun e=>q ⟨i,hi,e⟩)] at h
   omega
theorem occ_of {d:Nd} {b i:Nat} (hi:i<d.n) (hb:d.v i=b):0<occ d b:=by
 have:=cnt_upd (p:=fun i=>decide (d.v i=b)) (q:=fun j=>decide (d.v j=b)&&decide (j≠i)) (k:=i) (n:=d.n) hi (fun j _ hj=>by simp [hj]);simp [hb] at this;unfold occ;omega
abbrev Ht:=Nat->Option Nat
def refsF (B:Bs) (ht:Ht) (b n:Nat):Nat:=if (ht n).isSome then occO (B.nodeI (n:Int)) b else 0
def Refs (B:Bs) (ht:Ht) (N b:Nat):Nat:=sumTo (refsF B ht b) N
structure NdAt (N:Nat) (ht:Ht) (h:Nat) (d:Nd):Prop where
 leaf:d.leaf=decide (h % 100=0)
 kid:h % 100≠0->∀ i,i<d.n->ht (d.v i)=some (h - 1)
 val:h % 100=0->∀ i,i<d.n->d.v i=0∨(2<=d.v i/\d.v i<N)
 flat:h=0->∀ i,i<d.n->d.v i≠0->ht (d.v i)=none
theorem NdAt.congr {N:Nat} {ht ht':Ht} {h:Nat} {d:Nd} (a:NdAt N ht h d) (e:∀ i,i<d.n->ht' (d.v i)=ht (d.v i)):NdAt N ht' h d :=
 ⟨a.leaf,fun h0 i hi=>(e i hi).trans (a.kid h0 i hi),a.val,fun h0 i hi hv=>(e i hi).trans (a.flat h0 i hi hv)⟩
structure Gr (N G:Nat) (B:Bs) (ht:Ht) (pend:Nat->Nat):Prop where
 good:Good N G B
 node:∀ n h,ht n=some h->n<N/\B.live n=true/\∃ d,B.nodeI (n:Int)=some d/\NdAt N ht h d
 ref:∀ b,2<=b->b<N->pend b+Refs B ht N b=if B.live b then B.T.now b else 0
section
variable {N G:Nat} {B:Bs} {ht:Ht} {pend:Nat->Nat}
theorem Gr.lt (g:Gr N G B ht pend) {n h:Nat} (hn:ht n=some h):n<N/\B.live n=true:=⟨(g.node n h hn).1,(g.node n h hn).2.1⟩
theorem Gr.two (g:Gr N G B ht pend) {n:Nat} (hl:B.live n=true) (hn:n<N):2<=n:=(g.good.may hn hl).1
theorem Gr.live_of (g:Gr N G B ht pend) {b:Nat} (h2:2<=b) (hN:b<N) (h:0<pend b+Refs B ht N b):B.live b=true:=by
 have:=g.ref b h2 hN
 cases hl:B.live b with
 | true=>rfl
 | false=>rw [hl] at this;simp at this;omega
theorem Refs_ge {n h:Nat} {d:Nd} (hn:n<N) (hh:ht n=some h) (hd:B.nodeI (n:Int)=some d) (b:Nat):occ d b<=Refs B ht N b:=by
 have:=sumTo_ge (f:=refsF B ht b) hn;unfold refsF at this;rw [hh,hd] at this;exact this
theorem Gr.val_live (g:Gr N G B ht pend) {n h:Nat} {d:Nd} (hh:ht n=some h) (hd:B.nodeI (n:Int)=some d) {i:Nat} (hi:i<d.n) (h0:d.v i≠0):2<=d.v i/\d.v i<N/\B.live (d.v i)=true:=by
 obtain ⟨hn,hl,d',hd',nd⟩:=g.node n h hh;rw [hd] at hd';cases hd'
 have hb:2<=d.v i/\d.v i<N:=by
  by_cases e:h % 100=0
  ·rcases nd.val e i hi with q | q
   ·exact absurd q h0
   ·exact q
  ·have:=g.lt (nd.kid e i hi)
   exact ⟨g.two this.2 this.1,this.1⟩
 refine ⟨hb.1,hb.2,g.live_of hb.1 hb.2 ?_⟩;have h1:=Refs_ge (N:=N) hn hh hd (d.v i);have h2:=occ_of hi (rfl:d.v i=d.v i);omega
theorem Gr.now_le (g:Gr N G B ht pend) {b:Nat} (h2:2<=b) (hN:b<N) (hl:B.live b=true):B.T.now b<=pend b+N*7:=by
 have h:=g.ref b h2 hN;rw [hl,if_pos rfl] at h
 have:Refs B ht N b<=N*7:=sumTo_le (fun n=>by
  unfold refsF
  split
  ·unfold occO
   cases hd:B.nodeI (n:Int) with
   | none=>exact Nat.zero_le _
   | some d=>exact zLt (occ_le d b) (by have:=(g.good.ok.node_ok hd).1.n;omega)
  ·exact Nat.zero_le _) N
 omega
end
def updH (ht:Ht) (x:Nat) (o:Option Nat):Ht:=fun n=>if n=x then o else ht n
theorem updH_same {ht:Ht} {x:Nat} {o:Option Nat} : updH ht x o x=o:=if_pos rfl
theorem updH_ne {ht:Ht} {x n:Nat} {o:Option Nat} (h:n≠x):updH ht x o n=ht n:=if_neg h
section
variable {N G:Nat} {B:Bs} {ht:Ht} {pend:Nat->Nat}
theorem nodeI_of {B B':Bs} (hn:B'.T.n=B.T.n) {x:Nat} (h:B'.read x=B.read x):B'.nodeI (x:Int)=B.nodeI (x:Int):=by
 unfold Bs.nodeI Bs.inI;rw [hn,Int.toNat_natCast,h]
theorem Gr.up (g:Gr N G B ht pend) {x:Nat} (hx:x<N) (hl:B.live x=true) (hm:B.T.now x<65535) :
  B.upE (x:Int)=0/\Gr N G (B.up (x:Int)) ht (fun b=>if b=x then pend b+1 else pend b)/\(∀ n:Nat,(B.up (x:Int)).nodeI (n:Int)=B.nodeI (n:Int))/\(∀ b,(B.up (x:Int)).live b=B.live b)/\(∀ b,(B.up (x:Int)).T.now b=if b=x then B.T.now x+1 else B.T.now b)/\(B.up (x:Int)).room=B.room/\(∀ b,(B.up (x:Int)).fr b=B.fr b):=by
 obtain ⟨e1,e2,g2,hlv⟩:=g.good.up_ hx hl hm;have h0:=(g.good.may hx hl).2.2.1
 have hfr:∀ b,(B.up (x:Int)).fr b=B.fr b:=fun b=>by
  rw [e2]
  show (if b=x/\(if x=x then B.T.now x+1 else B.T.now x)=0 then none else B.fr b)=_
  rw [if_neg (fun q=>by have:=q.2;rw [if_pos rfl] at this;omega)]
 have hnd:∀ n:Nat,(B.up (x:Int)).nodeI (n:Int)=B.nodeI (n:Int):=fun n=>by
  refine nodeI_of (by rw [e2];rfl) ?_;unfold Bs.read;rw [hfr];rw [e2];rfl
 have hnow:∀ b,(B.up (x:Int)).T.now b=if b=x then B.T.now x+1 else B.T.now b:=fun b=>by rw [e2];rfl
 have hrf:∀ b,Refs (B.up (x:Int)) ht N b=Refs B ht N b:=fun b=>sumTo_congr fun n _=>by unfold refsF;rw [hnd]
 have hrm:(B.up (x:Int)).room=B.room:=by
  have r1:=g.good.room;have r2:=g2.room
  have hw:(B.up (x:Int)).T.waits=B.T.waits:=by
   have:=waits_set B.T (b:=x) (B.T.now x+1) (by rw [g.good.n];exact hx);have w1:B.T.waitB x=false:=by unfold Tal.waitB;simp [h0]
   have w2:(B.T.set x (B.T.now x+1)).waitB x=false:=by unfold Tal.waitB Tal.set;simp
   rw [w1,w2] at this;rw [e2];exact this
  rw [cnt_congr (q:=B.live) (fun b _=>hlv b),hw] at r2;omega
 refine ⟨e1,⟨g2,fun n h hn=>?_,fun b h2 hN=>?_⟩,hnd,hlv,hnow,hrm,hfr⟩
 ·obtain ⟨a1,a2,d,a3,a4⟩:=g.node n h hn
  exact ⟨a1,by rw [hlv];exact a2,d,by rw [hnd];exact a3,a4⟩
 ·have:=g.ref b h2 hN
  rw [hrf,hlv,hnow];by_cases e:b=x
  ·subst e
   rw [hl,if_pos rfl] at this;rw [hl,if_pos rfl,if_pos rfl,if_pos rfl];omega
  ·rw [if_neg e,if_neg e];exact this
theorem Gr.down2 (g:Gr N G B ht pend) {x:Nat} (hx:x<N) (h2x:2<=x) (hp:1<=pend x) (hm:2<=B.T.now x) :
  B.downE (x:Int)=0/\Gr N G (B.down (x:Int)) ht (fun b=>if b=x then pend b - 1 else pend b)/\(∀ n:Nat,(B.down (x:Int)).nodeI (n:Int)=B.nodeI (n:Int))/\(∀ b,(B.down (x:Int)).live b=B.live b)/\(∀ b,(B.down (x:Int)).T.now b=if b=x then B.T.now x - 1 else B.T.now b)/\(B.down (x:Int)).room=B.room/\(∀ b,(B.down (x:Int)).fr b=B.fr b):=by
 have hl:B.live x=true:=g.live_of h2x hx (by omega);obtain ⟨e1,e2⟩:=downs_eq g.good hx hl;obtain ⟨g2,hlv,hnow,hk,-,hpg⟩:=g.good.down_ hx hl
 have hlv':∀ b,(B.down (x:Int)).live b=B.live b:=fun b=>by
  rw [hlv];by_cases e:b=x
  ·subst e;rw [if_pos rfl,hl,decide_eq_true hm]
  ·rw [if_neg e]
 have hfr:∀ b,(B.down (x:Int)).fr b=B.fr b:=fun b=>by
  rw [e2]
  show (if b=x/\(if x=x then B.T.now x - 1 else B.T.now x)=0 then none else B.fr b)=_
  rw [if_neg (fun q=>by have:=q.2;rw [if_pos rfl] at this;omega)]
 have hnd:∀ n:Nat,(B.down (x:Int)).nodeI (n:Int)=B.nodeI (n:Int):=fun n=>by
  refine nodeI_of (by rw [e2];rfl) ?_;unfold Bs.read;rw [hfr];rw [e2];rfl
 have hrf:∀ b,Refs (B.down (x:Int)) ht N b=Refs B ht N b:=fun b=>sumTo_congr fun n _=>by unfold refsF;rw [hnd]
 have hrm:(B.down (x:Int)).room=B.room:=by
  have r1:=g.good.room;have r2:=g2.room
  have hw:(B.down (x:Int)).T.waits=B.T.waits:=by
   have:=waits_set B.T (b:=x) (B.T.now x - 1) (by rw [g.good.n];exact hx);have w1:B.T.waitB x=false:=by unfold Tal.waitB;have:B.T.now x≠0:=(by omega);simp [this]
   have w2:(B.T.set x (B.T.now x - 1)).waitB x=false:=by unfold Tal.waitB Tal.set;have:B.T.now x - 1≠0:=(by omega);simp [this]
   rw [w1,w2] at this;rw [e2];exact this
  rw [cnt_congr (q:=B.live) (fun b _=>hlv' b),hw] at r2;omega
 refine ⟨e1,⟨g2,fun n h hn=>?_,fun b h2 hN=>?_⟩,hnd,hlv',hnow,hrm,hfr⟩
 ·obtain ⟨a1,a2,d,a3,a4⟩:=g.node n h hn
  exact ⟨a1,by rw [hlv'];exact a2,d,by rw [hnd];exact a3,a4⟩
 ·have:=g.ref b h2 hN
  rw [hrf,hlv',hnow];by_cases e:b=x
  ·subst e
   rw [hl,if_pos rfl] at this;rw [hl,if_pos rfl,if_pos rfl,if_pos rfl];omega
  ·rw [if_neg e,if_neg e];exact this
theorem waits_down (hn:B.T.n=N) {x:Nat} (hx:x<N) (h1:B.T.now x=1):(B.T.set x (B.T.now x - 1)).waits=B.T.waits+(if B.T.kept x=0 then 0 else 1):=by
 have hw:=waits_set B.T (b:=x) (B.T.now x - 1) (by rw [hn];exact hx);have w1:B.T.waitB x=false:=by unfold Tal.waitB;simp [h1]
 have w2:(B.T.set x (B.T.now x - 1)).waitB x=decide (B.T.kept x≠0):=by
  unfold Tal.waitB Tal.set;by_cases q:B.T.kept x=0 <;> simp [h1,q]
 rw [w1,w2] at hw;by_cases q:B.T.kept x=0
 ·rw [if_pos q];simp [q] at hw;exact hw
 ·rw [if_neg q];simp [q] at hw;exact hw
theorem Gr.down1 (g:Gr N G B ht pend) {x:Nat} (hx:x<N) (h2x:2<=x) (hp:1<=pend x) (hm:B.T.now x=1) :
  B.downE (x:Int)=0/\Gr N G (B.down (x:Int)) (updH ht x none) (fun b=>(if b=x then 0 else pend b)+refsF B ht b x)/\(∀ n:Nat,n≠x->(B.down (x:Int)).nodeI (n:Int)=B.nodeI (n:Int))/\(∀ b,(B.down (x:Int)).live b=if b=x then false else B.live b)/\(∀ b,(B.down (x:Int)).T.now b=if b=x then 0 else B.T.now b)/\(B.down (x:Int)).room=B.room+(if B.T.kept x=0 then 1 else 0)/\(∀ b,b≠x->(B.down (x:Int)).fr b=B.fr b)/\pend x=1/\Refs B ht N x=0:=by
 have hl:B.live x=true:=g.live_of h2x hx (by omega);have hrx:=g.ref x h2x hx;rw [hl,if_pos rfl,hm] at hrx;have hR0:Refs B ht N x=0:=by omega
 obtain ⟨e1,e2⟩:=downs_eq g.good hx hl;obtain ⟨g2,hlv,hnow,hk,-,hpg⟩:=g.good.down_ hx hl
 have hlv':∀ b,(B.down (x:Int)).live b=if b=x then false else B.live b:=fun b=>by
  rw [hlv,hm];rfl
 have hnow':∀ b,(B.down (x:Int)).T.now b=if b=x then 0 else B.T.now b:=fun b=>by rw [hnow,hm]
 have hfr:∀ b,b≠x->(B.down (x:Int)).fr b=B.fr b:=fun b hb=>by
  rw [e2]
  show (if b=x/\_ then none else B.fr b)=_
  rw [if_neg (fun q=>hb q.1)]
 have hnd:∀ n:Nat,n≠x->(B.down (x:Int)).nodeI (n:Int)=B.nodeI (n:Int):=fun n hn=>by
  refine nodeI_of (by rw [e2];rfl) ?_;unfold Bs.read;rw [hfr n hn];rw [e2];rfl
 have hrf:∀ b,Refs B ht N b=Refs (B.down (x:Int)) (updH ht x none) N b+refsF B ht b x:=fun b=>by
  have:=sumTo_upd (f:=refsF B ht b) (g:=refsF (B.down (x:Int)) (updH ht x none) b) (k:=x) (n:=N) hx (fun i _ hi=>by unfold refsF;rw [updH_ne hi,hnd i hi]);have h0:refsF (B.down (x:Int)) (updH ht x none) b x=0:=by unfold refsF;rw [updH_same];rfl
  rw [h0] at this;exact this
 have hrm:(B.down (x:Int)).room=B.room+(if B.T.kept x=0 then 1 else 0):=by
  have r1:=g.good.room;have r2:=g2.room
  have hw:(B.down (x:Int)).T.waits=B.T.waits+(if B.T.kept x=0 then 0 else 1):=by
   rw [e2];exact waits_down g.good.n hx hm
  have hc:=cnt_upd (p:=B.live) (q:=(B.down (x:Int)).live) (k:=x) (n:=N) hx (fun i _ hi=>by rw [hlv' i,if_neg hi]);rw [hlv' x,if_pos rfl,hl] at hc;simp at hc;rw [hw] at r2;by_cases q:B.T.kept x=0
  ·rw [if_pos q] at r2 ⊢;omega
  ·rw [if_neg q] at r2 ⊢;omega
 refine ⟨e1,⟨g2,fun n h hn=>?_,fun b h2 hN=>?_⟩,hnd,hlv',hnow',hrm,hfr,by omega,hR0⟩
 ·have hne:n≠x:=fun e=>by subst e;rw [updH_same] at hn;cases hn
  rw [updH_ne hne] at hn;obtain ⟨a1,a2,d,a3,a4⟩:=g.node n h hn;refine ⟨a1,by rw [hlv',if_neg hne];exact a2,d,by rw [hnd n hne];exact a3,a4.congr fun i hi=>updH_ne fun e=>?_⟩;have h1:=Refs_ge (N:=N) a1 hn a3 (d.v i);have h2:=occ_of hi (rfl:d.v i=d.v i);rw [e,hR0] at h1;rw [e] at h2;omega
 ·have h0:=g.ref b h2 hN
  have h1:=hrf b;rw [hlv',hnow'];by_cases e:b=x
  ·subst e
   rw [if_pos rfl,if_pos rfl];rw [hR0] at h1;simp;omega
  ·rw [if_neg e,if_neg e,if_neg e]
   omega
theorem Gr.put (g:Gr N G B ht pend) (hr:0<B.room) {f:Nat->Nat} (hf:∀ i,i<128->f i<=255) {d:Nd} {h:Nat} (hd:decN f=some d) (nd:NdAt N ht h d) {p:Nat->Nat} (hp:∀ b,2<=b->b<N->pend b=p b+occ d b) :
  Gr N G (B.put f) (updH ht B.at_ (some h)) (fun b=>if b=B.at_ then 1 else p b)/\(B.put f).nodeI (B.at_:Int)=some d/\(∀ n:Nat,n≠B.at_->(B.put f).nodeI (n:Int)=B.nodeI (n:Int))/\ht B.at_=none/\2<=B.at_/\B.at_<N/\pend B.at_=0/\(B.put f).room=B.room - 1/\(∀ b,(B.put f).live b=(decide (b=B.at_)||B.live b)):=by
 obtain ⟨g2,l0,h2,hN,hlv,-,-,hrm,-⟩:=g.good.put_ hr hf;have hr0:=g.ref B.at_ h2 hN;rw [l0] at hr0;simp at hr0
 have hnone:ht B.at_=none:=by
  cases hq:ht B.at_ with
  | none=>rfl
  | some q=>have:=(g.lt hq).2;rw [l0] at this;cases this
 have hnd:(B.put f).nodeI (B.at_:Int)=some d:=by
  have:(B.put f).nodeI (B.at_:Int)=decN f:=by
   unfold Bs.nodeI;rw [if_pos (inI_iff.2 ⟨by omega,by show (B.at_:Int)<(B.T.n:Int);rw [g.good.n];omega⟩),Int.toNat_natCast];congr 1;unfold Bs.read Bs.put;simp
  rw [this,hd]
 have hkn:∀ n:Nat,n≠B.at_->(B.put f).nodeI (n:Int)=B.nodeI (n:Int):=fun n hn=>node_kept (by omega)
 have hrf:∀ b,Refs (B.put f) (updH ht B.at_ (some h)) N b=Refs B ht N b+occ d b:=fun b=>by
  have:=sumTo_upd (f:=refsF B ht b) (g:=refsF (B.put f) (updH ht B.at_ (some h)) b) (k:=B.at_) (n:=N) hN (fun i _ hi=>by unfold refsF;rw [updH_ne hi,hkn i hi]);have h0:refsF B ht b B.at_=0:=by unfold refsF;rw [hnone];rfl
  have h1:refsF (B.put f) (updH ht B.at_ (some h)) b B.at_=occ d b:=by unfold refsF;rw [updH_same,hnd];rfl
  rw [h0,h1] at this;exact this.symm
 refine ⟨⟨g2,fun n h' hn=>?_,fun b h2b hNb=>?_⟩,hnd,hkn,hnone,h2,hN,hr0.1,hrm,hlv⟩
 ·by_cases e:n=B.at_
  ·subst e
   rw [updH_same] at hn;obtain rfl:h=h':=Option.some.inj hn;refine ⟨hN,by rw [hlv];simp,d,hnd,nd.congr fun i hi=>updH_ne fun q=>?_⟩;have h1:=hp B.at_ h2 hN;have h2':=occ_of hi q;omega
  ·rw [updH_ne e] at hn
   obtain ⟨a1,a2,d',a3,a4⟩:=g.node n h' hn;refine ⟨a1,by rw [hlv,a2,Bool.or_true],d',by rw [hkn n e];exact a3,a4.congr fun i hi=>updH_ne fun q=>?_⟩;have h1:=Refs_ge (N:=N) a1 hn a3 B.at_;have h2':=occ_of hi q;omega
 ·have h0:=g.ref b h2b hNb
  have hpb:=hp b h2b hNb;rw [hrf,hlv]
  show (if b=B.at_ then 1 else p b)+_=if _ then (if b=B.at_ then 1 else B.T.now b) else 0
  by_cases e:b=B.at_
  ·subst e
   rw [if_pos rfl,if_pos rfl,decide_eq_true rfl,Bool.true_or,if_pos rfl];omega
  ·rw [if_neg e,if_neg e,decide_eq_false e,Bool.false_or]
   omega
theorem Gr.commit (g:Gr N G B ht pend) {B':Bs} (c:Cm N G B B'):Gr N (G+1) B' ht pend/\(∀ n h,ht n=some h->B'.nodeI (n:Int)=B.nodeI (n:Int)):=by
 have hnd:∀ n h,ht n=some h->B'.nodeI (n:Int)=B.nodeI (n:Int):=fun n h hn=>by
  obtain ⟨hN,hl⟩:=g.lt hn;exact nodeI_of (by rw [c.good.n,g.good.n]) (c.read n hN hl)
 have hrf:∀ b,Refs B' ht N b=Refs B ht N b:=fun b=>sumTo_congr fun n _=>by
  unfold refsF
  cases hq:ht n with
  | none=>rfl
  | some h=>rw [hnd n h hq]
 refine ⟨⟨c.good,fun n h hn=>?_,fun b h2 hN=>?_⟩,hnd⟩
 ·obtain ⟨a1,a2,d,a3,a4⟩:=g.node n h hn
  exact ⟨a1,by rw [c.live];exact a2,d,by rw [hnd n h hn];exact a3,a4⟩
 ·have:=g.ref b h2 hN
  rw [hrf,c.live]
  cases hl:B.live b with
  | false=>rw [hl] at this;exact this
  | true=>rw [hl] at this;rw [c.now b hl];exact this
theorem blksP_succ {h x:Nat} {d:Nd} (hd:B.nodeI (x:Int)=some d):blksP B (h+1) (x:Int)=(x:Int)::(List.range d.n).flatMap fun i=>blksP B h (d.v i:Int):=by
 show (match B.nodeI (x:Int) with | none=>_ | some d=>_)=_
 rw [hd]
theorem Gr.blks (g:Gr N G B ht pend) {z:Nat} (hz:Refs B ht N z=0):∀ (c x:Nat),ht x=some c->x≠z->∀ b,b∈blksP B (c % 100) (x:Int)->∃ n:Nat,b=(n:Int)/\(ht n).isSome=true/\n≠z:=by
 intro c
 induction hk:c % 100 generalizing c with
 | zero =>
  intro x hx hxz b hb;unfold blksP at hb;simp only [zms] at hb;exact ⟨x,hb,by rw [hx];rfl,hxz⟩
 | succ k ih =>
  intro x hx hxz b hb;obtain ⟨hxN,_,d,hd,nd⟩:=g.node x c hx;rw [blksP_succ hd] at hb;rcases List.mem_cons.1 hb with rfl | hb
  ·exact ⟨x,rfl,by rw [hx];rfl,hxz⟩
  ·obtain ⟨i,hi,hb⟩:=List.mem_flatMap.1 hb
   have hi:=List.mem_range.1 hi;refine ih (c - 1) (by omega) (d.v i) (nd.kid (by omega) i hi) (fun e=>?_) b hb;have h1:=Refs_ge (N:=N) hxN hx hd z;have h2:=occ_of hi e;omega
def SameT (B B':Bs) (h x y:Nat):Prop:=(∀ lo hi least,rightP B' h (y:Int) lo hi least=rightP B h (x:Int) lo hi least)/\allP B' h (y:Int)=allP B h (x:Int)
theorem SameT.refl (B:Bs) (h x:Nat):SameT B B h x x:=⟨fun _ _ _=>rfl,rfl⟩
theorem SameT.trans {B B' B'':Bs} {h x y z:Nat} (a:SameT B B' h x y) (b:SameT B' B'' h y z):SameT B B'' h x z:=⟨fun lo hi least=>(b.1 lo hi least).trans (a.1 lo hi least),b.2.trans a.2⟩
theorem Gr.tree (g:Gr N G B ht pend) {B':Bs} (hn:B'.T.n=B.T.n) {z:Nat} (hz:Refs B ht N z=0) (same:∀ n:Nat,(ht n).isSome=true->n≠z->B'.nodeI (n:Int)=B.nodeI (n:Int)) {c x:Nat} (hx:ht x=some c) (hxz:x≠z):SameT B B' (c % 100) x x:=by
 have hb:∀ b,b∈blksP B (c % 100) (x:Int)->B'.nodeI b=B.nodeI b:=fun b hb=>by
  obtain ⟨n,rfl,hn,hne⟩:=g.blks hz c x hx hxz b hb;exact same n hn hne
 refine ⟨fun lo hi least=>?_,?_⟩
 ·exact (tree_congr (B:=B) (B':=B') hn (lo:=lo) (hi:=hi) (least:=least) (h:=c % 100) (x:=(x:Int)) hb).1
 ·exact (tree_congr (B:=B) (B':=B') hn (lo:=0) (hi:=0) (least:=0) (h:=c % 100) (x:=(x:Int)) hb).2.1
end
theorem owBlock_at (v:Nat) (hv:v<4096) (w:World):Calls Tryz.prog 127 #[.int .u64 (v:Int)] w fun e w'=>e = .returned (.tuple #[.int .i64 (v:Int),.bool (decide (v≠0))])/\w=w':=by
 have e1:min (v:Int) 2147483648=(v:Int):=by omega
 have e2:IntKind.i64.wrap (v:Int)=(v:Int):=IntWalk.i64_in _ (by omega);by_cases h:v=0
 ·subst h
  go_enter Tryz.func127,Tryz.ntmps127;go_wp2_with fail
  go_ret2
  exact ⟨rfl,rfl⟩
 ·have e3:((v:Int) != 0)=true:=by rw [bne_iff_ne];omega
  have e4:decide (v≠0)=true:=decide_eq_true h;rw [e4];go_enter Tryz.func127,Tryz.ntmps127;go_wp2_with fail
  go_ret2
  exact ⟨rfl,rfl⟩
def Bs.isI (B:Bs) (x:Int):Bool:=B.freshB x&&decide (getV B.T x=1)&&(B.nodeI x).isSome
theorem owIs_at {w:World} {M:Bm} {F:List Nat} {B:Bs} (h:BaseAt w M F B) (x:Int) (hx:(Lit.int .i64 x).wf=true) :
  Calls Tryz.prog 66 #[.pointer (some ⟨M.b,0,none⟩),.int .i64 x] w fun e w'=>e = .returned (.bool (B.isI x))/\Chg [] w w':=by
 have cf:=h.cFresh x hx;have cc:=h.cCount x;have cn:=zh (h.cNode x);unfold Bs.isI
 cases hf:B.freshB x with
 | false =>
  rw [hf] at cf;clear h cn cc;go_enter Tryz.func66,Tryz.ntmps66;go_wp2_with fail;refine (cf).mono ?_;rintro e w' ⟨rfl,rfl⟩;go_wp2_with fail;go_ret;exact ⟨rfl,Chg.refl _ _⟩
 | true =>
  rw [hf] at cf;by_cases hg:getV B.T x=1
  ·rw [decide_eq_true hg]
   rw [hg] at cc;obtain ⟨sb,hsb⟩:∃ sb,sb=(B.nodeI x).isSome:=⟨_,rfl⟩;rw [<- hsb];have HS:=zh hsb;clear h hg hsb;go_enter Tryz.func66,Tryz.ntmps66;go_wp2_with fail;refine (cf).mono ?_;rintro e w' ⟨rfl,rfl⟩;go_wp2_with fail;refine (cc).mono ?_;rintro e w' ⟨rfl,rfl⟩;go_wp2_with fail;refine cn.out.mono ?_;clear cn;rintro e w1 (⟨d,kb,vb,hd,rfl,k1,k2,k3,r1,r2,hc1⟩ | ⟨hd,rfl,hc1⟩)
   ·obtain rfl:sb=true:=by rw [HS.out,hd];rfl
    clear r1 r2 hd;go_wp2_with fail;go_ret;exact ⟨rfl,hc1.alloc _⟩
   ·obtain rfl:sb=false:=by rw [HS.out,hd];rfl
    have hne:(B.nodeE x==0)=false:=by unfold Bs.nodeE;split <;> decide
    have hE:(Lit.int .i64 (B.nodeE x)).wf=true:=by unfold Bs.nodeE;split <;> decide
    obtain ⟨E,hE'⟩:∃ E,E=B.nodeE x:=⟨_,rfl⟩;rw [<- hE'] at hne hE ⊢;clear hE' hd;go_wp2_with fail;go_ret;exact ⟨rfl,hc1.alloc _⟩
  ·rw [decide_eq_false hg]
   obtain ⟨c,hc⟩:∃ c,c=getV B.T x:=⟨_,rfl⟩;rw [<- hc] at cc hg;clear h hc cn;go_enter Tryz.func66,Tryz.ntmps66;go_wp2_with fail;refine (cf).mono ?_;rintro e w' ⟨rfl,rfl⟩;go_wp2_with fail;refine (cc).mono ?_;rintro e w' ⟨rfl,rfl⟩;go_wp2_with fail;go_ret;exact ⟨rfl,Chg.refl _ _⟩
section
variable {w:World} {M:Bm} {F:List Nat} {B:Bs}
theorem BaseAt.ok (h:BaseAt w M F B):B.Ok:=by obtain ⟨R,hi,_⟩:=h;exact hi.c.ok
theorem BaseAt.nz (h:BaseAt w M F B):((B.T.n:Int)==0)=false/\B.T.n<=4096:=by
 obtain ⟨R,hi,_⟩:=h;have:=hi.c.ok.n;exact ⟨by rw [beq_eq_false_iff_ne];omega,this.2⟩
end
theorem page_bytes {w:World} {g n:Nat} {leaf:Bool} {keys vals:Nat->Nat} (hb:rightB leaf n n keys vals=true) (hgb:w.heap[g]?=some (.cells (u8s 128 (pageF leaf n keys vals)) 5 (0,0))):BytesAt w g 0 128 (pageF leaf n keys vals) :=
 fun i hi=>⟨by rw [Nat.zero_add,zcb hgb,u8s_get hi],sealP_le (by cases leaf <;> decide) (fun j _=>bodyF_le keys vals n j (by have:=(rightB_bd hb).1;omega)) i⟩
theorem owPut_at {w:World} {M:Bm} {F:List Nat} {B:Bs} (h:BaseAt w M F B) (hF:∀ q,q∈F->q<w.heap.size) (hr:0<B.room) {A:List Nat} {leaf:Bool} {vk vv:Value} {n:Nat} {keys vals:Nat->Nat} (hk:NumsIn A w vk n keys) (hv:NumsIn A w vv n vals) (hb:rightB leaf n n keys vals=true) :
  Calls Tryz.prog 70 #[.pointer (some ⟨M.b,0,none⟩),.agg #[.bool leaf,vk,vv]] w fun e w'=>e = .returned (.tuple #[.int .i64 (B.at_:Int),.int .i64 0])/\BaseAt w' M F (B.put (pageF leaf n keys vals))/\Chg M.L w w':=by
 have c0:=(Chg.refl [] w).alloc (.cells #[.bool leaf,vk,vv] 107);have k0:=znb w (.cells #[.bool leaf,vk,vv] 107);have ce:=enc_ok (hk.chg c0 (by simp)) (hv.chg c0 (by simp)) hb;have CE:=zh ce;have cb:=(h.chg c0 (by simp)).cBlocks;have hz:=h.nz.1;have HB:=zh (zA h (zA hF (zA hr c0)));have HM:=zh (fun q hq=>h.ltL hq:∀ q,q∈M.L->q<w.heap.size);obtain ⟨ak,ck,rfl⟩:=hk.len;obtain ⟨av,cv,rfl⟩:=hv.len;have x0:(w.alloc (.cells #[.bool leaf,.slice ak n ck,.slice av n cv] 107)).cell? ⟨w.heap.size,0,none⟩=some (.bool leaf):=(zcb k0 0).trans rfl;have x1:(w.alloc (.cells #[.bool leaf,.slice ak n ck,.slice av n cv] 107)).cell? ⟨w.heap.size,1,none⟩=some (.slice ak n ck):=(zcb k0 1).trans rfl;have x2:(w.alloc (.cells #[.bool leaf,.slice ak n ck,.slice av n cv] 107)).cell? ⟨w.heap.size,2,none⟩=some (.slice av n cv):=(zcb k0 2).trans rfl;have HRB:=zh hb;clear h hF hr ce hk hv hb c0 k0;go_enter Tryz.func70,Tryz.ntmps70;go_wp2_with fail;refine (cb).mono ?_;rintro e w' ⟨rfl,rfl⟩;go_wp2_with (refine wpList_boxAgg rfl 107 (.tmp 1) rfl (cells:=#[.bool leaf,.slice ak n ck,.slice av n cv]) rfl ?_);refine CE.out.mono ?_;clear CE x0 x1 x2;rintro e w1 ⟨g,rfl,hg,hgb,hc1⟩;have cw1:=HB.out.2.2.2.trans hc1
 have cp:=bPut_at (c:=128) (HB.out.1.chg cw1 (by simp)) (fun q hq=>zLl (HB.out.2.1 q hq) cw1.size) (k:=g) (o:=0) (f:=pageF leaf n keys vals)
  (page_bytes HRB.out hgb) (fun hm=>by have h1:=HM.out g hm;have h2:=HB.out.2.2.2.size;omega) HB.out.2.2.1
 have CP:=zh cp;have HC:=zh cw1;clear cp cw1 hg hgb hc1;go_wp2_with fail;refine CP.out.mono ?_;clear CP;rintro e w2 ⟨rfl,hb2,hc2⟩;have H2:=zh (zA hb2 ((HC.out.mono (by simp)).trans hc2));clear hb2 hc2;go_wp2_with fail
 go_ret2
 exact ⟨rfl,H2.out⟩
theorem Bs.isI_iff {B:Bs} {x:Int} (hi:B.isI x=true):0<=x/\x<(B.T.n:Int)/\(B.fr x.toNat).isSome=true/\getV B.T x=1/\∃ d,B.nodeI x=some d:=by
 unfold Bs.isI Bs.freshB at hi;simp only [Bool.and_eq_true,decide_eq_true_eq] at hi;obtain ⟨⟨⟨⟨a,b⟩,c⟩,d⟩,e⟩:=hi;exact ⟨a,b,c,d,Option.isSome_iff_exists.1 e⟩
theorem owSet_at {w:World} {M:Bm} {F:List Nat} {B:Bs} (h:BaseAt w M F B) (hF:∀ q,q∈F->q<w.heap.size) {x:Nat} (hi:B.isI (x:Int)=true) {A:List Nat} {leaf:Bool} {vk vv:Value} {n:Nat} {keys vals:Nat->Nat} (hk:NumsIn A w vk n keys) (hv:NumsIn A w vv n vals) (hb:rightB leaf n n keys vals=true) :
  Calls Tryz.prog 71 #[.pointer (some ⟨M.b,0,none⟩),.int .i64 (x:Int),.agg #[.bool leaf,vk,vv]] w fun e w'=>e = .returned (.int .i64 0)/\BaseAt w' M F (B.over x (pageF leaf n keys vals))/\Chg M.L w w':=by
 have c0:=(Chg.refl [] w).alloc (.cells #[.bool leaf,vk,vv] 107);have k0:=znb w (.cells #[.bool leaf,vk,vv] 107);have ce:=enc_ok (hk.chg c0 (by simp)) (hv.chg c0 (by simp)) hb;have CE:=zh ce;have cb:=(h.chg c0 (by simp)).cBlocks;have hz:=h.nz;have xw:(Lit.int .i64 (x:Int)).wf=true:=WalkArith.wf_i64 (by have:=Bs.isI_iff hi;omega);have HB:=zh (zA h (zA hF (zA hi c0)));have HM:=zh (fun q hq=>h.ltL hq:∀ q,q∈M.L->q<w.heap.size);obtain ⟨ak,ck,rfl⟩:=hk.len;obtain ⟨av,cv,rfl⟩:=hv.len;have x0:(w.alloc (.cells #[.bool leaf,.slice ak n ck,.slice av n cv] 107)).cell? ⟨w.heap.size,0,none⟩=some (.bool leaf):=(zcb k0 0).trans rfl;have x1:(w.alloc (.cells #[.bool leaf,.slice ak n ck,.slice av n cv] 107)).cell? ⟨w.heap.size,1,none⟩=some (.slice ak n ck):=(zcb k0 1).trans rfl;have x2:(w.alloc (.cells #[.bool leaf,.slice ak n ck,.slice av n cv] 107)).cell? ⟨w.heap.size,2,none⟩=some (.slice av n cv):=(zcb k0 2).trans rfl;have HRB:=zh hb;replace hz:=hz.1;clear h hF ce hk hv hb c0 k0 hi;go_enter Tryz.func71,Tryz.ntmps71;go_wp2_with fail;refine (cb).mono ?_;rintro e w' ⟨rfl,rfl⟩;go_wp2_with (refine wpList_boxAgg rfl 107 (.tmp 2) rfl (cells:=#[.bool leaf,.slice ak n ck,.slice av n cv]) rfl ?_);refine CE.out.mono ?_;clear CE x0 x1 x2;rintro e w1 ⟨g,rfl,hg,hgb,hc1⟩;have cw1:=HB.out.2.2.2.trans hc1;have ci:=owIs_at (HB.out.1.chg cw1 (by simp)) x xw;rw [HB.out.2.2.1] at ci;have CI:=zh ci;have HC:=zh (zA cw1 hgb);have hgl:=zhl hgb;clear ci cw1 hg hgb hc1;go_wp2_with fail;refine CI.out.mono ?_;clear CI
 rintro e w2 ⟨rfl,hc2⟩;have cw2:=HC.out.1.trans hc2;have hx:=Bs.isI_iff HB.out.2.2.1
 have cp:=bOver_at (c:=128) (HB.out.1.chg cw2 (by simp)) (fun q hq=>zLl (HB.out.2.1 q hq) cw2.size) (k:=g) (o:=0) (f:=pageF leaf n keys vals)
  (page_bytes HRB.out ((hc2.block g hgl (by simp)).trans HC.out.2)) (x:=x) (by omega) (by have:=hx.2.2.1;rwa [Int.toNat_natCast] at this)
 have CP:=zh cp;have H2:=zh cw2;clear cp cw2 hc2 hx;go_wp2_with fail;refine CP.out.mono ?_;clear CP;rintro e w3 ⟨rfl,hb3,hc3⟩;have H3:=zh (zA hb3 ((H2.out.mono (by simp)).trans hc3));clear hb3 hc3;go_wp2_with fail;go_ret;exact ⟨rfl,H3.out⟩
end Go.Proofs.YtkhcaclndepgbaaGreat
