/- Package own: rY. · Layers 14 and on, i -/
import Derived.Test.YtegpiomkmfhadaaGreatZo25
set_option linter.all false
set_option maxRecDepth 100000
set_option maxHeartbeats 20000000
namespace Go.Proofs.YtegpiomkmfhadaaGreat
open Go.RowKit
variable {f:zF} {d:Nd} {B B':Bs} {x y c z b:Nat} {l:zL}
theorem bR (h:Y2 f=some d) (hf:∀ i,i<128->f i<=255) :
  zV d.leaf d.n d.n d.k d.v=true/\Y2 (xg d.leaf d.n d.k d.v)=some d:=by
 have ok:=mU h hf;obtain ⟨e,hd⟩:=Oc h
 have hr:zV d.leaf d.n d.n d.k d.v=true:=by
  unfold Ob at e;simp only [Bool.and_eq_true,decide_eq_true_eq] at e;rw [hd];exact e.2.1
 refine ⟨hr,?_⟩;obtain ⟨d',h',a1,a2,a3,a4⟩:=YQ hr ok.k ok.v;rw [h'];obtain ⟨_,hd'⟩:=Oc h';congr 1;obtain ⟨l',n',k',v'⟩:=d';obtain ⟨l,n,k,v⟩:=d;simp only at a1 a2 a3 a4;simp only [Nd.mk.injEq] at hd hd' ⊢;refine ⟨a1,a2,?_,?_⟩
 ·funext i
  by_cases hi:i<n
  ·exact a3 i hi
  ·have z1:k' i=0:=by rw [congrFun hd'.2.2.1 i];unfold Zj V5;exact if_neg (by rw [<- hd'.2.1,a2];exact hi)
   have z2:k i=0:=by rw [congrFun hd.2.2.1 i];unfold Zj V5;exact if_neg (by rw [<- hd.2.1];exact hi)
   rw [z1,z2]
 ·funext i
  by_cases hi:i<n
  ·exact a4 i hi
  ·have z1:v' i=0:=by rw [congrFun hd'.2.2.2 i];unfold Zk V6;exact if_neg (by rw [<- hd'.2.1,a2];exact hi)
   have z2:v i=0:=by rw [congrFun hd.2.2.2 i];unfold Zk V6;exact if_neg (by rw [<- hd.2.1];exact hi)
   rw [z1,z2]
theorem jA (hd:B.nodeI (x:Int)=some d):Y2 (B.read x)=some d:=by
 unfold Bs.nodeI at hd
 split at hd
 ·rwa [yz] at hd
 ·cases hd
def Nd.pg (d:Nd):Nat->Nat:=xg d.leaf d.n d.k d.v
def Bs.own1 (B:Bs) (x:Nat) (d:Nd):Bs:=if 1<B.T.now x then B.ups d.v d.n else B
def Bs.own2 (B:Bs) (x:Nat) (d:Nd):Bs:=(B.own1 x d).down (x:Int)
def jB (B:Bs) (x:Nat) (d:Nd):Nat × Bs:=if B.isI (x:Int) then (x,B) else ((B.own2 x d).at_,(B.own2 x d).put d.pg)
structure eW (B:Bs) (x:Nat) (d:Nd):Prop where
 room:0<B.room
 vals:∀ i,i<d.n->d.v i<4096
 ups:1<B.T.now x->∀ i,i<d.n->d.v i≠0->(B.ups d.v i).upE (d.v i:Int)=0
 down:(B.own1 x d).downE (x:Int)=0
 room2:0<(B.own2 x d).room
theorem tp {w:World} {M:Bm} {F:List Nat} (h:zx w M F B) (hF:∀ q,q∈F->q<w.heap.size) (hx:x<B.T.n) (hd:B.nodeI (x:Int)=some d) (Dm:B.isI (x:Int)=false->eW B x d) :
  zC 161 #[zP M.b,.int .i64 (x:Int)] w fun e w'=>e = .returned (.tuple #[.int .i64 ((jB B x d).1:Int),.int .i64 0])/\zx w' M F (jB B x d).2/\zv M.L w w':=by
 have cn:=zh (h.cNode (x:Int));have:=h.nz.2;have xw:(Lit.int .i64 (x:Int)).wf=true:=WalkArith.wf_i64 zo;have HB:=zh (zA h (zA hF (zA Dm h.ok)));have HD:=zh hd;have HX:=zh hx;have FA:=zh (fun q hq=>h.ltL hq:∀ q,q∈M.L->q<w.heap.size);obtain ⟨Y,hY⟩:=zE (jB B x d);rw [<- hY];have HY:=zh hY;clear h hF Dm hd hx hY;go_enter Tryz.func161,Tryz.ntmps161;go_wp2_with fail;refine cn.mono ?_;clear cn;rintro e w1 (⟨d',kb,vb,hd',rfl,k1,k2,k3,r1,r2,B5⟩ | ⟨hd',rfl,B5⟩)
 case inr=>exact absurd (HD.symm.trans hd') zaa
 obtain rfl:d'=d:=yj (hd'.symm.trans HD);have D6:=(HB.2.2.2.node_ok hd').1;have IX:=bR (f:=B.read x) (d:=d') (jA hd') (HB.2.2.2.read_le HX);have Cv:=xo w1 (.cells #[.bool d'.leaf,zS kb d'.n d'.n,zS vb d'.n d'.n] 42);have Cn:=(zv.refl [] w1).alloc (.cells #[.bool d'.leaf,zS kb d'.n d'.n,zS vb d'.n d'.n] 42);have Cp:=ZQ.box D6 k1 k2 r1 r2 B5 Cv (Cn.mo);have Ed:=zh Cp;have HC:=zh (B5.trans Cn);have HP:=zh IX;have Pq:=zz Cv;obtain ⟨y0,y1,y2⟩:=Cp.c;clear Cp Cv Cn B5 r1 r2 hd' k1 k2 k3 D6 IX;go_upto_region 2 with fail;generalize w1.alloc (.cells #[.bool d'.leaf,zS kb d'.n d'.n,zS vb d'.n d'.n] 42)=W at *;obtain ⟨xb,C5⟩:=zE w1.heap.size;rw [<- C5] at Ed Pq y0 y1 y2 ⊢;clear C5;have ci:=nc (HB.1.chg HC) (x:Int) xw;obtain ⟨t,ht⟩:=zE (B.isI (x:Int));rw [<- ht] at ci;have CI:=zh ci;have HT:=zh ht;clear ci ht;go_wp2_with fail;refine CI.mono ?_;clear CI;rintro e w2 ⟨rfl,BW⟩;have BZ:=zh (HC.trans BW);have DK:=zh (Ed.chg BW);clear BW y0 y1 y2 Ed HC Pq
 cases t with
 | true =>
  obtain rfl:Y=(x,B):=by rw [HY.o];unfold jB;rw [if_pos HT.symm]
  go_wp2_with fail
  go_ret2
  exact ⟨rfl,HB.1.chg BZ.o,BZ.mo⟩
 | false =>
  obtain rfl:Y=((B.own2 x d').at_,(B.own2 x d').put d'.pg):=by rw [HY.o];unfold jB;rw [<- HT.o];rfl
  have Cr:=HB.1.chg BZ.o;have OK:=zh (HB.2.2.1 HT.symm);have cr:=Cr.cRoom;have:(B.room==0)=false:=by rw [yD];have:=OK.room;omega
  have cc:=Cr.cCount (x:Int);rw [show getV B.T (x:Int)=(B.T.now x:Int) by unfold getV;rw [(x7 B.T (x:Int)).2 (zq HX.o),if_pos rfl,yz]] at cc;have BY:∀ q,q∈F->q<w2.heap.size:=fun q hq=>qe (HB.2.1 q hq) BZ.size;have Rc:∀ q,q∈M.L->q<w.heap.size:=FA.o;obtain ⟨z0,z1,z2⟩:=DK.c;have hp1:=HP.1;have hO1:Hd ((if 1<B.T.now x then B.ups d'.v d'.n else B)=B.own1 x d'):=zh rfl;by_cases h1:1<B.T.now x
  ·have i1:(1:Int)<(B.T.now x:Int):=zo
   have hk:zT M.L w2 (zS kb d'.n d'.n) d'.n d'.k:=DK.k.numsIn (zq DK.ok.n) (fun hm=>by have:=Rc _ hm;have:=DK.far;omega) DK.ok.k;have hv:zT M.L w2 (zS vb d'.n d'.n) d'.n d'.v:=DK.v.numsIn (zq DK.ok.n) (fun hm=>by have:=Rc _ hm;have:=DK.far;omega) DK.ok.v;have cu:=vF (leaf:=d'.leaf) Cr BY hk hv (zq DK.ok.n) OK.vals (OK.ups h1);rw [show B.ups d'.v d'.n=B.own1 x d' by unfold Bs.own1;rw [if_pos h1]] at cu;have CU:=zh cu;clear Cr BY hk hv cu hp1;go_wp2_with fail;refine zm (cr) ?_;go_wp2_with fail;refine zm (cc) ?_;go_wp2_with fail;refine CU.mono ?_;clear CU;rintro e w3 ⟨rfl,Du,Ci⟩;have cd:=QN Du (fun q hq=>qe (HB.2.1 q hq) (qh BZ.size Ci.size)) (x:Int);rw [OK.down] at cd;have CD:=zh cd;have Cj:=zh ((BZ.mo:zv M.L w w2).trans Ci);have Ux:=zh (DK.chg Ci (fun q hq => .inl (Rc q hq)));clear cd Du Ci z0 z1 z2 DK;go_wp2_with fail;refine CD.mono ?_;clear CD;rintro e w4 ⟨rfl,Ex,Cd⟩;have I3:=zh (Ux.chg Cd (fun q hq => .inl (Rc q hq)));have cp:=jv (leaf:=d'.leaf) Ex (fun q hq=>qe (HB.2.1 q hq) (qh Cj.size Cd.size)) OK.room2 I3.ki I3.vi HP.1;have CP:=zh cp;have C6:=zh (Cj.trans Cd);obtain ⟨z0,z1,z2⟩:=I3.c;clear cp Ex Cd Ux;go_wp2_with fail
   refine CP.mono ?_;clear CP;rintro e w5 ⟨rfl,Fr,DF⟩;have HE:=zh (zA Fr (C6.trans DF));clear Fr DF z0 z1 z2;go_wp2_with fail
   go_ret2
   exact ⟨rfl,HE⟩
  ·have i1:¬ (1:Int)<(B.T.now x:Int):=zo
   have e1:B.own1 x d'=B:=by unfold Bs.own1;rw [if_neg h1]
   have cd:=QN Cr BY (x:Int);have Nb:=OK.down;rw [e1] at Nb;rw [Nb,show B.down (x:Int)=B.own2 x d' by unfold Bs.own2;rw [e1]] at cd;have CD:=zh cd;clear cd Cr BY hp1 Nb e1 z0 z1 z2 hO1;go_wp2_with fail;refine zm (cr) ?_;go_wp2_with fail;refine zm (cc) ?_;go_wp2_with fail;refine CD.mono ?_;clear CD;rintro e w4 ⟨rfl,Ex,Cd⟩;have I3:=zh (DK.chg Cd (fun q hq => .inl (Rc q hq)));have cp:=jv (leaf:=d'.leaf) Ex (fun q hq=>qe (HB.2.1 q hq) (qh BZ.size Cd.size)) OK.room2 I3.ki I3.vi HP.1;have CP:=zh cp;have C6:=zh ((BZ.mo:zv M.L w w2).trans Cd);obtain ⟨z0,z1,z2⟩:=I3.c;clear cp Ex Cd DK;go_wp2_with fail;refine CP.mono ?_;clear CP;rintro e w5 ⟨rfl,Fr,DF⟩;have HE:=zh (zA Fr (C6.trans DF));clear Fr DF z0 z1 z2;go_wp2_with fail
   go_ret2
   exact ⟨rfl,HE⟩
section
variable {N G:Nat} {B:Bs} {ht:Ht} {BR:Nat->Nat}
theorem Gr.pendc (g:Gr N G B ht BR) {p:zF} (h:∀ b,2<=b->b<N->p b=BR b):Gr N G B ht p :=
 ⟨g.good,g.node,fun b h2 hN=>by rw [h b h2 hN];exact g.ref b h2 hN⟩
theorem Gr.refs_one (g:Gr N G B ht BR):xq B ht N 1=0:=by
 refine JS fun n hn=>?_;unfold zN
 split
 ·rename_i hs
  obtain ⟨c,hc⟩:=yR.1 hs;obtain ⟨_,_,d,hd,nd⟩:=g.node n c hc;rw [hd]
  show xi d 1=0
  refine Nat.eq_zero_of_not_pos fun h=>?_;obtain ⟨i,hi,hv⟩:=aq h;by_cases e:c % 100=0
  ·rcases nd.val e i hi with q | q <;> omega
  ·have:=g.lt (nd.kid e i hi)
   have:=g.two this.2 this.1;omega
 ·rfl
theorem Gr.data (g:Gr N G B ht BR) (hr:0<B.room) (hf:∀ i,i<128->f i<=255) :
  Gr N G (B.put f) ht (fun b=>if b=B.at_ then 1 else BR b)/\(∀ n:Nat,n≠B.at_->(B.put f).nodeI (n:Int)=B.nodeI (n:Int))/\ht B.at_=none/\2<=B.at_/\B.at_<N/\BR B.at_=0/\xq B ht N B.at_=0/\(B.put f).room=B.room - 1/\(∀ b,(B.put f).live b=(decide (b=B.at_)||B.live b))/\B.live B.at_=false:=by
 obtain ⟨g2,l0,h2,hN,DD,-,-,Er,-⟩:=g.good.put_ hr hf;have FI:=g.ref B.at_ h2 hN;rw [l0] at FI;simp at FI
 have GE:ht B.at_=none:=by
  cases hq:ht B.at_ with
  | none=>rfl
  | some q=>have:=(g.lt hq).2;rw [l0] at this;cases this
 have DH:∀ n:Nat,n≠B.at_->(B.put f).nodeI (n:Int)=B.nodeI (n:Int):=fun n hn=>Od zo
 have EW:∀ b,xq (B.put f) ht N b=xq B ht N b:=fun b=>qq fun n _=>by
  unfold zN;by_cases e:n=B.at_
  ·rw [e,GE];rfl
  ·rw [DH n e]
 refine ⟨⟨g2,fun n h hn=>?_,fun b M3 Ij=>?_⟩,DH,GE,h2,hN,FI.1,FI.2,Er,DD,l0⟩
 ·have e:n≠B.at_:=fun e=>by rw [e,GE] at hn;cases hn
  obtain ⟨a1,a2,d,a3,a4⟩:=g.node n h hn;exact ⟨a1,by rw [DD,a2,Bool.or_true],d,by rw [DH n e];exact a3,a4⟩
 ·have h0:=g.ref b M3 Ij
  rw [EW,DD]
  show (if b=B.at_ then 1 else BR b)+_=if _ then (if b=B.at_ then 1 else B.T.now b) else 0
  by_cases e:b=B.at_
  ·subst e
   rw [if_pos rfl,if_pos rfl,yq rfl,Bool.true_or,if_pos rfl,FI.2]
  ·rw [if_neg e,if_neg e,yC e,Bool.false_or]
   exact h0
theorem Gr.ups (g:Gr N G B ht BR) {v:zF} : ∀ n,(∀ i,i<n->v i=0∨(2<=v i/\v i<N/\B.live (v i)=true))->(∀ b,2<=b->b<N->B.live b=true->B.T.now b+n<=65535) ->
  (∀ i,i<n->v i≠0->(B.ups v i).upE (v i:Int)=0)/\Gr N G (B.ups v n) ht (fun b=>BR b+cnt n fun i=>decide (v i=b))/\(∀ m:Nat,(B.ups v n).nodeI (m:Int)=B.nodeI (m:Int))/\(∀ b,(B.ups v n).live b=B.live b)/\(∀ b,2<=b->(B.ups v n).T.now b=B.T.now b+cnt n fun i=>decide (v i=b))/\(B.ups v n).room=B.room/\(∀ b,(B.ups v n).fr b=B.fr b)
 | 0,_,_=>⟨fun _ h=>zo,g.pendc fun b _ _=>rfl,fun _=>rfl,fun _=>rfl,fun b _=>rfl,rfl,fun _=>rfl⟩
 | n+1,hv,hm=>by
  obtain ⟨i1,i2,i3,i4,i5,i6,i7⟩:=g.ups (v:=v) n (fun i hi=>hv i zo) (fun b a1 a2 a3=>by have:=hm b a1 a2 a3;omega);by_cases h0:v n=0
  ·have e:B.ups v (n+1)=B.ups v n:=by show (if v n=0 then _ else _)=_;rw [if_pos h0]
   have hc:∀ b,2<=b->(cnt (n+1) fun i=>decide (v i=b))=cnt n fun i=>decide (v i=b):=fun b hb=>by
    rw [qO];simp [show ¬ v n=b by omega]
   rw [e]
   exact ⟨fun i hi hz=>by
    by_cases q:i=n
    ·subst q;exact absurd h0 hz
    ·exact i1 i zo hz,i2.pendc fun b hb _=>by rw [hc b hb],i3,i4,fun b hb=>by rw [i5 b hb,hc b hb],i6,i7⟩
  ·have e:B.ups v (n+1)=(B.ups v n).up (v n:Int):=by show (if v n=0 then _ else _)=_;rw [if_neg h0]
   obtain ⟨b2,bN,bl⟩:=(hv n zo).resolve_left h0;have:=hm (v n) b2 bN bl;have:=Yj (fun i=>decide (v i=v n)) n;obtain ⟨u1,u2,u3,u4,u5,u6,u7⟩:=i2.up bN (by rw [i4];exact bl) (by rw [i5 _ b2];omega)
   have hc:∀ b,(cnt (n+1) fun i=>decide (v i=b))=(cnt n fun i=>decide (v i=b))+if b=v n then 1 else 0:=fun b=>by
    rw [qO];by_cases q:v n=b
    ·simp [q]
    ·simp [q,show ¬ b=v n from fun h=>q h.symm]
   rw [e];refine ⟨fun i hi hz=>?_,u2.pendc fun b hb _=>?_,fun m=>(u3 m).trans (i3 m),fun b=>(u4 b).trans (i4 b),fun b hb=>?_,u6.trans i6,fun b=>(u7 b).trans (i7 b)⟩
   ·by_cases q:i=n
    ·subst q;exact u1
    ·exact i1 i zo hz
   ·rw [hc]
    split <;> omega
   ·rw [u5,hc]
    split
    ·rename_i q;subst q;rw [i5 _ b2];omega
    ·rw [i5 _ hb];omega
def KK (B B':Bs):Prop:=B'.T.kept=B.T.kept/\B'.a=B.a
theorem KK.refl (B:Bs):KK B B:=⟨rfl,rfl⟩
theorem KK.trans {B B' Pw:Bs} (a:KK B B') (b:KK B' Pw):KK B Pw:=⟨b.1.trans a.1,b.2.trans a.2⟩
theorem KK.up (B:Bs) (x:Int):KK B (B.up x):=by
 unfold Bs.up Proofs.YtegpiomkmfhadaaGreat.up
 split
 ·split <;> exact ⟨rfl,rfl⟩
 ·exact ⟨rfl,rfl⟩
theorem KK.down (B:Bs) (x:Int):KK B (B.down x):=by
 unfold Bs.down Proofs.YtegpiomkmfhadaaGreat.down
 split
 ·split <;> exact ⟨rfl,rfl⟩
 ·exact ⟨rfl,rfl⟩
theorem KK.ups (B:Bs) (v:zF):∀ n,KK B (B.ups v n)
 | 0=>KK.refl B
 | n+1=>by
  unfold Bs.ups
  split
  ·exact KK.ups B v n
  ·exact (KK.ups B v n).trans (KK.up _ _)
theorem KK.own (B:Bs) (x:Nat) (d:Nd) (f:zF):KK B ((B.own2 x d).put f):=by
 have h:KK B (B.own1 x d):=by
  unfold Bs.own1
  split
  ·exact KK.ups _ _ _
  ·exact KK.refl _
 exact h.trans (KK.down (B.own1 x d) (x:Int))
structure JY (N:Nat) (B:Bs) (ht:Ht) (B':Bs) (B6:Ht) (p:zF):Prop where
 tree:∀ r c,ht r=some c->1<=p r->B6 r=some c/\xV B B' (c % 100) r r
 lone:∀ b,b<N->B.live b=true->ht b=none->xq B ht N b=0->1<=p b->B6 b=none/\B'.live b=true/\B'.nodeI (b:Int)=B.nodeI (b:Int)/\B'.fr b=B.fr b/\xq B' B6 N b=0
 sub:∀ n c,B6 n=some c->∃ m,ht m=some c
 kk:KK B B'
 nd:∀ r c,ht r=some c->1<=p r->∀ b,b∈z9 B (c % 100) (r:Int)->B'.nodeI b=B.nodeI b
theorem JY.refl (N:Nat) (B:Bs) (ht:Ht) (p:zF):JY N B ht B ht p:=⟨fun r c h _=>⟨h,xV.refl _ _ _⟩,fun b _ l h hr _=>⟨h,l,rfl,rfl,hr⟩,fun n c h=>⟨n,h⟩,KK.refl _,fun _ _ _ _ _ _=>rfl⟩
theorem JY.trans {B' Pw:Bs} {B6 ht'':Ht} {p p':zF} (a:JY N B ht B' B6 p) (b:JY N B' B6 Pw ht'' p') (h:∀ b,1<=p b->1<=p' b):JY N B ht Pw ht'' p :=
 ⟨fun r c hr hp=>by
  obtain ⟨t1,t2⟩:=a.tree r c hr hp;obtain ⟨t3,t4⟩:=b.tree r c t1 (h r hp)
  exact ⟨t3,t2.trans t4⟩,fun x hN hl hn hr hp=>by
  obtain ⟨t1,t2,t3,t4,t5⟩:=a.lone x hN hl hn hr hp;obtain ⟨u1,u2,u3,u4,u5⟩:=b.lone x hN t2 t1 t5 (h x hp)
  exact ⟨u1,u2,u3.trans t3,u4.trans t4,u5⟩,fun n c hn=>by
  obtain ⟨m,hm⟩:=b.sub n c hn
  exact a.sub m c hm,a.kk.trans b.kk,fun r c hr hp n hn=>by
  have e:=a.nd r c hr hp;exact (b.nd r c (a.tree r c hr hp).1 (h r hp) n (by rw [Xc e];exact hn)).trans (e n hn)⟩
theorem xV.leaf (h1:B.nodeI (x:Int)=some d) (h2:B'.nodeI (y:Int)=some d):xV B B' 0 x y:=by
 refine ⟨fun lo hi least=>?_,?_⟩
 ·unfold zG;rw [h1,h2]
 ·unfold zR;rw [h1,h2]
theorem pf {n:Nat} {f g:Nat->Bool} (h:∀ i,i<n->f i=g i):(List.range n).all f=(List.range n).all g:=by
 rw [Bool.eq_iff_iff];simp only [yQ,ye];exact ⟨fun q i hi=>by rw [<- h i hi];exact q i hi,fun q i hi=>by rw [h i hi];exact q i hi⟩
theorem xV.node {h:Nat} {d':Nd} (hn:B'.T.n=B.T.n) (h1:B.nodeI (x:Int)=some d) (h2:B'.nodeI (y:Int)=some d') (el:d'.leaf=d.leaf) (en:d'.n=d.n) (ek:∀ i,i<d.n->d'.k i=d.k i)
  (kids:∀ i,i<d.n->xV B B' h (d.v i) (d'.v i)/\(2<=d'.v i/\d'.v i<B.T.n↔2<=d.v i/\d.v i<B.T.n)):xV B B' (h+1) x y:=by
 refine ⟨fun lo up least=>?_,?_⟩
 ·unfold zG
  rw [h1,h2];simp only;rw [el,en];congr 2;refine pf fun i hi=>?_
  have eh:d'.hi up i=d.hi up i:=by
   unfold Nd.hi;rw [en]
   split
   ·rename_i q;rw [ek _ q]
   ·rfl
  rw [ek i hi,eh,(kids i hi).1.1,hn];congr 2;exact decide_eq_decide.2 (kids i hi).2
 ·unfold zR
  rw [h1,h2];simp only;rw [en];exact xu fun i hi=>(kids i (ye.1 hi)).1.2
end
def xt (BR:zF) (x:Nat):Nat->Nat:=fun b=>BR b - if b=x then 1 else 0
def xA (BR:zF) (y:Nat):Nat->Nat:=fun b=>BR b+if b=y then 1 else 0
section
variable {N G:Nat} {B:Bs} {ht:Ht} {BR:Nat->Nat}
theorem Gr.getV (g:Gr N G B ht BR) {x:Nat} (hx:x<N):Proofs.YtegpiomkmfhadaaGreat.getV B.T (x:Int)=(B.T.now x:Int):=by
 unfold Proofs.YtegpiomkmfhadaaGreat.getV;rw [(x7 B.T (x:Int)).2 (by rw [g.good.n];omega),if_pos rfl,yz]
theorem Gr.isI_of (g:Gr N G B ht BR) (hx:x<N) (hf:(B.fr x).isSome=true) (hn:B.T.now x=1) (hd:B.nodeI (x:Int)=some d):B.isI (x:Int)=true:=by
 unfold Bs.isI Bs.freshB;rw [g.getV hx,hn,hd,yz,hf,yq (by omega:(0:Int)<=(x:Int)),yq (by rw [g.good.n];omega:(x:Int)<(B.T.n:Int))];rfl
theorem Gr.pg (g:Gr N G B ht BR) (hx:x<N) (hd:B.nodeI (x:Int)=some d):zV d.leaf d.n d.n d.k d.v=true/\Y2 d.pg=some d/\∀ i,i<128->d.pg i<=255:=by
 have h:=bR (jA hd) (g.good.ok.read_le (by rw [g.good.n];exact hx));exact ⟨h.1,h.2,fun j _=>YY (by cases d.leaf <;> decide) (fun k _=>Zy _ _ _ k (zq ((g.good.ok.node_ok hd).1.n))) j⟩
theorem Gr.refs_node (g:Gr N G B ht BR) (hx:ht x=some c) (hd:B.nodeI (x:Int)=some d) (hz:xq B ht N z=0):xi d z=0:=by
 have:=ZR (g.lt hx).1 hx hd z;omega
theorem Gr.moved {B6:Ht} {pend':zF} (g:Gr N G B ht BR) (g':Gr N G B' B6 pend') (hx:ht x=some c) (hd:B.nodeI (x:Int)=some d) (hd':B'.nodeI (y:Int)=some d) (hz:xq B ht N z=0) (hzx:z=x∨ht z=none)
  (hk:∀ n:Nat,n≠y->n≠z->B'.nodeI (n:Int)=B.nodeI (n:Int)) (hy:ht y=none):xV B B' (c % 100) x y:=by
 obtain ⟨Eh,Et,d0,Ez,nd⟩:=g.node x c hx;obtain rfl:d=d0:=yj (hd.symm.trans Ez)
 cases hc:c % 100 with
 | zero=>exact xV.leaf hd hd'
 | succ k =>
  have e:(c - 1) % 100=k:=zo;refine xV.node (by rw [g.good.n,g'.good.n]) hd hd' rfl rfl (fun _ _=>rfl) fun i hi=>⟨?_,Iff.rfl⟩;have hv:=nd.kid zo i hi
  have:=g.tree (B':=B') (by rw [g.good.n,g'.good.n]) hz (fun n hn BU=>hk n (fun q=>by rw [q,hy] at hn;cases hn) BU) hv (fun q=>by
   have h1:=g.refs_node hx hd hz;have h2:=xK hi q;omega)
  rw [e] at this;exact this
structure qf (N G:Nat) (B:Bs) (ht:Ht) (BR:zF) (x c:Nat) (d:Nd) (y:Nat) (B':Bs) (B6:Ht):Prop where
 gr:Gr N G B' B6 (xA (xt BR x) y)
 top:B6 y=some c
 node:B'.nodeI (y:Int)=some d
 is:B'.isI (y:Int)=true
 same:xV B B' (c % 100) x y
 kp:JY N B ht B' B6 (xt BR x)
 room:B.room - 1<=B'.room
 refs:xq B' B6 N y=0
 new:y≠x->ht y=none/\B.live y=false
 move:B.isI (x:Int)=false->y≠x/\(B.T.now x=1->B'.T.now x=0)
 sub2:∀ n k,B6 n=some k->ht n=some k∨n=y
theorem Gr.own_is (g:Gr N G B ht BR) (hx:ht x=some c) (hd:B.nodeI (x:Int)=some d) (hp:1<=BR x) (hi:B.isI (x:Int)=true):qf N G B ht BR x c d x B ht:=by
 have h1:=(Bs.isI_iff hi).2.2.2.1;have hN:=(g.lt hx).1;rw [g.getV hN] at h1;have hr:=g.ref x (g.two (g.lt hx).2 hN) hN;rw [(g.lt hx).2,if_pos rfl] at hr;refine ⟨g.pendc fun b _ _=>?_,hx,hd,hi,xV.refl _ _ _,JY.refl _ _ _ _,zo,zo,fun h=>absurd rfl h,fun h=>(by rw [hi] at h;cases h),fun n k h => .inl h⟩;unfold xA xt;by_cases e:b=x
 ·subst e;rw [if_pos rfl];omega
 ·rw [if_neg e];omega
theorem Gr.own_many (g:Gr N G B ht BR) (hM:N<=4096) (hm:∀ b,BR b<=30000) (hx:ht x=some c) (hd:B.nodeI (x:Int)=some d) (hp:1<=BR x) (hi:B.isI (x:Int)=false) (hr:0<B.room) (h1:1<B.T.now x) :
    eW B x d/\∃ B6,qf N G B ht BR x c d (B.own2 x d).at_ ((B.own2 x d).put d.pg) B6:=by
  obtain ⟨Eh,Et,d0,Ez,nd⟩:=g.node x c hx;obtain rfl:d=d0:=yj (hd.symm.trans Ez);have FO:=g.two Et Eh;have hdo:=(g.good.ok.node_ok hd).1
  have DE:∀ i,i<d.n->d.v i=0∨(2<=d.v i/\d.v i<N/\B.live (d.v i)=true):=fun i hi=>by
    by_cases e:d.v i=0
    · exact .inl e
    · exact .inr (g.val_live hx hd hi e)
  have NR:∀ b,2<=b->b<N->B.live b=true->B.T.now b+d.n<=65535:=fun b b2 bN bl=>by
    have:=g.now_le b2 bN bl;have:=hm b;have:=hdo.n;omega
  obtain ⟨u1,u2,u3,u4,u5,u6,u7⟩:=g.ups d.n DE NR;have e1:B.own1 x d=B.ups d.v d.n:=by unfold Bs.own1;rw [if_pos h1]
  rw [<- e1] at u2 u3 u4 u5 u6 u7;obtain ⟨w1,w2,w3,w4,w5,w6,w7⟩:=u2.down2 Eh FO (by show 1<=BR x+_;omega) (by rw [u5 x FO];omega);have Dm:eW B x d:=⟨hr,fun i hi=>by rcases DE i hi with q | q <;> omega,fun _=>u1,w1,by show 0<((B.own1 x d).down (x:Int)).room;rw [w6,u6];exact hr⟩;refine ⟨Dm,?_⟩;have e2:(B.own1 x d).down (x:Int)=B.own2 x d:=rfl;rw [e2] at w2 w3 w4 w5 w6 w7;obtain ⟨pg1,pg2,pg3⟩:=g.pg Eh hd
  obtain ⟨p1,p2,p3,p4,p5,p6,p7,p8,p9⟩:=w2.put Dm.room2 pg3 pg2 nd (p:=xt BR x) (fun b b2 bN=>by
    show (if b=x then BR b+(cnt d.n fun i=>decide (d.v i=b)) - 1 else BR b+(cnt d.n fun i=>decide (d.v i=b)))=xt BR x b+xi d b
    unfold xt xi;by_cases e:b=x
    · subst e;rw [if_pos rfl,if_pos rfl];omega
    · rw [if_neg e,if_neg e];omega)
  obtain ⟨y,hy⟩:=zE ((B.own2 x d).at_);rw [<- hy] at p1 p2 p3 p4 p5 p6 p7 p9 ⊢;have IK:¬ (x=y):=fun q=>by rw [<- q,hx] at p4;cases p4
  have hpy:=p7;rw [if_neg (fun q=>IK q.symm)] at hpy
  have DD:B.live y=false:=by
    have:=(w2.good.put_ Dm.room2 pg3).2.1;rw [<- hy,w4,u4] at this;exact this
  have Gw:=g.ref y p5 p6;rw [DD] at Gw;simp at Gw;have DH:∀ n:Nat,n≠y->((B.own2 x d).put d.pg).nodeI (n:Int)=B.nodeI (n:Int):=fun n hn=>by rw [p3 n hn,w3,u3]
  have EW:∀ b,xq ((B.own2 x d).put d.pg) (zY ht y (some c)) N b=xq B ht N b+xi d b:=fun b=>by
    have:=qA (f:=zN B ht b) (g:=zN ((B.own2 x d).put d.pg) (zY ht y (some c)) b) (k:=y) (n:=N) p6 (fun i _ hi=>by unfold zN;rw [zy hi,DH i hi]);have h0:zN B ht b y=0:=by unfold zN;rw [p4];rfl
    have h1:zN ((B.own2 x d).put d.pg) (zY ht y (some c)) b y=xi d b:=by unfold zN;rw [zH,p2];rfl
    rw [h0,h1] at this;exact this.symm
  have hoy:xi d y=0:=g.refs_node hx hd Gw.2
  have gg:Gr N G ((B.own2 x d).put d.pg) (zY ht y (some c)) (xA (xt BR x) y):=p1.pendc fun b b2 bN=>by
    unfold xA;by_cases e:b=y
    · subst e
      rw [if_pos rfl,if_pos rfl];unfold xt;omega
    · rw [if_neg e,if_neg e];rfl
  have Ua:∀ r cr,ht r=some cr->xV B ((B.own2 x d).put d.pg) (cr % 100) r r:=fun r cr DA=>g.tree zaz g.refs_one (fun n hn _=>DH n (fun q=>by rw [q,p4] at hn;cases hn)) DA (fun q=>by have:=g.two (g.lt DA).2 (g.lt DA).1;omega)
  refine ⟨_,{ gr:=gg,top:=zH,node:=p2,is:=?_,same:=?_,kp:=⟨fun r cr DA _=>⟨?_,Ua r cr DA⟩,fun b bN bl bh br bp=>?_,fun n cn hn=>?_,KK.own _ _ _ _,fun r cr DA _=>g.tree_nd g.refs_one (fun n hn _=>DH n (fun q=>by rw [q,p4] at hn;cases hn)) DA (fun q=>by have:=g.two (g.lt DA).2 (g.lt DA).1;omega)⟩,room:=by rw [p8,w6,u6];omega,refs:=by rw [EW,hoy,Gw.2],new:=fun _=>⟨p4,DD⟩,move:=fun _=>⟨fun q=>IK q.symm,fun q=>zo⟩,sub2:=fun n k hn=>(by
    by_cases e:n=y
    · exact .inr e
    · rw [zy e] at hn;exact .inl hn) }⟩
  · refine gg.isI_of p6 ?_ ?_ p2
    · rw [hy];unfold Bs.put;simp
    · rw [hy];show (if (B.own2 x d).at_=(B.own2 x d).at_ then 1 else _)=1;rw [if_pos rfl]
  · exact g.moved gg hx hd p2 g.refs_one (.inr (by
      cases hq:ht 1 with
      | none=>rfl
      | some q=>have:=g.two (g.lt hq).2 (g.lt hq).1;omega)) (fun n hn _=>DH n hn) p4
  · rw [zy (fun q=>by rw [q,p4] at DA;cases DA)];exact DA
  · have D5:b≠y:=fun q=>by rw [q,DD] at bl;cases bl
    refine ⟨by rw [zy D5];exact bh,by rw [p9,w4,u4,bl,Bool.or_true],DH b D5,?_,by rw [EW,br,g.refs_node hx hd br]⟩
    show (if b=(B.own2 x d).at_ then some d.pg else (B.own2 x d).fr b)=B.fr b
    rw [<- hy,if_neg D5,w7,u7]
  · by_cases e:n=y
    · subst e;rw [zH] at hn;exact ⟨x,hx.trans hn⟩
    · rw [zy e] at hn;exact ⟨n,hn⟩
theorem Gr.own_one (g:Gr N G B ht BR) (hM:N<=4096) (hx:ht x=some c) (hd:B.nodeI (x:Int)=some d) (hp:1<=BR x) (hi:B.isI (x:Int)=false) (hr:0<B.room) (h1:B.T.now x=1) :
    eW B x d/\∃ B6,qf N G B ht BR x c d (B.own2 x d).at_ ((B.own2 x d).put d.pg) B6:=by
  obtain ⟨Eh,Et,d0,Ez,nd⟩:=g.node x c hx;obtain rfl:d=d0:=yj (hd.symm.trans Ez);have FO:=g.two Et Eh
  have SB:B.fr x=none:=by
    cases hf:B.fr x with
    | none=>rfl
    | some f =>
      have:=g.isI_of Eh (by rw [hf];rfl) h1 hd;rw [hi] at this;cases this
  have hkx:B.T.kept x≠0:=fun q=>by
    have:=(g.good.ok.fr x (by rw [g.good.n];exact Eh)).2 ⟨q,zo⟩;rw [SB] at this;cases this
  have DE:∀ i,i<d.n->d.v i<4096:=fun i hi=>by
    by_cases e:d.v i=0
    · omega
    · have:=g.val_live hx hd hi e;omega
  have e1:B.own1 x d=B:=by unfold Bs.own1;rw [if_neg zo]
  obtain ⟨w1,w2,w3,w4,w5,w6,w7,w8,w9⟩:=g.down1 Eh FO hp h1;rw [if_neg hkx] at w6;have e2:B.down (x:Int)=B.own2 x d:=by unfold Bs.own2;rw [e1]
  have Dm:eW B x d:=⟨hr,DE,fun q=>zo,by rw [e1];exact w1,by rw [<- e2,w6];omega⟩;refine ⟨Dm,?_⟩
  have Ms:(B.down (x:Int)).T.kept=B.T.kept:=by
    rw [(Vx g.good Eh Et).2];rfl
  rw [e2] at w2 w3 w4 w5 w6 w7 Ms;have hocx:xi d x=0:=g.refs_node hx hd w9;have nd':Zm N (zY ht x none) c d:=nd.congr fun i hi=>zy fun q=>by have:=xK hi q;omega
  have KF:∀ b,zN B ht b x=xi d b:=fun b=>by unfold zN;rw [hx,hd];rfl
  obtain ⟨pg1,pg2,pg3⟩:=g.pg Eh hd
  obtain ⟨p1,p2,p3,p4,p5,p6,p7,p8,p9⟩:=w2.put Dm.room2 pg3 pg2 nd' (p:=xt BR x) (fun b b2 bN=>by
    show (if b=x then 0 else BR b)+zN B ht b x=xt BR x b+xi d b
    rw [KF];unfold xt;by_cases e:b=x
    · subst e;rw [if_pos rfl,if_pos rfl];omega
    · rw [if_neg e,if_neg e];omega)
  obtain ⟨_,l0,_,_,_,_,_,_,k0⟩:=w2.good.put_ Dm.room2 pg3;obtain ⟨y,hy⟩:=zE ((B.own2 x d).at_);rw [<- hy] at p1 p2 p3 p4 p5 p6 p7 p9 l0 k0 ⊢;have IK:y≠x:=fun q=>by rw [q,Ms] at k0;exact hkx k0
  rw [zy IK] at p4;have hpy:=p7;rw [if_neg IK,KF] at hpy;have DD:B.live y=false:=by rw [w4,if_neg IK] at l0;exact l0
  have Gw:=g.ref y p5 p6;rw [DD] at Gw;simp at Gw;have DH:∀ n:Nat,n≠y->n≠x->((B.own2 x d).put d.pg).nodeI (n:Int)=B.nodeI (n:Int):=fun n hn Fi=>by rw [p3 n hn,w3 n Fi]
  have EW:∀ b,xq ((B.own2 x d).put d.pg) (zY (zY ht x none) y (some c)) N b=xq B ht N b:=fun b=>by
    have s1:=qA (f:=zN B ht b) (g:=zN (B.own2 x d) (zY ht x none) b) (k:=x) (n:=N) Eh (fun i _ hi=>by unfold zN;rw [zy hi,w3 i hi]);have s2:=qA (f:=zN (B.own2 x d) (zY ht x none) b) (g:=zN ((B.own2 x d).put d.pg) (zY (zY ht x none) y (some c)) b) (k:=y) (n:=N) p6 (fun i _ hi=>by unfold zN;rw [zy hi,p3 i hi]);have h0:zN (B.own2 x d) (zY ht x none) b y=0:=by unfold zN;rw [zy IK,p4];rfl
    have h1:zN ((B.own2 x d).put d.pg) (zY (zY ht x none) y (some c)) b y=xi d b:=by unfold zN;rw [zH,p2];rfl
    have h2:zN (B.own2 x d) (zY ht x none) b x=0:=by unfold zN;rw [zH];rfl
    rw [h2,KF] at s1;rw [h0,h1] at s2
    show Yz _ _=Yz _ _
    omega
  have gg:Gr N G ((B.own2 x d).put d.pg) (zY (zY ht x none) y (some c)) (xA (xt BR x) y):=p1.pendc fun b b2 bN=>by
    unfold xA;by_cases e:b=y
    · subst e
      rw [if_pos rfl,if_pos rfl];unfold xt;omega
    · rw [if_neg e,if_neg e];rfl
  refine ⟨_,{ gr:=gg,top:=zH,node:=p2,is:=?_,same:=?_,kp:=⟨fun r cr DA F1=>?_,fun b bN bl bh br bp=>?_,fun n cn hn=>?_,KK.own _ _ _ _,fun r cr DA F1=>g.tree_nd w9 (fun n hn BU=>DH n (fun q=>by rw [q,p4] at hn;cases hn) BU) DA (fun q=>by
      unfold xt at F1;rw [q,if_pos rfl] at F1
      omega)⟩,room:=by rw [p8,w6];omega,refs:=by rw [EW,Gw.2],new:=fun _=>⟨p4,DD⟩,move:=fun _=>⟨IK,fun _=>?_⟩,sub2:=fun n k hn=>(by
    by_cases e:n=y
    · exact .inr e
    · rw [zy e] at hn
      by_cases e':n=x
      · subst e';rw [zH] at hn;cases hn
      · rw [zy e'] at hn;exact .inl hn) }⟩
  · refine gg.isI_of p6 ?_ ?_ p2
    · rw [hy];unfold Bs.put;simp
    · rw [hy];show (if (B.own2 x d).at_=(B.own2 x d).at_ then 1 else _)=1;rw [if_pos rfl]
  · exact g.moved gg hx hd p2 w9 (.inl rfl) DH p4
  · have hrx':r≠x:=fun q=>by
      unfold xt at F1;rw [q,if_pos rfl] at F1;omega
    have hry':r≠y:=fun q=>by rw [q,p4] at DA;cases DA
    exact ⟨by rw [zy hry',zy hrx'];exact DA,g.tree zaz w9 (fun n hn BU=>DH n (fun q=>by rw [q,p4] at hn;cases hn) BU) DA hrx'⟩
  · have D5:b≠y:=fun q=>by rw [q,DD] at bl;cases bl
    have Cx:b≠x:=fun q=>by rw [q,hx] at bh;cases bh
    refine ⟨by rw [zy D5,zy Cx];exact bh,by rw [p9,w4,if_neg Cx,bl,Bool.or_true],DH b D5 Cx,?_,by rw [EW,br]⟩
    show (if b=(B.own2 x d).at_ then some d.pg else (B.own2 x d).fr b)=B.fr b
    rw [<- hy,if_neg D5,w7 b Cx]
  · by_cases e:n=y
    · subst e;rw [zH] at hn;exact ⟨x,hx.trans hn⟩
    · rw [zy e] at hn
      by_cases e':n=x
      · subst e';rw [zH] at hn;cases hn
      · rw [zy e'] at hn;exact ⟨n,hn⟩
  · show (if x=(B.own2 x d).at_ then 1 else (B.own2 x d).T.now x)=0
    rw [<- hy,if_neg (fun q=>IK q.symm),w5,if_pos rfl]
theorem Gr.own (g:Gr N G B ht BR) (hM:N<=4096) (hm:∀ b,BR b<=30000) (hx:ht x=some c) (hp:1<=BR x) (hr:0<B.room) :
  ∃ d,B.nodeI (x:Int)=some d/\(B.isI (x:Int)=false->eW B x d)/\∃ B6,qf N G B ht BR x c d (jB B x d).1 (jB B x d).2 B6:=by
 obtain ⟨Eh,Et,d,hd,nd⟩:=g.node x c hx;refine ⟨d,hd,?_⟩;unfold jB
 cases hi:B.isI (x:Int) with
 | true=>exact ⟨fun h=>(by cases h),ht,g.own_is hx hd hp hi⟩
 | false =>
  have h0:=(g.good.may Eh Et).2.2.1;by_cases h1:1<B.T.now x
  ·have:=g.own_many hM hm hx hd hp hi hr h1
   exact ⟨fun _=>this.1,this.2⟩
  ·have:=g.own_one hM hx hd hp hi hr zo
   exact ⟨fun _=>this.1,this.2⟩
end
def cv (l:zL) (b:Nat):Nat:=l.countP fun p=>decide (p.2=b)
theorem QR (l m:zL) (b:Nat):cv (l++m) b=cv l b+cv m b:=List.countP_append
theorem bS (k v b:Nat):cv [(k,v)] b=if v=b then 1 else 0:=by
 unfold cv;by_cases h:v=b <;> simp [h]
theorem nf (h:cv l b=0):∀ p,p∈l->p.2≠b:=fun p hp e=>by
 unfold cv at h;have:=List.countP_eq_zero.1 h p hp;simp [e] at this
theorem tq (b:Nat):∀ (g:zL) (n:Nat),n<=g.length->(cnt n fun i=>decide (qv g i=b))=cv (g.take n) b
 | g,0,_=>by unfold cv;simp [cnt]
 | g,n+1,h=>by
  rw [qO,tq b g n zo,List.take_succ_eq_append_getElem zo,QR];congr 1;have e:qv g n=(g[n]' zo).2:=by unfold qv;rw [qi zo]
  rw [e];unfold cv;by_cases q:(g[n]' zo).2=b <;> simp [q]
theorem ts {q i:Nat} : l.drop (Yt l.length q i)=grp l q i++l.drop (Yt l.length q (i+1)):=by
 have:=List.take_append_drop (Yt l.length q (i+1) - Yt l.length q i) (l.drop (Yt l.length q i));rw [List.drop_drop,show Yt l.length q i+(Yt l.length q (i+1) - Yt l.length q i)=Yt l.length q (i+1) by have:=bH l.length q i;omega] at this;exact this.symm
section
variable {N G:Nat} {p:Nat->Nat}
def Az (N:Nat) (ht:Ht) (k:Nat) (l:zL):Prop:=∀ q,q∈l->if k=0 then q.2=0∨(2<=q.2/\q.2<N/\ht q.2=none) else ht q.2=some (k - 1)
theorem tu {B:Bs} {ht:Ht} {k:Nat} {items l:zL} (I:BI N G k items l B) (hM:N<=4096) (hk:k<100) (g:Gr N G B ht (fun b=>p b+cv l b)) (hv:Az N ht k l) :
  ∀ i,i<=zw l.length->∃ B6,Gr N G (xp (decide (k=0)) l B i).1 B6 (fun b=>p b+cv (l.drop (Yt l.length (zw l.length) i)) b+cv (xp (decide (k=0)) l B i).2 b)/\Az N B6 k (l.drop (Yt l.length (zw l.length) i))/\(∀ q,q∈(xp (decide (k=0)) l B i).2->B6 q.2=some k) /\
   (∀ n c,ht n=some c->B6 n=some c)/\(∀ n c,B6 n=some c->ht n=some c∨c=k)
 | 0,_=>⟨ht,by
   rw [Vy];exact g.pendc fun b _ _=>rfl,by rw [Vy];exact hv,fun q hq=>(by cases hq),fun n c h=>h,fun n c h => .inl h⟩
 | i+1,hi=>by
  obtain ⟨Ct,g1,v1,r1,x1,s1⟩:=tu I hM hk g hv i zo;obtain ⟨Eg,Er⟩:=I.lvl hM i zo;have hmq:=I.many;have hr:0<(xp (decide (k=0)) l B i).1.room:=by rw [Er];omega
  have Nl:=I.grp_right hM (i:=i) zo;have hu:=I.asc.2.grp (zw l.length) i;have EQ:=(ZI I.len (i:=i) zo).1;obtain ⟨d,hd,d1,d2,d3,d4⟩:=YQ Nl (fun i _=>(hu.getD i).1) (fun i _=>(hu.getD i).2);rw [ts (i:=i)] at g1 v1
  have EK:∀ j,j<d.n->(∃ kk,(kk,d.v j)∈grp l (zw l.length) i):=fun j hj=>by
   rw [d2] at hj;refine ⟨xZ (grp l (zw l.length) i) j,?_⟩;rw [d4 j hj];have:(grp l (zw l.length) i).getD j (0,0)=(grp l (zw l.length) i)[j]:=qi hj;unfold xZ qv;rw [this];exact zt hj
  have nd:Zm N Ct k d:=by
   refine ⟨by rw [d1,yS hk],fun h0 j hj=>?_,fun h0 j hj=>?_,fun h0 j hj hz=>?_⟩
   ·obtain ⟨kk,hm⟩:=EK j hj
    have:=v1 _ (zal _ hm);rw [yS hk] at h0;rwa [if_neg h0] at this
   ·obtain ⟨kk,hm⟩:=EK j hj
    have:=v1 _ (zal _ hm);rw [yS hk] at h0;rw [if_pos h0] at this;rcases this with q | q
    ·exact .inl q
    ·exact .inr ⟨q.1,q.2.1⟩
   ·obtain ⟨kk,hm⟩:=EK j hj
    have:=v1 _ (zal _ hm);rw [if_pos h0] at this;rcases this with q | q
    ·exact absurd q hz
    ·exact q.2.2
  have hoc:∀ b,xi d b=cv (grp l (zw l.length) i) b:=fun b=>by
   unfold xi;rw [zZ (q:=fun j=>decide (qv (grp l (zw l.length) i) j=b)) (fun j hj=>by rw [d4 j (by rw [<- d2];exact hj)]),d2,tq _ _ _ (xd _),List.take_length]
  obtain ⟨p1,p2,p3,p4,p5,p6,p7,p8,p9⟩:=g1.put hr (ap (decide (k=0)) EQ) hd nd (p:=fun b=>p b+cv (l.drop (Yt l.length (zw l.length) (i+1))) b+cv (xp (decide (k=0)) l B i).2 b) (fun b _ _=>by
   show p b+cv (_++_) b+_=_
   rw [QR,hoc];omega)
  rw [QR] at p7;have hz:p (xp (decide (k=0)) l B i).1.at_=0/\cv (l.drop (Yt l.length (zw l.length) (i+1))) (xp (decide (k=0)) l B i).1.at_=0/\cv (xp (decide (k=0)) l B i).2 (xp (decide (k=0)) l B i).1.at_=0:=zo;refine ⟨_,p1.pendc fun b _ _=>?_,fun q hq=>?_,fun q hq=>?_,fun n c hn=>?_,fun n c hn=>?_⟩
  ·show p b+cv _ b+cv (_++[(_,_)]) b=_
   rw [QR,bS];by_cases e:b=(xp (decide (k=0)) l B i).1.at_
   ·subst e
    rw [if_pos rfl,if_pos rfl];omega
   ·rw [if_neg (fun q=>e q.symm),if_neg e]
    rfl
  ·have h1:=v1 q (zar _ hq)
   have h2:=nf hz.2.1 q hq;rw [zy h2];exact h1
  ·have Nk:q∈(xp (decide (k=0)) l B i).2++[(xZ l (Yt l.length (zw l.length) i),(xp (decide (k=0)) l B i).1.at_)]:=hq
   rcases yx.1 Nk with hq | hq
   ·rw [zy (nf hz.2.2 q hq)]
    exact r1 q hq
   ·rw [zms] at hq
    subst hq;exact zH
  ·have h1:=x1 n c hn
   rw [zy (fun e=>by rw [e,p4] at h1;cases h1)];exact h1
  ·by_cases e:n=(xp (decide (k=0)) l B i).1.at_
   ·subst e
    rw [zH] at hn;exact .inr (yj hn).symm
   ·rw [zy e] at hn
    exact s1 n c hn
structure tw (N G:Nat) (ht:Ht) (p:zF) (items:zL) (B':Bs) (x:Nat) (B6:Ht) (c:Nat):Prop where
 gr:Gr N G B' B6 (xA p x)
 tree:Zl B' (x:Int) c items
 top:B6 x=some c
 lt:c<8
 ext:∀ n c,ht n=some c->B6 n=some c
 sub:∀ n c,B6 n=some c->ht n=some c∨c<8
theorem tx (hM:N<=4096) {items:zL} {m0:Nat} (h0:m0<=200):∀ (f k:Nat) (l:zL) (B:Bs) (ht:Ht),f=8 - k->BI N G k items l B->BH k l.length m0->Gr N G B ht (fun b=>p b+cv l b)->Az N ht k l ->
  ∃ B6 c,tw N G ht p items (ZJ f k l B).1 (ZJ f k l B).2 B6 c/\B.room - l.length<=(ZJ f k l B).1.room
 | 0,k,l,B,ht,hf,I,H,g,hv=>by have:=H.small I.len h0;omega
 | f+1,k,l,B,ht,hf,I,H,g,hv=>by
  have Eu:=H.small I.len h0;obtain ⟨b1,b2,b3,b4⟩:=Yn I.len;obtain ⟨Ct,g1,v1,r1,x1,s1⟩:=tu I hM zo g hv _ (xd _);rw [ao zo,List.drop_length] at g1;obtain ⟨-,Er⟩:=I.lvl hM _ (xd _)
  have B9:(xp (decide (k=0)) l B (zw l.length)).2.length=zw l.length:=by
   have:∀ i,(xp (decide (k=0)) l B i).2.length=i:=fun i=>by
    induction i with
    | zero=>rfl
    | succ i ih=>show (_++[_]).length=_;rw [ym,ih];rfl
   exact this _
  by_cases hq:zw l.length=1
  ·rw [show f+1=8 - k by omega,eQ Eu hq]
   obtain ⟨t1,t2,t3⟩:=I.last hM hq;rw [hq] at g1 r1 B9 Er;have hm:((xp (decide (k=0)) l B 1).2)[0]' zo∈(xp (decide (k=0)) l B 1).2:=zt _;have e:qv (xp (decide (k=0)) l B 1).2 0=(((xp (decide (k=0)) l B 1).2)[0]' zo).2:=by unfold qv;rw [qi zo]
   refine ⟨Ct,k,⟨g1.pendc fun b _ _=>?_,t2,by show Ct (qv _ 0)=_;rw [e];exact r1 _ hm,zo,x1,fun n c hn=>?_⟩,by show _<=(xp _ l B 1).1.room;rw [Er];have:=I.len;omega⟩
   ·unfold xA
    show _=p b+cv [] b+cv (xp (decide (k=0)) l B 1).2 b
    have e2:(xp (decide (k=0)) l B 1).2=[(xZ l (Yt l.length (zw l.length) 0),qv (xp (decide (k=0)) l B 1).2 0)]:=rfl;rw [e2,bS]
    show (p b+if b=qv (xp (decide (k=0)) l B 1).2 0 then 1 else 0)=p b+0+_
    by_cases q:b=qv (xp (decide (k=0)) l B 1).2 0
    ·rw [if_pos q,if_pos q.symm]
    ·rw [if_neg q,if_neg (fun h=>q h.symm)]
   ·rcases s1 n c hn with q | q
    ·exact .inl q
    ·exact .inr zo
  ·rw [show f+1=8 - k by omega,eV Eu hq,show 8 - (k+1)=f by omega]
   have MI:2<=zw l.length:=zo
   obtain ⟨Cg,c,t,hr⟩:=tx hM h0 f (k+1) _ _ Ct zo (I.next hM MI) (by rw [B9];exact H.next MI h0) (g1.pendc fun b _ _=>by show p b+_=p b+cv [] b+_;show p b+_=p b+0+_;omega) (fun q hq=>by
    rw [if_neg zo,zg];exact r1 q hq)
   refine ⟨Cg,c,⟨t.gr,t.tree,t.top,t.lt,fun n c hn=>t.ext n c (x1 n c hn),fun n c hn=>?_⟩,?_⟩
   ·rcases t.sub n c hn with q | q
    ·rcases s1 n c q with q | q
     ·exact .inl q
     ·exact .inr zo
    ·exact .inr q
   ·rw [B9,Er] at hr
    have:=b3 MI;omega
end
section
variable {N G:Nat} {B:Bs} {ht:Ht} {BR:Nat->Nat}
structure A1 (N G:Nat) (B:Bs) (ht:Ht) (BR:zF) (x:Nat) (B':Bs) (B6:Ht):Prop where
 gr:Gr N G B' B6 (xt BR x)
 kp:JY N B ht B' B6 (xt BR x)
 room:B.room<=B'.room
theorem Gr.ne1 (g:Gr N G B ht BR) {r:Nat} (hr:ht r=some c):r≠1:=fun q=>by have:=g.two (g.lt hr).2 (g.lt hr).1;omega
theorem gw {p:zF} (h:1<=xt p x b):b=x->2<=p x:=fun e=>by subst e;unfold xt at h;rw [if_pos rfl] at h;omega
theorem Gr.less2 (g:Gr N G B ht BR) (hx:x<N) (FO:2<=x) (hp:1<=BR x) (hm:2<=B.T.now x):B.downE (x:Int)=0/\A1 N G B ht BR x (B.down (x:Int)) ht:=by
 obtain ⟨w1,w2,w3,w4,w5,w6,w7⟩:=g.down2 hx FO hp hm
 have gg:Gr N G (B.down (x:Int)) ht (xt BR x):=w2.pendc fun b _ _=>by
  unfold xt;by_cases e:b=x
  ·rw [if_pos e,if_pos e]
  ·rw [if_neg e,if_neg e];rfl
 refine ⟨w1,gg,⟨fun r c hr _=>⟨hr,g.tree zaz g.refs_one (fun n _ _=>w3 n) hr (g.ne1 hr)⟩,fun b bN bl bh br _=>⟨bh,by rw [w4];exact bl,w3 b,w7 b,?_⟩,fun n c hn=>⟨n,hn⟩,KK.down _ _,fun r c hr _=>g.tree_nd g.refs_one (fun n _ _=>w3 n) hr (g.ne1 hr)⟩,by rw [w6];omega⟩;rw [show xq (B.down (x:Int)) ht N b=xq B ht N b from qq fun n _=>by unfold zN;rw [w3]];exact br
theorem Gr.less (g:Gr N G B ht BR) (hx:x<N) (FO:2<=x) (hp:1<=BR x) (hn:ht x=none):B.downE (x:Int)=0/\A1 N G B ht BR x (B.down (x:Int)) ht:=by
 by_cases hm:2<=B.T.now x
 ·exact g.less2 hx FO hp hm
 ·have hl:B.live x=true:=g.live_of FO hx zo
  have:=(g.good.may hx hl).2.2.1;obtain ⟨w1,w2,w3,w4,w5,w6,w7,w8,w9⟩:=g.down1 hx FO hp zo
  have e:zY ht x none=ht:=funext fun n=>by
   unfold zY
   split
   ·rename_i q;rw [q,hn]
   ·rfl
  rw [e] at w2;have KF:∀ b,zN B ht b x=0:=fun b=>by unfold zN;rw [hn];rfl
  have gg:Gr N G (B.down (x:Int)) ht (xt BR x):=w2.pendc fun b _ _=>by
   unfold xt;by_cases q:b=x
   ·subst q;rw [if_pos rfl,if_pos rfl,KF];omega
   ·rw [if_neg q,if_neg q,KF];rfl
  have DH:∀ n:Nat,(ht n).isSome=true->(B.down (x:Int)).nodeI (n:Int)=B.nodeI (n:Int):=fun n hs=>w3 n (fun q=>by rw [q,hn] at hs;cases hs);refine ⟨w1,gg,⟨fun r c hr _=>⟨hr,g.tree zaz g.refs_one (fun n hs _=>DH n hs) hr (g.ne1 hr)⟩,fun b bN bl bh br bp=>?_,fun n c hn=>⟨n,hn⟩,KK.down _ _,fun r c hr _=>g.tree_nd g.refs_one (fun n hs _=>DH n hs) hr (g.ne1 hr)⟩,by rw [w6];split <;> omega⟩;have Cx:b≠x:=fun q=>by have:=gw bp q;omega
  refine ⟨bh,by rw [w4,if_neg Cx];exact bl,w3 b Cx,w7 b Cx,?_⟩
  rw [show xq (B.down (x:Int)) ht N b=xq B ht N b from qq fun n _=>by
   unfold zN;by_cases hs:(ht n).isSome=true
   ·rw [if_pos hs,if_pos hs,DH n hs]
   ·rw [if_neg hs,if_neg hs]]
  exact br
def BJ (p:zF) (d:Nd) (i:Nat):Nat->Nat:=fun b=>p b+(xi d b - cnt i fun j=>decide (d.v j=b))
structure Bt (N G:Nat) (B:Bs) (ht:Ht) (BR:zF) (x:Nat) (d:Nd) (i:Nat) (B':Bs) (B6:Ht):Prop where
 gr:Gr N G B' B6 (BJ (xt BR x) d i)
 kp:JY N B ht B' B6 (xt BR x)
 room:B.room<=B'.room
theorem Gr.gone (g:Gr N G B ht BR) (hx:ht x=some c) (hd:B.nodeI (x:Int)=some d) (hp:1<=BR x) (hm:B.T.now x=1) :
  B.downE (x:Int)=0/\Bt N G B ht BR x d 0 (B.down (x:Int)) (zY ht x none)/\(B.down (x:Int)).T.now x=0/\Zm N (zY ht x none) c d:=by
 obtain ⟨Eh,Et,d0,Ez,nd⟩:=g.node x c hx;obtain rfl:d=d0:=yj (hd.symm.trans Ez);have FO:=g.two Et Eh;obtain ⟨w1,w2,w3,w4,w5,w6,w7,w8,w9⟩:=g.down1 Eh FO hp hm;have KF:∀ b,zN B ht b x=xi d b:=fun b=>by unfold zN;rw [hx,hd];rfl
 have gg:Gr N G (B.down (x:Int)) (zY ht x none) (BJ (xt BR x) d 0):=w2.pendc fun b _ _=>by
  show (BR b - if b=x then 1 else 0)+(xi d b - 0)=(if b=x then 0 else BR b)+zN B ht b x
  rw [KF];by_cases q:b=x
  ·subst q;rw [if_pos rfl,if_pos rfl];omega
  ·rw [if_neg q,if_neg q];rfl
 refine ⟨w1,⟨gg,⟨fun r cr hr F1=>?_,fun b bN bl bh br bp=>?_,fun n cn hn=>?_,KK.down _ _,fun r cr hr F1=>g.tree_nd w9 (fun n _ BU=>w3 n BU) hr (fun q=>by have:=gw F1 q;omega)⟩,by rw [w6];split <;> omega⟩,by rw [w5,if_pos rfl],nd.congr fun i hi=>zy fun q=>?_⟩
 ·have KF:r≠x:=fun q=>by have:=gw F1 q;omega
  exact ⟨by rw [zy KF];exact hr,g.tree zaz w9 (fun n _ BU=>w3 n BU) hr KF⟩
 ·have Cx:b≠x:=fun q=>by have:=gw bp q;omega
  refine ⟨by rw [zy Cx];exact bh,by rw [w4,if_neg Cx];exact bl,w3 b Cx,w7 b Cx,?_⟩;have s1:=qA (f:=zN B ht b) (g:=zN (B.down (x:Int)) (zY ht x none) b) (k:=x) (n:=N) Eh (fun i _ hi=>by unfold zN;rw [zy hi,w3 i hi]);have h2:zN (B.down (x:Int)) (zY ht x none) b x=0:=by unfold zN;rw [zH];rfl
  have h3:=br;unfold xq at h3 ⊢;rw [h2,KF,g.refs_node hx hd br] at s1;omega
 ·by_cases e:n=x
  ·subst e;rw [zH] at hn;cases hn
  ·rw [zy e] at hn;exact ⟨n,hn⟩
 ·have:=g.refs_node hx hd w9
  have h2:=xK hi q;omega
end
end Go.Proofs.YtegpiomkmfhadaaGreat
