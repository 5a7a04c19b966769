/- Layers 14 and on, in plain words: a tree is built of items. · Layers 14 and on, in plain words: references let go. -/
import Derived.Test.YtkhcaclndepgbaaGreatZn39
set_option linter.unusedVariables false
set_option linter.unusedSimpArgs false
set_option maxRecDepth 100000
set_option maxHeartbeats 20000000
namespace Go.Proofs.YtkhcaclndepgbaaGreat
def cv (l:List (Nat × Nat)) (b:Nat):Nat:=l.countP fun p=>decide (p.2=b)
theorem cv_app (l m:List (Nat × Nat)) (b:Nat):cv (l++m) b=cv l b+cv m b:=List.countP_append
theorem cv_one (k v b:Nat):cv [(k,v)] b=if v=b then 1 else 0:=by
 unfold cv;by_cases h:v=b <;> simp [h]
theorem cv_zero {l:List (Nat × Nat)} {b:Nat} (h:cv l b=0):∀ p,p∈l->p.2≠b:=fun p hp e=>by
 unfold cv at h;have:=List.countP_eq_zero.1 h p hp;simp [e] at this
theorem cnt_cv (b:Nat):∀ (g:List (Nat × Nat)) (n:Nat),n<=g.length->(cnt n fun i=>decide (vOf g i=b))=cv (g.take n) b
 | g,0,_=>by unfold cv;simp [cnt]
 | g,n+1,h=>by
  rw [cnt_step,cnt_cv b g n (by omega),List.take_succ_eq_append_getElem (by omega),cv_app];congr 1;have e:vOf g n=(g[n]'(by omega)).2:=by unfold vOf;rw [getD_lt (by omega)]
  rw [e];unfold cv;by_cases q:(g[n]'(by omega)).2=b <;> simp [q]
theorem grp_drop {l:List (Nat × Nat)} {q i:Nat} : l.drop (gLo l.length q i)=grp l q i++l.drop (gLo l.length q (i+1)):=by
 have:=List.take_append_drop (gLo l.length q (i+1) - gLo l.length q i) (l.drop (gLo l.length q i));rw [List.drop_drop,show gLo l.length q i+(gLo l.length q (i+1) - gLo l.length q i)=gLo l.length q (i+1) by have:=gLo_mono l.length q i;omega] at this;exact this.symm
section
variable {N G:Nat} {p:Nat->Nat}
def LvOk (N:Nat) (ht:Ht) (k:Nat) (l:List (Nat × Nat)):Prop:=∀ q,q∈l->if k=0 then q.2=0∨(2<=q.2/\q.2<N/\ht q.2=none) else ht q.2=some (k - 1)
theorem lvl_gr {B:Bs} {ht:Ht} {k:Nat} {items l:List (Nat × Nat)} (I:BI N G k items l B) (hM:N<=4096) (hk:k<100) (g:Gr N G B ht (fun b=>p b+cv l b)) (hv:LvOk N ht k l) :
  ∀ i,i<=manyG l.length->∃ ht',Gr N G (lvlP (decide (k=0)) l B i).1 ht' (fun b=>p b+cv (l.drop (gLo l.length (manyG l.length) i)) b+cv (lvlP (decide (k=0)) l B i).2 b)/\LvOk N ht' k (l.drop (gLo l.length (manyG l.length) i))/\(∀ q,q∈(lvlP (decide (k=0)) l B i).2->ht' q.2=some k) /\
   (∀ n c,ht n=some c->ht' n=some c)/\(∀ n c,ht' n=some c->ht n=some c∨c=k)
 | 0,_=>⟨ht,by
   rw [gLo_zero];exact g.pendc fun b _ _=>rfl,by rw [gLo_zero];exact hv,fun q hq=>(by cases hq),fun n c h=>h,fun n c h => .inl h⟩
 | i+1,hi=>by
  obtain ⟨ht1,g1,v1,r1,x1,s1⟩:=lvl_gr I hM hk g hv i (by omega);obtain ⟨hgd,hrm⟩:=I.lvl hM i (by omega);have hmq:=I.many;have hr:0<(lvlP (decide (k=0)) l B i).1.room:=by rw [hrm];omega
  have hrt:=I.grp_right hM (i:=i) (by omega);have hu:=I.asc.2.grp (manyG l.length) i;have hgl:=(grp_bd I.len (i:=i) (by omega)).1;obtain ⟨d,hd,d1,d2,d3,d4⟩:=decN_page hrt (fun i _=>(hu.getD i).1) (fun i _=>(hu.getD i).2);rw [grp_drop (i:=i)] at g1 v1
  have hmem:∀ j,j<d.n->(∃ kk,(kk,d.v j)∈grp l (manyG l.length) i):=fun j hj=>by
   rw [d2] at hj;refine ⟨kOf (grp l (manyG l.length) i) j,?_⟩;rw [d4 j hj];have:(grp l (manyG l.length) i).getD j (0,0)=(grp l (manyG l.length) i)[j]:=getD_lt hj;unfold kOf vOf;rw [this];exact List.getElem_mem hj
  have nd:NdAt N ht1 k d:=by
   refine ⟨by rw [d1,Nat.mod_eq_of_lt hk],fun h0 j hj=>?_,fun h0 j hj=>?_,fun h0 j hj hz=>?_⟩
   ·obtain ⟨kk,hm⟩:=hmem j hj
    have:=v1 _ (zal _ hm);rw [Nat.mod_eq_of_lt hk] at h0;rwa [if_neg h0] at this
   ·obtain ⟨kk,hm⟩:=hmem j hj
    have:=v1 _ (zal _ hm);rw [Nat.mod_eq_of_lt hk] at h0;rw [if_pos h0] at this;rcases this with q | q
    ·exact .inl q
    ·exact .inr ⟨q.1,q.2.1⟩
   ·obtain ⟨kk,hm⟩:=hmem j hj
    have:=v1 _ (zal _ hm);rw [if_pos h0] at this;rcases this with q | q
    ·exact absurd q hz
    ·exact q.2.2
  have hoc:∀ b,occ d b=cv (grp l (manyG l.length) i) b:=fun b=>by
   unfold occ;rw [cnt_congr (q:=fun j=>decide (vOf (grp l (manyG l.length) i) j=b)) (fun j hj=>by rw [d4 j (by rw [<- d2];exact hj)]),d2,cnt_cv _ _ _ (zLr _),List.take_length]
  obtain ⟨p1,p2,p3,p4,p5,p6,p7,p8,p9⟩:=g1.put hr (page_le (decide (k=0)) hgl) hd nd (p:=fun b=>p b+cv (l.drop (gLo l.length (manyG l.length) (i+1))) b+cv (lvlP (decide (k=0)) l B i).2 b) (fun b _ _=>by
   show p b+cv (_++_) b+_=_
   rw [cv_app,hoc];omega)
  rw [cv_app] at p7;have hz:p (lvlP (decide (k=0)) l B i).1.at_=0/\cv (l.drop (gLo l.length (manyG l.length) (i+1))) (lvlP (decide (k=0)) l B i).1.at_=0/\cv (lvlP (decide (k=0)) l B i).2 (lvlP (decide (k=0)) l B i).1.at_=0:=by omega
  refine ⟨_,p1.pendc fun b _ _=>?_,fun q hq=>?_,fun q hq=>?_,fun n c hn=>?_,fun n c hn=>?_⟩
  ·show p b+cv _ b+cv (_++[(_,_)]) b=_
   rw [cv_app,cv_one];by_cases e:b=(lvlP (decide (k=0)) l B i).1.at_
   ·subst e
    rw [if_pos rfl,if_pos rfl];omega
   ·rw [if_neg (fun q=>e q.symm),if_neg e]
    rfl
  ·have h1:=v1 q (zar _ hq)
   have h2:=cv_zero hz.2.1 q hq;rw [updH_ne h2];exact h1
  ·have hq':q∈(lvlP (decide (k=0)) l B i).2++[(kOf l (gLo l.length (manyG l.length) i),(lvlP (decide (k=0)) l B i).1.at_)]:=hq
   rcases List.mem_append.1 hq' with hq | hq
   ·rw [updH_ne (cv_zero hz.2.2 q hq)]
    exact r1 q hq
   ·rw [zms] at hq
    subst hq;exact updH_same
  ·have h1:=x1 n c hn
   rw [updH_ne (fun e=>by rw [e,p4] at h1;cases h1)];exact h1
  ·by_cases e:n=(lvlP (decide (k=0)) l B i).1.at_
   ·subst e
    rw [updH_same] at hn;exact .inr (Option.some.inj hn).symm
   ·rw [updH_ne e] at hn
    exact s1 n c hn
structure Built (N G:Nat) (ht:Ht) (p:Nat->Nat) (items:List (Nat × Nat)) (B':Bs) (x:Nat) (ht':Ht) (c:Nat):Prop where
 gr:Gr N G B' ht' (mor p x)
 tree:TreeIs B' (x:Int) c items
 top:ht' x=some c
 lt:c<8
 ext:∀ n c,ht n=some c->ht' n=some c
 sub:∀ n c,ht' n=some c->ht n=some c∨c<8
theorem bld_gr (hM:N<=4096) {items:List (Nat × Nat)} {m0:Nat} (h0:m0<=200):∀ (f k:Nat) (l:List (Nat × Nat)) (B:Bs) (ht:Ht),f=8 - k->BI N G k items l B->BH k l.length m0->Gr N G B ht (fun b=>p b+cv l b)->LvOk N ht k l ->
  ∃ ht' c,Built N G ht p items (bldP f k l B).1 (bldP f k l B).2 ht' c/\B.room - l.length<=(bldP f k l B).1.room
 | 0,k,l,B,ht,hf,I,H,g,hv=>by have:=H.small I.len h0;omega
 | f+1,k,l,B,ht,hf,I,H,g,hv=>by
  have hk3:=H.small I.len h0;obtain ⟨b1,b2,b3,b4⟩:=manyG_bd I.len;obtain ⟨ht1,g1,v1,r1,x1,s1⟩:=lvl_gr I hM (by omega) g hv _ (zLr _);rw [gLo_top (by omega),List.drop_length] at g1;obtain ⟨-,hrm⟩:=I.lvl hM _ (zLr _)
  have hlen:(lvlP (decide (k=0)) l B (manyG l.length)).2.length=manyG l.length:=by
   have:∀ i,(lvlP (decide (k=0)) l B i).2.length=i:=fun i=>by
    induction i with
    | zero=>rfl
    | succ i ih=>show (_++[_]).length=_;rw [List.length_append,ih];rfl
   exact this _
  by_cases hq:manyG l.length=1
  ·rw [show f+1=8 - k by omega,bldP_last hk3 hq]
   obtain ⟨t1,t2,t3⟩:=I.last hM hq;rw [hq] at g1 r1 hlen hrm;have hm:((lvlP (decide (k=0)) l B 1).2)[0]'(by omega)∈(lvlP (decide (k=0)) l B 1).2:=List.getElem_mem _;have e:vOf (lvlP (decide (k=0)) l B 1).2 0=(((lvlP (decide (k=0)) l B 1).2)[0]'(by omega)).2:=by unfold vOf;rw [getD_lt (by omega)]
   refine ⟨ht1,k,⟨g1.pendc fun b _ _=>?_,t2,by show ht1 (vOf _ 0)=_;rw [e];exact r1 _ hm,by omega,x1,fun n c hn=>?_⟩,by show _<=(lvlP _ l B 1).1.room;rw [hrm];have:=I.len;omega⟩
   ·unfold mor
    show _=p b+cv [] b+cv (lvlP (decide (k=0)) l B 1).2 b
    have e2:(lvlP (decide (k=0)) l B 1).2=[(kOf l (gLo l.length (manyG l.length) 0),vOf (lvlP (decide (k=0)) l B 1).2 0)]:=rfl;rw [e2,cv_one]
    show (p b+if b=vOf (lvlP (decide (k=0)) l B 1).2 0 then 1 else 0)=p b+0+_
    by_cases q:b=vOf (lvlP (decide (k=0)) l B 1).2 0
    ·rw [if_pos q,if_pos q.symm]
    ·rw [if_neg q,if_neg (fun h=>q h.symm)]
   ·rcases s1 n c hn with q | q
    ·exact .inl q
    ·exact .inr (by omega)
  ·rw [show f+1=8 - k by omega,bldP_next hk3 hq,show 8 - (k+1)=f by omega]
   have hq2:2<=manyG l.length:=by omega
   obtain ⟨ht2,c,t,hr⟩:=bld_gr hM h0 f (k+1) _ _ ht1 (by omega) (I.next hM hq2) (by rw [hlen];exact H.next hq2 h0) (g1.pendc fun b _ _=>by show p b+_=p b+cv [] b+_;show p b+_=p b+0+_;omega) (fun q hq=>by
    rw [if_neg (by omega),Nat.add_sub_cancel];exact r1 q hq)
   refine ⟨ht2,c,⟨t.gr,t.tree,t.top,t.lt,fun n c hn=>t.ext n c (x1 n c hn),fun n c hn=>?_⟩,?_⟩
   ·rcases t.sub n c hn with q | q
    ·rcases s1 n c q with q | q
     ·exact .inl q
     ·exact .inr (by omega)
    ·exact .inr q
   ·rw [hlen,hrm] at hr
    have:=b3 hq2;omega
end
section
variable {N G:Nat} {B:Bs} {ht:Ht} {pend:Nat->Nat}
structure Less (N G:Nat) (B:Bs) (ht:Ht) (pend:Nat->Nat) (x:Nat) (B':Bs) (ht':Ht):Prop where
 gr:Gr N G B' ht' (les pend x)
 kp:Kpt N B ht B' ht' (les pend x)
 room:B.room<=B'.room
theorem Gr.ne1 (g:Gr N G B ht pend) {r c:Nat} (hr:ht r=some c):r≠1:=fun q=>by have:=g.two (g.lt hr).2 (g.lt hr).1;omega
theorem les_ge {p:Nat->Nat} {x b:Nat} (h:1<=les p x b):b=x->2<=p x:=fun e=>by subst e;unfold les at h;rw [if_pos rfl] at h;omega
theorem Gr.less2 (g:Gr N G B ht pend) {x:Nat} (hx:x<N) (h2x:2<=x) (hp:1<=pend x) (hm:2<=B.T.now x):B.downE (x:Int)=0/\Less N G B ht pend x (B.down (x:Int)) ht:=by
 obtain ⟨w1,w2,w3,w4,w5,w6,w7⟩:=g.down2 hx h2x hp hm
 have gg:Gr N G (B.down (x:Int)) ht (les pend x):=w2.pendc fun b _ _=>by
  unfold les;by_cases e:b=x
  ·rw [if_pos e,if_pos e]
  ·rw [if_neg e,if_neg e];rfl
 refine ⟨w1,gg,⟨fun r c hr _=>⟨hr,g.tree (by rw [gg.good.n,g.good.n]) g.refs_one (fun n _ _=>w3 n) hr (g.ne1 hr)⟩,fun b bN bl bh br _=>⟨bh,by rw [w4];exact bl,w3 b,w7 b,?_⟩,fun n c hn=>⟨n,hn⟩⟩,by rw [w6];omega⟩;rw [show Refs (B.down (x:Int)) ht N b=Refs B ht N b from sumTo_congr fun n _=>by unfold refsF;rw [w3]];exact br
theorem Gr.less (g:Gr N G B ht pend) {x:Nat} (hx:x<N) (h2x:2<=x) (hp:1<=pend x) (hn:ht x=none):B.downE (x:Int)=0/\Less N G B ht pend x (B.down (x:Int)) ht:=by
 by_cases hm:2<=B.T.now x
 ·exact g.less2 hx h2x hp hm
 ·have hl:B.live x=true:=g.live_of h2x hx (by omega)
  have h0:=(g.good.may hx hl).2.2.1;obtain ⟨w1,w2,w3,w4,w5,w6,w7,w8,w9⟩:=g.down1 hx h2x hp (by omega)
  have e:updH ht x none=ht:=funext fun n=>by
   unfold updH
   split
   ·rename_i q;rw [q,hn]
   ·rfl
  rw [e] at w2;have hrx:∀ b,refsF B ht b x=0:=fun b=>by unfold refsF;rw [hn];rfl
  have gg:Gr N G (B.down (x:Int)) ht (les pend x):=w2.pendc fun b _ _=>by
   unfold les;by_cases q:b=x
   ·subst q;rw [if_pos rfl,if_pos rfl,hrx];omega
   ·rw [if_neg q,if_neg q,hrx];rfl
  have hkn:∀ n:Nat,(ht n).isSome=true->(B.down (x:Int)).nodeI (n:Int)=B.nodeI (n:Int):=fun n hs=>w3 n (fun q=>by rw [q,hn] at hs;cases hs);refine ⟨w1,gg,⟨fun r c hr _=>⟨hr,g.tree (by rw [gg.good.n,g.good.n]) g.refs_one (fun n hs _=>hkn n hs) hr (g.ne1 hr)⟩,fun b bN bl bh br bp=>?_,fun n c hn=>⟨n,hn⟩⟩,by rw [w6];split <;> omega⟩;have hbx:b≠x:=fun q=>by have:=les_ge bp q;omega
  refine ⟨bh,by rw [w4,if_neg hbx];exact bl,w3 b hbx,w7 b hbx,?_⟩
  rw [show Refs (B.down (x:Int)) ht N b=Refs B ht N b from sumTo_congr fun n _=>by
   unfold refsF;by_cases hs:(ht n).isSome=true
   ·rw [if_pos hs,if_pos hs,hkn n hs]
   ·rw [if_neg hs,if_neg hs]]
  exact br
def rem (p:Nat->Nat) (d:Nd) (i:Nat):Nat->Nat:=fun b=>p b+(occ d b - cnt i fun j=>decide (d.v j=b))
theorem rem_get {p:Nat->Nat} {d:Nd} {i j:Nat} (hj:j<d.n) (hij:i<=j):1<=rem p d i (d.v j):=by
 unfold rem occ;have h1:(cnt i fun k=>decide (d.v k=d.v j))<=cnt j fun k=>decide (d.v k=d.v j):=cnt_mono _ hij;have h2:(cnt (j+1) fun k=>decide (d.v k=d.v j))<=cnt d.n fun k=>decide (d.v k=d.v j):=cnt_mono _ hj;rw [cnt_step] at h2;simp at h2;omega
theorem rem_les {p:Nat->Nat} {d:Nd} {i:Nat} (hi:i<d.n):les (rem p d i) (d.v i)=rem p d (i+1):=by
 funext b
 have h2:(cnt (i+1) fun k=>decide (d.v k=b))<=cnt d.n fun k=>decide (d.v k=b):=cnt_mono _ hi;unfold les rem occ;rw [cnt_step] at h2 ⊢;by_cases e:b=d.v i
 ·subst e;simp at h2 ⊢;omega
 ·have e':¬ d.v i=b:=fun q=>e q.symm
  simp [e,e'] at h2 ⊢
theorem rem_skip {p:Nat->Nat} {d:Nd} {i:Nat} (hi:i<d.n) (h0:d.v i=0):∀ b,2<=b->rem p d (i+1) b=rem p d i b:=fun b hb=>by
 unfold rem;rw [cnt_step];simp [show ¬ d.v i=b by omega]
theorem rem_ge {p:Nat->Nat} {d:Nd} {i b:Nat} (h:1<=p b):1<=rem p d i b:=by unfold rem;omega
theorem rem_end {p:Nat->Nat} {d:Nd} : rem p d d.n=p:=by
 funext b
 unfold rem occ;omega
structure Gone (N G:Nat) (B:Bs) (ht:Ht) (pend:Nat->Nat) (x:Nat) (d:Nd) (i:Nat) (B':Bs) (ht':Ht):Prop where
 gr:Gr N G B' ht' (rem (les pend x) d i)
 kp:Kpt N B ht B' ht' (les pend x)
 room:B.room<=B'.room
theorem Gr.gone (g:Gr N G B ht pend) {x c:Nat} {d:Nd} (hx:ht x=some c) (hd:B.nodeI (x:Int)=some d) (hp:1<=pend x) (hm:B.T.now x=1) :
  B.downE (x:Int)=0/\Gone N G B ht pend x d 0 (B.down (x:Int)) (updH ht x none)/\(B.down (x:Int)).T.now x=0/\NdAt N (updH ht x none) c d:=by
 obtain ⟨hxN,hxl,d0,hd0,nd⟩:=g.node x c hx;obtain rfl:d=d0:=Option.some.inj (hd.symm.trans hd0);have h2x:=g.two hxl hxN;obtain ⟨w1,w2,w3,w4,w5,w6,w7,w8,w9⟩:=g.down1 hxN h2x hp hm;have hrx:∀ b,refsF B ht b x=occ d b:=fun b=>by unfold refsF;rw [hx,hd];rfl
 have gg:Gr N G (B.down (x:Int)) (updH ht x none) (rem (les pend x) d 0):=w2.pendc fun b _ _=>by
  show (pend b - if b=x then 1 else 0)+(occ d b - 0)=(if b=x then 0 else pend b)+refsF B ht b x
  rw [hrx];by_cases q:b=x
  ·subst q;rw [if_pos rfl,if_pos rfl];omega
  ·rw [if_neg q,if_neg q];rfl
 refine ⟨w1,⟨gg,⟨fun r cr hr hpr=>?_,fun b bN bl bh br bp=>?_,fun n cn hn=>?_⟩,by rw [w6];split <;> omega⟩,by rw [w5,if_pos rfl],nd.congr fun i hi=>updH_ne fun q=>?_⟩
 ·have hrx:r≠x:=fun q=>by have:=les_ge hpr q;omega
  exact ⟨by rw [updH_ne hrx];exact hr,g.tree (by rw [gg.good.n,g.good.n]) w9 (fun n _ hne=>w3 n hne) hr hrx⟩
 ·have hbx:b≠x:=fun q=>by have:=les_ge bp q;omega
  refine ⟨by rw [updH_ne hbx];exact bh,by rw [w4,if_neg hbx];exact bl,w3 b hbx,w7 b hbx,?_⟩;have s1:=sumTo_upd (f:=refsF B ht b) (g:=refsF (B.down (x:Int)) (updH ht x none) b) (k:=x) (n:=N) hxN (fun i _ hi=>by unfold refsF;rw [updH_ne hi,w3 i hi]);have h2:refsF (B.down (x:Int)) (updH ht x none) b x=0:=by unfold refsF;rw [updH_same];rfl
  have h3:=br;unfold Refs at h3 ⊢;rw [h2,hrx,g.refs_node hx hd br] at s1;omega
 ·by_cases e:n=x
  ·subst e;rw [updH_same] at hn;cases hn
  ·rw [updH_ne e] at hn;exact ⟨n,hn⟩
 ·have h1:=g.refs_node hx hd w9
  have h2:=occ_of hi q;omega
theorem Gone.step {B1 B2:Bs} {ht1 ht2:Ht} {x i:Nat} {d:Nd} (h:Gone N G B ht pend x d i B1 ht1) (hi:i<d.n) (l:Less N G B1 ht1 (rem (les pend x) d i) (d.v i) B2 ht2):Gone N G B ht pend x d (i+1) B2 ht2:=by
 have l1:=l.gr;have l2:=l.kp;rw [rem_les hi] at l1 l2;exact ⟨l1,h.kp.trans l2 fun b hb=>rem_ge hb,Int.le_trans h.room l.room⟩
theorem Gone.skip {B1:Bs} {ht1:Ht} {x i:Nat} {d:Nd} (h:Gone N G B ht pend x d i B1 ht1) (hi:i<d.n) (h0:d.v i=0):Gone N G B ht pend x d (i+1) B1 ht1 :=
 ⟨h.gr.pendc fun b hb _=>rem_skip hi h0 b hb,h.kp,h.room⟩
theorem Gone.last {B1:Bs} {ht1:Ht} {x:Nat} {d:Nd} (h:Gone N G B ht pend x d d.n B1 ht1):Less N G B ht pend x B1 ht1:=by
 have l1:=h.gr;rw [rem_end] at l1;exact ⟨l1,h.kp,h.room⟩
end
end Go.Proofs.YtkhcaclndepgbaaGreat
