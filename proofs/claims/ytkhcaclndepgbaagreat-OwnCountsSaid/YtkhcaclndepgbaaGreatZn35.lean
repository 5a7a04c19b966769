/- Layer 13's statements in plain words: nodes that are put, one level upon the other. · Layer 13's statements in plain words: what Build makes, level by level. · Layer 13's statements in plain words: what the reference tells; items put in order. · Loops over a map of small numbers. · Layer 11's statements: a state in memory (two maps, roots, marks); copied. · Layer 11's statements: is a base just what a state says? -/
import Derived.Test.YtkhcaclndepgbaaGreatZn34
import Derived.Maps.RangeWalk
set_option linter.unusedVariables false
set_option linter.unusedSimpArgs false
set_option maxRecDepth 100000
set_option maxHeartbeats 20000000
namespace Go.Proofs.YtkhcaclndepgbaaGreat
def kOf (g:List (Nat × Nat)) (i:Nat):Nat:=(g.getD i (0,0)).1
def vOf (g:List (Nat × Nat)) (i:Nat):Nat:=(g.getD i (0,0)).2
def Asc (g:List (Nat × Nat)):Prop:=g.Pairwise fun p q=>p.1<q.1
theorem getD_lt {g:List (Nat × Nat)} {i:Nat} (h:i<g.length):g.getD i (0,0)=g[i]:=by rw [zgD,List.getElem?_eq_getElem h];rfl
theorem Asc.lt {g:List (Nat × Nat)} (h:Asc g) {i j:Nat} (hij:i<j) (hj:j<g.length):kOf g i<kOf g j:=by
 unfold kOf;rw [getD_lt (by omega),getD_lt hj];exact List.pairwise_iff_getElem.1 h i j (by omega) hj hij
theorem Asc.to {g:List (Nat × Nat)} (h:Asc g):ascTo (kOf g) g.length:=fun i h0 hi=>h.lt (by omega) hi
def hiOf (g:List (Nat × Nat)) (hi j:Nat):Nat:=if j+1<g.length then kOf g (j+1) - 1 else hi
theorem map_range_get (g:List (Nat × Nat)):((List.range g.length).map fun i=>(kOf g i,vOf g i))=g:=by
 apply List.ext_getElem?;intro i;by_cases hi:i<g.length
 ·rw [List.getElem?_map,List.getElem?_range hi,List.getElem?_eq_getElem hi]
  simp only [Option.map_some];unfold kOf vOf;rw [getD_lt hi]
 ·rw [List.getElem?_eq_none (by simp;omega),List.getElem?_eq_none (by omega)]
theorem flat_range_get {β:Type} (g:List (Nat × Nat)) (f:Nat->List β):((List.range g.length).flatMap fun i=>f (vOf g i))=g.flatMap fun p=>f p.2:=by
 conv=>rhs;rw [<- map_range_get g]
 rw [List.flatMap_map]
section
variable {B:Bs} {n:Nat}
theorem leaf_right {g:List (Nat × Nat)} {hi least:Nat} (h2:2<=B.at_) (hN:B.at_<B.T.n) (hn:g.length<=7) (hl:least<=g.length) (ha:Asc g) (hu:It64 g) (hh:∀ i,i<g.length->kOf g i<=hi) :
  rightP (B.put (pageF true g.length (kOf g) (vOf g))) 0 (B.at_:Int) (kOf g 0) hi least=true/\allP (B.put (pageF true g.length (kOf g) (vOf g))) 0 (B.at_:Int)=g:=by
 have hb:rightB true g.length g.length (kOf g) (vOf g)=true:=by
  unfold rightB;rw [decide_eq_true hn,decide_eq_true rfl,(ascB_iff _ _).2 ha.to];rfl
 obtain ⟨d,hd,dl,dn,dk,dv⟩:=decN_page hb (fun i hi=>(hu.getD i).1) (fun i hi=>(hu.getD i).2);have hnd:=(node_put h2 hN hb).trans hd;constructor
 ·refine rightP_all hnd (by rw [dn];exact hl) (by rw [dl];rfl) (fun i hi=>?_)
  rw [dn] at hi;unfold kidOk;rw [decide_eq_true,Bool.true_and];rw [dk i hi];refine ⟨?_,hh i hi⟩;by_cases e:i=0
  ·rw [e];exact zLr _
  ·exact Nat.le_of_lt (ha.lt (by omega) hi)
 ·unfold allP
  rw [hnd]
  show d.items=g
  unfold Nd.items;rw [dn]
  conv=>rhs;rw [<- map_range_get g]
  exact List.map_congr_left fun i hi=>by rw [List.mem_range] at hi;rw [dk i hi,dv i hi]
theorem inner_right {h:Nat} {g:List (Nat × Nat)} {hi least:Nat} (h2:2<=B.at_) (hN:B.at_<B.T.n) (hM:B.T.n<=4096) (h0:1<=g.length) (hn:g.length<=7) (hl:least<=g.length) (ha:Asc g) (hu:It64 g) (hh:∀ i,i<g.length->kOf g i<=hi)
  (hv:∀ i,i<g.length->2<=vOf g i/\vOf g i<B.T.n) (hap:∀ i j,i<j->j<g.length->vOf g i≠vOf g j) (ht:∀ i,i<g.length->rightP (B.put (pageF false g.length (kOf g) (vOf g))) h (vOf g i:Int) (kOf g i) (hiOf g hi i) 3=true) :
  rightP (B.put (pageF false g.length (kOf g) (vOf g))) (h+1) (B.at_:Int) (kOf g 0) hi least=true /\
  allP (B.put (pageF false g.length (kOf g) (vOf g))) (h+1) (B.at_:Int)=g.flatMap (fun p=>allP (B.put (pageF false g.length (kOf g) (vOf g))) h (p.2:Int)) /\
  blksP (B.put (pageF false g.length (kOf g) (vOf g))) (h+1) (B.at_:Int)=(B.at_:Int)::g.flatMap (fun p=>blksP (B.put (pageF false g.length (kOf g) (vOf g))) h (p.2:Int)):=by
 have hb:rightB false g.length g.length (kOf g) (vOf g)=true:=by
  unfold rightB;have hk:kidsB (vOf g) g.length=true:=(kidsB_iff _ _).2 ⟨h0,fun i hi=>⟨by have:=hv i hi;omega,by have:=hv i hi;omega⟩,fun i j hij hj=>hap i j hij hj⟩;rw [decide_eq_true hn,decide_eq_true rfl,(ascB_iff _ _).2 ha.to,hk];rfl
 obtain ⟨d,hd,dl,dn,dk,dv⟩:=decN_page hb (fun i hi=>(hu.getD i).1) (fun i hi=>(hu.getD i).2);have hnd:=(node_put h2 hN hb).trans hd;refine ⟨?_,?_,?_⟩
 ·refine rightP_all hnd (by rw [dn];exact hl) (by rw [dl];rfl) (fun i hi=>?_)
  rw [dn] at hi;have hb:=hv i hi;have hr:=ht i hi;unfold kidOk;rw [decide_eq_true,Bool.true_and]
  ·show (decide (2<=d.v i/\d.v i<B.T.n)&&rightP _ h (d.v i:Int) (d.k i) (d.hi _ i) 3)=true
   rw [dv i hi,decide_eq_true hb,Bool.true_and,dk i hi];unfold Nd.hi;unfold hiOf at hr;rw [dn];by_cases e:i+1<g.length
   ·rw [if_pos e] at hr ⊢;rw [dk _ e];exact hr
   ·rw [if_neg e] at hr ⊢;exact hr
  ·rw [dk i hi]
   refine ⟨?_,hh i hi⟩;by_cases e:i=0
   ·rw [e];exact zLr _
   ·exact Nat.le_of_lt (ha.lt (by omega) hi)
 ·show (match (B.put (pageF false g.length (kOf g) (vOf g))).nodeI (B.at_:Int) with | none=>[] | some d=>(List.range d.n).flatMap fun i=>allP _ h (d.v i:Int))=_
  rw [hnd]
  show ((List.range d.n).flatMap fun i=>allP _ h (d.v i:Int))=_
  rw [dn,<- flat_range_get g (fun v=>allP _ h (v:Int))];exact flat_congr fun i hi=>by rw [List.mem_range] at hi;rw [dv i hi]
 ·show (match (B.put (pageF false g.length (kOf g) (vOf g))).nodeI (B.at_:Int) with | none=>_ | some d=>(B.at_:Int)::(List.range d.n).flatMap fun i=>blksP _ h (d.v i:Int))=_
  rw [hnd]
  show (B.at_:Int)::((List.range d.n).flatMap fun i=>blksP _ h (d.v i:Int))=_
  rw [dn,<- flat_range_get g (fun v=>blksP _ h (v:Int))];congr 1;exact flat_congr fun i hi=>by rw [List.mem_range] at hi;rw [dv i hi]
end
def gLo (m q i:Nat):Nat:=i*m / q
def grp (l:List (Nat × Nat)) (q i:Nat):List (Nat × Nat):=(l.drop (gLo l.length q i)).take (gLo l.length q (i+1) - gLo l.length q i)
theorem gLo_mono (m q i:Nat):gLo m q i<=gLo m q (i+1):=Nat.div_le_div_right (Nat.mul_le_mul_right m (Nat.le_succ i))
theorem gLo_top {m q:Nat} (hq:0<q):gLo m q q=m:=Nat.mul_div_cancel_left m hq
theorem gLo_le {m q i:Nat} (hq:0<q) (hi:i<=q):gLo m q i<=m:=by
 have:=Nat.div_le_div_right (c:=q) (Nat.mul_le_mul_right m hi);rwa [Nat.mul_div_cancel_left m hq] at this
theorem gLo_zero (m q:Nat):gLo m q 0=0:=by unfold gLo;simp
theorem gLo_step_le {m q i:Nat} (hq:0<q) (hm:m<=7*q):gLo m q (i+1)<=gLo m q i+7:=by
 unfold gLo;have h1:(i+1)*m<=i*m+7*q:=by rw [Nat.succ_mul];omega
 refine zLt (Nat.div_le_div_right h1) ?_;rw [Nat.add_mul_div_right _ _ hq];exact zLr _
theorem gLo_step_ge {m q i k:Nat} (hq:0<q) (hm:k*q<=m):gLo m q i+k<=gLo m q (i+1):=by
 unfold gLo;have h1:i*m+k*q<=(i+1)*m:=by rw [Nat.succ_mul];omega
 have:=Nat.div_le_div_right (c:=q) h1;rwa [Nat.add_mul_div_right _ _ hq] at this
theorem grp_len {l:List (Nat × Nat)} {q i:Nat} (hq:0<q) (hi:i<q):(grp l q i).length=gLo l.length q (i+1) - gLo l.length q i:=by
 unfold grp;rw [List.length_take,List.length_drop];have h1:=gLo_le (m:=l.length) hq (show i+1<=q by omega);omega
theorem grp_flat {l:List (Nat × Nat)} {q:Nat} (hq:0<q):∀ i,i<=q->((List.range i).flatMap (grp l q))=l.take (gLo l.length q i)
 | 0,_=>by rw [gLo_zero];simp
 | i+1,hi=>by
  rw [List.range_succ,List.flatMap_append,grp_flat hq i (by omega)];have h0:=gLo_mono l.length q i;have h1:=gLo_le (m:=l.length) hq hi;simp only [List.flatMap_cons,List.flatMap_nil,List.append_nil];unfold grp;obtain ⟨a,ha⟩:∃ a,a=gLo l.length q i:=⟨_,rfl⟩;obtain ⟨b,hb⟩:∃ b,b=gLo l.length q (i+1):=⟨_,rfl⟩;have hab:a<=b:=by rw [ha,hb];exact h0
  rw [<- ha,<- hb];have e:b=a+(b - a):=by omega
  conv=>rhs;rw [e]
  rw [List.take_add]
theorem grp_all {l:List (Nat × Nat)} {q:Nat} (hq:0<q):((List.range q).flatMap (grp l q))=l:=by
 rw [grp_flat hq q (zLr _),gLo_top hq,List.take_length]
theorem grp_get {l:List (Nat × Nat)} {q i j:Nat} (hq:0<q) (hi:i<q) (hj:j<(grp l q i).length):(grp l q i).getD j (0,0)=l.getD (gLo l.length q i+j) (0,0):=by
 have hl:=grp_len (l:=l) hq hi;have h1:=gLo_le (m:=l.length) hq (show i+1<=q by omega);have h0:=gLo_mono l.length q i;rw [zgD,zgD];congr 1;unfold grp;rw [List.getElem?_take,if_pos (by omega),List.getElem?_drop]
theorem kOf_grp {l:List (Nat × Nat)} {q i j:Nat} (hq:0<q) (hi:i<q) (hj:j<(grp l q i).length):kOf (grp l q i) j=kOf l (gLo l.length q i+j)/\vOf (grp l q i) j=vOf l (gLo l.length q i+j):=by
 unfold kOf vOf;rw [grp_get hq hi hj];exact ⟨rfl,rfl⟩
theorem Asc.grp {l:List (Nat × Nat)} (h:Asc l) (q i:Nat):Asc (grp l q i):=(h.drop).take
theorem It64.grp {l:List (Nat × Nat)} (h:It64 l) (q i:Nat):It64 (grp l q i):=fun p hp=>h p (List.mem_of_mem_drop (List.mem_of_mem_take hp))
def manyG (m:Nat):Nat:=(m+6) / 7
theorem manyG_bd {m:Nat} (hm:1<=m):1<=manyG m/\m<=7*manyG m/\(2<=manyG m->4*manyG m<=m)/\(manyG m=1->m<=7):=by unfold manyG;omega
theorem manyG_less {m:Nat} (hm:2<=manyG m):manyG m<m:=by unfold manyG at *;omega
theorem grp_bd {l:List (Nat × Nat)} (h1:1<=l.length) {i:Nat} (hi:i<manyG l.length):(grp l (manyG l.length) i).length<=7/\1<=(grp l (manyG l.length) i).length/\(2<=manyG l.length->4<=(grp l (manyG l.length) i).length):=by
 obtain ⟨b1,b2,b3,b4⟩:=manyG_bd h1;have hq:0<manyG l.length:=by omega
 rw [grp_len hq hi];have s1:=gLo_step_le (i:=i) hq b2;refine ⟨by omega,?_,fun h2=>?_⟩
 ·have:=gLo_step_ge (m:=l.length) (q:=manyG l.length) (i:=i) (k:=1) hq (by unfold manyG;omega)
  omega
 ·have:=gLo_step_ge (m:=l.length) (q:=manyG l.length) (i:=i) (k:=4) hq (b3 h2)
  omega
def Lv (B:Bs) (bs:List Int):Prop:=∀ b,b∈bs->∃ n:Nat,b=(n:Int)/\n<B.T.n/\B.live n=true
section
variable {B:Bs} {N G:Nat}
theorem nodes_put (hg:Good N G B) (hr:0<B.room) {f:Nat->Nat} (hf:∀ i,i<128->f i<=255) {bs:List Int} (hb:Lv B bs):(∀ b,b∈bs->(B.put f).nodeI b=B.nodeI b)/\Lv (B.put f) bs:=by
 obtain ⟨-,l0,-,-,hl,-⟩:=hg.put_ hr hf;refine ⟨fun b hm=>?_,fun b hm=>?_⟩
 ·obtain ⟨n,rfl,hn,hl1⟩:=hb b hm
  refine node_kept fun e=>?_;have:n=B.at_:=by omega
  rw [this,l0] at hl1;cases hl1
 ·obtain ⟨n,rfl,hn,hl1⟩:=hb b hm
  exact ⟨n,rfl,hn,by rw [hl n,hl1,Bool.or_true]⟩
theorem tree_put (hg:Good N G B) (hr:0<B.room) {f:Nat->Nat} (hf:∀ i,i<128->f i<=255) {h:Nat} {x:Int} {lo hi least:Nat} (hb:Lv B (blksP B h x)) :
  rightP (B.put f) h x lo hi least=rightP B h x lo hi least/\allP (B.put f) h x=allP B h x/\blksP (B.put f) h x=blksP B h x/\Lv (B.put f) (blksP (B.put f) h x):=by
 obtain ⟨h1,h2⟩:=nodes_put hg hr hf hb;obtain ⟨t1,t2,t3⟩:=tree_congr (B:=B) (B':=B.put f) rfl (lo:=lo) (hi:=hi) (least:=least) h1;exact ⟨t1,t2,t3,by rw [t3];exact h2⟩
end
structure TRow (B:Bs) (h hi:Nat) (l all:List (Nat × Nat)):Prop where
 asc:Asc l
 bd:∀ j,j<l.length->kOf l j<=hi
 u:It64 l
 val:∀ j,j<l.length->2<=vOf l j/\vOf l j<B.T.n
 apart:∀ i j,i<j->j<l.length->vOf l i≠vOf l j
 tree:∀ j,j<l.length->rightP B h (vOf l j:Int) (kOf l j) (hiOf l hi j) 3=true
 lv:∀ j,j<l.length->Lv B (blksP B h (vOf l j:Int))
 all:l.flatMap (fun p=>allP B h (p.2:Int))=all
theorem flat_getD {β:Type} (l:List (Nat × Nat)) (f g:Nat->List β) (h:∀ j,j<l.length->f (vOf l j)=g (vOf l j)):(l.flatMap fun p=>f p.2)=l.flatMap fun p=>g p.2:=by
 refine flat_congr fun p hp=>?_;obtain ⟨j,hj,e⟩:=List.getElem_of_mem hp;have:=h j hj;unfold vOf at this;rw [getD_lt hj,e] at this;exact this
theorem TRow.put {B:Bs} {N G h hi:Nat} {l all:List (Nat × Nat)} (R:TRow B h hi l all) (hg:Good N G B) (hr:0<B.room) {f:Nat->Nat} (hf:∀ i,i<128->f i<=255):TRow (B.put f) h hi l all:=by
 have T:=fun j (hj:j<l.length)=>tree_put hg hr hf (lo:=kOf l j) (hi:=hiOf l hi j) (least:=3) (R.lv j hj);refine { asc:=R.asc,bd:=R.bd,u:=R.u,val:=R.val,apart:=R.apart,tree:=fun j hj=>by rw [(T j hj).1];exact R.tree j hj,lv:=fun j hj=>(T j hj).2.2.2,all:=?_ };rw [<- R.all];exact flat_getD l (fun v=>allP (B.put f) h (v:Int)) (fun v=>allP B h (v:Int)) fun j hj=>(T j hj).2.1
def gHi (l:List (Nat × Nat)) (q hi j:Nat):Nat:=if j+1<q then kOf l (gLo l.length q (j+1)) - 1 else hi
structure TUp (B:Bs) (h:Nat) (l:List (Nat × Nat)) (q hi least i:Nat) (up:List (Nat × Nat)) (allG:Nat->List (Nat × Nat)):Prop where
 len:up.length=i
 key:∀ j,j<i->kOf up j=kOf l (gLo l.length q j)
 val:∀ j,j<i->2<=vOf up j/\vOf up j<B.T.n
 apart:∀ a b,a<b->b<i->vOf up a≠vOf up b
 own:∀ j,j<i->B.live (vOf up j)=true
 tree:∀ j,j<i->rightP B h (vOf up j:Int) (kOf up j) (gHi l q hi j) least=true
 lv:∀ j,j<i->Lv B (blksP B h (vOf up j:Int))
 all:∀ j,j<i->allP B h (vOf up j:Int)=allG j
theorem kOf_app {l:List (Nat × Nat)} {p:Nat × Nat} {j:Nat} : (j<l.length->kOf (l++[p]) j=kOf l j/\vOf (l++[p]) j=vOf l j)/\(j=l.length->kOf (l++[p]) j=p.1/\vOf (l++[p]) j=p.2):=by
 constructor
 ·intro hj
  unfold kOf vOf;rw [zgD,zgD,List.getElem?_append_left hj];exact ⟨rfl,rfl⟩
 ·rintro rfl
  unfold kOf vOf;rw [zgD,List.getElem?_append_right (zLr _)];simp
theorem TUp.step {B:Bs} {N G h q hi least i:Nat} {l up:List (Nat × Nat)} {allG:Nat->List (Nat × Nat)} (U:TUp B h l q hi least i up allG) (hg:Good N G B) (hr:0<B.room) {f:Nat->Nat} (hf:∀ i,i<128->f i<=255)
  (ht:rightP (B.put f) h (B.at_:Int) (kOf l (gLo l.length q i)) (gHi l q hi i) least=true) (hl:Lv (B.put f) (blksP (B.put f) h (B.at_:Int))) (ha:allP (B.put f) h (B.at_:Int)=allG i) :
  TUp (B.put f) h l q hi least (i+1) (up++[(kOf l (gLo l.length q i),B.at_)]) allG:=by
 obtain ⟨-,l0,b2,bN,hlv,-⟩:=hg.put_ hr hf;have T:=fun j (hj:j<i)=>tree_put hg hr hf (lo:=kOf up j) (hi:=gHi l q hi j) (least:=least) (U.lv j hj)
 have cs:∀ j,j<i+1->(j<i/\kOf (up++[(kOf l (gLo l.length q i),B.at_)]) j=kOf up j/\vOf (up++[(kOf l (gLo l.length q i),B.at_)]) j=vOf up j)∨(j=i/\kOf (up++[(kOf l (gLo l.length q i),B.at_)]) j=kOf l (gLo l.length q i)/\vOf (up++[(kOf l (gLo l.length q i),B.at_)]) j=B.at_):=fun j hj=>by
  by_cases e:j<i
  ·exact .inl ⟨e,kOf_app.1 (by rw [U.len];exact e)⟩
  ·exact .inr ⟨by omega,kOf_app.2 (by rw [U.len];omega)⟩
 refine { len:=by rw [List.length_append,U.len];rfl,key:=fun j hj=>?_,val:=fun j hj=>?_,apart:=fun a b hab hb=>?_,own:=fun j hj=>?_,tree:=fun j hj=>?_,lv:=fun j hj=>?_,all:=fun j hj=>?_ }
 ·rcases cs j hj with ⟨c1,c2,c3⟩ | ⟨rfl,c2,c3⟩
  ·rw [c2];exact U.key j c1
  ·rw [c2]
 ·rcases cs j hj with ⟨c1,c2,c3⟩ | ⟨rfl,c2,c3⟩
  ·rw [c3];exact U.val j c1
  ·rw [c3];exact ⟨b2,by show B.at_<B.T.n;rw [hg.n];exact bN⟩
 ·rcases cs b hb with ⟨c1,c2,c3⟩ | ⟨rfl,c2,c3⟩
  ·rcases cs a (by omega) with ⟨d1,d2,d3⟩ | ⟨rfl,d2,d3⟩
   ·rw [c3,d3];exact U.apart a b hab c1
   ·omega
  ·rcases cs a (by omega) with ⟨d1,d2,d3⟩ | ⟨rfl,d2,d3⟩
   ·rw [c3,d3]
    intro e;have:=U.own a d1;rw [e,l0] at this;cases this
   ·omega
 ·rcases cs j hj with ⟨c1,c2,c3⟩ | ⟨rfl,c2,c3⟩
  ·rw [c3,hlv,U.own j c1,Bool.or_true]
  ·rw [c3,hlv];simp
 ·rcases cs j hj with ⟨c1,c2,c3⟩ | ⟨rfl,c2,c3⟩
  ·rw [c2,c3,(T j c1).1];exact U.tree j c1
  ·rw [c2,c3];exact ht
 ·rcases cs j hj with ⟨c1,c2,c3⟩ | ⟨rfl,c2,c3⟩
  ·rw [c3];exact (T j c1).2.2.2
  ·rw [c3];exact hl
 ·rcases cs j hj with ⟨c1,c2,c3⟩ | ⟨rfl,c2,c3⟩
  ·rw [c3,(T j c1).2.1];exact U.all j c1
  ·rw [c3];exact ha
section
variable {B:Bs} {N G h q hi:Nat} {l up:List (Nat × Nat)} {allG:Nat->List (Nat × Nat)}
theorem grp_lo {l:List (Nat × Nat)} (h1:1<=l.length) {i:Nat} (hi:i<manyG l.length):gLo l.length (manyG l.length) i<gLo l.length (manyG l.length) (i+1)/\gLo l.length (manyG l.length) (i+1)<=l.length:=by
 obtain ⟨b1,b2,b3,b4⟩:=manyG_bd h1;have hq:0<manyG l.length:=by omega
 have:=grp_len (l:=l) hq hi;have:=(grp_bd h1 hi).2.1;exact ⟨by omega,gLo_le hq (by omega)⟩
theorem gLo_lt {l:List (Nat × Nat)} (h1:1<=l.length) {i j:Nat} (hij:i<j) (hj:j<manyG l.length):gLo l.length (manyG l.length) i<gLo l.length (manyG l.length) j:=by
 induction j with
 | zero=>omega
 | succ j ih =>
  have:=(grp_lo h1 (i:=j) (by omega)).1;by_cases e:i=j
  ·rw [e];exact this
  ·have:=ih (by omega) (by omega);omega
theorem TUp.row (U:TUp B h l (manyG l.length) hi 3 (manyG l.length) up allG) (h1:1<=l.length) (ha:Asc l) (hu:It64 l) (hb:∀ j,j<l.length->kOf l j<=hi) (hM:B.T.n<=4096):TRow B h hi up ((List.range (manyG l.length)).flatMap allG):=by
 have hlo:∀ j,j<manyG l.length->gLo l.length (manyG l.length) j<l.length:=fun j hj=>by have:=grp_lo h1 hj;omega
 have key:∀ i j,i<j->j<up.length->kOf up i<kOf up j:=fun i j hij hj=>by
  rw [U.len] at hj;rw [U.key i (by omega),U.key j hj];exact ha.lt (gLo_lt h1 hij hj) (hlo j hj)
 refine { asc:=?_,bd:=fun j hj=>?_,u:=?_,val:=fun j hj=>U.val j (by rw [<- U.len];exact hj),apart:=fun i j hij hj=>U.apart i j hij (by rw [<- U.len];exact hj),tree:=fun j hj=>?_,lv:=fun j hj=>U.lv j (by rw [<- U.len];exact hj),all:=?_ }
 ·refine List.pairwise_iff_getElem.2 fun i j hi' hj hij=>?_
  have:=key i j hij hj;unfold kOf at this;rwa [getD_lt hi',getD_lt hj] at this
 ·rw [U.len] at hj
  rw [U.key j hj];exact hb _ (hlo j hj)
 ·intro p hp
  obtain ⟨j,hj,e⟩:=List.getElem_of_mem hp;have hj':j<manyG l.length:=by rw [<- U.len];exact hj
  have k1:=U.key j hj';have v1:=U.val j hj';unfold kOf at k1;unfold vOf at v1;rw [getD_lt hj,e] at k1 v1;refine ⟨?_,by omega⟩;rw [k1];exact (hu.getD _).1
 ·have hj':j<manyG l.length:=by rw [<- U.len];exact hj
  have:=U.tree j hj';unfold hiOf;unfold gHi at this;rw [U.len];by_cases e:j+1<manyG l.length
  ·rw [if_pos e] at this ⊢
   rw [U.key (j+1) e];exact this
  ·rw [if_neg e] at this ⊢
   exact this
 ·conv=>lhs;rw [<- map_range_get up]
  rw [List.flatMap_map,U.len];exact flat_congr fun j hj=>U.all j (List.mem_range.1 hj)
theorem gHi_le (h1:1<=l.length) (ha:Asc l) (hb:∀ j,j<l.length->kOf l j<=hi) {i:Nat} (hi':i<manyG l.length) {j:Nat} (hj:j<(grp l (manyG l.length) i).length):kOf (grp l (manyG l.length) i) j<=gHi l (manyG l.length) hi i:=by
 obtain ⟨b1,b2,b3,b4⟩:=manyG_bd h1;have hq:0<manyG l.length:=by omega
 rw [(kOf_grp hq hi' hj).1];rw [grp_len hq hi'] at hj;unfold gHi;by_cases e:i+1<manyG l.length
 ·rw [if_pos e]
  have:=ha.lt (i:=gLo l.length (manyG l.length) i+j) (j:=gLo l.length (manyG l.length) (i+1)) (by omega) (by have:=grp_lo h1 e;omega);omega
 ·rw [if_neg e]
  exact hb _ (by have:=grp_lo h1 hi';omega)
theorem TUp.leaf {least i:Nat} (U:TUp B 0 l (manyG l.length) hi least i up (grp l (manyG l.length))) (hg:Good N G B) (hr:0<B.room) (h1:1<=l.length) (ha:Asc l) (hu:It64 l) (hb:∀ j,j<l.length->kOf l j<=hi) (hi':i<manyG l.length) (hl:least<=(grp l (manyG l.length) i).length) :
  TUp (B.put (pageF true (grp l (manyG l.length) i).length (kOf (grp l (manyG l.length) i)) (vOf (grp l (manyG l.length) i)))) 0 l (manyG l.length) hi least (i+1) (up++[(kOf l (gLo l.length (manyG l.length) i),B.at_)]) (grp l (manyG l.length)):=by
 obtain ⟨b1,b2,b3,b4⟩:=manyG_bd h1;have hq:0<manyG l.length:=by omega
 obtain ⟨g1,g2,g3⟩:=grp_bd h1 hi';have hf:∀ j,j<128->pageF true (grp l (manyG l.length) i).length (kOf (grp l (manyG l.length) i)) (vOf (grp l (manyG l.length) i)) j<=255:=fun j _=>sealP_le (by decide) (fun k _=>bodyF_le _ _ _ k (by omega)) j;obtain ⟨-,l0,h2,hN,hlv,-⟩:=hg.put_ hr hf;obtain ⟨t1,t2⟩:=leaf_right (B:=B) (hi:=gHi l (manyG l.length) hi i) (least:=least) h2 (by rw [hg.n];exact hN) g1 hl (ha.grp _ _) (hu.grp _ _) (fun j hj=>gHi_le h1 ha hb hi' hj);have k0:=(kOf_grp (l:=l) hq hi' (j:=0) (by omega)).1;rw [k0] at t1;refine U.step hg hr hf t1 ?_ t2;intro b hm;unfold blksP at hm;simp only [zms] at hm;exact ⟨B.at_,hm,by show B.at_<B.T.n;rw [hg.n];exact hN,by rw [hlv];simp⟩
theorem TUp.inner {least i:Nat} {all:List (Nat × Nat)} {A:Nat->List (Nat × Nat)} (R:TRow B h hi l all) (hA:∀ j,j<l.length->allP B h (vOf l j:Int)=A (vOf l j)) (U:TUp B (h+1) l (manyG l.length) hi least i up (fun i=>(grp l (manyG l.length) i).flatMap fun p=>A p.2)) (hg:Good N G B) (hM:B.T.n<=4096) (hr:0<B.room) (h1:1<=l.length) (hi':i<manyG l.length) (hl:least<=(grp l (manyG l.length) i).length) :
  TUp (B.put (pageF false (grp l (manyG l.length) i).length (kOf (grp l (manyG l.length) i)) (vOf (grp l (manyG l.length) i)))) (h+1) l (manyG l.length) hi least (i+1) (up++[(kOf l (gLo l.length (manyG l.length) i),B.at_)]) (fun i=>(grp l (manyG l.length) i).flatMap fun p=>A p.2):=by
 obtain ⟨b1,b2,b3,b4⟩:=manyG_bd h1;have hq:0<manyG l.length:=by omega
 obtain ⟨g1,g2,g3⟩:=grp_bd h1 hi';have gl:=grp_len (l:=l) hq hi';have glo:=grp_lo h1 hi';have hf:∀ j,j<128->pageF false (grp l (manyG l.length) i).length (kOf (grp l (manyG l.length) i)) (vOf (grp l (manyG l.length) i)) j<=255:=fun j _=>sealP_le (by decide) (fun k _=>bodyF_le _ _ _ k (by omega)) j;obtain ⟨-,l0,h2,hN,hlv,-⟩:=hg.put_ hr hf;have R':=R.put hg hr hf;have kg:=fun j (hj:j<(grp l (manyG l.length) i).length)=>kOf_grp (l:=l) hq hi' hj
 obtain ⟨t1,t2,t3⟩:=inner_right (B:=B) (h:=h) (hi:=gHi l (manyG l.length) hi i) (least:=least) h2 (by rw [hg.n];exact hN) hM g2 g1 hl (R.asc.grp _ _) (R.u.grp _ _) (fun j hj=>gHi_le h1 R.asc R.bd hi' hj)
  (fun j hj=>by rw [(kg j hj).2];exact R.val _ (by omega)) (fun a b hab hb=>by rw [(kg a (by omega)).2,(kg b hb).2];exact R.apart _ _ (by omega) (by omega))
  (fun j hj=>by
   have:=R'.tree (gLo l.length (manyG l.length) i+j) (by omega);rw [(kg j hj).1,(kg j hj).2]
   have e:hiOf (grp l (manyG l.length) i) (gHi l (manyG l.length) hi i) j=hiOf l hi (gLo l.length (manyG l.length) i+j):=by
    unfold hiOf;by_cases e:j+1<(grp l (manyG l.length) i).length
    ·rw [if_pos e,if_pos (by omega),(kg (j+1) e).1];rfl
    ·rw [if_neg e]
     unfold gHi;by_cases e2:i+1<manyG l.length
     ·have:=grp_lo h1 e2
      rw [if_pos e2,if_pos (by omega)];congr 2;omega
     ·have e3:i+1=manyG l.length:=by omega
      rw [if_neg e2,if_neg];rw [e3,gLo_top hq] at gl;omega
   rw [e];exact this)
 rw [(kg 0 (by omega)).1] at t1;refine U.step hg hr hf t1 ?_ ?_
 ·rw [t3]
  intro b hm;rcases List.mem_cons.1 hm with rfl | hm
  ·exact ⟨B.at_,rfl,by show B.at_<B.T.n;rw [hg.n];exact hN,by rw [hlv];simp⟩
  ·obtain ⟨p,hp,hm⟩:=List.mem_flatMap.1 hm
   obtain ⟨j,hj,e⟩:=List.getElem_of_mem hp;have:=(kg j hj).2;unfold vOf at this;rw [getD_lt hj,e] at this;rw [this] at hm;exact R'.lv _ (by omega) b hm
 ·rw [t2]
  refine flat_getD _ (fun v=>allP _ h (v:Int)) A fun j hj=>?_;rw [(kg j hj).2];have T:=tree_put hg hr hf (lo:=0) (hi:=0) (least:=0) (R.lv (gLo l.length (manyG l.length) i+j) (by omega));rw [T.2.1];exact hA _ (by omega)
end
def topK:Nat:=18446744073709551615
noncomputable def lvlP (leaf:Bool) (l:List (Nat × Nat)) (B:Bs):Nat->Bs × List (Nat × Nat)
 | 0=>(B,[])
 | i+1=>((lvlP leaf l B i).1.put (pageF leaf (grp l (manyG l.length) i).length (kOf (grp l (manyG l.length) i)) (vOf (grp l (manyG l.length) i))),(lvlP leaf l B i).2++[(kOf l (gLo l.length (manyG l.length) i),(lvlP leaf l B i).1.at_)])
section
variable {B:Bs} {N G h:Nat} {l items:List (Nat × Nat)}
theorem TUp.nil {q hi least:Nat} {allG:Nat->List (Nat × Nat)} : TUp B h l q hi least 0 [] allG :=
 { len:=rfl,key:=fun j hj=>by omega,val:=fun j hj=>by omega,apart:=fun a b _ hb=>by omega,own:=fun j hj=>by omega,tree:=fun j hj=>by omega,lv:=fun j hj=>by omega,all:=fun j hj=>by omega }
theorem page_le (leaf:Bool) {g:List (Nat × Nat)} (hg:g.length<=7):∀ j,j<128->pageF leaf g.length (kOf g) (vOf g) j<=255:=fun j _=>sealP_le (by cases leaf <;> decide) (fun k _=>bodyF_le _ _ _ k (by omega)) j
theorem lvl_leaf (hg:Good N G B) (h1:1<=l.length) (ha:Asc l) (hu:It64 l) {least:Nat} (hl:∀ i,i<manyG l.length->least<=(grp l (manyG l.length) i).length) (hr:(manyG l.length:Int)<=B.room) :
  ∀ i,i<=manyG l.length->Good N G (lvlP true l B i).1/\(lvlP true l B i).1.room=B.room - i/\TUp (lvlP true l B i).1 0 l (manyG l.length) topK least i (lvlP true l B i).2 (grp l (manyG l.length))
 | 0,_=>⟨hg,by show B.room=B.room - ((0:Nat):Int);omega,TUp.nil⟩
 | i+1,hi=>by
  obtain ⟨g1,g2,g3⟩:=lvl_leaf hg h1 ha hu hl hr i (by omega);have hr':0<(lvlP true l B i).1.room:=by omega
  obtain ⟨p1,-,-,-,-,-,-,p8,-⟩:=g1.put_ hr' (page_le true (grp_bd h1 (i:=i) (by omega)).1);refine ⟨p1,?_,g3.leaf g1 hr' h1 ha hu (fun j hj=>?_) (by omega) (hl i (by omega))⟩
  ·show (Bs.put _ _).room=_
   rw [p8,g2];omega
  ·have:=(hu.getD j).1
   unfold topK kOf;omega
theorem lvl_inner (hg:Good N G B) (hM:N<=4096) (h1:1<=l.length) (R:TRow B h topK l items) {least:Nat} (hl:∀ i,i<manyG l.length->least<=(grp l (manyG l.length) i).length) (hr:(manyG l.length:Int)<=B.room) {A:Nat->List (Nat × Nat)} (hA:∀ j,j<l.length->allP B h (vOf l j:Int)=A (vOf l j)) :
  ∀ i,i<=manyG l.length->Good N G (lvlP false l B i).1/\(lvlP false l B i).1.room=B.room - i/\TRow (lvlP false l B i).1 h topK l items/\(∀ j,j<l.length->allP (lvlP false l B i).1 h (vOf l j:Int)=A (vOf l j)) /\
   TUp (lvlP false l B i).1 (h+1) l (manyG l.length) topK least i (lvlP false l B i).2 (fun i=>(grp l (manyG l.length) i).flatMap fun p=>A p.2)
 | 0,_=>⟨hg,by show B.room=B.room - ((0:Nat):Int);omega,R,hA,TUp.nil⟩
 | i+1,hi=>by
  obtain ⟨g1,g2,g3,g4,g5⟩:=lvl_inner hg hM h1 R hl hr hA i (by omega);have hr':0<(lvlP false l B i).1.room:=by omega
  have hf:=page_le false (g:=grp l (manyG l.length) i) (grp_bd h1 (i:=i) (by omega)).1;obtain ⟨p1,-,-,-,-,-,-,p8,-⟩:=g1.put_ hr' hf;refine ⟨p1,?_,g3.put g1 hr' hf,fun j hj=>?_,g5.inner g3 g4 g1 (by rw [g1.n];exact hM) hr' h1 (by omega) (hl i (by omega))⟩
  ·show (Bs.put _ _).room=_
   rw [p8,g2];omega
  ·have T:=tree_put g1 hr' hf (lo:=0) (hi:=0) (least:=0) (g3.lv j hj)
   show allP (Bs.put _ _) h _=_
   rw [T.2.1];exact g4 j hj
structure BI (N G k:Nat) (items l:List (Nat × Nat)) (B:Bs):Prop where
 good:Good N G B
 room:(l.length:Int)+1<=2*B.room
 len:1<=l.length
 lv:(k=0/\l=items/\Asc l/\It64 l)∨(∃ h,k=h+1/\2<=l.length/\TRow B h topK l items)
theorem BI.asc {k:Nat} (I:BI N G k items l B):Asc l/\It64 l:=by
 rcases I.lv with ⟨-,-,h1,h2⟩ | ⟨h,-,-,R⟩
 ·exact ⟨h1,h2⟩
 ·exact ⟨R.asc,R.u⟩
theorem BI.many {k:Nat} (I:BI N G k items l B):(manyG l.length:Int)<=B.room:=by
 obtain ⟨b1,b2,b3,b4⟩:=manyG_bd I.len;have:=I.room;have:=I.len;by_cases e:2<=manyG l.length
 ·have:=b3 e;omega
 ·omega
theorem BI.next {k:Nat} (I:BI N G k items l B) (hM:N<=4096) (hq:2<=manyG l.length):BI N G (k+1) items (lvlP (decide (k=0)) l B (manyG l.length)).2 (lvlP (decide (k=0)) l B (manyG l.length)).1:=by
 obtain ⟨b1,b2,b3,b4⟩:=manyG_bd I.len;have hl:∀ i,i<manyG l.length->3<=(grp l (manyG l.length) i).length:=fun i hi=>by have:=(grp_bd I.len hi).2.2 hq;omega
 have hm:=I.many;have hrm:=I.room;have b4q:=b3 hq;rcases I.lv with ⟨rfl,rfl,ha,hu⟩ | ⟨h,rfl,hl2,R⟩
 ·obtain ⟨g1,g2,g3⟩:=lvl_leaf I.good I.len ha hu hl hm _ (zLr _)
  have row:=g3.row I.len ha hu (fun j hj=>by have:=(hu.getD j).1;unfold topK kOf;omega) (by rw [g1.n];exact hM);rw [grp_all (by omega)] at row;have hlen:=g3.len;refine ⟨g1,?_,?_,.inr ⟨0,rfl,?_,row⟩⟩
  ·show (((lvlP true l B (manyG l.length)).2.length:Nat):Int)+1<=2*(lvlP true l B (manyG l.length)).1.room
   rw [g2,hlen];omega
  ·show 1<=(lvlP true l B (manyG l.length)).2.length
   rw [hlen];omega
  ·show 2<=(lvlP true l B (manyG l.length)).2.length
   rw [hlen];omega
 ·obtain ⟨g1,g2,g3,g4,g5⟩:=lvl_inner I.good hM I.len R hl hm (A:=fun v=>allP B h (v:Int)) (fun j _=>rfl) _ (zLr _)
  have row:=g5.row I.len R.asc R.u R.bd (by rw [g1.n];exact hM)
  have e:((List.range (manyG l.length)).flatMap fun i=>(grp l (manyG l.length) i).flatMap fun p=>allP B h (p.2:Int))=items:=by
   rw [<- R.all,<- List.flatMap_assoc,grp_all (by omega)]
  rw [e] at row;have hlen:=g5.len;refine ⟨g1,?_,?_,.inr ⟨h+1,rfl,?_,row⟩⟩
  ·show (((lvlP false l B (manyG l.length)).2.length:Nat):Int)+1<=2*(lvlP false l B (manyG l.length)).1.room
   rw [g2,hlen];omega
  ·show 1<=(lvlP false l B (manyG l.length)).2.length
   rw [hlen];omega
  ·show 2<=(lvlP false l B (manyG l.length)).2.length
   rw [hlen];omega
end
theorem rightP_lo {B:Bs} {h:Nat} {x:Int} {lo lo' hi least:Nat} (hr:rightP B h x lo hi least=true) (hl:lo'<=lo):rightP B h x lo' hi least=true:=by
 cases hd:B.nodeI x with
 | none=>rw [rightP_none hd] at hr;cases hr
 | some d =>
  rw [rightP_node hd] at hr;simp only [Bool.and_eq_true,decide_eq_true_eq,List.all_eq_true,List.mem_range] at hr;refine rightP_all hd hr.1 hr.2.1 (fun i hi'=>?_);have:=hr.2.2 i hi';unfold kidOk at this ⊢;rw [Bool.and_eq_true,decide_eq_true_eq] at this;rw [decide_eq_true ⟨by omega,this.1.2⟩,this.2];rfl
structure TreeIs (B:Bs) (x:Int) (h:Nat) (items:List (Nat × Nat)):Prop where
 right:rightP B h x 0 topK (if h=0 then 1 else 2)=true
 all:allP B h x=items
 lv:Lv B (blksP B h x)
theorem BI.last {B:Bs} {N G k:Nat} {items l:List (Nat × Nat)} (I:BI N G k items l B) (hM:N<=4096) (hq:manyG l.length=1):Good N G (lvlP (decide (k=0)) l B 1).1/\TreeIs (lvlP (decide (k=0)) l B 1).1 (vOf (lvlP (decide (k=0)) l B 1).2 0:Int) k items/\(lvlP (decide (k=0)) l B 1).1.room=B.room - 1:=by
 obtain ⟨b1,b2,b3,b4⟩:=manyG_bd I.len;have hm:=I.many;have hgl:(grp l 1 0).length=l.length:=by rw [grp_len (by omega) (by omega),gLo_top (by omega),gLo_zero];omega
 have hg1:grp l 1 0=l:=by
  have:=grp_all (l:=l) (q:=1) (by omega);simpa using this
 rcases I.lv with ⟨rfl,rfl,ha,hu⟩ | ⟨h,rfl,hl2,R⟩
 ·obtain ⟨g1,g2,g3⟩:=lvl_leaf I.good I.len ha hu (least:=1) (fun i hi=>(grp_bd I.len hi).2.1) hm 1 (by omega)
  rw [hq] at g3;refine ⟨g1,⟨?_,?_,g3.lv 0 (by omega)⟩,g2⟩
  ·have:=g3.tree 0 (by omega)
   unfold gHi at this;rw [if_neg (by omega)] at this;exact rightP_lo this (Nat.zero_le _)
  ·have:=g3.all 0 (by omega)
   rw [hg1] at this;exact this
 ·obtain ⟨g1,g2,g3,g4,g5⟩:=lvl_inner I.good hM I.len R (least:=2) (fun i hi=>by rw [hq] at hi ⊢;obtain rfl:i=0:=(by omega);rw [hgl];exact hl2) hm (A:=fun v=>allP B h (v:Int)) (fun j _=>rfl) 1 (by omega)
  rw [hq] at g5;refine ⟨g1,⟨?_,?_,g5.lv 0 (by omega)⟩,g2⟩
  ·have:=g5.tree 0 (by omega)
   unfold gHi at this;rw [if_neg (by omega)] at this;exact rightP_lo this (Nat.zero_le _)
  ·have:=g5.all 0 (by omega)
   rw [hg1,R.all] at this;exact this
section
variable {B:Bs} {x:Int} {h:Nat} {items:List (Nat × Nat)}
theorem TreeIs.height (T:TreeIs B x h items) (ok:B.Ok) (h8:h<8):heightP B 8 x=(h+1,0):=height_right ok T.right h8 (by split <;> omega)
theorem TreeIs.rightT (T:TreeIs B x h items) (ok:B.Ok) (h8:h<8):rightT B x=true:=by
 unfold Go.Proofs.YtkhcaclndepgbaaGreat.rightT;rw [T.height ok h8];have hr:=T.right;have e:(if 1<h+1 then 2 else 1)=(if h=0 then 1 else 2):=by by_cases e:h=0 <;> simp [e]
 show (x==0||((0:Int)==0&&rightP B (h+1 - 1) x 0 18446744073709551615 (if 1<h+1 then 2 else 1)))=true
 rw [e,Nat.add_sub_cancel];unfold topK at hr;rw [hr];simp
theorem TreeIs.ne (T:TreeIs B x h items):x≠0:=by
 have:=(right_ge T.right).1;omega
theorem TreeIs.walk (T:TreeIs B x h items) (ok:B.Ok) (h8:h<8) (lo hi:Nat):walkL B lo hi x=(items.filter fun p=>decide (lo<=p.1)&&decide (p.1<=hi)).map fun p=>(p,0):=by
 unfold walkL;rw [if_neg T.ne,items_right ok T.right h8,T.all]
end
theorem walkR_ok:∀ (l acc:List (Nat × Nat)) (m:Nat),walkR (l.map fun p=>(p,(0:Int))) m acc=(acc++l.take m,0)
 | [],acc,m=>by rw [List.map_nil,walkR_nil];simp
 | p::r,acc,0=>by rw [walkR_zero];simp
 | p::r,acc,m+1=>by
  show (if (0:Int)=0 then walkR (r.map fun p=>(p,(0:Int))) m (acc++[p]) else _)=_
  rw [if_pos rfl,walkR_ok r (acc++[p]) m];simp
structure BH (k m m0:Nat):Prop where
 pw:4 ^ k*m<=m0
 hg:k+highN (10 - k) m=highR m0
theorem BH.start {m0:Nat} (h:1<=m0):BH 0 m0 m0:=⟨by simp,by unfold highR;rw [if_neg (by omega)];simp⟩
theorem BH.small {k m m0:Nat} (h:BH k m m0) (hm:1<=m) (h0:m0<=200):k<=3:=by
 have h1:=h.pw;by_cases e:k<=3
 ·exact e
 ·have h2:4 ^ 4<=4 ^ k:=Nat.pow_le_pow_right (by omega) (by omega)
  have h3:4 ^ k*1<=4 ^ k*m:=Nat.mul_le_mul_left _ hm;have h4:4 ^ 4=256:=by decide
  omega
theorem BH.next {k m m0:Nat} (h:BH k m m0) (hq:2<=manyG m) (h0:m0<=200):BH (k+1) (manyG m) m0:=by
 have hm:1<=m:=by have:=manyG_less hq;omega
 have hk:=h.small hm h0;have b:=(manyG_bd hm).2.2.1 hq;refine ⟨?_,?_⟩
 ·have h1:=h.pw
  have h2:4 ^ (k+1)*manyG m=4 ^ k*(4*manyG m):=by rw [Nat.pow_succ,Nat.mul_assoc]
  rw [h2];exact zLt (Nat.mul_le_mul_left _ b) h1
 ·have h1:=h.hg
  rw [show 10 - k=(10 - (k+1))+1 by omega] at h1;rw [highN,if_pos (by unfold manyG at hq;omega)] at h1;unfold manyG;omega
theorem BH.last {k m m0:Nat} (h:BH k m m0) (hm:1<=m) (hq:manyG m=1) (h0:m0<=200):highR m0=k+1:=by
 have hk:=h.small hm h0;have h1:=h.hg;rw [show 10 - k=(9 - k)+1 by omega,highN,if_neg (by unfold manyG at hq;omega)] at h1;exact h1.symm
theorem room_fmt {N:Nat} (hN:16<=N/\N<=4096):(Bs.fmt N).room=(N:Int) - 2 - 2*(needN N:Int):=by
 obtain ⟨g,hl,hw⟩:=good_fmt hN;have:=g.room;rw [hw,cnt_zero (fun i _=>hl i)] at this;omega
def insAt (out:List (Nat × Nat)) (x:Nat × Nat) (at':Nat):List (Nat × Nat):=if at'<out.length/\kOf out at'=x.1 then out else out.take at'++x::out.drop at'
theorem insAt_asc {out:List (Nat × Nat)} {x:Nat × Nat} {at':Nat} (ha:Asc out) (hu:It64 out) (hx:x.1<18446744073709551616/\x.2<18446744073709551616) (h0:at'<=out.length) (h1:∀ j,at'<=j->j<out.length->x.1<=kOf out j) (h2:at'=0∨kOf out (at' - 1)<x.1) :
  Asc (insAt out x at')/\It64 (insAt out x at')/\(insAt out x at').length<=out.length+1:=by
 unfold insAt;by_cases e:at'<out.length/\kOf out at'=x.1
 ·rw [if_pos e];exact ⟨ha,hu,by omega⟩
 ·rw [if_neg e]
  refine ⟨?_,fun p hp=>?_,?_⟩
  ·have hlt:∀ p,p∈out.take at'->p.1<x.1:=fun p hp=>by
    obtain ⟨j,hj,e2⟩:=List.getElem_of_mem hp;rw [List.length_take] at hj;rw [List.getElem_take] at e2;rcases h2 with h2 | h2
    ·omega
    ·have h3:kOf out j<=kOf out (at' - 1):=by
      by_cases e3:j=at' - 1
      ·rw [e3];exact zLr _
      ·exact Nat.le_of_lt (ha.lt (by omega) (by omega))
     have h4:kOf out j=p.1:=by unfold kOf;rw [getD_lt (by omega),e2]
     omega
   have hgt:∀ p,p∈out.drop at'->x.1<p.1:=fun p hp=>by
    obtain ⟨j,hj,e2⟩:=List.getElem_of_mem hp;rw [List.length_drop] at hj;rw [List.getElem_drop] at e2;have h4:kOf out (at'+j)=p.1:=by unfold kOf;rw [getD_lt (by omega),e2]
    have h5:=h1 (at'+j) (by omega) (by omega);by_cases e3:j=0
    ·subst e3
     have:kOf out at'≠x.1:=fun q=>e ⟨by omega,q⟩;rw [Nat.add_zero] at h4 h5;omega
    ·have h6:=h1 at' (zLr _) (by omega)
     have h7:=ha.lt (i:=at') (j:=at'+j) (by omega) (by omega);omega
   refine List.pairwise_append.2 ⟨ha.take,List.pairwise_cons.2 ⟨hgt,ha.drop⟩,fun p hp q hq=>?_⟩;have h3:=hlt p hp;rcases List.mem_cons.1 hq with rfl | hq
   ·exact h3
   ·have:=hgt q hq;omega
  ·rcases List.mem_append.1 hp with hp | hp
   ·exact hu p (List.mem_of_mem_take hp)
   ·rcases List.mem_cons.1 hp with rfl | hp
    ·exact hx
    ·exact hu p (List.mem_of_mem_drop hp)
  ·rw [List.length_append,List.length_take,List.length_cons,List.length_drop];omega
open Go.RowKit Go.Maps
end Go.Proofs.YtkhcaclndepgbaaGreat
namespace Go.Proofs.YtkhcaclndepgbaaGreat
open Go.RowKit
structure St where
 c:Nat->Nat
 d:Nat->Nat->Nat
 r:Nat->Nat
 m:Nat->Nat
end Go.Proofs.YtkhcaclndepgbaaGreat
