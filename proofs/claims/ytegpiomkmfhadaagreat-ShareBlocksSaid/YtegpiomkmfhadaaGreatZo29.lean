/- Layer 15 in plain words: nodes of any s -/
import Derived.Test.YtegpiomkmfhadaaGreatZo28
set_option linter.all false
set_option maxRecDepth 100000
set_option maxHeartbeats 20000000
namespace Go.Proofs.YtegpiomkmfhadaaGreat
variable {keys vals p:zF} {n i k h x lo least N b:Nat} {d d':Nd} {B:Bs} {Dq:zL}
theorem Yo {l:Bool} {nk nv:Nat} : zV l nk nv keys vals=true↔(nk<=7/\nv=nk/\(l||ZN vals nv)=true/\ZA keys nk):=by
 cases h:zV l nk nv keys vals with
 | true =>
  refine ⟨fun _=>?_,fun _=>rfl⟩;unfold zV at h;simp only [Bool.and_eq_true,decide_eq_true_eq] at h;exact ⟨h.1,h.2.1,h.2.2.1,(Ya _ _).1 h.2.2.2⟩
 | false =>
  refine ⟨(fun h=>by cases h),fun q=>?_⟩;have:=Yx (b:=true) ⟨fun _=>rfl,fun _=>q⟩;rw [h] at this;exact this
theorem ax {f:zF} (h:ZA f n):ZA (qS f i) (n - 1):=by
 intro j h0 hj;unfold qS
 split
 ·split
  ·exact qI h zo zo
  ·exact qI h zo zo
 ·split
  ·exact qI h zo zo
  ·exact qI h zo zo
theorem tA {f:zF} (h:YI f n):YI (qS f i) (n - 1):=by
 obtain ⟨h1,h2⟩:=h;refine ⟨fun j hj=>?_,fun a b Cq hb=>?_⟩
 ·unfold qS
  split
  ·exact h1 _ zo
  ·exact h1 _ zo
 ·unfold qS
  split
  ·split
   ·exact h2 _ _ Cq zo
   ·exact h2 _ _ zo zo
  ·split
   ·exact h2 _ _ zo zo
   ·exact h2 _ _ zo zo
theorem fj {l:Bool} (h:zV l n n keys vals=true) (hi:i<n):zV l (n - 1) (n - 1) (qS keys i) (qS vals i)=(l||decide (1<n)):=by
 obtain ⟨h1,_,h2,h3⟩:=Yo.1 h;refine Yx ?_
 cases l with
 | true=>exact ⟨fun _=>rfl,fun _=>⟨zo,rfl,rfl,ax h3⟩⟩
 | false =>
  simp only [Bool.false_or] at h2 ⊢;rw [qs,decide_eq_true_eq];have hg:=(qs _ _).1 h2;exact ⟨fun q=>by have:=q.2.2.1.1;omega,fun q=>⟨zo,trivial,⟨zo,tA hg.2⟩,ax h3⟩⟩
theorem nj {p:Nat->Bool} {i:Nat} : ∀ {n:Nat},i<n->cnt (n - 1) (fun j=>p (if j<i then j else j+1))+(if p i then 1 else 0)=cnt n p
 | 0,h=>zo
 | m+1,h=>by
  show cnt m _+_=cnt m p+(if p m then 1 else 0)
  by_cases e:i=m
  ·subst e
   rw [zZ (q:=p) fun j hj=>by rw [if_pos hj]]
  ·have hm:i<m:=zo
   have ih:=nj (p:=p) hm;obtain ⟨q,rfl⟩:∃ q,m=q+1:=⟨m - 1,zo⟩
   show (cnt q _+(if p (if q<i then q else q+1) then 1 else 0))+_=_
   rw [if_neg (show ¬ q<i by omega)];rw [show q+1 - 1=q by omega] at ih;omega
theorem YR (hi:i<=n):List.range n=List.range i++(List.range (n - i)).map (i + ·):=by
 have:=List.range_add (n:=i) (m:=n - i);rwa [show i+(n - i)=n by omega] at this
theorem ns {α:Type} {f:Nat->α} (hi:i<n):(List.range (n - 1)).map (fun j=>f (if j<i then j else j+1))=(List.range i).map f++(List.range (n - (i+1))).map fun j=>f (i+1+j):=by
 rw [YR (show i<=n - 1 by omega),List.map_append,List.map_map,show n - 1 - i=n - (i+1) by omega];congr 1
 ·exact yU fun j hj=>by rw [if_pos (ye.1 hj)]
 ·exact yU fun j hj=>by
   show f (if i+j<i then i+j else i+j+1)=_
   rw [if_neg zo,show i+j+1=i+1+j by omega]
theorem fp {α:Type} {f:Nat->α} (hi:i<n):(List.range n).map f=(List.range i).map f++f i::(List.range (n - (i+1))).map fun j=>f (i+1+j):=by
 rw [YR (show i+1<=n by omega),List.map_append,List.map_map,zn,List.map_append,zf];rfl
def Nd.del (d:Nd) (i:Nat):Nd:=⟨d.leaf,d.n - 1,qS d.k i,qS d.v i⟩
def Nd.cat (a b:Nd):Nd:=⟨a.leaf,a.n+b.n,fun j=>if j<a.n then a.k j else b.k (j - a.n),fun j=>if j<a.n then a.v j else b.v (j - a.n)⟩
def Nd.sub (d:Nd) (a m:Nat):Nd:=⟨d.leaf,m,fun j=>d.k (a+j),fun j=>d.v (a+j)⟩
def Nd.upd (d:Nd) (i z:Nat):Nd:=⟨d.leaf,d.n,d.k,fun j=>if j=i then z else d.v j⟩
theorem nt (hi:i<d.n) (b:Nat):xi (d.del i) b+(if d.v i=b then 1 else 0)=xi d b:=by
 have:=nj (p:=fun j=>decide (d.v j=b)) hi;simp only [decide_eq_true_eq] at this;unfold xi;rw [<- this];congr 1
 exact zZ fun j _=>by
  show decide (qS d.v i j=b)=_
  unfold qS
  split <;> rfl
theorem gB {p:Nat->Bool} {a:Nat} : ∀ {m:Nat},cnt (a+m) p=cnt a p+cnt m fun j=>p (a+j)
 | 0=>by show cnt a p=cnt a p+0;omega
 | m+1=>by
  show cnt (a+m) p+(if p (a+m) then 1 else 0)=_+(cnt m _+(if p (a+m) then 1 else 0))
  rw [gB];omega
theorem nw (a b:Nd) (q:Nat):xi (a.cat b) q=xi a q+xi b q:=by
 show cnt (a.n+b.n) _=_
 rw [gB];congr 1
 ·exact zZ fun j hj=>by show decide ((if j<a.n then a.v j else b.v (j - a.n))=q)=_;rw [if_pos hj]
 ·exact zZ fun j hj=>by show decide ((if a.n+j<a.n then a.v (a.n+j) else b.v (a.n+j - a.n))=q)=_;rw [if_neg zo,show a.n+j - a.n=j by omega]
theorem vK (hk:k<=d.n) (q:Nat):xi (d.sub 0 k) q+xi (d.sub k (d.n - k)) q=xi d q:=by
 have:=gB (p:=fun j=>decide (d.v j=q)) (a:=k) (m:=d.n - k);rw [show k+(d.n - k)=d.n by omega] at this
 show cnt k (fun j=>decide (d.v (0+j)=q))+cnt (d.n - k) (fun j=>decide (d.v (k+j)=q))=cnt d.n _
 rw [this];congr 1;exact zZ fun j _=>by rw [yn]
def VA (B:Bs):Nat->Nd->List (Nat × Nat)
 | 0,d=>d.items
 | h+1,d=>(List.range d.n).flatMap fun i=>zR B h (d.v i:Int)
structure VR (B:Bs) (h:Nat) (d:Nd) (lo hi:Nat):Prop where
 leaf:d.leaf=decide (h=0)
 bd:∀ i,i<d.n->lo<=d.k i/\d.k i<=hi
 asc:ZA d.k d.n
 kid:∀ k,h=k+1->∀ i,i<d.n->2<=d.v i/\d.v i<B.T.n/\zG B k (d.v i:Int) (d.k i) (d.hi hi i) 3=true
theorem VR.of (ok:B.Ok) {x:Int} {hi:Nat} (hr:zG B h x lo hi least=true):∃ d,B.nodeI x=some d/\least<=d.n/\VR B h d lo hi/\zR B h x=VA B h d:=by
 cases h with
 | zero =>
  obtain ⟨d,h1,h2,h3,h4,h5⟩:=qX hr;exact ⟨d,h1,h3,⟨by rw [h2];rfl,h5,(ok.node_ok h1).1.asc,fun k e=>zo⟩,h4⟩
 | succ h =>
  obtain ⟨d,I⟩:=qB hr
  exact ⟨d,I.node,I.least,⟨by rw [I.leaf];rfl,I.bd,(ok.node_ok I.node).1.asc,fun k e i hi=>by
   have e:h=k:=zo;subst e;exact ⟨(I.kid i hi).1,(I.kid i hi).2,I.right i hi⟩⟩,I.all⟩
theorem VR.to {x:Int} {hi:Nat} (hd:B.nodeI x=some d) (hl:least<=d.n) (v:VR B h d lo hi):zG B h x lo hi least=true/\zR B h x=VA B h d:=by
 cases h with
 | zero =>
  constructor
  ·unfold zG
   rw [hd];simp only [Bool.and_eq_true,decide_eq_true_eq,yQ,ye];exact ⟨hl,by rw [v.leaf];rfl,v.bd⟩
  ·unfold zR;rw [hd];rfl
 | succ h =>
  constructor
  ·unfold zG
   rw [hd];simp only [Bool.and_eq_true,decide_eq_true_eq,yQ,ye,Bool.not_eq_true'];exact ⟨hl,by rw [v.leaf];rfl,fun i hi=>⟨v.bd i hi,⟨(v.kid h rfl i hi).1,(v.kid h rfl i hi).2.1⟩,(v.kid h rfl i hi).2.2⟩⟩
  ·show (match B.nodeI x with | none=>[] | some d=>_)=_
   rw [hd];rfl
structure Nd.Lk (d' d:Nd):Prop where
 leaf:d'.leaf=d.leaf
 n:d'.n=d.n
 k:∀ i,i<d.n->d'.k i=d.k i
 v:∀ i,i<d.n->d'.v i=d.v i
theorem Nd.Lk.hi {d' d:Nd} (e:d'.Lk d) (hi i:Nat):d'.hi hi i=d.hi hi i:=by
 unfold Nd.hi;rw [e.n];by_cases q:i+1<d.n
 ·rw [if_pos q,if_pos q,e.k _ q]
 ·rw [if_neg q,if_neg q]
theorem VR.lk {hi:Nat} (v:VR B h d lo hi) (e:d'.Lk d):VR B h d' lo hi :=
 ⟨e.leaf.trans v.leaf,fun i hi=>by rw [e.n] at hi;rw [e.k i hi];exact v.bd i hi,fun i h0 hi=>by rw [e.n] at hi;rw [e.k _ zo,e.k _ hi];exact v.asc i h0 hi,fun k q i hi=>by rw [e.n] at hi;rw [e.v i hi,e.k i hi,e.hi];exact v.kid k q i hi⟩
theorem VA.lk (e:d'.Lk d):VA B h d'=VA B h d:=by
 cases h with
 | zero =>
  show (List.range d'.n).map _=(List.range d.n).map _
  rw [e.n];exact yU fun j hj=>by have:=ye.1 hj;rw [e.k j this,e.v j this]
 | succ h =>
  show (List.range d'.n).flatMap _=(List.range d.n).flatMap _
  rw [e.n];exact xu fun j hj=>by rw [e.v j (ye.1 hj)]
theorem JW (e:d'.Lk d) (b:Nat):xi d' b=xi d b:=by
 unfold xi;rw [e.n];exact zZ fun j hj=>by rw [e.v j hj]
theorem VR.lower {IZ hi:Nat} (v:VR B h d lo hi) (hl:IZ<=lo):VR B h d IZ hi:=⟨v.leaf,fun i hi=>by have:=v.bd i hi;omega,v.asc,v.kid⟩
theorem Qi : ∀ {h:Nat} {x:Int} {lo hi least IZ hi' GY:Nat},zG B h x lo hi least=true->IZ<=lo->hi<=hi'->GY<=least->zG B h x IZ hi' GY=true:=by
 intro h
 induction h with
 | zero =>
  intro x lo hi least IZ hi' GY hr h1 h2 h3;unfold zG at hr ⊢
  cases hd:B.nodeI x with
  | none=>rw [hd] at hr;cases hr
  | some d =>
   rw [hd] at hr;simp only [Bool.and_eq_true,decide_eq_true_eq,yQ,ye] at hr ⊢;exact ⟨zo,hr.2.1,fun i hi=>by have:=hr.2.2 i hi;omega⟩
 | succ h ih =>
  intro x lo hi least IZ hi' GY hr h1 h2 h3;unfold zG at hr ⊢
  cases hd:B.nodeI x with
  | none=>rw [hd] at hr;cases hr
  | some d =>
   rw [hd] at hr;simp only [Bool.and_eq_true,decide_eq_true_eq,yQ,ye] at hr ⊢;refine ⟨zo,hr.2.1,fun i hi=>?_⟩;obtain ⟨a,b,c⟩:=hr.2.2 i hi;refine ⟨zo,b,ih c (xd _) ?_ (xd _)⟩;unfold Nd.hi
   split
   ·exact xd _
   ·exact h2
section
variable {B:Bs} {h lo hi:Nat} {d:Nd}
theorem VR.cat {a b:Nd} {la ha lb hb:Nat} (va:VR B h a la ha) (vb:VR B h b lb hb) (h1:lo<=la) (h2:ha<lb) (h3:hb<=hi) (h4:ha<=hi) (h5:lo<=lb):VR B h (a.cat b) lo hi:=by
 have hk:∀ i,(a.cat b).k i=if i<a.n then a.k i else b.k (i - a.n):=fun i=>rfl
 have hv:∀ i,(a.cat b).v i=if i<a.n then a.v i else b.v (i - a.n):=fun i=>rfl
 have hn:(a.cat b).n=a.n+b.n:=rfl;refine ⟨va.leaf,fun i hi=>?_,fun i h0 hi=>?_,fun k e i hi=>?_⟩
 ·rw [hk]
  rw [hn] at hi
  split
  ·have:=va.bd i zau;omega
  ·have:=vb.bd (i - a.n) zo;omega
 ·rw [hk,hk]
  rw [hn] at hi;by_cases e1:i<a.n
  ·rw [if_pos zo,if_pos e1];exact va.asc i h0 e1
  ·rw [if_neg e1]
   by_cases e2:i - 1<a.n
   ·rw [if_pos e2]
    have h6:=va.bd (i - 1) e2;have h7:=vb.bd (i - a.n) zo;omega
   ·rw [if_neg e2]
    have:=vb.asc (i - a.n) zo zo;rwa [show i - a.n - 1=i - 1 - a.n by omega] at this
 ·rw [hn] at hi
  by_cases e1:i<a.n
  ·obtain ⟨q1,q2,q3⟩:=va.kid k e i e1
   have ev:(a.cat b).v i=a.v i:=by rw [hv,if_pos e1]
   have ek:(a.cat b).k i=a.k i:=by rw [hk,if_pos e1]
   rw [ev,ek];refine ⟨q1,q2,Qi q3 (xd _) ?_ (xd _)⟩;unfold Nd.hi;rw [hn,hk];by_cases e2:i+1<a.n
   ·rw [if_pos e2,if_pos zo,if_pos e2];exact xd _
   ·rw [if_neg e2]
    by_cases e3:i+1<a.n+b.n
    ·rw [if_pos e3,if_neg e2]
     have:=vb.bd (i+1 - a.n) zo;omega
    ·rw [if_neg e3];exact h4
  ·obtain ⟨q1,q2,q3⟩:=vb.kid k e (i - a.n) zo
   have ev:(a.cat b).v i=b.v (i - a.n):=by rw [hv,if_neg e1]
   have ek:(a.cat b).k i=b.k (i - a.n):=by rw [hk,if_neg e1]
   rw [ev,ek];refine ⟨q1,q2,Qi q3 (xd _) ?_ (xd _)⟩;unfold Nd.hi;rw [hn,hk];by_cases e3:i+1<a.n+b.n
   ·rw [if_pos e3,if_pos zo,if_neg zo,show i - a.n+1=i+1 - a.n by omega];exact xd _
   ·rw [if_neg e3,if_neg zo];exact h3
theorem VA.cat (a b:Nd):VA B h (a.cat b)=VA B h a++VA B h b:=by
 have e:List.range (a.cat b).n=List.range a.n++(List.range b.n).map (a.n + ·):=by
  rw [YR (show a.n<=(a.cat b).n from Nat.le_add_right _ _),show (a.cat b).n - a.n=b.n by show a.n+b.n - a.n=b.n;omega]
 cases h with
 | zero =>
  show (List.range (a.cat b).n).map _=_
  rw [e,List.map_append,List.map_map];congr 1
  ·exact yU fun j hj=>by
    have:=ye.1 hj
    show ((if j<a.n then a.k j else _),(if j<a.n then a.v j else _))=_
    rw [if_pos this,if_pos this]
  ·exact yU fun j hj=>by
    show ((if a.n+j<a.n then _ else b.k (a.n+j - a.n)),(if a.n+j<a.n then _ else b.v (a.n+j - a.n)))=_
    rw [if_neg zo,if_neg zo,yA]
 | succ h =>
  show (List.range (a.cat b).n).flatMap _=_
  rw [e,zi,List.flatMap_map];congr 1
  ·exact xu fun j hj=>by
    have:=ye.1 hj
    show zR B h (((if j<a.n then a.v j else b.v (j - a.n)):Nat):Int)=_
    rw [if_pos this]
  ·exact xu fun j hj=>by
    show zR B h (((if a.n+j<a.n then a.v (a.n+j) else b.v (a.n+j - a.n)):Nat):Int)=_
    rw [if_neg zo,yA]
theorem VR.sub (v:VR B h d lo hi) {a m hi':Nat} (ham:a+m<=d.n) (hh:∀ i,i<m->d.k (a+i)<=hi') (hl:a+m<d.n->d.k (a+m) - 1<=hi') (hr:a+m=d.n->hi<=hi'):VR B h (d.sub a m) (if m=0 then lo else d.k a) hi':=by
 have hn:(d.sub a m).n=m:=rfl;refine ⟨v.leaf,fun i hi=>?_,fun i h0 hi=>?_,fun k e i hi=>?_⟩
 ·rw [hn] at hi
  rw [if_neg zo];refine ⟨?_,hh i hi⟩
  show d.k a<=d.k (a+i)
  by_cases e:i=0
  ·subst e;exact xd _
  ·exact Nat.le_of_lt (qI v.asc zo zo)
 ·show d.k (a+(i - 1))<d.k (a+i)
  rw [hn] at hi;exact qI v.asc zo zo
 ·rw [hn] at hi
  obtain ⟨q1,q2,q3⟩:=v.kid k e (a+i) zo;refine ⟨q1,q2,Qi q3 (xd _) ?_ (xd _)⟩;unfold Nd.hi;rw [hn];by_cases e2:i+1<m
  ·rw [if_pos zo,if_pos e2];exact xd _
  ·rw [if_neg e2]
   by_cases e3:a+i+1<d.n
   ·rw [if_pos e3,show a+i+1=a+m by omega];exact hl zo
   ·rw [if_neg e3];exact hr zo
theorem VA.sub (hk:k<=d.n):VA B h (d.sub 0 k)++VA B h (d.sub k (d.n - k))=VA B h d:=by
 cases h with
 | zero =>
  show (List.range k).map (fun i=>(d.k (0+i),d.v (0+i)))++(List.range (d.n - k)).map (fun i=>(d.k (k+i),d.v (k+i)))=(List.range d.n).map _
  rw [YR hk,List.map_append,List.map_map];congr 1;exact yU fun j _=>by rw [yn]
 | succ h =>
  show (List.range k).flatMap (fun i=>zR B h (d.v (0+i):Int))++(List.range (d.n - k)).flatMap (fun i=>zR B h (d.v (k+i):Int))=(List.range d.n).flatMap _
  rw [YR hk,zi,List.flatMap_map];congr 1;exact xu fun j _=>by rw [yn]
end
theorem OW {α:Type} {f f':Nat->List α} {p:α->Bool} (h:∀ j,j<n->f' j=(f j).filter p):(List.range n).flatMap f'=((List.range n).flatMap f).filter p:=by
 rw [List.filter_flatMap];exact xu fun j hj=>h j (ye.1 hj)
theorem bZ {α:Type} {f:Nat->List α} {l:Nat} (hl:l+1<n):(List.range n).flatMap f=(List.range l).flatMap f++(f l++f (l+1))++(List.range (n - (l+2))).flatMap fun j=>f (l+2+j):=by
 rw [YR (show l+2<=n by omega),zi,List.flatMap_map,zn,zn,zi,zi];simp only [List.flatMap_cons,List.flatMap_nil,yY,zf]
theorem jG {α:Type} {f g:Nat->List α} {l:Nat} (hl:l+1<n) (h:∀ j,j<n->j≠l->j≠l+1->f j=g j) (e:f l++f (l+1)=g l++g (l+1)):(List.range n).flatMap f=(List.range n).flatMap g:=by
 rw [bZ hl,bZ hl,e];congr 1
 ·congr 1
  exact xu fun j hj=>by have:=ye.1 hj;exact h j zo zo zo
 ·exact xu fun j hj=>by have:=ye.1 hj;exact h _ zo zo zo
theorem tB {α:Type} {f:Nat->List α} {r:Nat} (hr:r<n) (h0:f r=[]):(List.range (n - 1)).flatMap (fun j=>f (if j<r then j else j+1))=(List.range n).flatMap f:=by
 have e1:=ns (f:=f) hr;have e2:=fp (f:=f) hr;rw [List.flatMap_def,List.flatMap_def,e1,e2,List.flatten_append,List.flatten_append,List.flatten_cons,h0,yy]
theorem VR.inner {hi:Nat} (hl:d.leaf=false) (hb:∀ i,i<d.n->lo<=d.k i/\d.k i<=hi) (ha:ZA d.k d.n) (hk:∀ i,i<d.n->2<=d.v i/\d.v i<B.T.n/\zG B h (d.v i:Int) (d.k i) (d.hi hi i) 3=true):VR B (h+1) d lo hi :=
 ⟨by rw [hl];rfl,hb,ha,fun k e i hi'=>by
  obtain rfl:h=k:=Nat.succ.inj e;exact hk i hi'⟩
theorem VR.upd {B B':Bs} {h lo hi i z:Nat} {d:Nd} (v:VR B (h+1) d lo hi) (hn:B'.T.n=B.T.n) (hi':i<d.n) (hz:2<=z/\z<B.T.n) (hr:zG B' h (z:Int) (d.k i) (d.hi hi i) 3=true)
  (hs:∀ j,j<d.n->j≠i->xV B B' h (d.v j) (d.v j)):VR B' (h+1) (d.upd i z) lo hi:=by
 refine VR.inner (by show d.leaf=false;rw [v.leaf];rfl) v.bd v.asc fun j hj=>?_;obtain ⟨q1,q2,q3⟩:=v.kid h rfl j hj;by_cases e:j=i
 ·subst e
  have ev:(d.upd j z).v j=z:=if_pos rfl;rw [ev,hn];exact ⟨hz.1,hz.2,hr⟩
 ·have ev:(d.upd i z).v j=d.v j:=if_neg e
  rw [ev,hn];refine ⟨q1,q2,?_⟩;have:=(hs j hj e).1 (d.k j) (d.hi hi j) 3;exact this.trans q3
theorem VA.upd {B':Bs} {z:Nat} {p:Nat × Nat->Bool} (hz:zR B' h (z:Int)=(zR B h (d.v i:Int)).filter p)
  (hs:∀ j,j<d.n->j≠i->zR B' h (d.v j:Int)=zR B h (d.v j:Int)/\∀ q,q∈zR B h (d.v j:Int)->p q=true):VA B' (h+1) (d.upd i z)=(VA B (h+1) d).filter p:=by
 refine OW fun j hj=>?_;by_cases e:j=i
 ·subst e
  show zR B' h (((if j=j then z else d.v j:Nat)):Int)=_
  rw [if_pos rfl];exact hz
 ·show zR B' h (((if j=i then z else d.v j:Nat)):Int)=_
  rw [if_neg e];obtain ⟨h1,h2⟩:=hs j hj e;rw [h1,List.filter_eq_self.2 h2]
structure VK (B:Bs) (h:Nat) (d:Nd) (lo hi:Nat) (L:zF):Prop where
 leaf:d.leaf=false
 bd:∀ i,i<d.n->lo<=d.k i/\d.k i<=hi
 asc:ZA d.k d.n
 kid:∀ i,i<d.n->2<=d.v i/\d.v i<B.T.n/\zG B h (d.v i:Int) (d.k i) (d.hi hi i) (L i)=true
def Nd.key (d:Nd) (i key:Nat):Nd:=⟨d.leaf,d.n,fun j=>if j=i then key else d.k j,d.v⟩
section
variable {B B':Bs} {h lo hi l:Nat} {d dj:Nd} {L:Nat->Nat}
theorem AD (hl:l+1<d.n) (j:Nat) (hj:j+1<d.n):(d.del (l+1)).hi hi j=d.hi hi (if j<l then j else j+1):=by
 unfold Nd.hi
 show (if j+1<d.n - 1 then qS d.k (l+1) (j+1) - 1 else hi)=_
 unfold qS;by_cases e:j<l
 ·rw [if_pos e,if_pos zo,if_pos zo,if_pos zo]
 ·rw [if_neg e,if_neg (show ¬ j+1<l+1 by omega)]
  by_cases e2:j+1<d.n - 1
  ·rw [if_pos e2,if_pos zo]
  ·rw [if_neg e2,if_neg zo]
theorem VK.join1 (v:VK B h d lo hi L) (hn:B'.T.n=B.T.n) (hl:l+1<d.n) (hL:∀ j,j<d.n->j≠l->j≠l+1->L j=3) (hs:∀ j,j<d.n->j≠l->j≠l+1->xV B B' h (d.v j) (d.v j))
  (hd:B'.nodeI (d.v l:Int)=some dj) (h3:3<=dj.n) (hv:VR B' h dj (d.k l) (d.hi hi (l+1))):VR B' (h+1) (d.del (l+1)) lo hi:=by
 have hk:∀ j,(d.del (l+1)).k j=if j<l+1 then d.k j else d.k (j+1):=fun j=>rfl
 have:∀ j,(d.del (l+1)).v j=if j<l+1 then d.v j else d.v (j+1):=fun j=>rfl
 refine VR.inner v.leaf (fun i hi'=>?_) (ax v.asc) fun j hj=>?_
 ·have hi':i<d.n - 1:=hi'
  rw [hk]
  split
  ·exact v.bd _ zo
  ·exact v.bd _ zo
 ·have hj:j<d.n - 1:=hj
  rw [AD hl j zo,hn];by_cases e:j=l
  ·subst e
   have e1:(d.del (j+1)).v j=d.v j:=if_pos zo;have e2:(d.del (j+1)).k j=d.k j:=if_pos zo;rw [e1,e2,if_neg zo];obtain ⟨q1,q2,_⟩:=v.kid j zo;exact ⟨q1,q2,(hv.to hd h3).1⟩
  ·by_cases e1:j<l
   ·have e2:(d.del (l+1)).v j=d.v j:=if_pos zo
    have e3:(d.del (l+1)).k j=d.k j:=if_pos zo;obtain ⟨q1,q2,q3⟩:=v.kid j zo;rw [hL j zo zo zo] at q3;rw [e2,e3,if_pos e1];exact ⟨q1,q2,((hs j zo zo zo).1 _ _ _).trans q3⟩
   ·have e2:(d.del (l+1)).v j=d.v (j+1):=if_neg zo
    have e3:(d.del (l+1)).k j=d.k (j+1):=if_neg zo;obtain ⟨q1,q2,q3⟩:=v.kid (j+1) zo;rw [hL (j+1) zo zo zo] at q3;rw [e2,e3,if_neg e1];exact ⟨q1,q2,((hs (j+1) zo zo zo).1 _ _ _).trans q3⟩
theorem VA.join1 (hl:l+1<d.n) (hs:∀ j,j<d.n->j≠l->j≠l+1->xV B B' h (d.v j) (d.v j)) (hj:zR B' h (d.v l:Int)=zR B h (d.v l:Int)++zR B h (d.v (l+1):Int)) :
  VA B' (h+1) (d.del (l+1))=VA B (h+1) d:=by
 have e1:=tB (f:=fun j=>if j=l+1 then [] else zR B' h (d.v j:Int)) (n:=d.n) (r:=l+1) hl (if_pos rfl)
 have e2:(List.range d.n).flatMap (fun j=>if j=l+1 then [] else zR B' h (d.v j:Int))=(List.range d.n).flatMap fun j=>zR B h (d.v j:Int) :=
  jG hl (fun j h1 h2 h3=>by rw [if_neg h3];exact (hs j h1 h2 h3).2) (by rw [if_neg zo,if_pos rfl,yY];exact hj)
 show (List.range (d.n - 1)).flatMap (fun j=>zR B' h ((qS d.v (l+1) j:Nat):Int))=_
 rw [show VA B (h+1) d=(List.range d.n).flatMap fun j=>zR B h (d.v j:Int) from rfl,<- e2,<- e1];refine xu fun j _=>?_;unfold qS
 split
 ·rw [if_neg zo]
 ·rw [if_neg zo]
theorem VK.join2 (v:VK B h d lo hi L) (hn:B'.T.n=B.T.n) (hl:l+1<d.n) (hL:∀ j,j<d.n->j≠l->j≠l+1->L j=3) (hs:∀ j,j<d.n->j≠l->j≠l+1->xV B B' h (d.v j) (d.v j))
  {a b:Nd} {key:Nat} (ha:B'.nodeI (d.v l:Int)=some a) (hb:B'.nodeI (d.v (l+1):Int)=some b) (a3:3<=a.n) (b3:3<=b.n) (va:VR B' h a (d.k l) (key - 1)) (vb:VR B' h b key (d.hi hi (l+1))) (h1:d.k l<key) (h2:key<=d.hi hi (l+1)) :
  VR B' (h+1) (d.key (l+1) key) lo hi:=by
 have hn':(d.key (l+1) key).n=d.n:=rfl;have hk:∀ j,j≠l+1->(d.key (l+1) key).k j=d.k j:=fun j e=>if_neg e;have Gs:(d.key (l+1) key).k (l+1)=key:=if_pos rfl;have:d.hi hi (l+1)<=hi:=wI v.bd;refine VR.inner v.leaf (fun i hi'=>?_) (fun i h0 hi'=>?_) fun j hj=>?_
 ·by_cases e:i=l+1
  ·subst e
   rw [Gs];have:=v.bd l zo;omega
  ·rw [hk i e];exact v.bd i hi'
 ·have hi':i<d.n:=hi'
  by_cases e:i=l+1
  ·subst e
   rw [Gs,hk _ zo];exact h1
  ·rw [hk i e]
   by_cases e2:i - 1=l+1
   ·rw [e2,Gs]
    unfold Nd.hi at h2;rw [if_pos zo,show l+1+1=i by omega] at h2;have h0:=qI v.asc (i:=l+1) (j:=i) zo hi';omega
   ·rw [hk _ e2];exact v.asc i h0 hi'
 ·have hj:j<d.n:=hj
  have ev:(d.key (l+1) key).v j=d.v j:=rfl;rw [ev,hn];obtain ⟨q1,q2,q3⟩:=v.kid j hj;refine ⟨q1,q2,?_⟩;by_cases e1:j=l
  ·subst e1
   rw [hk _ zo,show (d.key (j+1) key).hi hi j=key - 1 by unfold Nd.hi;rw [hn',if_pos hl,Gs]];exact (va.to ha a3).1
  ·by_cases e2:j=l+1
   ·subst e2
    rw [Gs,show (d.key (l+1) key).hi hi (l+1)=d.hi hi (l+1) by unfold Nd.hi;rw [hn',hk _ zo]];exact (vb.to hb b3).1
   ·rw [hL j hj e1 e2] at q3
    rw [hk _ e2,show (d.key (l+1) key).hi hi j=d.hi hi j by unfold Nd.hi;rw [hn',hk _ zo]];exact ((hs j hj e1 e2).1 _ _ _).trans q3
theorem VA.join2 (hl:l+1<d.n) (hs:∀ j,j<d.n->j≠l->j≠l+1->xV B B' h (d.v j) (d.v j)) {key:Nat}
  (hj:zR B' h (d.v l:Int)++zR B' h (d.v (l+1):Int)=zR B h (d.v l:Int)++zR B h (d.v (l+1):Int)):VA B' (h+1) (d.key (l+1) key)=VA B (h+1) d :=
 jG hl (fun j h1 h2 h3=>(hs j h1 h2 h3).2) hj
end
def gC (f:Nat->Option Nat) (d b:Nat):Nat->Option Nat:=fun i=>if i=d then some b else f i
noncomputable def Zo:List (Nat × Nat)->Bs->(Nat->Option Nat)->Bs × List (Nat × Nat)
 | [],B,f=>(B,[])
 | p::r,B,f=>match f p.2 with
  | some b=>((Zo r (B.up (b:Int)) f).1,(p.1,b)::(Zo r (B.up (b:Int)) f).2)
  | none=>((Zo r (B.put (QO p.2)) (gC f p.2 B.at_)).1,(p.1,B.at_)::(Zo r (B.put (QO p.2)) (gC f p.2 B.at_)).2)
def jI:Ht:=fun _=>none
structure GI (N:Nat) (B:Bs) (f:Nat->Option Nat) (out:zL) (Kr:Nat) (c:Int):Prop where
 gr:Gr N 1 B jI (cv out)
 hM:N<=4096
 has:∀ d b,f d=some b->2<=b/\b<N/\1<=cv out b
 val:∀ p,p∈out->2<=p.2/\p.2<N
 len:out.length+Kr<=200
 room:(Kr:Int)+c<=B.room
 pos:0<=c
theorem AE (n:Nat):∀ i,i<128->QO n i<=255:=fun i _=>m8 n i
theorem A2 (l:zL) (b:Nat):cv l b<=l.length:=List.countP_le_length
section
variable {N:Nat} {B:Bs} {f:Nat->Option Nat} {out:List (Nat × Nat)} {Kr:Nat} {c:Int}
theorem GI.up (g:GI N B f out (Kr+1) c) {k d b:Nat} (h:f d=some b):GI N (B.up (b:Int)) f (out++[(k,b)]) Kr c:=by
 obtain ⟨h2,hN,hc⟩:=g.has d b h;have hl:=g.gr.live_of h2 hN zo;have:=g.gr.now_le h2 hN hl;have:=A2 out b;have:=g.len;have hM:=g.hM;obtain ⟨-,u2,-,-,-,u6,-⟩:=g.gr.up hN hl zo;refine ⟨u2.pendc fun x _ _=>?_,g.hM,fun d' b' h'=>?_,fun p hp=>?_,by simp;omega,by rw [u6];have:=g.room;omega,g.pos⟩
 ·rw [QR,bS]
  by_cases e:x=b
  ·rw [if_pos e,if_pos e.symm]
  ·rw [if_neg e,if_neg (fun q=>e q.symm)];rfl
 ·have:=g.has d' b' h'
  rw [QR];omega
 ·rcases yx.1 hp with hp | hp
  ·exact g.val p hp
  ·rw [zms] at hp;subst hp;exact ⟨h2,hN⟩
theorem GI.new (g:GI N B f out (Kr+1) c) {d:Nat} (h:f d=none):0<B.room/\2<=B.at_/\B.at_<N/\GI N (B.put (QO d)) (gC f d B.at_) (out++[(k,B.at_)]) Kr c:=by
 have hr:0<B.room:=by have:=g.room;have:=g.pos;omega
 obtain ⟨d1,d2,d3,d4,d5,d6,d7,d8,d9,d10⟩:=g.gr.data hr (AE d);have:=g.len;refine ⟨hr,d4,d5,d1.pendc fun x _ _=>?_,g.hM,fun d' b' h'=>?_,fun p hp=>?_,by simp;omega,by rw [d8];have:=g.room;omega,g.pos⟩
 ·rw [QR,bS]
  by_cases e:x=B.at_
  ·rw [if_pos e,if_pos e.symm,e,d6]
  ·rw [if_neg e,if_neg (fun q=>e q.symm)];rfl
 ·unfold gC at h'
  rw [QR,bS];by_cases e:d'=d
  ·rw [if_pos e] at h'
   obtain rfl:=yj h';rw [if_pos rfl];exact ⟨d4,d5,zo⟩
  ·rw [if_neg e] at h'
   have:=g.has d' b' h';omega
 ·rcases yx.1 hp with hp | hp
  ·exact g.val p hp
  ·rw [zms] at hp;subst hp;exact ⟨d4,d5⟩
end
theorem gE {N:Nat} {c:Int} : ∀ (r:zL) (B:Bs) (f:Nat->Option Nat) (out:zL),GI N B f out r.length c ->
  ∃ f',GI N (Zo r B f).1 f' (out++(Zo r B f).2) 0 c/\(Zo r B f).2.map Prod.fst=r.map Prod.fst
 | [],B,f,out,g=>⟨f,by unfold Zo;rw [yY];exact g,rfl⟩
 | p::r,B,f,out,g=>by
  unfold Zo
  cases h:f p.2 with
  | some b =>
   obtain ⟨f',g',e⟩:=gE r (B.up (b:Int)) f (out++[(p.1,b)]) (g.up h);refine ⟨f',?_,by simp only [List.map_cons];rw [e]⟩;rw [zf] at g';exact g'
  | none =>
   obtain ⟨f',g',e⟩:=gE r (B.put (QO p.2)) (gC f p.2 B.at_) (out++[(p.1,B.at_)]) (g.new h).2.2.2;refine ⟨f',?_,by simp only [List.map_cons];rw [e]⟩;rw [zf] at g';exact g'
theorem VH {p:Nat × Nat} {r:zL} {f:Nat->Option Nat} :
  (∀ b,f p.2=some b->Zo (p::r) B f=((Zo r (B.up (b:Int)) f).1,(p.1,b)::(Zo r (B.up (b:Int)) f).2)) /\
  (f p.2=none->Zo (p::r) B f=((Zo r (B.put (QO p.2)) (gC f p.2 B.at_)).1,(p.1,B.at_)::(Zo r (B.put (QO p.2)) (gC f p.2 B.at_)).2)) :=
 ⟨fun b h=>by conv=>lhs;unfold Zo;rw [h],fun h=>by conv=>lhs;unfold Zo;rw [h]⟩
theorem AF (h:16<=N/\N<=4096):Gr N 1 (Bs.fmt N) jI (fun _=>0):=by
 obtain ⟨g1,g2,g3⟩:=Vw h;refine ⟨g1,fun n c hn=>(by cases hn),fun b _ _=>?_⟩;rw [g2,if_neg (fun h=>by cases h),yn];exact JS fun n _=>rfl
structure AG (N:Nat) (Dq items:zL) (B:Bs) (x:Nat):Prop where
 asc:Jw items
 u:Y4 items
 keys:items.map Prod.fst=(Yg Dq).map Prod.fst
 len:items.length<=Dq.length
 nil:items=[]->x=0/\Gr N 1 B jI (fun _=>0)
 cons:items≠[]->∃ ht c,tw N 1 jI (fun _=>0) items B x ht c
 val:∀ p,p∈items->2<=p.2/\p.2<N
 room:(Bs.fmt N).room - 2*Dq.length<=B.room
 kk:KK (Bs.fmt N) B
theorem tC {a b:zL} (h:a.map Prod.fst=b.map Prod.fst) (hb:Jw b):Jw a:=by
 unfold Jw at hb ⊢;have h1:=List.pairwise_map.2 hb;rw [<- h] at h1;exact List.pairwise_map.1 h1
noncomputable def xh (N:Nat) (Dq:zL):Bs × List (Nat × Nat):=Zo (Yg Dq) (Bs.fmt N) (fun _=>none)
theorem jJ (hN:16<=N/\N<=4096) (hu:Y4 Dq) (E8:Dq.length<=200) (hr:2*(Dq.length:Int)+2<=(Bs.fmt N).room) :
  GI N (Bs.fmt N) (fun _=>none) [] (Yg Dq).length ((Bs.fmt N).room - Dq.length):=by
 have:=(aw hu).2.2.1;exact ⟨(AF hN).pendc fun b _ _=>rfl,hN.2,fun d b h=>(by cases h),fun p hp=>(by cases hp),by simp;omega,zo,zo⟩
theorem KK.put (B:Bs) (f:zF):KK B (B.put f):=⟨rfl,rfl⟩
theorem KK.lvl (leaf:Bool) (l:zL) (B:Bs):∀ i,KK B (xp leaf l B i).1
 | 0=>KK.refl B
 | i+1=>by unfold xp;exact (KK.lvl leaf l B i).trans (KK.put _ _)
theorem KK.bld:∀ (f k:Nat) (l:zL) (B:Bs),KK B (ZJ f k l B).1
 | 0,_,_,B=>KK.refl B
 | f+1,k,l,B=>by
  unfold ZJ
  split
  ·exact KK.lvl _ _ _ _
  ·exact (KK.lvl _ _ _ _).trans (KK.bld f _ _ _)
theorem KK.grw:∀ (r:zL) (B:Bs) (f:Nat->Option Nat),KK B (Zo r B f).1
 | [],B,_=>KK.refl B
 | p::r,B,f=>by
  rw [Zo]
  split
  ·exact (KK.up _ _).trans (KK.grw r _ _)
  ·exact (KK.put _ _).trans (KK.grw r _ _)
theorem A3 (hN:16<=N/\N<=4096) (hu:Y4 Dq) (E8:Dq.length<=200) (hr:2*(Dq.length:Int)+2<=(Bs.fmt N).room) :
  Jw (xh N Dq).2/\Y4 (xh N Dq).2/\(xh N Dq).2.length=(Yg Dq).length/\qy N 1 (xh N Dq).1/\((xh N Dq).2.length:Int)+1<=2*(xh N Dq).1.room /\
  ∀ B x,((xh N Dq).2≠[]->(B,x)=ZJ 8 0 (xh N Dq).2 (xh N Dq).1)->((xh N Dq).2=[]->B=(xh N Dq).1/\x=0)->AG N Dq (xh N Dq).2 B x:=by
 obtain ⟨r1,r2,r3,r4,r5⟩:=aw hu;obtain ⟨f',g,hk⟩:=gE (Yg Dq) (Bs.fmt N) (fun _=>none) [] (jJ hN hu E8 hr);rw [yy] at g
 change GI N (xh N Dq).1 f' (xh N Dq).2 0 _ at g
 change (xh N Dq).2.map Prod.fst=_ at hk
 have B9:(xh N Dq).2.length=(Yg Dq).length:=by
  have:=congrArg List.length hk;simpa using this
 have ha:=tC hk r1
 have h64:Y4 (xh N Dq).2:=fun p hp=>by
  have h1:=g.val p hp;have hM:=g.hM;refine ⟨?_,zo⟩;have h2:p.1∈(xh N Dq).2.map Prod.fst:=List.mem_map_of_mem hp;rw [hk] at h2;obtain ⟨q,hq,e⟩:=yw.1 h2;rw [<- e];exact (r2 q hq).1
 have D7:=g.room;refine ⟨ha,h64,B9,g.gr.good,zo,fun B x h1 h0=>?_⟩;by_cases he:(xh N Dq).2=[]
 ·obtain ⟨rfl,rfl⟩:=h0 he
  refine ⟨ha,h64,hk,zo,fun _=>⟨rfl,?_⟩,fun q=>absurd he q,g.val,zo,KK.grw _ _ _⟩;have:=g.gr;rw [he] at this;exact this.pendc fun b _ _=>rfl
 ·have hb:=h1 he
  have hpos:1<=(xh N Dq).2.length:=by
   cases hq:(xh N Dq).2 with
   | nil=>exact absurd hq he
   | cons a b=>simp
  have I:BI N 1 0 (xh N Dq).2 (xh N Dq).2 (xh N Dq).1:=⟨g.gr.good,zo,hpos,.inl ⟨rfl,rfl,ha,h64⟩⟩
  obtain ⟨ht,c,t,Er⟩:=tx (p:=fun _=>0) hN.2 (items:=(xh N Dq).2) (m0:=(xh N Dq).2.length) zo 8 0 (xh N Dq).2 (xh N Dq).1 jI rfl I (BH.start hpos) (g.gr.pendc fun b _ _=>by show 0+cv _ b=_;omega) (fun q hq=>by
   rw [if_pos rfl];exact .inr ⟨(g.val q hq).1,(g.val q hq).2,rfl⟩)
  rw [<- hb] at t Er
  exact ⟨ha,h64,hk,zo,fun q=>absurd q he,fun _=>⟨ht,c,t⟩,g.val,by show _<=B.room;have:(xh N Dq).1.room - (xh N Dq).2.length<=B.room:=Er;omega,by
   have e:=KK.bld 8 0 (xh N Dq).2 (xh N Dq).1;rw [<- hb] at e;exact (KK.grw _ _ _).trans e⟩
def xG (l:List Nat):Nat->Nat:=fun b=>l.count b
theorem YS (l:List Nat) (y:Nat):xA (xG l) y=xG (l++[y]):=by
 funext b
 unfold xA xG;rw [List.count_append,List.count_singleton];by_cases e:b=y
 ·subst e;simp
 ·have e':¬ y=b:=fun q=>e q.symm
  simp [e,e']
theorem QT (l:List Nat) (b:Nat):xG l b<=l.length:=List.count_le_length
theorem Je {l:List Nat} (h:b∈l):1<=xG l b:=List.count_pos_iff.2 h
section
variable {N G:Nat} {B:Bs} {ht:Ht} {BR:Nat->Nat}
theorem jK (h:∀ i,i<d.n->d.v i≠b):xi d b=0:=by
 by_cases e:0<xi d b
 ·obtain ⟨i,hi,q⟩:=aq e
  exact absurd q (h i hi)
 ·omega
theorem X6 {c:Nat} (hN:x<N) (hx:ht x=some c) (hd:B.nodeI (x:Int)=some d) (b:Nat):xq B (zY ht x none) N b+xi d b=xq B ht N b:=by
 have:=qA (f:=zN B ht b) (g:=zN B (zY ht x none) b) (k:=x) (n:=N) hN (fun i _ hi=>by unfold zN;rw [zy hi]);have h0:zN B ht b x=xi d b:=by unfold zN;rw [hx,hd];rfl
 have h1:zN B (zY ht x none) b x=0:=by unfold zN;rw [zH];rfl
 rw [h0,h1] at this;unfold xq;omega
theorem Gr.detach (g:Gr N G B ht BR) {c:Nat} (hx:ht x=some c) (hd:B.nodeI (x:Int)=some d) (hz:xq B ht N x=0) :
  Gr N G B (zY ht x none) (fun b=>BR b+xi d b)/\xq B (zY ht x none) N x=0/\Zm N (zY ht x none) c d/\xi d x=0:=by
 obtain ⟨hN,hl,d0,Ez,nd⟩:=g.node x c hx;obtain rfl:d=d0:=yj (hd.symm.trans Ez);have EW:=X6 hN hx hd;have ho:xi d x=0:=g.refs_node hx hd hz;refine ⟨⟨g.good,fun n h hn=>?_,fun b b2 bN=>?_⟩,by have:=EW x;omega,nd.congr fun i hi=>zy fun q=>(zq (xK hi q)),ho⟩
 ·have e:n≠x:=fun q=>by rw [q,zH] at hn;cases hn
  rw [zy e] at hn;obtain ⟨a1,a2,d',a3,a4⟩:=g.node n h hn;refine ⟨a1,a2,d',a3,a4.congr fun i hi=>zy fun q=>?_⟩;have:=ZR (N:=N) a1 hn a3 x;have:=xK hi q;omega
 ·have h0:=g.ref b b2 bN
  have:=EW b;rw [<- h0]
  show BR b+xi d b+_=_
  omega
theorem Gr.relay (g:Gr N G B ht BR) (hN:x<N) (hl:B.live x=true) (hx:ht x=none) (hz:xq B ht N x=0) (Fa:(B.fr x).isSome=true) {f:zF} (hf:∀ i,i<128->f i<=255) (hd:Y2 f=some d) (nd:Zm N ht h d) (SS:xi d x=0) (hp:∀ b,2<=b->b<N->BR b=p b+xi d b) :
  Gr N G (B.over x f) (zY ht x (some h)) p/\(B.over x f).nodeI (x:Int)=some d/\(∀ n:Nat,n≠x->(B.over x f).nodeI (n:Int)=B.nodeI (n:Int))/\(B.over x f).room=B.room/\(∀ b,xq (B.over x f) (zY ht x (some h)) N b=xq B ht N b+xi d b):=by
 have h2:=g.two hl hN;have g2:=g.good.over_ Fa hf
 have Cp:(B.over x f).nodeI (x:Int)=some d:=by
  have:(B.over x f).nodeI (x:Int)=Y2 f:=by
   unfold Bs.nodeI;rw [if_pos (Qd.2 ⟨zo,by show (x:Int)<(B.T.n:Int);rw [g.good.n];omega⟩),yz];congr 1;unfold Bs.read Bs.over;simp
  rw [this,hd]
 have DH:∀ n:Nat,n≠x->(B.over x f).nodeI (n:Int)=B.nodeI (n:Int):=fun n hn=>QQ (B:=B) (B':=B.over x f) rfl (by unfold Bs.read Bs.over;simp [hn])
 have EW:∀ b,xq (B.over x f) (zY ht x (some h)) N b=xq B ht N b+xi d b:=fun b=>by
  have:=qA (f:=zN B ht b) (g:=zN (B.over x f) (zY ht x (some h)) b) (k:=x) (n:=N) hN (fun i _ hi=>by unfold zN;rw [zy hi,DH i hi]);have h0:zN B ht b x=0:=by unfold zN;rw [hx];rfl
  have h1:zN (B.over x f) (zY ht x (some h)) b x=xi d b:=by unfold zN;rw [zH,Cp];rfl
  rw [h0,h1] at this;unfold xq;omega
 refine ⟨⟨g2,fun n h' hn=>?_,fun b M3 Ij=>?_⟩,Cp,DH,rfl,EW⟩
 ·by_cases e:n=x
  ·subst e
   rw [zH] at hn;obtain rfl:h=h':=yj hn;exact ⟨hN,hl,d,Cp,nd.congr fun i hi=>zy fun q=>by have:=xK hi q;omega⟩
  ·rw [zy e] at hn
   obtain ⟨a1,a2,d',a3,a4⟩:=g.node n h' hn;refine ⟨a1,a2,d',by rw [DH n e];exact a3,a4.congr fun i hi=>zy fun q=>?_⟩;have h1:=ZR (N:=N) a1 hn a3 x;have h2':=xK hi q;omega
 ·have h0:=g.ref b M3 Ij
  have ME:=hp b M3 Ij;rw [EW]
  show p b+_=if B.live b=true then B.T.now b else 0
  omega
end
structure Ji (N G:Nat) (B:Bs) (ht:Ht) (BR:zF) (x c:Nat) (d:Nd) (y:Nat) (B1:Bs) (Ct:Ht) (P:zF) (B2:Bs) (Cg:Ht):Prop where
 own:qf N G B ht BR x c d y B1 Ct
 gr:Gr N G B2 Cg P
 kp:JY N B1 (zY Ct y none) B2 Cg (xA (xt BR x) y)
 one:P y=1
section
variable {N G:Nat} {B:Bs} {ht:Ht} {BR:Nat->Nat} {x c y:Nat} {d:Nd} {B1 B2:Bs} {Ct Cg:Ht} {P:Nat->Nat}
theorem qf.low (o:qf N G B ht BR x c d y B1 Ct):xt BR x y=0/\y<N/\B1.live y=true/\(B1.fr y).isSome=true/\2<=y:=by
 obtain ⟨hN,hl⟩:=o.gr.lt o.top;have h2:=o.gr.two hl hN;obtain ⟨_,_,hf,h1,_⟩:=Bs.isI_iff o.is;rw [o.gr.getV hN] at h1;rw [yz] at hf;have hr:=o.gr.ref y h2 hN;rw [hl,if_pos rfl,o.refs] at hr;unfold xA at hr;rw [if_pos rfl] at hr;exact ⟨zo,hN,hl,hf,h2⟩
theorem qf.work (o:qf N G B ht BR x c d y B1 Ct):Ji N G B ht BR x c d y B1 Ct (fun b=>xA (xt BR x) y b+xi d b) B1 (zY Ct y none)/\Zm N (zY Ct y none) c d:=by
 obtain ⟨a,b,nd,e⟩:=o.gr.detach o.top o.node o.refs;refine ⟨⟨o,a,JY.refl _ _ _ _,?_⟩,nd⟩
 show xA (xt BR x) y y+_=1
 unfold xA;rw [if_pos rfl,o.low.1,e]
theorem Ji.at_ (W:Ji N G B ht BR x c d y B1 Ct P B2 Cg):y<N/\B2.live y=true/\Cg y=none/\xq B2 Cg N y=0/\(B2.fr y).isSome=true/\B2.nodeI (y:Int)=some d/\B2.isI (y:Int)=true:=by
 obtain ⟨l0,hN,hl,hf,h2⟩:=W.own.low;have hr:=(W.own.gr.detach W.own.top W.own.node W.own.refs).2.1;obtain ⟨a1,a2,a3,a4,a5⟩:=W.kp.lone y hN hl zH hr (by unfold xA;rw [if_pos rfl];omega);have hd:B2.nodeI (y:Int)=some d:=a3.trans W.own.node;have hf2:(B2.fr y).isSome=true:=by rw [a4];exact hf
 refine ⟨hN,a2,a1,a5,hf2,hd,W.gr.isI_of hN hf2 ?_ hd⟩;have:=W.gr.ref y h2 hN;rw [a2,if_pos rfl,a5,W.one] at this;omega
theorem Ji.next (W:Ji N G B ht BR x c d y B1 Ct P B2 Cg) {B3:Bs} {DB:Ht} {Q:zF} (g:Gr N G B3 DB Q) (k:JY N B2 Cg B3 DB p) (hp:∀ b,1<=xA (xt BR x) y b->1<=p b) (h1:Q y=1):Ji N G B ht BR x c d y B1 Ct Q B3 DB :=
 ⟨W.own,g,W.kp.trans k hp,h1⟩
structure wQ (N G:Nat) (B:Bs) (ht:Ht) (BR:zF) (x c y:Nat) (d':Nd) (B2:Bs) (Cg:Ht) (p:zF) (B3:Bs) (DB:Ht):Prop where
 gr:Gr N G B3 DB p
 top:DB y=some c
 node:B3.nodeI (y:Int)=some d'
 refs:xq B3 DB N y=0
 kp:JY N B ht B3 DB (xt BR x)
 room:B3.room=B2.room
 n:B3.T.n=B2.T.n
 keep:∀ r k,Cg r=some k->DB r=some k/\xV B2 B3 (k % 100) r r
 rest:∀ n:Nat,n≠y->B3.nodeI (n:Int)=B2.nodeI (n:Int)
theorem Ji.lay (W:Ji N G B ht BR x c d y B1 Ct P B2 Cg) {f:zF} (hf:∀ i,i<128->f i<=255) (hd:Y2 f=some d') (nd:Zm N Cg c d') (hp:∀ b,2<=b->b<N->P b=p b+xi d' b) (h1:1<=p y) (hv:∀ b,1<=xt BR x b->Cg b=none->xq B2 Cg N b=0->xi d' b=0) :
  wQ N G B ht BR x c y d' B2 Cg p (B2.over y f) (zY Cg y (some c)):=by
 obtain ⟨yN,yl,yh,yr,yf,yd,yi⟩:=W.at_;obtain ⟨l0,_,_,_,h2⟩:=W.own.low;have SS:xi d' y=0:=by have:=hp y h2 yN;have:=W.one;omega
 obtain ⟨g3,n3,k3,r3,f3⟩:=W.gr.relay yN yl yh yr yf hf hd nd SS hp;have BU:∀ r k,Cg r=some k->r≠y:=fun r k h q=>by rw [q,yh] at h;cases h
 have keep:∀ r k,Cg r=some k->zY Cg y (some c) r=some k/\xV B2 (B2.over y f) (k % 100) r r:=fun r k h =>
  ⟨by rw [zy (BU r k h)];exact h,W.gr.tree (by rw [g3.good.n,W.gr.good.n]) W.gr.refs_one (fun n hn _=>k3 n (fun q=>by rw [q,yh] at hn;cases hn)) h (W.gr.ne1 h)⟩
 refine ⟨g3,zH,n3,by rw [f3,yr,SS],W.own.kp.trans (p':=xt BR x) ⟨fun r k hr F1=>?_,fun b bN bl bh br bp=>?_,fun n k hn=>?_,W.kp.kk,fun r k hr F1 b hb=>by
  have Gw:r≠y:=fun q=>by rw [q,l0] at F1;omega
  have e:=W.kp.nd r k zaw zat;obtain ⟨a1,a2⟩:=W.kp.tree r k zaw zat;refine Eq.trans ?_ (e b hb);obtain ⟨n,rfl,hn,-⟩:=W.gr.blks W.gr.refs_one k r a1 (W.gr.ne1 a1) b (by rw [Xc e];exact hb);exact k3 n (fun q=>by rw [q,yh] at hn;cases hn)⟩ (fun b h=>h),r3,rfl,keep,k3⟩
 ·have Gw:r≠y:=fun q=>by rw [q,l0] at F1;omega
  obtain ⟨a1,a2⟩:=W.kp.tree r k zaw zat;obtain ⟨b1,b2⟩:=keep r k a1;exact ⟨b1,a2.trans b2⟩
 ·have D5:b≠y:=fun q=>by rw [q,W.own.top] at bh;cases bh
  have:=X6 (N:=N) (by exact yN) W.own.top W.own.node b;obtain ⟨a1,a2,a3,a4,a5⟩:=W.kp.lone b bN bl (by rw [zy D5];exact bh) zo zat;refine ⟨by rw [zy D5];exact a1,a2,by rw [k3 b D5];exact a3,?_,by rw [f3,a5,hv b bp a1 a5]⟩
  show (if b=y then some f else B2.fr b)=B1.fr b
  rw [if_neg D5,a4]
 ·by_cases e:n=y
  ·subst e;rw [zH] at hn;exact ⟨_,W.own.top.trans hn⟩
  ·rw [zy e] at hn
   obtain ⟨m,hm⟩:=W.kp.sub n k hn;have Pc:m≠y:=fun q=>by rw [q,zH] at hm;cases hm
   rw [zy Pc] at hm;exact ⟨m,hm⟩
end
end Go.Proofs.YtegpiomkmfhadaaGreat
