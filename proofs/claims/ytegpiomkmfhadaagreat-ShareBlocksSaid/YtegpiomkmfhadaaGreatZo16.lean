/- Layer 13 in plain words: what find tell -/
import Derived.Test.YtegpiomkmfhadaaGreatZo15
import Derived.BigGuard
set_option linter.all false
set_option maxRecDepth 100000
set_option maxHeartbeats 20000000
namespace Go.Proofs.YtegpiomkmfhadaaGreat
variable {i lo least n base kb vb:Nat} {x:Int} {d:Nd} {A F:List Nat} {w:World} {a:Option Addr} {f:zF} {M:Bm} {B:Bs}
theorem qI {k:zF} {n:Nat} (h:ZA k n):∀ {i j:Nat},i<j->j<n->k i<k j
 | i,0,h1,_=>zo
 | i,j+1,h1,h2=>by
  have h3:=h (j+1) zo h2;rw [zg] at h3;by_cases e:i=j
  ·rw [e];exact h3
  ·have:=qI h (i:=i) (j:=j) zo zo
   omega
theorem mV {p:Nat->Bool} : ∀ {n:Nat},(∀ i j,i<j->j<n->p j=true->p i=true)->∀ i,i<n->(i<cnt n p↔p i=true)
 | 0,_,i,hi=>zo
 | n+1,h,i,hi=>by
  have ih:=mV (p:=p) (n:=n) (fun a b h1 h2=>h a b h1 zo);have:=Yj p n
  show i<cnt n p+(if p n then 1 else 0)↔_
  by_cases e:i=n
  ·subst e
   by_cases hp:p i=true
   ·have ha:cnt i p=i:=J9 fun j hj=>h j i hj zo hp
    rw [ha,if_pos hp];simp [hp]
   ·rw [if_neg hp]
    constructor
    ·intro q;omega
    ·intro q;exact absurd q hp
  ·have hi':i<n:=zo
   rw [<- ih i hi'];by_cases hp:p n=true
   ·have ha:cnt n p=n:=J9 fun j hj=>h j n hj zo hp
    rw [ha,if_pos hp];omega
   ·rw [if_neg hp];omega
def Nd.pos (d:Nd) (key:Nat):Nat:=cnt d.n fun i=>decide (d.k i<key)
def Nd.is (d:Nd) (key:Nat):Bool:=(List.range d.n).any fun i=>decide (d.k i=key)
def Nd.at_ (d:Nd) (key:Nat):Nat:=if d.leaf=false/\d.is key=false/\0<d.pos key then d.pos key - 1 else d.pos key
def Nd.items (d:Nd):List (Nat × Nat):=(List.range d.n).map fun i=>(d.k i,d.v i)
def Nd.hi (d:Nd) (hi i:Nat):Nat:=if i+1<d.n then d.k (i+1) - 1 else hi
def Qs (v:Nat):Int:=((min v 2147483647:Nat):Int)
section
variable {d:Nd} (h:d.Ok) {key:Nat}
include h
theorem Nd.Ok.pos_iff (hi:i<d.n):i<d.pos key↔d.k i<key:=by
 have:=mV (p:=fun i=>decide (d.k i<key)) (n:=d.n) (fun a b h1 h2 q=>by
  have:=qI h.asc h1 h2;simp only [decide_eq_true_eq] at q ⊢;omega) i hi
 simpa [Nd.pos] using this
omit h in
theorem Nd.pos_le (d:Nd) (key:Nat):d.pos key<=d.n:=Yj _ _
theorem Nd.Ok.is_iff:d.is key=true↔d.pos key<d.n/\d.k (d.pos key)=key:=by
 unfold Nd.is;rw [List.any_eq_true];constructor
 ·rintro ⟨i,hi,e⟩
  rw [ye] at hi;simp only [decide_eq_true_eq] at e;have h1:¬ i<d.pos key:=by rw [h.pos_iff hi];omega
  have h2:d.pos key<=i:=zo;have hn:d.pos key<d.n:=zo;refine ⟨hn,?_⟩
  have:¬ d.k (d.pos key)<key:=fun q=>by
   have:=(h.pos_iff (key:=key) hn).2 q;omega
  by_cases e2:d.pos key=i
  ·rw [e2];exact e
  ·have:=qI h.asc (i:=d.pos key) (j:=i) zo hi
   omega
 ·rintro ⟨h1,h2⟩
  exact ⟨_,ye.2 h1,by simp [h2]⟩
theorem Nd.Ok.at_lt (hl:d.leaf=false) (hn:0<d.n):d.at_ key<d.n/\(0<d.at_ key->d.k (d.at_ key)<=key)/\(∀ j,d.at_ key<j->j<d.n->key<d.k j):=by
 have Dl:=d.pos_le key;unfold Nd.at_
 cases hi:d.is key with
 | true =>
  rw [if_neg zaa];have:=h.is_iff.1 hi;refine ⟨this.1,fun _=>zo,fun j h1 h2=>?_⟩;have:=qI h.asc h1 h2;omega
 | false =>
  have hni:¬ (d.pos key<d.n/\d.k (d.pos key)=key):=fun q=>by rw [h.is_iff.2 q] at hi;cases hi
  by_cases h0:0<d.pos key
  ·rw [if_pos ⟨hl,rfl,h0⟩]
   refine ⟨zo,fun _=>?_,fun j h1 h2=>?_⟩
   ·have:=(h.pos_iff (key:=key) (i:=d.pos key - 1) zo).1 zo
    omega
   ·have h3:¬ d.k j<key:=fun q=>by have:=(h.pos_iff (key:=key) h2).2 q;omega
    by_cases e:d.k j=key
    ·have:d.is key=true:=by
      unfold Nd.is;rw [List.any_eq_true];exact ⟨j,ye.2 h2,by simp [e]⟩
     rw [this] at hi;cases hi
    ·omega
  ·rw [if_neg (by simp [h0])]
   refine ⟨zo,fun q=>zo,fun j h1 h2=>?_⟩;have h3:¬ d.k j<key:=fun q=>by have:=(h.pos_iff (key:=key) h2).2 q;omega
   by_cases e:d.k j=key
   ·have:d.is key=true:=by
     unfold Nd.is;rw [List.any_eq_true];exact ⟨j,ye.2 h2,by simp [e]⟩
    rw [this] at hi;cases hi
   ·omega
end
def QL (B:Bs) (key:Nat):Nat->Int->Nat × Bool × Int
 | 0,x=>if x=0 then (0,false,0) else (0,false,130)
 | f+1,x=>if x=0 then (0,false,0) else match B.nodeI x with
  | none=>(0,false,B.nodeE x)
  | some d=>if d.leaf then (if d.is key then (d.v (d.pos key),true,0) else (0,false,0)) else QL B key f (Qs (d.v (d.at_ key)))
def xT (B:Bs) (lo hi:Nat):Nat->Int->List ((Nat × Nat) × Int)
 | 0,x=>match B.nodeI x with
  | none=>[((0,0),B.nodeE x)]
  | some _=>[((0,0),130)]
 | f+1,x=>match B.nodeI x with
  | none=>[((0,0),B.nodeE x)]
  | some d=>(List.range d.n).flatMap fun i=>if hi<d.k i then [] else if d.leaf then (if lo<=d.k i then [((d.k i,d.v i),0)] else [])
   else if i+1=d.n∨lo<d.k (i+1) then xT B lo hi f (Qs (d.v i)) else []
def xM (B:Bs):Nat->Int->Nat × Int
 | 0,x=>if x=0 then (0,0) else match B.nodeI x with
  | none=>(0,B.nodeE x)
  | some _=>(0,130)
 | f+1,x=>if x=0 then (0,0) else match B.nodeI x with
  | none=>(0,B.nodeE x)
  | some d=>if d.leaf then (1,0) else if (xM B f (Qs (d.v 0))).2=0 then ((xM B f (Qs (d.v 0))).1+1,0) else (0,(xM B f (Qs (d.v 0))).2)
def zG (B:Bs):Nat->Int->Nat->Nat->Nat->Bool
 | 0,x,lo,hi,least=>match B.nodeI x with
  | none=>false
  | some d=>decide (least<=d.n)&&(d.leaf&&(List.range d.n).all fun i=>decide (lo<=d.k i/\d.k i<=hi))
 | h+1,x,lo,hi,least=>match B.nodeI x with
  | none=>false
  | some d=>decide (least<=d.n)&&(!d.leaf&&(List.range d.n).all fun i=>decide (lo<=d.k i/\d.k i<=hi)&&(decide (2<=d.v i/\d.v i<B.T.n)&&zG B h (d.v i:Int) (d.k i) (d.hi hi i) 3))
def zR (B:Bs):Nat->Int->List (Nat × Nat)
 | 0,x=>match B.nodeI x with
  | none=>[]
  | some d=>d.items
 | h+1,x=>match B.nodeI x with
  | none=>[]
  | some d=>(List.range d.n).flatMap fun i=>zR B h (d.v i:Int)
def z9 (B:Bs):Nat->Int->List Int
 | 0,x=>[x]
 | h+1,x=>match B.nodeI x with
  | none=>[x]
  | some d=>x::(List.range d.n).flatMap fun i=>z9 B h (d.v i:Int)
section
variable {B:Bs}
theorem qX {hi:Nat} (h:zG B 0 x lo hi least=true):∃ d,B.nodeI x=some d/\d.leaf=true/\least<=d.n/\zR B 0 x=d.items/\∀ i,i<d.n->lo<=d.k i/\d.k i<=hi:=by
 unfold zG at h
 cases hd:B.nodeI x with
 | none=>rw [hd] at h;cases h
 | some d =>
  rw [hd] at h;simp only [Bool.and_eq_true,decide_eq_true_eq,yQ,ye] at h;exact ⟨d,rfl,h.2.1,h.1,by unfold zR;rw [hd],fun i hi=>h.2.2 i hi⟩
structure AY (B:Bs) (h:Nat) (x:Int) (lo hi least:Nat) (d:Nd):Prop where
 node:B.nodeI x=some d
 leaf:d.leaf=false
 least:least<=d.n
 all:zR B (h+1) x=(List.range d.n).flatMap fun i=>zR B h (d.v i:Int)
 bd:∀ i,i<d.n->lo<=d.k i/\d.k i<=hi
 kid:∀ i,i<d.n->2<=d.v i/\d.v i<B.T.n
 right:∀ i,i<d.n->zG B h (d.v i:Int) (d.k i) (d.hi hi i) 3=true
theorem qB {h:Nat} {hi:Nat} (hr:zG B (h+1) x lo hi least=true):∃ d,AY B h x lo hi least d:=by
 unfold zG at hr
 cases hd:B.nodeI x with
 | none=>rw [hd] at hr;cases hr
 | some d =>
  rw [hd] at hr;simp only [Bool.and_eq_true,decide_eq_true_eq,yQ,ye,Bool.not_eq_true'] at hr;exact ⟨d,hd,hr.2.1,hr.1,by show (match B.nodeI x with | none=>[] | some d=>_)=_;rw [hd],fun i hi=>(hr.2.2 i hi).1,fun i hi=>(hr.2.2 i hi).2.1,fun i hi=>(hr.2.2 i hi).2.2⟩
theorem XW {h:Nat} {hi:Nat} (hr:zG B h x lo hi least=true):2<=x/\x<(B.T.n:Int)/\∃ d,B.nodeI x=some d/\least<=d.n:=by
 have key:∀ d,B.nodeI x=some d->2<=x/\x<(B.T.n:Int):=fun d hd=>by
  unfold Bs.nodeI at hd
  split at hd
  ·rename_i e;exact Qd.1 e
  ·cases hd
 cases h with
 | zero=>obtain ⟨d,h1,h2,h3,_⟩:=qX hr;exact ⟨(key d h1).1,(key d h1).2,d,h1,h3⟩
 | succ h=>obtain ⟨d,I⟩:=qB hr;exact ⟨(key d I.node).1,(key d I.node).2,d,I.node,I.least⟩
theorem ai {v:Nat} (h:v<4097):Qs v=(v:Int):=by unfold Qs;rw [Nat.min_eq_left zo]
theorem Xt (hd:d.Ok) {j p hi:Nat} (DP:i<j) (hj:j<d.n) (hp:p<=d.hi hi i):p<d.k j:=by
 unfold Nd.hi at hp;rw [if_pos zo] at hp;have:=qI hd.asc (i:=i) (j:=i+1) zo zo;by_cases e:i+1=j
 ·subst e;omega
 ·have:=qI hd.asc (i:=i+1) (j:=j) zo hj
  omega
theorem wI {hi:Nat} (hb:∀ i,i<d.n->lo<=d.k i/\d.k i<=hi):d.hi hi i<=hi:=by
 unfold Nd.hi
 split
 ·have:=hb (i+1) zau;omega
 ·exact xd _
theorem Y3 (ok:B.Ok):∀ {h:Nat} {x:Int} {lo hi least:Nat},zG B h x lo hi least=true->(∀ p,p∈zR B h x->lo<=p.1/\p.1<=hi)/\(zR B h x).Pairwise (fun p q=>p.1<q.1)
 | 0,x,lo,hi,least,hr=>by
  obtain ⟨d,h1,h2,h3,h4,h5⟩:=qX hr;have hd:=(ok.node_ok h1).1;rw [h4];unfold Nd.items;refine ⟨fun p hp=>?_,?_⟩
  ·obtain ⟨i,hi,rfl⟩:=yw.1 hp
   exact h5 i (ye.1 hi)
  ·rw [List.pairwise_map]
   refine List.Pairwise.imp_of_mem ?_ List.pairwise_lt_range;intro i j hi hj DP;exact qI hd.asc DP (ye.1 hj)
 | h+1,x,lo,hi,least,hr=>by
  obtain ⟨d,I⟩:=qB hr;have hd:=(ok.node_ok I.node).1;rw [I.all];refine ⟨fun p hp=>?_,?_⟩
  ·obtain ⟨i,hi',hp⟩:=yH.1 hp
   have hi':=ye.1 hi';have:=(Y3 ok (I.right i hi')).1 p hp;have h1:=I.bd i hi';have h2:=wI (i:=i) I.bd;omega
  ·rw [List.pairwise_flatMap]
   refine ⟨fun i hi'=>(Y3 ok (I.right i (ye.1 hi'))).2,?_⟩;refine List.Pairwise.imp_of_mem ?_ List.pairwise_lt_range;intro i j hi' hj DP p hp q hq;have h1:=(Y3 ok (I.right i (ye.1 hi'))).1 p hp;have h2:=(Y3 ok (I.right j (ye.1 hj))).1 q hq;have:=Xt hd DP (ye.1 hj) h1.2;omega
def wJ (l:zL) (key:Nat) (r:Nat × Bool × Int):Prop:=(∃ v,(key,v)∈l/\r=(v,true,0))∨((∀ v,(key,v)∉l)/\r=(0,false,0))
theorem eC (ok:B.Ok) {key:Nat} : ∀ {h f:Nat} {x:Int} {lo hi least:Nat},zG B h x lo hi least=true->h<f->1<=least->wJ (zR B h x) key (QL B key f x)
 | 0,f+1,x,lo,hi,least,hr,hf,hl=>by
  obtain ⟨d,h1,h2,h3,h4,h5⟩:=qX hr;have hd:=(ok.node_ok h1).1;have hx:x≠0:=zq (XW hr)
  rw [h4];unfold QL;rw [if_neg hx,h1];simp only [h2,if_true]
  cases hi:d.is key with
  | true =>
   have:=hd.is_iff.1 hi;refine .inl ⟨d.v (d.pos key),?_,zaa⟩;unfold Nd.items;exact yw.2 ⟨d.pos key,ye.2 this.1,by rw [this.2]⟩
  | false =>
   refine .inr ⟨fun v hm=>?_,zaa⟩;unfold Nd.items at hm;obtain ⟨i,hi',e⟩:=yw.1 hm;injection e with e1 e2
   have:d.is key=true:=by
    unfold Nd.is;rw [List.any_eq_true];exact ⟨i,hi',by simp [e1]⟩
   rw [this] at hi;cases hi
 | h+1,f+1,x,lo,hi,least,hr,hf,hl=>by
  obtain ⟨d,I⟩:=qB hr;have hd:=(ok.node_ok I.node).1;have hx:x≠0:=zq (XW hr)
  have hn:0<d.n:=zq I.least;obtain ⟨a1,a2,a3⟩:=hd.at_lt (key:=key) I.leaf hn;have ih:=eC ok (key:=key) (f:=f) (I.right _ a1) zo zo;have hk:=I.kid _ a1;have hN:=ok.n;rw [<- ai zo] at ih
  have eg:QL B key (f+1) x=QL B key f (Qs (d.v (d.at_ key))):=by
   rw [QL,if_neg hx,I.node];simp only [I.leaf,Bool.false_eq_true,if_false]
  rw [eg,I.all];have ek:Qs (d.v (d.at_ key))=(d.v (d.at_ key):Int):=ai zo;rw [ek] at ih ⊢;rcases ih with ⟨v,h1,h2⟩ | ⟨h1,h2⟩
  ·exact .inl ⟨v,yH.2 ⟨_,ye.2 a1,h1⟩,h2⟩
  ·refine .inr ⟨fun v hm=>?_,h2⟩
   obtain ⟨j,hj,hm⟩:=yH.1 hm;have hj:=ye.1 hj;have hb:=(Y3 ok (I.right j hj)).1 _ hm;by_cases e:j=d.at_ key
   ·subst e;exact h1 v hm
   ·by_cases BY:j<d.at_ key
    ·have:=Xt hd BY a1 hb.2
     have:=a2 zo;simp only at *;omega
    ·have:=a3 j zo hj
     simp only at *;omega
theorem eE {α β:Type} (p:β->Bool) (f:α->β):∀ l:List α,(l.flatMap fun i=>if p (f i) then [f i] else [])=(l.map f).filter p
 | []=>rfl
 | a::r=>by
  rw [List.flatMap_cons,List.map_cons,List.filter_cons,eE p f r]
  split <;> rfl
theorem xu {α β:Type} {f g:α->List β} {l:List α} (h:∀ a,a∈l->f a=g a):l.flatMap f=l.flatMap g:=by
 rw [List.flatMap_def,List.flatMap_def,yU h]
theorem OI (ok:B.Ok) {IZ hi':Nat} : ∀ {h f:Nat} {x:Int} {lo hi least:Nat},zG B h x lo hi least=true->h<f->xT B IZ hi' f x=((zR B h x).filter fun p=>decide (IZ<=p.1)&&decide (p.1<=hi')).map fun p=>(p,0)
 | 0,f+1,x,lo,hi,least,hr,hf=>by
  obtain ⟨d,h1,h2,h3,h4,h5⟩:=qX hr;rw [h4];unfold xT Nd.items;rw [h1];simp only [h2,if_true];rw [<- eE (fun p:Nat × Nat=>decide (IZ<=p.1)&&decide (p.1<=hi')) (fun i=>(d.k i,d.v i)),List.map_flatMap];refine xu fun i hi=>?_;by_cases e1:hi'<d.k i
  ·rw [if_pos e1,if_neg zae];rfl
  ·rw [if_neg e1]
   by_cases e2:IZ<=d.k i
   ·rw [if_pos e2,if_pos zae];rfl
   ·rw [if_neg e2,if_neg zae];rfl
 | h+1,f+1,x,lo,hi,least,hr,hf=>by
  obtain ⟨d,I⟩:=qB hr;have hd:=(ok.node_ok I.node).1;have hN:=ok.n;rw [I.all,xT,I.node];simp only [I.leaf,Bool.false_eq_true,if_false];rw [List.filter_flatMap,List.map_flatMap];refine xu fun i hi=>?_;have hi:=ye.1 hi;have hk:=I.kid i hi;have hb:=(Y3 ok (I.right i hi)).1;by_cases e1:hi'<d.k i
  ·rw [if_pos e1,List.filter_eq_nil_iff.2 (fun p hp=>by have:=hb p hp;simp;omega)];rfl
  ·rw [if_neg e1]
   by_cases e2:i+1=d.n∨IZ<d.k (i+1)
   ·rw [if_pos e2,ai zo,OI ok (I.right i hi) zo]
   ·rw [if_neg e2,List.filter_eq_nil_iff.2 (fun p hp=>by
     have:=hb p hp;have h2:=Xt hd (show i<i+1 by omega) zo this.2;simp;omega)];rfl
theorem Qe (ok:B.Ok):∀ {h f:Nat} {x:Int} {lo hi least:Nat},zG B h x lo hi least=true->h<f->1<=least->xM B f x=(h+1,0)
 | 0,f+1,x,lo,hi,least,hr,hf,hl=>by
  obtain ⟨d,h1,h2,h3,h4,h5⟩:=qX hr;have hx:x≠0:=zq (XW hr);rw [xM,if_neg hx,h1];simp only [h2,if_true]
 | h+1,f+1,x,lo,hi,least,hr,hf,hl=>by
  obtain ⟨d,I⟩:=qB hr;have hx:x≠0:=zq (XW hr);have:=ok.n;have hn:0<d.n:=zq I.least
  have:=I.kid 0 hn;rw [xM,if_neg hx,I.node];simp only [I.leaf,Bool.false_eq_true,if_false];rw [ai zo,Qe ok (I.right 0 hn) zo zo];rfl
theorem Qf {B':Bs} (hn:B'.T.n=B.T.n):∀ {h:Nat} {x:Int} {lo hi least:Nat},(∀ b,b∈z9 B h x->B'.nodeI b=B.nodeI b)->zG B' h x lo hi least=zG B h x lo hi least/\zR B' h x=zR B h x/\z9 B' h x=z9 B h x
 | 0,x,lo,hi,least,hb=>by
  have e:=hb x (by simp [z9]);refine ⟨?_,?_,rfl⟩
  ·unfold zG;rw [e]
  ·unfold zR;rw [e]
 | h+1,x,lo,hi,least,hb=>by
  have e:=hb x (by unfold z9;cases B.nodeI x <;> simp);unfold zG zR z9;rw [e]
  cases hd:B.nodeI x with
  | none=>exact ⟨rfl,rfl,rfl⟩
  | some d =>
   have key:∀ i,i<d.n->∀ lo hi least,zG B' h (d.v i:Int) lo hi least=zG B h (d.v i:Int) lo hi least/\zR B' h (d.v i:Int)=zR B h (d.v i:Int)/\z9 B' h (d.v i:Int)=z9 B h (d.v i:Int):=fun i hi lo hi' least =>
    Qf hn fun b hm=>hb b (by unfold z9;rw [hd];exact zco _ (yH.2 ⟨i,ye.2 hi,hm⟩))
   refine ⟨?_,?_,?_⟩
   ·show (decide (least<=d.n)&&(!d.leaf&&(List.range d.n).all _))=(decide (least<=d.n)&&(!d.leaf&&(List.range d.n).all _))
    congr 2;rw [Bool.eq_iff_iff,yQ,yQ];constructor
    ·intro q i hi
     have:=q i hi;rw [hn,(key i (ye.1 hi) _ _ _).1] at this;exact this
    ·intro q i hi
     have:=q i hi;rw [hn,(key i (ye.1 hi) _ _ _).1];exact this
   ·exact xu fun i hi=>(key i (ye.1 hi) 0 0 0).2.1
   ·exact congrArg (x :: ·) (xu fun i hi=>(key i (ye.1 hi) 0 0 0).2.2)
end
open Go.RowKit
theorem zT.cap {A:List Nat} {w:World} {v:Value} {n:Nat} {f:zF} (h:zT A w v n f):∃ a cap,v = .slice a n cap/\n<=cap/\cap<=9223372036854775807:=by
 rcases h with ⟨⟨a,c,h,hc,_⟩,rfl⟩ | ⟨b,off,cap,h,h2,h3,_⟩
 ·unfold maxLen at hc;exact ⟨a,c,h,yg _,zo⟩
 ·unfold maxLen at h3;exact ⟨_,_,h,h2,zo⟩
theorem zT.get {m cap:Nat} (h:zT A w (.slice a m cap) n f) (hi:i<n) :
  ∃ b off,a=some ⟨b,off,none⟩/\b<w.heap.size/\b∉A/\Zi w b off n f:=by
 rcases h with ⟨_,h0⟩ | ⟨b,off,c,h1,h2,h3,h4,h5,h6⟩
 ·omega
 ·injection h1 with h1 _ _
  exact ⟨b,off,h1,h4,h5,h6⟩
theorem zQ.numsIn {g:Nat} (h:zQ w g n f) (hn:n<=100000) (hA:g∉A) (hf:∀ i,i<n->f i<18446744073709551616):zT A w (zS g n n) n f :=
 .inr ⟨g,0,n,rfl,xd _,by unfold maxLen;omega,h.lt,hA,fun i hi=>⟨by rw [yn];exact h.cell hi,hf i hi⟩⟩
theorem bq (hd:d.Ok) {c:Nat} (h:zT A w (.slice a d.n c) d.n d.k) (key:Nat) (hk:key<18446744073709551616) :
  zC 108 #[.slice a d.n c,.int .u64 (key:Int)] w fun e w'=>e = .returned (.tuple #[.int .i64 (d.pos key:Int),.bool (d.is key)])/\w=w':=by
 have n7:=hd.n;obtain ⟨n,hn⟩:=zE d.n;rw [<- hn] at h n7 ⊢
 have hcap:n<=c/\c<=9223372036854775807:=by
  obtain ⟨a',c',e,h1,h2⟩:=h.cap;injection e with e1 e2 e3;subst e3;exact ⟨h1,h2⟩
 have hc:∀ i,i<n->∃ g o,a=some ⟨g,o,none⟩/\w.cell? ⟨g,o+i,none⟩=some (.int .u64 (d.k i:Int)):=fun i hi=>by
  obtain ⟨g,o,e,_,_,hN⟩:=h.get hi;exact ⟨g,o,e,(hN i hi).1⟩
 have hp:∀ i,i<n->(i<d.pos key↔d.k i<key):=fun i hi=>hd.pos_iff zo;have ST:d.pos key<=n:=by rw [hn];exact d.pos_le key
 have his:d.is key=true↔d.pos key<n/\d.k (d.pos key)=key:=by rw [hn];exact hd.is_iff
 obtain ⟨p0,Pe⟩:=zE (d.pos key);obtain ⟨b0,DW⟩:=zE (d.is key);rw [<- Pe] at hp ST his ⊢;rw [<- DW] at his ⊢;have HC:=zh hc;have HP:=zh (zA hp (zA ST his));obtain ⟨hcap1,hcap2⟩:=hcap;clear h hc hp ST his Pe DW hn hd;go_enter Tryz.func108,Tryz.ntmps108;go_wp2_with fail
 go_loopw [7,8] (fun i j wr=>∃ p q:Nat,i = .int .i64 (p:Int)/\j = .int .i64 (q:Int)/\p<=p0/\p0<=q/\q<=n/\w=wr) (fun i j _=>(intOf j).toNat - (intOf i).toNat)
 case atStart=>exact ⟨0,n,rfl,rfl,yg _,HP.2.1,xd _,rfl⟩
 case round =>
  obtain ⟨p,q,rfl,rfl,ED,FH,hq,rfl⟩:=hrel;by_cases BY:p<q
  ·obtain ⟨g,o,rfl,BX⟩:=HC ((p+q) / 2) zo
   have e1:IntKind.u64.wrap ((p:Int)+(q:Int))=((p+q:Nat):Int):=by rw [IntKind.wrap_u64];omega
   have e2:((p+q:Nat):Int) / 2=(((p+q) / 2:Nat):Int):=zo;have hm:=HP.1 ((p+q) / 2) zo;obtain ⟨m,Fx⟩:=zE ((p+q) / 2);rw [<- Fx] at BX hm;have e3:(p+q) / 2=m:=Fx.symm;obtain ⟨y,hy⟩:=zE (d.k m);rw [<- hy] at BX hm;have HM:=zh hm;have:m<n:=zo
   have:p<=m/\m<q:=zo;clear hy hm;rw [e3] at e2;clear Fx;have cl:=dY (y:Int) (key:Int) w;by_cases hlt2:y<key
   ·rw [yq zo] at cl
    go_wp2_with fail;refine zm (cl) ?_;go_wp2_with fail
    go_roundw
    case rel=>exact ⟨m+1,q,zac,rfl,by have:=HM.2 hlt2;omega,FH,hq,trivial⟩
    case measure=>simp [intOf];omega
   ·rw [yC zo] at cl
    go_wp2_with fail;refine zm (cl) ?_;go_wp2_with fail
    go_roundw
    case rel=>exact ⟨p,m,rfl,zac,ED,by rcases Nat.lt_or_ge m p0 with q | q;exact absurd (HM.1 q) hlt2;exact q,zo,trivial⟩
    case measure=>simp [intOf];omega
  ·obtain rfl:p=q:=zo
   obtain rfl:p=p0:=zo;by_cases F0:p<n
   ·obtain ⟨g,o,rfl,BX⟩:=HC p F0
    have his:=HP.2.2;obtain ⟨y,hy⟩:=zE (d.k p);rw [<- hy] at BX his;have HY:=zh his;clear hy his
    have cn:zC 158 #[.int .u64 (y:Int)] w fun e w'=>e = .returned (.bool false)/\w=w':=by
     go_enter Tryz.func158,Tryz.ntmps158;go_wp2_with fail;go_ret;simp
    by_cases No:y=key
    ·subst No
     have hb:b0=true:=HY.2 ⟨F0,rfl⟩;subst hb;go_wp2_with fail
     go_ret2
     exact ⟨rfl,rfl⟩
    ·have hx':¬ (y:Int)=(key:Int):=zo
     have hb:b0=false:=by
      cases hb:b0 with
      | false=>rfl
      | true=>exact absurd (HY.1 hb).2 No
     subst hb;go_wp2_with (go_at_call 158;refine zm cn ?_)
     go_ret2
     exact ⟨by simp [hx'],rfl⟩
   ·obtain rfl:p=n:=zo
    have hb:b0=false:=by
     cases hb:b0 with
     | false=>rfl
     | true=>exact absurd (HP.2.2.1 hb).1 zo
    subst hb;go_wp2_with fail
    go_ret2
    exact ⟨rfl,rfl⟩
def rightN (leaf:Bool) (nk nv:Nat) (keys:zF):Bool:=decide (nk=nv)&&(decide (nk<=7)&&((leaf||decide (nk≠0))&&iW keys nk))
theorem Xa {leaf:Bool} {vk vv:Value} {nk nv:Nat} {keys vals:zF} (hk:zT A w vk nk keys) (hv:zT A w vv nv vals) :
  zC 107 #[.agg #[.bool leaf,vk,vv]] w fun e w'=>e = .returned (.bool (rightN leaf nk nv keys))/\zv [] w w':=by
 have De:=hk;obtain ⟨a,c,rfl,ck1,ck2⟩:=hk.cap;obtain ⟨a2,c2,rfl,cv1,cv2⟩:=hv.cap;have hW:=(zv.refl [] w).alloc (.cells #[.bool leaf,.slice a nk c,.slice a2 nv c2] 42);have hX:=xo w (.cells #[.bool leaf,.slice a nk c,.slice a2 nv c2] 42)
 have hc:∀ i,i<nk->∃ g o,a=some ⟨g,o,none⟩/\(w.alloc (.cells #[.bool leaf,.slice a nk c,.slice a2 nv c2] 42)).cell? ⟨g,o+i,none⟩=some (.int .u64 (keys i:Int)):=fun i hi=>by
  obtain ⟨g,o,e,_,_,hN⟩:=(De.chg hW).get hi;exact ⟨g,o,e,(hN i hi).1⟩
 have HC:=zh hc;have HW:=zh hW;obtain ⟨r,hr⟩:=zE (rightN leaf nk nv keys);have HR:=zh hr;rw [<- hr];unfold rightN at HR;clear hk hv De hc hr hW;have hs:w.heap.size<(w.alloc (.cells #[.bool leaf,.slice a nk c,.slice a2 nv c2] 42)).heap.size:=zaa
 go_enter Tryz.func107,Tryz.ntmps107;go_upto_region 1 with fail;obtain ⟨x0,x1,x2⟩:=Za hX;generalize w.alloc (.cells #[.bool leaf,.slice a nk c,.slice a2 nv c2] 42)=W at *;by_cases e1:nk=nv
 case neg =>
  have i1:¬ (nk:Int)=(nv:Int):=zo;go_wp2_with fail;go_ret;refine ⟨by rw [HR.o,yC e1];rfl,HW⟩
 subst e1;by_cases e2:nk<=7
 case neg =>
  have i1:(7:Int)<(nk:Int):=zo;go_wp2_with fail;go_ret;refine ⟨by rw [HR.o,yC e2];simp,HW⟩
 have:¬ (7:Int)<(nk:Int):=zo;by_cases e3:leaf=false/\nk=0
 ·obtain ⟨rfl,rfl⟩:=e3
  go_wp2_with fail;go_ret;exact ⟨by rw [HR.o];simp,HW⟩
 have hcut:leaf=true∨(leaf=false/\¬ (nk:Int)=0):=by
  cases leaf with
  | true=>exact .inl rfl
  | false=>exact .inr ⟨rfl,fun e=>e3 ⟨rfl,zo⟩⟩
 have er:r=iW keys nk:=by
  rw [HR.o,yq rfl,yq e2]
  cases leaf with
  | true=>simp
  | false =>
   have h0:nk≠0:=fun e=>e3 ⟨rfl,e⟩;simp [h0]
 have HER:=zh er;clear HR e3 er;rcases hcut with rfl | ⟨rfl,i3⟩
 all_goals
  go_wp2_with fail
  go_loopw [31] (fun s wr=>∃ i:Nat,s = .int .i64 (i:Int)/\i<=nk/\ZA keys i/\zv [] W wr) (fun s _=>nk - (intOf s).toNat)
  case atStart=>exact ⟨0,rfl,yg _,fun i h1 h2=>zo,zv.refl _ _⟩
  case round =>
   obtain ⟨i,rfl,hi,hA,hC⟩:=hrel;have:=hC.ce x1 hs;have HA:=zh hA;have DQ:=zh hC;by_cases Cm:i<nk
   ·obtain ⟨kb,ko,rfl,BX⟩:=HC i Cm
    have BX:=(hC.cell (yc _ _ BX) zaa).trans BX;clear hA hC;by_cases h0:i=0
    ·subst h0
     have hd:decide ((0:Int)<((0:Nat):Int))=false:=rfl;go_wp2_with fail
     go_quiet (fail)
     go_wp2_with fail
     go_roundw
     case rel=>exact ⟨1,zac,zo,fun i h1 h2=>zo,DQ.drewN _⟩
     case measure=>simp [intOf];omega
    ·obtain ⟨q,hq⟩:∃ q,i=q+1:=⟨i - 1,zo⟩
     subst hq;obtain ⟨kb',ko',e',I7⟩:=HC q zo;injection e' with e';injection e' with e1 e2;subst e1 e2;have I7:=(DQ.cell (yc _ _ I7) zaa).trans I7;have:(0:Int)<(q:Int)+1:=zo
     have:(q:Int)+1<(nk:Int):=zo;have:(0:Int)<=(q:Int):=zo;have:(q:Int)<(nk:Int):=zo
     have e2:IntKind.i64.wrap ((q:Int)+1 - 1)=(q:Int):=by
      rw [show (q:Int)+1 - 1=(q:Int) by omega];exact yv _ zo
     by_cases BY:keys q<keys (q+1)
     ·have hd:decide (keys (q+1)<=keys q)=false:=by simp;omega
      have UD:=zh BY;clear BY;go_wp2_with fail
      go_quiet (fail)
      go_wp2_with fail
      go_roundw
      case rel =>
       refine ⟨q+2,zac,zo,fun j h1 h2=>?_,DQ.drewN _⟩;by_cases e:j=q+1
       ·subst e;exact UD.o
       ·exact HA j h1 zo
      case measure=>simp [intOf];omega
     ·have hd:decide (keys (q+1)<=keys q)=true:=by simp;omega
      have EW:r=false:=by
       rw [HER.o]
       cases hb:iW keys nk with
       | false=>rfl
       | true=>exact absurd ((Ya _ _).1 hb (q+1) zo Cm) BY
      have HRF:=zh EW;clear BY EW;go_wp2_with fail
      go_quiet (fail)
      go_wp2_with fail;go_ret;exact ⟨by rw [HRF.o];rfl,HW.trans (DQ.drewN _)⟩
   ·obtain rfl:i=nk:=zo
    have Nl:r=true:=by rw [HER.o];exact (Ya _ _).2 HA.o
    have HRF:=zh Nl;clear hA hC Nl;go_wp2_with fail;go_ret;exact ⟨by rw [HRF.o];rfl,HW.trans DQ⟩
theorem Nd.Ok.rightN {d:Nd} (h:d.Ok):rightN d.leaf d.n d.n d.k=true:=by
 unfold Proofs.YtegpiomkmfhadaaGreat.rightN;rw [yq rfl,yq h.n,(Ya _ _).2 h.asc]
 cases hl:d.leaf with
 | true=>rfl
 | false =>
  have:=(qs _ _).1 (h.kids hl);have h0:d.n≠0:=zo
  simp [h0]
theorem gj (hd:d.Ok) {a2:Option Addr} {c c2:Nat} (hk:zT A w (.slice a d.n c) d.n d.k) (hv:zT A w (.slice a2 d.n c2) d.n d.v) (key:Nat) (Ch:key<18446744073709551616) :
  zC 59 #[.agg #[.bool d.leaf,.slice a d.n c,.slice a2 d.n c2],.int .u64 (key:Int)] w fun e w'=>e = .returned (.tuple #[.int .i64 (d.at_ key:Int),.bool (d.is key),.int .i64 0])/\zv [] w w':=by
 have hW:=(zv.refl [] w).alloc (.cells #[.bool d.leaf,.slice a d.n c,.slice a2 d.n c2] 42);have hX:=xo w (.cells #[.bool d.leaf,.slice a d.n c,.slice a2 d.n c2] 42);have cr:=Xa (hk.chg hW) (hv.chg hW) (leaf:=d.leaf);rw [hd.rightN] at cr;have HK:=zh (zA (hk.chg hW) hW);have CR:=zh cr;have hs:w.heap.size<(w.alloc (.cells #[.bool d.leaf,.slice a d.n c,.slice a2 d.n c2] 42)).heap.size:=zaa
 have hp:=d.pos_le key;have:=hd.n;have PI:∀ w1,zv [] (w.alloc (.cells #[.bool d.leaf,.slice a d.n c,.slice a2 d.n c2] 42)) w1->zC 108 #[.slice a d.n c,.int .u64 (key:Int)] w1 fun e w'=>e = .returned (.tuple #[.int .i64 (d.pos key:Int),.bool (d.is key)])/\w1=w':=fun w1 hc=>bq hd (HK.1.chg hc) key Ch;obtain ⟨r,hr⟩:=zE (d.at_ key);rw [<- hr];unfold Nd.at_ at hr;obtain ⟨p,T4⟩:=zE (d.pos key);obtain ⟨b,hbe⟩:=zE (d.is key);obtain ⟨lf,hlf⟩:=zE d.leaf;rw [<- T4] at hr PI hp;rw [<- hbe] at hr PI ⊢;rw [<- hlf] at hr PI CR HK hX hs ⊢;have HR:=zh hr;have Tr:=zh PI;clear cr hk hv hW hr T4 hbe hlf PI;go_enter Tryz.func59,Tryz.ntmps59;go_upto_region 1 with fail;obtain ⟨x0,x1,x2⟩:=Za hX;generalize w.alloc (.cells #[.bool lf,.slice a d.n c,.slice a2 d.n c2] 42)=W at *;clear hX;go_wp2_with fail;refine CR.mono ?_;clear CR;rintro e w1 ⟨rfl,B5⟩;have:=B5.ce x0 hs;have:=B5.ce x1 hs;have cb:=Tr w1 B5;have HC:=zh (HK.2.trans B5);clear x0 x1 x2 B5;go_wp2_with fail;refine zm (cb) ?_;clear cb;by_cases hh:lf=false/\b=false/\0<p
 ·have e:=HR.o
  rw [if_pos hh] at e;obtain ⟨rfl,rfl,Pe⟩:=hh;obtain ⟨q,rfl⟩:∃ q,p=q+1:=⟨p - 1,zo⟩;obtain rfl:r=q:=zo;have:(0:Int)<(r:Int)+1:=zo
  have:IntKind.i64.wrap ((r:Int)+1 - 1)=(r:Int):=by
   rw [show (r:Int)+1 - 1=(r:Int) by omega];exact yv _ zo
  clear e;go_wp2_with fail
  go_ret3
  exact ⟨rfl,HC⟩
 ·have e:=HR.o
  rw [if_neg hh] at e;subst e;clear HR
  cases lf with
  | true =>
   go_wp2_with fail
   go_ret3
   exact ⟨rfl,HC⟩
  | false =>
   cases b with
   | true =>
    go_wp2_with fail
    go_ret3
    exact ⟨rfl,HC⟩
   | false =>
    have Pe:r=0:=by
     by_cases e:0<r
     ·exact absurd ⟨rfl,rfl,e⟩ hh
     ·omega
    subst Pe;go_wp2_with fail
    go_ret3
    exact ⟨rfl,HC⟩
theorem ln (v:Nat) (hv:v<18446744073709551616) (w:World):zC 60 #[.int .u64 (v:Int)] w fun e w'=>e = .returned (.int .i64 (Qs v))/\w=w':=by
 unfold Qs;by_cases h:v<=2147483647
 ·have e1:min (v:Int) 2147483647=(v:Int):=zo
  have:IntKind.i64.wrap (v:Int)=(v:Int):=yv _ zo;go_enter Tryz.func60,Tryz.ntmps60;go_wp2_with fail;go_ret;exact ⟨by rw [Nat.min_eq_left h];rfl,rfl⟩
 ·have e1:min (v:Int) 2147483647=2147483647:=zo
  go_enter Tryz.func60,Tryz.ntmps60;go_wp2_with fail;go_ret;exact ⟨by rw [Nat.min_eq_right zo];rfl,rfl⟩
structure bu (w:World) (base x kb vb:Nat) (d:Nd):Prop where
 ok:d.Ok
 top:w.heap[x]?=some (.cells #[.bool d.leaf,zS kb d.n d.n,zS vb d.n d.n] 42 (0,0))
 k:zQ w kb d.n d.k
 v:zQ w vb d.n d.v
 far:base<=x/\base<=kb/\base<=vb
theorem bu.chg {w w':World} {base x kb vb:Nat} {d:Nd} {L:List Nat} (h:bu w base x kb vb d) (c:zv L w w') (hL:∀ q,q∈L->q<base∨w.heap.size<=q:=by simp):bu w' base x kb vb d:=by
 have a1:=zz h.top;have:=h.k.lt;have:=h.v.lt;have n1:x∉L:=fun hm=>by have:=hL _ hm;have:=h.far;omega
 have n2:kb∉L:=fun hm=>by have:=hL _ hm;have:=h.far;omega
 have n3:vb∉L:=fun hm=>by have:=hL _ hm;have:=h.far;omega
 exact ⟨h.ok,(c.block _ a1 n1).trans h.top,h.k.chg c n2,h.v.chg c n3,h.far⟩
theorem bu.ki {x:Nat} (h:bu w base x kb vb d):zT [] w (zS kb d.n d.n) d.n d.k:=h.k.numsIn (zq h.ok.n) zaa h.ok.k
theorem bu.vi {x:Nat} (h:bu w base x kb vb d):zT [] w (zS vb d.n d.n) d.n d.v:=h.v.numsIn (zq h.ok.n) zaa h.ok.v
theorem bu.c {x:Nat} (h:bu w base x kb vb d):w.cell? ⟨x,0,none⟩=some (.bool d.leaf)/\w.cell? ⟨x,1,none⟩=some (zS kb d.n d.n)/\w.cell? ⟨x,2,none⟩=some (zS vb d.n d.n):=⟨(zM h.top 0).trans rfl,(zM h.top 1).trans rfl,(zM h.top 2).trans rfl⟩
theorem ZQ.box {w1 w2:World} (hd:d.Ok) (k1:w.heap.size<=kb) (k2:w.heap.size<=vb) (r1:zQ w1 kb d.n d.k) (r2:zQ w1 vb d.n d.v) (c:zv [] w w1)
  (hx:w2.heap[w1.heap.size]?=some (.cells #[.bool d.leaf,zS kb d.n d.n,zS vb d.n d.n] 42 (0,0))) (c2:zv [w1.heap.size] w1 w2):bu w2 w.heap.size w1.heap.size kb vb d :=
 ⟨hd,hx,r1.chg c2 (by have:=r1.lt;simp only [zms];omega),r2.chg c2 (by have:=r2.lt;simp only [zms];omega),c.size,k1,k2⟩
theorem mW (h:zx w M F B) (x:Int) (hx:(Lit.int .i64 x).wf=true) (key:Nat) (Ch:key<18446744073709551616) :
  zC 26 #[zP M.b,.int .i64 x,.int .u64 (key:Int)] w fun e w'=>e = .returned (.tuple #[.int .u64 ((QL B key 8 x).1:Int),.bool (QL B key 8 x).2.1,.int .i64 (QL B key 8 x).2.2])/\zv [] w w':=by
 have cb:=h.cBlocks;have hN:16<=B.T.n/\B.T.n<=4096:=by obtain ⟨R,hi,_⟩:=h;exact hi.c.ok.n
 have ok:B.Ok:=by obtain ⟨R,hi,_⟩:=h;exact hi.c.ok
 have:¬ B.T.n=0:=zo;have HB:=zh h;obtain ⟨r,hr⟩:=zE (QL B key 8 x);rw [<- hr];have HR:=zh hr;have D3:=zh ok;clear h hr ok hN;go_enter Tryz.func26,Tryz.ntmps26;go_wp2_with fail;refine zm (cb) ?_;clear cb;go_wp2_with fail;have hz:((B.T.n:Int)==0)=false:=by rw [yD];omega
 rw [hz];go_loopg [9,10] 9 (fun gg s l wr=>∃ (y:Int) (f:Nat),gg=f+1/\f<=8/\s = .int .i64 y/\l = .int .i64 ((8 - f:Nat):Int)/\Hd (QL B key f y=r/\zv [] w wr))
 case atStart=>exact ⟨x,8,rfl,zo,rfl,rfl,zh ⟨HR.symm,zv.refl _ _⟩⟩
 case round =>
  obtain ⟨y,f,rfl,hf,rfl,rfl,H⟩:=hrel;by_cases hy:y=0
  ·subst hy
   have hr:r=(0,false,0):=by
    rw [<- H.1];cases f <;> (unfold QL;rw [if_pos rfl])
   subst hr;go_wp2_with fail
   go_ret3
   exact ⟨rfl,H.2⟩
  ·have:(y==0)=false:=by simpa using hy
   cases f with
   | zero =>
    have hr:r=(0,false,130):=by
     rw [<- H.1];unfold QL;rw [if_neg hy]
    subst hr;go_wp2_with fail
    go_ret3
    exact ⟨rfl,H.2⟩
   | succ f =>
    have:¬ (((8 - (f+1):Nat):Int)=8):=zo;have:(((7 - f:Nat):Int)+1)=((8 - f:Nat):Int):=zo;have cn:=(HB.chg H.2).cNode y;go_wp2_with fail;refine cn.mono ?_;clear cn;rintro e w1 (⟨d,kb,vb,hd,rfl,k1,k2,k3,r1,r2,B5⟩ | ⟨hd,rfl,B5⟩)
    ·have D6:=(D3.node_ok hd).1
     have Cv:=xo w1 (.cells #[.bool d.leaf,zS kb d.n d.n,zS vb d.n d.n] 42);have Cn:=(zv.refl [] w1).alloc (.cells #[.bool d.leaf,zS kb d.n d.n,zS vb d.n d.n] 42);have Cp:=ZQ.box D6 k1 k2 r1 r2 B5 Cv (Cn.mo);have ca:=gj D6 Cp.ki Cp.vi key Ch;have Ed:=zh Cp;have HC:=zh ((H.2.trans B5).trans Cn);have Pq:=zz Cv;obtain ⟨y0,y1,y2⟩:=Cp.c;have CA:=zh ca;have HD:=zh hd;clear ca Cp Cv Cn B5 r1 r2 hd k1 k2 k3;go_upto_region 10 with fail;generalize w1.alloc (.cells #[.bool d.leaf,zS kb d.n d.n,zS vb d.n d.n] 42)=W at *;obtain ⟨xb,C5⟩:=zE w1.heap.size;rw [<- C5] at Ed Pq y0 y1 y2 ⊢;clear C5;go_wp2_with fail;refine CA.mono ?_;clear CA;rintro e w2 ⟨rfl,BW⟩;have DK:=zh (Ed.chg BW);have BZ:=zh (HC.trans BW);obtain ⟨z0,z1,z2⟩:=DK.c;have hr:=H.1;rw [QL,if_neg hy,HD.o] at hr;clear y0 y1 y2 BW Ed HC Pq
     cases hl:d.leaf with
     | true =>
      rw [hl] at z0;simp only [hl,if_true] at hr
      cases his:d.is key with
      | true =>
       have hp:=D6.is_iff.1 his;have DT:d.at_ key=d.pos key:=by unfold Nd.at_;rw [if_neg (by simp [hl])]
       rw [his,if_pos rfl] at hr;rw [DT];have hv:=DK.v.cell hp.1;have n7:=D6.n;obtain ⟨p,EL⟩:=zE (d.pos key);rw [<- EL] at hv hp hr ⊢;obtain ⟨u,hu⟩:=zE (d.v p);rw [<- hu] at hv hr;obtain ⟨n,hn⟩:=zE d.n;rw [<- hn] at z1 z2 hp n7;subst hr;have j1:(p:Int)<(n:Int):=zo
       clear EL hu hn DT;go_wp2_with fail
       go_ret3
       exact ⟨rfl,BZ⟩
      | false =>
       rw [his,if_neg zaf] at hr;subst hr;go_wp2_with fail
       go_ret3
       exact ⟨rfl,BZ⟩
     | false =>
      rw [hl] at z0;simp only [hl,Bool.false_eq_true,if_false] at hr
      have Ha:0<d.n:=by
       have:=(qs _ _).1 (D6.kids hl);omega
      have ha:=(D6.at_lt (key:=key) hl Ha).1;have hv:=DK.v.cell ha;have n7:=D6.n;have II:=D6.v _ ha;obtain ⟨p,EL⟩:=zE (d.at_ key);rw [<- EL] at hv ha hr II ⊢;obtain ⟨u,hu⟩:=zE (d.v p);rw [<- hu] at hv hr II;obtain ⟨n,hn⟩:=zE d.n;rw [<- hn] at z1 z2 ha n7;have j1:(p:Int)<(n:Int):=zo
      have ck:=ln u II w2;have Ej:=zh hr;clear EL hu hn hr;go_wp2_with fail;refine zm ck ?_;go_wp2_with fail;go_roundg (f+1)
      case measure=>omega
      case rel=>exact ⟨_,f,rfl,zo,rfl,zac,zh ⟨Ej.o,BZ⟩⟩
    ·have hr:r=(0,false,B.nodeE y):=by
      rw [<- H.1];unfold QL;rw [if_neg hy,hd]
     have BU:¬ B.nodeE y=0:=by unfold Bs.nodeE;split <;> decide
     have hE:(Lit.int .i64 (B.nodeE y)).wf=true:=by unfold Bs.nodeE;split <;> decide
     obtain ⟨E,KW⟩:=zE (B.nodeE y);rw [<- KW] at BU hr hE;subst hr;have HC:=zh (H.2.trans B5);rw [<- KW];clear B5 KW hd;go_wp2_with fail
     go_ret3
     exact ⟨rfl,HC.alloc _⟩
def kD (l:Nat) (r:Nat × Int):Nat × Int:=if r.2=0 then (l+r.1,0) else (0,r.2)
theorem lr : ∀ (f:Nat) (x:Int),(xM B f x).2≠0->(xM B f x).1=0
 | 0,x,h=>by
  unfold xM at h ⊢
  split
  ·rfl
  ·cases hd:B.nodeI x <;> simp
 | f+1,x,h=>by
  unfold xM at h ⊢
  split
  ·rfl
  ·rename_i hx
   rw [if_neg hx] at h
   cases hd:B.nodeI x with
   | none=>rfl
   | some d =>
    rw [hd] at h;simp only at h ⊢
    cases hl:d.leaf with
    | true=>rw [hl] at h;simp at h
    | false =>
     rw [hl] at h;simp only [Bool.false_eq_true,if_false] at h ⊢
     split
     ·rename_i q;rw [if_pos q] at h;exact absurd rfl h
     ·rfl
theorem sO (f:Nat) (x:Int):kD 0 (xM B f x)=xM B f x:=by
 unfold kD
 split
 ·rename_i h
  exact Prod.ext zaa h.symm
 ·rename_i h
  exact Prod.ext (lr f x h).symm rfl
theorem ls (h:zx w M F B) (x:Int) (hx:(Lit.int .i64 x).wf=true) :
  zC 101 #[zP M.b,.int .i64 x] w fun e w'=>e = .returned (.tuple #[.int .i64 ((xM B 8 x).1:Int),.int .i64 (xM B 8 x).2])/\zv [] w w':=by
 have cb:=h.cBlocks;have hN:16<=B.T.n/\B.T.n<=4096:=by obtain ⟨R,hi,_⟩:=h;exact hi.c.ok.n
 have ok:B.Ok:=by obtain ⟨R,hi,_⟩:=h;exact hi.c.ok
 have:¬ B.T.n=0:=zo;have HB:=zh h;obtain ⟨r,hr⟩:=zE (xM B 8 x);rw [<- hr];have HR:=zh hr;have D3:=zh ok;clear h hr ok hN;go_enter Tryz.func101,Tryz.ntmps101;go_wp2_with fail;refine zm (cb) ?_;clear cb;go_wp2_with fail;have hz:((B.T.n:Int)==0)=false:=by rw [yD];omega
 rw [hz];go_loopg [6,7] 10 (fun gg s l wr=>∃ (y:Int) (f:Nat),gg=f+2/\f<=8/\s = .int .i64 y/\l = .int .i64 ((8 - f:Nat):Int)/\Hd (kD (8 - f) (xM B f y)=r/\zv [] w wr))
 case atStart=>exact ⟨x,8,rfl,zo,rfl,rfl,zh ⟨by rw [HR.o];exact sO 8 x,zv.refl _ _⟩⟩
 case round =>
  obtain ⟨y,f,rfl,hf,rfl,rfl,H⟩:=hrel;by_cases hy:y=0
  ·subst hy
   have hr:r=(8 - f,0):=by
    rw [<- H.1];cases f <;> (unfold xM kD;rw [if_pos rfl];simp)
   subst hr;go_wp2_with fail
   go_ret2
   exact ⟨rfl,H.2⟩
  ·have:(y==0)=false:=by simpa using hy
   have cn:=(HB.chg H.2).cNode y;go_wp2_with fail;refine cn.mono ?_;clear cn;rintro e w1 (⟨d,kb,vb,hd,rfl,k1,k2,k3,r1,r2,B5⟩ | ⟨hd,rfl,B5⟩)
   ·have D6:=(D3.node_ok hd).1
    have Cv:=xo w1 (.cells #[.bool d.leaf,zS kb d.n d.n,zS vb d.n d.n] 42);have Cn:=(zv.refl [] w1).alloc (.cells #[.bool d.leaf,zS kb d.n d.n,zS vb d.n d.n] 42);have Cp:=ZQ.box D6 k1 k2 r1 r2 B5 Cv (Cn.mo);have HC:=zh ((H.2.trans B5).trans Cn)
    cases f with
    | zero =>
     have hr:r=(0,130):=by
      rw [<- H.1];unfold xM;rw [if_neg hy,hd];rfl
     subst hr;clear Cp Cv Cn B5 r1 r2 hd k1 k2 k3;go_wp2_with fail
     go_ret2
     exact ⟨rfl,HC⟩
    | succ f =>
     have:¬ (((8 - (f+1):Nat):Int)=8):=zo;have:(((7 - f:Nat):Int)+1)=((8 - f:Nat):Int):=zo;have cr:=Xa Cp.ki Cp.vi (leaf:=d.leaf);rw [D6.rightN] at cr;have Ed:=zh Cp;have Pq:=zz Cv;obtain ⟨y0,y1,y2⟩:=Cp.c;have CR:=zh cr;have HD:=zh hd;clear cr Cp Cv Cn B5 r1 r2 hd k1 k2 k3;go_upto_region 6 with fail;generalize w1.alloc (.cells #[.bool d.leaf,zS kb d.n d.n,zS vb d.n d.n] 42)=W at *;obtain ⟨xb,C5⟩:=zE w1.heap.size;rw [<- C5] at Ed Pq y0 y1 y2 ⊢;clear C5;go_wp2_with fail;refine CR.mono ?_;clear CR;rintro e w2 ⟨rfl,BW⟩;have DK:=zh (Ed.chg BW);have BZ:=zh (HC.trans BW);obtain ⟨z0,z1,z2⟩:=DK.c;have hr:=H.1;rw [xM,if_neg hy,HD.o] at hr;clear y0 y1 y2 BW Ed HC Pq
     cases hl:d.leaf with
     | true =>
      rw [hl] at z0;simp only [hl,if_true] at hr
      have Fk:r=(8 - f,0):=by
       rw [<- hr];unfold kD;rw [if_pos rfl];exact Prod.ext (by show 8 - (f+1)+1=8 - f;omega) rfl
      subst Fk;clear hr;go_wp2_with fail
      go_ret2
      exact ⟨rfl,BZ⟩
     | false =>
      rw [hl] at z0;simp only [hl,Bool.false_eq_true,if_false] at hr
      have Ha:0<d.n:=by
       have:=(qs _ _).1 (D6.kids hl);omega
      have hv:=DK.v.cell Ha;have n7:=D6.n;have II:=D6.v _ Ha;obtain ⟨u,hu⟩:=zE (d.v 0);rw [<- hu] at hv hr II;obtain ⟨n,hn⟩:=zE d.n;rw [<- hn] at z1 z2 Ha n7
      have Fk:kD (8 - f) (xM B f (Qs u))=r:=by
       rw [<- hr];unfold kD;by_cases q:(xM B f (Qs u)).2=0
       ·rw [if_pos q,if_pos q,if_pos rfl]
        exact Prod.ext (by show 8 - f+_=8 - (f+1)+(_+1);omega) rfl
       ·rw [if_neg q,if_neg q,if_neg q]
      have:(0:Int)<(n:Int):=zo;have ck:=ln u II w2;have Ej:=zh Fk;clear hu hn hr Fk;go_wp2_with fail;refine zm ck ?_;go_wp2_with fail;go_roundg (f+2)
      case measure=>omega
      case rel=>exact ⟨_,f,rfl,zo,rfl,zac,zh ⟨Ej.o,BZ⟩⟩
   ·have BU:¬ B.nodeE y=0:=by unfold Bs.nodeE;split <;> decide
    have hr:r=(0,B.nodeE y):=by
     rw [<- H.1];cases f <;> (unfold xM;rw [if_neg hy,hd];unfold kD;rw [if_neg BU])
    have hE:(Lit.int .i64 (B.nodeE y)).wf=true:=by unfold Bs.nodeE;split <;> decide
    obtain ⟨E,KW⟩:=zE (B.nodeE y);rw [<- KW] at BU hr hE;subst hr;have HC:=zh (H.2.trans B5);rw [<- KW];clear B5 KW hd;go_wp2_with fail
    go_ret2
    exact ⟨rfl,HC.alloc _⟩
def bz (B:Bs) (h:Nat) (d:Nd) (lo hi i:Nat):Bool:=decide (lo<=d.k i/\d.k i<=hi)&&(match h with
 | 0=>true
 | h'+1=>decide (2<=d.v i/\d.v i<B.T.n)&&zG B h' (d.v i:Int) (d.k i) (d.hi hi i) 3)
theorem i9 {h:Nat} {hi:Nat} (hd:B.nodeI x=none):zG B h x lo hi least=false:=by
 cases h <;> (unfold zG;rw [hd])
theorem OJ {h:Nat} {hi:Nat} (hd:B.nodeI x=some d):zG B h x lo hi least=(decide (least<=d.n)&&((d.leaf==decide (h=0))&&(List.range d.n).all fun i=>bz B h d lo hi i)):=by
 cases h with
 | zero =>
  unfold zG;rw [hd];simp [bz]
 | succ h =>
  unfold zG;rw [hd];cases hl:d.leaf <;> simp [bz,hl]
theorem JQ {h:Nat} {hi:Nat} (hd:B.nodeI x=some d) (h1:least<=d.n) (h2:(d.leaf==decide (h=0))=true) (h3:∀ i,i<d.n->bz B h d lo hi i=true):zG B h x lo hi least=true:=by
 rw [OJ hd,h2,yq h1];simpa using h3
end Go.Proofs.YtegpiomkmfhadaaGreat
