/- Layer 13 in plain words: what find tells of a tree. · catchmentlow.EqualNumbers, EqualNodes, AgainNumbers. -/
import Derived.Test.YtkhcaclndepgbaaGreatZg30
set_option linter.unusedVariables false
set_option linter.unusedSimpArgs false
set_option maxRecDepth 100000
set_option maxHeartbeats 20000000
namespace Go.Proofs.YtkhcaclndepgbaaGreat
theorem asc_lt {k:Nat→Nat} {n:Nat} (h:ascTo k n):∀ {i j:Nat},i<j→j<n→k i<k j
 | i,0,h1,_=>by omega
 | i,j+1,h1,h2=>by
  have h3:=h (j+1) (by omega) h2
  rw [Nat.add_sub_cancel] at h3
  by_cases e:i=j
  ·rw [e];exact h3
  ·have:=asc_lt h (i:=i) (j:=j) (by omega) (by omega)
   omega
theorem cnt_pre {p:Nat→Bool} : ∀ {n:Nat},(∀ i j,i<j→j<n→p j=true→p i=true)→∀ i,i<n→(i<cnt n p↔p i=true)
 | 0,_,i,hi=>by omega
 | n+1,h,i,hi=>by
  have ih:=cnt_pre (p:=p) (n:=n) (fun a b h1 h2=>h a b h1 (by omega))
  have hle:=cnt_le p n
  show i<cnt n p+(if p n then 1 else 0)↔_
  by_cases e:i=n
  ·subst e
   by_cases hp:p i=true
   ·have ha:cnt i p=i:=cnt_all fun j hj=>h j i hj (by omega) hp
    rw [ha,if_pos hp]
    simp [hp]
   ·rw [if_neg hp]
    constructor
    ·intro q;omega
    ·intro q;exact absurd q hp
  ·have hi':i<n:=by omega
   rw [← ih i hi']
   by_cases hp:p n=true
   ·have ha:cnt n p=n:=cnt_all fun j hj=>h j n hj (by omega) hp
    rw [ha,if_pos hp]
    omega
   ·rw [if_neg hp];omega
def Nd.pos (d:Nd) (key:Nat):Nat:=cnt d.n fun i=>decide (d.k i<key)
def Nd.is (d:Nd) (key:Nat):Bool:=(List.range d.n).any fun i=>decide (d.k i=key)
def Nd.at_ (d:Nd) (key:Nat):Nat:=if d.leaf=false∧d.is key=false∧0<d.pos key then d.pos key - 1 else d.pos key
def Nd.items (d:Nd):List (Nat × Nat):=(List.range d.n).map fun i=>(d.k i,d.v i)
def Nd.hi (d:Nd) (hi i:Nat):Nat:=if i+1<d.n then d.k (i+1) - 1 else hi
def kidI (v:Nat):Int:=((min v 2147483647:Nat):Int)
section
variable {d:Nd} (h:d.Ok) {key:Nat}
include h
theorem Nd.Ok.pos_iff {i:Nat} (hi:i<d.n):i<d.pos key↔d.k i<key:=by
 have:=cnt_pre (p:=fun i=>decide (d.k i<key)) (n:=d.n) (fun a b h1 h2 q=>by
  have:=asc_lt h.asc h1 h2
  simp only [decide_eq_true_eq] at q ⊢
  omega) i hi
 simpa [Nd.pos] using this
omit h in
theorem Nd.pos_le (d:Nd) (key:Nat):d.pos key≤d.n:=cnt_le _ _
theorem Nd.Ok.is_iff:d.is key=true↔d.pos key<d.n∧d.k (d.pos key)=key:=by
 unfold Nd.is
 rw [List.any_eq_true]
 constructor
 ·rintro ⟨i,hi,e⟩
  rw [List.mem_range] at hi
  simp only [decide_eq_true_eq] at e
  have h1:¬ i<d.pos key:=by rw [h.pos_iff hi];omega
  have h2:d.pos key≤i:=by omega
  have hn:d.pos key<d.n:=by omega
  refine ⟨hn,?_⟩
  have h3:¬ d.k (d.pos key)<key:=fun q=>by
   have:=(h.pos_iff (key:=key) hn).2 q
   omega
  by_cases e2:d.pos key=i
  ·rw [e2];exact e
  ·have:=asc_lt h.asc (i:=d.pos key) (j:=i) (by omega) hi
   omega
 ·rintro ⟨h1,h2⟩
  exact ⟨_,List.mem_range.2 h1,by simp [h2]⟩
theorem Nd.Ok.at_lt (hl:d.leaf=false) (hn:0<d.n):d.at_ key<d.n∧(0<d.at_ key→d.k (d.at_ key)≤key)∧(∀ j,d.at_ key<j→j<d.n→key<d.k j):=by
 have hle:=d.pos_le key
 unfold Nd.at_
 cases hi:d.is key with
 | true =>
  rw [if_neg (by simp)]
  have:=h.is_iff.1 hi
  refine ⟨this.1,fun _=>by omega,fun j h1 h2=>?_⟩
  have:=asc_lt h.asc h1 h2
  omega
 | false =>
  have hni:¬ (d.pos key<d.n∧d.k (d.pos key)=key):=fun q=>by rw [h.is_iff.2 q] at hi;cases hi
  by_cases h0:0<d.pos key
  ·rw [if_pos ⟨hl,rfl,h0⟩]
   refine ⟨by omega,fun _=>?_,fun j h1 h2=>?_⟩
   ·have:=(h.pos_iff (key:=key) (i:=d.pos key - 1) (by omega)).1 (by omega)
    omega
   ·have h3:¬ d.k j<key:=fun q=>by have:=(h.pos_iff (key:=key) h2).2 q;omega
    by_cases e:d.k j=key
    ·have:d.is key=true:=by
      unfold Nd.is
      rw [List.any_eq_true]
      exact ⟨j,List.mem_range.2 h2,by simp [e]⟩
     rw [this] at hi;cases hi
    ·omega
  ·rw [if_neg (by simp [h0])]
   refine ⟨by omega,fun q=>by omega,fun j h1 h2=>?_⟩
   have h3:¬ d.k j<key:=fun q=>by have:=(h.pos_iff (key:=key) h2).2 q;omega
   by_cases e:d.k j=key
   ·have:d.is key=true:=by
     unfold Nd.is
     rw [List.any_eq_true]
     exact ⟨j,List.mem_range.2 h2,by simp [e]⟩
    rw [this] at hi;cases hi
   ·omega
end
def getP (B:Bs) (key:Nat):Nat→Int→Nat × Bool × Int
 | 0,x=>if x=0 then (0,false,0) else (0,false,130)
 | f+1,x=>if x=0 then (0,false,0) else match B.nodeI x with
  | none=>(0,false,B.nodeE x)
  | some d=>if d.leaf then (if d.is key then (d.v (d.pos key),true,0) else (0,false,0)) else getP B key f (kidI (d.v (d.at_ key)))
def itemsP (B:Bs) (lo hi:Nat):Nat→Int→List ((Nat × Nat) × Int)
 | 0,x=>match B.nodeI x with
  | none=>[((0,0),B.nodeE x)]
  | some _=>[((0,0),130)]
 | f+1,x=>match B.nodeI x with
  | none=>[((0,0),B.nodeE x)]
  | some d=>(List.range d.n).flatMap fun i=>if hi<d.k i then [] else if d.leaf then (if lo≤d.k i then [((d.k i,d.v i),0)] else [])
   else if i+1=d.n∨lo<d.k (i+1) then itemsP B lo hi f (kidI (d.v i)) else []
def heightP (B:Bs):Nat→Int→Nat × Int
 | 0,x=>if x=0 then (0,0) else match B.nodeI x with
  | none=>(0,B.nodeE x)
  | some _=>(0,130)
 | f+1,x=>if x=0 then (0,0) else match B.nodeI x with
  | none=>(0,B.nodeE x)
  | some d=>if d.leaf then (1,0) else if (heightP B f (kidI (d.v 0))).2=0 then ((heightP B f (kidI (d.v 0))).1+1,0) else (0,(heightP B f (kidI (d.v 0))).2)
def rightP (B:Bs):Nat→Int→Nat→Nat→Nat→Bool
 | 0,x,lo,hi,least=>match B.nodeI x with
  | none=>false
  | some d=>decide (least≤d.n)&&(d.leaf&&(List.range d.n).all fun i=>decide (lo≤d.k i∧d.k i≤hi))
 | h+1,x,lo,hi,least=>match B.nodeI x with
  | none=>false
  | some d=>decide (least≤d.n)&&(!d.leaf&&(List.range d.n).all fun i=>decide (lo≤d.k i∧d.k i≤hi)&&(decide (2≤d.v i∧d.v i<B.T.n)&&rightP B h (d.v i:Int) (d.k i) (d.hi hi i) 3))
def allP (B:Bs):Nat→Int→List (Nat × Nat)
 | 0,x=>match B.nodeI x with
  | none=>[]
  | some d=>d.items
 | h+1,x=>match B.nodeI x with
  | none=>[]
  | some d=>(List.range d.n).flatMap fun i=>allP B h (d.v i:Int)
def blksP (B:Bs):Nat→Int→List Int
 | 0,x=>[x]
 | h+1,x=>match B.nodeI x with
  | none=>[x]
  | some d=>x::(List.range d.n).flatMap fun i=>blksP B h (d.v i:Int)
section
variable {B:Bs}
theorem right_leaf {x:Int} {lo hi least:Nat} (h:rightP B 0 x lo hi least=true):∃ d,B.nodeI x=some d∧d.leaf=true∧least≤d.n∧allP B 0 x=d.items∧∀ i,i<d.n→lo≤d.k i∧d.k i≤hi:=by
 unfold rightP at h
 cases hd:B.nodeI x with
 | none=>rw [hd] at h;cases h
 | some d =>
  rw [hd] at h
  simp only [Bool.and_eq_true,decide_eq_true_eq,List.all_eq_true,List.mem_range] at h
  exact ⟨d,rfl,h.2.1,h.1,by unfold allP;rw [hd],fun i hi=>h.2.2 i hi⟩
structure Inner (B:Bs) (h:Nat) (x:Int) (lo hi least:Nat) (d:Nd):Prop where
 node:B.nodeI x=some d
 leaf:d.leaf=false
 least:least≤d.n
 all:allP B (h+1) x=(List.range d.n).flatMap fun i=>allP B h (d.v i:Int)
 bd:∀ i,i<d.n→lo≤d.k i∧d.k i≤hi
 kid:∀ i,i<d.n→2≤d.v i∧d.v i<B.T.n
 right:∀ i,i<d.n→rightP B h (d.v i:Int) (d.k i) (d.hi hi i) 3=true
theorem right_inner {h:Nat} {x:Int} {lo hi least:Nat} (hr:rightP B (h+1) x lo hi least=true):∃ d,Inner B h x lo hi least d:=by
 unfold rightP at hr
 cases hd:B.nodeI x with
 | none=>rw [hd] at hr;cases hr
 | some d =>
  rw [hd] at hr
  simp only [Bool.and_eq_true,decide_eq_true_eq,List.all_eq_true,List.mem_range,Bool.not_eq_true'] at hr
  exact ⟨d,hd,hr.2.1,hr.1,by show (match B.nodeI x with | none=>[] | some d=>_)=_;rw [hd],fun i hi=>(hr.2.2 i hi).1,fun i hi=>(hr.2.2 i hi).2.1,fun i hi=>(hr.2.2 i hi).2.2⟩
theorem right_ge {h:Nat} {x:Int} {lo hi least:Nat} (hr:rightP B h x lo hi least=true):2≤x∧x<(B.T.n:Int)∧∃ d,B.nodeI x=some d∧least≤d.n:=by
 have key:∀ d,B.nodeI x=some d→2≤x∧x<(B.T.n:Int):=fun d hd=>by
  unfold Bs.nodeI at hd
  split at hd
  ·rename_i e;exact inI_iff.1 e
  ·cases hd
 cases h with
 | zero=>obtain ⟨d,h1,h2,h3,_⟩:=right_leaf hr;exact ⟨(key d h1).1,(key d h1).2,d,h1,h3⟩
 | succ h=>obtain ⟨d,I⟩:=right_inner hr;exact ⟨(key d I.node).1,(key d I.node).2,d,I.node,I.least⟩
theorem kidI_lt {v:Nat} (h:v<4097):kidI v=(v:Int):=by unfold kidI;rw [Nat.min_eq_left (by omega)]
theorem hi_next {d:Nd} (hd:d.Ok) {i j p hi:Nat} (hij:i<j) (hj:j<d.n) (hp:p≤d.hi hi i):p<d.k j:=by
 unfold Nd.hi at hp
 rw [if_pos (by omega)] at hp
 have h0:=asc_lt hd.asc (i:=i) (j:=i+1) (by omega) (by omega)
 by_cases e:i+1=j
 ·subst e;omega
 ·have:=asc_lt hd.asc (i:=i+1) (j:=j) (by omega) hj
  omega
theorem hi_le {d:Nd} {lo hi i:Nat} (hb:∀ i,i<d.n→lo≤d.k i∧d.k i≤hi):d.hi hi i≤hi:=by
 unfold Nd.hi
 split
 ·have:=hb (i+1) (by assumption);omega
 ·exact Nat.le_refl _
theorem all_bd (ok:B.Ok):∀ {h:Nat} {x:Int} {lo hi least:Nat},rightP B h x lo hi least=true→(∀ p,p∈allP B h x→lo≤p.1∧p.1≤hi)∧(allP B h x).Pairwise (fun p q=>p.1<q.1)
 | 0,x,lo,hi,least,hr=>by
  obtain ⟨d,h1,h2,h3,h4,h5⟩:=right_leaf hr
  have hd:=(ok.node_ok h1).1
  rw [h4]
  unfold Nd.items
  refine ⟨fun p hp=>?_,?_⟩
  ·obtain ⟨i,hi,rfl⟩:=List.mem_map.1 hp
   exact h5 i (List.mem_range.1 hi)
  ·rw [List.pairwise_map]
   refine List.Pairwise.imp_of_mem ?_ List.pairwise_lt_range
   intro i j hi hj hij
   exact asc_lt hd.asc hij (List.mem_range.1 hj)
 | h+1,x,lo,hi,least,hr=>by
  obtain ⟨d,I⟩:=right_inner hr
  have hd:=(ok.node_ok I.node).1
  rw [I.all]
  refine ⟨fun p hp=>?_,?_⟩
  ·obtain ⟨i,hi',hp⟩:=List.mem_flatMap.1 hp
   have hi':=List.mem_range.1 hi'
   have:=(all_bd ok (I.right i hi')).1 p hp
   have h1:=I.bd i hi'
   have h2:=hi_le (i:=i) I.bd
   omega
  ·rw [List.pairwise_flatMap]
   refine ⟨fun i hi'=>(all_bd ok (I.right i (List.mem_range.1 hi'))).2,?_⟩
   refine List.Pairwise.imp_of_mem ?_ List.pairwise_lt_range
   intro i j hi' hj hij p hp q hq
   have h1:=(all_bd ok (I.right i (List.mem_range.1 hi'))).1 p hp
   have h2:=(all_bd ok (I.right j (List.mem_range.1 hj))).1 q hq
   have:=hi_next hd hij (List.mem_range.1 hj) h1.2
   omega
def GetIs (l:List (Nat × Nat)) (key:Nat) (r:Nat × Bool × Int):Prop:=(∃ v,(key,v)∈l∧r=(v,true,0))∨((∀ v,(key,v)∉l)∧r=(0,false,0))
theorem get_right (ok:B.Ok) {key:Nat} : ∀ {h f:Nat} {x:Int} {lo hi least:Nat},rightP B h x lo hi least=true→h<f→1≤least→GetIs (allP B h x) key (getP B key f x)
 | 0,f+1,x,lo,hi,least,hr,hf,hl=>by
  obtain ⟨d,h1,h2,h3,h4,h5⟩:=right_leaf hr
  have hd:=(ok.node_ok h1).1
  have hx:x≠0:=by have:=right_ge hr;omega
  rw [h4]
  unfold getP
  rw [if_neg hx,h1]
  simp only [h2,if_true]
  cases hi:d.is key with
  | true =>
   have:=hd.is_iff.1 hi
   refine .inl ⟨d.v (d.pos key),?_,by simp⟩
   unfold Nd.items
   exact List.mem_map.2 ⟨d.pos key,List.mem_range.2 this.1,by rw [this.2]⟩
  | false =>
   refine .inr ⟨fun v hm=>?_,by simp⟩
   unfold Nd.items at hm
   obtain ⟨i,hi',e⟩:=List.mem_map.1 hm
   injection e with e1 e2
   have:d.is key=true:=by
    unfold Nd.is
    rw [List.any_eq_true]
    exact ⟨i,hi',by simp [e1]⟩
   rw [this] at hi;cases hi
 | h+1,f+1,x,lo,hi,least,hr,hf,hl=>by
  obtain ⟨d,I⟩:=right_inner hr
  have hd:=(ok.node_ok I.node).1
  have hx:x≠0:=by have:=right_ge hr;omega
  have hn:0<d.n:=by have:=I.least;omega
  obtain ⟨a1,a2,a3⟩:=hd.at_lt (key:=key) I.leaf hn
  have ih:=get_right ok (key:=key) (f:=f) (I.right _ a1) (by omega) (by omega)
  have hk:=I.kid _ a1
  have hN:=ok.n
  rw [← kidI_lt (by omega)] at ih
  have eg:getP B key (f+1) x=getP B key f (kidI (d.v (d.at_ key))):=by
   rw [getP,if_neg hx,I.node]
   simp only [I.leaf,Bool.false_eq_true,if_false]
  rw [eg,I.all]
  have ek:kidI (d.v (d.at_ key))=(d.v (d.at_ key):Int):=kidI_lt (by omega)
  rw [ek] at ih ⊢
  rcases ih with ⟨v,h1,h2⟩ | ⟨h1,h2⟩
  ·exact .inl ⟨v,List.mem_flatMap.2 ⟨_,List.mem_range.2 a1,h1⟩,h2⟩
  ·refine .inr ⟨fun v hm=>?_,h2⟩
   obtain ⟨j,hj,hm⟩:=List.mem_flatMap.1 hm
   have hj:=List.mem_range.1 hj
   have hb:=(all_bd ok (I.right j hj)).1 _ hm
   by_cases e:j=d.at_ key
   ·subst e;exact h1 v hm
   ·by_cases hlt:j<d.at_ key
    ·have:=hi_next hd hlt a1 hb.2
     have:=a2 (by omega)
     simp only at *
     omega
    ·have:=a3 j (by omega) hj
     simp only at *
     omega
theorem flat_pick {α β:Type} (p:β→Bool) (f:α→β):∀ l:List α,(l.flatMap fun i=>if p (f i) then [f i] else [])=(l.map f).filter p
 | []=>rfl
 | a::r=>by
  rw [List.flatMap_cons,List.map_cons,List.filter_cons,flat_pick p f r]
  split <;> rfl
theorem flat_congr {α β:Type} {f g:α→List β} {l:List α} (h:∀ a,a∈l→f a=g a):l.flatMap f=l.flatMap g:=by
 rw [List.flatMap_def,List.flatMap_def,List.map_congr_left h]
theorem items_right (ok:B.Ok) {lo' hi':Nat} : ∀ {h f:Nat} {x:Int} {lo hi least:Nat},rightP B h x lo hi least=true→h<f→itemsP B lo' hi' f x=((allP B h x).filter fun p=>decide (lo'≤p.1)&&decide (p.1≤hi')).map fun p=>(p,0)
 | 0,f+1,x,lo,hi,least,hr,hf=>by
  obtain ⟨d,h1,h2,h3,h4,h5⟩:=right_leaf hr
  rw [h4]
  unfold itemsP Nd.items
  rw [h1]
  simp only [h2,if_true]
  rw [← flat_pick (fun p:Nat × Nat=>decide (lo'≤p.1)&&decide (p.1≤hi')) (fun i=>(d.k i,d.v i)),List.map_flatMap]
  refine flat_congr fun i hi=>?_
  by_cases e1:hi'<d.k i
  ·rw [if_pos e1,if_neg (by simp;omega)];rfl
  ·rw [if_neg e1]
   by_cases e2:lo'≤d.k i
   ·rw [if_pos e2,if_pos (by simp;omega)];rfl
   ·rw [if_neg e2,if_neg (by simp;omega)];rfl
 | h+1,f+1,x,lo,hi,least,hr,hf=>by
  obtain ⟨d,I⟩:=right_inner hr
  have hd:=(ok.node_ok I.node).1
  have hN:=ok.n
  rw [I.all,itemsP,I.node]
  simp only [I.leaf,Bool.false_eq_true,if_false]
  rw [List.filter_flatMap,List.map_flatMap]
  refine flat_congr fun i hi=>?_
  have hi:=List.mem_range.1 hi
  have hk:=I.kid i hi
  have hb:=(all_bd ok (I.right i hi)).1
  by_cases e1:hi'<d.k i
  ·rw [if_pos e1,List.filter_eq_nil_iff.2 (fun p hp=>by have:=hb p hp;simp;omega)];rfl
  ·rw [if_neg e1]
   by_cases e2:i+1=d.n∨lo'<d.k (i+1)
   ·rw [if_pos e2,kidI_lt (by omega),items_right ok (I.right i hi) (by omega)]
   ·rw [if_neg e2,List.filter_eq_nil_iff.2 (fun p hp=>by
     have:=hb p hp
     have h2:=hi_next hd (show i<i+1 by omega) (by omega) this.2
     simp;omega)];rfl
theorem height_right (ok:B.Ok):∀ {h f:Nat} {x:Int} {lo hi least:Nat},rightP B h x lo hi least=true→h<f→1≤least→heightP B f x=(h+1,0)
 | 0,f+1,x,lo,hi,least,hr,hf,hl=>by
  obtain ⟨d,h1,h2,h3,h4,h5⟩:=right_leaf hr
  have hx:x≠0:=by have:=right_ge hr;omega
  rw [heightP,if_neg hx,h1]
  simp only [h2,if_true]
 | h+1,f+1,x,lo,hi,least,hr,hf,hl=>by
  obtain ⟨d,I⟩:=right_inner hr
  have hx:x≠0:=by have:=right_ge hr;omega
  have hN:=ok.n
  have hn:0<d.n:=by have:=I.least;omega
  have hk:=I.kid 0 hn
  rw [heightP,if_neg hx,I.node]
  simp only [I.leaf,Bool.false_eq_true,if_false]
  rw [kidI_lt (by omega),height_right ok (I.right 0 hn) (by omega) (by omega)]
  rfl
theorem tree_congr {B':Bs} (hn:B'.T.n=B.T.n):∀ {h:Nat} {x:Int} {lo hi least:Nat},(∀ b,b∈blksP B h x→B'.nodeI b=B.nodeI b)→rightP B' h x lo hi least=rightP B h x lo hi least∧allP B' h x=allP B h x∧blksP B' h x=blksP B h x
 | 0,x,lo,hi,least,hb=>by
  have e:=hb x (by simp [blksP])
  refine ⟨?_,?_,rfl⟩
  ·unfold rightP;rw [e]
  ·unfold allP;rw [e]
 | h+1,x,lo,hi,least,hb=>by
  have e:=hb x (by unfold blksP;cases B.nodeI x <;> simp)
  unfold rightP allP blksP
  rw [e]
  cases hd:B.nodeI x with
  | none=>exact ⟨rfl,rfl,rfl⟩
  | some d =>
   have key:∀ i,i<d.n→∀ lo hi least,rightP B' h (d.v i:Int) lo hi least=rightP B h (d.v i:Int) lo hi least∧allP B' h (d.v i:Int)=allP B h (d.v i:Int)∧blksP B' h (d.v i:Int)=blksP B h (d.v i:Int):=fun i hi lo hi' least =>
    tree_congr hn fun b hm=>hb b (by unfold blksP;rw [hd];exact List.mem_cons_of_mem _ (List.mem_flatMap.2 ⟨i,List.mem_range.2 hi,hm⟩))
   refine ⟨?_,?_,?_⟩
   ·show (decide (least≤d.n)&&(!d.leaf&&(List.range d.n).all _))=(decide (least≤d.n)&&(!d.leaf&&(List.range d.n).all _))
    congr 2
    rw [Bool.eq_iff_iff,List.all_eq_true,List.all_eq_true]
    constructor
    ·intro q i hi
     have:=q i hi
     rw [hn,(key i (List.mem_range.1 hi) _ _ _).1] at this
     exact this
    ·intro q i hi
     have:=q i hi
     rw [hn,(key i (List.mem_range.1 hi) _ _ _).1]
     exact this
   ·exact flat_congr fun i hi=>(key i (List.mem_range.1 hi) 0 0 0).2.1
   ·exact congrArg (x :: ·) (flat_congr fun i hi=>(key i (List.mem_range.1 hi) 0 0 0).2.2)
end
open Go.RowKit
theorem NumsIn.cap {A:List Nat} {w:World} {v:Value} {n:Nat} {f:Nat→Nat} (h:NumsIn A w v n f):∃ a cap,v = .slice a n cap∧n≤cap∧cap≤9223372036854775807:=by
 rcases h with ⟨⟨a,c,h,hc,_⟩,rfl⟩ | ⟨b,off,cap,h,h2,h3,_⟩
 ·unfold maxLen at hc;exact ⟨a,c,h,Nat.zero_le _,by omega⟩
 ·unfold maxLen at h3;exact ⟨_,_,h,h2,by omega⟩
theorem NumsIn.get {A:List Nat} {w:World} {a:Option Addr} {n m cap:Nat} {f:Nat→Nat} (h:NumsIn A w (.slice a m cap) n f) {i:Nat} (hi:i<n) :
  ∃ b off,a=some ⟨b,off,none⟩∧b<w.heap.size∧b∉A∧NumsAt w b off n f:=by
 rcases h with ⟨_,h0⟩ | ⟨b,off,c,h1,h2,h3,h4,h5,h6⟩
 ·omega
 ·injection h1 with h1 _ _
  exact ⟨b,off,h1,h4,h5,h6⟩
end Go.Proofs.YtkhcaclndepgbaaGreat
