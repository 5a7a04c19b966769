/- Package find: kid, Get, Height. · Package find: right, Right. · A loop over an iterator whose body keeps a growing slice of its own: blocks that the body alone writes (Pv: in each world, which). · Package find: items, walk. · Package find: items, any tree. · Lists of items in memory; layer 13's reference: Get, Items, Height; Same. · Package find: walk, Walk. · Package find: Right of a tree; Walk and Right of no base. · Package base: Up, Down. -/
import Derived.Test.YtkhcaclndepgbaaGreatZi23
import Derived.BigGuard
import Derived.Deep.RegionHeld3
import Derived.BigRegion
import Derived.Test.YtkhcaclndepgbaaGreatZi04
import Derived.Test.YtkhcaclndepgbaaGreatZi05
import Derived.BigGuardIn
import Derived.Test.YtkhcaclndepgbaaGreatZi19
import Derived.Deep.LoopGhost
import Derived.Test.YtkhcaclndepgbaaGreatZi17
import Derived.OwnWalkIn
import Derived.Test.YtkhcaclndepgbaaGreatZi20
set_option linter.unusedVariables false
set_option linter.unusedSimpArgs false
set_option maxRecDepth 100000
set_option maxHeartbeats 20000000
namespace Go.Proofs.YtkhcaclndepgbaaGreat
open Go.RowKit
structure NdIn (w:World) (base x kb vb:Nat) (d:Nd):Prop where
 ok:d.Ok
 top:w.heap[x]?=some (.cells #[.bool d.leaf,.slice (some ⟨kb,0,none⟩) d.n d.n,.slice (some ⟨vb,0,none⟩) d.n d.n] 107 (0,0))
 k:Row64 w kb d.n d.k
 v:Row64 w vb d.n d.v
 far:base≤x∧base≤kb∧base≤vb
theorem NdIn.chg {w w':World} {base x kb vb:Nat} {d:Nd} {L:List Nat} (h:NdIn w base x kb vb d) (c:Chg L w w') (hL:∀ q,q∈L→q<base∨w.heap.size≤q):NdIn w' base x kb vb d:=by
 have a1:=zhl h.top
 have a2:=h.k.lt
 have a3:=h.v.lt
 have n1:x∉L:=fun hm=>by have:=hL _ hm;have:=h.far;omega
 have n2:kb∉L:=fun hm=>by have:=hL _ hm;have:=h.far;omega
 have n3:vb∉L:=fun hm=>by have:=hL _ hm;have:=h.far;omega
 exact ⟨h.ok,(c.block _ a1 n1).trans h.top,h.k.chg c n2,h.v.chg c n3,h.far⟩
theorem NdIn.ki {w:World} {base x kb vb:Nat} {d:Nd} (h:NdIn w base x kb vb d):NumsIn [] w (.slice (some ⟨kb,0,none⟩) d.n d.n) d.n d.k:=h.k.numsIn (by have:=h.ok.n;omega) (by simp) h.ok.k
theorem NdIn.vi {w:World} {base x kb vb:Nat} {d:Nd} (h:NdIn w base x kb vb d):NumsIn [] w (.slice (some ⟨vb,0,none⟩) d.n d.n) d.n d.v:=h.v.numsIn (by have:=h.ok.n;omega) (by simp) h.ok.v
theorem NdIn.c {w:World} {base x kb vb:Nat} {d:Nd} (h:NdIn w base x kb vb d):w.cell? ⟨x,0,none⟩=some (.bool d.leaf)∧w.cell? ⟨x,1,none⟩=some (.slice (some ⟨kb,0,none⟩) d.n d.n)∧w.cell? ⟨x,2,none⟩=some (.slice (some ⟨vb,0,none⟩) d.n d.n):=⟨(zcb h.top 0).trans rfl,(zcb h.top 1).trans rfl,(zcb h.top 2).trans rfl⟩
theorem NodeEnd.box {w w1 w2:World} {d:Nd} {kb vb:Nat} (hd:d.Ok) (k1:w.heap.size≤kb) (k2:w.heap.size≤vb) (r1:Row64 w1 kb d.n d.k) (r2:Row64 w1 vb d.n d.v) (c:Chg [] w w1)
  (hx:w2.heap[w1.heap.size]?=some (.cells #[.bool d.leaf,.slice (some ⟨kb,0,none⟩) d.n d.n,.slice (some ⟨vb,0,none⟩) d.n d.n] 107 (0,0))) (c2:Chg [w1.heap.size] w1 w2):NdIn w2 w.heap.size w1.heap.size kb vb d :=
 ⟨hd,hx,r1.chg c2 (by have:=r1.lt;simp only [List.mem_singleton];omega),r2.chg c2 (by have:=r2.lt;simp only [List.mem_singleton];omega),c.size,k1,k2⟩
def hgt (l:Nat) (r:Nat × Int):Nat × Int:=if r.2=0 then (l+r.1,0) else (0,r.2)
def kidOk (B:Bs) (h:Nat) (d:Nd) (lo hi i:Nat):Bool:=decide (lo≤d.k i∧d.k i≤hi)&&(match h with
 | 0=>true
 | h'+1=>decide (2≤d.v i∧d.v i<B.T.n)&&rightP B h' (d.v i:Int) (d.k i) (d.hi hi i) 3)
theorem rightP_none {B:Bs} {h:Nat} {x:Int} {lo hi least:Nat} (hd:B.nodeI x=none):rightP B h x lo hi least=false:=by
 cases h <;> (unfold rightP;rw [hd])
theorem rightP_node {B:Bs} {h:Nat} {x:Int} {lo hi least:Nat} {d:Nd} (hd:B.nodeI x=some d):rightP B h x lo hi least=(decide (least≤d.n)&&((d.leaf==decide (h=0))&&(List.range d.n).all fun i=>kidOk B h d lo hi i)):=by
 cases h with
 | zero =>
  unfold rightP
  rw [hd]
  simp [kidOk]
 | succ h =>
  unfold rightP
  rw [hd]
  cases hl:d.leaf <;> simp [kidOk,hl]
theorem rightP_all {B:Bs} {h:Nat} {x:Int} {lo hi least:Nat} {d:Nd} (hd:B.nodeI x=some d) (h1:least≤d.n) (h2:(d.leaf==decide (h=0))=true) (h3:∀ i,i<d.n→kidOk B h d lo hi i=true):rightP B h x lo hi least=true:=by
 rw [rightP_node hd,h2,decide_eq_true h1]
 simpa using h3
def RtS (xb vb n i u bb k hj:Nat) (w:World):Prop:=(w.cell? ⟨xb,2,none⟩=some (.slice (some ⟨vb,0,none⟩) n n)∧w.cell? ⟨vb,i,none⟩=some (.int .u64 (u:Int)))∧w.cell? ⟨bb,0,none⟩=some (.int .u64 (k:Int))∧w.cell? ⟨bb,1,none⟩=some (.int .u64 (hj:Int))
theorem RtS.chg {xb vb n i u bb k hj:Nat} {w w':World} (h:RtS xb vb n i u bb k hj w) (c:Chg [] w w'):RtS xb vb n i u bb k hj w':=by
 obtain ⟨⟨h1,h2⟩,h3,h4⟩:=h
 exact ⟨⟨(c.cell (World.block_lt_of_cell? _ _ h1) (by simp)).trans h1,(c.cell (World.block_lt_of_cell? _ _ h2) (by simp)).trans h2⟩,(c.cell (World.block_lt_of_cell? _ _ h3) (by simp)).trans h3,(c.cell (World.block_lt_of_cell? _ _ h4) (by simp)).trans h4⟩
structure Yfr (Pv:World→Nat→Prop) (Lw:List Nat) (W W':World):Prop where
 c:∃ L,Chg L W W'∧∀ q,q∈L→q∈Lw∨Pv W q
 p:∀ q,Pv W' q→Pv W q∨W.heap.size≤q
section
variable {Pv:World→Nat→Prop} {Lw Lw':List Nat} {W W' W1 W2 W3:World}
theorem Yfr.size (h:Yfr Pv Lw W W'):W.heap.size≤W'.heap.size:=by obtain ⟨L,c,_⟩:=h.c;exact c.size
theorem Yfr.mono (h:Yfr Pv Lw W W') (hl:∀ q,q∈Lw→q∈Lw'):Yfr Pv Lw' W W':=by
 obtain ⟨L,c,hL⟩:=h.c
 exact ⟨⟨L,c,fun q hq=>(hL q hq).imp (hl q) id⟩,h.p⟩
theorem Yfr.trans (h:Yfr Pv Lw W1 W2) (k:Yfr Pv Lw W2 W3):Yfr Pv Lw W1 W3:=by
 obtain ⟨L,c,hL⟩:=h.c
 obtain ⟨L2,c2,hL2⟩:=k.c
 refine ⟨⟨L++L2.filter (fun q=>decide (q<W1.heap.size)),(c.mono (fun q hq=>List.mem_append_left _ hq)).then c2 (fun q hq=>?_),fun q hq=>?_⟩,fun q hq=>?_⟩
 ·by_cases e:q<W1.heap.size
  ·exact .inl (List.mem_append_right _ (List.mem_filter.2 ⟨hq,by simp [e]⟩))
  ·exact .inr (by omega)
 ·rcases List.mem_append.1 hq with hq | hq
  ·exact hL q hq
  ·obtain ⟨h1,h2⟩:=List.mem_filter.1 hq
   simp at h2
   rcases hL2 q h1 with h3 | h3
   ·exact .inl h3
   ·rcases h.p q h3 with h4 | h4
    ·exact .inr h4
    ·omega
 ·rcases k.p q hq with h1 | h1
  ·exact h.p q h1
  ·exact .inr (Nat.le_trans h.size h1)
theorem Yfr.refl (Pv:World→Nat→Prop) (Lw:List Nat) (W:World):Yfr Pv Lw W W:=⟨⟨[],Chg.refl _ _,fun q hq=>by cases hq⟩,fun q hq => .inl hq⟩
theorem Yfr.of (c:Chg Lw W W') (hp:∀ q,Pv W' q→Pv W q∨W.heap.size≤q):Yfr Pv Lw W W':=⟨⟨Lw,c,fun q hq => .inl hq⟩,hp⟩
end
structure Blv (Pv:World→Nat→Prop) (n:Nat) (A B:World):Prop where
 b:Below n A B
 p:∀ q,Pv A q→B.heap[q]?=A.heap[q]?
theorem Blv.mono {Pv:World→Nat→Prop} {n m:Nat} {A B:World} (h:Blv Pv n A B) (hm:m≤n):Blv Pv m A B:=⟨h.b.mono hm,h.p⟩
theorem Blv.put {Pv:World→Nat→Prop} {A:World} {n l:Nat} (o:Obj) (h:n≤l) (h1:∀ q,Pv A q→q≠l):Blv Pv n A (A.putObj l o):=⟨below_put o h,fun q hq=>World.putObj_heap_other (h1 q hq)⟩
variable {F:Fence} {n:Nat} {P:Program}
end Go.Proofs.YtkhcaclndepgbaaGreat
namespace Go.Proofs.YtkhcaclndepgbaaGreat
open Go.RowKit Go.Shelf
attribute [local go_sem] Oper.semAt_some
def toldV (t:(Nat × Nat) × Int):Value := .agg #[.int .u64 (t.1.1:Int),.int .u64 (t.1.2:Int),.int .i64 t.2]
structure Yld (M:Bm) (F:List Nat) (B:Bs) (L:Nat→(Nat × Nat) × Int) (N l:Nat) (J Jx:Nat→World→Prop) (W0:World) (Lw:List Nat) (Pv:World→Nat→Prop):Prop where
 lt:l<W0.heap.size
 lw:∀ x,x∈Lw→x<W0.heap.size
 j:∀ k A B,J k A→Blv Pv W0.heap.size A B→J k B
 p:∀ k A,J k A→BaseAt A M F B
 q1:∀ k A q,J k A→Pv A q→q<A.heap.size
 q2:∀ k A B q,J k A→Below W0.heap.size A B→Pv B q→Pv A q
 y:∀ k W1,J k W1→k<N→YieldAt Fence.wide 5 Tryz.prog l #[toldV (L k)] W1 fun e W'=>(e = .returned (.bool true)∧J (k+1) W'∧Yfr Pv (l::Lw) W1 W')∨(e = .returned (.bool false)∧Jx (k+1) W'∧Yfr Pv (l::Lw) W1 W')
section
variable {M:Bm} {F:List Nat} {B:Bs} {L:Nat→(Nat × Nat) × Int} {N l:Nat} {J Jx:Nat→World→Prop} {W0:World} {Lw:List Nat} {Pv:World→Nat→Prop}
theorem Yld.below (h:Yld M F B L N l J Jx W0 Lw Pv) {q:Nat} (hq:q∈l::Lw):q<W0.heap.size:=by
 rcases List.mem_cons.1 hq with rfl | hq
 ·exact h.lt
 ·exact h.lw q hq
end
end Go.Proofs.YtkhcaclndepgbaaGreat
namespace Go.Proofs.YtkhcaclndepgbaaGreat
open Go.RowKit Go.Shelf
attribute [local go_sem] Oper.semAt_some
end Go.Proofs.YtkhcaclndepgbaaGreat
namespace Go.Proofs.YtkhcaclndepgbaaGreat
open Go.RowKit
def itVs (l:List (Nat × Nat)):List Value:=l.flatMap fun p=>[.int .u64 (p.1:Int),.int .u64 (p.2:Int)]
theorem itVs_len:∀ l:List (Nat × Nat),(itVs l).length=l.length*2
 | []=>rfl
 | p::r=>by
  have:=itVs_len r
  show ([Value.int .u64 (p.1:Int),.int .u64 (p.2:Int)]++itVs r).length=_
  rw [List.length_append,this,List.length_cons]
  simp;omega
theorem itVs_app (l m:List (Nat × Nat)):itVs (l++m)=itVs l++itVs m:=List.flatMap_append
theorem itVs_cons (p:Nat × Nat) (r:List (Nat × Nat)):itVs (p::r) = .int .u64 (p.1:Int) :: .int .u64 (p.2:Int)::itVs r:=rfl
theorem itVs_get:∀ (l:List (Nat × Nat)) (i:Nat),i<l.length→(itVs l)[i*2]?=some (.int .u64 ((l.getD i (0,0)).1:Int))∧(itVs l)[i*2+1]?=some (.int .u64 ((l.getD i (0,0)).2:Int))
 | [],i,h=>by simp at h
 | p::r,0,_=>by rw [itVs_cons];exact ⟨rfl,rfl⟩
 | p::r,i+1,h=>by
  have:=itVs_get r i (by simpa using h)
  rw [itVs_cons,show (i+1)*2=i*2+1+1 by omega,show i*2+1+1+1=(i*2+1)+1+1 by omega,List.getElem?_cons_succ,List.getElem?_cons_succ,List.getElem?_cons_succ,List.getElem?_cons_succ,List.getD_cons_succ]
  exact this
theorem itVs_one {l:List (Nat × Nat)} : ∀ u,u∈itVs l→u.oneCell'=true:=by
 intro u hu
 unfold itVs at hu
 obtain ⟨p,_,hp⟩:=List.mem_flatMap.1 hu
 simp only [List.mem_cons,List.not_mem_nil,or_false] at hp
 rcases hp with rfl | rfl <;> rfl
def It64 (l:List (Nat × Nat)):Prop:=∀ p,p∈l→p.1<18446744073709551616∧p.2<18446744073709551616
theorem It64.getD {l:List (Nat × Nat)} (h:It64 l) (i:Nat):(l.getD i (0,0)).1<18446744073709551616∧(l.getD i (0,0)).2<18446744073709551616:=by
 by_cases hi:i<l.length
 ·rw [List.getD_eq_getElem?_getD,List.getElem?_eq_getElem hi]
  exact h _ (List.getElem_mem hi)
 ·rw [List.getD_eq_getElem?_getD,List.getElem?_eq_none (by omega)]
  exact ⟨by decide,by decide⟩
structure ItemsIn (A:List Nat) (w:World) (v:Value) (l:List (Nat × Nat)):Prop where
 e:∃ a c,v = .slice a l.length c∧l.length≤c∧c≤maxLen∧(0<l.length→∃ b o,a=some ⟨b,o,none⟩∧b<w.heap.size∧b∉A∧∀ j,j<l.length*2→w.cell? ⟨b,o+j,none⟩=(itVs l)[j]?)
 u:It64 l
section
variable {A:List Nat} {w w':World} {v:Value} {l:List (Nat × Nat)}
theorem ItemsIn.chg {L:List Nat} (h:ItemsIn A w v l) (c:Chg L w w') (hL:∀ k,k∈L→k∈A∨w.heap.size≤k):ItemsIn A w' v l:=by
 obtain ⟨⟨a,cp,rfl,h1,h2,h3⟩,hu⟩:=h
 refine ⟨⟨a,cp,rfl,h1,h2,fun h0=>?_⟩,hu⟩
 obtain ⟨b,o,rfl,hb,hA,hc⟩:=h3 h0
 refine ⟨b,o,rfl,Nat.lt_of_lt_of_le hb c.size,hA,fun j hj=>(c.cell (p:=⟨b,o+j,none⟩) hb (fun hm=>?_)).trans (hc j hj)⟩
 rcases hL _ hm with q | q
 ·exact hA q
 ·have:b<w.heap.size:=hb
  change w.heap.size≤b at q
  omega
theorem ItemsIn.more {A':List Nat} (h:ItemsIn A w v l) (hL:∀ k,k∈A'→k∈A∨w.heap.size≤k):ItemsIn A' w v l:=by
 obtain ⟨⟨a,cp,rfl,h1,h2,h3⟩,hu⟩:=h
 refine ⟨⟨a,cp,rfl,h1,h2,fun h0=>?_⟩,hu⟩
 obtain ⟨b,o,rfl,hb,hA,hc⟩:=h3 h0
 refine ⟨b,o,rfl,hb,fun hm=>?_,hc⟩
 rcases hL _ hm with q | q
 ·exact hA q
 ·omega
theorem ItemsIn.len (h:ItemsIn A w v l):∃ a c,v = .slice a l.length c∧l.length≤c∧c≤9223372036854775807:=by
 obtain ⟨⟨a,cp,rfl,h1,h2,h3⟩,hu⟩:=h
 exact ⟨a,cp,rfl,h1,by unfold maxLen at h2;omega⟩
theorem ItemsIn.get {a:Option Addr} {n c:Nat} (h:ItemsIn A w (.slice a n c) l) {i:Nat} (hi:i<l.length):∃ b o,a=some ⟨b,o,none⟩∧b<w.heap.size∧b∉A∧w.cell? ⟨b,o+i*2,none⟩=some (.int .u64 ((l.getD i (0,0)).1:Int))∧w.cell? ⟨b,o+i*2+1,none⟩=some (.int .u64 ((l.getD i (0,0)).2:Int)):=by
 obtain ⟨⟨a,cp,e,h1,h2,h3⟩,hu⟩:=h
 injection e with e1 e2 e3
 subst e1
 obtain ⟨b,o,rfl,hb,hA,hc⟩:=h3 (by omega)
 have:=itVs_get l i hi
 refine ⟨b,o,rfl,hb,hA,?_,?_⟩
 ·rw [hc _ (by omega)];exact this.1
 ·rw [Nat.add_assoc,hc _ (by omega)];exact this.2
theorem ItemsIn.of_own {base:Nat} (h:w.ownsRow base 104 2 v l.length (itVs l)) (hu:It64 l) (hA:∀ g,v.ownBlock=some g→g∉A):ItemsIn A w v l:=by
 refine ⟨?_,hu⟩
 by_cases h0:0<l.length
 ·obtain ⟨g,c,rfl,h1,h2,h3,h4,h5⟩:=zol h h0
  exact ⟨_,c,rfl,h1,h2,fun _=>⟨g,0,rfl,h4,hA g rfl,fun j hj=>by rw [Nat.zero_add];exact h5 j hj⟩⟩
 ·obtain ⟨a,c,rfl,h1,h2⟩:=zos h
  exact ⟨a,c,rfl,h1,h2,fun q=>absurd q h0⟩
theorem ItemsIn.src (h:ItemsIn A w v l) (h0:0<l.length):AppSrc w 2 v l.length (itVs l):=by
 obtain ⟨⟨a,cp,rfl,h1,h2,h3⟩,hu⟩:=h
 obtain ⟨b,o,rfl,hb,hA,hc⟩:=h3 h0
 refine ⟨itVs_len l,itVs_one,.inl ⟨b,o,cp,rfl,hb,fun j u hu=>?_⟩⟩
 rw [hc j (by have:=(List.getElem?_eq_some_iff.1 hu).1;rw [itVs_len] at this;exact this),hu]
end
theorem infoItem:(Tryz.prog.info? 104).map (fun i=>(i.zero,i.size,i.bytes))=some (some (.agg #[.int .u64 0,.int .u64 0]),2,16):=by kernel_rfl
def lookP (l:List (Nat × Nat)) (key:Nat):Nat × Bool:=match l.find? (fun p=>p.1==key) with
 | some p=>(p.2,true)
 | none=>(0,false)
theorem look_take {l:List (Nat × Nat)} {key i:Nat} (hi:i<l.length) (h:∀ j,j<i→(l.getD j (0,0)).1≠key) (he:(l.getD i (0,0)).1=key):lookP l key=((l.getD i (0,0)).2,true):=by
 have e:l.find? (fun p=>p.1==key)=some (l.getD i (0,0)):=by
  rw [List.getD_eq_getElem?_getD,List.getElem?_eq_getElem hi] at he ⊢
  rw [List.find?_eq_some_iff_getElem]
  refine ⟨by simpa using he,i,hi,rfl,fun j hj=>?_⟩
  have:=h j hj
  rw [List.getD_eq_getElem?_getD,List.getElem?_eq_getElem (by omega)] at this
  simpa using this
 unfold lookP
 rw [e]
theorem look_none {l:List (Nat × Nat)} {key:Nat} (h:∀ j,j<l.length→(l.getD j (0,0)).1≠key):lookP l key=(0,false):=by
 have e:l.find? (fun p=>p.1==key)=none:=by
  rw [List.find?_eq_none]
  intro p hp
  obtain ⟨j,hj,rfl⟩:=List.mem_iff_getElem.1 hp
  have:=h j hj
  rw [List.getD_eq_getElem?_getD,List.getElem?_eq_getElem hj] at this
  simpa using this
 unfold lookP
 rw [e]
def highN:Nat→Nat→Nat
 | 0,_=>0
 | f+1,n=>if 7<n then highN f ((n+6) / 7)+1 else 1
def highR (n:Nat):Nat:=if n=0 then 0 else highN 10 n
open Go.RowKit Go.Shelf
attribute [local go_sem] Oper.semAt_some
def walkR:List ((Nat × Nat) × Int)→Nat→List (Nat × Nat)→List (Nat × Nat) × Int
 | _,0,acc=>(acc,0)
 | [],_+1,acc=>(acc,0)
 | t::r,m+1,acc=>if t.2=0 then walkR r m (acc++[t.1]) else ([],t.2)
def WkI (W0:World) (ob mm:Nat) (L:List ((Nat × Nat) × Int)) (R:List (Nat × Nat) × Int) (k:Nat) (W:World):Prop :=
 ∃ (acc:List (Nat × Nat)) (v:Value),k<mm∧k≤L.length∧acc.length=k∧walkR (L.drop k) (mm - k) acc=R∧W.heap[ob]?=some (.cells #[v] 83 (0,0))∧W.ownsRow (W0.heap.size+2) 104 2 v acc.length (itVs acc)∧Chg [ob] W0 W
def WkX (W0:World) (rb eb ob:Nat) (R:List (Nat × Nat) × Int) (c:Code) (W:World):Prop :=
 ∃ (l:List (Nat × Nat)) (v:Value),W.heap[ob]?=some (.cells #[v] 83 (0,0))∧W.ownsRow (W0.heap.size+2) 104 2 v l.length (itVs l) ∧
  ((c = .ret∧R.1=[]∧W.heap[rb]?=some (.cells #[.slice none 0 0] 83 (0,0))∧W.heap[eb]?=some (.cells #[.int .i64 R.2] 29 (0,0))∧Chg [rb,eb,ob] W0 W)∨(c = .exit 0∧R=(l,0)∧Chg [ob] W0 W))
theorem ownRow_same {w w':World} {base n size:Nat} {e:TypeId} {v:Value} {xs:List Value} (h:w.ownsRow base e size v n xs) (hs:∀ g,v.ownBlock=some g→w'.heap[g]?=w.heap[g]?):w'.ownsRow base e size v n xs:=by
 refine ⟨h.1,?_⟩
 rcases h.2 with h' | ⟨g,cap,cur,rfl,hb,hg,r⟩
 ·exact .inl h'
 ·exact .inr ⟨g,cap,cur,rfl,hb,(hs g rfl).trans hg,r⟩
def WkP (ob:Nat) (W:World) (q:Nat):Prop:=∃ v,W.heap[ob]?=some (.cells #[v] 83 (0,0))∧v.ownBlock=some q
theorem WkP.of {ob q:Nat} {W:World} {v:Value} (h:WkP ob W q) (hv:W.heap[ob]?=some (.cells #[v] 83 (0,0))):v.ownBlock=some q:=by
 obtain ⟨v',h1,h2⟩:=h
 rw [hv] at h1
 injection h1 with h1
 injection h1 with h1
 injection h1 with h1
 injection h1 with h1
 rw [h1];exact h2
section
variable {W0 A A':World} {ob rb eb mm k:Nat} {L:List ((Nat × Nat) × Int)} {R:List (Nat × Nat) × Int} {c:Code}
theorem WkI.below (h:WkI W0 ob mm L R k A) (hob:ob<W0.heap.size) (hb:Blv (WkP ob) W0.heap.size A A'):WkI W0 ob mm L R k A':=by
 obtain ⟨acc,v,h1,h2,h3,h4,h5,h6,h7⟩:=h
 exact ⟨acc,v,h1,h2,h3,h4,(hb.b.block ob hob).trans h5,ownRow_same h6 (fun g hg=>hb.p g ⟨v,h5,hg⟩),h7.afar hb.b⟩
theorem WkX.below (h:WkX W0 rb eb ob R c A) (hob:ob<W0.heap.size) (hrb:rb<W0.heap.size) (heb:eb<W0.heap.size) (hb:Blv (WkP ob) W0.heap.size A A'):WkX W0 rb eb ob R c A':=by
 obtain ⟨l,v,h5,h6,h7⟩:=h
 refine ⟨l,v,(hb.b.block ob hob).trans h5,ownRow_same h6 (fun g hg=>hb.p g ⟨v,h5,hg⟩),?_⟩
 rcases h7 with ⟨r1,r2,r3,r4,r5⟩ | ⟨r1,r2,r3⟩
 ·exact .inl ⟨r1,r2,(hb.b.block rb hrb).trans r3,(hb.b.block eb heb).trans r4,r5.afar hb.b⟩
 ·exact .inr ⟨r1,r2,r3.afar hb.b⟩
theorem WkP.lt {base n:Nat} {v:Value} {xs:List Value} {q:Nat} (h:WkP ob A q) (hv:A.heap[ob]?=some (.cells #[v] 83 (0,0))) (hr:A.ownsRow base 104 2 v n xs):base≤q∧q<A.heap.size:=hr.lt q (h.of hv)
end
end Go.Proofs.YtkhcaclndepgbaaGreat
namespace Go.Proofs.YtkhcaclndepgbaaGreat
open Go.RowKit
def rightT (B:Bs) (x:Int):Bool:=x==0||((heightP B 8 x).2==0&&rightP B ((heightP B 8 x).1 - 1) x 0 18446744073709551615 (if 1<(heightP B 8 x).1 then 2 else 1))
def Bs.mayC (B:Bs) (x:Int):Bool:=decide (2≤x)&&decide (x<(B.T.n:Int)) && !pageB B 0 x && !pageB B 1 x
theorem BaseC.cont {w:World} {M:Bm} {R:Br} {B:Bs} (h:BaseC w M R B) {k:Nat} (hk:k<2) (x:Int) :
  Calls Tryz.prog 148 #[.slice (some ⟨R.g k,0,none⟩) (nOf B.T.n k) (R.c k),.int .i64 x] w fun e w'=>e = .returned (.bool (pageB B k x))∧w=w':=by
 have n1:=h.ok.n
 have hp:=nOf_pos (k:=k) n1.1
 have hle:nOf B.T.n k≤4096:=by unfold nOf pg;split <;> omega
 rcases h.sh.l k hk with ⟨e,_⟩ | ⟨g,c,e,h1,h2,h3,h4⟩
 ·cases e
 ·injection e with e e2 e3
  injection e with e
  injection e with e
  subst e3
  rw [← e] at h4
  refine contI_at (l:=B.a k) hle ?_ (fun i hi=>?_) pageB_iff
  ·rw [e2];exact h1
  ·have:=h4 i (by rw [atL_len];exact hi)
   rw [atL_get _ _ hi] at this
   exact this
theorem bCount_bad {w:World} {M:Bm} {R:Br} {B:Bs} (h:BaseC w M R B) {x:Int} {v:Value} (hx:B.mayC x=false) :
  Calls Tryz.prog 93 #[.pointer (some ⟨M.b,0,none⟩),.int .i64 x,v] w fun e w'=>e = .returned (.int .i64 2)∧w=w':=by
 have n1:=h.ok.n
 have cb:=bBlocks_at h
 have c3:=h.c3
 have c4:=h.c4
 have p0:=h.cont (k:=0) (by omega) x
 have p1:=h.cont (k:=1) (by omega) x
 have HX:=Lib.hid hx
 unfold Bs.mayC at hx
 by_cases i0:x<2
 ·go_enter Tryz.func93,Tryz.ntmps93
  go_wp2_with fail
  go_ret
  exact ⟨rfl,rfl⟩
 by_cases i1:(B.T.n:Int)≤x
 ·go_enter Tryz.func93,Tryz.ntmps93
  go_wp2_with fail
  refine (cb).mono ?_
  rintro e w' ⟨rfl,rfl⟩
  go_wp2_with fail
  go_ret
  exact ⟨rfl,rfl⟩
 rw [decide_eq_true (by omega),decide_eq_true (by omega)] at hx
 cases e0:pageB B 0 x with
 | true =>
  rw [e0] at p0
  go_enter Tryz.func93,Tryz.ntmps93
  go_wp2_with fail
  refine (cb).mono ?_
  rintro e w' ⟨rfl,rfl⟩
  go_wp2_with fail
  refine (p0).mono ?_
  rintro e w' ⟨rfl,rfl⟩
  go_wp2_with fail
  go_ret
  exact ⟨rfl,rfl⟩
 | false =>
  have e1:pageB B 1 x=true:=by rw [e0] at hx;simpa using hx
  rw [e0] at p0
  rw [e1] at p1
  go_enter Tryz.func93,Tryz.ntmps93
  go_wp2_with fail
  refine (cb).mono ?_
  rintro e w' ⟨rfl,rfl⟩
  go_wp2_with fail
  refine (p0).mono ?_
  rintro e w' ⟨rfl,rfl⟩
  go_wp2_with fail
  refine (p1).mono ?_
  rintro e w' ⟨rfl,rfl⟩
  go_wp2_with fail
  go_ret
  exact ⟨rfl,rfl⟩
theorem Bs.mayC_nat {B:Bs} {x:Int} (h:B.mayC x=true):2≤x∧x<(B.T.n:Int)∧pageB B 0 x=false∧pageB B 1 x=false:=by
 simp only [Bs.mayC,Bool.and_eq_true,decide_eq_true_iff,Bool.not_eq_true'] at h
 exact ⟨h.1.1.1,h.1.1.2,h.1.2,h.2⟩
theorem bCount_zero {w:World} {M:Bm} {R:Br} {B:Bs} (h:BaseC w M R B) {x:Int} {v:Value} (hx:B.mayC x=true) (h0:getV B.T x=0) :
  Calls Tryz.prog 93 #[.pointer (some ⟨M.b,0,none⟩),.int .i64 x,v] w fun e w'=>e = .returned (.int .i64 82)∧w=w':=by
 have n1:=h.ok.n
 have cb:=bBlocks_at h
 have c1:=h.c1
 have c3:=h.c3
 have c4:=h.c4
 have p0:=h.cont (k:=0) (by omega) x
 have p1:=h.cont (k:=1) (by omega) x
 obtain ⟨j0,j1,e0,e1⟩:=B.mayC_nat hx
 have i0:¬ x<2:=by omega
 have i1:¬ (B.T.n:Int)≤x:=by omega
 rw [e0] at p0
 rw [e1] at p1
 have cg:=get_at h.pt.ht x
 rw [h0] at cg
 clear e0 e1 h0 h hx
 go_enter Tryz.func93,Tryz.ntmps93
 go_wp2_with fail
 refine (cb).mono ?_
 rintro e w' ⟨rfl,rfl⟩
 go_wp2_with fail
 refine (p0).mono ?_
 rintro e w' ⟨rfl,rfl⟩
 go_wp2_with fail
 refine (p1).mono ?_
 rintro e w' ⟨rfl,rfl⟩
 go_wp2_with fail
 refine (cg).mono ?_
 rintro e w' ⟨rfl,rfl⟩
 go_wp2_with fail
 go_ret
 exact ⟨rfl,rfl⟩
theorem BaseIn.less {w w2:World} {M:Bm} {R:Br} {B B':Bs} {F:List Nat} (h:BaseIn w M R B) (hFF:∀ q,Bown M R B q→q∉F) (c:Chg M.L w w2) (hn:B'.T.n=B.T.n) (ha:B'.a=B.a) (hD:B'.D=B.D)
  (hfr:∀ y f,B'.fr y=some f→B.fr y=some f) (pt:PT w2 M.p M.t M.bc M.bk B'.K B'.T) (top:w2.heap[M.b]?=some (.cells (fnRow 44 (baseV M R B')) 51 (0,0))) (fm:KMapV Tryz.prog 3 goodF w2 M.mf B.T.n (frV R B'))
  (d:DiskAt w2 M.d M.bb (.slice none 0 0) ⟨B.T.n,B.D,[]⟩) (ok:B'.Ok) (hF:∀ q,q∈F→q<w.heap.size):BaseAt w2 M F B':=by
 have hin:BaseIn w2 M R B':=h.remake c hn ha rfl rfl top pt (by rw [hn];exact fm) (fun k f hk hf=>h.fd_keep c (by rw [← hn];exact hk) (hfr k f hf)) (by rw [hn,hD];exact d) ok
 refine BaseAt.of h hFF hin hn rfl hF (fun k hk hs => .inl ⟨?_,rfl⟩)
 cases hq:B'.fr k with
 | none=>rw [hq] at hs;cases hs
 | some f=>rw [hfr k f hq];rfl
def Bs.counted (B:Bs) (T':Tal) (x:Nat):Bs := { B with T:=T',fr:=fun y=>if y=x∧T'.now x=0 then none else B.fr y }
theorem bCount_up {w:World} {M:Bm} {F:List Nat} {B:Bs} (h:BaseAt w M F B) (hF:∀ q,q∈F→q<w.heap.size) {x:Nat} {E:Int} {T':Tal} (hx:B.mayC (x:Int)=true) (h0:B.T.now x≠0)
  (hg:∀ w,PT w M.p M.t M.bc M.bk B.K B.T→Calls Tryz.prog 96 #[.pointer (some ⟨M.t,0,none⟩),.int .i64 (x:Int)] w fun e w'=>e = .returned (.int .i64 E)∧PT w' M.p M.t M.bc M.bk B.K T'∧Chg [M.p,M.t,M.bc,M.bk] w w')
  (hn:T'.n=B.T.n) (hok:(B.counted T' x).Ok) :
  Calls Tryz.prog 93 #[.pointer (some ⟨M.b,0,none⟩),.int .i64 (x:Int),.func (.func 96) #[.pointer (some ⟨M.t,0,none⟩)] #[]] w fun e w'=>e = .returned (.int .i64 E)∧BaseAt w' M F (B.counted T' x)∧Chg M.L w w':=by
 obtain ⟨R,hB,hFF⟩:=h
 have n1:=hB.c.ok.n
 have cb:=bBlocks_at hB.c
 have c1:=hB.c.c1
 have c3:=hB.c.c3
 have c4:=hB.c.c4
 have p0:=hB.c.cont (k:=0) (by omega) (x:Int)
 have p1:=hB.c.cont (k:=1) (by omega) (x:Int)
 obtain ⟨j0,j1,e0,e1⟩:=B.mayC_nat hx
 have i0:¬ (x:Int)<2:=by omega
 have i1:¬ (B.T.n:Int)≤(x:Int):=by omega
 rw [e0] at p0
 rw [e1] at p1
 have xlt:x<B.T.n:=by omega
 have cg:=get_at hB.c.pt.ht (x:Int)
 have egv:∀ T:Tal,T.n=B.T.n→getV T (x:Int)=(T.now x:Int):=fun T hT=>by
  unfold getV
  rw [(hasB_iff T (x:Int)).2 (by omega),if_pos rfl,Int.toNat_natCast]
 rw [egv _ rfl] at cg
 have i2:¬ B.T.now x=0:=h0
 have CG:=Lib.hid (hg w hB.c.pt)
 have nd:=hB.nodup
 simp only [Bm.L,List.nodup_cons,List.mem_cons,List.not_mem_nil,or_false,not_or,List.nodup_nil,and_true] at nd
 have HB:=Lib.hid (And.intro hB hFF)
 have HH:=Lib.hid (And.intro hok (And.intro hF (And.intro nd egv)))
 clear hB hFF hok hF nd egv e0 e1 hx hg h0
 go_enter Tryz.func93,Tryz.ntmps93
 go_wp2_with fail
 refine (cb).mono ?_
 rintro e w' ⟨rfl,rfl⟩
 go_wp2_with fail
 refine (p0).mono ?_
 rintro e w' ⟨rfl,rfl⟩
 go_wp2_with fail
 refine (p1).mono ?_
 rintro e w' ⟨rfl,rfl⟩
 go_wp2_with fail
 refine (cg).mono ?_
 rintro e w' ⟨rfl,rfl⟩
 go_wp2_with fail
 go_simp
 refine CG.out.mono ?_
 rintro e w1 ⟨rfl,hpt,hc⟩
 have nd:=HH.out.2.2.1
 have hnb:∀ q,q≠M.p→q≠M.t→q≠M.bc→q≠M.bk→q∉[M.p,M.t,M.bc,M.bk]:=fun q a b c d=>by simp [a,b,c,d]
 have l1:=zhl HB.out.1.c.top
 have hb1:=(hc.block M.b l1 (hnb _ nd.1.2.2.1 nd.1.2.2.2.1 nd.1.2.2.2.2.1 nd.1.2.2.2.2.2.1)).trans HB.out.1.c.top
 have d1:w1.cell? ⟨M.b,1,none⟩=some (.pointer (some ⟨M.t,0,none⟩)):=(cell_fn hb1 (by omega)).trans rfl
 have d5:w1.cell? ⟨M.b,5,none⟩=some (.map (some M.mf)):=(cell_fn hb1 (by omega)).trans rfl
 have cg1:=get_at hpt.ht (x:Int)
 rw [HH.out.2.2.2 _ hn] at cg1
 have i3:x<B.T.n:=xlt
 have HP:=Lib.hid (And.intro hpt (And.intro hc (And.intro hb1 nd)))
 have l11:=zhl hb1
 clear hpt hc hb1 nd hnb
 have hm1:=HB.out.1.c.fm.chg HP.out.2.1 (by have:=HP.out.2.2.2;simp only [List.mem_cons,List.not_mem_nil,or_false,not_or];exact ⟨fun e=>this.2.2.2.1.2.2.2 e.symm,fun e=>this.2.2.2.2.1.2.2 e.symm,fun e=>this.2.2.2.2.2.1.2 e.symm,HB.out.1.c.ne⟩)
 by_cases hz:T'.now x=0
 ·obtain ⟨w2,hrun,hm2,ht2⟩:=hm1.del (t:=43) (k:=x) Tryz.underlying3 Tryz.underlying43 xlt n1.2 0
  have hc2:=mapTurned_chg ht2
  have HZ:=Lib.hid (And.intro hm2 hc2)
  clear hm1 hm2 ht2 hc2
  go_wp2_with fail
  refine (cg1).mono ?_
  rintro e w' ⟨rfl,rfl⟩
  go_wp2_with fail
  go_ret
  have nd:=HP.out.2.2.2
  have hne:∀ q,q≠M.mf→q∉[M.mf]:=fun q hq=>by simpa using hq
  have c02:Chg M.L w w2:=(HP.out.2.1.mono (by simp [Bm.L])).trans (HZ.out.2.mono (by simp [Bm.L]))
  refine ⟨rfl,HB.out.1.less HB.out.2 c02 hn rfl rfl (fun y f hy=>?_) (HP.out.1.chg HZ.out.2 (hne _ nd.2.2.2.1.2.2.2) (hne _ nd.2.2.2.2.1.2.2) (hne _ nd.2.2.2.2.2.1.2) (hne _ nd.2.2.2.2.2.2.1)) ?_ ?_ ?_ HH.out.1 HH.out.2.1,c02⟩
  ·have hy':(if y=x∧T'.now x=0 then none else B.fr y)=some f:=hy
   split at hy'
   ·cases hy'
   ·exact hy'
  ·rw [baseV_same (B:=B) (B':=B.counted T' x) hn rfl rfl rfl rfl]
   exact (HZ.out.2.block M.b l11 (hne _ nd.1.2.2.2.2.2.2)).trans HP.out.2.2.1
  ·refine HZ.out.1.congr (fun i hi=>?_)
   unfold frV Bs.counted
   by_cases e:i=x
   ·simp [e,hz]
   ·simp [e]
  ·exact (HB.out.1.d.chg HP.out.2.1 (by simp [nd]) (by simp [nd]) (fun k hk=>by cases hk)).chg HZ.out.2 (hne _ nd.2.1.2.2.2.2.2) (hne _ nd.2.2.1.2.2.2.2) (fun k hk=>by cases hk)
 ·have i4:¬ T'.now x=0:=hz
  have HM:=Lib.hid hm1
  clear hm1
  go_wp2_with fail
  refine (cg1).mono ?_
  rintro e w' ⟨rfl,rfl⟩
  go_wp2_with fail
  go_ret
  have nd:=HP.out.2.2.2
  have c02:Chg M.L w w1:=HP.out.2.1.mono (by simp [Bm.L])
  have efr:(B.counted T' x).fr=B.fr:=by
   funext y
   show (if y=x∧T'.now x=0 then none else B.fr y)=B.fr y
   rw [if_neg (fun h=>hz h.2)]
  refine ⟨rfl,HB.out.1.less HB.out.2 c02 hn rfl rfl (fun y f hy=>by rw [efr] at hy;exact hy) HP.out.1 ?_ ?_ ?_ HH.out.1 HH.out.2.1,c02⟩
  ·rw [baseV_same (B:=B) (B':=B.counted T' x) hn rfl rfl rfl rfl]
   exact HP.out.2.2.1
  ·refine HM.out.congr (fun i hi=>?_)
   unfold frV
   rw [efr]
  ·exact HB.out.1.d.chg HP.out.2.1 (by simp [nd]) (by simp [nd]) (fun k hk=>by cases hk)
end Go.Proofs.YtkhcaclndepgbaaGreat
