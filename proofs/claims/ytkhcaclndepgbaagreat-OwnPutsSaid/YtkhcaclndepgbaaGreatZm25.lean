/- Lists of items in memory; layer 13's reference: Get, Items, Height; Same. · Package find: walk, Walk. · Package find: Right of a tree; Walk and Right of no base. · Package base: Up, Down. · Package base: Up, Down, Back. -/
import Derived.Test.YtkhcaclndepgbaaGreatZm19
import Derived.Deep.LoopGhost
import Derived.Deep.RegionHeld3
import Derived.BigRegion
import Derived.Test.YtkhcaclndepgbaaGreatZm24
import Derived.Test.YtkhcaclndepgbaaGreatZm17
import Derived.OwnWalkIn
import Derived.BigGuardIn
import Derived.Test.YtkhcaclndepgbaaGreatZm20
set_option linter.unusedVariables false
set_option linter.unusedSimpArgs false
set_option maxRecDepth 100000
set_option maxHeartbeats 20000000
namespace Go.Proofs.YtkhcaclndepgbaaGreat
open Go.RowKit
def itVs (l:List (Nat × Nat)):List Value:=l.flatMap fun p=>[.int .u64 (p.1:Int),.int .u64 (p.2:Int)]
theorem itVs_len:∀ l:List (Nat × Nat),(itVs l).length=l.length*2
 | []=>rfl
 | p::r=>by
  have:=itVs_len r
  show ([Value.int .u64 (p.1:Int),.int .u64 (p.2:Int)]++itVs r).length=_
  rw [List.length_append,this,List.length_cons]
  simp;omega
theorem itVs_app (l m:List (Nat × Nat)):itVs (l++m)=itVs l++itVs m:=List.flatMap_append
theorem itVs_cons (p:Nat × Nat) (r:List (Nat × Nat)):itVs (p::r) = .int .u64 (p.1:Int) :: .int .u64 (p.2:Int)::itVs r:=rfl
theorem itVs_get:∀ (l:List (Nat × Nat)) (i:Nat),i<l.length→(itVs l)[i*2]?=some (.int .u64 ((l.getD i (0,0)).1:Int))∧(itVs l)[i*2+1]?=some (.int .u64 ((l.getD i (0,0)).2:Int))
 | [],i,h=>by simp at h
 | p::r,0,_=>by rw [itVs_cons];exact ⟨rfl,rfl⟩
 | p::r,i+1,h=>by
  have:=itVs_get r i (by simpa using h)
  rw [itVs_cons,show (i+1)*2=i*2+1+1 by omega,show i*2+1+1+1=(i*2+1)+1+1 by omega,List.getElem?_cons_succ,List.getElem?_cons_succ,List.getElem?_cons_succ,List.getElem?_cons_succ,List.getD_cons_succ]
  exact this
theorem itVs_one {l:List (Nat × Nat)} : ∀ u,u∈itVs l→u.oneCell'=true:=by
 intro u hu
 unfold itVs at hu
 obtain ⟨p,_,hp⟩:=List.mem_flatMap.1 hu
 simp only [List.mem_cons,List.not_mem_nil,or_false] at hp
 rcases hp with rfl | rfl <;> rfl
def It64 (l:List (Nat × Nat)):Prop:=∀ p,p∈l→p.1<18446744073709551616∧p.2<18446744073709551616
theorem It64.getD {l:List (Nat × Nat)} (h:It64 l) (i:Nat):(l.getD i (0,0)).1<18446744073709551616∧(l.getD i (0,0)).2<18446744073709551616:=by
 by_cases hi:i<l.length
 ·rw [List.getD_eq_getElem?_getD,List.getElem?_eq_getElem hi]
  exact h _ (List.getElem_mem hi)
 ·rw [List.getD_eq_getElem?_getD,List.getElem?_eq_none (by omega)]
  exact ⟨by decide,by decide⟩
structure ItemsIn (A:List Nat) (w:World) (v:Value) (l:List (Nat × Nat)):Prop where
 e:∃ a c,v = .slice a l.length c∧l.length≤c∧c≤maxLen∧(0<l.length→∃ b o,a=some ⟨b,o,none⟩∧b<w.heap.size∧b∉A∧∀ j,j<l.length*2→w.cell? ⟨b,o+j,none⟩=(itVs l)[j]?)
 u:It64 l
section
variable {A:List Nat} {w w':World} {v:Value} {l:List (Nat × Nat)}
theorem ItemsIn.chg {L:List Nat} (h:ItemsIn A w v l) (c:Chg L w w') (hL:∀ k,k∈L→k∈A∨w.heap.size≤k):ItemsIn A w' v l:=by
 obtain ⟨⟨a,cp,rfl,h1,h2,h3⟩,hu⟩:=h
 refine ⟨⟨a,cp,rfl,h1,h2,fun h0=>?_⟩,hu⟩
 obtain ⟨b,o,rfl,hb,hA,hc⟩:=h3 h0
 refine ⟨b,o,rfl,Nat.lt_of_lt_of_le hb c.size,hA,fun j hj=>(c.cell (p:=⟨b,o+j,none⟩) hb (fun hm=>?_)).trans (hc j hj)⟩
 rcases hL _ hm with q | q
 ·exact hA q
 ·have:b<w.heap.size:=hb
  change w.heap.size≤b at q
  omega
theorem ItemsIn.more {A':List Nat} (h:ItemsIn A w v l) (hL:∀ k,k∈A'→k∈A∨w.heap.size≤k):ItemsIn A' w v l:=by
 obtain ⟨⟨a,cp,rfl,h1,h2,h3⟩,hu⟩:=h
 refine ⟨⟨a,cp,rfl,h1,h2,fun h0=>?_⟩,hu⟩
 obtain ⟨b,o,rfl,hb,hA,hc⟩:=h3 h0
 refine ⟨b,o,rfl,hb,fun hm=>?_,hc⟩
 rcases hL _ hm with q | q
 ·exact hA q
 ·omega
theorem ItemsIn.len (h:ItemsIn A w v l):∃ a c,v = .slice a l.length c∧l.length≤c∧c≤9223372036854775807:=by
 obtain ⟨⟨a,cp,rfl,h1,h2,h3⟩,hu⟩:=h
 exact ⟨a,cp,rfl,h1,by unfold maxLen at h2;omega⟩
theorem ItemsIn.get {a:Option Addr} {n c:Nat} (h:ItemsIn A w (.slice a n c) l) {i:Nat} (hi:i<l.length):∃ b o,a=some ⟨b,o,none⟩∧b<w.heap.size∧b∉A∧w.cell? ⟨b,o+i*2,none⟩=some (.int .u64 ((l.getD i (0,0)).1:Int))∧w.cell? ⟨b,o+i*2+1,none⟩=some (.int .u64 ((l.getD i (0,0)).2:Int)):=by
 obtain ⟨⟨a,cp,e,h1,h2,h3⟩,hu⟩:=h
 injection e with e1 e2 e3
 subst e1
 obtain ⟨b,o,rfl,hb,hA,hc⟩:=h3 (by omega)
 have:=itVs_get l i hi
 refine ⟨b,o,rfl,hb,hA,?_,?_⟩
 ·rw [hc _ (by omega)];exact this.1
 ·rw [Nat.add_assoc,hc _ (by omega)];exact this.2
theorem ItemsIn.of_own {base:Nat} (h:w.ownsRow base 104 2 v l.length (itVs l)) (hu:It64 l) (hA:∀ g,v.ownBlock=some g→g∉A):ItemsIn A w v l:=by
 refine ⟨?_,hu⟩
 by_cases h0:0<l.length
 ·obtain ⟨g,c,rfl,h1,h2,h3,h4,h5⟩:=zol h h0
  exact ⟨_,c,rfl,h1,h2,fun _=>⟨g,0,rfl,h4,hA g rfl,fun j hj=>by rw [Nat.zero_add];exact h5 j hj⟩⟩
 ·obtain ⟨a,c,rfl,h1,h2⟩:=zos h
  exact ⟨a,c,rfl,h1,h2,fun q=>absurd q h0⟩
theorem ItemsIn.src (h:ItemsIn A w v l) (h0:0<l.length):AppSrc w 2 v l.length (itVs l):=by
 obtain ⟨⟨a,cp,rfl,h1,h2,h3⟩,hu⟩:=h
 obtain ⟨b,o,rfl,hb,hA,hc⟩:=h3 h0
 refine ⟨itVs_len l,itVs_one,.inl ⟨b,o,cp,rfl,hb,fun j u hu=>?_⟩⟩
 rw [hc j (by have:=(List.getElem?_eq_some_iff.1 hu).1;rw [itVs_len] at this;exact this),hu]
end
theorem infoItem:(Tryz.prog.info? 104).map (fun i=>(i.zero,i.size,i.bytes))=some (some (.agg #[.int .u64 0,.int .u64 0]),2,16):=by kernel_rfl
def lookP (l:List (Nat × Nat)) (key:Nat):Nat × Bool:=match l.find? (fun p=>p.1==key) with
 | some p=>(p.2,true)
 | none=>(0,false)
theorem look_take {l:List (Nat × Nat)} {key i:Nat} (hi:i<l.length) (h:∀ j,j<i→(l.getD j (0,0)).1≠key) (he:(l.getD i (0,0)).1=key):lookP l key=((l.getD i (0,0)).2,true):=by
 have e:l.find? (fun p=>p.1==key)=some (l.getD i (0,0)):=by
  rw [List.getD_eq_getElem?_getD,List.getElem?_eq_getElem hi] at he ⊢
  rw [List.find?_eq_some_iff_getElem]
  refine ⟨by simpa using he,i,hi,rfl,fun j hj=>?_⟩
  have:=h j hj
  rw [List.getD_eq_getElem?_getD,List.getElem?_eq_getElem (by omega)] at this
  simpa using this
 unfold lookP
 rw [e]
theorem look_none {l:List (Nat × Nat)} {key:Nat} (h:∀ j,j<l.length→(l.getD j (0,0)).1≠key):lookP l key=(0,false):=by
 have e:l.find? (fun p=>p.1==key)=none:=by
  rw [List.find?_eq_none]
  intro p hp
  obtain ⟨j,hj,rfl⟩:=List.mem_iff_getElem.1 hp
  have:=h j hj
  rw [List.getD_eq_getElem?_getD,List.getElem?_eq_getElem hj] at this
  simpa using this
 unfold lookP
 rw [e]
def highN:Nat→Nat→Nat
 | 0,_=>0
 | f+1,n=>if 7<n then highN f ((n+6) / 7)+1 else 1
def highR (n:Nat):Nat:=if n=0 then 0 else highN 10 n
open Go.RowKit Go.Shelf
attribute [local go_sem] Oper.semAt_some
def walkR:List ((Nat × Nat) × Int)→Nat→List (Nat × Nat)→List (Nat × Nat) × Int
 | _,0,acc=>(acc,0)
 | [],_+1,acc=>(acc,0)
 | t::r,m+1,acc=>if t.2=0 then walkR r m (acc++[t.1]) else ([],t.2)
def WkI (W0:World) (ob mm:Nat) (L:List ((Nat × Nat) × Int)) (R:List (Nat × Nat) × Int) (k:Nat) (W:World):Prop :=
 ∃ (acc:List (Nat × Nat)) (v:Value),k<mm∧k≤L.length∧acc.length=k∧walkR (L.drop k) (mm - k) acc=R∧W.heap[ob]?=some (.cells #[v] 83 (0,0))∧W.ownsRow (W0.heap.size+2) 104 2 v acc.length (itVs acc)∧Chg [ob] W0 W
def WkX (W0:World) (rb eb ob:Nat) (R:List (Nat × Nat) × Int) (c:Code) (W:World):Prop :=
 ∃ (l:List (Nat × Nat)) (v:Value),W.heap[ob]?=some (.cells #[v] 83 (0,0))∧W.ownsRow (W0.heap.size+2) 104 2 v l.length (itVs l) ∧
  ((c = .ret∧R.1=[]∧W.heap[rb]?=some (.cells #[.slice none 0 0] 83 (0,0))∧W.heap[eb]?=some (.cells #[.int .i64 R.2] 29 (0,0))∧Chg [rb,eb,ob] W0 W)∨(c = .exit 0∧R=(l,0)∧Chg [ob] W0 W))
theorem ownRow_same {w w':World} {base n size:Nat} {e:TypeId} {v:Value} {xs:List Value} (h:w.ownsRow base e size v n xs) (hs:∀ g,v.ownBlock=some g→w'.heap[g]?=w.heap[g]?):w'.ownsRow base e size v n xs:=by
 refine ⟨h.1,?_⟩
 rcases h.2 with h' | ⟨g,cap,cur,rfl,hb,hg,r⟩
 ·exact .inl h'
 ·exact .inr ⟨g,cap,cur,rfl,hb,(hs g rfl).trans hg,r⟩
def WkP (ob:Nat) (W:World) (q:Nat):Prop:=∃ v,W.heap[ob]?=some (.cells #[v] 83 (0,0))∧v.ownBlock=some q
theorem WkP.of {ob q:Nat} {W:World} {v:Value} (h:WkP ob W q) (hv:W.heap[ob]?=some (.cells #[v] 83 (0,0))):v.ownBlock=some q:=by
 obtain ⟨v',h1,h2⟩:=h
 rw [hv] at h1
 injection h1 with h1
 injection h1 with h1
 injection h1 with h1
 injection h1 with h1
 rw [h1];exact h2
section
variable {W0 A A':World} {ob rb eb mm k:Nat} {L:List ((Nat × Nat) × Int)} {R:List (Nat × Nat) × Int} {c:Code}
theorem WkI.below (h:WkI W0 ob mm L R k A) (hob:ob<W0.heap.size) (hb:Blv (WkP ob) W0.heap.size A A'):WkI W0 ob mm L R k A':=by
 obtain ⟨acc,v,h1,h2,h3,h4,h5,h6,h7⟩:=h
 exact ⟨acc,v,h1,h2,h3,h4,(hb.b.block ob hob).trans h5,ownRow_same h6 (fun g hg=>hb.p g ⟨v,h5,hg⟩),h7.afar hb.b⟩
theorem WkX.below (h:WkX W0 rb eb ob R c A) (hob:ob<W0.heap.size) (hrb:rb<W0.heap.size) (heb:eb<W0.heap.size) (hb:Blv (WkP ob) W0.heap.size A A'):WkX W0 rb eb ob R c A':=by
 obtain ⟨l,v,h5,h6,h7⟩:=h
 refine ⟨l,v,(hb.b.block ob hob).trans h5,ownRow_same h6 (fun g hg=>hb.p g ⟨v,h5,hg⟩),?_⟩
 rcases h7 with ⟨r1,r2,r3,r4,r5⟩ | ⟨r1,r2,r3⟩
 ·exact .inl ⟨r1,r2,(hb.b.block rb hrb).trans r3,(hb.b.block eb heb).trans r4,r5.afar hb.b⟩
 ·exact .inr ⟨r1,r2,r3.afar hb.b⟩
theorem WkP.lt {base n:Nat} {v:Value} {xs:List Value} {q:Nat} (h:WkP ob A q) (hv:A.heap[ob]?=some (.cells #[v] 83 (0,0))) (hr:A.ownsRow base 104 2 v n xs):base≤q∧q<A.heap.size:=hr.lt q (h.of hv)
end
end Go.Proofs.YtkhcaclndepgbaaGreat
namespace Go.Proofs.YtkhcaclndepgbaaGreat
open Go.RowKit
def rightT (B:Bs) (x:Int):Bool:=x==0||((heightP B 8 x).2==0&&rightP B ((heightP B 8 x).1 - 1) x 0 18446744073709551615 (if 1<(heightP B 8 x).1 then 2 else 1))
def Bs.mayC (B:Bs) (x:Int):Bool:=decide (2≤x)&&decide (x<(B.T.n:Int)) && !pageB B 0 x && !pageB B 1 x
theorem BaseC.cont {w:World} {M:Bm} {R:Br} {B:Bs} (h:BaseC w M R B) {k:Nat} (hk:k<2) (x:Int) :
  Calls Tryz.prog 148 #[.slice (some ⟨R.g k,0,none⟩) (nOf B.T.n k) (R.c k),.int .i64 x] w fun e w'=>e = .returned (.bool (pageB B k x))∧w=w':=by
 have n1:=h.ok.n
 have hp:=nOf_pos (k:=k) n1.1
 have hle:nOf B.T.n k≤4096:=by unfold nOf pg;split <;> omega
 rcases h.sh.l k hk with ⟨e,_⟩ | ⟨g,c,e,h1,h2,h3,h4⟩
 ·cases e
 ·injection e with e e2 e3
  injection e with e
  injection e with e
  subst e3
  rw [← e] at h4
  refine contI_at (l:=B.a k) hle ?_ (fun i hi=>?_) pageB_iff
  ·rw [e2];exact h1
  ·have:=h4 i (by rw [atL_len];exact hi)
   rw [atL_get _ _ hi] at this
   exact this
theorem bCount_bad {w:World} {M:Bm} {R:Br} {B:Bs} (h:BaseC w M R B) {x:Int} {v:Value} (hx:B.mayC x=false) :
  Calls Tryz.prog 93 #[.pointer (some ⟨M.b,0,none⟩),.int .i64 x,v] w fun e w'=>e = .returned (.int .i64 2)∧w=w':=by
 have n1:=h.ok.n
 have cb:=bBlocks_at h
 have c3:=h.c3
 have c4:=h.c4
 have p0:=h.cont (k:=0) (by omega) x
 have p1:=h.cont (k:=1) (by omega) x
 have HX:=Lib.hid hx
 unfold Bs.mayC at hx
 by_cases i0:x<2
 ·go_enter Tryz.func93,Tryz.ntmps93
  go_wp2_with fail
  go_ret
  exact ⟨rfl,rfl⟩
 by_cases i1:(B.T.n:Int)≤x
 ·go_enter Tryz.func93,Tryz.ntmps93
  go_wp2_with fail
  refine (cb).mono ?_
  rintro e w' ⟨rfl,rfl⟩
  go_wp2_with fail
  go_ret
  exact ⟨rfl,rfl⟩
 rw [decide_eq_true (by omega),decide_eq_true (by omega)] at hx
 cases e0:pageB B 0 x with
 | true =>
  rw [e0] at p0
  go_enter Tryz.func93,Tryz.ntmps93
  go_wp2_with fail
  refine (cb).mono ?_
  rintro e w' ⟨rfl,rfl⟩
  go_wp2_with fail
  refine (p0).mono ?_
  rintro e w' ⟨rfl,rfl⟩
  go_wp2_with fail
  go_ret
  exact ⟨rfl,rfl⟩
 | false =>
  have e1:pageB B 1 x=true:=by rw [e0] at hx;simpa using hx
  rw [e0] at p0
  rw [e1] at p1
  go_enter Tryz.func93,Tryz.ntmps93
  go_wp2_with fail
  refine (cb).mono ?_
  rintro e w' ⟨rfl,rfl⟩
  go_wp2_with fail
  refine (p0).mono ?_
  rintro e w' ⟨rfl,rfl⟩
  go_wp2_with fail
  refine (p1).mono ?_
  rintro e w' ⟨rfl,rfl⟩
  go_wp2_with fail
  go_ret
  exact ⟨rfl,rfl⟩
theorem Bs.mayC_nat {B:Bs} {x:Int} (h:B.mayC x=true):2≤x∧x<(B.T.n:Int)∧pageB B 0 x=false∧pageB B 1 x=false:=by
 simp only [Bs.mayC,Bool.and_eq_true,decide_eq_true_iff,Bool.not_eq_true'] at h
 exact ⟨h.1.1.1,h.1.1.2,h.1.2,h.2⟩
theorem bCount_zero {w:World} {M:Bm} {R:Br} {B:Bs} (h:BaseC w M R B) {x:Int} {v:Value} (hx:B.mayC x=true) (h0:getV B.T x=0) :
  Calls Tryz.prog 93 #[.pointer (some ⟨M.b,0,none⟩),.int .i64 x,v] w fun e w'=>e = .returned (.int .i64 82)∧w=w':=by
 have n1:=h.ok.n
 have cb:=bBlocks_at h
 have c1:=h.c1
 have c3:=h.c3
 have c4:=h.c4
 have p0:=h.cont (k:=0) (by omega) x
 have p1:=h.cont (k:=1) (by omega) x
 obtain ⟨j0,j1,e0,e1⟩:=B.mayC_nat hx
 have i0:¬ x<2:=by omega
 have i1:¬ (B.T.n:Int)≤x:=by omega
 rw [e0] at p0
 rw [e1] at p1
 have cg:=get_at h.pt.ht x
 rw [h0] at cg
 clear e0 e1 h0 h hx
 go_enter Tryz.func93,Tryz.ntmps93
 go_wp2_with fail
 refine (cb).mono ?_
 rintro e w' ⟨rfl,rfl⟩
 go_wp2_with fail
 refine (p0).mono ?_
 rintro e w' ⟨rfl,rfl⟩
 go_wp2_with fail
 refine (p1).mono ?_
 rintro e w' ⟨rfl,rfl⟩
 go_wp2_with fail
 refine (cg).mono ?_
 rintro e w' ⟨rfl,rfl⟩
 go_wp2_with fail
 go_ret
 exact ⟨rfl,rfl⟩
theorem BaseIn.less {w w2:World} {M:Bm} {R:Br} {B B':Bs} {F:List Nat} (h:BaseIn w M R B) (hFF:∀ q,Bown M R B q→q∉F) (c:Chg M.L w w2) (hn:B'.T.n=B.T.n) (ha:B'.a=B.a) (hD:B'.D=B.D)
  (hfr:∀ y f,B'.fr y=some f→B.fr y=some f) (pt:PT w2 M.p M.t M.bc M.bk B'.K B'.T) (top:w2.heap[M.b]?=some (.cells (fnRow 44 (baseV M R B')) 51 (0,0))) (fm:KMapV Tryz.prog 3 goodF w2 M.mf B.T.n (frV R B'))
  (d:DiskAt w2 M.d M.bb (.slice none 0 0) ⟨B.T.n,B.D,[]⟩) (ok:B'.Ok) (hF:∀ q,q∈F→q<w.heap.size):BaseAt w2 M F B':=by
 have hin:BaseIn w2 M R B':=h.remake c hn ha rfl rfl top pt (by rw [hn];exact fm) (fun k f hk hf=>h.fd_keep c (by rw [← hn];exact hk) (hfr k f hf)) (by rw [hn,hD];exact d) ok
 refine BaseAt.of h hFF hin hn rfl hF (fun k hk hs => .inl ⟨?_,rfl⟩)
 cases hq:B'.fr k with
 | none=>rw [hq] at hs;cases hs
 | some f=>rw [hfr k f hq];rfl
def Bs.counted (B:Bs) (T':Tal) (x:Nat):Bs := { B with T:=T',fr:=fun y=>if y=x∧T'.now x=0 then none else B.fr y }
theorem bCount_up {w:World} {M:Bm} {F:List Nat} {B:Bs} (h:BaseAt w M F B) (hF:∀ q,q∈F→q<w.heap.size) {x:Nat} {E:Int} {T':Tal} (hx:B.mayC (x:Int)=true) (h0:B.T.now x≠0)
  (hg:∀ w,PT w M.p M.t M.bc M.bk B.K B.T→Calls Tryz.prog 96 #[.pointer (some ⟨M.t,0,none⟩),.int .i64 (x:Int)] w fun e w'=>e = .returned (.int .i64 E)∧PT w' M.p M.t M.bc M.bk B.K T'∧Chg [M.p,M.t,M.bc,M.bk] w w')
  (hn:T'.n=B.T.n) (hok:(B.counted T' x).Ok) :
  Calls Tryz.prog 93 #[.pointer (some ⟨M.b,0,none⟩),.int .i64 (x:Int),.func (.func 96) #[.pointer (some ⟨M.t,0,none⟩)] #[]] w fun e w'=>e = .returned (.int .i64 E)∧BaseAt w' M F (B.counted T' x)∧Chg M.L w w':=by
 obtain ⟨R,hB,hFF⟩:=h
 have n1:=hB.c.ok.n
 have cb:=bBlocks_at hB.c
 have c1:=hB.c.c1
 have c3:=hB.c.c3
 have c4:=hB.c.c4
 have p0:=hB.c.cont (k:=0) (by omega) (x:Int)
 have p1:=hB.c.cont (k:=1) (by omega) (x:Int)
 obtain ⟨j0,j1,e0,e1⟩:=B.mayC_nat hx
 have i0:¬ (x:Int)<2:=by omega
 have i1:¬ (B.T.n:Int)≤(x:Int):=by omega
 rw [e0] at p0
 rw [e1] at p1
 have xlt:x<B.T.n:=by omega
 have cg:=get_at hB.c.pt.ht (x:Int)
 have egv:∀ T:Tal,T.n=B.T.n→getV T (x:Int)=(T.now x:Int):=fun T hT=>by
  unfold getV
  rw [(hasB_iff T (x:Int)).2 (by omega),if_pos rfl,Int.toNat_natCast]
 rw [egv _ rfl] at cg
 have i2:¬ B.T.now x=0:=h0
 have CG:=Lib.hid (hg w hB.c.pt)
 have nd:=hB.nodup
 simp only [Bm.L,List.nodup_cons,List.mem_cons,List.not_mem_nil,or_false,not_or,List.nodup_nil,and_true] at nd
 have HB:=Lib.hid (And.intro hB hFF)
 have HH:=Lib.hid (And.intro hok (And.intro hF (And.intro nd egv)))
 clear hB hFF hok hF nd egv e0 e1 hx hg h0
 go_enter Tryz.func93,Tryz.ntmps93
 go_wp2_with fail
 refine (cb).mono ?_
 rintro e w' ⟨rfl,rfl⟩
 go_wp2_with fail
 refine (p0).mono ?_
 rintro e w' ⟨rfl,rfl⟩
 go_wp2_with fail
 refine (p1).mono ?_
 rintro e w' ⟨rfl,rfl⟩
 go_wp2_with fail
 refine (cg).mono ?_
 rintro e w' ⟨rfl,rfl⟩
 go_wp2_with fail
 go_simp
 refine CG.out.mono ?_
 rintro e w1 ⟨rfl,hpt,hc⟩
 have nd:=HH.out.2.2.1
 have hnb:∀ q,q≠M.p→q≠M.t→q≠M.bc→q≠M.bk→q∉[M.p,M.t,M.bc,M.bk]:=fun q a b c d=>by simp [a,b,c,d]
 have l1:=zhl HB.out.1.c.top
 have hb1:=(hc.block M.b l1 (hnb _ nd.1.2.2.1 nd.1.2.2.2.1 nd.1.2.2.2.2.1 nd.1.2.2.2.2.2.1)).trans HB.out.1.c.top
 have d1:w1.cell? ⟨M.b,1,none⟩=some (.pointer (some ⟨M.t,0,none⟩)):=(cell_fn hb1 (by omega)).trans rfl
 have d5:w1.cell? ⟨M.b,5,none⟩=some (.map (some M.mf)):=(cell_fn hb1 (by omega)).trans rfl
 have cg1:=get_at hpt.ht (x:Int)
 rw [HH.out.2.2.2 _ hn] at cg1
 have i3:x<B.T.n:=xlt
 have HP:=Lib.hid (And.intro hpt (And.intro hc (And.intro hb1 nd)))
 have l11:=zhl hb1
 clear hpt hc hb1 nd hnb
 have hm1:=HB.out.1.c.fm.chg HP.out.2.1 (by have:=HP.out.2.2.2;simp only [List.mem_cons,List.not_mem_nil,or_false,not_or];exact ⟨fun e=>this.2.2.2.1.2.2.2 e.symm,fun e=>this.2.2.2.2.1.2.2 e.symm,fun e=>this.2.2.2.2.2.1.2 e.symm,HB.out.1.c.ne⟩)
 by_cases hz:T'.now x=0
 ·obtain ⟨w2,hrun,hm2,ht2⟩:=hm1.del (t:=43) (k:=x) Tryz.underlying3 Tryz.underlying43 xlt n1.2 0
  have hc2:=mapTurned_chg ht2
  have HZ:=Lib.hid (And.intro hm2 hc2)
  clear hm1 hm2 ht2 hc2
  go_wp2_with fail
  refine (cg1).mono ?_
  rintro e w' ⟨rfl,rfl⟩
  go_wp2_with fail
  go_ret
  have nd:=HP.out.2.2.2
  have hne:∀ q,q≠M.mf→q∉[M.mf]:=fun q hq=>by simpa using hq
  have c02:Chg M.L w w2:=(HP.out.2.1.mono (by simp [Bm.L])).trans (HZ.out.2.mono (by simp [Bm.L]))
  refine ⟨rfl,HB.out.1.less HB.out.2 c02 hn rfl rfl (fun y f hy=>?_) (HP.out.1.chg HZ.out.2 (hne _ nd.2.2.2.1.2.2.2) (hne _ nd.2.2.2.2.1.2.2) (hne _ nd.2.2.2.2.2.1.2) (hne _ nd.2.2.2.2.2.2.1)) ?_ ?_ ?_ HH.out.1 HH.out.2.1,c02⟩
  ·have hy':(if y=x∧T'.now x=0 then none else B.fr y)=some f:=hy
   split at hy'
   ·cases hy'
   ·exact hy'
  ·rw [baseV_same (B:=B) (B':=B.counted T' x) hn rfl rfl rfl rfl]
   exact (HZ.out.2.block M.b l11 (hne _ nd.1.2.2.2.2.2.2)).trans HP.out.2.2.1
  ·refine HZ.out.1.congr (fun i hi=>?_)
   unfold frV Bs.counted
   by_cases e:i=x
   ·simp [e,hz]
   ·simp [e]
  ·exact (HB.out.1.d.chg HP.out.2.1 (by simp [nd]) (by simp [nd]) (fun k hk=>by cases hk)).chg HZ.out.2 (hne _ nd.2.1.2.2.2.2.2) (hne _ nd.2.2.1.2.2.2.2) (fun k hk=>by cases hk)
 ·have i4:¬ T'.now x=0:=hz
  have HM:=Lib.hid hm1
  clear hm1
  go_wp2_with fail
  refine (cg1).mono ?_
  rintro e w' ⟨rfl,rfl⟩
  go_wp2_with fail
  go_ret
  have nd:=HP.out.2.2.2
  have c02:Chg M.L w w1:=HP.out.2.1.mono (by simp [Bm.L])
  have efr:(B.counted T' x).fr=B.fr:=by
   funext y
   show (if y=x∧T'.now x=0 then none else B.fr y)=B.fr y
   rw [if_neg (fun h=>hz h.2)]
  refine ⟨rfl,HB.out.1.less HB.out.2 c02 hn rfl rfl (fun y f hy=>by rw [efr] at hy;exact hy) HP.out.1 ?_ ?_ ?_ HH.out.1 HH.out.2.1,c02⟩
  ·rw [baseV_same (B:=B) (B':=B.counted T' x) hn rfl rfl rfl rfl]
   exact HP.out.2.2.1
  ·refine HM.out.congr (fun i hi=>?_)
   unfold frV
   rw [efr]
  ·exact HB.out.1.d.chg HP.out.2.1 (by simp [nd]) (by simp [nd]) (fun k hk=>by cases hk)
theorem bCount_dn {w:World} {M:Bm} {F:List Nat} {B:Bs} (h:BaseAt w M F B) (hF:∀ q,q∈F→q<w.heap.size) {x:Nat} {E:Int} {T':Tal} (hx:B.mayC (x:Int)=true) (h0:B.T.now x≠0)
  (hg:∀ w,PT w M.p M.t M.bc M.bk B.K B.T→Calls Tryz.prog 94 #[.pointer (some ⟨M.t,0,none⟩),.int .i64 (x:Int)] w fun e w'=>e = .returned (.int .i64 E)∧PT w' M.p M.t M.bc M.bk B.K T'∧Chg [M.p,M.t,M.bc,M.bk] w w')
  (hn:T'.n=B.T.n) (hok:(B.counted T' x).Ok) :
  Calls Tryz.prog 93 #[.pointer (some ⟨M.b,0,none⟩),.int .i64 (x:Int),.func (.func 94) #[.pointer (some ⟨M.t,0,none⟩)] #[]] w fun e w'=>e = .returned (.int .i64 E)∧BaseAt w' M F (B.counted T' x)∧Chg M.L w w':=by
 obtain ⟨R,hB,hFF⟩:=h
 have n1:=hB.c.ok.n
 have cb:=bBlocks_at hB.c
 have c1:=hB.c.c1
 have c3:=hB.c.c3
 have c4:=hB.c.c4
 have p0:=hB.c.cont (k:=0) (by omega) (x:Int)
 have p1:=hB.c.cont (k:=1) (by omega) (x:Int)
 obtain ⟨j0,j1,e0,e1⟩:=B.mayC_nat hx
 have i0:¬ (x:Int)<2:=by omega
 have i1:¬ (B.T.n:Int)≤(x:Int):=by omega
 rw [e0] at p0
 rw [e1] at p1
 have xlt:x<B.T.n:=by omega
 have cg:=get_at hB.c.pt.ht (x:Int)
 have egv:∀ T:Tal,T.n=B.T.n→getV T (x:Int)=(T.now x:Int):=fun T hT=>by
  unfold getV
  rw [(hasB_iff T (x:Int)).2 (by omega),if_pos rfl,Int.toNat_natCast]
 rw [egv _ rfl] at cg
 have i2:¬ B.T.now x=0:=h0
 have CG:=Lib.hid (hg w hB.c.pt)
 have nd:=hB.nodup
 simp only [Bm.L,List.nodup_cons,List.mem_cons,List.not_mem_nil,or_false,not_or,List.nodup_nil,and_true] at nd
 have HB:=Lib.hid (And.intro hB hFF)
 have HH:=Lib.hid (And.intro hok (And.intro hF (And.intro nd egv)))
 clear hB hFF hok hF nd egv e0 e1 hx hg h0
 go_enter Tryz.func93,Tryz.ntmps93
 go_wp2_with fail
 refine (cb).mono ?_
 rintro e w' ⟨rfl,rfl⟩
 go_wp2_with fail
 refine (p0).mono ?_
 rintro e w' ⟨rfl,rfl⟩
 go_wp2_with fail
 refine (p1).mono ?_
 rintro e w' ⟨rfl,rfl⟩
 go_wp2_with fail
 refine (cg).mono ?_
 rintro e w' ⟨rfl,rfl⟩
 go_wp2_with fail
 go_simp
 refine CG.out.mono ?_
 rintro e w1 ⟨rfl,hpt,hc⟩
 have nd:=HH.out.2.2.1
 have hnb:∀ q,q≠M.p→q≠M.t→q≠M.bc→q≠M.bk→q∉[M.p,M.t,M.bc,M.bk]:=fun q a b c d=>by simp [a,b,c,d]
 have l1:=zhl HB.out.1.c.top
 have hb1:=(hc.block M.b l1 (hnb _ nd.1.2.2.1 nd.1.2.2.2.1 nd.1.2.2.2.2.1 nd.1.2.2.2.2.2.1)).trans HB.out.1.c.top
 have d1:w1.cell? ⟨M.b,1,none⟩=some (.pointer (some ⟨M.t,0,none⟩)):=(cell_fn hb1 (by omega)).trans rfl
 have d5:w1.cell? ⟨M.b,5,none⟩=some (.map (some M.mf)):=(cell_fn hb1 (by omega)).trans rfl
 have cg1:=get_at hpt.ht (x:Int)
 rw [HH.out.2.2.2 _ hn] at cg1
 have i3:x<B.T.n:=xlt
 have HP:=Lib.hid (And.intro hpt (And.intro hc (And.intro hb1 nd)))
 have l11:=zhl hb1
 clear hpt hc hb1 nd hnb
 have hm1:=HB.out.1.c.fm.chg HP.out.2.1 (by have:=HP.out.2.2.2;simp only [List.mem_cons,List.not_mem_nil,or_false,not_or];exact ⟨fun e=>this.2.2.2.1.2.2.2 e.symm,fun e=>this.2.2.2.2.1.2.2 e.symm,fun e=>this.2.2.2.2.2.1.2 e.symm,HB.out.1.c.ne⟩)
 by_cases hz:T'.now x=0
 ·obtain ⟨w2,hrun,hm2,ht2⟩:=hm1.del (t:=43) (k:=x) Tryz.underlying3 Tryz.underlying43 xlt n1.2 0
  have hc2:=mapTurned_chg ht2
  have HZ:=Lib.hid (And.intro hm2 hc2)
  clear hm1 hm2 ht2 hc2
  go_wp2_with fail
  refine (cg1).mono ?_
  rintro e w' ⟨rfl,rfl⟩
  go_wp2_with fail
  go_ret
  have nd:=HP.out.2.2.2
  have hne:∀ q,q≠M.mf→q∉[M.mf]:=fun q hq=>by simpa using hq
  have c02:Chg M.L w w2:=(HP.out.2.1.mono (by simp [Bm.L])).trans (HZ.out.2.mono (by simp [Bm.L]))
  refine ⟨rfl,HB.out.1.less HB.out.2 c02 hn rfl rfl (fun y f hy=>?_) (HP.out.1.chg HZ.out.2 (hne _ nd.2.2.2.1.2.2.2) (hne _ nd.2.2.2.2.1.2.2) (hne _ nd.2.2.2.2.2.1.2) (hne _ nd.2.2.2.2.2.2.1)) ?_ ?_ ?_ HH.out.1 HH.out.2.1,c02⟩
  ·have hy':(if y=x∧T'.now x=0 then none else B.fr y)=some f:=hy
   split at hy'
   ·cases hy'
   ·exact hy'
  ·rw [baseV_same (B:=B) (B':=B.counted T' x) hn rfl rfl rfl rfl]
   exact (HZ.out.2.block M.b l11 (hne _ nd.1.2.2.2.2.2.2)).trans HP.out.2.2.1
  ·refine HZ.out.1.congr (fun i hi=>?_)
   unfold frV Bs.counted
   by_cases e:i=x
   ·simp [e,hz]
   ·simp [e]
  ·exact (HB.out.1.d.chg HP.out.2.1 (by simp [nd]) (by simp [nd]) (fun k hk=>by cases hk)).chg HZ.out.2 (hne _ nd.2.1.2.2.2.2.2) (hne _ nd.2.2.1.2.2.2.2) (fun k hk=>by cases hk)
 ·have i4:¬ T'.now x=0:=hz
  have HM:=Lib.hid hm1
  clear hm1
  go_wp2_with fail
  refine (cg1).mono ?_
  rintro e w' ⟨rfl,rfl⟩
  go_wp2_with fail
  go_ret
  have nd:=HP.out.2.2.2
  have c02:Chg M.L w w1:=HP.out.2.1.mono (by simp [Bm.L])
  have efr:(B.counted T' x).fr=B.fr:=by
   funext y
   show (if y=x∧T'.now x=0 then none else B.fr y)=B.fr y
   rw [if_neg (fun h=>hz h.2)]
  refine ⟨rfl,HB.out.1.less HB.out.2 c02 hn rfl rfl (fun y f hy=>by rw [efr] at hy;exact hy) HP.out.1 ?_ ?_ ?_ HH.out.1 HH.out.2.1,c02⟩
  ·rw [baseV_same (B:=B) (B':=B.counted T' x) hn rfl rfl rfl rfl]
   exact HP.out.2.2.1
  ·refine HM.out.congr (fun i hi=>?_)
   unfold frV
   rw [efr]
  ·exact HB.out.1.d.chg HP.out.2.1 (by simp [nd]) (by simp [nd]) (fun k hk=>by cases hk)
def Bs.upE (B:Bs) (x:Int):Int:=if B.mayC x then (if getV B.T x=0 then 82 else Proofs.YtkhcaclndepgbaaGreat.upE B.T x) else 2
def Bs.downE (B:Bs) (x:Int):Int:=if B.mayC x then (if getV B.T x=0 then 82 else Proofs.YtkhcaclndepgbaaGreat.downE B.T x) else 2
def Bs.up (B:Bs) (x:Int):Bs:=if B.mayC x && !decide (getV B.T x=0) then B.counted (Proofs.YtkhcaclndepgbaaGreat.up B.T x) x.toNat else B
def Bs.down (B:Bs) (x:Int):Bs:=if B.mayC x && !decide (getV B.T x=0) then B.counted (Proofs.YtkhcaclndepgbaaGreat.down B.T x) x.toNat else B
theorem pageB_no {B:Bs} {x k i:Nat} (h:pageB B k (x:Int)=false) (hi:i<nOf B.T.n k):B.a k i≠x:=fun e=>by
 have:=pageB_iff.2 ⟨i,hi,(by rw [e]:(B.a k i:Int)=(x:Int))⟩
 rw [h] at this;cases this
theorem Bs.Ok.counted_ok {B:Bs} (h:B.Ok) {x v:Nat} (h0:B.T.now x≠0) (hx:B.mayC (x:Int)=true) (hv:v≤65535):(B.counted (B.T.set x v) x).Ok:=by
 obtain ⟨j0,j1,e0,e1⟩:=B.mayC_nat hx
 have hset:∀ y,(B.T.set x v).now y=if y=x then v else B.T.now y:=fun y=>set_now ..
 have hp:∀ k i,k<2→i<nOf B.T.n k→B.a k i≠x:=fun k i hk hi=>by
  rcases (show k=0∨k=1 by omega) with rfl | rfl
  ·exact pageB_no e0 hi
  ·exact pageB_no e1 hi
 refine { n:=h.n,own:=h.own.set v hp,a2:=h.a2,low:=?_,le:=?_,first:=h.first,nx:=h.nx,fr:=?_,fle:=?_,s:=h.s,kp:=h.kp,sg:=h.sg,disk:=h.disk,dle:=h.dle }
 ·intro b hb
  refine ⟨?_,(h.low b hb).2⟩
  show (B.T.set x v).now b=0
  rw [hset,if_neg (by omega)];exact (h.low b hb).1
 ·intro b hb
  refine ⟨?_,(h.le b hb).2⟩
  show (B.T.set x v).now b≤65535
  rw [hset]
  split
  ·exact hv
  ·exact (h.le b hb).1
 ·intro b hb
  show ((if b=x∧(B.T.set x v).now x=0 then none else B.fr b).isSome=true↔B.T.kept b=0∧(B.T.set x v).now b≠0)
  have hf:=h.fr b hb
  rw [hset,hset,if_pos rfl]
  by_cases e:b=x
  ·subst e
   rw [if_pos rfl]
   by_cases e2:v=0
   ·simp [e2]
   ·simp only [e2,and_false,if_false]
    rw [hf]
    exact ⟨fun q=>⟨q.1,e2⟩,fun q=>⟨q.1,h0⟩⟩
  ·rw [if_neg (fun q=>e q.1),if_neg e];exact hf
 ·intro b f hb hf
  have hf':(if b=x∧(B.T.set x v).now x=0 then none else B.fr b)=some f:=hf
  split at hf'
  ·cases hf'
  ·exact h.fle b f hb hf'
theorem Bs.Ok.up_counted {B:Bs} (h:B.Ok) {x:Nat} (h0:B.T.now x≠0) (hx:B.mayC (x:Int)=true):(B.counted (Proofs.YtkhcaclndepgbaaGreat.up B.T (x:Int)) x).Ok:=by
 obtain ⟨j0,j1,e0,e1⟩:=B.mayC_nat hx
 have hh:=(hasB_iff B.T (x:Int)).2 (by omega)
 unfold Proofs.YtkhcaclndepgbaaGreat.up
 by_cases e:B.T.now x=65535
 ·have:Proofs.YtkhcaclndepgbaaGreat.upE B.T (x:Int)=81:=by simp [Proofs.YtkhcaclndepgbaaGreat.upE,hh,e]
  rw [this,if_neg (by decide)]
  have es:B.T.set x (B.T.now x)=B.T:=by
   show ({ B.T with now:=_ } : Tal)=B.T
   rw [show (fun i=>if i=x then B.T.now x else B.T.now i)=B.T.now from funext fun i=>by by_cases q:i=x <;> simp [q]]
  have:=h.counted_ok (v:=B.T.now x) h0 hx (by omega)
  rw [es] at this
  exact this
 ·have:Proofs.YtkhcaclndepgbaaGreat.upE B.T (x:Int)=0:=by simp [Proofs.YtkhcaclndepgbaaGreat.upE,hh,e]
  rw [this,if_pos rfl,Int.toNat_natCast]
  have:=(h.le x (by omega)).1
  exact h.counted_ok h0 hx (by omega)
theorem Bs.Ok.down_counted {B:Bs} (h:B.Ok) {x:Nat} (h0:B.T.now x≠0) (hx:B.mayC (x:Int)=true):(B.counted (Proofs.YtkhcaclndepgbaaGreat.down B.T (x:Int)) x).Ok:=by
 obtain ⟨j0,j1,e0,e1⟩:=B.mayC_nat hx
 have hh:=(hasB_iff B.T (x:Int)).2 (by omega)
 unfold Proofs.YtkhcaclndepgbaaGreat.down
 have:Proofs.YtkhcaclndepgbaaGreat.downE B.T (x:Int)=0:=by simp [Proofs.YtkhcaclndepgbaaGreat.downE,hh,h0]
 rw [this,if_pos rfl,Int.toNat_natCast]
 have:=(h.le x (by omega)).1
 exact h.counted_ok h0 hx (by omega)
theorem bUp_in {w:World} {M:Bm} {F:List Nat} {B:Bs} (h:BaseAt w M F B) (hF:∀ q,q∈F→q<w.heap.size) (x:Int) :
  Calls Tryz.prog 93 #[.pointer (some ⟨M.b,0,none⟩),.int .i64 x,.func (.func 96) #[.pointer (some ⟨M.t,0,none⟩)] #[]] w fun e w'=>e = .returned (.int .i64 (B.upE x))∧BaseAt w' M F (B.up x)∧Chg M.L w w':=by
 have h':=h
 obtain ⟨R,hB,hFF⟩:=h'
 unfold Bs.upE Bs.up
 cases hx:B.mayC x with
 | false=>exact (bCount_bad hB.c hx).mono fun e w' ⟨q1,q2⟩=>by subst q2;exact ⟨q1,h,Chg.refl _ _⟩
 | true =>
  by_cases h0:getV B.T x=0
  ·rw [if_pos rfl,if_pos h0,decide_eq_true h0]
   exact (bCount_zero hB.c hx h0).mono fun e w' ⟨q1,q2⟩=>by subst q2;exact ⟨q1,h,Chg.refl _ _⟩
  ·rw [if_pos rfl,if_neg h0,decide_eq_false h0,if_pos (show (true && !false)=true from rfl)]
   obtain ⟨j0,j1,-,-⟩:=B.mayC_nat hx
   obtain ⟨y,rfl⟩:=Int.eq_ofNat_of_zero_le (show 0≤x by omega)
   rw [Int.toNat_natCast]
   have hn0:B.T.now y≠0:=fun e=>h0 (by unfold getV;rw [(hasB_iff B.T (y:Int)).2 (by omega),if_pos rfl,Int.toNat_natCast,e];rfl)
   exact bCount_up h hF hx hn0 (fun w hpt=>hpt.up _) (up_n ..) (hB.c.ok.up_counted hn0 hx)
theorem bDown_in {w:World} {M:Bm} {F:List Nat} {B:Bs} (h:BaseAt w M F B) (hF:∀ q,q∈F→q<w.heap.size) (x:Int) :
  Calls Tryz.prog 93 #[.pointer (some ⟨M.b,0,none⟩),.int .i64 x,.func (.func 94) #[.pointer (some ⟨M.t,0,none⟩)] #[]] w fun e w'=>e = .returned (.int .i64 (B.downE x))∧BaseAt w' M F (B.down x)∧Chg M.L w w':=by
 have h':=h
 obtain ⟨R,hB,hFF⟩:=h'
 unfold Bs.downE Bs.down
 cases hx:B.mayC x with
 | false=>exact (bCount_bad hB.c hx).mono fun e w' ⟨q1,q2⟩=>by subst q2;exact ⟨q1,h,Chg.refl _ _⟩
 | true =>
  by_cases h0:getV B.T x=0
  ·rw [if_pos rfl,if_pos h0,decide_eq_true h0]
   exact (bCount_zero hB.c hx h0).mono fun e w' ⟨q1,q2⟩=>by subst q2;exact ⟨q1,h,Chg.refl _ _⟩
  ·rw [if_pos rfl,if_neg h0,decide_eq_false h0,if_pos (show (true && !false)=true from rfl)]
   obtain ⟨j0,j1,-,-⟩:=B.mayC_nat hx
   obtain ⟨y,rfl⟩:=Int.eq_ofNat_of_zero_le (show 0≤x by omega)
   rw [Int.toNat_natCast]
   have hn0:B.T.now y≠0:=fun e=>h0 (by unfold getV;rw [(hasB_iff B.T (y:Int)).2 (by omega),if_pos rfl,Int.toNat_natCast,e];rfl)
   exact bCount_dn h hF hx hn0 (fun w hpt=>hpt.down _) (down_n ..) (hB.c.ok.down_counted hn0 hx)
theorem bUp_at {w:World} {M:Bm} {F:List Nat} {B:Bs} (h:BaseAt w M F B) (hF:∀ q,q∈F→q<w.heap.size) (x:Int) :
  Calls Tryz.prog 28 #[.pointer (some ⟨M.b,0,none⟩),.int .i64 x] w fun e w'=>e = .returned (.int .i64 (B.upE x))∧BaseAt w' M F (B.up x)∧Chg M.L w w':=by
 have h':=h
 obtain ⟨R,hB,hFF⟩:=h'
 have cm:=bMay_at hB.c
 have c1:=hB.c.c1
 have cc:=Lib.hid (bUp_in h hF x)
 clear h hB hFF hF
 go_enter Tryz.func28,Tryz.ntmps28
 go_wp2_with fail
 refine (cm).mono ?_
 rintro e w' ⟨rfl,rfl⟩
 go_wp2_with fail
 refine cc.out.mono ?_
 rintro e w' ⟨rfl,hq⟩
 have HQ:=Lib.hid hq
 clear hq cc
 go_wp2_with fail
 go_ret
 exact ⟨rfl,HQ.out⟩
theorem bDown_at {w:World} {M:Bm} {F:List Nat} {B:Bs} (h:BaseAt w M F B) (hF:∀ q,q∈F→q<w.heap.size) (x:Int) :
  Calls Tryz.prog 23 #[.pointer (some ⟨M.b,0,none⟩),.int .i64 x] w fun e w'=>e = .returned (.int .i64 (B.downE x))∧BaseAt w' M F (B.down x)∧Chg M.L w w':=by
 have h':=h
 obtain ⟨R,hB,hFF⟩:=h'
 have cm:=bMay_at hB.c
 have c1:=hB.c.c1
 have cc:=Lib.hid (bDown_in h hF x)
 clear h hB hFF hF
 go_enter Tryz.func23,Tryz.ntmps23
 go_wp2_with fail
 refine (cm).mono ?_
 rintro e w' ⟨rfl,rfl⟩
 go_wp2_with fail
 refine cc.out.mono ?_
 rintro e w' ⟨rfl,hq⟩
 have HQ:=Lib.hid hq
 clear hq cc
 go_wp2_with fail
 go_ret
 exact ⟨rfl,HQ.out⟩
end Go.Proofs.YtkhcaclndepgbaaGreat
