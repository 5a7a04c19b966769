/- Package find: the node at a block, as plain data; find.Node. · Layer 13 in plain words: what find tells of a tree. · catchmentlow.EqualNumbers, EqualNodes, AgainNumbers. · Package node: Right, At; slices.BinarySearch of numbers. · Package find: kid, Get, Height. · Package find: right, Right. · A loop over an iterator whose body keeps a growing slice of its own: blocks that the body alone writes (Pv: in each world, which). · Package find: items, walk. · Package find: items, any tree. -/
import Derived.Test.YtkhcaclndepgbaaGreatZm19
import Derived.Test.YtkhcaclndepgbaaGreatZm20
import Derived.Test.YtkhcaclndepgbaaGreatZm23
import Derived.BigQuiet
import Derived.BigGuard
import Derived.Deep.RegionHeld3
import Derived.BigRegion
import Derived.Test.YtkhcaclndepgbaaGreatZm04
import Derived.Test.YtkhcaclndepgbaaGreatZm05
import Derived.BigGuardIn
set_option linter.unusedVariables false
set_option linter.unusedSimpArgs false
set_option maxRecDepth 100000
set_option maxHeartbeats 20000000
namespace Go.Proofs.YtkhcaclndepgbaaGreat
open Go.RowKit
structure Nd where
 leaf:Bool
 n:Nat
 k:Nat→Nat
 v:Nat→Nat
def decN (f:Nat→Nat):Option Nd:=if decB 128 f then some ⟨decide (f 0=1),f 1,pkey f,pval f⟩ else none
structure Nd.Ok (d:Nd):Prop where
 n:d.n≤7
 k:∀ i,i<d.n→d.k i<18446744073709551616
 v:∀ i,i<d.n→d.v i<18446744073709551616
 asc:ascTo d.k d.n
 kids:d.leaf=false→kidsB d.v d.n=true
def Bs.inI (B:Bs) (x:Int):Bool:=decide (2≤x)&&decide (x<(B.T.n:Int))
def Bs.nodeI (B:Bs) (x:Int):Option Nd:=if B.inI x then decN (B.read x.toNat) else none
def Bs.nodeE (B:Bs) (x:Int):Int:=if B.inI x then 130 else 2
theorem num8_lt {f:Nat→Nat} {p:Nat} (h:∀ i,i<8→f (p+i)≤255):num f p 8<18446744073709551616:=by
 have:=num_lt (f:=f) (p:=p) (k:=8) h
 rwa [show (256:Nat) ^ 8=18446744073709551616 by decide] at this
theorem decN_some {f:Nat→Nat} {d:Nd} (h:decN f=some d):decB 128 f=true∧d=⟨decide (f 0=1),f 1,pkey f,pval f⟩:=by
 unfold decN at h
 split at h
 ·rename_i e;injection h with h;exact ⟨e,h.symm⟩
 ·cases h
theorem decN_ok {f:Nat→Nat} {d:Nd} (h:decN f=some d) (hf:∀ i,i<128→f i≤255):d.Ok:=by
 obtain ⟨e,rfl⟩:=decN_some h
 unfold decB at e
 simp only [Bool.and_eq_true,decide_eq_true_eq] at e
 obtain ⟨⟨_,_,_,h7⟩,hr,_⟩:=e
 have hr':=hr
 unfold rightB at hr'
 simp only [Bool.and_eq_true,decide_eq_true_eq,Bool.or_eq_true] at hr'
 refine ⟨h7,fun i hi=>?_,fun i hi=>?_,(ascB_iff _ _).1 hr'.2.2.2,fun hl=>?_⟩
 ·change i<f 1 at hi
  show pkey f i<_
  unfold pkey keyF
  rw [if_pos hi]
  exact num8_lt fun j hj=>hf _ (by omega)
 ·change i<f 1 at hi
  show pval f i<_
  unfold pval valF
  rw [if_pos hi]
  exact num8_lt fun j hj=>hf _ (by omega)
 ·rcases hr'.2.2.1 with q | q
  ·rw [decide_eq_true q] at hl;cases hl
  ·exact q
theorem Bs.Ok.read_le {B:Bs} (h:B.Ok) {b:Nat} (hb:b<B.T.n):∀ i,i<128→B.read b i≤255:=by
 intro i hi
 unfold Bs.read
 cases hf:B.fr b with
 | none=>exact h.dle b hb i hi
 | some f=>exact h.fle b f hb hf i hi
theorem inI_iff {B:Bs} {x:Int} : B.inI x=true↔2≤x∧x<(B.T.n:Int):=by unfold Bs.inI;simp
theorem Bs.Ok.node_ok {B:Bs} (h:B.Ok) {x:Int} {d:Nd} (hd:B.nodeI x=some d):d.Ok∧2≤x∧x<(B.T.n:Int):=by
 unfold Bs.nodeI at hd
 split at hd
 ·rename_i e
  have e:=inI_iff.1 e
  exact ⟨decN_ok hd (h.read_le (by omega)),e⟩
 ·cases hd
def NodeEnd (w:World) (o:Option Nd) (E:Int) (e:Ending) (w':World):Prop :=
 (∃ d kb vb,o=some d∧e = .returned (.tuple #[.agg #[.bool d.leaf,.slice (some ⟨kb,0,none⟩) d.n d.n,.slice (some ⟨vb,0,none⟩) d.n d.n],.int .i64 0])∧w.heap.size≤kb∧w.heap.size≤vb∧kb≠vb∧Row64 w' kb d.n d.k∧Row64 w' vb d.n d.v∧Chg [] w w') ∨
 (o=none∧e = .returned (.tuple #[.agg #[.bool false,.slice none 0 0,.slice none 0 0],.int .i64 E])∧Chg [] w w')
theorem bRead_bad {w:World} {M:Bm} {R:Br} {B:Bs} (h:BaseC w M R B) {x:Int} (hx:x<0∨(B.T.n:Int)≤x) :
  Calls Tryz.prog 26 #[.pointer (some ⟨M.b,0,none⟩),.int .i64 x] w fun e w'=>e = .returned (.tuple #[.slice none 0 0,.int .i64 2])∧w=w':=by
 have cn:=bNone_at h
 have cb:=bBlocks_at h
 by_cases i0:x<0
 ·go_enter Tryz.func26,Tryz.ntmps26
  go_wp2_with fail
  refine (cn).mono ?_
  rintro e w' ⟨rfl,rfl⟩
  go_wp2_with fail
  go_ret2
  exact ⟨rfl,rfl⟩
 ·have i1:(B.T.n:Int)≤x:=by omega
  go_enter Tryz.func26,Tryz.ntmps26
  go_wp2_with fail
  refine (cn).mono ?_
  rintro e w' ⟨rfl,rfl⟩
  go_wp2_with fail
  refine (cb).mono ?_
  rintro e w' ⟨rfl,rfl⟩
  go_wp2_with fail
  go_ret2
  exact ⟨rfl,rfl⟩
theorem set3 {w:World} {r:Nat} {x y z:Value} {T:TypeId} (h:w.heap[r]?=some (.cells #[x,y,z] T (0,0))) (a b c:Value) :
  (((w.setCell ⟨r,0,none⟩ a).setCell ⟨r,1,none⟩ b).setCell ⟨r,2,none⟩ c).heap[r]?=some (.cells #[a,b,c] T (0,0)):=by
 have h3:=zsb (zsb (zsb h 0 a) 1 b) 2 c
 simpa using h3
theorem set3_chg (w:World) (r:Nat) (a b c:Value):Chg [r] w (((w.setCell ⟨r,0,none⟩ a).setCell ⟨r,1,none⟩ b).setCell ⟨r,2,none⟩ c) :=
 (((Chg.refl _ _).setCell (.inl (by simp)) _).setCell (.inl (by simp)) _).setCell (.inl (by simp)) _
theorem infoNode:(Tryz.prog.info? 107).map (·.size)=some 3:=by kernel_rfl
theorem load3 {w:World} {r:Nat} {a b c:Value} (h:w.heap[r]?=some (.cells #[a,b,c] 107 (0,0))):(loadVar 107 ⟨r,0,none⟩).run Tryz.prog w = .ok (.agg #[a,b,c]) w:=by
 have hr:=run_loadVar_mid (P:=Tryz.prog) w r 0 107 [a,b,c] _ (fun j v hv=>by
  rw [Nat.zero_add,zcb h,← hv,← Array.getElem?_toList]) Tryz.underlying107 rfl infoNode
 exact hr
section
variable {w:World} {x:Int}
theorem fNode_none {p:Option Addr} (h:NoB w p) :
  Calls Tryz.prog 61 #[.pointer p,.int .i64 x] w fun e w'=>e = .returned (.tuple #[.agg #[.bool false,.slice none 0 0,.slice none 0 0],.int .i64 1])∧Chg [] w w':=by
 have hX:=znb w (.cells #[.bool false,.slice none 0 0,.slice none 0 0] 107)
 have hW:=(Chg.refl [] w).alloc (.cells #[.bool false,.slice none 0 0,.slice none 0 0] 107)
 have hs:=zhl hX
 have cb:=noB_blocks (h.chg hW (fun b _=>by simp))
 have HX:=Lib.hid (And.intro hX hW)
 have f0:=zfb hX 0
 have f1:=zfb hX 1
 have f2:=zfb hX 2
 have x0:=zcb hX 0
 have x1:=zcb hX 1
 have x2:=zcb hX 2
 simp only [List.getElem?_toArray,List.getElem?_cons_zero,List.getElem?_cons_succ] at x0 x1 x2
 clear h hX hW
 go_enter Tryz.func61,Tryz.ntmps61
 go_upto_region 1 with fail
 generalize w.alloc (.cells #[.bool false,.slice none 0 0,.slice none 0 0] 107)=W at *
 go_wp2_with fail
 refine (cb).mono ?_
 rintro e w' ⟨rfl,rfl⟩
 go_wp2_with fail
 refine bodyPost_ret (results_ct (a:=4) (b:=5) (by kernel_rfl) rfl (load3 (set3 HX.out.1 _ _ _))) rfl ⟨rfl,?_⟩
 exact HX.out.2.then (set3_chg _ _ _ _ _) (fun q hq=>by simp only [List.mem_singleton] at hq;subst hq;exact .inr (Nat.le_refl _))
theorem fNode_in {M:Bm} {R:Br} {B:Bs} (h:BaseIn w M R B):Calls Tryz.prog 61 #[.pointer (some ⟨M.b,0,none⟩),.int .i64 x] w (NodeEnd w (B.nodeI x) (B.nodeE x)):=by
 have hX:=znb w (.cells #[.bool false,.slice none 0 0,.slice none 0 0] 107)
 have hW:=(Chg.refl [] w).alloc (.cells #[.bool false,.slice none 0 0,.slice none 0 0] 107)
 have hs:=zhl hX
 have h:=h.chg hW (fun _ _=>by simp)
 have HX:=Lib.hid (And.intro hX hW)
 have n1:=h.c.ok.n
 have cb:=bBlocks_at h.c
 have i0:¬ B.T.n=0:=by omega
 have f0:=zfb hX 0
 have f1:=zfb hX 1
 have f2:=zfb hX 2
 have x0:=zcb hX 0
 have x1:=zcb hX 1
 have x2:=zcb hX 2
 simp only [List.getElem?_toArray,List.getElem?_cons_zero,List.getElem?_cons_succ] at x0 x1 x2
 clear hX hW
 have bad:∀ W2,Chg [w.heap.size] (w.alloc (.cells #[.bool false,.slice none 0 0,.slice none 0 0] 107)) W2→Chg [] w W2:=fun W2 c=>HX.out.2.then c (fun q hq=>by simp only [List.mem_singleton] at hq;subst hq;exact .inr (Nat.le_refl _))
 by_cases i1:x<2
 ·have hI:B.inI x=false:=by unfold Bs.inI;rw [decide_eq_false (by omega)];rfl
  unfold Bs.nodeI Bs.nodeE
  rw [hI]
  clear h
  go_enter Tryz.func61,Tryz.ntmps61
  go_upto_region 1 with fail
  generalize w.alloc (.cells #[.bool false,.slice none 0 0,.slice none 0 0] 107)=W at *
  go_wp2_with fail
  refine (cb).mono ?_
  rintro e w' ⟨rfl,rfl⟩
  go_wp2_with fail
  exact bodyPost_ret (results_ct (a:=4) (b:=5) (by kernel_rfl) rfl (load3 (set3 HX.out.1 _ _ _))) rfl (.inr ⟨rfl,rfl,bad _ (set3_chg _ _ _ _ _)⟩)
 by_cases i2:(B.T.n:Int)≤x
 ·have hI:B.inI x=false:=by unfold Bs.inI;rw [decide_eq_true (by omega),decide_eq_false (by omega)];rfl
  unfold Bs.nodeI Bs.nodeE
  rw [hI]
  have cr:=bRead_bad h.c (.inr i2)
  clear h
  go_enter Tryz.func61,Tryz.ntmps61
  go_upto_region 1 with fail
  generalize w.alloc (.cells #[.bool false,.slice none 0 0,.slice none 0 0] 107)=W at *
  go_wp2_with fail
  refine (cb).mono ?_
  rintro e w' ⟨rfl,rfl⟩
  go_wp2_with fail
  refine (cr).mono ?_
  rintro e w' ⟨rfl,rfl⟩
  go_wp2_with fail
  exact bodyPost_ret (results_ct (a:=4) (b:=5) (by kernel_rfl) rfl (load3 (set3 HX.out.1 _ _ _))) rfl (.inr ⟨rfl,rfl,bad _ (set3_chg _ _ _ _ _)⟩)
 ·obtain ⟨a,rfl⟩:=Int.eq_ofNat_of_zero_le (show 0≤x by omega)
  have hI:B.inI (a:Int)=true:=inI_iff.2 (by omega)
  unfold Bs.nodeI Bs.nodeE
  rw [hI,if_pos rfl,if_pos rfl,Int.toNat_natCast]
  have cr:=bRead_at h (a:=a) (by omega)
  have CR:=Lib.hid cr
  clear cr h hI
  go_enter Tryz.func61,Tryz.ntmps61
  go_upto_region 1 with fail
  generalize w.alloc (.cells #[.bool false,.slice none 0 0,.slice none 0 0] 107)=W at *
  go_wp2_with fail
  refine (cb).mono ?_
  rintro e w' ⟨rfl,rfl⟩
  go_wp2_with fail
  refine CR.out.mono ?_
  rintro e w1 ⟨g,c,rfl,q1,q2,q3,q4,q5,q6⟩
  have hin:BytesIn w1 (some ⟨g,0,none⟩) 128 c (B.read a):=⟨q1,q2,(fun e=>by cases e),(fun b hb _=>by injection hb with hb;exact ⟨g,0,hb.symm,q5⟩)⟩
  have cd:=Lib.hid (dec_at hin)
  have hX1:=(q6.block _ hs (by simp)).trans HX.out.1
  have HC:=Lib.hid q6
  have hs1:=zhl hX1
  clear q1 q2 q3 q4 q5 q6 hin CR x0 x1 x2 f0 f1 f2
  go_wp2_with fail
  refine cd.out.mono ?_
  intro e w2 hd
  unfold DecEnd at hd
  cases hb:decB 128 (B.read a) with
  | false =>
   rw [hb,if_neg (by decide)] at hd
   obtain ⟨rfl,hc2⟩:=hd
   have hx3:=(hc2.block _ hs1 (by simp)).trans hX1
   have hy:=hc2.alloc (.cells #[.bool false,.slice none 0 0,.slice none 0 0] 107)
   have hx4:=(hy.block _ hs1 (by simp)).trans hX1
   have hs4:=zhl hx4
   have HC2:=Lib.hid (And.intro hx4 (HC.out.trans hy))
   have f0:=zfb hx4 0
   have f1:=zfb hx4 1
   have f2:=zfb hx4 2
   have x0:=zcb hx4 0
   have x1:=zcb hx4 1
   have x2:=zcb hx4 2
   simp only [List.getElem?_toArray,List.getElem?_cons_zero,List.getElem?_cons_succ] at x0 x1 x2
   clear hc2 cd hx3 hy hx4
   go_wp2_with fail
   exact bodyPost_ret (results_ct (a:=4) (b:=5) (by kernel_rfl) rfl (load3 (set3 HC2.out.1 _ _ _))) rfl (.inr ⟨by unfold decN;rw [hb];rfl,rfl,bad _ ((HC2.out.2.mono (by simp)).trans (set3_chg _ _ _ _ _))⟩)
  | true =>
   rw [hb,if_pos rfl] at hd
   obtain ⟨kb,vb,rfl,k1,k2,k3,k4,k5,hc2⟩:=hd
   have hy:=hc2.alloc (.cells #[.bool (decide (B.read a 0=1)),.slice (some ⟨kb,0,none⟩) (B.read a 1) (B.read a 1),.slice (some ⟨vb,0,none⟩) (B.read a 1) (B.read a 1)] 107)
   have hx4:=(hy.block _ hs1 (by simp)).trans hX1
   have hs4:=zhl hx4
   have hs2:=hc2.size
   have hW1:=HC.out.size
   have HK:=Lib.hid (And.intro k1 (And.intro k2 (And.intro k3 (And.intro k4 k5))))
   have HC2:=Lib.hid (And.intro hx4 (HC.out.trans hy))
   have f0:=zfb hx4 0
   have f1:=zfb hx4 1
   have f2:=zfb hx4 2
   have hz:=znb w2 (.cells #[.bool (decide (B.read a 0=1)),.slice (some ⟨kb,0,none⟩) (B.read a 1) (B.read a 1),.slice (some ⟨vb,0,none⟩) (B.read a 1) (B.read a 1)] 107)
   have x0:=zcb hx4 0
   have x1:=zcb hx4 1
   have x2:=zcb hx4 2
   simp only [List.getElem?_toArray,List.getElem?_cons_zero,List.getElem?_cons_succ] at x0 x1 x2
   have z0:=zcb hz 0
   have z1:=zcb hz 1
   have z2:=zcb hz 2
   simp only [List.getElem?_toArray,List.getElem?_cons_zero,List.getElem?_cons_succ] at z0 z1 z2
   have HZ:=Lib.hid (hc2.alloc (.cells #[.bool (decide (B.read a 0=1)),.slice (some ⟨kb,0,none⟩) (B.read a 1) (B.read a 1),.slice (some ⟨vb,0,none⟩) (B.read a 1) (B.read a 1)] 107))
   have HZ2:Hid (Chg [] w2 (w2.alloc (.cells #[.bool (decide (B.read a 0=1)),.slice (some ⟨kb,0,none⟩) (B.read a 1) (B.read a 1),.slice (some ⟨vb,0,none⟩) (B.read a 1) (B.read a 1)] 107))):=Lib.hid ((Chg.refl _ _).alloc _)
   clear hc2 cd hy hx4 hz k1 k2 k3 k4 k5
   go_upto_region 9 with fail
   generalize w2.alloc (.cells #[.bool (decide (B.read a 0=1)),.slice (some ⟨kb,0,none⟩) (B.read a 1) (B.read a 1),.slice (some ⟨vb,0,none⟩) (B.read a 1) (B.read a 1)] 107)=w3 at *
   go_wp2_with fail
   have hnk:kb∉[w.heap.size]:=by have:=HK.out.1;simp only [List.mem_singleton];omega
   have hnv:vb∉[w.heap.size]:=by have:=HK.out.2.1;simp only [List.mem_singleton];omega
   have hr1:=(HK.out.2.2.2.1.chg HZ2.out (by simp)).chg (set3_chg w3 w.heap.size (.bool (decide (B.read a 0=1))) (.slice (some ⟨kb,0,none⟩) (B.read a 1) (B.read a 1)) (.slice (some ⟨vb,0,none⟩) (B.read a 1) (B.read a 1))) hnk
   have hr2:=(HK.out.2.2.2.2.chg HZ2.out (by simp)).chg (set3_chg w3 w.heap.size (.bool (decide (B.read a 0=1))) (.slice (some ⟨kb,0,none⟩) (B.read a 1) (B.read a 1)) (.slice (some ⟨vb,0,none⟩) (B.read a 1) (B.read a 1))) hnv
   exact bodyPost_ret (results_ct (a:=4) (b:=5) (by kernel_rfl) rfl (load3 (set3 HC2.out.1 _ _ _))) rfl
    (.inl ⟨⟨decide (B.read a 0=1),B.read a 1,pkey (B.read a),pval (B.read a)⟩,kb,vb,by unfold decN;rw [hb];rfl,rfl,by have:=HK.out.1;omega,by have:=HK.out.2.1;omega,HK.out.2.2.1,hr1,hr2,bad _ ((HC2.out.2.mono (by simp)).trans (set3_chg _ _ _ _ _))⟩)
end
theorem BaseAt.cNode {w:World} {M:Bm} {F:List Nat} {B:Bs} (h:BaseAt w M F B) (x:Int):Calls Tryz.prog 61 #[.pointer (some ⟨M.b,0,none⟩),.int .i64 x] w (NodeEnd w (B.nodeI x) (B.nodeE x)):=by
 obtain ⟨R,hi,_⟩:=h
 exact fNode_in hi
theorem asc_lt {k:Nat→Nat} {n:Nat} (h:ascTo k n):∀ {i j:Nat},i<j→j<n→k i<k j
 | i,0,h1,_=>by omega
 | i,j+1,h1,h2=>by
  have h3:=h (j+1) (by omega) h2
  rw [Nat.add_sub_cancel] at h3
  by_cases e:i=j
  ·rw [e];exact h3
  ·have:=asc_lt h (i:=i) (j:=j) (by omega) (by omega)
   omega
theorem cnt_pre {p:Nat→Bool} : ∀ {n:Nat},(∀ i j,i<j→j<n→p j=true→p i=true)→∀ i,i<n→(i<cnt n p↔p i=true)
 | 0,_,i,hi=>by omega
 | n+1,h,i,hi=>by
  have ih:=cnt_pre (p:=p) (n:=n) (fun a b h1 h2=>h a b h1 (by omega))
  have hle:=cnt_le p n
  show i<cnt n p+(if p n then 1 else 0)↔_
  by_cases e:i=n
  ·subst e
   by_cases hp:p i=true
   ·have ha:cnt i p=i:=cnt_all fun j hj=>h j i hj (by omega) hp
    rw [ha,if_pos hp]
    simp [hp]
   ·rw [if_neg hp]
    constructor
    ·intro q;omega
    ·intro q;exact absurd q hp
  ·have hi':i<n:=by omega
   rw [← ih i hi']
   by_cases hp:p n=true
   ·have ha:cnt n p=n:=cnt_all fun j hj=>h j n hj (by omega) hp
    rw [ha,if_pos hp]
    omega
   ·rw [if_neg hp];omega
def Nd.pos (d:Nd) (key:Nat):Nat:=cnt d.n fun i=>decide (d.k i<key)
def Nd.is (d:Nd) (key:Nat):Bool:=(List.range d.n).any fun i=>decide (d.k i=key)
def Nd.at_ (d:Nd) (key:Nat):Nat:=if d.leaf=false∧d.is key=false∧0<d.pos key then d.pos key - 1 else d.pos key
def Nd.items (d:Nd):List (Nat × Nat):=(List.range d.n).map fun i=>(d.k i,d.v i)
def Nd.hi (d:Nd) (hi i:Nat):Nat:=if i+1<d.n then d.k (i+1) - 1 else hi
def kidI (v:Nat):Int:=((min v 2147483647:Nat):Int)
section
variable {d:Nd} (h:d.Ok) {key:Nat}
include h
theorem Nd.Ok.pos_iff {i:Nat} (hi:i<d.n):i<d.pos key↔d.k i<key:=by
 have:=cnt_pre (p:=fun i=>decide (d.k i<key)) (n:=d.n) (fun a b h1 h2 q=>by
  have:=asc_lt h.asc h1 h2
  simp only [decide_eq_true_eq] at q ⊢
  omega) i hi
 simpa [Nd.pos] using this
omit h in
theorem Nd.pos_le (d:Nd) (key:Nat):d.pos key≤d.n:=cnt_le _ _
theorem Nd.Ok.is_iff:d.is key=true↔d.pos key<d.n∧d.k (d.pos key)=key:=by
 unfold Nd.is
 rw [List.any_eq_true]
 constructor
 ·rintro ⟨i,hi,e⟩
  rw [List.mem_range] at hi
  simp only [decide_eq_true_eq] at e
  have h1:¬ i<d.pos key:=by rw [h.pos_iff hi];omega
  have h2:d.pos key≤i:=by omega
  have hn:d.pos key<d.n:=by omega
  refine ⟨hn,?_⟩
  have h3:¬ d.k (d.pos key)<key:=fun q=>by
   have:=(h.pos_iff (key:=key) hn).2 q
   omega
  by_cases e2:d.pos key=i
  ·rw [e2];exact e
  ·have:=asc_lt h.asc (i:=d.pos key) (j:=i) (by omega) hi
   omega
 ·rintro ⟨h1,h2⟩
  exact ⟨_,List.mem_range.2 h1,by simp [h2]⟩
theorem Nd.Ok.at_lt (hl:d.leaf=false) (hn:0<d.n):d.at_ key<d.n∧(0<d.at_ key→d.k (d.at_ key)≤key)∧(∀ j,d.at_ key<j→j<d.n→key<d.k j):=by
 have hle:=d.pos_le key
 unfold Nd.at_
 cases hi:d.is key with
 | true =>
  rw [if_neg (by simp)]
  have:=h.is_iff.1 hi
  refine ⟨this.1,fun _=>by omega,fun j h1 h2=>?_⟩
  have:=asc_lt h.asc h1 h2
  omega
 | false =>
  have hni:¬ (d.pos key<d.n∧d.k (d.pos key)=key):=fun q=>by rw [h.is_iff.2 q] at hi;cases hi
  by_cases h0:0<d.pos key
  ·rw [if_pos ⟨hl,rfl,h0⟩]
   refine ⟨by omega,fun _=>?_,fun j h1 h2=>?_⟩
   ·have:=(h.pos_iff (key:=key) (i:=d.pos key - 1) (by omega)).1 (by omega)
    omega
   ·have h3:¬ d.k j<key:=fun q=>by have:=(h.pos_iff (key:=key) h2).2 q;omega
    by_cases e:d.k j=key
    ·have:d.is key=true:=by
      unfold Nd.is
      rw [List.any_eq_true]
      exact ⟨j,List.mem_range.2 h2,by simp [e]⟩
     rw [this] at hi;cases hi
    ·omega
  ·rw [if_neg (by simp [h0])]
   refine ⟨by omega,fun q=>by omega,fun j h1 h2=>?_⟩
   have h3:¬ d.k j<key:=fun q=>by have:=(h.pos_iff (key:=key) h2).2 q;omega
   by_cases e:d.k j=key
   ·have:d.is key=true:=by
     unfold Nd.is
     rw [List.any_eq_true]
     exact ⟨j,List.mem_range.2 h2,by simp [e]⟩
    rw [this] at hi;cases hi
   ·omega
end
def getP (B:Bs) (key:Nat):Nat→Int→Nat × Bool × Int
 | 0,x=>if x=0 then (0,false,0) else (0,false,130)
 | f+1,x=>if x=0 then (0,false,0) else match B.nodeI x with
  | none=>(0,false,B.nodeE x)
  | some d=>if d.leaf then (if d.is key then (d.v (d.pos key),true,0) else (0,false,0)) else getP B key f (kidI (d.v (d.at_ key)))
def heightP (B:Bs):Nat→Int→Nat × Int
 | 0,x=>if x=0 then (0,0) else match B.nodeI x with
  | none=>(0,B.nodeE x)
  | some _=>(0,130)
 | f+1,x=>if x=0 then (0,0) else match B.nodeI x with
  | none=>(0,B.nodeE x)
  | some d=>if d.leaf then (1,0) else if (heightP B f (kidI (d.v 0))).2=0 then ((heightP B f (kidI (d.v 0))).1+1,0) else (0,(heightP B f (kidI (d.v 0))).2)
def rightP (B:Bs):Nat→Int→Nat→Nat→Nat→Bool
 | 0,x,lo,hi,least=>match B.nodeI x with
  | none=>false
  | some d=>decide (least≤d.n)&&(d.leaf&&(List.range d.n).all fun i=>decide (lo≤d.k i∧d.k i≤hi))
 | h+1,x,lo,hi,least=>match B.nodeI x with
  | none=>false
  | some d=>decide (least≤d.n)&&(!d.leaf&&(List.range d.n).all fun i=>decide (lo≤d.k i∧d.k i≤hi)&&(decide (2≤d.v i∧d.v i<B.T.n)&&rightP B h (d.v i:Int) (d.k i) (d.hi hi i) 3))
def allP (B:Bs):Nat→Int→List (Nat × Nat)
 | 0,x=>match B.nodeI x with
  | none=>[]
  | some d=>d.items
 | h+1,x=>match B.nodeI x with
  | none=>[]
  | some d=>(List.range d.n).flatMap fun i=>allP B h (d.v i:Int)
def blksP (B:Bs):Nat→Int→List Int
 | 0,x=>[x]
 | h+1,x=>match B.nodeI x with
  | none=>[x]
  | some d=>x::(List.range d.n).flatMap fun i=>blksP B h (d.v i:Int)
section
variable {B:Bs}
theorem right_leaf {x:Int} {lo hi least:Nat} (h:rightP B 0 x lo hi least=true):∃ d,B.nodeI x=some d∧d.leaf=true∧least≤d.n∧allP B 0 x=d.items∧∀ i,i<d.n→lo≤d.k i∧d.k i≤hi:=by
 unfold rightP at h
 cases hd:B.nodeI x with
 | none=>rw [hd] at h;cases h
 | some d =>
  rw [hd] at h
  simp only [Bool.and_eq_true,decide_eq_true_eq,List.all_eq_true,List.mem_range] at h
  exact ⟨d,rfl,h.2.1,h.1,by unfold allP;rw [hd],fun i hi=>h.2.2 i hi⟩
structure Inner (B:Bs) (h:Nat) (x:Int) (lo hi least:Nat) (d:Nd):Prop where
 node:B.nodeI x=some d
 leaf:d.leaf=false
 least:least≤d.n
 all:allP B (h+1) x=(List.range d.n).flatMap fun i=>allP B h (d.v i:Int)
 bd:∀ i,i<d.n→lo≤d.k i∧d.k i≤hi
 kid:∀ i,i<d.n→2≤d.v i∧d.v i<B.T.n
 right:∀ i,i<d.n→rightP B h (d.v i:Int) (d.k i) (d.hi hi i) 3=true
theorem right_inner {h:Nat} {x:Int} {lo hi least:Nat} (hr:rightP B (h+1) x lo hi least=true):∃ d,Inner B h x lo hi least d:=by
 unfold rightP at hr
 cases hd:B.nodeI x with
 | none=>rw [hd] at hr;cases hr
 | some d =>
  rw [hd] at hr
  simp only [Bool.and_eq_true,decide_eq_true_eq,List.all_eq_true,List.mem_range,Bool.not_eq_true'] at hr
  exact ⟨d,hd,hr.2.1,hr.1,by show (match B.nodeI x with | none=>[] | some d=>_)=_;rw [hd],fun i hi=>(hr.2.2 i hi).1,fun i hi=>(hr.2.2 i hi).2.1,fun i hi=>(hr.2.2 i hi).2.2⟩
theorem right_ge {h:Nat} {x:Int} {lo hi least:Nat} (hr:rightP B h x lo hi least=true):2≤x∧x<(B.T.n:Int)∧∃ d,B.nodeI x=some d∧least≤d.n:=by
 have key:∀ d,B.nodeI x=some d→2≤x∧x<(B.T.n:Int):=fun d hd=>by
  unfold Bs.nodeI at hd
  split at hd
  ·rename_i e;exact inI_iff.1 e
  ·cases hd
 cases h with
 | zero=>obtain ⟨d,h1,h2,h3,_⟩:=right_leaf hr;exact ⟨(key d h1).1,(key d h1).2,d,h1,h3⟩
 | succ h=>obtain ⟨d,I⟩:=right_inner hr;exact ⟨(key d I.node).1,(key d I.node).2,d,I.node,I.least⟩
theorem kidI_lt {v:Nat} (h:v<4097):kidI v=(v:Int):=by unfold kidI;rw [Nat.min_eq_left (by omega)]
theorem hi_next {d:Nd} (hd:d.Ok) {i j p hi:Nat} (hij:i<j) (hj:j<d.n) (hp:p≤d.hi hi i):p<d.k j:=by
 unfold Nd.hi at hp
 rw [if_pos (by omega)] at hp
 have h0:=asc_lt hd.asc (i:=i) (j:=i+1) (by omega) (by omega)
 by_cases e:i+1=j
 ·subst e;omega
 ·have:=asc_lt hd.asc (i:=i+1) (j:=j) (by omega) hj
  omega
theorem hi_le {d:Nd} {lo hi i:Nat} (hb:∀ i,i<d.n→lo≤d.k i∧d.k i≤hi):d.hi hi i≤hi:=by
 unfold Nd.hi
 split
 ·have:=hb (i+1) (by assumption);omega
 ·exact Nat.le_refl _
theorem all_bd (ok:B.Ok):∀ {h:Nat} {x:Int} {lo hi least:Nat},rightP B h x lo hi least=true→(∀ p,p∈allP B h x→lo≤p.1∧p.1≤hi)∧(allP B h x).Pairwise (fun p q=>p.1<q.1)
 | 0,x,lo,hi,least,hr=>by
  obtain ⟨d,h1,h2,h3,h4,h5⟩:=right_leaf hr
  have hd:=(ok.node_ok h1).1
  rw [h4]
  unfold Nd.items
  refine ⟨fun p hp=>?_,?_⟩
  ·obtain ⟨i,hi,rfl⟩:=List.mem_map.1 hp
   exact h5 i (List.mem_range.1 hi)
  ·rw [List.pairwise_map]
   refine List.Pairwise.imp_of_mem ?_ List.pairwise_lt_range
   intro i j hi hj hij
   exact asc_lt hd.asc hij (List.mem_range.1 hj)
 | h+1,x,lo,hi,least,hr=>by
  obtain ⟨d,I⟩:=right_inner hr
  have hd:=(ok.node_ok I.node).1
  rw [I.all]
  refine ⟨fun p hp=>?_,?_⟩
  ·obtain ⟨i,hi',hp⟩:=List.mem_flatMap.1 hp
   have hi':=List.mem_range.1 hi'
   have:=(all_bd ok (I.right i hi')).1 p hp
   have h1:=I.bd i hi'
   have h2:=hi_le (i:=i) I.bd
   omega
  ·rw [List.pairwise_flatMap]
   refine ⟨fun i hi'=>(all_bd ok (I.right i (List.mem_range.1 hi'))).2,?_⟩
   refine List.Pairwise.imp_of_mem ?_ List.pairwise_lt_range
   intro i j hi' hj hij p hp q hq
   have h1:=(all_bd ok (I.right i (List.mem_range.1 hi'))).1 p hp
   have h2:=(all_bd ok (I.right j (List.mem_range.1 hj))).1 q hq
   have:=hi_next hd hij (List.mem_range.1 hj) h1.2
   omega
def GetIs (l:List (Nat × Nat)) (key:Nat) (r:Nat × Bool × Int):Prop:=(∃ v,(key,v)∈l∧r=(v,true,0))∨((∀ v,(key,v)∉l)∧r=(0,false,0))
theorem get_right (ok:B.Ok) {key:Nat} : ∀ {h f:Nat} {x:Int} {lo hi least:Nat},rightP B h x lo hi least=true→h<f→1≤least→GetIs (allP B h x) key (getP B key f x)
 | 0,f+1,x,lo,hi,least,hr,hf,hl=>by
  obtain ⟨d,h1,h2,h3,h4,h5⟩:=right_leaf hr
  have hd:=(ok.node_ok h1).1
  have hx:x≠0:=by have:=right_ge hr;omega
  rw [h4]
  unfold getP
  rw [if_neg hx,h1]
  simp only [h2,if_true]
  cases hi:d.is key with
  | true =>
   have:=hd.is_iff.1 hi
   refine .inl ⟨d.v (d.pos key),?_,by simp⟩
   unfold Nd.items
   exact List.mem_map.2 ⟨d.pos key,List.mem_range.2 this.1,by rw [this.2]⟩
  | false =>
   refine .inr ⟨fun v hm=>?_,by simp⟩
   unfold Nd.items at hm
   obtain ⟨i,hi',e⟩:=List.mem_map.1 hm
   injection e with e1 e2
   have:d.is key=true:=by
    unfold Nd.is
    rw [List.any_eq_true]
    exact ⟨i,hi',by simp [e1]⟩
   rw [this] at hi;cases hi
 | h+1,f+1,x,lo,hi,least,hr,hf,hl=>by
  obtain ⟨d,I⟩:=right_inner hr
  have hd:=(ok.node_ok I.node).1
  have hx:x≠0:=by have:=right_ge hr;omega
  have hn:0<d.n:=by have:=I.least;omega
  obtain ⟨a1,a2,a3⟩:=hd.at_lt (key:=key) I.leaf hn
  have ih:=get_right ok (key:=key) (f:=f) (I.right _ a1) (by omega) (by omega)
  have hk:=I.kid _ a1
  have hN:=ok.n
  rw [← kidI_lt (by omega)] at ih
  have eg:getP B key (f+1) x=getP B key f (kidI (d.v (d.at_ key))):=by
   rw [getP,if_neg hx,I.node]
   simp only [I.leaf,Bool.false_eq_true,if_false]
  rw [eg,I.all]
  have ek:kidI (d.v (d.at_ key))=(d.v (d.at_ key):Int):=kidI_lt (by omega)
  rw [ek] at ih ⊢
  rcases ih with ⟨v,h1,h2⟩ | ⟨h1,h2⟩
  ·exact .inl ⟨v,List.mem_flatMap.2 ⟨_,List.mem_range.2 a1,h1⟩,h2⟩
  ·refine .inr ⟨fun v hm=>?_,h2⟩
   obtain ⟨j,hj,hm⟩:=List.mem_flatMap.1 hm
   have hj:=List.mem_range.1 hj
   have hb:=(all_bd ok (I.right j hj)).1 _ hm
   by_cases e:j=d.at_ key
   ·subst e;exact h1 v hm
   ·by_cases hlt:j<d.at_ key
    ·have:=hi_next hd hlt a1 hb.2
     have:=a2 (by omega)
     simp only at *
     omega
    ·have:=a3 j (by omega) hj
     simp only at *
     omega
theorem flat_congr {α β:Type} {f g:α→List β} {l:List α} (h:∀ a,a∈l→f a=g a):l.flatMap f=l.flatMap g:=by
 rw [List.flatMap_def,List.flatMap_def,List.map_congr_left h]
theorem height_right (ok:B.Ok):∀ {h f:Nat} {x:Int} {lo hi least:Nat},rightP B h x lo hi least=true→h<f→1≤least→heightP B f x=(h+1,0)
 | 0,f+1,x,lo,hi,least,hr,hf,hl=>by
  obtain ⟨d,h1,h2,h3,h4,h5⟩:=right_leaf hr
  have hx:x≠0:=by have:=right_ge hr;omega
  rw [heightP,if_neg hx,h1]
  simp only [h2,if_true]
 | h+1,f+1,x,lo,hi,least,hr,hf,hl=>by
  obtain ⟨d,I⟩:=right_inner hr
  have hx:x≠0:=by have:=right_ge hr;omega
  have hN:=ok.n
  have hn:0<d.n:=by have:=I.least;omega
  have hk:=I.kid 0 hn
  rw [heightP,if_neg hx,I.node]
  simp only [I.leaf,Bool.false_eq_true,if_false]
  rw [kidI_lt (by omega),height_right ok (I.right 0 hn) (by omega) (by omega)]
  rfl
theorem tree_congr {B':Bs} (hn:B'.T.n=B.T.n):∀ {h:Nat} {x:Int} {lo hi least:Nat},(∀ b,b∈blksP B h x→B'.nodeI b=B.nodeI b)→rightP B' h x lo hi least=rightP B h x lo hi least∧allP B' h x=allP B h x∧blksP B' h x=blksP B h x
 | 0,x,lo,hi,least,hb=>by
  have e:=hb x (by simp [blksP])
  refine ⟨?_,?_,rfl⟩
  ·unfold rightP;rw [e]
  ·unfold allP;rw [e]
 | h+1,x,lo,hi,least,hb=>by
  have e:=hb x (by unfold blksP;cases B.nodeI x <;> simp)
  unfold rightP allP blksP
  rw [e]
  cases hd:B.nodeI x with
  | none=>exact ⟨rfl,rfl,rfl⟩
  | some d =>
   have key:∀ i,i<d.n→∀ lo hi least,rightP B' h (d.v i:Int) lo hi least=rightP B h (d.v i:Int) lo hi least∧allP B' h (d.v i:Int)=allP B h (d.v i:Int)∧blksP B' h (d.v i:Int)=blksP B h (d.v i:Int):=fun i hi lo hi' least =>
    tree_congr hn fun b hm=>hb b (by unfold blksP;rw [hd];exact List.mem_cons_of_mem _ (List.mem_flatMap.2 ⟨i,List.mem_range.2 hi,hm⟩))
   refine ⟨?_,?_,?_⟩
   ·show (decide (least≤d.n)&&(!d.leaf&&(List.range d.n).all _))=(decide (least≤d.n)&&(!d.leaf&&(List.range d.n).all _))
    congr 2
    rw [Bool.eq_iff_iff,List.all_eq_true,List.all_eq_true]
    constructor
    ·intro q i hi
     have:=q i hi
     rw [hn,(key i (List.mem_range.1 hi) _ _ _).1] at this
     exact this
    ·intro q i hi
     have:=q i hi
     rw [hn,(key i (List.mem_range.1 hi) _ _ _).1]
     exact this
   ·exact flat_congr fun i hi=>(key i (List.mem_range.1 hi) 0 0 0).2.1
   ·exact congrArg (x :: ·) (flat_congr fun i hi=>(key i (List.mem_range.1 hi) 0 0 0).2.2)
end
theorem NumsIn.cap {A:List Nat} {w:World} {v:Value} {n:Nat} {f:Nat→Nat} (h:NumsIn A w v n f):∃ a cap,v = .slice a n cap∧n≤cap∧cap≤9223372036854775807:=by
 rcases h with ⟨⟨a,c,h,hc,_⟩,rfl⟩ | ⟨b,off,cap,h,h2,h3,_⟩
 ·unfold maxLen at hc;exact ⟨a,c,h,Nat.zero_le _,by omega⟩
 ·unfold maxLen at h3;exact ⟨_,_,h,h2,by omega⟩
theorem NumsIn.get {A:List Nat} {w:World} {a:Option Addr} {n m cap:Nat} {f:Nat→Nat} (h:NumsIn A w (.slice a m cap) n f) {i:Nat} (hi:i<n) :
  ∃ b off,a=some ⟨b,off,none⟩∧b<w.heap.size∧b∉A∧NumsAt w b off n f:=by
 rcases h with ⟨_,h0⟩ | ⟨b,off,c,h1,h2,h3,h4,h5,h6⟩
 ·omega
 ·injection h1 with h1 _ _
  exact ⟨b,off,h1,h4,h5,h6⟩
theorem Row64.numsIn {A:List Nat} {w:World} {g n:Nat} {f:Nat→Nat} (h:Row64 w g n f) (hn:n≤100000) (hA:g∉A) (hf:∀ i,i<n→f i<18446744073709551616):NumsIn A w (.slice (some ⟨g,0,none⟩) n n) n f :=
 .inr ⟨g,0,n,rfl,Nat.le_refl _,by unfold maxLen;omega,h.lt,hA,fun i hi=>⟨by rw [Nat.zero_add];exact h.cell hi,hf i hi⟩⟩
structure NdIn (w:World) (base x kb vb:Nat) (d:Nd):Prop where
 ok:d.Ok
 top:w.heap[x]?=some (.cells #[.bool d.leaf,.slice (some ⟨kb,0,none⟩) d.n d.n,.slice (some ⟨vb,0,none⟩) d.n d.n] 107 (0,0))
 k:Row64 w kb d.n d.k
 v:Row64 w vb d.n d.v
 far:base≤x∧base≤kb∧base≤vb
theorem NdIn.chg {w w':World} {base x kb vb:Nat} {d:Nd} {L:List Nat} (h:NdIn w base x kb vb d) (c:Chg L w w') (hL:∀ q,q∈L→q<base∨w.heap.size≤q):NdIn w' base x kb vb d:=by
 have a1:=zhl h.top
 have a2:=h.k.lt
 have a3:=h.v.lt
 have n1:x∉L:=fun hm=>by have:=hL _ hm;have:=h.far;omega
 have n2:kb∉L:=fun hm=>by have:=hL _ hm;have:=h.far;omega
 have n3:vb∉L:=fun hm=>by have:=hL _ hm;have:=h.far;omega
 exact ⟨h.ok,(c.block _ a1 n1).trans h.top,h.k.chg c n2,h.v.chg c n3,h.far⟩
theorem NdIn.ki {w:World} {base x kb vb:Nat} {d:Nd} (h:NdIn w base x kb vb d):NumsIn [] w (.slice (some ⟨kb,0,none⟩) d.n d.n) d.n d.k:=h.k.numsIn (by have:=h.ok.n;omega) (by simp) h.ok.k
theorem NdIn.vi {w:World} {base x kb vb:Nat} {d:Nd} (h:NdIn w base x kb vb d):NumsIn [] w (.slice (some ⟨vb,0,none⟩) d.n d.n) d.n d.v:=h.v.numsIn (by have:=h.ok.n;omega) (by simp) h.ok.v
theorem NdIn.c {w:World} {base x kb vb:Nat} {d:Nd} (h:NdIn w base x kb vb d):w.cell? ⟨x,0,none⟩=some (.bool d.leaf)∧w.cell? ⟨x,1,none⟩=some (.slice (some ⟨kb,0,none⟩) d.n d.n)∧w.cell? ⟨x,2,none⟩=some (.slice (some ⟨vb,0,none⟩) d.n d.n):=⟨(zcb h.top 0).trans rfl,(zcb h.top 1).trans rfl,(zcb h.top 2).trans rfl⟩
theorem NodeEnd.box {w w1 w2:World} {d:Nd} {kb vb:Nat} (hd:d.Ok) (k1:w.heap.size≤kb) (k2:w.heap.size≤vb) (r1:Row64 w1 kb d.n d.k) (r2:Row64 w1 vb d.n d.v) (c:Chg [] w w1)
  (hx:w2.heap[w1.heap.size]?=some (.cells #[.bool d.leaf,.slice (some ⟨kb,0,none⟩) d.n d.n,.slice (some ⟨vb,0,none⟩) d.n d.n] 107 (0,0))) (c2:Chg [w1.heap.size] w1 w2):NdIn w2 w.heap.size w1.heap.size kb vb d :=
 ⟨hd,hx,r1.chg c2 (by have:=r1.lt;simp only [List.mem_singleton];omega),r2.chg c2 (by have:=r2.lt;simp only [List.mem_singleton];omega),c.size,k1,k2⟩
def hgt (l:Nat) (r:Nat × Int):Nat × Int:=if r.2=0 then (l+r.1,0) else (0,r.2)
def kidOk (B:Bs) (h:Nat) (d:Nd) (lo hi i:Nat):Bool:=decide (lo≤d.k i∧d.k i≤hi)&&(match h with
 | 0=>true
 | h'+1=>decide (2≤d.v i∧d.v i<B.T.n)&&rightP B h' (d.v i:Int) (d.k i) (d.hi hi i) 3)
theorem rightP_none {B:Bs} {h:Nat} {x:Int} {lo hi least:Nat} (hd:B.nodeI x=none):rightP B h x lo hi least=false:=by
 cases h <;> (unfold rightP;rw [hd])
theorem rightP_node {B:Bs} {h:Nat} {x:Int} {lo hi least:Nat} {d:Nd} (hd:B.nodeI x=some d):rightP B h x lo hi least=(decide (least≤d.n)&&((d.leaf==decide (h=0))&&(List.range d.n).all fun i=>kidOk B h d lo hi i)):=by
 cases h with
 | zero =>
  unfold rightP
  rw [hd]
  simp [kidOk]
 | succ h =>
  unfold rightP
  rw [hd]
  cases hl:d.leaf <;> simp [kidOk,hl]
theorem rightP_all {B:Bs} {h:Nat} {x:Int} {lo hi least:Nat} {d:Nd} (hd:B.nodeI x=some d) (h1:least≤d.n) (h2:(d.leaf==decide (h=0))=true) (h3:∀ i,i<d.n→kidOk B h d lo hi i=true):rightP B h x lo hi least=true:=by
 rw [rightP_node hd,h2,decide_eq_true h1]
 simpa using h3
def RtS (xb vb n i u bb k hj:Nat) (w:World):Prop:=(w.cell? ⟨xb,2,none⟩=some (.slice (some ⟨vb,0,none⟩) n n)∧w.cell? ⟨vb,i,none⟩=some (.int .u64 (u:Int)))∧w.cell? ⟨bb,0,none⟩=some (.int .u64 (k:Int))∧w.cell? ⟨bb,1,none⟩=some (.int .u64 (hj:Int))
theorem RtS.chg {xb vb n i u bb k hj:Nat} {w w':World} (h:RtS xb vb n i u bb k hj w) (c:Chg [] w w'):RtS xb vb n i u bb k hj w':=by
 obtain ⟨⟨h1,h2⟩,h3,h4⟩:=h
 exact ⟨⟨(c.cell (World.block_lt_of_cell? _ _ h1) (by simp)).trans h1,(c.cell (World.block_lt_of_cell? _ _ h2) (by simp)).trans h2⟩,(c.cell (World.block_lt_of_cell? _ _ h3) (by simp)).trans h3,(c.cell (World.block_lt_of_cell? _ _ h4) (by simp)).trans h4⟩
structure Yfr (Pv:World→Nat→Prop) (Lw:List Nat) (W W':World):Prop where
 c:∃ L,Chg L W W'∧∀ q,q∈L→q∈Lw∨Pv W q
 p:∀ q,Pv W' q→Pv W q∨W.heap.size≤q
section
variable {Pv:World→Nat→Prop} {Lw Lw':List Nat} {W W' W1 W2 W3:World}
theorem Yfr.size (h:Yfr Pv Lw W W'):W.heap.size≤W'.heap.size:=by obtain ⟨L,c,_⟩:=h.c;exact c.size
theorem Yfr.mono (h:Yfr Pv Lw W W') (hl:∀ q,q∈Lw→q∈Lw'):Yfr Pv Lw' W W':=by
 obtain ⟨L,c,hL⟩:=h.c
 exact ⟨⟨L,c,fun q hq=>(hL q hq).imp (hl q) id⟩,h.p⟩
theorem Yfr.trans (h:Yfr Pv Lw W1 W2) (k:Yfr Pv Lw W2 W3):Yfr Pv Lw W1 W3:=by
 obtain ⟨L,c,hL⟩:=h.c
 obtain ⟨L2,c2,hL2⟩:=k.c
 refine ⟨⟨L++L2.filter (fun q=>decide (q<W1.heap.size)),(c.mono (fun q hq=>List.mem_append_left _ hq)).then c2 (fun q hq=>?_),fun q hq=>?_⟩,fun q hq=>?_⟩
 ·by_cases e:q<W1.heap.size
  ·exact .inl (List.mem_append_right _ (List.mem_filter.2 ⟨hq,by simp [e]⟩))
  ·exact .inr (by omega)
 ·rcases List.mem_append.1 hq with hq | hq
  ·exact hL q hq
  ·obtain ⟨h1,h2⟩:=List.mem_filter.1 hq
   simp at h2
   rcases hL2 q h1 with h3 | h3
   ·exact .inl h3
   ·rcases h.p q h3 with h4 | h4
    ·exact .inr h4
    ·omega
 ·rcases k.p q hq with h1 | h1
  ·exact h.p q h1
  ·exact .inr (Nat.le_trans h.size h1)
theorem Yfr.refl (Pv:World→Nat→Prop) (Lw:List Nat) (W:World):Yfr Pv Lw W W:=⟨⟨[],Chg.refl _ _,fun q hq=>by cases hq⟩,fun q hq => .inl hq⟩
theorem Yfr.of (c:Chg Lw W W') (hp:∀ q,Pv W' q→Pv W q∨W.heap.size≤q):Yfr Pv Lw W W':=⟨⟨Lw,c,fun q hq => .inl hq⟩,hp⟩
end
structure Blv (Pv:World→Nat→Prop) (n:Nat) (A B:World):Prop where
 b:Below n A B
 p:∀ q,Pv A q→B.heap[q]?=A.heap[q]?
theorem Blv.mono {Pv:World→Nat→Prop} {n m:Nat} {A B:World} (h:Blv Pv n A B) (hm:m≤n):Blv Pv m A B:=⟨h.b.mono hm,h.p⟩
theorem Blv.put {Pv:World→Nat→Prop} {A:World} {n l:Nat} (o:Obj) (h:n≤l) (h1:∀ q,Pv A q→q≠l):Blv Pv n A (A.putObj l o):=⟨below_put o h,fun q hq=>World.putObj_heap_other (h1 q hq)⟩
variable {F:Fence} {n:Nat} {P:Program}
end Go.Proofs.YtkhcaclndepgbaaGreat
namespace Go.Proofs.YtkhcaclndepgbaaGreat
open Go.RowKit Go.Shelf
attribute [local go_sem] Oper.semAt_some
def toldV (t:(Nat × Nat) × Int):Value := .agg #[.int .u64 (t.1.1:Int),.int .u64 (t.1.2:Int),.int .i64 t.2]
structure Yld (M:Bm) (F:List Nat) (B:Bs) (L:Nat→(Nat × Nat) × Int) (N l:Nat) (J Jx:Nat→World→Prop) (W0:World) (Lw:List Nat) (Pv:World→Nat→Prop):Prop where
 lt:l<W0.heap.size
 lw:∀ x,x∈Lw→x<W0.heap.size
 j:∀ k A B,J k A→Blv Pv W0.heap.size A B→J k B
 p:∀ k A,J k A→BaseAt A M F B
 q1:∀ k A q,J k A→Pv A q→q<A.heap.size
 q2:∀ k A B q,J k A→Below W0.heap.size A B→Pv B q→Pv A q
 y:∀ k W1,J k W1→k<N→YieldAt Fence.wide 5 Tryz.prog l #[toldV (L k)] W1 fun e W'=>(e = .returned (.bool true)∧J (k+1) W'∧Yfr Pv (l::Lw) W1 W')∨(e = .returned (.bool false)∧Jx (k+1) W'∧Yfr Pv (l::Lw) W1 W')
section
variable {M:Bm} {F:List Nat} {B:Bs} {L:Nat→(Nat × Nat) × Int} {N l:Nat} {J Jx:Nat→World→Prop} {W0:World} {Lw:List Nat} {Pv:World→Nat→Prop}
theorem Yld.below (h:Yld M F B L N l J Jx W0 Lw Pv) {q:Nat} (hq:q∈l::Lw):q<W0.heap.size:=by
 rcases List.mem_cons.1 hq with rfl | hq
 ·exact h.lt
 ·exact h.lw q hq
end
end Go.Proofs.YtkhcaclndepgbaaGreat
namespace Go.Proofs.YtkhcaclndepgbaaGreat
open Go.RowKit Go.Shelf
attribute [local go_sem] Oper.semAt_some
end Go.Proofs.YtkhcaclndepgbaaGreat
