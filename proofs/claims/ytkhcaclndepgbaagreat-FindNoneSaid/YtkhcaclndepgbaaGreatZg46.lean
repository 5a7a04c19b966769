/- Layer 13's statements in plain words: what Build makes, level by level. · Layer 13's statements in plain words: what the reference tells; items put in order. · Regions that draw their order: loads may be taken ahead though later stores of the region change what they read, if these stores wait for them. -/
import Derived.Test.YtkhcaclndepgbaaGreatZg45
import Derived.Deep.RegionHeld
set_option linter.unusedVariables false
set_option linter.unusedSimpArgs false
set_option maxRecDepth 100000
set_option maxHeartbeats 20000000
namespace Go.Proofs.YtkhcaclndepgbaaGreat
def topK:Nat:=18446744073709551615
noncomputable def lvlP (leaf:Bool) (l:List (Nat × Nat)) (B:Bs):Nat→Bs × List (Nat × Nat)
 | 0=>(B,[])
 | i+1=>((lvlP leaf l B i).1.put (pageF leaf (grp l (manyG l.length) i).length (kOf (grp l (manyG l.length) i)) (vOf (grp l (manyG l.length) i))),(lvlP leaf l B i).2++[(kOf l (gLo l.length (manyG l.length) i),(lvlP leaf l B i).1.at_)])
section
variable {B:Bs} {N G h:Nat} {l items:List (Nat × Nat)}
theorem TUp.nil {q hi least:Nat} {allG:Nat→List (Nat × Nat)} : TUp B h l q hi least 0 [] allG :=
 { len:=rfl,key:=fun j hj=>by omega,val:=fun j hj=>by omega,apart:=fun a b _ hb=>by omega,own:=fun j hj=>by omega,tree:=fun j hj=>by omega,lv:=fun j hj=>by omega,all:=fun j hj=>by omega }
theorem page_le (leaf:Bool) {g:List (Nat × Nat)} (hg:g.length≤7):∀ j,j<128→pageF leaf g.length (kOf g) (vOf g) j≤255:=fun j _=>sealP_le (by cases leaf <;> decide) (fun k _=>bodyF_le _ _ _ k (by omega)) j
theorem lvl_leaf (hg:Good N G B) (h1:1≤l.length) (ha:Asc l) (hu:It64 l) {least:Nat} (hl:∀ i,i<manyG l.length→least≤(grp l (manyG l.length) i).length) (hr:(manyG l.length:Int)≤B.room) :
  ∀ i,i≤manyG l.length→Good N G (lvlP true l B i).1∧(lvlP true l B i).1.room=B.room - i∧TUp (lvlP true l B i).1 0 l (manyG l.length) topK least i (lvlP true l B i).2 (grp l (manyG l.length))
 | 0,_=>⟨hg,by show B.room=B.room - ((0:Nat):Int);omega,TUp.nil⟩
 | i+1,hi=>by
  obtain ⟨g1,g2,g3⟩:=lvl_leaf hg h1 ha hu hl hr i (by omega)
  have hr':0<(lvlP true l B i).1.room:=by omega
  obtain ⟨p1,-,-,-,-,-,-,p8,-⟩:=g1.put_ hr' (page_le true (grp_bd h1 (i:=i) (by omega)).1)
  refine ⟨p1,?_,g3.leaf g1 hr' h1 ha hu (fun j hj=>?_) (by omega) (hl i (by omega))⟩
  ·show (Bs.put _ _).room=_
   rw [p8,g2];omega
  ·have:=(hu.getD j).1
   unfold topK kOf
   omega
theorem lvl_inner (hg:Good N G B) (hM:N≤4096) (h1:1≤l.length) (R:TRow B h topK l items) {least:Nat} (hl:∀ i,i<manyG l.length→least≤(grp l (manyG l.length) i).length) (hr:(manyG l.length:Int)≤B.room) {A:Nat→List (Nat × Nat)} (hA:∀ j,j<l.length→allP B h (vOf l j:Int)=A (vOf l j)) :
  ∀ i,i≤manyG l.length→Good N G (lvlP false l B i).1∧(lvlP false l B i).1.room=B.room - i∧TRow (lvlP false l B i).1 h topK l items∧(∀ j,j<l.length→allP (lvlP false l B i).1 h (vOf l j:Int)=A (vOf l j)) ∧
   TUp (lvlP false l B i).1 (h+1) l (manyG l.length) topK least i (lvlP false l B i).2 (fun i=>(grp l (manyG l.length) i).flatMap fun p=>A p.2)
 | 0,_=>⟨hg,by show B.room=B.room - ((0:Nat):Int);omega,R,hA,TUp.nil⟩
 | i+1,hi=>by
  obtain ⟨g1,g2,g3,g4,g5⟩:=lvl_inner hg hM h1 R hl hr hA i (by omega)
  have hr':0<(lvlP false l B i).1.room:=by omega
  have hf:=page_le false (g:=grp l (manyG l.length) i) (grp_bd h1 (i:=i) (by omega)).1
  obtain ⟨p1,-,-,-,-,-,-,p8,-⟩:=g1.put_ hr' hf
  refine ⟨p1,?_,g3.put g1 hr' hf,fun j hj=>?_,g5.inner g3 g4 g1 (by rw [g1.n];exact hM) hr' h1 (by omega) (hl i (by omega))⟩
  ·show (Bs.put _ _).room=_
   rw [p8,g2];omega
  ·have T:=tree_put g1 hr' hf (lo:=0) (hi:=0) (least:=0) (g3.lv j hj)
   show allP (Bs.put _ _) h _=_
   rw [T.2.1]
   exact g4 j hj
structure BI (N G k:Nat) (items l:List (Nat × Nat)) (B:Bs):Prop where
 good:Good N G B
 room:(l.length:Int)+1≤2*B.room
 len:1≤l.length
 lv:(k=0∧l=items∧Asc l∧It64 l)∨(∃ h,k=h+1∧2≤l.length∧TRow B h topK l items)
theorem BI.asc {k:Nat} (I:BI N G k items l B):Asc l∧It64 l:=by
 rcases I.lv with ⟨-,-,h1,h2⟩ | ⟨h,-,-,R⟩
 ·exact ⟨h1,h2⟩
 ·exact ⟨R.asc,R.u⟩
theorem BI.many {k:Nat} (I:BI N G k items l B):(manyG l.length:Int)≤B.room:=by
 obtain ⟨b1,b2,b3,b4⟩:=manyG_bd I.len
 have:=I.room
 have:=I.len
 by_cases e:2≤manyG l.length
 ·have:=b3 e;omega
 ·omega
theorem BI.next {k:Nat} (I:BI N G k items l B) (hM:N≤4096) (hq:2≤manyG l.length):BI N G (k+1) items (lvlP (decide (k=0)) l B (manyG l.length)).2 (lvlP (decide (k=0)) l B (manyG l.length)).1:=by
 obtain ⟨b1,b2,b3,b4⟩:=manyG_bd I.len
 have hl:∀ i,i<manyG l.length→3≤(grp l (manyG l.length) i).length:=fun i hi=>by have:=(grp_bd I.len hi).2.2 hq;omega
 have hm:=I.many
 have hrm:=I.room
 have b4q:=b3 hq
 rcases I.lv with ⟨rfl,rfl,ha,hu⟩ | ⟨h,rfl,hl2,R⟩
 ·obtain ⟨g1,g2,g3⟩:=lvl_leaf I.good I.len ha hu hl hm _ (Nat.le_refl _)
  have row:=g3.row I.len ha hu (fun j hj=>by have:=(hu.getD j).1;unfold topK kOf;omega) (by rw [g1.n];exact hM)
  rw [grp_all (by omega)] at row
  have hlen:=g3.len
  refine ⟨g1,?_,?_,.inr ⟨0,rfl,?_,row⟩⟩
  ·show (((lvlP true l B (manyG l.length)).2.length:Nat):Int)+1≤2*(lvlP true l B (manyG l.length)).1.room
   rw [g2,hlen];omega
  ·show 1≤(lvlP true l B (manyG l.length)).2.length
   rw [hlen];omega
  ·show 2≤(lvlP true l B (manyG l.length)).2.length
   rw [hlen];omega
 ·obtain ⟨g1,g2,g3,g4,g5⟩:=lvl_inner I.good hM I.len R hl hm (A:=fun v=>allP B h (v:Int)) (fun j _=>rfl) _ (Nat.le_refl _)
  have row:=g5.row I.len R.asc R.u R.bd (by rw [g1.n];exact hM)
  have e:((List.range (manyG l.length)).flatMap fun i=>(grp l (manyG l.length) i).flatMap fun p=>allP B h (p.2:Int))=items:=by
   rw [← R.all,← List.flatMap_assoc,grp_all (by omega)]
  rw [e] at row
  have hlen:=g5.len
  refine ⟨g1,?_,?_,.inr ⟨h+1,rfl,?_,row⟩⟩
  ·show (((lvlP false l B (manyG l.length)).2.length:Nat):Int)+1≤2*(lvlP false l B (manyG l.length)).1.room
   rw [g2,hlen];omega
  ·show 1≤(lvlP false l B (manyG l.length)).2.length
   rw [hlen];omega
  ·show 2≤(lvlP false l B (manyG l.length)).2.length
   rw [hlen];omega
end
theorem rightP_lo {B:Bs} {h:Nat} {x:Int} {lo lo' hi least:Nat} (hr:rightP B h x lo hi least=true) (hl:lo'≤lo):rightP B h x lo' hi least=true:=by
 cases hd:B.nodeI x with
 | none=>rw [rightP_none hd] at hr;cases hr
 | some d =>
  rw [rightP_node hd] at hr
  simp only [Bool.and_eq_true,decide_eq_true_eq,List.all_eq_true,List.mem_range] at hr
  refine rightP_all hd hr.1 hr.2.1 (fun i hi'=>?_)
  have:=hr.2.2 i hi'
  unfold kidOk at this ⊢
  rw [Bool.and_eq_true,decide_eq_true_eq] at this
  rw [decide_eq_true ⟨by omega,this.1.2⟩,this.2]
  rfl
structure TreeIs (B:Bs) (x:Int) (h:Nat) (items:List (Nat × Nat)):Prop where
 right:rightP B h x 0 topK (if h=0 then 1 else 2)=true
 all:allP B h x=items
 lv:Lv B (blksP B h x)
theorem BI.last {B:Bs} {N G k:Nat} {items l:List (Nat × Nat)} (I:BI N G k items l B) (hM:N≤4096) (hq:manyG l.length=1):Good N G (lvlP (decide (k=0)) l B 1).1∧TreeIs (lvlP (decide (k=0)) l B 1).1 (vOf (lvlP (decide (k=0)) l B 1).2 0:Int) k items∧(lvlP (decide (k=0)) l B 1).1.room=B.room - 1:=by
 obtain ⟨b1,b2,b3,b4⟩:=manyG_bd I.len
 have hm:=I.many
 have hgl:(grp l 1 0).length=l.length:=by rw [grp_len (by omega) (by omega),gLo_top (by omega),gLo_zero];omega
 have hg1:grp l 1 0=l:=by
  have:=grp_all (l:=l) (q:=1) (by omega)
  simpa using this
 rcases I.lv with ⟨rfl,rfl,ha,hu⟩ | ⟨h,rfl,hl2,R⟩
 ·obtain ⟨g1,g2,g3⟩:=lvl_leaf I.good I.len ha hu (least:=1) (fun i hi=>(grp_bd I.len hi).2.1) hm 1 (by omega)
  rw [hq] at g3
  refine ⟨g1,⟨?_,?_,g3.lv 0 (by omega)⟩,g2⟩
  ·have:=g3.tree 0 (by omega)
   unfold gHi at this
   rw [if_neg (by omega)] at this
   exact rightP_lo this (Nat.zero_le _)
  ·have:=g3.all 0 (by omega)
   rw [hg1] at this
   exact this
 ·obtain ⟨g1,g2,g3,g4,g5⟩:=lvl_inner I.good hM I.len R (least:=2) (fun i hi=>by rw [hq] at hi ⊢;obtain rfl:i=0:=(by omega);rw [hgl];exact hl2) hm (A:=fun v=>allP B h (v:Int)) (fun j _=>rfl) 1 (by omega)
  rw [hq] at g5
  refine ⟨g1,⟨?_,?_,g5.lv 0 (by omega)⟩,g2⟩
  ·have:=g5.tree 0 (by omega)
   unfold gHi at this
   rw [if_neg (by omega)] at this
   exact rightP_lo this (Nat.zero_le _)
  ·have:=g5.all 0 (by omega)
   rw [hg1,R.all] at this
   exact this
section
variable {B:Bs} {x:Int} {h:Nat} {items:List (Nat × Nat)}
theorem TreeIs.height (T:TreeIs B x h items) (ok:B.Ok) (h8:h<8):heightP B 8 x=(h+1,0):=height_right ok T.right h8 (by split <;> omega)
theorem TreeIs.rightT (T:TreeIs B x h items) (ok:B.Ok) (h8:h<8):rightT B x=true:=by
 unfold Go.Proofs.YtkhcaclndepgbaaGreat.rightT
 rw [T.height ok h8]
 have hr:=T.right
 have e:(if 1<h+1 then 2 else 1)=(if h=0 then 1 else 2):=by by_cases e:h=0 <;> simp [e]
 show (x==0||((0:Int)==0&&rightP B (h+1 - 1) x 0 18446744073709551615 (if 1<h+1 then 2 else 1)))=true
 rw [e,Nat.add_sub_cancel]
 unfold topK at hr
 rw [hr]
 simp
theorem TreeIs.get (T:TreeIs B x h items) (ok:B.Ok) (h8:h<8) (key:Nat):GetIs items key (getP B key 8 x):=by
 have:=get_right ok (key:=key) T.right h8 (by split <;> omega)
 rwa [T.all] at this
theorem TreeIs.ne (T:TreeIs B x h items):x≠0:=by
 have:=(right_ge T.right).1
 omega
theorem TreeIs.walk (T:TreeIs B x h items) (ok:B.Ok) (h8:h<8) (lo hi:Nat):walkL B lo hi x=(items.filter fun p=>decide (lo≤p.1)&&decide (p.1≤hi)).map fun p=>(p,0):=by
 unfold walkL
 rw [if_neg T.ne,items_right ok T.right h8,T.all]
end
theorem walkR_ok:∀ (l acc:List (Nat × Nat)) (m:Nat),walkR (l.map fun p=>(p,(0:Int))) m acc=(acc++l.take m,0)
 | [],acc,m=>by rw [List.map_nil,walkR_nil];simp
 | p::r,acc,0=>by rw [walkR_zero];simp
 | p::r,acc,m+1=>by
  show (if (0:Int)=0 then walkR (r.map fun p=>(p,(0:Int))) m (acc++[p]) else _)=_
  rw [if_pos rfl,walkR_ok r (acc++[p]) m]
  simp
structure BH (k m m0:Nat):Prop where
 pw:4 ^ k*m≤m0
 hg:k+highN (10 - k) m=highR m0
theorem BH.start {m0:Nat} (h:1≤m0):BH 0 m0 m0:=⟨by simp,by unfold highR;rw [if_neg (by omega)];simp⟩
theorem BH.small {k m m0:Nat} (h:BH k m m0) (hm:1≤m) (h0:m0≤200):k≤3:=by
 have h1:=h.pw
 by_cases e:k≤3
 ·exact e
 ·have h2:4 ^ 4≤4 ^ k:=Nat.pow_le_pow_right (by omega) (by omega)
  have h3:4 ^ k*1≤4 ^ k*m:=Nat.mul_le_mul_left _ hm
  have h4:4 ^ 4=256:=by decide
  omega
theorem BH.next {k m m0:Nat} (h:BH k m m0) (hq:2≤manyG m) (h0:m0≤200):BH (k+1) (manyG m) m0:=by
 have hm:1≤m:=by have:=manyG_less hq;omega
 have hk:=h.small hm h0
 have b:=(manyG_bd hm).2.2.1 hq
 refine ⟨?_,?_⟩
 ·have h1:=h.pw
  have h2:4 ^ (k+1)*manyG m=4 ^ k*(4*manyG m):=by rw [Nat.pow_succ,Nat.mul_assoc]
  rw [h2]
  exact Nat.le_trans (Nat.mul_le_mul_left _ b) h1
 ·have h1:=h.hg
  rw [show 10 - k=(10 - (k+1))+1 by omega] at h1
  rw [highN,if_pos (by unfold manyG at hq;omega)] at h1
  unfold manyG
  omega
theorem BH.last {k m m0:Nat} (h:BH k m m0) (hm:1≤m) (hq:manyG m=1) (h0:m0≤200):highR m0=k+1:=by
 have hk:=h.small hm h0
 have h1:=h.hg
 rw [show 10 - k=(9 - k)+1 by omega,highN,if_neg (by unfold manyG at hq;omega)] at h1
 exact h1.symm
theorem BI.start {N:Nat} {items:List (Nat × Nat)} (hN:16≤N∧N≤4096) (h1:1≤items.length) (ha:Asc items) (hu:It64 items) (hr:(items.length:Int)+1≤2*(Bs.fmt N).room):BI N 1 0 items items (Bs.fmt N) :=
 ⟨(good_fmt hN).1,hr,h1,.inl ⟨rfl,rfl,ha,hu⟩⟩
theorem room_fmt {N:Nat} (hN:16≤N∧N≤4096):(Bs.fmt N).room=(N:Int) - 2 - 2*(needN N:Int):=by
 obtain ⟨g,hl,hw⟩:=good_fmt hN
 have:=g.room
 rw [hw,cnt_zero (fun i _=>hl i)] at this
 omega
theorem get_look {l:List (Nat × Nat)} {key:Nat} {r:Nat × Bool × Int} (ha:Asc l) (h:GetIs l key r):r=((lookP l key).1,(lookP l key).2,0):=by
 rcases h with ⟨v,hm,rfl⟩ | ⟨hn,rfl⟩
 ·obtain ⟨i,hi,e⟩:=List.getElem_of_mem hm
  have hk:(l.getD i (0,0)).1=key:=by rw [getD_lt hi,e]
  rw [look_take hi (fun j hj q=>by
   have:=ha.lt hj hi
   unfold kOf at this
   omega) hk,getD_lt hi,e]
 ·rw [look_none (fun j hj q=>by
   have:l.getD j (0,0)∈l:=by rw [getD_lt hj];exact List.getElem_mem hj
   exact hn (l.getD j (0,0)).2 (by rw [← q];exact this))]
section
variable {P:Program} {ops:Array Oper} {Q:Exit→Act→World→Prop} {md:Region.Mode} {D:List Nat} {R:World→Prop}
def Brk (D:List Nat) (R:World→Prop) (listed:Array Bool) (w:World):Prop:=(∀ d,d∈D→listed.getD d false=false)→R w
def wpAnyB (P:Program) (md:Region.Mode) (ops:Array Oper) (Q:Exit→Act→World→Prop) (D:List Nat) (R:World→Prop):Nat→Array Bool→Act→World→Prop
 | 0,listed,a,w=>Region.ready md ops listed=[]∧Q .normal a w
 | fuel+1,listed,a,w =>
  (Region.ready md ops listed=[]→Q .normal a w) ∧
  ∀ i∈Region.ready md ops listed,wpOp P ops Q i (fun a' w'=>Brk D R (listed.setIfInBounds i true) w'∧wpAnyB P md ops Q D R fuel (listed.setIfInBounds i true) a' w') a w
theorem wpAny_of_B:∀ (fuel:Nat) (listed:Array Bool) (a:Act) (w:World),wpAnyB P md ops Q D R fuel listed a w→wpAny P md ops Q fuel listed a w
 | 0,_,_,_,h=>h
 | fuel+1,_,_,_,h=>⟨h.1,fun i hi=>wpOp_mono (fun a' w' h'=>wpAny_of_B fuel _ a' w' h'.2) (h.2 i hi)⟩
def Closed (md:Region.Mode) (ops:Array Oper) (l:Array Bool):Prop:=∀ j oj,ops[j]?=some oj→l.getD j false=true→∀ e∈oj.after,Region.binds md e=true→l.getD e.on false=true
def closedB (md:Region.Mode) (ops:Array Oper) (l:Array Bool):Bool:=(List.range ops.size).all fun j => !l.getD j false||((ops[j]?).map (·.after.all fun e => !Region.binds md e||l.getD e.on false)).getD true
theorem closed_of {l:Array Bool} (h:closedB md ops l=true):Closed md ops l:=fun j oj hj hl e he hb=>by
 unfold closedB at h
 rw [List.all_eq_true] at h
 have:=h j (List.mem_range.2 (Array.getElem?_eq_some_iff.1 hj).1)
 rw [hj,hl] at this
 simp only [Bool.not_true,Bool.false_or,Option.map_some,Option.getD_some,Array.all_eq_true_iff_forall_mem,Bool.or_eq_true] at this
 rcases this e he with q | q
 ·rw [hb] at q;cases q
 ·exact q
theorem Closed.step {l:Array Bool} (h:Closed md ops l) {i:Nat} (hi:i∈Region.ready md ops l):Closed md ops (l.setIfInBounds i true):=fun j oj hj hl e he hb=>by
 by_cases hij:i=j
 ·subst hij
  obtain ⟨_,o,ho,hall⟩:=mem_ready.1 hi
  rw [hj] at ho
  cases ho
  exact getD_set_true (hall e he hb)
 ·rw [getD_set_ne false hij] at hl
  exact getD_set_true (h j oj hj hl e he hb)
def behindB (md:Region.Mode) (ops:Array Oper) (i:Nat):Nat→Nat→Bool
 | 0,_=>false
 | f+1,d=>((ops[d]?).map (·.after.any fun e=>Region.binds md e&&(e.on==i||behindB md ops i f e.on))).getD false
theorem behind_spec {i:Nat} {l:Array Bool} (hc:Closed md ops l) (hi:l.getD i false=false):∀ (f d:Nat),behindB md ops i f d=true→l.getD d false=false
 | 0,d,h=>by cases h
 | f+1,d,h=>by
  unfold behindB at h
  cases ho:ops[d]? with
  | none=>rw [ho] at h;cases h
  | some o =>
   rw [ho] at h
   simp only [Option.map_some,Option.getD_some,Array.any_eq_true',Bool.and_eq_true,Bool.or_eq_true,beq_iff_eq] at h
   obtain ⟨e,he,hb,h⟩:=h
   cases hd:l.getD d false with
   | false=>rfl
   | true =>
    have h1:=hc d o ho hd e he hb
    rcases h with rfl | h
    ·rw [hi] at h1;cases h1
    ·rw [behind_spec hc hi f e.on h] at h1;cases h1
theorem getD_false {l:Array Bool} {i:Nat} (h:l.getD i true=false):l.getD i false=false:=by
 rcases Nat.lt_or_ge i l.size with h' | h'
 ·simp [h'] at h ⊢;exact h
 ·simp [Array.getElem?_eq_none h'] at h
theorem ne_of_not {i d:Nat} {D:List Nat} (h:i∉D) (hd:d∈D):i≠d:=fun e=>h (by rw [e];exact hd)
theorem wpAnyB_first {T:World→Prop} {i:Nat} {oi:Oper} {v:Value} (hi:ops[i]?=some oi) (hsel:∀ (j:Nat) (o:Oper) cs b,ops[j]?=some o→o.op ≠ .select cs b)
  (hQ:∀ c a w,Q (.panic c) (a.put oi.dst v) w→Q (.panic c) a w) (hT:∀ l w,Closed md ops l→l.getD i true=false→Brk D R l w→T w) (hD:i∉D) :
  ∀ (fuel:Nat) (listed:Array Bool) (a:Act) (w:World),
   (∀ j oj,ops[j]?=some oj→j≠i→listed.getD j true=false→(∀ e∈oj.after,Region.binds md e=true→e.on≠i)→oi.apart ops oj=true) →
   i∈Region.ready md ops listed→Closed md ops listed→YieldsIf P ops T oi v a→Brk D R listed w →
   wpAnyB P md ops Q D R fuel (listed.setIfInBounds i true) (a.put oi.dst v) w→wpAnyB P md ops Q D R (fuel+1) listed a w:=by
 have hset:∀ (l:Array Bool) (w:World),Brk D R l w→Brk D R (l.setIfInBounds i true) w:=fun l w h q=>h fun d hd=>by
  have:=q d hd
  rwa [getD_set_ne false (ne_of_not hD hd)] at this
 have hunset:∀ (l:Array Bool) (w:World),Brk D R (l.setIfInBounds i true) w→Brk D R l w:=fun l w h q=>h fun d hd=>by
  rw [getD_set_ne false (ne_of_not hD hd)]
  exact q d hd
 intro fuel
 induction fuel with
 | zero =>
  intro listed a w _ hr hc hy hS H
  refine ⟨fun h=>(by rw [h] at hr;cases hr),fun j hj=>?_⟩
  by_cases hji:j=i
  ·subst hji;exact hy.wpOp hi (hT listed w hc (mem_ready.1 hr).1 hS) ⟨hset _ _ hS,H⟩
  ·have:=ready_mono hj hji
   rw [H.1] at this
   cases this
 | succ fuel ih =>
  intro listed a w hfree hr hc hy hS H
  refine ⟨fun h=>(by rw [h] at hr;cases hr),fun j hj=>?_⟩
  by_cases hji:j=i
  ·subst hji;exact hy.wpOp hi (hT listed w hc (mem_ready.1 hr).1 hS) ⟨hset _ _ hS,H⟩
  ·have h1:=H.2 j (ready_mono hj hji)
   obtain ⟨hjun,oj,hoj,hall⟩:=mem_ready.1 hj
   have hnot:∀ e∈oj.after,Region.binds md e=true→e.on≠i:=fun e he hb heq=>by
    have h1:=hall e he hb
    have h0:=(mem_ready.1 hr).1
    rw [heq,getD_false h0] at h1
    cases h1
   have h2:=wpOp_putIf hoj (hfree j oj hoj hji hjun hnot) (fun cs b=>hsel i oi cs b hi) (fun cs b=>hsel j oj cs b hoj) hQ hy h1
   have hfree':∀ k ok,ops[k]?=some ok→k≠i→(listed.setIfInBounds j true).getD k true=false →
     (∀ e∈ok.after,Region.binds md e=true→e.on≠i)→oi.apart ops ok=true:=fun k ok hk hki hun hno=>by
    refine hfree k ok hk hki ?_ hno
    by_cases hjk:j=k
    ·subst hjk;exact hjun
    ·rw [getD_set_ne true hjk] at hun;exact hun
   refine wpOp_mono (fun a' w' h3=>?_) h2
   have hS':Brk D R (listed.setIfInBounds j true) w':=hunset _ _ (by rw [Array.setIfInBounds_comm _ _ hji];exact h3.2.1)
   refine ⟨hS',ih (listed.setIfInBounds j true) a' w' hfree' (ready_mono hr (Ne.symm hji)) (hc.step hj) h3.1 hS' ?_⟩
   rw [Array.setIfInBounds_comm _ _ hji]
   exact h3.2.2
theorem wpAnyB_load {i:Nat} {oi:Oper} {v:Value} {fuel:Nat} {listed:Array Bool} {a:Act} {w:World} (hi:ops[i]?=some oi)
  (hs:Region.noSelect ops=true) (hf:Region.free md ops listed i=true) (hr:(Region.ready md ops listed).contains i=true) (hc:closedB md ops listed=true) (hb:D.all (fun d=>d != i&&behindB md ops i ops.size d)=true)
  (hQ:∀ c a w,Q (.panic c) (a.put oi.dst v) w→Q (.panic c) a w) (hy:YieldsIf P ops R oi v a) (hS:Brk D R listed w)
  (h:Brk D R (listed.setIfInBounds i true) w→wpAnyB P md ops Q D R fuel (listed.setIfInBounds i true) (a.put oi.dst v) w):wpAnyB P md ops Q D R (fuel+1) listed a w:=by
 rw [List.all_eq_true] at hb
 have hD:i∉D:=fun hm=>by have:=hb i hm;simp at this
 refine wpAnyB_first hi (Region.noSelect_spec hs) hQ (T:=R) (fun l w hc hl hB=>hB fun d hd=>?_) hD fuel listed a w (Region.free_spec hi hf) (by simpa using hr) (closed_of hc) hy hS (h fun q=>hS fun d hd=>?_)
 ·have:=hb d hd
  rw [Bool.and_eq_true] at this
  exact behind_spec hc (getD_false hl) _ d this.2
 ·have:=q d hd
  rwa [getD_set_ne false (ne_of_not hD hd)] at this
theorem wpAnyB_pure {i:Nat} {oi:Oper} {v:Value} {fuel:Nat} {listed:Array Bool} {a:Act} {w:World} (hi:ops[i]?=some oi)
  (hs:Region.noSelect ops=true) (hf:Region.free md ops listed i=true) (hr:(Region.ready md ops listed).contains i=true) (hc:closedB md ops listed=true) (hb:D.contains i=false)
  (hQ:∀ c a w,Q (.panic c) (a.put oi.dst v) w→Q (.panic c) a w) (hy:YieldsIf P ops (fun _=>True) oi v a) (hS:Brk D R listed w)
  (h:Brk D R (listed.setIfInBounds i true) w→wpAnyB P md ops Q D R fuel (listed.setIfInBounds i true) (a.put oi.dst v) w):wpAnyB P md ops Q D R (fuel+1) listed a w:=by
 have hD:i∉D:=fun hm=>by simp [hm] at hb
 exact wpAnyB_first hi (Region.noSelect_spec hs) hQ (T:=fun _=>True) (fun l w _ _ _=>trivial) hD fuel listed a w (Region.free_spec hi hf) (by simpa using hr) (closed_of hc) hy hS (h fun q=>hS fun d hd=>by
  have:=q d hd
  rwa [getD_set_ne false (ne_of_not hD hd)] at this)
def ZRB (P:Program) (md:Region.Mode) (ops:Array Oper) (Q:Exit→Act→World→Prop) (D:List Nat) (R:World→Prop) (fuel:Nat) (listed:Array Bool) (a:Act) (w:World) (rs:List Nat):Prop :=
 ∀ i∈rs,wpOp P ops Q i (fun a' w'=>Brk D R (listed.setIfInBounds i true) w'∧wpAnyB P md ops Q D R fuel (listed.setIfInBounds i true) a' w') a w
theorem ZRB.nil {fuel:Nat} {listed:Array Bool} {a:Act} {w:World} : ZRB P md ops Q D R fuel listed a w []:=fun _ h=>by cases h
theorem ZRB.cons {fuel:Nat} {listed:Array Bool} {a:Act} {w:World} {i:Nat} {o:Oper} {rs:List Nat} (ho:ops[i]?=some o)
  (h:∀ K':Act→World→Prop,Shut (∀ a w,(D.contains i=false→(D.all fun d => !listed.getD d false)=true→R w)→(Brk D R (listed.setIfInBounds i true) w→wpAnyB P md ops Q D R fuel (listed.setIfInBounds i true) a w)→K' a w)→if Region.wanted o (yielded ops a.tmps)=true then Oper.wp P o a w K' Q else K' (a.put o.dst undef) w)
  (hs:ZRB P md ops Q D R fuel listed a w rs) (hlt:i<listed.size):ZRB P md ops Q D R fuel listed a w (i::rs):=fun j hj=>by
 rcases List.mem_cons.1 hj with rfl | hj
 ·refine wpOp_step ho (fun K' hK=>h K' (fun a w hS hW=>?_))
  have hB:Brk D R (listed.setIfInBounds j true) w:=fun q=>by
   have hD:j∉D:=fun hm=>by
    have:=q j hm
    simp [hlt] at this
   refine hS (by simpa using hD) ?_
   rw [List.all_eq_true]
   intro d hd
   have:=q d hd
   rw [getD_set_ne false (ne_of_not hD hd)] at this
   rw [this];rfl
  exact hK a w ⟨hB,hW hB⟩
 ·exact hs j hj
theorem zrb {rs:List Nat} {fuel:Nat} {listed:Array Bool} {a:Act} {w:World} (hr:Region.ready md ops listed=rs) (hne:rs≠[])
  (h:ZRB P md ops Q D R fuel listed a w rs):wpAnyB P md ops Q D R (fuel+1) listed a w:=⟨fun h0=>absurd (hr▸h0) hne,hr▸h⟩
theorem wpAnyB_done {listed:Array Bool} {a:Act} {w:World} (hr:Region.ready md ops listed=[]) (h:Q .normal a w):∀ fuel,wpAnyB P md ops Q D R fuel listed a w
 | 0=>⟨hr,h⟩
 | _+1=>⟨fun _=>h,by rw [hr];simp⟩
theorem wp_region_brk {id:Nat} {a:Act} {w:World} (D:List Nat) (R:World→Prop) (hm:P.follows .mixedOrders=true) (hS:R w.drew)
  (h:Brk D R (Array.replicate ops.size false) w.drew→wpAnyB P .any ops Q D R ops.size (Array.replicate ops.size false) a w.drew):(Code.region id ops true).wp P Q a w :=
 wp_region_any hm (wpAny_of_B _ _ _ _ (h fun _=>hS))
end
end Go.Proofs.YtkhcaclndepgbaaGreat
