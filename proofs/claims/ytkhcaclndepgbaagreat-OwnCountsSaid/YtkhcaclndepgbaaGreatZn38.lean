/- Layer 13's statements: Build: the walk. -/
import Derived.Test.YtkhcaclndepgbaaGreatZn35
import Derived.Test.YtkhcaclndepgbaaGreatZn37
set_option linter.unusedVariables false
set_option linter.unusedSimpArgs false
set_option maxRecDepth 100000
set_option maxHeartbeats 20000000
namespace Go.Proofs.YtkhcaclndepgbaaGreat
open Go.RowKit
def u64Vs (n:Nat) (f:Nat->Nat):List Value:=(List.range n).map fun i => .int .u64 (f i:Int)
theorem small_wraps {x:Nat} (h:x<4096):wrap64 (x:Int)=(x:Int)/\IntKind.i64.wrap (x:Int)=(x:Int) :=
 ⟨IntWalk.wrap64_in _ (by omega),IntWalk.i64_in _ (by omega)⟩
theorem u64Vs_succ (n:Nat) (f:Nat->Nat):u64Vs (n+1) f=u64Vs n f++[.int .u64 (f n:Int)]:=by simp [u64Vs,List.range_succ]
theorem infoU64i:(Tryz.prog.info? 44).map (fun i=>(i.zero,i.size,i.bytes))=some (some (.int .u64 0),1,8):=by kernel_rfl
theorem numsIn_own {A:List Nat} {w:World} {base n:Nat} {v:Value} {f:Nat->Nat} (h:w.ownsRow base 44 1 v n (u64Vs n f)) (hf:∀ i,i<n->f i<18446744073709551616) (hA:∀ g,v.ownBlock=some g->g∉A):NumsIn A w v n f:=by
 obtain ⟨a,c,rfl,h1,h2⟩:=zos h;by_cases h0:n=0
 ·subst h0
  rcases h.2 with ⟨e,_⟩ | ⟨g,cap,cur,e,_,hg,r1,r2,r3,r4⟩
  ·injection e with e1 e2 e3
   subst e1;exact .inl ⟨⟨none,c,rfl,h2,fun _=>e3⟩,rfl⟩
  ·injection e with e1 e2 e3
   subst e1;exact .inl ⟨⟨_,c,rfl,h2,fun q=>by cases q⟩,rfl⟩
 ·obtain ⟨g,c',e,r1,r2,r3,r4,r5⟩:=zol h (by omega)
  injection e with e1 e2 e3;subst e1;refine .inr ⟨g,0,c,rfl,h1,h2,r4,hA g rfl,fun i hi=>⟨?_,hf i hi⟩⟩;rw [Nat.zero_add,r5 i (by omega)];unfold u64Vs;rw [List.getElem?_map,List.getElem?_range hi];rfl
structure Gth (W wr:World) (nb:Nat) (leaf:Bool) (g:List (Nat × Nat)) (j:Nat) (kv vv:Value):Prop where
 c:Chg [] W wr
 box:wr.heap[nb]?=some (.cells #[.bool leaf,kv,vv] 107 (0,0))/\W.heap.size<=nb
 k:wr.ownsRow W.heap.size 44 1 kv j (u64Vs j (kOf g))
 v:wr.ownsRow W.heap.size 44 1 vv j (u64Vs j (vOf g))
 ne:∀ q,kv.ownBlock=some q->vv.ownBlock≠some q
 far:(∀ q,kv.ownBlock=some q->q≠nb)/\(∀ q,vv.ownBlock=some q->q≠nb)
theorem Gth.more {W wr wz:World} {nb j:Nat} {leaf:Bool} {g:List (Nat × Nat)} {kv vv kv' vv':Value} {L:List Nat} (h:Gth W wr nb leaf g j kv vv) (hc:Chg L wr wz) (hL:∀ q,q∈L->W.heap.size<=q) (hb:wz.heap[nb]?=some (.cells #[.bool leaf,kv',vv'] 107 (0,0)))
  (hk:wz.ownsRow W.heap.size 44 1 kv' (j+1) (u64Vs j (kOf g)++[.int .u64 (kOf g j:Int)])) (hv:wz.ownsRow W.heap.size 44 1 vv' (j+1) (u64Vs j (vOf g)++[.int .u64 (vOf g j:Int)])) (hn:∀ q,kv'.ownBlock=some q->vv'.ownBlock≠some q) (hf:(∀ q,kv'.ownBlock=some q->q≠nb)/\(∀ q,vv'.ownBlock=some q->q≠nb)):Gth W wz nb leaf g (j+1) kv' vv' :=
 { c:=h.c.then hc (fun q hq => .inr (hL q hq)),box:=⟨hb,h.box.2⟩,k:=by rw [u64Vs_succ];exact hk,v:=by rw [u64Vs_succ];exact hv,ne:=hn,far:=hf }
theorem BI.lvl {B:Bs} {N G k:Nat} {items l:List (Nat × Nat)} (I:BI N G k items l B) (hM:N<=4096):∀ i,i<=manyG l.length->Good N G (lvlP (decide (k=0)) l B i).1/\(lvlP (decide (k=0)) l B i).1.room=B.room - i:=by
 intro i hi;rcases I.lv with ⟨rfl,rfl,ha,hu⟩ | ⟨h,rfl,hl2,R⟩
 ·have:=lvl_leaf I.good I.len ha hu (least:=1) (fun i hi=>(grp_bd I.len hi).2.1) I.many i hi
  exact ⟨this.1,this.2.1⟩
 ·have:=lvl_inner I.good hM I.len R (least:=1) (fun i hi=>(grp_bd I.len hi).2.1) I.many (A:=fun v=>allP B h (v:Int)) (fun j _=>rfl) i hi
  exact ⟨this.1,this.2.1⟩
theorem BI.grp_right {B:Bs} {N G k:Nat} {items l:List (Nat × Nat)} (I:BI N G k items l B) (hM:N<=4096) {i:Nat} (hi:i<manyG l.length) :
  rightB (decide (k=0)) (grp l (manyG l.length) i).length (grp l (manyG l.length) i).length (kOf (grp l (manyG l.length) i)) (vOf (grp l (manyG l.length) i))=true:=by
 obtain ⟨b1,b2,b3⟩:=grp_bd I.len hi;have hq:0<manyG l.length:=by omega
 have ha:=I.asc.1.grp (manyG l.length) i;have hs:=gLo_le (m:=l.length) hq (show i+1<=manyG l.length by omega);have hgl:=grp_len (l:=l) hq hi;rcases I.lv with ⟨rfl,rfl,-,-⟩ | ⟨h,rfl,hl2,R⟩
 ·unfold rightB
  rw [decide_eq_true b1,decide_eq_true rfl,(ascB_iff _ _).2 ha.to];rfl
 ·unfold rightB
  have hn:=I.good.n
  have hk:kidsB (vOf (grp l (manyG l.length) i)) (grp l (manyG l.length) i).length=true:=(kidsB_iff _ _).2 ⟨b2,fun j hj=>by
   rw [(kOf_grp hq hi hj).2];have:=R.val (gLo l.length (manyG l.length) i+j) (by omega)
   exact ⟨by omega,by omega⟩,fun a b hab hb=>by
   rw [(kOf_grp hq hi hb).2,(kOf_grp hq hi (show a<_ by omega)).2];exact R.apart _ _ (by omega) (by omega)⟩
  rw [decide_eq_true b1,decide_eq_true rfl,(ascB_iff _ _).2 ha.to,hk];rfl
structure GS (base:Nat) (w1 cur:World) (k0 v0 kv vv:Value) (nk nv:Nat) (xk xv:List Value) (bs:List (Nat × Value)):Prop where
 c:Chg (ownL k0++ownL v0) w1 cur
 k:cur.ownsRow base 44 1 kv nk xk
 v:cur.ownsRow base 44 1 vv nv xv
 kn:∀ q,kv.ownBlock=some q->k0.ownBlock=some q∨w1.heap.size<=q
 vn:∀ q,vv.ownBlock=some q->v0.ownBlock=some q∨w1.heap.size<=q
 ne:∀ q,kv.ownBlock=some q->vv.ownBlock≠some q
 b:∀ p,p∈bs->cur.heap[p.1]?=some (.cells #[p.2] 44 (0,0))/\w1.heap.size<=p.1/\kv.ownBlock≠some p.1/\vv.ownBlock≠some p.1
theorem GS.new {base:Nat} {w1 cur:World} {k0 v0 kv vv:Value} {nk nv:Nat} {xk xv:List Value} {bs:List (Nat × Value)} (h:GS base w1 cur k0 v0 kv vv nk nv xk xv bs) (x:Value) :
  GS base w1 (cur.alloc (.cells #[x] 44)) k0 v0 kv vv nk nv xk xv ((cur.heap.size,x)::bs):=by
 have c1:Chg [] cur (cur.alloc (.cells #[x] 44)):=(Chg.refl [] cur).alloc _;refine { c:=h.c.alloc _,k:=zoc h.k c1 (by simp),v:=zoc h.v c1 (by simp),kn:=h.kn,vn:=h.vn,ne:=h.ne,b:=fun p hp=>?_ };rcases List.mem_cons.1 hp with rfl | hp
 ·exact ⟨znb cur _,h.c.size,fun e=>by have:=(h.k.lt _ e).2;omega,fun e=>by have:=(h.v.lt _ e).2;omega⟩
 ·obtain ⟨b1,b2,b3,b4⟩:=h.b p hp
  exact ⟨(c1.block _ (zhl b1) (by simp)).trans b1,b2,b3,b4⟩
theorem GS.ak {base:Nat} {w1 cur cur':World} {k0 v0 kv vv kv':Value} {nk nv:Nat} {xk xv xk':List Value} {bs:List (Nat × Value)} (h:GS base w1 cur k0 v0 kv vv nk nv xk xv bs) {m:Nat} (ho:cur'.ownsRow base 44 1 kv' m xk') (hg:cur.grownBy cur' kv.ownBlock) (hb:kv'.ownBlock=kv.ownBlock∨kv'.ownBlock=some cur.heap.size) :
  GS base w1 cur' k0 v0 kv' vv m nv xk' xv bs:=by
 have c1:Chg (ownL kv) cur cur':=(Chg.refl (ownL kv) cur).grown hg (fun q hq => .inl (zml.2 hq));refine { c:=h.c.then c1 (fun q hq=>?_),k:=ho,v:=zoc h.v c1 (fun q hq hm=>h.ne q (zml.1 hm) hq),kn:=fun q hq=>?_,vn:=h.vn,ne:=fun q hq hv=>?_,b:=fun p hp=>?_ }
 ·rcases h.kn q (zml.1 hq) with e | e
  ·exact .inl (zal _ (zml.2 e))
  ·exact .inr e
 ·rcases hb with e | e
  ·exact h.kn q (e▸hq)
  ·rw [e] at hq;cases hq;exact .inr h.c.size
 ·rcases hb with e | e
  ·exact h.ne q (e▸hq) hv
  ·rw [e] at hq;cases hq;have:=(h.v.lt _ hv).2;omega
 ·obtain ⟨b1,b2,b3,b4⟩:=h.b p hp
  refine ⟨(c1.block _ (zhl b1) (fun hm=>b3 (zml.1 hm))).trans b1,b2,fun e=>?_,b4⟩;rcases hb with q | q
  ·exact b3 (q▸e)
  ·rw [q] at e;have:=zhl b1;injection e with e;omega
theorem GS.swap {base:Nat} {w1 cur:World} {k0 v0 kv vv:Value} {nk nv:Nat} {xk xv:List Value} {bs:List (Nat × Value)} (h:GS base w1 cur k0 v0 kv vv nk nv xk xv bs):GS base w1 cur v0 k0 vv kv nv nk xv xk bs :=
 { c:=h.c.mono (fun q hq=>by rw [List.mem_append] at hq ⊢;exact hq.symm),k:=h.v,v:=h.k,kn:=h.vn,vn:=h.kn,ne:=fun q a b=>h.ne q b a,b:=fun p hp=>by obtain ⟨b1,b2,b3,b4⟩:=h.b p hp;exact ⟨b1,b2,b4,b3⟩ }
theorem GS.av {base:Nat} {w1 cur cur':World} {k0 v0 kv vv vv':Value} {nk nv:Nat} {xk xv xv':List Value} {bs:List (Nat × Value)} (h:GS base w1 cur k0 v0 kv vv nk nv xk xv bs) {m:Nat} (ho:cur'.ownsRow base 44 1 vv' m xv') (hg:cur.grownBy cur' vv.ownBlock) (hb:vv'.ownBlock=vv.ownBlock∨vv'.ownBlock=some cur.heap.size) :
  GS base w1 cur' k0 v0 kv vv' nk m xk xv' bs:=(h.swap.ak ho hg hb).swap
theorem GS.src {base:Nat} {w1 cur:World} {k0 v0 kv vv:Value} {nk nv:Nat} {xk xv:List Value} {bs:List (Nat × Value)} (h:GS base w1 cur k0 v0 kv vv nk nv xk xv bs) {b:Nat} {x:Value} (hm:(b,x)∈bs) (h1:x.oneCell'=true):AppSrc cur 1 (.slice (some ⟨b,0,none⟩) 1 1) 1 [x] :=
 AppSrc.blk (h.b _ hm).1 rfl (fun u hu=>by simp at hu;subst hu;exact h1)
theorem base_app {w4 w5:World} {M:Bm} {F:List Nat} {B:Bs} {s s':Value} (hb:BaseAt w4 M (ownL s++F) B) (hg:w4.grownBy w5 s.ownBlock) (ho:s'.ownBlock=s.ownBlock∨s'.ownBlock=some w4.heap.size):BaseAt w5 M (ownL s'++F) B:=by
 have hcg:Chg (ownL s) w4 w5:=(Chg.refl (ownL s) w4).grown hg (fun q hq => .inl (zml.2 hq));have hb5:=(hb.new (zLr _)).chg hcg (fun x hx=>zco _ (zal _ hx));refine hb5.sub (fun x hx=>?_);rcases List.mem_append.1 hx with hx | hx
 ·rcases ho with e | e
  ·exact zco _ (zal _ (zml.2 (e▸zml.1 hx)))
  ·have:=zml.1 hx
   rw [e] at this;injection this with this;rw [<- this];exact List.mem_cons_self ..
 ·exact zco _ (zar _ hx)
theorem lvlP_succ {leaf:Bool} {l:List (Nat × Nat)} {B:Bs} {i:Nat} : lvlP leaf l B (i+1)=((lvlP leaf l B i).1.put (pageF leaf (grp l (manyG l.length) i).length (kOf (grp l (manyG l.length) i)) (vOf (grp l (manyG l.length) i))),(lvlP leaf l B i).2++[(kOf l (gLo l.length (manyG l.length) i),(lvlP leaf l B i).1.at_)]):=rfl
noncomputable def bldP:Nat->Nat->List (Nat × Nat)->Bs->Bs × Nat
 | 0,_,_,B=>(B,0)
 | f+1,k,l,B=>if manyG l.length=1 then ((lvlP (decide (k=0)) l B 1).1,vOf (lvlP (decide (k=0)) l B 1).2 0) else bldP f (k+1) (lvlP (decide (k=0)) l B (manyG l.length)).2 (lvlP (decide (k=0)) l B (manyG l.length)).1
theorem bldP_last {k:Nat} {l:List (Nat × Nat)} {B:Bs} (hk:k<=3) (h:manyG l.length=1):bldP (8 - k) k l B=((lvlP (decide (k=0)) l B 1).1,vOf (lvlP (decide (k=0)) l B 1).2 0):=by
 rw [show 8 - k=(7 - k)+1 by omega,bldP,if_pos h]
theorem bldP_next {k:Nat} {l:List (Nat × Nat)} {B:Bs} (hk:k<=3) (h:manyG l.length≠1):bldP (8 - k) k l B=bldP (8 - (k+1)) (k+1) (lvlP (decide (k=0)) l B (manyG l.length)).2 (lvlP (decide (k=0)) l B (manyG l.length)).1:=by
 rw [show 8 - k=(8 - (k+1))+1 by omega,bldP,if_neg h]
theorem Gth.step {W wr w1 WF:World} {nb j x y:Nat} {leaf:Bool} {g:List (Nat × Nat)} {k0 v0 kz vz:Value} {bs:List (Nat × Value)} (h:Gth W wr nb leaf g j k0 v0) (c1:Chg [] wr w1)
  (hs:GS W.heap.size w1 WF k0 v0 kz vz (j+1) (j+1) (u64Vs j (kOf g)++[.int .u64 (x:Int)]) (u64Vs j (vOf g)++[.int .u64 (y:Int)]) bs) (hx:x=kOf g j) (hy:y=vOf g j)
  (hb:((WF.setCell ⟨nb,1,none⟩ kz).setCell ⟨nb,2,none⟩ vz).heap[nb]?=some (.cells #[.bool leaf,kz,vz] 107 (0,0))):Gth W ((WF.setCell ⟨nb,1,none⟩ kz).setCell ⟨nb,2,none⟩ vz) nb leaf g (j+1) kz vz:=by
 have hz:Chg [nb] WF ((WF.setCell ⟨nb,1,none⟩ kz).setCell ⟨nb,2,none⟩ vz):=((Chg.refl [nb] WF).setCell (.inl (by simp)) _).setCell (.inl (by simp)) _;have hnb1:nb<w1.heap.size:=zLl (zhl h.box.1) c1.size
 have fk:∀ q,kz.ownBlock=some q->q≠nb:=fun q hq=>by
  rcases hs.kn q hq with e | e
  ·exact h.far.1 q e
  ·omega
 have fv:∀ q,vz.ownBlock=some q->q≠nb:=fun q hq=>by
  rcases hs.vn q hq with e | e
  ·exact h.far.2 q e
  ·omega
 refine h.more (L:=nb::(ownL k0++ownL v0)) (((c1.mono (by simp)).trans (hs.c.mono (fun q hq=>zco _ hq))).trans (hz.mono (by simp))) (fun q hq=>?_) hb ?_ ?_ hs.ne ⟨fk,fv⟩
 ·rcases List.mem_cons.1 hq with rfl | hq
  ·exact h.box.2
  ·rcases List.mem_append.1 hq with hq | hq
   ·exact (h.k.lt q (zml.1 hq)).1
   ·exact (h.v.lt q (zml.1 hq)).1
 ·rw [<- hx];exact zoc hs.k hz (fun q hq hm=>fk q hq (by simpa using hm))
 ·rw [<- hy];exact zoc hs.v hz (fun q hq hm=>fv q hq (by simpa using hm))
theorem build13_at {w:World} {M:Bm} {F:List Nat} {B:Bs} {N:Nat} {items:List (Nat × Nat)} {v:Value} (hb:BaseAt w M F B) (hF:∀ q,q∈F->q<w.heap.size) (hI:BI N 1 0 items items B) (hM:N<=4096) (hit:ItemsIn M.L w v items) (h200:items.length<=200) :
  Calls Tryz.prog 51 #[.pointer (some ⟨M.b,0,none⟩),v] w fun e w'=>∃ (x h:Nat) (B':Bs),e = .returned (.tuple #[.int .i64 (x:Int),.bool true])/\BaseAt w' M F B'/\Good N 1 B'/\TreeIs B' (x:Int) h items/\h<8/\highR items.length=h+1/\Chg M.L w w'/\(B',x)=bldP 8 0 items B:=by
 obtain ⟨a,c,rfl,hc1,hc2⟩:=hit.len;have hl1:=hI.len;have HH:=zh (BH.start hl1);have HB:=zh hb;have HFF:=zh hF;have HI:=zh hI;have HIT:=zh hit;have HML:=zh (fun q hq=>hb.ltL hq:∀ q,q∈M.L->q<w.heap.size);obtain ⟨m0,hm0⟩:∃ m0,m0=items.length:=⟨_,rfl⟩;rw [<- hm0] at HH hc1 hl1 h200 ⊢;replace HIT:Hid (ItemsIn M.L w (.slice a m0 c) items):=zh (by rw [hm0];exact HIT.out);have HM0:=zh hm0;obtain ⟨R0,hR0⟩:∃ R0,R0=bldP 8 0 items B:=⟨_,rfl⟩;rw [<- hR0];have HR0:=zh hR0;clear hR0;clear hb hF hI hit hm0;have hz:((m0:Int)==0)=false:=by simp;omega
 go_enter Tryz.func51,Tryz.ntmps51;go_wp2_with fail;go_loopg [1,6] m0 (fun gg s1 s6 wr=>∃ (k:Nat) (l:List (Nat × Nat)) (B:Bs),gg=l.length/\s6 = .int .i64 (k:Int)/\Hid (ItemsIn M.L wr s1 l/\BI N 1 k items l B/\BH k l.length m0/\BaseAt wr M F B/\Chg M.L w wr/\R0=bldP (8 - k) k l B))
 case atStart=>exact ⟨0,items,B,HM0.out,rfl,zh ⟨HIT.out,HI.out,by rw [<- HM0.out];exact HH.out,HB.out,Chg.refl _ _,HR0.out⟩⟩
 case round =>
  obtain ⟨k,l,B,hgg,rfl,H⟩:=hrel;obtain ⟨a,c,rfl,hc1,hc2⟩:=H.out.1.len;have hl1:=H.out.2.1.len;have hk3:k<=3:=H.out.2.2.1.small hl1 h200;obtain ⟨b1,b2,b3,b4⟩:=manyG_bd hl1
  have hl200:l.length<=200:=by
   have h1:=H.out.2.2.1.pw;have h2:1*l.length<=4 ^ k*l.length:=Nat.mul_le_mul_right _ (Nat.pow_pos (by omega));omega
  have hl1':=hl1;obtain ⟨m,hm⟩:∃ m,m=l.length:=⟨_,rfl⟩;obtain ⟨q,hq⟩:∃ q,q=manyG l.length:=⟨_,rfl⟩;have HQ:=zh (zA hm hq);rw [<- hm] at hc1 hl1 hl200 ⊢;have hdiv:((m:Int)+7 - 1) / 7=(q:Int):=by rw [hq,hm];unfold manyG;omega
  rw [<- hq] at b1 b2 b3 b4;rw [<- hm] at b2 b3 b4;have HGG:=zh hgg;clear hm hq hgg;go_wp2_with fail;rw [hdiv];clear hdiv;obtain ⟨wo,rfl⟩:∃ wo:World,wo=wr:=⟨_,rfl⟩;go_loopg [8,26] q (fun gg s8 s26 wx=>∃ i:Nat,gg=q - i/\i<=q/\s26 = .int .i64 (i:Int)/\Hid (wx.ownsRow wo.heap.size 104 2 s8 i (itVs (lvlP (decide (k=0)) l B i).2)/\BaseAt wx M (ownL s8++F) (lvlP (decide (k=0)) l B i).1/\Chg M.L wo wx))
  case atStart=>exact ⟨0,rfl,Nat.zero_le _,rfl,zh ⟨World.ownsRow_nil _ _ _ _,H.out.2.2.2.1,Chg.refl _ _⟩⟩
  case round =>
   obtain ⟨i,hgi,hi,rfl,HU⟩:=hrel;have HGI:=zh hgi;clear hgi;by_cases hiq:i<q
   ·have i1:(i:Int)<(q:Int):=by omega
    have hq0:0<q:=by omega
    have hbds:gLo m q i<gLo m q (i+1)/\gLo m q (i+1)<=m:=by
     have h1:=grp_lo hl1' (i:=i) (by rw [<- HQ.out.2];exact hiq);rw [<- HQ.out.2,<- HQ.out.1] at h1;exact ⟨h1.1,gLo_le hq0 hiq⟩
    obtain ⟨lo,hlo⟩:∃ lo,lo=gLo m q i:=⟨_,rfl⟩;obtain ⟨hi2,hhi2⟩:∃ z,z=gLo m q (i+1):=⟨_,rfl⟩;rw [<- hlo,<- hhi2] at hbds;obtain ⟨hb1,hb2⟩:=hbds;have e1:((i:Int)*(m:Int)) / (q:Int)=(lo:Int):=by rw [hlo];unfold gLo;simp
    have e2:(((i:Int)+1)*(m:Int)) / (q:Int)=(hi2:Int):=by rw [hhi2];unfold gLo;simp
    have HLO:=zh (zA hlo hhi2);clear hlo hhi2
    have hm1:((i:Int)*(m:Int))<=40000/\0<=((i:Int)*(m:Int)):=by
     have:i*m<=200*200:=Nat.mul_le_mul (by omega) hl200;rw [<- Int.natCast_mul];omega
    have hm2:(((i:Int)+1)*(m:Int))<=40200/\0<=(((i:Int)+1)*(m:Int)):=by
     have:(i+1)*m<=201*200:=Nat.mul_le_mul (by omega) hl200;have e:(((i:Int)+1)*(m:Int))=(((i+1)*m:Nat):Int):=by simp
     rw [e];omega
    have e3:IntKind.i64.wrap ((i:Int)*(m:Int))=(i:Int)*(m:Int):=IntWalk.i64_in _ (by omega);have e4:IntKind.i64.wrap (((i:Int)+1)*(m:Int))=((i:Int)+1)*(m:Int):=IntWalk.i64_in _ (by omega);obtain ⟨ib,io,rfl,hib,hibM,_,_⟩:=H.out.1.get (i:=0) (by rw [<- HQ.out.1];omega);have hcl:¬ c=lo:=by omega
    obtain ⟨lf,hlf⟩:∃ lf,lf=decide (k=0):=⟨_,rfl⟩;have hkz:((k:Int)==0)=lf:=by rw [hlf,Bool.eq_iff_iff];simp
    have HLF:=zh hlf;clear hlf;go_upto_region 11 with fail
    go_region
    have hcb:Chg [] wr (wr.alloc (.cells #[.bool lf,.slice none 0 0,.slice none 0 0] 107)).drew:=((Chg.refl [] wr).alloc (.cells #[.bool lf,.slice none 0 0,.slice none 0 0] 107)).drew;have hbx:(wr.alloc (.cells #[.bool lf,.slice none 0 0,.slice none 0 0] 107)).drew.heap[wr.heap.size]?=some (.cells #[.bool lf,.slice none 0 0,.slice none 0 0] 107 (0,0)):=znb wr (.cells #[.bool lf,.slice none 0 0,.slice none 0 0] 107);generalize (wr.alloc (.cells #[.bool lf,.slice none 0 0,.slice none 0 0] 107)).drew=W1 at hcb hbx ⊢;obtain ⟨nb,hnb⟩:∃ nb,nb=wr.heap.size:=⟨_,rfl⟩;rw [<- hnb] at hbx ⊢;obtain ⟨gn,hgn⟩:∃ gn,gn=hi2 - lo:=⟨_,rfl⟩;rw [<- hgn];obtain ⟨g,hg⟩:∃ g,g=grp l (manyG l.length) i:=⟨_,rfl⟩
    have hgl:g.length=gn:=by
     rw [hg,grp_len (by rw [<- HQ.out.2];omega) (by rw [<- HQ.out.2];exact hiq),hgn,HLO.out.1,HLO.out.2,<- HQ.out.2,<- HQ.out.1]
    have hgj:∀ j,j<gn->kOf g j=kOf l (lo+j)/\vOf g j=vOf l (lo+j):=fun j hj=>by
     have:=kOf_grp (l:=l) (q:=manyG l.length) (i:=i) (j:=j) (by rw [<- HQ.out.2];omega) (by rw [<- HQ.out.2];exact hiq) (by rw [<- hg,hgl];exact hj);rw [<- hg,<- HQ.out.2,<- HQ.out.1,<- HLO.out.1] at this;exact this
    have HNB:=zh (zA hnb (zA hgn (zA hg (zA hgl hgj))));have HG0:Hid (Gth wr W1 nb lf g 0 (.slice none 0 0) (.slice none 0 0)):=zh ⟨hcb,⟨hbx,by rw [hnb];exact zLr _⟩,World.ownsRow_nil _ _ _ _,World.ownsRow_nil _ _ _ _,fun q h=>(by cases h),⟨fun q h=>(by cases h),fun q h=>(by cases h)⟩⟩;have hgn1:1<=gn/\gn<=m:=by omega
    clear hcb hbx hnb hgn hg hgl hgj;obtain ⟨wx,rfl⟩:∃ wx:World,wx=wr:=⟨_,rfl⟩;go_wp2_with fail;rw [e1,e2];clear e1 e2 e3 e4 hm1 hm2;go_loopg [48] gn (fun gg s48 wy=>∃ (j:Nat) (kv vv:Value),gg=gn - j/\j<=gn/\s48 = .int .i64 (j:Int)/\Hid (Gth wx wy nb lf g j kv vv))
    case atStart=>exact ⟨0,_,_,rfl,Nat.zero_le _,rfl,HG0⟩
    case round =>
     obtain ⟨j,kv,vv,hgj,hj,rfl,HG⟩:=hrel;have HGJ:=zh hgj;clear hgj;by_cases hjn:j<gn
     ·have i2:(j:Int)<(gn:Int):=by omega
      obtain ⟨ib',io',e,hib',_,c0,c1⟩:=((H.out.1.chg HU.out.2.2 (fun k hk => .inl hk)).chg HG.out.c (by simp)).get (i:=lo+j) (by rw [<- HQ.out.1];have:=HNB.out.2.1;omega);injection e with e;injection e with e e' _;subst e;subst e';rw [show io+(lo+j)*2=io+lo*2+j*2 by omega] at c0 c1;obtain ⟨x,hx⟩:∃ x,x=kOf l (lo+j):=⟨_,rfl⟩;obtain ⟨y,hy⟩:∃ y,y=vOf l (lo+j):=⟨_,rfl⟩;have c0':wr.cell? ⟨ib,io+lo*2+j*2,none⟩=some (.int .u64 (x:Int)):=by rw [hx];exact c0
      have c1':wr.cell? ⟨ib,io+lo*2+j*2+1,none⟩=some (.int .u64 (y:Int)):=by rw [hy];exact c1
      have HXY:=zh (zA hx hy);clear c0 c1 hx hy;go_upto_region 14 with fail;obtain ⟨ka,kc,rfl,kb1,kb2⟩:=zos HG.out.k;obtain ⟨va2,vc2,rfl,vb1,vb2⟩:=zos HG.out.v;obtain ⟨LL,hLL⟩:∃ LL,LL=ownL (.slice ka j kc)++ownL (.slice va2 j vc2):=⟨_,rfl⟩;have HLL:=zh hLL;clear hLL;have hB1:=(Chg.refl [] wr).alloc (.cells #[.int .u64 (x:Int),.int .u64 (y:Int)] 104);have hXB:=znb wr (.cells #[.int .u64 (x:Int),.int .u64 (y:Int)] 104);generalize wr.alloc (.cells #[.int .u64 (x:Int),.int .u64 (y:Int)] 104)=w1 at hB1 hXB ⊢;obtain ⟨xb,hxb⟩:∃ xb,xb=wr.heap.size:=⟨_,rfl⟩;rw [<- hxb] at hXB ⊢;have hNBK:=(hB1.block nb (zhl HG.out.box.1) (by simp)).trans HG.out.box.1
      have HNBF:Hid (∀ wz,Chg (ownL (.slice ka j kc)++ownL (.slice va2 j vc2)) w1 wz->wz.heap[nb]?=some (.cells #[.bool lf,.slice ka j kc,.slice va2 j vc2] 107 (0,0))):=zh fun wz hz=>by
       refine (hz.block nb (zhl hNBK) (fun hm=>?_)).trans hNBK;rcases List.mem_append.1 hm with hm | hm
       ·exact HG.out.far.1 nb (zml.1 hm) rfl
       ·exact HG.out.far.2 nb (zml.1 hm) rfl
      have HQQ:Hid (∀ wz,Chg LL w1 wz->wz.cell? ⟨nb,1,none⟩=some (.slice ka j kc)/\wz.cell? ⟨nb,2,none⟩=some (.slice va2 j vc2)/\wz.cell? ⟨xb,0,none⟩=some (.int .u64 (x:Int))/\wz.cell? ⟨xb,1,none⟩=some (.int .u64 (y:Int))):=zh fun wz hz=>by
       rw [HLL.out] at hz;have b1:=HNBF.out wz hz
       have b2:=(hz.block xb (zhl hXB) (fun hm=>by
        rcases List.mem_append.1 hm with hm | hm
        ·have:=(HG.out.k.lt _ (zml.1 hm)).2;omega
        ·have:=(HG.out.v.lt _ (zml.1 hm)).2;omega)).trans hXB
       exact ⟨(zcb b1 1).trans rfl,(zcb b1 2).trans rfl,(zcb b2 0).trans rfl,(zcb b2 1).trans rfl⟩
      have HS0:Hid (GS wx.heap.size w1 w1.drew (.slice ka j kc) (.slice va2 j vc2) (.slice ka j kc) (.slice va2 j vc2) j j (u64Vs j (kOf g)) (u64Vs j (vOf g)) []):=zh { c:=(Chg.refl _ w1).drew,k:=zoc HG.out.k hB1.drew (by simp),v:=zoc HG.out.v hB1.drew (by simp),kn:=fun q h => .inl h,vn:=fun q h => .inl h,ne:=HG.out.ne,b:=fun p hp=>(by cases hp) };have HSZ:=zh (zLt HG.out.c.size hB1.size);have HB1:=zh hB1;have HXG:Hid (x=kOf g j/\y=vOf g j):=zh (by have:=HNB.out.2.2.2.2 j hjn;rw [this.1,this.2];exact HXY.out);clear hB1 hxb hXB hNBK;refine wp_region_brk [13,15] (fun wz=>Chg LL w1 wz) (by kernel_rfl) (by rw [HLL.out];exact HS0.out.c) (fun hHeld=>?_);generalize w1.drew=W0 at HS0 hHeld ⊢;refine wbP 0 fun hHeld=>?_;try simp only [Act.put,sA1,sA2,sA3]
      refine wbP 2 fun hHeld=>?_;try simp only [Act.put,sA1,sA2,sA3]
      refine wbP 6 fun hHeld=>?_;try simp only [Act.put,sA1,sA2,sA3]
      refine wbP 8 fun hHeld=>?_;try simp only [Act.put,sA1,sA2,sA3]
      refine wbL 1 (fun hHeld=>?_) (hy:=by intro w hSw;obtain ⟨q1,q2,q3,q4⟩:=HQQ.out w hSw;go_simp;first | done | with_reducible rfl);try simp only [Act.put,sA1,sA2,sA3]
      refine wbL 3 (fun hHeld=>?_) (hy:=by intro w hSw;obtain ⟨q1,q2,q3,q4⟩:=HQQ.out w hSw;go_simp;first | done | with_reducible rfl);try simp only [Act.put,sA1,sA2,sA3]
      refine wbL 7 (fun hHeld=>?_) (hy:=by intro w hSw;obtain ⟨q1,q2,q3,q4⟩:=HQQ.out w hSw;go_simp;first | done | with_reducible rfl);try simp only [Act.put,sA1,sA2,sA3]
      refine wbL 9 (fun hHeld=>?_) (hy:=by intro w hSw;obtain ⟨q1,q2,q3,q4⟩:=HQQ.out w hSw;go_simp;first | done | with_reducible rfl);try simp only [Act.put,sA1,sA2,sA3]
      refine wbR [4,10] ?_;refine wbC (fun K hK=>?_) ?_
      ·(go_simp;have HS1:=zh (HS0.out.new (.int .u64 (x:Int)));generalize W0.alloc (.cells #[.int .u64 (x:Int)] 44)=W1 at *)
       refine hK.out _ _ (fun _ _=>by rw [HLL.out];exact HS1.out.c) (fun hHeld=>?_);clear hK K;try simp only [Act.put,sA1,sA2,sA3]
       refine wbR [5,10] ?_;refine wbC (fun K hK=>?_) ?_
       ·(refine step_app rfl (.tmp 53) (.tmp 56) 84 rfl rfl (base:=wx.heap.size) (size:=1) (n:=j) (m:=1) (xv := .slice (some ⟨W0.heap.size,0,none⟩) 1 1) (xs:=u64Vs j (kOf g)) (news:=[.int .u64 (x:Int)]) Tryz.underlying84 infoU64i rfl (by omega) (by omega) (by simp [Act.eval,Act.put]) (by simp [Act.eval,Act.put]) HS1.out.k (HS1.out.src (by simp) rfl) (by omega) (zLt HSZ.out HS1.out.c.size) ?_;intro z W2 hown hgr hob;obtain ⟨ka3,kc3,rfl,_,_⟩:=zos hown;have HS2:=zh (HS1.out.ak hown hgr hob);clear hown hgr hob)
        refine hK.out _ _ (fun _ _=>by rw [HLL.out];exact HS2.out.c) (fun hHeld=>?_);clear hK K;try simp only [Act.put,sA1,sA2,sA3]
        refine wbP 12 fun hHeld=>?_;try simp only [Act.put,sA1,sA2,sA3]
        refine wbE 10 (fun K hK=>?_)
        (go_simp;have HS3:=zh (HS2.out.new (.int .u64 (y:Int)));generalize W2.alloc (.cells #[.int .u64 (y:Int)] 44)=W3 at *)
        refine hK.out _ _ (fun _ _=>by rw [HLL.out];exact HS3.out.c) (fun hHeld=>?_);clear hK K;try simp only [Act.put,sA1,sA2,sA3]
        refine wbE 11 (fun K hK=>?_)
        (refine step_app rfl (.tmp 59) (.tmp 62) 84 rfl rfl (base:=wx.heap.size) (size:=1) (n:=j) (m:=1) (xv := .slice (some ⟨W2.heap.size,0,none⟩) 1 1) (xs:=u64Vs j (vOf g)) (news:=[.int .u64 (y:Int)]) Tryz.underlying84 infoU64i rfl (by omega) (by omega) (by simp [Act.eval,Act.put]) (by simp [Act.eval,Act.put]) HS3.out.v (HS3.out.src (by simp) rfl) (by omega) (zLt HSZ.out HS3.out.c.size) ?_;intro z WF hown hgr hob;obtain ⟨va3,vc3,rfl,_,_⟩:=zos hown;have HF:=zh (HS3.out.av hown hgr hob);clear hown hgr hob)
        refine hK.out _ _ (fun _ _=>by rw [HLL.out];exact HF.out.c) (fun hHeld=>?_);clear hK K;try simp only [Act.put,sA1,sA2,sA3]
        have b1:=HNBF.out _ HF.out.c;have f1:=zfb b1 1;have q1:=(zcb b1 1).trans rfl;refine wbE 13 (fun K hK=>?_)
        (go_simp)
        refine hK.out _ _ (fun h=>absurd h (by decide)) (fun hHeld=>?_);clear hK K;try simp only [Act.put,sA1,sA2,sA3]
        have b2:=zsb b1 1 (.slice ka3 (j+1) kc3);have f2:=zfb b2 2;have q2:=(zcb b2 2).trans rfl;refine wbP 14 fun hHeld=>?_;try simp only [Act.put,sA1,sA2,sA3]
        refine wbE 15 (fun K hK=>?_)
        (go_simp)
        refine hK.out _ _ (fun h=>absurd h (by decide)) (fun hHeld=>?_);clear hK K;try simp only [Act.put,sA1,sA2,sA3]
        have b3:=zsb b2 2 (.slice va3 (j+1) vc3);refine wpAnyB_done (by kernel_rfl) ?_ _;have HM:=zh (HG.out.step HB1.out HF.out HXG.out.1 HXG.out.2 b3);clear b1 f1 q1 b2 f2 q2 b3;generalize (WF.setCell ⟨nb,1,none⟩ (.slice ka3 (j+1) kc3)).setCell ⟨nb,2,none⟩ (.slice va3 (j+1) vc3)=WG at HM ⊢;go_wp2_with fail;go_roundg (gn - (j+1))
        case measure=>have:=HGJ.out;omega
        case rel=>exact ⟨j+1,_,_,rfl,hjn,by go_num,HM⟩
       refine wbD (fun K hK=>?_)
       ·(go_simp;have HS2:=zh (HS1.out.new (.int .u64 (y:Int)));generalize W1.alloc (.cells #[.int .u64 (y:Int)] 44)=W2 at *)
        refine hK.out _ _ (fun _ _=>by rw [HLL.out];exact HS2.out.c) (fun hHeld=>?_);clear hK K;try simp only [Act.put,sA1,sA2,sA3]
        refine wbE 5 (fun K hK=>?_)
        (refine step_app rfl (.tmp 53) (.tmp 56) 84 rfl rfl (base:=wx.heap.size) (size:=1) (n:=j) (m:=1) (xv := .slice (some ⟨W0.heap.size,0,none⟩) 1 1) (xs:=u64Vs j (kOf g)) (news:=[.int .u64 (x:Int)]) Tryz.underlying84 infoU64i rfl (by omega) (by omega) (by simp [Act.eval,Act.put]) (by simp [Act.eval,Act.put]) HS2.out.k (HS2.out.src (by simp) rfl) (by omega) (zLt HSZ.out HS2.out.c.size) ?_;intro z W3 hown hgr hob;obtain ⟨ka3,kc3,rfl,_,_⟩:=zos hown;have HS3:=zh (HS2.out.ak hown hgr hob);clear hown hgr hob)
        refine hK.out _ _ (fun _ _=>by rw [HLL.out];exact HS3.out.c) (fun hHeld=>?_);clear hK K;try simp only [Act.put,sA1,sA2,sA3]
        refine wbP 12 fun hHeld=>?_;try simp only [Act.put,sA1,sA2,sA3]
        refine wbE 11 (fun K hK=>?_)
        (refine step_app rfl (.tmp 59) (.tmp 62) 84 rfl rfl (base:=wx.heap.size) (size:=1) (n:=j) (m:=1) (xv := .slice (some ⟨W1.heap.size,0,none⟩) 1 1) (xs:=u64Vs j (vOf g)) (news:=[.int .u64 (y:Int)]) Tryz.underlying84 infoU64i rfl (by omega) (by omega) (by simp [Act.eval,Act.put]) (by simp [Act.eval,Act.put]) HS3.out.v (HS3.out.src (by simp) rfl) (by omega) (zLt HSZ.out HS3.out.c.size) ?_;intro z WF hown hgr hob;obtain ⟨va3,vc3,rfl,_,_⟩:=zos hown;have HF:=zh (HS3.out.av hown hgr hob);clear hown hgr hob)
        refine hK.out _ _ (fun _ _=>by rw [HLL.out];exact HF.out.c) (fun hHeld=>?_);clear hK K;try simp only [Act.put,sA1,sA2,sA3]
        have b1:=HNBF.out _ HF.out.c;have f1:=zfb b1 1;have q1:=(zcb b1 1).trans rfl;refine wbE 13 (fun K hK=>?_)
        (go_simp)
        refine hK.out _ _ (fun h=>absurd h (by decide)) (fun hHeld=>?_);clear hK K;try simp only [Act.put,sA1,sA2,sA3]
        have b2:=zsb b1 1 (.slice ka3 (j+1) kc3);have f2:=zfb b2 2;have q2:=(zcb b2 2).trans rfl;refine wbP 14 fun hHeld=>?_;try simp only [Act.put,sA1,sA2,sA3]
        refine wbE 15 (fun K hK=>?_)
        (go_simp)
        refine hK.out _ _ (fun h=>absurd h (by decide)) (fun hHeld=>?_);clear hK K;try simp only [Act.put,sA1,sA2,sA3]
        have b3:=zsb b2 2 (.slice va3 (j+1) vc3);refine wpAnyB_done (by kernel_rfl) ?_ _;have HM:=zh (HG.out.step HB1.out HF.out HXG.out.1 HXG.out.2 b3);clear b1 f1 q1 b2 f2 q2 b3;generalize (WF.setCell ⟨nb,1,none⟩ (.slice ka3 (j+1) kc3)).setCell ⟨nb,2,none⟩ (.slice va3 (j+1) vc3)=WG at HM ⊢;go_wp2_with fail;go_roundg (gn - (j+1))
        case measure=>have:=HGJ.out;omega
        case rel=>exact ⟨j+1,_,_,rfl,hjn,by go_num,HM⟩
      refine wbD (fun K hK=>?_)
      ·(go_simp;have HS1:=zh (HS0.out.new (.int .u64 (y:Int)));generalize W0.alloc (.cells #[.int .u64 (y:Int)] 44)=W1 at *)
       refine hK.out _ _ (fun _ _=>by rw [HLL.out];exact HS1.out.c) (fun hHeld=>?_);clear hK K;try simp only [Act.put,sA1,sA2,sA3]
       refine wbE 4 (fun K hK=>?_)
       (go_simp;have HS2:=zh (HS1.out.new (.int .u64 (x:Int)));generalize W1.alloc (.cells #[.int .u64 (x:Int)] 44)=W2 at *)
       refine hK.out _ _ (fun _ _=>by rw [HLL.out];exact HS2.out.c) (fun hHeld=>?_);clear hK K;try simp only [Act.put,sA1,sA2,sA3]
       refine wbE 5 (fun K hK=>?_)
       (refine step_app rfl (.tmp 53) (.tmp 56) 84 rfl rfl (base:=wx.heap.size) (size:=1) (n:=j) (m:=1) (xv := .slice (some ⟨W1.heap.size,0,none⟩) 1 1) (xs:=u64Vs j (kOf g)) (news:=[.int .u64 (x:Int)]) Tryz.underlying84 infoU64i rfl (by omega) (by omega) (by simp [Act.eval,Act.put]) (by simp [Act.eval,Act.put]) HS2.out.k (HS2.out.src (by simp) rfl) (by omega) (zLt HSZ.out HS2.out.c.size) ?_;intro z W3 hown hgr hob;obtain ⟨ka3,kc3,rfl,_,_⟩:=zos hown;have HS3:=zh (HS2.out.ak hown hgr hob);clear hown hgr hob)
       refine hK.out _ _ (fun _ _=>by rw [HLL.out];exact HS3.out.c) (fun hHeld=>?_);clear hK K;try simp only [Act.put,sA1,sA2,sA3]
       refine wbP 12 fun hHeld=>?_;try simp only [Act.put,sA1,sA2,sA3]
       refine wbE 11 (fun K hK=>?_)
       (refine step_app rfl (.tmp 59) (.tmp 62) 84 rfl rfl (base:=wx.heap.size) (size:=1) (n:=j) (m:=1) (xv := .slice (some ⟨W0.heap.size,0,none⟩) 1 1) (xs:=u64Vs j (vOf g)) (news:=[.int .u64 (y:Int)]) Tryz.underlying84 infoU64i rfl (by omega) (by omega) (by simp [Act.eval,Act.put]) (by simp [Act.eval,Act.put]) HS3.out.v (HS3.out.src (by simp) rfl) (by omega) (zLt HSZ.out HS3.out.c.size) ?_;intro z WF hown hgr hob;obtain ⟨va3,vc3,rfl,_,_⟩:=zos hown;have HF:=zh (HS3.out.av hown hgr hob);clear hown hgr hob)
       refine hK.out _ _ (fun _ _=>by rw [HLL.out];exact HF.out.c) (fun hHeld=>?_);clear hK K;try simp only [Act.put,sA1,sA2,sA3]
       have b1:=HNBF.out _ HF.out.c;have f1:=zfb b1 1;have q1:=(zcb b1 1).trans rfl;refine wbE 13 (fun K hK=>?_)
       (go_simp)
       refine hK.out _ _ (fun h=>absurd h (by decide)) (fun hHeld=>?_);clear hK K;try simp only [Act.put,sA1,sA2,sA3]
       have b2:=zsb b1 1 (.slice ka3 (j+1) kc3);have f2:=zfb b2 2;have q2:=(zcb b2 2).trans rfl;refine wbP 14 fun hHeld=>?_;try simp only [Act.put,sA1,sA2,sA3]
       refine wbE 15 (fun K hK=>?_)
       (go_simp)
       refine hK.out _ _ (fun h=>absurd h (by decide)) (fun hHeld=>?_);clear hK K;try simp only [Act.put,sA1,sA2,sA3]
       have b3:=zsb b2 2 (.slice va3 (j+1) vc3);refine wpAnyB_done (by kernel_rfl) ?_ _;have HM:=zh (HG.out.step HB1.out HF.out HXG.out.1 HXG.out.2 b3);clear b1 f1 q1 b2 f2 q2 b3;generalize (WF.setCell ⟨nb,1,none⟩ (.slice ka3 (j+1) kc3)).setCell ⟨nb,2,none⟩ (.slice va3 (j+1) vc3)=WG at HM ⊢;go_wp2_with fail;go_roundg (gn - (j+1))
       case measure=>have:=HGJ.out;omega
       case rel=>exact ⟨j+1,_,_,rfl,hjn,by go_num,HM⟩
     ·obtain rfl:j=gn:=by omega
      have i2:¬ (j:Int)<(j:Int):=by omega
      obtain ⟨ka,kc,rfl,kb1,kb2⟩:=zos HG.out.k;obtain ⟨va2,vc2,rfl,vb1,vb2⟩:=zos HG.out.v;have hu64:=(H.out.2.1.asc.2.grp (manyG l.length) i);rw [<- HNB.out.2.2.1] at hu64;have hnk:=numsIn_own (A:=[]) HG.out.k (fun i _=>(hu64.getD i).1) (fun _ _=>by simp);have hnv:=numsIn_own (A:=[]) HG.out.v (fun i _=>(hu64.getD i).2) (fun _ _=>by simp);have hrt:=H.out.2.1.grp_right hM (i:=i) (by rw [<- HQ.out.2];exact hiq);rw [<- HNB.out.2.2.1,HNB.out.2.2.2.1,<- HLF.out] at hrt;obtain ⟨hgd,hrm⟩:=H.out.2.1.lvl hM i (by rw [<- HQ.out.2];exact hi);have hmq:=H.out.2.1.many;rw [<- HQ.out.2] at hmq
      have hlt:∀ z,z∈ownL u8++F->z<wr.heap.size:=fun z hz=>by
       rcases List.mem_append.1 hz with hz | hz
       ·exact zLl (HU.out.1.lt z (zml.1 hz)).2 HG.out.c.size
       ·exact zLl (HFF.out z hz) (zLt H.out.2.2.2.2.1.size (zLt HU.out.2.2.size HG.out.c.size))
      have cP:=put13_at (HU.out.2.1.chg HG.out.c (by simp)) hlt (by rw [hrm];omega) hnk hnv hrt;have CP:=zh cP;have b1:=HG.out.box.1;have z0:=zcb b1 0;have z1:=zcb b1 1;have z2:=zcb b1 2;simp only [tA1,tA3,tA2] at z0 z1 z2;have HAT:=zh (hgd.put_ (by rw [hrm];omega) (page_le lf (g:=g) (by have h1:=(grp_bd H.out.2.1.len (i:=i) (by rw [<- HQ.out.2];exact hiq)).1;rw [<- HNB.out.2.2.1] at h1;exact h1)));clear hu64 hnk hnv hrt hgd hrm hlt cP b1 hmq;go_wp2_with fail;refine CP.out.mono ?_;clear CP z0 z1 z2;rintro e w2 ⟨rfl,hb2,hc2⟩;obtain ⟨r,hr⟩:∃ r,r=lvlP (decide (k=0)) l B i:=⟨_,rfl⟩;have hat:=HAT.out;rw [<- hr] at hb2 hat ⊢;obtain ⟨at3,hat3⟩:∃ z,z=r.1.at_:=⟨_,rfl⟩;rw [<- hat3] at hat ⊢;have hat2:at3<4096:=by have:=hat.2.2.2.1;omega
      have e7:=(small_wraps hat2).2;have e8:IntKind.u64.wrap (at3:Int)=(at3:Int):=IntWalk.u64_in _ (by omega);have hne:∀ z,w.heap.size<=z->z∉M.L:=fun z hz hm=>by have:=HML.out z hm;omega
      have hsw:w.heap.size<=wo.heap.size/\wo.heap.size<=wx.heap.size:=⟨H.out.2.2.2.2.1.size,HU.out.2.2.size⟩;have b1:=(hc2.block nb (zhl HG.out.box.1) (hne nb (by have:=HG.out.box.2;omega))).trans HG.out.box.1;have z1:=(zcb b1 1).trans rfl;obtain ⟨kg,kc',e9,_,_,hk1,hk2,hk3'⟩:=zol HG.out.k (by omega);injection e9 with e9 _ e10;subst e9;subst e10;have z2:=(hc2.cell (p:=⟨kg,0,none⟩) hk2 (hne kg (by omega))).trans (hk3' 0 (by omega))
      have e11:(u64Vs j (kOf g))[0]?=some (.int .u64 (kOf g 0:Int)):=by
       unfold u64Vs;rw [List.getElem?_map,List.getElem?_range (by omega)];rfl
      rw [e11] at z2;obtain ⟨k0,hk0⟩:∃ z,z=kOf g 0:=⟨_,rfl⟩;rw [<- hk0] at z2;have HR:=zh (zA hr (zA hat3 hk0));have H2:=zh (zA hb2 hc2);have HOW:=zh (zoc (zoc HU.out.1 HG.out.c (by simp)) hc2 (fun q hq hm=>hne q (by have:=(HU.out.1.lt q hq).1;omega) hm));clear hr hat3 hk0 hb2 hc2 hat hne hsw b1 e11 hk1 hk2 hk3';have hn4:=znb w2 (.cells #[.int .u64 (k0:Int),.int .u64 (at3:Int)] 104);have hc4:Chg [] w2 (w2.alloc (.cells #[.int .u64 (k0:Int),.int .u64 (at3:Int)] 104)):=(Chg.refl [] w2).alloc _;have hw4:=zoc HOW.out hc4 (by simp);rw [<- HR.out.1] at hw4;have H4:=zh (zA hw4 (zA hn4 (zA hc4 (zLt HU.out.2.2.size (zLt HG.out.c.size (zLt H2.out.2.size hc4.size))))));clear hn4 hc4 hw4;go_wp2_with (at_builtin;refine wpList_app rfl _ _ 83 rfl rfl (base:=wo.heap.size) (size:=2) (n:=i) (m:=1) (xs:=itVs r.2) (news:=[.int .u64 (k0:Int),.int .u64 (at3:Int)]) Tryz.underlying83 infoItem rfl (by omega) (by omega) rfl rfl H4.out.1 (AppSrc.blk H4.out.2.1 rfl (fun u hu=>by simp at hu;rcases hu with rfl | rfl <;> rfl)) (by omega) H4.out.2.2.2 ?_;intro v' w5 hown5 hg5 ho5;have H5:=zh (zA hown5 (zA hg5 ho5));clear hown5 hg5 ho5);have hlv:=lvlP_succ (leaf:=decide (k=0)) (l:=l) (B:=B) (i:=i);rw [<- HNB.out.2.2.1,HNB.out.2.2.2.1,<- HQ.out.2,<- HQ.out.1,<- HLO.out.1,<- HR.out.1,<- HLF.out] at hlv
      have hk0:kOf l lo=k0:=by
       have h1:=(HNB.out.2.2.2.2 0 (by omega)).1;rw [Nat.add_zero] at h1;rw [HR.out.2.2,h1]
      rw [hk0,<- HR.out.2.1] at hlv;go_roundg (q - (i+1))
      case measure=>have:=HGI.out;omega
      case rel =>
       refine ⟨i+1,rfl,hiq,by go_num,zh ?_⟩;rw [<- HLF.out,hlv];refine ⟨?_,base_app (H2.out.1.chg H4.out.2.2.1 (by simp)) H5.out.2.1 H5.out.2.2,?_⟩
       ·rw [itVs_app];exact H5.out.1
       ·refine ((((HU.out.2.2.trans (HG.out.c.mono (by simp))).trans H2.out.2).trans (H4.out.2.2.1.mono (by simp)))).grown H5.out.2.1 (fun z hz => .inr (HU.out.1.lt z hz).1)
   ·obtain rfl:i=q:=by omega
    have i1:¬ (i:Int)<(i:Int):=by omega
    have hll:(lvlP (decide (k=0)) l B i).2.length=i:=by
     have:=HU.out.1.1;rw [itVs_len] at this;omega
    have hnotM:∀ g,g∈ownL u8->g∉M.L:=fun g hg hm=>by
     have h1:=(HU.out.1.lt g (zml.1 hg)).1;have h2:=HML.out g hm;have h3:=H.out.2.2.2.2.1.size;omega
    by_cases hq1:i=1
    ·subst hq1
     have hq5:manyG l.length=1:=HQ.out.2.symm;obtain ⟨ls1,ls2,ls3⟩:=H.out.2.1.last hM hq5;have hBH:=H.out.2.2.1.last H.out.2.1.len hq5 h200;have hbl:=H.out.2.2.2.2.2.trans (bldP_last hk3 hq5);generalize lvlP (decide (k=0)) l B 1=r at HU hll ls1 ls2 ls3 hbl ⊢;obtain ⟨g,cg,rfl,z1,z2,z3,z4,z5⟩:=zol HU.out.1 (by omega);have hi2:=(itVs_get r.2 0 (by rw [hll];omega)).2;rw [show 0*2+1=1 from rfl] at hi2;have hx:=(z5 1 (by omega)).trans hi2;obtain ⟨x,hxx⟩:∃ x,x=vOf r.2 0:=⟨_,rfl⟩;have hx2:wr.cell? ⟨g,1,none⟩=some (.int .u64 (x:Int)):=by rw [hxx];unfold vOf;exact hx
     clear hi2;rw [<- hxx] at ls2 hbl;have hxb:=(right_ge ls2.right).2.1;rw [ls1.n] at hxb
     have HE:Hid (BaseAt wr M F r.1/\Good N 1 r.1/\TreeIs r.1 (x:Int) k items/\highR m0=k+1/\Chg M.L w wr/\(r.1,x)=R0):=zh
      ⟨HU.out.2.1.sub (fun y hy=>zar _ hy),ls1,ls2,hBH,H.out.2.2.2.2.1.trans HU.out.2.2,hbl.symm⟩
     have hx4:x<4096:=zLl (Int.ofNat_lt.1 hxb) hM;obtain ⟨e5,e6⟩:=small_wraps hx4;have hk8:k<8:=by omega
     clear ls1 ls2 ls3 hx hxx hbl hxb z1 z2 z3 z4 z5 hnotM hll hBH;go_wp2_with fail;refine bodyPost_ret (v := .tuple #[.int .i64 (x:Int),.bool true]) (by simp [results,Tryz.results51,go_sem,e6]) rfl ⟨x,rfl,k,_,HE.out.1,HE.out.2.1,HE.out.2.2.1,hk8,HE.out.2.2.2.1,HE.out.2.2.2.2.1,HE.out.2.2.2.2.2⟩
    ·have hq2:((i:Int)==1)=false:=by simp;omega
     have hq3:2<=i:=by omega
     have hq4:2<=manyG l.length:=by rw [<- HQ.out.2];exact hq3
     have hnx:=H.out.2.1.next hM hq4;rw [<- HQ.out.2] at hnx
     have HNX:Hid (ItemsIn M.L wr u8 (lvlP (decide (k=0)) l B i).2/\BI N 1 (k+1) items (lvlP (decide (k=0)) l B i).2 (lvlP (decide (k=0)) l B i).1/\BH (k+1) (lvlP (decide (k=0)) l B i).2.length m0/\BaseAt wr M F (lvlP (decide (k=0)) l B i).1/\Chg M.L w wr/\R0=bldP (8 - (k+1)) (k+1) (lvlP (decide (k=0)) l B i).2 (lvlP (decide (k=0)) l B i).1):=zh
      ⟨ItemsIn.of_own (by rw [hll];exact HU.out.1) hnx.asc.2 (fun g hg=>hnotM g (zml.2 hg)),hnx,by rw [hll,HQ.out.2];exact H.out.2.2.1.next hq4 h200,HU.out.2.1.sub (fun x hx=>zar _ hx),H.out.2.2.2.2.1.trans HU.out.2.2,by rw [HQ.out.2];exact H.out.2.2.2.2.2.trans (bldP_next hk3 (by omega))⟩
     obtain ⟨va,vc,rfl,hv1,hv2⟩:=zos HU.out.1;clear hnx hnotM;go_wp2_with fail;go_roundg i
     case measure=>have h1:=HGG.out;have h2:=HQ.out.1;omega
     case rel=>exact ⟨k+1,_,_,hll.symm,by go_num,HNX⟩
end Go.Proofs.YtkhcaclndepgbaaGreat
