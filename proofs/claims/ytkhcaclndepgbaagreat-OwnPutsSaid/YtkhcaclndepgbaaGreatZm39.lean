/- Layers 14 and on, in plain words: where nobody refers to anything, nothing is left; references of a list of roots. · Layers 14 and on, in plain words: a node taken out of its tree, and laid back as another. · Layer 14's path in plain words. · Layer 13's statements: trees that Build makes; the examples' tree. · Layer 14 and on, in plain words: a list of roots, whose trees all tell the same. · A map from bytes to values of any kind in memory (printed by mkkmu.py). · Layer 13's statements: the chapter's examples; a tree of any items. -/
import Derived.Test.YtkhcaclndepgbaaGreatZm38
import Derived.Test.YtkhcaclndepgbaaGreatZm35
import Derived.Test.YtkhcaclndepgbaaGreatZm18
import Derived.Deep.RegionHeld3
set_option linter.unusedVariables false
set_option linter.unusedSimpArgs false
set_option maxRecDepth 100000
set_option maxHeartbeats 20000000
namespace Go.Proofs.YtkhcaclndepgbaaGreat
section
variable {N G:Nat} {B:Bs} {ht:Ht} {pend:Nat→Nat}
theorem Gr.top_none (g:Gr N G B ht pend) (h0:∀ b,2≤b→b<N→pend b=0) (h1:∀ n c,ht n=some c→c<100):∀ m n c,ht n=some c→100 - c=m→False
 | m,n,c,hn,hm=>by
  obtain ⟨hN,hl⟩:=g.lt hn
  have h2:=g.two hl hN
  have hr:=g.ref n h2 hN
  have hz:=(g.good.may hN hl).2.2.1
  rw [hl,if_pos rfl,h0 n h2 hN] at hr
  obtain ⟨k,hk,hp⟩:=sumTo_pos (f:=refsF B ht n) (n:=N) (by show 0<Refs B ht N n;omega)
  unfold refsF at hp
  split at hp
  ·rename_i hs
   obtain ⟨c',hc'⟩:=Option.isSome_iff_exists.1 hs
   obtain ⟨_,_,d,hd,nd⟩:=g.node k c' hc'
   rw [hd] at hp
   obtain ⟨i,hi,hv⟩:=occ_pos hp
   have hlt:=h1 k c' hc'
   by_cases e:c' % 100=0
   ·have:=nd.flat (by omega) i hi (by omega)
    rw [hv,hn] at this
    cases this
   ·have:=nd.kid e i hi
    rw [hv,hn] at this
    have e2:=Option.some.inj this
    exact g.top_none h0 h1 (100 - c') k c' hc' rfl
  ·omega
termination_by m=>m
decreasing_by
 simp_wf
 omega
theorem Gr.empty (g:Gr N G B ht pend) (h0:∀ b,2≤b→b<N→pend b=0) (h1:∀ n c,ht n=some c→c<100):∀ b,b<N→B.live b=false:=fun b hb=>by
 have hn:∀ n,ht n=none:=fun n=>by
  cases hq:ht n with
  | none=>rfl
  | some c=>exact (g.top_none h0 h1 _ n c hq rfl).elim
 cases hl:B.live b with
 | false=>rfl
 | true =>
  have h2:=g.two hl hb
  have hr:=g.ref b h2 hb
  have hz:=(g.good.may hb hl).2.2.1
  rw [hl,if_pos rfl,h0 b h2 hb,show Refs B ht N b=0 from sumTo_zero fun n _=>by unfold refsF;rw [hn];rfl] at hr
  omega
theorem Gr.empty_room (g:Gr N G B ht pend) (hN:16≤N∧N≤4096) (h0:∀ b,2≤b→b<N→pend b=0) (h1:∀ n c,ht n=some c→c<100) {B':Bs} (c:Cm N G B B'):B'.room=(Bs.fmt N).room∧B'.T.waits=0:=by
 have hw:=c.waits
 refine ⟨?_,hw⟩
 rw [c.good.room,hw,room_fmt hN,cnt_zero (fun b hb=>by rw [c.live];exact g.empty h0 h1 b hb)]
 omega
end
def pendL (l:List Nat):Nat→Nat:=fun b=>l.count b
theorem pendL_app (l:List Nat) (y:Nat):mor (pendL l) y=pendL (l++[y]):=by
 funext b
 unfold mor pendL
 rw [List.count_append,List.count_singleton]
 by_cases e:b=y
 ·subst e;simp
 ·have e':¬ y=b:=fun q=>e q.symm
  simp [e,e']
theorem pendL_le (l:List Nat) (b:Nat):pendL l b≤l.length:=List.count_le_length
theorem pendL_pos {l:List Nat} {b:Nat} (h:b∈l):1≤pendL l b:=List.count_pos_iff.2 h
section
variable {N G:Nat} {B:Bs} {ht:Ht} {pend:Nat→Nat}
theorem refs_cut {x:Nat} {d:Nd} {c:Nat} (hN:x<N) (hx:ht x=some c) (hd:B.nodeI (x:Int)=some d) (b:Nat):Refs B (updH ht x none) N b+occ d b=Refs B ht N b:=by
 have:=sumTo_upd (f:=refsF B ht b) (g:=refsF B (updH ht x none) b) (k:=x) (n:=N) hN (fun i _ hi=>by unfold refsF;rw [updH_ne hi])
 have h0:refsF B ht b x=occ d b:=by unfold refsF;rw [hx,hd];rfl
 have h1:refsF B (updH ht x none) b x=0:=by unfold refsF;rw [updH_same];rfl
 rw [h0,h1] at this
 unfold Refs
 omega
theorem Gr.detach (g:Gr N G B ht pend) {x c:Nat} {d:Nd} (hx:ht x=some c) (hd:B.nodeI (x:Int)=some d) (hz:Refs B ht N x=0) :
  Gr N G B (updH ht x none) (fun b=>pend b+occ d b)∧Refs B (updH ht x none) N x=0∧NdAt N (updH ht x none) c d∧occ d x=0:=by
 obtain ⟨hN,hl,d0,hd0,nd⟩:=g.node x c hx
 obtain rfl:d=d0:=Option.some.inj (hd.symm.trans hd0)
 have hrf:=refs_cut hN hx hd
 have ho:occ d x=0:=g.refs_node hx hd hz
 refine ⟨⟨g.good,fun n h hn=>?_,fun b b2 bN=>?_⟩,by have:=hrf x;omega,nd.congr fun i hi=>updH_ne fun q=>(by have:=occ_of hi q;omega),ho⟩
 ·have e:n≠x:=fun q=>by rw [q,updH_same] at hn;cases hn
  rw [updH_ne e] at hn
  obtain ⟨a1,a2,d',a3,a4⟩:=g.node n h hn
  refine ⟨a1,a2,d',a3,a4.congr fun i hi=>updH_ne fun q=>?_⟩
  have h1:=Refs_ge (N:=N) a1 hn a3 x
  have h2':=occ_of hi q
  omega
 ·have h0:=g.ref b b2 bN
  have:=hrf b
  rw [← h0]
  show pend b+occ d b+_=_
  omega
end
structure Work (N G:Nat) (B:Bs) (ht:Ht) (pend:Nat→Nat) (x c:Nat) (d:Nd) (y:Nat) (B1:Bs) (ht1:Ht) (P:Nat→Nat) (B2:Bs) (ht2:Ht):Prop where
 own:Owned N G B ht pend x c d y B1 ht1
 gr:Gr N G B2 ht2 P
 kp:Kpt N B1 (updH ht1 y none) B2 ht2 (mor (les pend x) y)
 one:P y=1
section
variable {N G:Nat} {B:Bs} {ht:Ht} {pend:Nat→Nat} {x c y:Nat} {d:Nd} {B1 B2:Bs} {ht1 ht2:Ht} {P:Nat→Nat}
theorem Owned.low (o:Owned N G B ht pend x c d y B1 ht1):les pend x y=0∧y<N∧B1.live y=true∧(B1.fr y).isSome=true∧2≤y:=by
 obtain ⟨hN,hl⟩:=o.gr.lt o.top
 have h2:=o.gr.two hl hN
 obtain ⟨_,_,hf,h1,_⟩:=Bs.isI_iff o.is
 rw [o.gr.getV hN] at h1
 rw [Int.toNat_natCast] at hf
 have hr:=o.gr.ref y h2 hN
 rw [hl,if_pos rfl,o.refs] at hr
 unfold mor at hr
 rw [if_pos rfl] at hr
 exact ⟨by omega,hN,hl,hf,h2⟩
theorem Work.at_ (W:Work N G B ht pend x c d y B1 ht1 P B2 ht2):y<N∧B2.live y=true∧ht2 y=none∧Refs B2 ht2 N y=0∧(B2.fr y).isSome=true∧B2.nodeI (y:Int)=some d∧B2.isI (y:Int)=true:=by
 obtain ⟨l0,hN,hl,hf,h2⟩:=W.own.low
 have hr:=(W.own.gr.detach W.own.top W.own.node W.own.refs).2.1
 obtain ⟨a1,a2,a3,a4,a5⟩:=W.kp.lone y hN hl updH_same hr (by unfold mor;rw [if_pos rfl];omega)
 have hd:B2.nodeI (y:Int)=some d:=a3.trans W.own.node
 have hf2:(B2.fr y).isSome=true:=by rw [a4];exact hf
 refine ⟨hN,a2,a1,a5,hf2,hd,W.gr.isI_of hN hf2 ?_ hd⟩
 have:=W.gr.ref y h2 hN
 rw [a2,if_pos rfl,a5,W.one] at this
 omega
theorem Work.next (W:Work N G B ht pend x c d y B1 ht1 P B2 ht2) {B3:Bs} {ht3:Ht} {Q p:Nat→Nat} (g:Gr N G B3 ht3 Q) (k:Kpt N B2 ht2 B3 ht3 p) (hp:∀ b,1≤mor (les pend x) y b→1≤p b) (h1:Q y=1):Work N G B ht pend x c d y B1 ht1 Q B3 ht3 :=
 ⟨W.own,g,W.kp.trans k hp,h1⟩
end

open Go.RowKit
def TreeOf (B:Bs) (x:Int) (items:List (Nat × Nat)):Prop:=(x=0∧items=[])∨∃ h,TreeIs B x h items∧h<8
section
variable {B:Bs} {x:Int} {items:List (Nat × Nat)}
theorem TreeOf.get (T:TreeOf B x items) (ok:B.Ok) (ha:Asc items) (key:Nat):getP B key 8 x=((lookP items key).1,(lookP items key).2,0):=by
 rcases T with ⟨rfl,rfl⟩ | ⟨h,T,h8⟩
 ·rfl
 ·exact get_look ha (T.get ok h8 key)
theorem TreeOf.right (T:TreeOf B x items) (ok:B.Ok):rightT B x=true:=by
 rcases T with ⟨rfl,rfl⟩ | ⟨h,T,h8⟩
 ·unfold rightT;simp
 ·exact T.rightT ok h8
theorem TreeOf.bd (T:TreeOf B x items) (ok:B.Ok):0≤x∧x<4096:=by
 rcases T with ⟨rfl,rfl⟩ | ⟨h,T,h8⟩
 ·omega
 ·have:=(right_ge T.right);have:=ok.n;omega
end
theorem bldP_one {items:List (Nat × Nat)} {B:Bs} (h1:1≤items.length) (h7:items.length≤7):bldP 8 0 items B=(B.put (pageF true items.length (kOf items) (vOf items)),B.at_):=by
 have hm:manyG items.length=1:=by unfold manyG;omega
 have hg:grp items 1 0=items:=by
  have:=grp_all (l:=items) (q:=1) (by omega)
  simpa using this
 rw [bldP,if_pos hm,lvlP_succ,hm,hg]
 rfl
theorem build13_any {w:World} {M:Bm} {F:List Nat} {B:Bs} {N:Nat} {items:List (Nat × Nat)} {v:Value} (hb:BaseAt w M F B) (hF:∀ q,q∈F→q<w.heap.size) (hg:Good N 1 B) (hr:(items.length:Int)+1≤2*B.room) (hM:N≤4096) (ha:Asc items) (hu:It64 items) (hit:ItemsIn M.L w v items) (h200:items.length≤200) :
  Calls Tryz.prog 51 #[.pointer (some ⟨M.b,0,none⟩),v] w fun e w'=>∃ (x:Nat) (B':Bs),e = .returned (.tuple #[.int .i64 (x:Int),.bool true])∧BaseAt w' M F B'∧Good N 1 B'∧TreeOf B' (x:Int) items∧heightP B' 8 (x:Int)=(highR items.length,0)∧Chg M.L w w'∧(items≠[]→(B',x)=bldP 8 0 items B)∧(items=[]→B'=B∧x=0):=by
 by_cases h0:items=[]
 ·subst h0
  obtain ⟨a,c,rfl,hc1,hc2⟩:=hit.len
  have H:Hid (BaseAt w M F B∧Good N 1 B):=Lib.hid ⟨hb,hg⟩
  clear hb hF hg hr ha hu hit
  show Calls _ _ #[.pointer (some ⟨M.b,0,none⟩),.slice a 0 c] w _
  go_enter Tryz.func51,Tryz.ntmps51
  go_wp2_with fail
  refine bodyPost_ret (v := .tuple #[.int .i64 ((0:Nat):Int),.bool true]) (by simp [results,Tryz.results51,go_sem]) rfl ⟨0,B,rfl,H.out.1,H.out.2,.inl ⟨rfl,rfl⟩,rfl,Chg.refl _ _,fun q=>absurd rfl q,fun _=>⟨rfl,rfl⟩⟩
 ·have hl:1≤items.length:=by
   cases items with
   | nil=>exact absurd rfl h0
   | cons p r=>simp
  refine (build13_at hb hF ⟨hg,hr,hl,.inl ⟨rfl,rfl,ha,hu⟩⟩ hM hit h200).mono fun e w' ⟨x,h,B',q1,q2,q3,q4,q5,q6,q7,q8⟩=>?_
  have q4h:=q4.height q3.ok q5
  rw [← q6] at q4h
  exact ⟨x,B',q1,q2,q3,.inr ⟨h,q4,q5⟩,q4h,q7,fun _=>q8,fun q=>absurd q h0⟩
theorem at40:(Bs.fmt 40).at_=4:=by kernel_rfl
theorem pendL_les (a b:List Nat) (x:Nat):les (pendL (a++x::b)) x=pendL (a++b):=by
 funext q
 unfold les pendL
 rw [List.count_append,List.count_append,List.count_cons]
 by_cases e:q=x
 ·subst e;simp
 ·have e':¬ x=q:=fun h=>e h.symm
  simp [e,e']
theorem pendL_mor (a b:List Nat) (y:Nat):mor (pendL (a++b)) y=pendL (a++y::b):=by
 funext q
 unfold mor pendL
 rw [List.count_append,List.count_append,List.count_cons]
 by_cases e:q=y
 ·subst e;simp;omega
 ·have e':¬ y=q:=fun h=>e h.symm
  simp [e,e']
section
variable {N G:Nat} {B:Bs} {ht:Ht} {pend:Nat→Nat}
theorem Gr.treeIs (g:Gr N G B ht pend) {x c:Nat} {items:List (Nat × Nat)} (hx:ht x=some c) (hc:c<100) (hr:rightP B c (x:Int) 0 topK (if c=0 then 1 else 2)=true) (ha:allP B c (x:Int)=items):TreeIs B (x:Int) c items:=by
 refine ⟨hr,ha,fun b hb=>?_⟩
 have:=g.blks g.refs_one c x hx (g.ne1 hx) b (by rw [Nat.mod_eq_of_lt hc];exact hb)
 obtain ⟨n,rfl,hn,_⟩:=this
 obtain ⟨k,hk⟩:=Option.isSome_iff_exists.1 hn
 obtain ⟨h1,h2⟩:=g.lt hk
 exact ⟨n,rfl,by rw [g.good.n];exact h1,h2⟩
theorem TreeIs.same (g:Gr N G B ht pend) {B0:Bs} {x y c:Nat} {items:List (Nat × Nat)} (T:TreeIs B0 (x:Int) c items) (hc:c<100) (hy:ht y=some c) (s:SameT B0 B (c % 100) x y):TreeIs B (y:Int) c items:=by
 rw [Nat.mod_eq_of_lt hc] at s
 exact g.treeIs hy hc (by rw [s.1];exact T.right) (by rw [s.2];exact T.all)
end
structure Rts (N G:Nat) (B:Bs) (R:List Nat) (items:List (Nat × Nat)) (ht:Ht):Prop where
 gr:Gr N G B ht (pendL R)
 top:∀ r,r∈R→∃ c,ht r=some c∧TreeIs B (r:Int) c items
 low:∀ n c,ht n=some c→c<8
 hM:N≤4096
section
variable {N G:Nat} {B:Bs} {R:List Nat} {items:List (Nat × Nat)} {ht:Ht}
theorem Rts.built {x c:Nat} (hM:N≤4096) (b:Built N G noHt (fun _=>0) items B x ht c):Rts N G B [x] items ht :=
  ⟨b.gr.pendc fun q _ _=>by show ([x]:List Nat).count q=0+_;rw [List.count_singleton,Nat.zero_add];by_cases e:q=x <;> simp [e];exact fun h=>e h.symm,
   fun r hr=>by rw [List.mem_singleton] at hr;subst hr;exact ⟨c,b.top,b.tree⟩,fun n k h=>by
    rcases b.sub n k h with q | q
    · cases q
    · exact q,hM⟩
theorem Rts.now (h:Rts N G B R items ht) (hR:R.length≤1000) {r:Nat} (hr:r∈R):r<N∧B.live r=true∧B.T.now r<65535:=by
 obtain ⟨c,hc,_⟩:=h.top r hr
 obtain ⟨h1,h2⟩:=h.gr.lt hc
 have:=h.gr.now_le (h.gr.two h2 h1) h1 h2
 have:=pendL_le R r
 have:=h.hM
 exact ⟨h1,h2,by omega⟩
theorem Rts.up (h:Rts N G B R items ht) (hR:R.length≤1000) {r:Nat} (hr:r∈R):B.upE (r:Int)=0∧Rts N G (B.up (r:Int)) (R++[r]) items ht∧(B.up (r:Int)).room=B.room:=by
 obtain ⟨n1,n2,n3⟩:=h.now hR hr
 obtain ⟨u1,u2,u3,u4,u5,u6,u7⟩:=h.gr.up n1 n2 n3
 have u2:Gr N G (B.up (r:Int)) ht (pendL (R++[r])):=u2.pendc fun b _ _=>by
  rw [← pendL_app];unfold mor
  by_cases e:b=r
  ·rw [if_pos e,if_pos e]
  ·rw [if_neg e,if_neg e];rfl
 refine ⟨u1,⟨u2,fun q hq=>?_,h.low,h.hM⟩,u6⟩
 have hq':q∈R:=by
  rcases List.mem_append.1 hq with hq | hq
  ·exact hq
  ·rw [List.mem_singleton] at hq;rw [hq];exact hr
 obtain ⟨c,hc,T⟩:=h.top q hq'
 exact ⟨c,hc,T.same u2 (by have:=h.low q c hc;omega) hc (h.gr.tree (by rw [u2.good.n,h.gr.good.n]) h.gr.refs_one (fun n _ _=>u3 n) hc (h.gr.ne1 hc))⟩
theorem Rts.move {a b:List Nat} {x y c:Nat} {B':Bs} {ht':Ht} (h:Rts N G B (a++x::b) items ht) (g:Gr N G B' ht' (mor (les (pendL (a++x::b)) x) y)) (hx:ht x=some c) (hy:ht' y=some c) (hs:SameT B B' (c % 100) x y) (k:Kpt N B ht B' ht' (les (pendL (a++x::b)) x)) :
  Rts N G B' (a++y::b) items ht':=by
 rw [pendL_les] at g k
 rw [pendL_mor] at g
 have hsub:∀ n c,ht' n=some c→c<8:=fun n c hn=>by
  obtain ⟨m,hm⟩:=k.sub n c hn
  exact h.low m c hm
 refine ⟨g,fun r hr=>?_,hsub,h.hM⟩
 have ho:r∈a++b→∃ c,ht' r=some c∧TreeIs B' (r:Int) c items:=fun hq=>by
  obtain ⟨cr,hcr,T⟩:=h.top r (by rcases List.mem_append.1 hq with q | q <;> simp [q])
  obtain ⟨k1,k2⟩:=k.tree r cr hcr (pendL_pos hq)
  exact ⟨cr,k1,T.same g (by have:=h.low r cr hcr;omega) k1 k2⟩
 rcases List.mem_append.1 hr with hr | hr
 ·exact ho (List.mem_append_left _ hr)
 ·rcases List.mem_cons.1 hr with rfl | hr
  ·obtain ⟨cx,hcx,T⟩:=h.top x (by simp)
   obtain rfl:cx=c:=Option.some.inj (hcx.symm.trans hx)
   exact ⟨cx,hy,T.same g (by have:=h.low x cx hcx;omega) hy hs⟩
  ·exact ho (List.mem_append_right _ hr)
theorem Rts.less {a b:List Nat} {x:Nat} {B':Bs} {ht':Ht} (h:Rts N G B (a++x::b) items ht) (l:Less N G B ht (pendL (a++x::b)) x B' ht'):Rts N G B' (a++b) items ht':=by
 have g:=l.gr
 have k:=l.kp
 rw [pendL_les] at g k
 refine ⟨g,fun r hr=>?_,fun n c hn=>?_,h.hM⟩
 ·obtain ⟨cr,hcr,T⟩:=h.top r (by rcases List.mem_append.1 hr with q | q <;> simp [q])
  obtain ⟨k1,k2⟩:=k.tree r cr hcr (pendL_pos hr)
  exact ⟨cr,k1,T.same g (by have:=h.low r cr hcr;omega) k1 k2⟩
 ·obtain ⟨m,hm⟩:=k.sub n c hn
  exact h.low m c hm
theorem Rts.commit (h:Rts N G B R items ht) {B':Bs} (c:Cm N G B B'):Rts N (G+1) B' R items ht:=by
 obtain ⟨g,hk⟩:=h.gr.commit c
 refine ⟨g,fun r hr=>?_,h.low,h.hM⟩
 obtain ⟨cr,hcr,T⟩:=h.top r hr
 exact ⟨cr,hcr,T.same g (by have:=h.low r cr hcr;omega) hcr (h.gr.tree (by rw [g.good.n,h.gr.good.n]) h.gr.refs_one (fun n hn _=>by
  obtain ⟨q,hq⟩:=Option.isSome_iff_exists.1 hn
  exact hk n q hq) hcr (h.gr.ne1 hcr))⟩
end
open Go.RowKit Go.Maps
def KMap8 (P:Program) (kt:TypeId) (good:Value→Bool) (w:World) (b n:Nat) (f:Nat→Option Value):Prop :=
 ∃ D:DataW Value,w.ownsMap P kt (RG good) b (Maps.size D) D∧Maps.size D=cnt n (fun k=>(f k).isSome) ∧
  (∀ l,Maps.has D l=true→∃ k,k<n∧l = .int .u8 (k:Int)∧(f k).isSome=true) ∧
  (∀ k v,k<n→f k=some v→Maps.has D (.int .u8 (k:Int))=true∧∀ z,D.atKey (.int .u8 (k:Int)) z = .held v)
section
variable {P:Program} {kt et t:TypeId} {w:World} {b n:Nat} {f:Nat→Option Value} {good:Value→Bool}
theorem KMap8.lt (h:KMap8 P kt good w b n f):b<w.heap.size:=by
 obtain ⟨D,h1,_⟩:=h
 exact h1.lt
theorem KMap8.obj (h:KMap8 P kt good w b n f):∃ es c,w.heap[b]?=some (.map es c):=by
 obtain ⟨D,⟨es,c,hb,_⟩,_⟩:=h
 exact ⟨es,c,hb⟩
theorem KMap8.same {w':World} (h:KMap8 P kt good w b n f) (e:w'.heap[b]?=w.heap[b]?):KMap8 P kt good w' b n f:=by
 obtain ⟨D,⟨es,c,hb,hr⟩,hh⟩:=h
 exact ⟨D,⟨es,c,e.trans hb,hr⟩,hh⟩
theorem KMap8.chg {L:List Nat} {w':World} (h:KMap8 P kt good w b n f) (c:Chg L w w') (hb:b∉L):KMap8 P kt good w' b n f:=h.same (c.block b h.lt hb)
theorem KMap8.congr {g:Nat→Option Value} (h:KMap8 P kt good w b n f) (e:∀ i,i<n→f i=g i):KMap8 P kt good w b n g:=by
 obtain ⟨D,h1,h2,h3,h4⟩:=h
 refine ⟨D,h1,h2.trans (cnt_congr fun i hi=>by rw [e i hi]),fun l hl=>?_,fun k v hk hv=>h4 k v hk (by rw [e k hk];exact hv)⟩
 obtain ⟨k,hk,hl',hs⟩:=h3 l hl
 exact ⟨k,hk,hl',by rw [← e k hk];exact hs⟩
theorem KMap8.has (_h:KMap8 P kt good w b n f) {D:DataW Value} (h3:∀ l,Maps.has D l=true→∃ k,k<n∧l = .int .u8 (k:Int)∧(f k).isSome=true)
  (h4:∀ k v,k<n→f k=some v→Maps.has D (.int .u8 (k:Int))=true∧∀ z,D.atKey (.int .u8 (k:Int)) z = .held v) {k:Nat} (hk:k<n) :
  Maps.has D (.int .u8 (k:Int))=(f k).isSome:=by
 cases hf:f k with
 | some v=>exact (h4 k v hk hf).1
 | none =>
  cases hh:Maps.has D (.int .u8 (k:Int)) with
  | false=>rfl
  | true =>
   obtain ⟨k',hk',e,hs⟩:=h3 _ hh
   injection e with _ e
   have:k=k':=by omega
   subst this
   rw [hf] at hs
   cases hs
theorem KMap8.len (h:KMap8 P kt good w b n f):∃ D:DataW Value,w.ownsMap P kt (RG good) b (Maps.size D) D∧Maps.size D=cnt n (fun k=>(f k).isSome):=by
 obtain ⟨D,h1,h2,_⟩:=h
 exact ⟨D,h1,h2⟩
theorem KMap8.look (h:KMap8 P kt good w b n f) (hkt:P.underlying kt=some (.int .u8)) (ht:P.underlying t=some (.map kt et))
  {z:Value} (hz:(zeroValue et).run P w = .ok z w) (hg:good z=true) {k:Nat} (hk:k<n) (hn:n≤256) :
  (Instr.lookup t (.map (some b)) (.int .u8 (k:Int)) true).run P w = .ok (.tuple #[(f k).getD z,.bool (f k).isSome]) w ∧
  (Instr.lookup t (.map (some b)) (.int .u8 (k:Int)) false).run P w = .ok ((f k).getD z) w:=by
 have hh:=h
 obtain ⟨D,h1,h2,h3,h4⟩:=h
 have hkey:keyOf P kt (.int .u8 (k:Int))=some (.int .u8 (k:Int)):=Maps.keyOf_int_mk hkt (WalkArith.wf_u8 (by omega))
 have K:=Maps.int_keyed hkt
 obtain ⟨v,ps,hrun,hv⟩:=h1.look_ok K ht hz (zd := .held z) (zp:=[]) (RG_mk hg) hkey
 obtain ⟨v',ps',hrun',hv'⟩:=h1.lookup K ht (z:=z) hz (zd := .held z) (zp:=[]) (RG_mk hg) hkey
 rw [hh.has h3 h4 hk] at hrun
 obtain ⟨e1,-,-⟩:=RG_inv hv
 obtain ⟨e2,-,-⟩:=RG_inv hv'
 have e:v=(f k).getD z∧v'=(f k).getD z:=by
  cases hf:f k with
  | some u =>
   have hu:=(h4 k u hk hf).2 (.held z)
   rw [hu] at e1 e2
   injection e1 with e1
   injection e2 with e2
   exact ⟨e1.symm,e2.symm⟩
  | none =>
   have hn:Maps.has D (.int .u8 (k:Int))=false:=by rw [hh.has h3 h4 hk,hf];rfl
   rw [Maps.atKey_of_not_has hn] at e1 e2
   injection e1 with e1
   injection e2 with e2
   exact ⟨e1.symm,e2.symm⟩
 rw [hrun,hrun',e.1,e.2]
 exact ⟨rfl,rfl⟩
theorem KMap8.look_out (h:KMap8 P kt good w b n f) (hkt:P.underlying kt=some (.int .u8)) (ht:P.underlying t=some (.map kt et))
  {z:Value} (hz:(zeroValue et).run P w = .ok z w) (hg:good z=true) {k:Int} (hw:(Lit.int .u8 k).wf=true) (hk:k<0∨(n:Int)≤k) :
  (Instr.lookup t (.map (some b)) (.int .u8 k) true).run P w = .ok (.tuple #[z,.bool false]) w ∧
  (Instr.lookup t (.map (some b)) (.int .u8 k) false).run P w = .ok z w:=by
 obtain ⟨D,h1,h2,h3,h4⟩:=h
 have hkey:keyOf P kt (.int .u8 k)=some (.int .u8 k):=Maps.keyOf_int_mk hkt hw
 have K:=Maps.int_keyed hkt
 obtain ⟨v,ps,hrun,hv⟩:=h1.look_ok K ht hz (zd := .held z) (zp:=[]) (RG_mk hg) hkey
 obtain ⟨v',ps',hrun',hv'⟩:=h1.lookup K ht (z:=z) hz (zd := .held z) (zp:=[]) (RG_mk hg) hkey
 have hn:Maps.has D (.int .u8 k)=false:=by
  cases hh:Maps.has D (.int .u8 k) with
  | false=>rfl
  | true =>
   obtain ⟨k',hk',e,hs⟩:=h3 _ hh
   injection e with _ e
   omega
 obtain ⟨e1,-,-⟩:=RG_inv hv
 obtain ⟨e2,-,-⟩:=RG_inv hv'
 rw [Maps.atKey_of_not_has hn] at e1 e2
 injection e1 with e1
 injection e2 with e2
 rw [hrun,hrun',hn,← e1,← e2]
 exact ⟨rfl,rfl⟩
theorem KMap8.del (h:KMap8 P kt good w b n f) (hkt:P.underlying kt=some (.int .u8)) (ht:P.underlying t=some (.map kt et)) {k:Nat} (hk:k<n) (hn:n≤256) (ty:TypeId) :
  ∃ w',(Builtin.delete_ #[t,kt] ty #[.map (some b),.int .u8 (k:Int)]).run P w = .ok (.tuple #[]) w'∧KMap8 P kt good w' b n (fun i=>if i=k then none else f i)∧w.mapTurned w' b:=by
 have hh:=h
 obtain ⟨D,h1,h2,h3,h4⟩:=h
 have hkey:keyOf P kt (.int .u8 (k:Int))=some (.int .u8 (k:Int)):=Maps.keyOf_int_mk hkt (WalkArith.wf_u8 (by omega))
 have K:=Maps.int_keyed hkt
 obtain ⟨w',hrun,hown,hturn⟩:=h1.drop K ht hkey ty
 refine ⟨w',hrun,⟨D.del (.int .u8 (k:Int)),ownsMap_tightV hown,?_,?_,?_⟩,hturn⟩
 ·have e1:=Maps.size_del (k := .int .u8 (k:Int)) (h1.tidy K)
  have e2:=cnt_upd (p:=fun i=>(f i).isSome) (q:=fun i=>(if i=k then none else f i).isSome) hk (fun i _ hne=>by simp [hne])
  simp only [if_true,Option.isSome_none,Bool.false_eq_true,if_false,hh.has h3 h4 hk] at e1 e2
  show _=cnt n (fun i=>(if i=k then none else f i).isSome)
  omega
 ·intro l hl
  by_cases e:l = .int .u8 (k:Int)
  ·subst e;rw [Maps.has_del_same] at hl;cases hl
  ·rw [Maps.has_del_other e] at hl
   obtain ⟨k',hk',rfl,hs⟩:=h3 l hl
   have hne:k'≠k:=fun q=>e (by rw [q])
   exact ⟨k',hk',rfl,by simp [hne,hs]⟩
 ·intro i v hi hv
  by_cases e:i=k
  ·simp [e] at hv
  ·simp only [e,if_false] at hv
   have hne:Lit.int .u8 (i:Int) ≠ .int .u8 (k:Int):=fun q=>by injection q with _ q;omega
   obtain ⟨g1,g2⟩:=h4 i v hi hv
   exact ⟨by rw [Maps.has_del_other hne];exact g1,fun z=>by rw [Maps.atKey_del_other hne];exact g2 z⟩
theorem KMap8.put (h:KMap8 P kt good w b n f) (hkt:P.underlying kt=some (.int .u8)) (ht:P.underlying t=some (.map kt et)) {k:Nat} {v:Value} (hk:k<n) (hn:n≤256) (hv:good v=true) :
  ∃ w',(Instr.mapUpdate t (.map (some b)) (.int .u8 (k:Int)) v).run P w = .ok () w'∧KMap8 P kt good w' b n (fun i=>if i=k then some v else f i)∧w.mapTurned w' b:=by
 have hh:=h
 obtain ⟨D,h1,h2,h3,h4⟩:=h
 have hkey:keyOf P kt (.int .u8 (k:Int))=some (.int .u8 (k:Int)):=Maps.keyOf_int_mk hkt (WalkArith.wf_u8 (by omega))
 have K:=Maps.int_keyed hkt
 have hle:=cnt_le (fun k=>(f k).isSome) n
 have hik:WideAt.IsKeyLit (.int .u8 (k:Int)):=K.key hkey
 obtain ⟨w',hrun,hown,hturn⟩:=h1.store K ht (by unfold maxLen;omega) hkey (RG_mk hv)
 refine ⟨w',hrun,⟨_,ownsMap_tightV hown,?_,?_,?_⟩,hturn⟩
 ·have e1:=Maps.size_put (k := .int .u8 (k:Int)) (h1.tidy K) (.held v)
  have e2:=cnt_upd (p:=fun i=>(f i).isSome) (q:=fun i=>(if i=k then some v else f i).isSome) hk (fun i _ hne=>by simp [hne])
  rw [hh.has h3 h4 hk] at e1
  simp only [if_true,Option.isSome_some] at e2
  rw [e1]
  split at e2 <;> split <;> simp_all <;> omega
 ·intro l hl
  by_cases e:l = .int .u8 (k:Int)
  ·exact ⟨k,hk,e,by simp⟩
  ·rw [Maps.has_put_other e] at hl
   obtain ⟨k',hk',rfl,hs⟩:=h3 l hl
   have hne:k'≠k:=fun q=>e (by rw [q])
   exact ⟨k',hk',rfl,by simp [hne,hs]⟩
 ·intro i v' hi hv'
  by_cases e:i=k
  ·subst e
   simp only [if_true,Option.some.injEq] at hv'
   subst hv'
   exact ⟨Maps.has_put_same h1.isMap hik _,fun z=>Maps.atKey_put_same h1.isMap hik _ z⟩
  ·simp only [e,if_false] at hv'
   have hne:Lit.int .u8 (i:Int) ≠ .int .u8 (k:Int):=fun q=>by injection q with _ q;omega
   obtain ⟨g1,g2⟩:=h4 i v' hi hv'
   exact ⟨by rw [Maps.has_put_other hne];exact g1,fun z=>by rw [Maps.atKey_put_other hne];exact g2 z⟩
theorem KMap8.ofEmpty (h:w.ownsMap P kt (RG good) b 0 (.map []:DataW Value)) (n:Nat):KMap8 P kt good w b n (fun _=>none):=by
 refine ⟨.map [],h,(cnt_zero fun _ _=>rfl).symm,?_,?_⟩
 ·intro l hl;cases hl
 ·intro k v _ hv;cases hv
theorem KMap8.made (w:World) (n:Nat):KMap8 P kt good (w.alloc (.map #[] 0)) w.heap.size n (fun _=>none) :=
 KMap8.ofEmpty (World.ownsMap_made _ _ _ _) n
end
end Go.Proofs.YtkhcaclndepgbaaGreat
namespace Go.Proofs.YtkhcaclndepgbaaGreat
open Go.RowKit
end Go.Proofs.YtkhcaclndepgbaaGreat
