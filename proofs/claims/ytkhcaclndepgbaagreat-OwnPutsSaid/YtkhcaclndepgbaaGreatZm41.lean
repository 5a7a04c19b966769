/- OwnOnce in plain words. · Package own: Let, drop. · Package own: Drop; Own as layers 14 and on use it. · Layer 14's examples, in plain words: the bases that come up, reckoned. · Layer 14's examples, in plain words: what each step leaves. · Layer 14's examples, in plain words: the end. -/
import Derived.Test.YtkhcaclndepgbaaGreatZm40
import Derived.Test.YtkhcaclndepgbaaGreatZm37
import Derived.Test.YtkhcaclndepgbaaGreatZm39
set_option linter.unusedVariables false
set_option linter.unusedSimpArgs false
set_option maxRecDepth 100000
set_option maxHeartbeats 20000000
namespace Go.Proofs.YtkhcaclndepgbaaGreat
theorem Kp0.down (B:Bs) (x:Int):Kp0 B (B.down x):=by
 unfold Bs.down
 split
 ·refine ⟨?_,rfl,?_⟩
  ·show (Proofs.YtkhcaclndepgbaaGreat.down B.T x).kept=B.T.kept
   unfold Proofs.YtkhcaclndepgbaaGreat.down
   split <;> rfl
  ·show (Proofs.YtkhcaclndepgbaaGreat.down B.T x).n=B.T.n
   unfold Proofs.YtkhcaclndepgbaaGreat.down
   split <;> rfl
 ·exact Kp0.refl B
theorem Kp0.ups (B:Bs) (v:Nat→Nat):∀ i,Kp0 B (B.ups v i)
 | 0=>Kp0.refl B
 | i+1=>by
  unfold Bs.ups
  split
  ·exact Kp0.ups B v i
  ·exact (Kp0.ups B v i).trans (Kp0.up _ _)
theorem Kp0.own (B:Bs) (x:Nat) (d:Nd):Kp0 B (ownP B x d).2:=by
 unfold ownP
 split
 ·exact Kp0.refl B
 ·refine Kp0.trans ?_ (Kp0.put _ _)
  unfold Bs.own2
  refine Kp0.trans ?_ (Kp0.down _ _)
  unfold Bs.own1
  split
  ·exact Kp0.ups _ _ _
  ·exact Kp0.refl B
theorem isI_kept {B:Bs} {N G:Nat} (g:Good N G B) {x:Nat} (hx:x<N):(B.T.kept x≠0→B.isI (x:Int)=false)∧(B.isI (x:Int)=true→B.T.kept x=0∧B.T.now x=1):=by
 refine ⟨fun h=>?_,fun h=>?_⟩
 ·cases hi:B.isI (x:Int) with
  | false=>rfl
  | true =>
   obtain ⟨_,_,hf,_,_⟩:=Bs.isI_iff hi
   rw [Int.toNat_natCast] at hf
   exact absurd ((g.ok.fr x (by rw [g.n];exact hx)).1 hf).1 h
 ·obtain ⟨_,_,hf,h1,_⟩:=Bs.isI_iff h
  rw [Int.toNat_natCast] at hf
  refine ⟨((g.ok.fr x (by rw [g.n];exact hx)).1 hf).1,?_⟩
  unfold Proofs.YtkhcaclndepgbaaGreat.getV at h1
  rw [(hasB_iff B.T (x:Int)).2 (by rw [g.n];omega),if_pos rfl,Int.toNat_natCast] at h1
  omega
section
variable {N G:Nat} {B:Bs} {ht:Ht} {pend:Nat→Nat}
theorem Gr.own_now (g:Gr N G B ht pend) (hM:N≤4096) (hm:∀ b,pend b≤30000) {x c:Nat} {d:Nd} (hx:ht x=some c) (hd:B.nodeI (x:Int)=some d) (hp:1≤pend x) (hi:B.isI (x:Int)=false) (h1:1<B.T.now x) (hz:Refs B ht N x=0) (hne:(ownP B x d).1≠x):(ownP B x d).2.T.now x=B.T.now x - 1:=by
 obtain ⟨hxN,hxl,d0,hd0,nd⟩:=g.node x c hx
 obtain rfl:d=d0:=Option.some.inj (hd.symm.trans hd0)
 have h2x:=g.two hxl hxN
 have hdo:=(g.good.ok.node_ok hd).1
 have hval:∀ i,i<d.n→d.v i=0∨(2≤d.v i∧d.v i<N∧B.live (d.v i)=true):=fun i hi=>by
  by_cases e:d.v i=0
  ·exact .inl e
  ·exact .inr (g.val_live hx hd hi e)
 have hcnt:∀ b,2≤b→b<N→B.live b=true→B.T.now b+d.n≤65535:=fun b b2 bN bl=>by
  have:=g.now_le b2 bN bl
  have:=hm b
  have:=hdo.n
  omega
 obtain ⟨u1,u2,u3,u4,u5,u6,u7⟩:=g.ups d.n hval hcnt
 have e1:B.own1 x d=B.ups d.v d.n:=by unfold Bs.own1;rw [if_pos h1]
 have ho:(cnt d.n fun i=>decide (d.v i=x))=0:=g.refs_node hx hd hz
 obtain ⟨w1,w2,w3,w4,w5,w6,w7⟩:=u2.down2 hxN h2x (by show 1≤pend x+_;omega) (by rw [u5 x h2x];omega)
 unfold ownP at hne ⊢
 rw [hi] at hne ⊢
 show (if x=(B.own2 x d).at_ then 1 else (B.own2 x d).T.now x)=_
 rw [if_neg (fun e=>hne e.symm)]
 unfold Bs.own2
 rw [e1,w5 x,if_pos rfl,u5 x h2x,ho]
 omega
end
structure Once (N G:Nat) (B:Bs) (x:Nat) (items:List (Nat × Nat)) (d:Nd) (y:Nat) (B2:Bs) (ht2:Ht) (d2:Nd):Prop where
 rts:Rts N G B2 [y] items ht2
 node:B.nodeI (x:Int)=some d
 no:B.isI (x:Int)=false
 ok:B.isI (x:Int)=false→OwnOk B x d
 eq:ownP B x d=(y,B2)
 ne:y≠x
 z:B2.T.now x=0
 o:B2.T.now y=1
 is:B2.isI (y:Int)=true
 node2:B2.nodeI (y:Int)=some d2
 kx:B2.T.kept x≠0
 ky:B2.T.kept y=0
 ref:Refs B2 ht2 N y=0
 room:B.room - 1≤B2.room
theorem once_ok {N G:Nat} {B:Bs} {x:Nat} {items:List (Nat × Nat)} {ht:Ht} (h:Rts N G B [x] items ht) (hi:B.isI (x:Int)=true) (hG:G<9223372036854775808) (hr:0<B.commit.room):∃ d y B2 ht2 d2,Once N (G+1) B.commit x items d y B2 ht2 d2:=by
 have cm:=h.gr.good.commit_ hG
 have h2:=h.commit cm
 obtain ⟨c,hc,T⟩:=h2.top x (by simp)
 obtain ⟨hxN,hxl⟩:=h2.gr.lt hc
 obtain ⟨k0,n1⟩:=(isI_kept h.gr.good hxN).2 hi
 have hl0:B.live x=true:=by rw [← cm.live];exact hxl
 have n2:B.commit.T.now x=1:=(cm.now x hl0).trans n1
 have kx:B.commit.T.kept x≠0:=by rw [cm.kept x hxN,n2];omega
 have hno:=(isI_kept h2.gr.good hxN).1 kx
 obtain ⟨d,hd,hok,ht2,o⟩:=h2.gr.own h.hM (fun b=>by have:=pendL_le [x] b;have h3:([x]:List Nat).length=1:=rfl;omega) hc (pendL_pos (by simp)) hr
 obtain ⟨m1,m2⟩:=o.move hno
 have hy:=o.gr.lt o.top
 obtain ⟨ky,ny⟩:=(isI_kept o.gr.good hy.1).2 o.is
 exact ⟨d,_,_,ht2,d,h2.move (a:=[]) (b:=[]) o.gr hc o.top o.same o.kp,hd,hno,hok,rfl,m1,m2 n2,ny,o.is,o.node,by rw [(Kp0.own B.commit x d).1];exact kx,ky,o.refs,o.room⟩
structure Once2 (N G:Nat) (B:Bs) (x y:Nat) (items:List (Nat × Nat)) (d:Nd) (z:Nat) (B4:Bs) (ht4:Ht):Prop where
 rts:Rts N G B4 ([y]++[z]) items ht4
 node:B.nodeI (y:Int)=some d
 ok:B.isI (y:Int)=false→OwnOk B y d
 eq:ownP B y d=(z,B4)
 ne:z≠y
 ix:B4.isI (x:Int)=false
 iz:B4.isI (z:Int)=true
 iy:B4.isI (y:Int)=true
theorem Once.more {N G:Nat} {B:Bs} {x y:Nat} {items:List (Nat × Nat)} {d d2:Nd} {B2:Bs} {ht2:Ht} (h:Once N G B x items d y B2 ht2 d2) (hx:x<N) (hr:0<B2.room) :
  B2.upE (y:Int)=0∧∃ d3 z B4 ht4,Once2 N G (B2.up (y:Int)) x y items d3 z B4 ht4:=by
 obtain ⟨u1,u2,u3⟩:=h.rts.up (by simp) (r:=y) (by simp)
 refine ⟨u1,?_⟩
 obtain ⟨c,hc,T⟩:=h.rts.top y (by simp)
 obtain ⟨hyN,hyl⟩:=h.rts.gr.lt hc
 obtain ⟨v1,v2,v3,v4,v5,v6,v7⟩:=h.rts.gr.up hyN hyl (by rw [h.o];omega)
 have n2:(B2.up (y:Int)).T.now y=2:=by rw [v5 y,if_pos rfl,h.o]
 have hno:(B2.up (y:Int)).isI (y:Int)=false:=by
  cases hi:(B2.up (y:Int)).isI (y:Int) with
  | false=>rfl
  | true =>
   have:=((isI_kept u2.gr.good hyN).2 hi).2
   omega
 have hpl:∀ b,pendL ([y]++[y]) b≤30000:=fun b=>by have:=pendL_le ([y]++[y]) b;have h3:([y]++[y]:List Nat).length=2:=rfl;omega
 have hpp:1≤pendL ([y]++[y]) y:=pendL_pos (by simp)
 obtain ⟨d3,hd,hok,ht4,o⟩:=u2.gr.own u2.hM hpl hc hpp (by rw [u3];exact hr)
 obtain ⟨m1,-⟩:=o.move hno
 have hrf:Refs (B2.up (y:Int)) ht2 N y=0:=by
  rw [show Refs (B2.up (y:Int)) ht2 N y=Refs B2 ht2 N y from sumTo_congr fun n _=>by unfold refsF;rw [v3]]
  exact h.ref
 have hn4:=u2.gr.own_now u2.hM hpl hc hd hpp hno (by omega) hrf m1
 have kp:Kp0 B2 (ownP (B2.up (y:Int)) y d3).2:=(Kp0.up B2 _).trans (Kp0.own _ _ _)
 have hnode:∃ q,(ownP (B2.up (y:Int)) y d3).2.nodeI (y:Int)=some q:=by
  have:=o.kp.tree y c hc (by rw [pendL_les [y] []];exact pendL_pos (by simp))
  obtain ⟨_,_,q,hq,_⟩:=o.gr.node y c this.1
  exact ⟨q,hq⟩
 obtain ⟨q,hq⟩:=hnode
 refine ⟨d3,_,_,ht4,u2.move (b:=[]) o.gr hc o.top o.same o.kp,hd,hok,rfl,m1,?_,o.is,?_⟩
 ·exact (isI_kept o.gr.good hx).1 (by rw [kp.1];exact h.kx)
 ·refine o.gr.isI_of hyN ?_ (by omega) hq
  exact (o.gr.good.ok.fr y (by rw [o.gr.good.n];exact hyN)).2 ⟨by rw [kp.1];exact h.ky,by omega⟩
open Go.RowKit
def letV (bx:Nat):Value := .func (.func 126) #[] #[.pointer (some ⟨bx,0,none⟩)]
def LetIn (w:World) (M:Bm) (bx:Nat):Prop:=w.heap[bx]?=some (.cells #[.pointer (some ⟨M.b,0,none⟩)] 24 (0,0))∧bx∉M.L
theorem LetIn.chg {w w':World} {M:Bm} {bx:Nat} {L:List Nat} (h:LetIn w M bx) (c:Chg L w w') (hL:∀ q,q∈L→q∈M.L):LetIn w' M bx:=⟨(c.block bx (zhl h.1) (fun hm=>h.2 (hL _ hm))).trans h.1,h.2⟩
theorem owLet_at (w:World) (M:Bm) (hM:∀ q,q∈M.L→q<w.heap.size):Calls Tryz.prog 69 #[.pointer (some ⟨M.b,0,none⟩)] w fun e w'=>∃ bx,e = .returned (letV bx)∧LetIn w' M bx∧Chg [] w w':=by
 have hb:=znb w (.cells #[.pointer (some ⟨M.b,0,none⟩)] 24)
 have hc:Chg [] w (w.alloc (.cells #[.pointer (some ⟨M.b,0,none⟩)] 24)):=(Chg.refl [] w).alloc _
 have hn:w.heap.size∉M.L:=fun hm=>by have:=hM _ hm;omega
 have H:=Lib.hid (And.intro (And.intro hb hn:LetIn _ M w.heap.size) hc)
 clear hb hc hn
 go_enter Tryz.func69,Tryz.ntmps69
 go_wp2_with fail
 go_ret
 exact ⟨w.heap.size,rfl,H.out⟩
theorem owLet1_at {w:World} {M:Bm} {F:List Nat} {B:Bs} {bx v:Nat} (h:BaseAt w M F B) (hF:∀ q,q∈F→q<w.heap.size) (hb:LetIn w M bx) (hv:v<4096) :
  Calls Tryz.prog 126 #[.int .u64 (v:Int),.pointer (some ⟨bx,0,none⟩)] w fun e w'=>e = .returned (.int .i64 (B.downE (v:Int)))∧BaseAt w' M F (B.down (v:Int))∧Chg M.L w w':=by
 have cb:=owBlock_at v hv w
 have cd:=Lib.hid (bDown_at h hF (v:Int))
 have x0:w.cell? ⟨bx,0,none⟩=some (.pointer (some ⟨M.b,0,none⟩)):=(zcb hb.1 0).trans rfl
 clear h hF hb
 go_enter Tryz.func126,Tryz.ntmps126
 go_wp2_with fail
 refine (cb).mono ?_
 rintro e w' ⟨rfl,rfl⟩
 go_wp2_with fail
 refine cd.out.mono ?_
 rintro e w' ⟨rfl,hq⟩
 have HQ:=Lib.hid hq
 clear hq cd
 go_wp2_with fail
 go_ret
 exact ⟨rfl,HQ.out⟩
structure DropIn (w:World) (M:Bm) (F:List Nat) (B:Bs) (N G:Nat) (ht:Ht) (pend:Nat→Nat) (x k l bx:Nat):Prop where
 base:BaseAt w M F B
 far:∀ q,q∈F→q<w.heap.size
 gr:Gr N G B ht pend
 hM:N≤4096
 top:ht x=some k
 pos:1≤pend x
 lev:k+l<8
 box:LetIn w M bx
def KidsOk (k:Nat) (d:Nd) (i:Nat) (ht:Ht):Prop:=(k≠0→∀ j,i≤j→j<d.n→ht (d.v j)=some (k - 1))∧(k=0→∀ j,i≤j→j<d.n→d.v j≠0→ht (d.v j)=none)
def Bs.dwns (B:Bs) (v:Nat→Nat):Nat→Bs
 | 0=>B
 | i+1=>if v i=0 then B.dwns v i else (B.dwns v i).down (v i:Int)
def DropEnd (w:World) (M:Bm) (F:List Nat) (B:Bs) (N G:Nat) (ht:Ht) (pend:Nat→Nat) (x k:Nat) (w':World):Prop:=∃ B' ht',BaseAt w' M F B'∧Less N G B ht pend x B' ht'∧Chg M.L w w'∧(k=0→B.T.now x=1→∀ d,B.nodeI (x:Int)=some d→B'=(B.down (x:Int)).dwns d.v d.n)
def DropAt (k:Nat):Prop:=∀ {w:World} {M:Bm} {F:List Nat} {B:Bs} {N G:Nat} {ht:Ht} {pend:Nat→Nat} {x l bx:Nat},DropIn w M F B N G ht pend x k l bx →
 Calls Tryz.prog 125 #[.agg #[.pointer (some ⟨M.b,0,none⟩),letV bx],.int .i64 (x:Int),.int .i64 (l:Int)] w fun e w'=>e = .returned (.int .i64 0)∧DropEnd w M F B N G ht pend x k w'
theorem drop_step {k:Nat} (ih:∀ k',k=k'+1→DropAt k'):DropAt k:=by
 intro w M F B N G ht pend x l bx H
 have H0:=Lib.hid H
 have IH:=Lib.hid ih
 have HML:=Lib.hid (fun q hq=>H.base.ltL hq:∀ q,q∈M.L→q<w.heap.size)
 obtain ⟨hxN,hxl,d,hd,nd⟩:=H.gr.node x k H.top
 have hk8:=H.lev
 unfold letV
 obtain ⟨fv,hfv⟩:∃ fv:Value,fv = .func (.func 126) #[] #[.pointer (some ⟨bx,0,none⟩)]:=⟨_,rfl⟩
 rw [← hfv]
 have HFV:=Lib.hid hfv
 clear hfv
 have c0:=(Chg.refl [] w).alloc (.cells #[.pointer (some ⟨M.b,0,none⟩),fv] 206)
 have k0:=znb w (.cells #[.pointer (some ⟨M.b,0,none⟩),fv] 206)
 have cn:=Lib.hid ((H.base.chg c0 (by simp)).cNode (x:Int))
 have x0:(w.alloc (.cells #[.pointer (some ⟨M.b,0,none⟩),fv] 206)).cell? ⟨w.heap.size,0,none⟩=some (.pointer (some ⟨M.b,0,none⟩)):=(zcb k0 0).trans rfl
 have hs:=zhl k0
 have C0:=Lib.hid (And.intro c0 k0)
 have HD:=Lib.hid (And.intro hd (And.intro nd (And.intro hxN hxl)))
 clear H ih c0 k0 hd nd hxN hxl
 go_enter Tryz.func125,Tryz.ntmps125
 go_wp2_with (refine wpList_boxAgg rfl 206 (.tmp 0) rfl (cells:=#[.pointer (some ⟨M.b,0,none⟩),fv]) rfl ?_)
 generalize w.alloc (.cells #[.pointer (some ⟨M.b,0,none⟩),fv] 206)=W0 at *
 obtain ⟨db,hdb⟩:∃ db,db=w.heap.size:=⟨_,rfl⟩
 rw [← hdb] at C0 x0 hs ⊢
 have HDB:=Lib.hid hdb
 clear hdb x0 hs
 refine cn.out.mono ?_
 clear cn
 rintro e w1 (⟨d',kb,vb,hd',rfl,k1,k2,k3,r1,r2,hc1⟩ | ⟨hd',rfl,hc1⟩)
 case inr=>exact absurd (HD.out.1.symm.trans hd') (by simp)
 obtain rfl:d'=d:=Option.some.inj (hd'.symm.trans HD.out.1)
 have hd1:=(H0.out.gr.good.ok.node_ok hd').1
 have hnb:=znb w1 (.cells #[.bool d'.leaf,.slice (some ⟨kb,0,none⟩) d'.n d'.n,.slice (some ⟨vb,0,none⟩) d'.n d'.n] 107)
 have hcb:=(Chg.refl [] w1).alloc (.cells #[.bool d'.leaf,.slice (some ⟨kb,0,none⟩) d'.n d'.n,.slice (some ⟨vb,0,none⟩) d'.n d'.n] 107)
 have hnd:=NodeEnd.box hd1 k1 k2 r1 r2 hc1 hnb (hcb.mono (by simp))
 have HND:=Lib.hid hnd
 have HC:=Lib.hid (hc1.trans hcb)
 clear hnd hnb hcb hc1 r1 r2 hd' k1 k2 k3
 go_upto_region 2 with fail
 generalize w1.alloc (.cells #[.bool d'.leaf,.slice (some ⟨kb,0,none⟩) d'.n d'.n,.slice (some ⟨vb,0,none⟩) d'.n d'.n] 107)=W at *
 obtain ⟨xb,hxb⟩:∃ xb,xb=w1.heap.size:=⟨_,rfl⟩
 rw [← hxb] at HND ⊢
 clear hxb
 obtain ⟨lf,hlf⟩:∃ lf,lf=d'.leaf:=⟨_,rfl⟩
 rw [← hlf]
 have HLF:=Lib.hid hlf
 clear hlf
 have cW:=C0.out.1.trans HC.out
 have hl8:((l:Int)==8)=false:=by rw [beq_eq_false_iff_ne];omega
 have hDB:=(HC.out.block db (zhl C0.out.2) (by simp)).trans C0.out.2
 have x0:W.cell? ⟨db,0,none⟩=some (.pointer (some ⟨M.b,0,none⟩)):=(zcb hDB 0).trans rfl
 have cd:=bDown_at (H0.out.base.chg cW (by simp)) (fun q hq=>Nat.lt_of_lt_of_le (H0.out.far q hq) cW.size) (x:Int)
 have hnM:∀ q,w.heap.size≤q→q∉M.L:=fun q hq hm=>by have:=HML.out q hm;omega
 have HNM:=Lib.hid hnM
 have hbp:∀ (w':World) (B':Bs),BaseAt w' M F B'→B'.T.n=B.T.n→Calls Tryz.prog 22 #[.pointer (some ⟨M.b,0,none⟩),.int .i64 (x:Int)] w' fun e w''=>e = .returned (.int .i64 (B'.T.now x:Int))∧w'=w'':=fun w' B' hb hn=>by
  have cc:=hb.cCount (x:Int)
  rw [show getV B'.T (x:Int)=(B'.T.now x:Int) by unfold getV;rw [(hasB_iff B'.T (x:Int)).2 (by have:=H0.out.gr.good.n;have:=HD.out.2.2.1;omega),if_pos rfl,Int.toNat_natCast]] at cc
  exact cc
 have HBP:=Lib.hid hbp
 have HDB2:=Lib.hid hDB
 have HCW:=Lib.hid cW
 by_cases h2:2≤B.T.now x
 ·obtain ⟨e1,l1⟩:=H0.out.gr.less2 HD.out.2.2.1 (H0.out.gr.two HD.out.2.2.2 HD.out.2.2.1) H0.out.pos h2
  have hnow:2≤(B.down (x:Int)).T.now x+1∧(B.down (x:Int)).T.n=B.T.n:=by
   obtain ⟨w1,w2,w3,w4,w5,w6,w7⟩:=H0.out.gr.down2 HD.out.2.2.1 (H0.out.gr.two HD.out.2.2.2 HD.out.2.2.1) H0.out.pos h2
   rw [w5 x,if_pos rfl,w2.good.n,H0.out.gr.good.n]
   exact ⟨by omega,rfl⟩
  rw [e1] at cd
  have CD:=Lib.hid cd
  have HL:=Lib.hid (And.intro l1 hnow)
  clear cd e1 l1 hnow hDB hnM hbp cW hd1
  go_wp2_with fail
  refine CD.out.mono ?_
  clear CD
  rintro e w2 ⟨rfl,hb2,hc2⟩
  have cc:=HBP.out _ _ hb2 HL.out.2.2
  have hDB2:=(hc2.block db (zhl HDB2.out) (HNM.out db (by rw [HDB.out];exact Nat.le_refl _))).trans HDB2.out
  have x0':w2.cell? ⟨db,0,none⟩=some (.pointer (some ⟨M.b,0,none⟩)):=(zcb hDB2 0).trans rfl
  obtain ⟨c,hc⟩:∃ c,c=(B.down (x:Int)).T.now x:=⟨_,rfl⟩
  have hc0:(0:Int)<(c:Int):=by have:=HL.out.2.1;omega
  rw [← hc] at cc
  have HE:=Lib.hid (And.intro hb2 ((HCW.out.mono (by simp):Chg M.L w W).trans hc2))
  clear x0 hb2 hc2 hDB2 hc
  go_wp2_with fail
  refine (cc).mono ?_
  rintro e w' ⟨rfl,rfl⟩
  go_wp2_with fail
  go_ret
  exact ⟨rfl,_,_,HE.out.1,HL.out.1,HE.out.2,fun _ q=>by omega⟩
 ·have h1:B.T.now x=1:=by have:=(H0.out.gr.good.may HD.out.2.2.1 HD.out.2.2.2).2.2.1;omega
  obtain ⟨e1,l1,l2,l3⟩:=H0.out.gr.gone H0.out.top HD.out.1 H0.out.pos h1
  rw [e1] at cd
  have CD:=Lib.hid cd
  have hn2:(B.down (x:Int)).T.n=B.T.n:=by rw [l1.gr.good.n,H0.out.gr.good.n]
  have HL:=Lib.hid (And.intro l1 (And.intro l2 (And.intro l3 hn2)))
  clear cd e1 l1 l2 l3 hn2 hDB hnM hbp cW hd1
  go_wp2_with fail
  refine CD.out.mono ?_
  clear CD
  rintro e w2 ⟨rfl,hb2,hc2⟩
  have cc:=HBP.out _ _ hb2 HL.out.2.2.2
  rw [HL.out.2.1] at cc
  have hDB2:=(hc2.block db (zhl HDB2.out) (HNM.out db (by rw [HDB.out];exact Nat.le_refl _))).trans HDB2.out
  have x0':w2.cell? ⟨db,0,none⟩=some (.pointer (some ⟨M.b,0,none⟩)):=(zcb hDB2 0).trans rfl
  have HND2:=Lib.hid (HND.out.chg hc2 (fun q hq => .inl (Nat.lt_of_lt_of_le (HML.out q hq) C0.out.1.size)))
  obtain ⟨z0,z1,z2⟩:=HND2.out.c
  have HE:=Lib.hid (And.intro hb2 (And.intro ((HCW.out.mono (by simp):Chg M.L w W).trans hc2) hDB2))
  clear x0 hb2 hc2 hDB2 HND
  have HMS:=Lib.hid (fun q hq => .inl (Nat.lt_of_lt_of_le (HML.out q hq) C0.out.1.size):∀ q,q∈M.L→q<W0.heap.size∨w2.heap.size≤q)
  have hlk:lf=decide (k=0):=by rw [HLF.out,HD.out.2.1.leaf,Nat.mod_eq_of_lt (by omega)]
  have HLK:=Lib.hid hlk
  rw [← HLF.out] at z0
  clear hlk
  go_wp2_with fail
  refine (cc).mono ?_
  rintro e w' ⟨rfl,rfl⟩
  go_upto_region 10 with fail
  clear z0 z1 z2 x0'
  have n7:=HND2.out.ok.n
  go_loopg [8,45] d'.n (fun gg s8 s45 wr=>∃ i:Nat,gg=d'.n - i∧i≤d'.n∧s8 = .int .i64 0∧s45 = .int .i64 (i:Int)∧Hid (∃ B1 ht1,BaseAt wr M F B1∧Gone N G B ht pend x d' i B1 ht1∧KidsOk k d' i ht1∧Chg M.L w2 wr∧(k=0→B1=(B.down (x:Int)).dwns d'.v i)))
  case atStart=>exact ⟨0,rfl,Nat.zero_le _,rfl,rfl,Lib.hid ⟨_,_,HE.out.1,HL.out.1,⟨fun hk j _ hj=>HL.out.2.2.1.kid (by omega) j hj,fun hk j _ hj hv=>HL.out.2.2.1.flat hk j hj hv⟩,Chg.refl _ _,fun _=>rfl⟩⟩
  case round =>
   obtain ⟨i,hgi,hi,rfl,rfl,HR⟩:=hrel
   have HGI:=Lib.hid hgi
   clear hgi
   by_cases hin:i<d'.n
   ·have i1:(i:Int)<(d'.n:Int):=by omega
    obtain ⟨B1,ht1,hb1,hg1,hk1,hcr,hdw⟩:=HR.out
    have HDW:=Lib.hid hdw
    clear hdw
    have HNDr:=Lib.hid (HND2.out.chg hcr HMS.out)
    obtain ⟨z0,z1,z2⟩:=HNDr.out.c
    rw [← HLF.out] at z0
    have hvc:=HNDr.out.v.cell hin
    have hDr:=(hcr.block db (zhl HE.out.2.2) (HNM.out db (by rw [HDB.out];exact Nat.le_refl _))).trans HE.out.2.2
    have x0:wr.cell? ⟨db,0,none⟩=some (.pointer (some ⟨M.b,0,none⟩)):=(zcb hDr 0).trans rfl
    have x1:wr.cell? ⟨db,1,none⟩=some fv:=(zcb hDr 1).trans rfl
    have hltF:∀ q,q∈F→q<wr.heap.size:=fun q hq=>Nat.lt_of_lt_of_le (H0.out.far q hq) (Nat.le_trans HE.out.2.1.size hcr.size)
    have hbox:LetIn wr M bx:=(H0.out.box.chg HE.out.2.1 (fun q hq=>hq)).chg hcr (fun q hq=>hq)
    have hvl:d'.v i<4096:=by
     have hM:=H0.out.hM
     by_cases e:d'.v i=0
     ·omega
     ·have:=H0.out.gr.val_live H0.out.top HD.out.1 hin e;omega
    have cbk:=owBlock_at (d'.v i) hvl wr
    have HH:=Lib.hid (And.intro hb1 (And.intro hg1 (And.intro hk1 (And.intro hcr (And.intro hltF (And.intro hbox hvl))))))
    obtain ⟨u,hu⟩:∃ u,u=d'.v i:=⟨_,rfl⟩
    rw [← hu] at hvc cbk
    have HU:=Lib.hid hu
    clear hb1 hg1 hk1 hcr hltF hbox hvl hDr hu
    by_cases hk0:k=0
    ·obtain rfl:lf=true:=HLK.out.trans (decide_eq_true hk0)
     by_cases hu0:u=0
     ·subst hu0
      have hcb:Calls Tryz.prog 127 #[.int .u64 0] wr fun e w'=>e = .returned (.tuple #[.int .i64 0,.bool false])∧wr=w':=cbk
      clear cbk
      go_wp2_with fail
      refine hcb.mono ?_
      clear hcb
      rintro e w' ⟨rfl,rfl⟩
      go_wp2_with fail
      go_roundg (d'.n - (i+1))
      case measure=>have:=HGI.out;omega
      case rel=>exact ⟨i+1,rfl,hin,rfl,by go_num,Lib.hid ⟨B1,ht1,HH.out.1,HH.out.2.1.skip hin HU.out.symm,⟨fun q=>absurd hk0 q,fun q j hj=>HH.out.2.2.1.2 q j (by omega)⟩,HH.out.2.2.2.1,fun q=>(HDW.out q).trans (by show _=if d'.v i=0 then _ else _;rw [if_pos HU.out.symm])⟩⟩
     ·rw [decide_eq_true hu0] at cbk
      have hfv:=HFV.out
      subst hfv
      obtain ⟨u2,uN,ul⟩:=H0.out.gr.val_live H0.out.top HD.out.1 hin (by rw [← HU.out];exact hu0)
      obtain ⟨e1,l1⟩:=HH.out.2.1.gr.less uN u2 (rem_get hin (Nat.le_refl _)) (HH.out.2.2.1.2 hk0 i (Nat.le_refl _) hin (by rw [← HU.out];exact hu0))
      have cl:=owLet1_at HH.out.1 HH.out.2.2.2.2.1 HH.out.2.2.2.2.2.1 HH.out.2.2.2.2.2.2
      rw [e1,← HU.out] at cl
      have CL:=Lib.hid cl
      have HL1:=Lib.hid l1
      clear cl e1 l1 u2 uN ul
      go_wp2_with fail
      refine cbk.mono ?_
      clear cbk
      rintro e w' ⟨rfl,rfl⟩
      go_wp2_with fail
      refine CL.out.mono ?_
      clear CL
      rintro e w3 ⟨rfl,hb3,hc3⟩
      have H3:=Lib.hid (And.intro hb3 (HH.out.2.2.2.1.trans hc3))
      clear hb3 hc3
      go_wp2_with fail
      go_roundg (d'.n - (i+1))
      case measure=>have:=HGI.out;omega
      case rel=>exact ⟨i+1,rfl,hin,rfl,by go_num,Lib.hid ⟨_,ht1,H3.out.1,HH.out.2.1.step hin (by rw [← HU.out];rw [← HU.out] at HL1;exact HL1.out),⟨fun q=>absurd hk0 q,fun q j hj=>HH.out.2.2.1.2 q j (by omega)⟩,H3.out.2,fun q=>by show _=if d'.v i=0 then _ else _;rw [if_neg (by rw [← HU.out];exact hu0),← HDW.out q,HU.out]⟩⟩
    ·obtain rfl:lf=false:=HLK.out.trans (decide_eq_false hk0)
     have htk:=HH.out.2.2.1.1 hk0 i (Nat.le_refl _) hin
     have hu0:u≠0:=fun q=>by
      have:=HH.out.2.1.gr.two (HH.out.2.1.gr.lt htk).2 (HH.out.2.1.gr.lt htk).1
      rw [← HU.out] at this;omega
     rw [decide_eq_true hu0] at cbk
     have ci:=IH.out (k - 1) (by omega) (l:=l+1) ⟨HH.out.1,HH.out.2.2.2.2.1,HH.out.2.1.gr,H0.out.hM,htk,rem_get hin (Nat.le_refl _),by omega,HH.out.2.2.2.2.2.1⟩
     rw [← HU.out] at ci
     unfold letV at ci
     rw [← HFV.out,show ((l+1:Nat):Int)=(l:Int)+1 by omega] at ci
     have hw:IntKind.i64.wrap ((l:Int)+1)=(l:Int)+1:=IntWalk.i64_in _ (by omega)
     have CI:=Lib.hid ci
     clear ci htk
     go_wp2_with fail
     refine cbk.mono ?_
     clear cbk
     rintro e w' ⟨rfl,rfl⟩
     go_wp2_with fail
     refine CI.out.mono ?_
     clear CI
     rintro e w3 ⟨rfl,B2,ht2,hb3,hl3,hc3,-⟩
     have H3:=Lib.hid (And.intro hb3 (And.intro hl3 (HH.out.2.2.2.1.trans hc3)))
     clear hb3 hl3 hc3
     go_wp2_with fail
     go_roundg (d'.n - (i+1))
     case measure=>have:=HGI.out;omega
     case rel =>
      refine ⟨i+1,rfl,hin,rfl,by go_num,Lib.hid ⟨B2,ht2,H3.out.1,HH.out.2.1.step hin (by rw [← HU.out];exact H3.out.2.1),⟨fun q j hj hjn=>?_,fun q=>absurd q hk0⟩,H3.out.2.2,fun q=>absurd q hk0⟩⟩
      refine (H3.out.2.1.kp.tree (d'.v j) (k - 1) (HH.out.2.2.1.1 hk0 j (by omega) hjn) ?_).1
      rw [HU.out,rem_les hin]
      exact rem_get hjn hj
   ·obtain rfl:i=d'.n:=by omega
    have i1:¬ (d'.n:Int)<(d'.n:Int):=by omega
    obtain ⟨B1,ht1,hb1,hg1,hk1,hcr,hdw⟩:=HR.out
    have HF:=Lib.hid (And.intro hb1 (And.intro hg1.last (And.intro (HE.out.2.1.trans hcr) (fun q _ d2 hd2=>by
     rw [← Option.some.inj (HD.out.1.symm.trans hd2)]
     exact hdw q:k=0→B.T.now x=1→∀ d2:Nd,B.nodeI (x:Int)=some d2→B1=(B.down (x:Int)).dwns d2.v d2.n))))
    clear hb1 hg1 hk1 hcr hdw
    go_wp2_with fail
    go_ret
    exact ⟨rfl,B1,ht1,HF.out⟩
theorem drop_at:∀ k,DropAt k
 | 0=>drop_step fun k' h=>by cases h
 | k+1=>drop_step fun k' h=>by
  obtain rfl:k'=k:=by omega
  exact drop_at k'
theorem owDrop_at {w:World} {M:Bm} {F:List Nat} {B:Bs} {N G:Nat} {ht:Ht} {pend:Nat→Nat} {x k bx:Nat} (H:DropIn w M F B N G ht pend x k 0 bx) :
  Calls Tryz.prog 68 #[.pointer (some ⟨M.b,0,none⟩),.int .i64 (x:Int),letV bx] w fun e w'=>e = .returned (.int .i64 0)∧DropEnd w M F B N G ht pend x k w':=by
 have cb:=H.base.cBlocks
 have hz:=H.base.nz.1
 have hx0:((x:Int)==0)=false:=by
  rw [beq_eq_false_iff_ne]
  have:=H.gr.two (H.gr.lt H.top).2 (H.gr.lt H.top).1
  omega
 have cd:=drop_at k H
 unfold letV at cd ⊢
 have CD:=Lib.hid cd
 have hnf:(binOp BinOp.eql 119 (.func (.func 126) #[] #[.pointer (some ⟨bx,0,none⟩)]) Value.nilFunc).run Tryz.prog w = .ok (.bool false) w:=by kernel_rfl
 clear H cd
 go_enter Tryz.func68,Tryz.ntmps68
 go_wp2_with fail
 refine (cb).mono ?_
 rintro e w' ⟨rfl,rfl⟩
 go_wp2_with fail
 refine CD.out.mono ?_
 rintro e w' ⟨rfl,hq⟩
 have HQ:=Lib.hid hq
 clear hq CD
 go_wp2_with fail
 go_ret
 exact ⟨rfl,HQ.out⟩
section
variable (f1 f2 f3 f4:Nat→Nat)
noncomputable def ow2_:Bs:=((Bs.fmt 40).put f1).put f2
noncomputable def ow3_:Bs:=(ow2_ f1 f2).put f3
noncomputable def ow5_:Bs:=((((ow3_ f1 f2 f3).up 6).up 4).up 5).down 6
noncomputable def ow6_:Bs:=(ow5_ f1 f2 f3).put f4
noncomputable def ow7_:Bs:=(((ow6_ f1 f2 f3 f4).down 6).down 4).down 5
theorem ow_at1:((Bs.fmt 40).put f1).at_=5:=by kernel_rfl
theorem ow_at2:(ow2_ f1 f2).at_=6:=by kernel_rfl
theorem ow_now3:(ow3_ f1 f2 f3).T.now 6=1:=by kernel_rfl
theorem ow_at5:(ow5_ f1 f2 f3).at_=7:=by kernel_rfl
theorem ow_now6:(ow6_ f1 f2 f3 f4).T.now 4=2∧(ow6_ f1 f2 f3 f4).T.now 5=2∧(ow6_ f1 f2 f3 f4).T.now 6=1∧(ow6_ f1 f2 f3 f4).T.now 7=1:=⟨by kernel_rfl,by kernel_rfl,by kernel_rfl,by kernel_rfl⟩
theorem ow_now7:(ow7_ f1 f2 f3 f4).T.now 4=1∧(ow7_ f1 f2 f3 f4).T.now 5=1∧(ow7_ f1 f2 f3 f4).T.now 6=0∧(ow7_ f1 f2 f3 f4).T.now 7=1:=⟨by kernel_rfl,by kernel_rfl,by kernel_rfl,by kernel_rfl⟩
theorem ow_read6:(ow6_ f1 f2 f3 f4).read 6=(ow3_ f1 f2 f3).read 6:=by kernel_rfl
theorem ow_live7:(ow7_ f1 f2 f3 f4).live 4=true∧(ow7_ f1 f2 f3 f4).live 7=true:=⟨by kernel_rfl,by kernel_rfl⟩
theorem ow_read7:(ow7_ f1 f2 f3 f4).read 7=(ow6_ f1 f2 f3 f4).read 7:=by kernel_rfl
theorem ow_n7:(ow7_ f1 f2 f3 f4).T.n=(ow6_ f1 f2 f3 f4).T.n:=by kernel_rfl
theorem ow_n6:(ow6_ f1 f2 f3 f4).T.n=(ow3_ f1 f2 f3).T.n:=by kernel_rfl
end
theorem ow_raw:risL (rawOf [(1,1),(2,2)])=[(1,1),(2,2)]:=by kernel_rfl
theorem ow_grown:grownP 40 (rawOf [(1,1),(2,2)])=(ow2_ (blkF 1) (blkF 2),[(1,4),(2,5)]):=by
 unfold grownP
 rw [ow_raw,grw_step.2 rfl,grw_step.2 (by rfl:fSet (fun _=>none) 1 (Bs.fmt 40).at_ 2=none)]
 show ((((Bs.fmt 40).put (blkF 1)).put (blkF 2)),[(1,(Bs.fmt 40).at_),(2,((Bs.fmt 40).put (blkF 1)).at_)])=_
 rw [at40,ow_at1]
 rfl
theorem ow_build:bldP 8 0 [(1,4),(2,5)] (ow2_ (blkF 1) (blkF 2))=(ow3_ (blkF 1) (blkF 2) (pageF true 2 (kOf [(1,4),(2,5)]) (vOf [(1,4),(2,5)])),6):=by
 rw [bldP_one (by decide) (by decide),ow_at2]
 rfl
theorem ow_is:∃ ht,Gr 40 1 (ow3_ (blkF 1) (blkF 2) (pageF true 2 (kOf [(1,4),(2,5)]) (vOf [(1,4),(2,5)]))) ht (mor (fun _=>0) 6)∧ht 6=some 0∧2≤(ow3_ (blkF 1) (blkF 2) (pageF true 2 (kOf [(1,4),(2,5)]) (vOf [(1,4),(2,5)]))).room∧∃ d,(ow3_ (blkF 1) (blkF 2) (pageF true 2 (kOf [(1,4),(2,5)]) (vOf [(1,4),(2,5)]))).nodeI 6=some d∧d.n=2∧d.v 0=4∧d.v 1=5:=by
 have hu:It64 (rawOf [(1,1),(2,2)]):=fun p hp=>by
  simp [rawOf] at hp
  rcases hp with rfl | rfl <;> exact ⟨by decide,by decide⟩
 obtain ⟨w1,w2,w3,w4,w5,w6⟩:=gw_is (N:=40) (by omega) hu (by decide) (by rw [room_fmt (by omega)];decide)
 rw [ow_grown] at w6
 have h:=w6 _ 6 (fun _=>ow_build.symm) (fun q=>by cases q)
 obtain ⟨ht,c,t⟩:=h.cons (by simp)
 obtain ⟨_,_,d,hd,nd⟩:=t.gr.node 6 c t.top
 have hrt:rightB true 2 2 (kOf [(1,4),(2,5)]) (vOf [(1,4),(2,5)])=true:=by decide
 obtain ⟨d',h',a1,a2,a3,a4⟩:=decN_page hrt (fun i _=>(h.u.getD i).1) (fun i _=>(h.u.getD i).2)
 have hn:=node_put (B:=ow2_ (blkF 1) (blkF 2)) (by rw [ow_at2];omega) (by rw [ow_at2];decide) hrt
 rw [ow_at2,h'] at hn
 obtain rfl:d'=d:=Option.some.inj (hn.symm.trans hd)
 have hc:c=0:=by
  have h1:=nd.leaf
  rw [a1] at h1
  have h2:=of_decide_eq_true h1.symm
  have:=t.lt
  omega
 subst hc
 have hrm:=h.room
 rw [room_fmt (by omega)] at hrm
 exact ⟨ht,t.gr,t.top,by have e:(40:Int) - 2 - 2*(needN 40:Int) - 2*((rawOf [(1,1),(2,2)]).length:Int)=30:=(by decide);rw [show ((40:Nat):Int)=40 from rfl,e] at hrm;omega,d',hn,a2,a4 0 (by omega),a4 1 (by omega)⟩
noncomputable def owB3:Bs:=ow3_ (blkF 1) (blkF 2) (pageF true 2 (kOf [(1,4),(2,5)]) (vOf [(1,4),(2,5)]))
noncomputable def owB6 (d:Nd):Bs:=ow6_ (blkF 1) (blkF 2) (pageF true 2 (kOf [(1,4),(2,5)]) (vOf [(1,4),(2,5)])) d.pg
noncomputable def owB7 (d:Nd):Bs:=ow7_ (blkF 1) (blkF 2) (pageF true 2 (kOf [(1,4),(2,5)]) (vOf [(1,4),(2,5)])) d.pg
structure Aw14 (d:Nd) (ht ht2:Ht) (p2:Nat→Nat):Prop where
 g3:Gr 40 1 owB3 ht (mor (fun _=>0) 6)
 n3:owB3.nodeI 6=some d
 i3:owB3.isI 6=true
 g4:Gr 40 1 (owB3.up 6) ht (mor (mor (fun _=>0) 6) 6)
 n4:(owB3.up 6).nodeI 6=some d
 i4:(owB3.up 6).isI 6=false
 o4:OwnOk (owB3.up 6) 6 d
 e6:ownP (owB3.up 6) 6 d=(7,owB6 d)
 g6:Gr 40 1 (owB6 d) ht2 p2
 top:ht2 6=some 0∧ht2 7=some 0
 pos:p2=mor (mor (fun _=>0) 6) 7
 n6:(owB6 d).nodeI 6=some d∧(owB6 d).nodeI 7=some d
 r6:1≤(owB6 d).room
 e7:((owB6 d).down 6).dwns d.v d.n=owB7 d
theorem aw14_ok:∃ d ht ht2 p2,Aw14 d ht ht2 p2:=by
 obtain ⟨ht,g3,h6,r3,d,hd,dn,d0,d1⟩:=ow_is
 have r3:2≤owB3.room:=r3
 have g3:Gr 40 1 owB3 ht (mor (fun _=>0) 6):=g3
 have hd:owB3.nodeI ((6:Nat):Int)=some d:=hd
 have now3:owB3.T.now 6=1:=ow_now3 _ _ _
 have fr3:(owB3.fr 6).isSome=true:=by
  show ((ow2_ (blkF 1) (blkF 2)).put _ |>.fr 6).isSome=true
  unfold Bs.put
  rw [ow_at2]
  rfl
 have i3:=g3.isI_of (x:=6) (by omega) fr3 now3 hd
 obtain ⟨-,u2,u3,u4,u5,u6,u7⟩:=g3.up (x:=6) (by omega) (g3.lt h6).2 (by rw [now3];omega)
 have g4:Gr 40 1 (owB3.up ((6:Nat):Int)) ht (mor (mor (fun _=>0) 6) 6):=u2.pendc fun b _ _=>by
  unfold mor
  by_cases e:b=6
  ·subst e;rfl
  ·rw [if_neg e,if_neg e]
 have n4:(owB3.up ((6:Nat):Int)).nodeI ((6:Nat):Int)=some d:=by rw [u3];exact hd
 have now4:(owB3.up ((6:Nat):Int)).T.now 6=2:=by rw [u5,if_pos rfl,now3]
 have i4:(owB3.up ((6:Nat):Int)).isI ((6:Nat):Int)=false:=by
  cases hi:(owB3.up ((6:Nat):Int)).isI ((6:Nat):Int) with
  | false=>rfl
  | true =>
   have:=(Bs.isI_iff hi).2.2.2.1
   rw [g4.getV (by omega),now4] at this
   omega
 have r4:0<(owB3.up ((6:Nat):Int)).room:=by
  rw [u6];omega
 obtain ⟨o4,ht2,ow⟩:=g4.own_many (by omega) (fun b=>by unfold mor;show 0+_+_≤30000;split <;> omega) h6 n4 (by unfold mor;simp) i4 r4 (by rw [now4];omega)
 have eu:(owB3.up ((6:Nat):Int)).ups d.v 2=((owB3.up 6).up 4).up 5:=by
  show (if d.v 1=0 then (if d.v 0=0 then _ else _) else Bs.up (if d.v 0=0 then _ else _) _)=_
  rw [d0,d1,if_neg (by decide),if_neg (by decide)];rfl
 have e5:(owB3.up ((6:Nat):Int)).own2 6 d=ow5_ (blkF 1) (blkF 2) (pageF true 2 (kOf [(1,4),(2,5)]) (vOf [(1,4),(2,5)])):=by
  unfold Bs.own2 Bs.own1
  rw [now4,if_pos (by omega),dn,eu];rfl
 have a7:((owB3.up ((6:Nat):Int)).own2 6 d).at_=7:=by rw [e5];exact ow_at5 _ _ _
 have eb:((owB3.up ((6:Nat):Int)).own2 6 d).put d.pg=owB6 d:=by rw [e5];rfl
 rw [a7,eb] at ow
 refine ⟨d,ht,ht2,_,{ g3:=g3,n3:=hd,i3:=i3,g4:=g4,n4:=n4,i4:=i4,o4:=o4,e6:=?_,g6:=ow.gr,top:=⟨(ow.kp.tree 6 0 h6 (by unfold les mor;simp)).1,ow.top⟩,pos:=?_,n6:=⟨?_,ow.node⟩,r6:=by have:=ow.room;rw [u6] at this;omega,e7:=?_ }⟩
 ·unfold ownP
  rw [if_neg (fun q=>by have:=i4.symm.trans q;cases this)]
  exact Prod.ext a7 eb
 ·funext b
  unfold mor les
  by_cases e:b=6
  ·subst e;rfl
  ·simp [e]
 ·exact (nodeI_of (ow_n6 _ _ _ _) (ow_read6 _ _ _ _)).trans hd
 ·rw [dn]
  show (if d.v 1=0 then (if d.v 0=0 then _ else _) else Bs.down (if d.v 0=0 then _ else _) _)=_
  rw [d0,d1,if_neg (by decide),if_neg (by decide)];rfl
theorem own_now4 {C:Bs} {d:Nd} (h7:C.T.now 7=1) (h4:C.T.now 4=1) (hd:C.down ((7:Nat):Int)=C.counted (C.T.set 7 (C.T.now 7 - 1)) 7):((C.own2 7 d).put d.pg).T.now 4=1:=by
 show (if 4=(C.own2 7 d).at_ then 1 else (C.own2 7 d).T.now 4)=1
 by_cases e:4=(C.own2 7 d).at_
 ·rw [if_pos e]
 ·rw [if_neg e]
  unfold Bs.own2 Bs.own1
  rw [h7,if_neg (by omega),hd]
  show (if 4=7 then C.T.now 7 - 1 else C.T.now 4)=1
  rw [if_neg (by omega),h4]
structure AwEnd (d:Nd):Prop where
 good:Good 40 1 (owB7 d)
 node:(owB7 d).commit.nodeI ((7:Nat):Int)=some d
 n:(owB7 d).commit.T.n=40
 ok:(owB7 d).commit.isI ((7:Nat):Int)=false→OwnOk (owB7 d).commit 7 d
 ne:(ownP (owB7 d).commit 7 d).1≠7
 lt:(ownP (owB7 d).commit 7 d).1<40
 is:(ownP (owB7 d).commit 7 d).2.isI ((ownP (owB7 d).commit 7 d).1:Int)=true
 c4:getV (ownP (owB7 d).commit 7 d).2.T 4=1
 c7:getV (ownP (owB7 d).commit 7 d).2.T 7=0
theorem aw14_end {d:Nd} {ht ht2 ht7:Ht} {p2:Nat→Nat} (A:Aw14 d ht ht2 p2) (l:Less 40 1 (owB6 d) ht2 p2 6 (owB7 d) ht7):AwEnd d:=by
 have cm:=l.gr.good.commit_ (by omega)
 obtain ⟨g8,hk⟩:=l.gr.commit cm
 have h7:ht7 7=some 0:=(l.kp.tree 7 0 A.top.2 (by rw [A.pos];unfold les mor;simp)).1
 have hp7:les p2 6 7=1:=by rw [A.pos];unfold les mor;simp
 have n7:(owB6 d).nodeI ((7:Nat):Int)=some d:=A.n6.2
 have hl7:=ow_live7 (blkF 1) (blkF 2) (pageF true 2 (kOf [(1,4),(2,5)]) (vOf [(1,4),(2,5)])) d.pg
 have hw7:=ow_now7 (blkF 1) (blkF 2) (pageF true 2 (kOf [(1,4),(2,5)]) (vOf [(1,4),(2,5)])) d.pg
 have now7:(owB7 d).commit.T.now 7=1:=(cm.now 7 hl7.2).trans hw7.2.2.2
 have now4:(owB7 d).commit.T.now 4=1:=(cm.now 4 hl7.1).trans hw7.1
 have hi:(owB7 d).commit.isI ((7:Nat):Int)=false:=by
  cases hq:(owB7 d).commit.isI ((7:Nat):Int) with
  | false=>rfl
  | true =>
   have:=(Bs.isI_iff hq).2.2.1
   rw [Int.toNat_natCast,cm.fr 7 (by omega)] at this
   cases this
 have hr:0<(owB7 d).commit.room:=by
  have h1:=l.room
  have h2:=A.r6
  have h3:=l.gr.good.room
  have h4:=cm.good.room
  rw [cm.waits,cnt_congr (q:=(owB7 d).live) (fun b _=>cm.live b)] at h4
  omega
 obtain ⟨d',hd',hok,ht8,o⟩:=g8.own (x:=7) (by omega) (fun b=>by rw [A.pos];unfold les mor;show 0+_+_ - _≤30000;split <;> split <;> omega) h7 (by omega) hr
 have hnd:(owB7 d).commit.nodeI ((7:Nat):Int)=some d:=by
  rw [hk 7 0 h7,nodeI_of (B:=owB6 d) (B':=owB7 d) (ow_n7 _ _ _ _) (x:=7) (ow_read7 _ _ _ _)]
  exact n7
 obtain rfl:d'=d:=Option.some.inj (hd'.symm.trans hnd)
 obtain ⟨m1,m2⟩:=o.move hi
 refine ⟨l.gr.good,hnd,by rw [g8.good.n],hok,m1,(o.gr.lt o.top).1,o.is,?_,?_⟩
 ·rw [show (4:Int)=((4:Nat):Int) from rfl,o.gr.getV (by omega)]
  have:(ownP (owB7 d').commit 7 d').2.T.now 4=1:=by
   unfold ownP
   rw [hi]
   exact own_now4 now7 now4 ((downs_eq g8.good (x:=7) (by omega) (g8.lt h7).2).2)
  rw [this];rfl
 ·rw [show (7:Int)=((7:Nat):Int) from rfl,o.gr.getV (by omega),m2 now7];rfl
end Go.Proofs.YtkhcaclndepgbaaGreat
