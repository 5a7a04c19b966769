/- Layer 13's statements: Build: the walk. -/
import Derived.Test.YtegpiomkmfhadaaGreatZo24
set_option linter.all false
set_option maxRecDepth 100000
set_option maxHeartbeats 20000000
namespace Go.Proofs.YtegpiomkmfhadaaGreat
open Go.RowKit
variable {x base n nb j N G k i nk nv m:Nat} {w W wr w1 BV E6:World} {v kv vv Nr Nu k0 v0:Value} {leaf:Bool} {g items l:zL} {B:Bs} {xk xv:List Value} {bs:List (Nat × Value)} {M:Bm} {F:List Nat}
def YJ (n:Nat) (f:zF):List Value:=(List.range n).map fun i => .int .u64 (f i:Int)
theorem OS (h:x<4096):wrap64 (x:Int)=(x:Int)/\IntKind.i64.wrap (x:Int)=(x:Int) :=
 ⟨IntWalk.wrap64_in _ zo,yv _ zo⟩
theorem bP (n:Nat) (f:zF):YJ (n+1) f=YJ n f++[.int .u64 (f n:Int)]:=by simp [YJ,zn]
theorem XZ:(Tryz.prog.info? 23).map (fun i=>(i.zero,i.size,i.bytes))=some (some (.int .u64 0),1,8):=zab
theorem bQ {A:List Nat} {f:zF} (h:w.ownsRow base 23 1 v n (YJ n f)) (hf:∀ i,i<n->f i<18446744073709551616) (hA:∀ g,v.ownBlock=some g->g∉A):zT A w v n f:=by
 obtain ⟨a,c,rfl,h1,h2⟩:=XI h;by_cases h0:n=0
 ·subst h0
  rcases h.2 with ⟨e,_⟩ | ⟨g,cap,BV,e,_,hg,r1,r2,r3,r4⟩
  ·injection e with e1 e2 e3
   subst e1;exact .inl ⟨⟨none,c,rfl,h2,fun _=>e3⟩,rfl⟩
  ·injection e with e1 e2 e3
   subst e1;exact .inl ⟨⟨_,c,rfl,h2,fun q=>by cases q⟩,rfl⟩
 ·obtain ⟨g,c',e,r1,r2,r3,r4,r5⟩:=aE h zo
  injection e with e1 e2 e3;subst e1;refine .inr ⟨g,0,c,rfl,h1,h2,r4,hA g rfl,fun i hi=>⟨?_,hf i hi⟩⟩;rw [yn,r5 i zo];unfold YJ;rw [yT,za hi];rfl
structure wM (W wr:World) (nb:Nat) (leaf:Bool) (g:zL) (j:Nat) (kv vv:Value):Prop where
 c:zv [] W wr
 box:wr.heap[nb]?=some (.cells #[.bool leaf,kv,vv] 42 (0,0))/\W.heap.size<=nb
 k:wr.ownsRow W.heap.size 23 1 kv j (YJ j (xZ g))
 v:wr.ownsRow W.heap.size 23 1 vv j (YJ j (qv g))
 ne:∀ q,kv.ownBlock=some q->vv.ownBlock≠some q
 far:(∀ q,kv.ownBlock=some q->q≠nb)/\(∀ q,vv.ownBlock=some q->q≠nb)
theorem wM.more {wz:World} {L:List Nat} (h:wM W wr nb leaf g j kv vv) (hc:zv L wr wz) (hL:∀ q,q∈L->W.heap.size<=q) (hb:wz.heap[nb]?=some (.cells #[.bool leaf,Nr,Nu] 42 (0,0)))
  (hk:wz.ownsRow W.heap.size 23 1 Nr (j+1) (YJ j (xZ g)++[.int .u64 (xZ g j:Int)])) (hv:wz.ownsRow W.heap.size 23 1 Nu (j+1) (YJ j (qv g)++[.int .u64 (qv g j:Int)])) (hn:∀ q,Nr.ownBlock=some q->Nu.ownBlock≠some q) (hf:(∀ q,Nr.ownBlock=some q->q≠nb)/\(∀ q,Nu.ownBlock=some q->q≠nb)):wM W wz nb leaf g (j+1) Nr Nu :=
 { c:=h.c.then hc (fun q hq => .inr (hL q hq)),box:=⟨hb,h.box.2⟩,k:=by rw [bP];exact hk,v:=by rw [bP];exact hv,ne:=hn,far:=hf }
theorem BI.lvl (I:BI N G k items l B) (hM:N<=4096):∀ i,i<=zw l.length->qy N G (xp (decide (k=0)) l B i).1/\(xp (decide (k=0)) l B i).1.room=B.room - i:=by
 intro i hi;rcases I.lv with ⟨rfl,rfl,ha,hu⟩ | ⟨h,rfl,DI,R⟩
 ·have:=VB I.good I.len ha hu (least:=1) (fun i hi=>(ZI I.len hi).2.1) I.many i hi
  exact ⟨this.1,this.2.1⟩
 ·have:=Jc I.good hM I.len R (least:=1) (fun i hi=>(ZI I.len hi).2.1) I.many (A:=fun v=>zR B h (v:Int)) (fun j _=>rfl) i hi
  exact ⟨this.1,this.2.1⟩
theorem BI.grp_right (I:BI N G k items l B) (hM:N<=4096) (hi:i<zw l.length) :
  zV (decide (k=0)) (grp l (zw l.length) i).length (grp l (zw l.length) i).length (xZ (grp l (zw l.length) i)) (qv (grp l (zw l.length) i))=true:=by
 obtain ⟨b1,b2,b3⟩:=ZI I.len hi;have hq:0<zw l.length:=zo;have ha:=I.asc.1.grp (zw l.length) i;have:=Oe (m:=l.length) hq (show i+1<=zw l.length by omega);have:=Xv (l:=l) hq hi;rcases I.lv with ⟨rfl,rfl,-,-⟩ | ⟨h,rfl,DI,R⟩
 ·unfold zV
  rw [yq b1,yq rfl,(Ya _ _).2 ha.to];rfl
 ·unfold zV
  have:=I.good.n
  have hk:ZN (qv (grp l (zw l.length) i)) (grp l (zw l.length) i).length=true:=(qs _ _).2 ⟨b2,fun j hj=>by
   rw [(Qh hq hi hj).2];have:=R.val (Yt l.length (zw l.length) i+j) zo
   exact ⟨zo,zo⟩,fun a b Cq hb=>by
   rw [(Qh hq hi hb).2,(Qh hq hi (show a<_ by omega)).2];exact R.apart _ _ zo zo⟩
  rw [yq b1,yq rfl,(Ya _ _).2 ha.to,hk];rfl
structure GS (base:Nat) (w1 BV:World) (k0 v0 kv vv:Value) (nk nv:Nat) (xk xv:List Value) (bs:List (Nat × Value)):Prop where
 c:zv (qm k0++qm v0) w1 BV
 k:BV.ownsRow base 23 1 kv nk xk
 v:BV.ownsRow base 23 1 vv nv xv
 kn:∀ q,kv.ownBlock=some q->k0.ownBlock=some q∨w1.heap.size<=q
 vn:∀ q,vv.ownBlock=some q->v0.ownBlock=some q∨w1.heap.size<=q
 ne:∀ q,kv.ownBlock=some q->vv.ownBlock≠some q
 b:∀ p,p∈bs->BV.heap[p.1]?=some (.cells #[p.2] 23 (0,0))/\w1.heap.size<=p.1/\kv.ownBlock≠some p.1/\vv.ownBlock≠some p.1
theorem GS.new (h:GS base w1 BV k0 v0 kv vv nk nv xk xv bs) (x:Value) :
  GS base w1 (BV.alloc (.cells #[x] 23)) k0 v0 kv vv nk nv xk xv ((BV.heap.size,x)::bs):=by
 have c1:zv [] BV (BV.alloc (.cells #[x] 23)):=(zv.refl [] BV).alloc _;refine { c:=h.c.alloc _,k:=Xg h.k c1 zaa,v:=Xg h.v c1 zaa,kn:=h.kn,vn:=h.vn,ne:=h.ne,b:=fun p hp=>?_ };rcases ya.1 hp with rfl | hp
 ·exact ⟨xo BV _,h.c.size,fun e=>by have:=(h.k.lt _ e).2;omega,fun e=>by have:=(h.v.lt _ e).2;omega⟩
 ·obtain ⟨b1,b2,b3,b4⟩:=h.b p hp
  exact ⟨c1.kp b1,b2,b3,b4⟩
theorem GS.ak {xk':List Value} (h:GS base w1 BV k0 v0 kv vv nk nv xk xv bs) (ho:E6.ownsRow base 23 1 Nr m xk') (hg:BV.grownBy E6 kv.ownBlock) (hb:Nr.ownBlock=kv.ownBlock∨Nr.ownBlock=some BV.heap.size) :
  GS base w1 E6 k0 v0 Nr vv m nv xk' xv bs:=by
 have c1:zv (qm kv) BV E6:=(zv.refl (qm kv) BV).grown hg (fun q hq => .inl (Xj.2 hq));refine { c:=h.c.then c1 (fun q hq=>?_),k:=ho,v:=Xg h.v c1 (fun q hq hm=>h.ne q (Xj.1 hm) hq),kn:=fun q hq=>?_,vn:=h.vn,ne:=fun q hq hv=>?_,b:=fun p hp=>?_ }
 ·rcases h.kn q (Xj.1 hq) with e | e
  ·exact .inl (zal _ (Xj.2 e))
  ·exact .inr e
 ·rcases hb with e | e
  ·exact h.kn q (e▸hq)
  ·rw [e] at hq;cases hq;exact .inr h.c.size
 ·rcases hb with e | e
  ·exact h.ne q (e▸hq) hv
  ·rw [e] at hq;cases hq;have:=(h.v.lt _ hv).2;omega
 ·obtain ⟨b1,b2,b3,b4⟩:=h.b p hp
  refine ⟨(c1.block _ (zz b1) (fun hm=>b3 (Xj.1 hm))).trans b1,b2,fun e=>?_,b4⟩;rcases hb with q | q
  ·exact b3 (q▸e)
  ·rw [q] at e;have:=zz b1;injection e with e;omega
theorem GS.swap (h:GS base w1 BV k0 v0 kv vv nk nv xk xv bs):GS base w1 BV v0 k0 vv kv nv nk xv xk bs :=
 { c:=h.c.mono (fun q hq=>by rw [yx] at hq ⊢;exact hq.symm),k:=h.v,v:=h.k,kn:=h.vn,vn:=h.kn,ne:=fun q a b=>h.ne q b a,b:=fun p hp=>by obtain ⟨b1,b2,b3,b4⟩:=h.b p hp;exact ⟨b1,b2,b4,b3⟩ }
theorem GS.av {xv':List Value} (h:GS base w1 BV k0 v0 kv vv nk nv xk xv bs) (ho:E6.ownsRow base 23 1 Nu m xv') (hg:BV.grownBy E6 vv.ownBlock) (hb:Nu.ownBlock=vv.ownBlock∨Nu.ownBlock=some BV.heap.size) :
  GS base w1 E6 k0 v0 kv Nu nk m xk xv' bs:=(h.swap.ak ho hg hb).swap
theorem GS.src (h:GS base w1 BV k0 v0 kv vv nk nv xk xv bs) {b:Nat} {x:Value} (hm:(b,x)∈bs) (h1:x.oneCell'=true):xQ BV 1 (zS b 1 1) 1 [x] :=
 xQ.blk (h.b _ hm).1 rfl (fun u hu=>by simp at hu;subst hu;exact h1)
theorem jz {w4 w5:World} {s s':Value} (hb:zx w4 M (qm s++F) B) (hg:w4.grownBy w5 s.ownBlock) (ho:s'.ownBlock=s.ownBlock∨s'.ownBlock=some w4.heap.size):zx w5 M (qm s'++F) B:=by
 have WB:zv (qm s) w4 w5:=(zv.refl (qm s) w4).grown hg (fun q hq => .inl (Xj.2 hq));have Fr:=(hb.new (xd _)).chg WB (fun x hx=>zco _ (zal _ hx));refine Fr.sub fun x hx=>?_;rcases yx.1 hx with hx | hx
 ·rcases ho with e | e
  ·exact zco _ (zal _ (Xj.2 (e▸Xj.1 hx)))
  ·have:=Xj.1 hx
   rw [e] at this;injection this with this;rw [<- this];exact yJ ..
 ·exact zco _ (zar _ hx)
theorem eP : xp leaf l B (i+1)=((xp leaf l B i).1.put (xg leaf (grp l (zw l.length) i).length (xZ (grp l (zw l.length) i)) (qv (grp l (zw l.length) i))),(xp leaf l B i).2++[(xZ l (Yt l.length (zw l.length) i),(xp leaf l B i).1.at_)]):=rfl
noncomputable def ZJ:Nat->Nat->List (Nat × Nat)->Bs->Bs × Nat
 | 0,_,_,B=>(B,0)
 | f+1,k,l,B=>if zw l.length=1 then ((xp (decide (k=0)) l B 1).1,qv (xp (decide (k=0)) l B 1).2 0) else ZJ f (k+1) (xp (decide (k=0)) l B (zw l.length)).2 (xp (decide (k=0)) l B (zw l.length)).1
theorem eQ (hk:k<=3) (h:zw l.length=1):ZJ (8 - k) k l B=((xp (decide (k=0)) l B 1).1,qv (xp (decide (k=0)) l B 1).2 0):=by
 rw [show 8 - k=(7 - k)+1 by omega,ZJ,if_pos h]
theorem eV (hk:k<=3) (h:zw l.length≠1):ZJ (8 - k) k l B=ZJ (8 - (k+1)) (k+1) (xp (decide (k=0)) l B (zw l.length)).2 (xp (decide (k=0)) l B (zw l.length)).1:=by
 rw [show 8 - k=(8 - (k+1))+1 by omega,ZJ,if_neg h]
theorem wM.step {WF:World} {y:Nat} {kz vz:Value} (h:wM W wr nb leaf g j k0 v0) (c1:zv [] wr w1)
  (hs:GS W.heap.size w1 WF k0 v0 kz vz (j+1) (j+1) (YJ j (xZ g)++[.int .u64 (x:Int)]) (YJ j (qv g)++[.int .u64 (y:Int)]) bs) (hx:x=xZ g j) (hy:y=qv g j)
  (hb:((WF.setCell ⟨nb,1,none⟩ kz).setCell ⟨nb,2,none⟩ vz).heap[nb]?=some (.cells #[.bool leaf,kz,vz] 42 (0,0))):wM W ((WF.setCell ⟨nb,1,none⟩ kz).setCell ⟨nb,2,none⟩ vz) nb leaf g (j+1) kz vz:=by
 have hz:zv [nb] WF ((WF.setCell ⟨nb,1,none⟩ kz).setCell ⟨nb,2,none⟩ vz):=((zv.refl [nb] WF).setCell (.inl zaa) _).setCell (.inl zaa) _;have:nb<w1.heap.size:=qe (zz h.box.1) c1.size
 have fk:∀ q,kz.ownBlock=some q->q≠nb:=fun q hq=>by
  rcases hs.kn q hq with e | e
  ·exact h.far.1 q e
  ·omega
 have fv:∀ q,vz.ownBlock=some q->q≠nb:=fun q hq=>by
  rcases hs.vn q hq with e | e
  ·exact h.far.2 q e
  ·omega
 refine h.more (L:=nb::(qm k0++qm v0)) (((c1.mo).trans (hs.c.mono (fun q hq=>zco _ hq))).trans (hz.mo)) (fun q hq=>?_) hb ?_ ?_ hs.ne ⟨fk,fv⟩
 ·rcases ya.1 hq with rfl | hq
  ·exact h.box.2
  ·rcases yx.1 hq with hq | hq
   ·exact (h.k.lt q (Xj.1 hq)).1
   ·exact (h.v.lt q (Xj.1 hq)).1
 ·rw [<- hx];exact Xg hs.k hz (fun q hq hm=>fk q hq (by simpa using hm))
 ·rw [<- hy];exact Xg hs.v hz (fun q hq hm=>fv q hq (by simpa using hm))
theorem lT (hb:zx w M F B) (hF:∀ q,q∈F->q<w.heap.size) (hI:BI N 1 0 items items B) (hM:N<=4096) (DN:xU M.L w v items) (E8:items.length<=200) :
  zC 30 #[zP M.b,v] w fun e w'=>∃ (x h:Nat) (B':Bs),e = .returned (.tuple #[.int .i64 (x:Int),.bool true])/\zx w' M F B'/\qy N 1 B'/\Zl B' (x:Int) h items/\h<8/\eH items.length=h+1/\zv M.L w w'/\(B',x)=ZJ 8 0 items B:=by
 obtain ⟨a,c,rfl,B5,BW⟩:=DN.len;have Dj:=hI.len;have HH:=zh (BH.start Dj);have HB:=zh hb;have MU:=zh hF;have HI:=zh hI;have Lm:=zh DN;have FA:=zh (fun q hq=>hb.ltL hq:∀ q,q∈M.L->q<w.heap.size);obtain ⟨m0,KB⟩:=zE items.length;rw [<- KB] at HH B5 Dj E8 ⊢;replace Lm:Hd (xU M.L w (.slice a m0 c) items):=zh (by rw [KB];exact Lm);have RL:=zh KB;obtain ⟨R0,L9⟩:=zE (ZJ 8 0 items B);rw [<- L9];have HR0:=zh L9;clear L9;clear hb hF hI DN KB;have hz:((m0:Int)==0)=false:=by simp;omega
 go_enter Tryz.func30,Tryz.ntmps30;go_wp2_with fail;go_loopg [1,6] m0 (fun gg s1 s6 wr=>∃ (k:Nat) (l:zL) (B:Bs),gg=l.length/\s6 = .int .i64 (k:Int)/\Hd (xU M.L wr s1 l/\BI N 1 k items l B/\BH k l.length m0/\zx wr M F B/\zv M.L w wr/\R0=ZJ (8 - k) k l B))
 case atStart=>exact ⟨0,items,B,RL.o,rfl,zh ⟨Lm.o,HI.o,by rw [<- RL.o];exact HH.o,HB.o,zv.refl _ _,HR0⟩⟩
 case round =>
  obtain ⟨k,l,B,DM,rfl,H⟩:=hrel;obtain ⟨a,c,rfl,B5,BW⟩:=H.1.len;have Dj:=H.2.1.len;have Eu:k<=3:=H.2.2.1.small Dj E8;obtain ⟨b1,b2,b3,b4⟩:=Yn Dj
  have Mt:l.length<=200:=by
   have h1:=H.2.2.1.pw;have h2:1*l.length<=4 ^ k*l.length:=Nat.mul_le_mul_right _ (Nat.pow_pos zo);omega
  have hl1':=Dj;obtain ⟨m,hm⟩:=zE l.length;obtain ⟨q,hq⟩:=zE (zw l.length);have HQ:=zh (zA hm hq);rw [<- hm] at B5 Dj Mt ⊢;have WP:((m:Int)+7 - 1) / 7=(q:Int):=by rw [hq,hm];unfold zw;omega
  rw [<- hq] at b1 b2 b3 b4;rw [<- hm] at b2 b3 b4;have IP:=zh DM;clear hm hq DM;go_wp2_with fail;rw [WP];clear WP;obtain ⟨wo,rfl⟩:=zE wr;go_loopg [8,26] q (fun gg s8 s26 wx=>∃ i:Nat,gg=q - i/\i<=q/\s26 = .int .i64 (i:Int)/\Hd (wx.ownsRow wo.heap.size 78 2 s8 i (qp (xp (decide (k=0)) l B i).2)/\zx wx M (qm s8++F) (xp (decide (k=0)) l B i).1/\zv M.L wo wx))
  case atStart=>exact ⟨0,rfl,yg _,rfl,zh ⟨yO _ _ _ _,H.2.2.2.1,zv.refl _ _⟩⟩
  case round =>
   obtain ⟨i,Dw,hi,rfl,HU⟩:=hrel;have FK:=zh Dw;clear Dw;by_cases SG:i<q
   ·have i1:(i:Int)<(q:Int):=zo
    have Pf:0<q:=zo
    have Wr:Yt m q i<Yt m q (i+1)/\Yt m q (i+1)<=m:=by
     have h1:=JR hl1' (i:=i) zaB;rw [<- HQ.2,<- HQ.1] at h1;exact ⟨h1.1,Oe Pf SG⟩
    obtain ⟨lo,ED⟩:=zE (Yt m q i);obtain ⟨Mm,NW⟩:=zE (Yt m q (i+1));rw [<- ED,<- NW] at Wr;obtain ⟨al,Cr⟩:=Wr;have e1:((i:Int)*(m:Int)) / (q:Int)=(lo:Int):=by rw [ED];unfold Yt;simp
    have e2:(((i:Int)+1)*(m:Int)) / (q:Int)=(Mm:Int):=by rw [NW];unfold Yt;simp
    have Lo:=zh (zA ED NW);clear ED NW
    have EE:((i:Int)*(m:Int))<=40000/\0<=((i:Int)*(m:Int)):=by
     have:i*m<=200*200:=Nat.mul_le_mul zo Mt;rw [<- Int.natCast_mul];omega
    have Fy:(((i:Int)+1)*(m:Int))<=40200/\0<=(((i:Int)+1)*(m:Int)):=by
     have:(i+1)*m<=201*200:=Nat.mul_le_mul zo Mt;have e:(((i:Int)+1)*(m:Int))=(((i+1)*m:Nat):Int):=zaa
     rw [e];omega
    have e3:IntKind.i64.wrap ((i:Int)*(m:Int))=(i:Int)*(m:Int):=yv _ zo;have e4:IntKind.i64.wrap (((i:Int)+1)*(m:Int))=((i:Int)+1)*(m:Int):=yv _ zo;obtain ⟨ib,io,rfl,Kb,hibM,_,_⟩:=H.1.get (i:=0) (by rw [<- HQ.1];omega);have Eo:¬ c=lo:=zo
    obtain ⟨lf,hlf⟩:=zE (decide (k=0));have hkz:((k:Int)==0)=lf:=by rw [hlf,Bool.eq_iff_iff];simp
    have EO:=zh hlf;clear hlf;go_upto_region 11 with fail
    go_region
    have Cn:zv [] wr (wr.alloc (.cells #[.bool lf,.slice none 0 0,.slice none 0 0] 42)).drew:=((zv.refl [] wr).alloc (.cells #[.bool lf,.slice none 0 0,.slice none 0 0] 42)).drew;have Cx:(wr.alloc (.cells #[.bool lf,.slice none 0 0,.slice none 0 0] 42)).drew.heap[wr.heap.size]?=some (.cells #[.bool lf,.slice none 0 0,.slice none 0 0] 42 (0,0)):=xo wr (.cells #[.bool lf,.slice none 0 0,.slice none 0 0] 42);generalize (wr.alloc (.cells #[.bool lf,.slice none 0 0,.slice none 0 0] 42)).drew=W1 at Cn Cx ⊢;obtain ⟨nb,Cv⟩:=zE wr.heap.size;rw [<- Cv] at Cx ⊢;obtain ⟨gn,Gq⟩:=zE (Mm - lo);rw [<- Gq];obtain ⟨g,hg⟩:=zE (grp l (zw l.length) i)
    have EQ:g.length=gn:=by
     rw [hg,Xv (by rw [<- HQ.2];omega) zaB,Gq,Lo.1,Lo.2,<- HQ.2,<- HQ.1]
    have It:∀ j,j<gn->xZ g j=xZ l (lo+j)/\qv g j=qv l (lo+j):=fun j hj=>by
     have:=Qh (l:=l) (q:=zw l.length) (i:=i) (j:=j) (by rw [<- HQ.2];omega) zaB (by rw [<- hg,EQ];exact hj);rw [<- hg,<- HQ.2,<- HQ.1,<- Lo.1] at this;exact this
    have Gy:=zh (zA Cv (zA Gq (zA hg (zA EQ It))));have HG0:Hd (wM wr W1 nb lf g 0 (.slice none 0 0) (.slice none 0 0)):=zh ⟨Cn,⟨Cx,by rw [Cv];exact xd _⟩,yO _ _ _ _,yO _ _ _ _,fun q h=>(by cases h),⟨fun q h=>(by cases h),fun q h=>(by cases h)⟩⟩;have hgn1:1<=gn/\gn<=m:=zo
    clear Cn Cx Cv Gq hg EQ It;obtain ⟨wx,rfl⟩:=zE wr;go_wp2_with fail;rw [e1,e2];clear e1 e2 e3 e4 EE Fy;go_loopg [48] gn (fun gg s48 wy=>∃ (j:Nat) (kv vv:Value),gg=gn - j/\j<=gn/\s48 = .int .i64 (j:Int)/\Hd (wM wx wy nb lf g j kv vv))
    case atStart=>exact ⟨0,_,_,rfl,yg _,rfl,HG0⟩
    case round =>
     obtain ⟨j,kv,vv,It,hj,rfl,HG⟩:=hrel;have KJ:=zh It;clear It;by_cases Ga:j<gn
     ·have i2:(j:Int)<(gn:Int):=zo
      obtain ⟨ib',io',e,hib',_,c0,c1⟩:=((H.1.chg HU.2.2 (fun k hk => .inl hk)).chg HG.c).get (i:=lo+j) (by rw [<- HQ.1];have:=Gy.2.1;omega);injection e with e;injection e with e e' _;subst e;subst e';rw [show io+(lo+j)*2=io+lo*2+j*2 by omega] at c0 c1;obtain ⟨x,hx⟩:=zE (xZ l (lo+j));obtain ⟨y,hy⟩:=zE (qv l (lo+j));have c0':wr.cell? ⟨ib,io+lo*2+j*2,none⟩=some (.int .u64 (x:Int)):=by rw [hx];exact c0
      have c1':wr.cell? ⟨ib,io+lo*2+j*2+1,none⟩=some (.int .u64 (y:Int)):=by rw [hy];exact c1
      have G0:=zh (zA hx hy);clear c0 c1 hx hy;go_upto_region 14 with fail;obtain ⟨ka,kc,rfl,kb1,kb2⟩:=XI HG.k;obtain ⟨Tp,Ns,rfl,vb1,vb2⟩:=XI HG.v;obtain ⟨LL,hLL⟩:=zE (qm (.slice ka j kc)++qm (.slice Tp j Ns));have IQ:=zh hLL;clear hLL;have EI:=(zv.refl [] wr).alloc (.cells #[.int .u64 (x:Int),.int .u64 (y:Int)] 78);have GL:=xo wr (.cells #[.int .u64 (x:Int),.int .u64 (y:Int)] 78);generalize wr.alloc (.cells #[.int .u64 (x:Int),.int .u64 (y:Int)] 78)=w1 at EI GL ⊢;obtain ⟨xb,C5⟩:=zE wr.heap.size;rw [<- C5] at GL ⊢;have Sd:=(EI.block nb (zz HG.box.1) zaa).trans HG.box.1
      have Ny:Hd (∀ wz,zv (qm (.slice ka j kc)++qm (.slice Tp j Ns)) w1 wz->wz.heap[nb]?=some (.cells #[.bool lf,.slice ka j kc,.slice Tp j Ns] 42 (0,0))):=zh fun wz hz=>by
       refine (hz.block nb (zz Sd) (fun hm=>?_)).trans Sd;rcases yx.1 hm with hm | hm
       ·exact HG.far.1 nb (Xj.1 hm) rfl
       ·exact HG.far.2 nb (Xj.1 hm) rfl
      have HQQ:Hd (∀ wz,zv LL w1 wz->wz.cell? ⟨nb,1,none⟩=some (.slice ka j kc)/\wz.cell? ⟨nb,2,none⟩=some (.slice Tp j Ns)/\wz.cell? ⟨xb,0,none⟩=some (.int .u64 (x:Int))/\wz.cell? ⟨xb,1,none⟩=some (.int .u64 (y:Int))):=zh fun wz hz=>by
       rw [IQ.o] at hz;have b1:=Ny wz hz
       have b2:=(hz.block xb (zz GL) (fun hm=>by
        rcases yx.1 hm with hm | hm
        ·have:=(HG.k.lt _ (Xj.1 hm)).2;omega
        ·have:=(HG.v.lt _ (Xj.1 hm)).2;omega)).trans GL
       exact ⟨(zM b1 1).trans rfl,(zM b1 2).trans rfl,(zM b2 0).trans rfl,(zM b2 1).trans rfl⟩
      have RP:Hd (GS wx.heap.size w1 w1.drew (.slice ka j kc) (.slice Tp j Ns) (.slice ka j kc) (.slice Tp j Ns) j j (YJ j (xZ g)) (YJ j (qv g)) []):=zh { c:=(zv.refl _ w1).drew,k:=Xg HG.k EI.drew zaa,v:=Xg HG.v EI.drew zaa,kn:=fun q h => .inl h,vn:=fun q h => .inl h,ne:=HG.ne,b:=fun p hp=>(by cases hp) };have M0:=zh (qh HG.c.size EI.size);have Py:=zh EI;have TD:Hd (x=xZ g j/\y=qv g j):=zh (by have:=Gy.2.2.2.2 j Ga;rw [this.1,this.2];exact G0);clear EI C5 GL Sd;refine JA [13,15] (fun wz=>zv LL w1 wz) zab (by rw [IQ.o];exact RP.c) fun BS=>?_;generalize w1.drew=W0 at RP BS ⊢;refine gR 0 fun BS=>?_;refine zu ?_
      refine gR 2 fun BS=>?_;refine zu ?_;refine gR 6 fun BS=>?_;refine zu ?_;refine gR 8 fun BS=>?_;refine zu ?_;refine Ay 1 (fun BS=>?_) (hy:=by intro w I4;obtain ⟨q1,q2,q3,q4⟩:=HQQ.o w I4;go_simp;first | done | with_reducible rfl);refine zu ?_;refine Ay 3 (fun BS=>?_) (hy:=by intro w I4;obtain ⟨q1,q2,q3,q4⟩:=HQQ.o w I4;go_simp;first | done | with_reducible rfl);refine zu ?_;refine Ay 7 (fun BS=>?_) (hy:=by intro w I4;obtain ⟨q1,q2,q3,q4⟩:=HQQ.o w I4;go_simp;first | done | with_reducible rfl);refine zu ?_;refine Ay 9 (fun BS=>?_) (hy:=by intro w I4;obtain ⟨q1,q2,q3,q4⟩:=HQQ.o w I4;go_simp;first | done | with_reducible rfl);refine zu ?_;refine BD [4,10] ?_;refine BE (fun K hK=>?_) ?_
      ·(go_simp;have Lq:=zh (RP.new (.int .u64 (x:Int)));generalize W0.alloc (.cells #[.int .u64 (x:Int)] 23)=W1 at *)
       refine hK.out _ _ (fun _ _=>by rw [IQ.o];exact Lq.c) fun BS=>?_;clear hK K;refine zu ?_;refine BD [5,10] ?_;refine BE (fun K hK=>?_) ?_
       ·(refine YD rfl (.tmp 53) (.tmp 56) 40 rfl rfl (base:=wx.heap.size) (size:=1) (n:=j) (m:=1) (xv := zS W0.heap.size 1 1) (xs:=YJ j (xZ g)) (news:=[.int .u64 (x:Int)]) Tryz.underlying40 XZ rfl zo zo zag zag Lq.k (Lq.src zaa rfl) zo (qh M0 Lq.c.size) ?_;intro z W2 BT EU Dh;obtain ⟨LQ,Rw,rfl,_,_⟩:=XI BT;have Kt:=zh (Lq.ak BT EU Dh);clear BT EU Dh)
        refine hK.out _ _ (fun _ _=>by rw [IQ.o];exact Kt.c) fun BS=>?_;clear hK K;refine zu ?_;refine gR 12 fun BS=>?_;refine zu ?_;refine lS 10 (fun K hK=>?_)
        (go_simp;have Ie:=zh (Kt.new (.int .u64 (y:Int)));generalize W2.alloc (.cells #[.int .u64 (y:Int)] 23)=W3 at *)
        refine hK.out _ _ (fun _ _=>by rw [IQ.o];exact Ie.c) fun BS=>?_;clear hK K;refine zu ?_;refine lS 11 (fun K hK=>?_)
        (refine YD rfl (.tmp 59) (.tmp 62) 40 rfl rfl (base:=wx.heap.size) (size:=1) (n:=j) (m:=1) (xv := zS W2.heap.size 1 1) (xs:=YJ j (qv g)) (news:=[.int .u64 (y:Int)]) Tryz.underlying40 XZ rfl zo zo zag zag Ie.v (Ie.src zaa rfl) zo (qh M0 Ie.c.size) ?_;intro z WF BT EU Dh;obtain ⟨Rz,Nt,rfl,_,_⟩:=XI BT;have HF:=zh (Ie.av BT EU Dh);clear BT EU Dh)
        refine hK.out _ _ (fun _ _=>by rw [IQ.o];exact HF.c) fun BS=>?_;clear hK K;refine zu ?_;have b1:=Ny _ HF.c;have f1:=xB b1 1;have q1:=(zM b1 1).trans rfl;refine lS 13 (fun K hK=>?_)
        (go_simp)
        refine hK.out _ _ (fun h=>absurd h zaf) fun BS=>?_;clear hK K;refine zu ?_;have b2:=Yh b1 1 (.slice LQ (j+1) Rw);have f2:=xB b2 2;have q2:=(zM b2 2).trans rfl;refine gR 14 fun BS=>?_;refine zu ?_
        refine lS 15 (fun K hK=>?_)
        (go_simp)
        refine hK.out _ _ (fun h=>absurd h zaf) fun BS=>?_;clear hK K;refine zu ?_;have b3:=Yh b2 2 (.slice Rz (j+1) Nt);refine Xw zab ?_ _;have HM:=zh (HG.step Py HF TD.1 TD.2 b3);clear b1 f1 q1 b2 f2 q2 b3;generalize (WF.setCell ⟨nb,1,none⟩ (.slice LQ (j+1) Rw)).setCell ⟨nb,2,none⟩ (.slice Rz (j+1) Nt)=WG at HM ⊢;go_wp2_with fail;go_roundg (gn - (j+1))
        case measure=>have:=KJ.o;omega
        case rel=>exact ⟨j+1,_,_,rfl,Ga,zac,HM⟩
       refine BG (fun K hK=>?_)
       ·(go_simp;have Kt:=zh (Lq.new (.int .u64 (y:Int)));generalize W1.alloc (.cells #[.int .u64 (y:Int)] 23)=W2 at *)
        refine hK.out _ _ (fun _ _=>by rw [IQ.o];exact Kt.c) fun BS=>?_;clear hK K;refine zu ?_;refine lS 5 (fun K hK=>?_)
        (refine YD rfl (.tmp 53) (.tmp 56) 40 rfl rfl (base:=wx.heap.size) (size:=1) (n:=j) (m:=1) (xv := zS W0.heap.size 1 1) (xs:=YJ j (xZ g)) (news:=[.int .u64 (x:Int)]) Tryz.underlying40 XZ rfl zo zo zag zag Kt.k (Kt.src zaa rfl) zo (qh M0 Kt.c.size) ?_;intro z W3 BT EU Dh;obtain ⟨LQ,Rw,rfl,_,_⟩:=XI BT;have Ie:=zh (Kt.ak BT EU Dh);clear BT EU Dh)
        refine hK.out _ _ (fun _ _=>by rw [IQ.o];exact Ie.c) fun BS=>?_;clear hK K;refine zu ?_;refine gR 12 fun BS=>?_;refine zu ?_;refine lS 11 (fun K hK=>?_)
        (refine YD rfl (.tmp 59) (.tmp 62) 40 rfl rfl (base:=wx.heap.size) (size:=1) (n:=j) (m:=1) (xv := zS W1.heap.size 1 1) (xs:=YJ j (qv g)) (news:=[.int .u64 (y:Int)]) Tryz.underlying40 XZ rfl zo zo zag zag Ie.v (Ie.src zaa rfl) zo (qh M0 Ie.c.size) ?_;intro z WF BT EU Dh;obtain ⟨Rz,Nt,rfl,_,_⟩:=XI BT;have HF:=zh (Ie.av BT EU Dh);clear BT EU Dh)
        refine hK.out _ _ (fun _ _=>by rw [IQ.o];exact HF.c) fun BS=>?_;clear hK K;refine zu ?_;have b1:=Ny _ HF.c;have f1:=xB b1 1;have q1:=(zM b1 1).trans rfl;refine lS 13 (fun K hK=>?_)
        (go_simp)
        refine hK.out _ _ (fun h=>absurd h zaf) fun BS=>?_;clear hK K;refine zu ?_;have b2:=Yh b1 1 (.slice LQ (j+1) Rw);have f2:=xB b2 2;have q2:=(zM b2 2).trans rfl;refine gR 14 fun BS=>?_;refine zu ?_
        refine lS 15 (fun K hK=>?_)
        (go_simp)
        refine hK.out _ _ (fun h=>absurd h zaf) fun BS=>?_;clear hK K;refine zu ?_;have b3:=Yh b2 2 (.slice Rz (j+1) Nt);refine Xw zab ?_ _;have HM:=zh (HG.step Py HF TD.1 TD.2 b3);clear b1 f1 q1 b2 f2 q2 b3;generalize (WF.setCell ⟨nb,1,none⟩ (.slice LQ (j+1) Rw)).setCell ⟨nb,2,none⟩ (.slice Rz (j+1) Nt)=WG at HM ⊢;go_wp2_with fail;go_roundg (gn - (j+1))
        case measure=>have:=KJ.o;omega
        case rel=>exact ⟨j+1,_,_,rfl,Ga,zac,HM⟩
      refine BG (fun K hK=>?_)
      ·(go_simp;have Lq:=zh (RP.new (.int .u64 (y:Int)));generalize W0.alloc (.cells #[.int .u64 (y:Int)] 23)=W1 at *)
       refine hK.out _ _ (fun _ _=>by rw [IQ.o];exact Lq.c) fun BS=>?_;clear hK K;refine zu ?_;refine lS 4 (fun K hK=>?_)
       (go_simp;have Kt:=zh (Lq.new (.int .u64 (x:Int)));generalize W1.alloc (.cells #[.int .u64 (x:Int)] 23)=W2 at *)
       refine hK.out _ _ (fun _ _=>by rw [IQ.o];exact Kt.c) fun BS=>?_;clear hK K;refine zu ?_;refine lS 5 (fun K hK=>?_)
       (refine YD rfl (.tmp 53) (.tmp 56) 40 rfl rfl (base:=wx.heap.size) (size:=1) (n:=j) (m:=1) (xv := zS W1.heap.size 1 1) (xs:=YJ j (xZ g)) (news:=[.int .u64 (x:Int)]) Tryz.underlying40 XZ rfl zo zo zag zag Kt.k (Kt.src zaa rfl) zo (qh M0 Kt.c.size) ?_;intro z W3 BT EU Dh;obtain ⟨LQ,Rw,rfl,_,_⟩:=XI BT;have Ie:=zh (Kt.ak BT EU Dh);clear BT EU Dh)
       refine hK.out _ _ (fun _ _=>by rw [IQ.o];exact Ie.c) fun BS=>?_;clear hK K;refine zu ?_;refine gR 12 fun BS=>?_;refine zu ?_;refine lS 11 (fun K hK=>?_)
       (refine YD rfl (.tmp 59) (.tmp 62) 40 rfl rfl (base:=wx.heap.size) (size:=1) (n:=j) (m:=1) (xv := zS W0.heap.size 1 1) (xs:=YJ j (qv g)) (news:=[.int .u64 (y:Int)]) Tryz.underlying40 XZ rfl zo zo zag zag Ie.v (Ie.src zaa rfl) zo (qh M0 Ie.c.size) ?_;intro z WF BT EU Dh;obtain ⟨Rz,Nt,rfl,_,_⟩:=XI BT;have HF:=zh (Ie.av BT EU Dh);clear BT EU Dh)
       refine hK.out _ _ (fun _ _=>by rw [IQ.o];exact HF.c) fun BS=>?_;clear hK K;refine zu ?_;have b1:=Ny _ HF.c;have f1:=xB b1 1;have q1:=(zM b1 1).trans rfl;refine lS 13 (fun K hK=>?_)
       (go_simp)
       refine hK.out _ _ (fun h=>absurd h zaf) fun BS=>?_;clear hK K;refine zu ?_;have b2:=Yh b1 1 (.slice LQ (j+1) Rw);have f2:=xB b2 2;have q2:=(zM b2 2).trans rfl;refine gR 14 fun BS=>?_;refine zu ?_
       refine lS 15 (fun K hK=>?_)
       (go_simp)
       refine hK.out _ _ (fun h=>absurd h zaf) fun BS=>?_;clear hK K;refine zu ?_;have b3:=Yh b2 2 (.slice Rz (j+1) Nt);refine Xw zab ?_ _;have HM:=zh (HG.step Py HF TD.1 TD.2 b3);clear b1 f1 q1 b2 f2 q2 b3;generalize (WF.setCell ⟨nb,1,none⟩ (.slice LQ (j+1) Rw)).setCell ⟨nb,2,none⟩ (.slice Rz (j+1) Nt)=WG at HM ⊢;go_wp2_with fail;go_roundg (gn - (j+1))
       case measure=>have:=KJ.o;omega
       case rel=>exact ⟨j+1,_,_,rfl,Ga,zac,HM⟩
     ·obtain rfl:j=gn:=zo
      have i2:¬ (j:Int)<(j:Int):=zo;obtain ⟨ka,kc,rfl,kb1,kb2⟩:=XI HG.k;obtain ⟨Tp,Ns,rfl,vb1,vb2⟩:=XI HG.v;have IF:=(H.2.1.asc.2.grp (zw l.length) i);rw [<- Gy.2.2.1] at IF;have SM:=bQ (A:=[]) HG.k (fun i _=>(IF.getD i).1) (fun _ _=>by simp);have KC:=bQ (A:=[]) HG.v (fun i _=>(IF.getD i).2) (fun _ _=>by simp);have Nl:=H.2.1.grp_right hM (i:=i) zaB;rw [<- Gy.2.2.1,Gy.2.2.2.1,<- EO.o] at Nl;obtain ⟨Eg,Er⟩:=H.2.1.lvl hM i (by rw [<- HQ.2];exact hi);have hmq:=H.2.1.many;rw [<- HQ.2] at hmq
      have BY:∀ z,z∈qm u8++F->z<wr.heap.size:=fun z hz=>by
       rcases yx.1 hz with hz | hz
       ·exact qe (HU.1.lt z (Xj.1 hz)).2 HG.c.size
       ·exact qe (MU z hz) (qh H.2.2.2.2.1.size (qh HU.2.2.size HG.c.size))
      have cP:=tj (HU.2.1.chg HG.c) BY (by rw [Er];omega) SM KC Nl;have CP:=zh cP;have b1:=HG.box.1;obtain ⟨z0,z1,z2⟩:=Za b1;have HAT:=zh (Eg.put_ (by rw [Er];omega) (ap lf (g:=g) (by have h1:=(ZI H.2.1.len (i:=i) zaB).1;rw [<- Gy.2.2.1] at h1;exact h1)));clear IF SM KC Nl Eg Er BY cP b1 hmq;go_wp2_with fail;refine CP.mono ?_;clear CP z0 z1 z2;rintro e w2 ⟨rfl,Cr,BW⟩;obtain ⟨r,hr⟩:=zE (xp (decide (k=0)) l B i);have DT:=HAT.o;rw [<- hr] at Cr DT ⊢;obtain ⟨Ls,So⟩:=zE r.1.at_;rw [<- So] at DT ⊢;have hat2:Ls<4096:=zq DT.2.2.2.1
      have e7:=(OS hat2).2;have e8:IntKind.u64.wrap (Ls:Int)=(Ls:Int):=IntWalk.u64_in _ zo;have BU:∀ z,w.heap.size<=z->z∉M.L:=fun z hz hm=>by have:=FA z hm;omega
      have hsw:w.heap.size<=wo.heap.size/\wo.heap.size<=wx.heap.size:=⟨H.2.2.2.2.1.size,HU.2.2.size⟩;have b1:=(BW.block nb (zz HG.box.1) (BU nb (zq HG.box.2))).trans HG.box.1;have z1:=(zM b1 1).trans rfl;obtain ⟨kg,kc',e9,_,_,Gs,Cy,La⟩:=aE HG.k zo;injection e9 with e9 _ e10;subst e9;subst e10;have z2:=(BW.cell (p:=⟨kg,0,none⟩) Cy (BU kg zo)).trans (La 0 zo)
      have UP:(YJ j (xZ g))[0]?=some (.int .u64 (xZ g 0:Int)):=by
       unfold YJ;rw [yT,za zo];rfl
      rw [UP] at z2;obtain ⟨k0,Fv⟩:=zE (xZ g 0);rw [<- Fv] at z2;have HR:=zh (zA hr (zA So Fv));have H2:=zh (zA Cr BW);have Fq:=zh (Xg (Xg HU.1 HG.c zaa) BW (fun q hq hm=>BU q (zq ((HU.1.lt q hq).1)) hm));clear hr So Fv Cr BW DT BU hsw b1 UP Gs Cy La;have FY:=xo w2 (.cells #[.int .u64 (k0:Int),.int .u64 (Ls:Int)] 78);have Cd:zv [] w2 (w2.alloc (.cells #[.int .u64 (k0:Int),.int .u64 (Ls:Int)] 78)):=(zv.refl [] w2).alloc _;have Ko:=Xg Fq Cd zaa;rw [<- HR.1] at Ko;have H4:=zh (zA Ko (zA FY (zA Cd (qh HU.2.2.size (qh HG.c.size (qh H2.2.size Cd.size))))));clear FY Cd Ko;go_wp2_with (at_builtin;refine x9 rfl _ _ 25 rfl rfl (base:=wo.heap.size) (size:=2) (n:=i) (m:=1) (xs:=qp r.2) (news:=[.int .u64 (k0:Int),.int .u64 (Ls:Int)]) Tryz.underlying25 Vt rfl zo zo rfl rfl H4.1 (xQ.blk H4.2.1 rfl (fun u hu=>by simp at hu;rcases hu with rfl | rfl <;> rfl)) zo H4.2.2.2 ?_;intro v' w5 Cf Dd Ec;have H5:=zh (zA Cf (zA Dd Ec));clear Cf Dd Ec);have DD:=eP (leaf:=decide (k=0)) (l:=l) (B:=B) (i:=i);rw [<- Gy.2.2.1,Gy.2.2.2.1,<- HQ.2,<- HQ.1,<- Lo.1,<- HR.1,<- EO.o] at DD
      have Fv:xZ l lo=k0:=by
       have h1:=(Gy.2.2.2.2 0 zo).1;rw [Nat.add_zero] at h1;rw [HR.2.2,h1]
      rw [Fv,<- HR.2.1] at DD;go_roundg (q - (i+1))
      case measure=>have:=FK.o;omega
      case rel =>
       refine ⟨i+1,rfl,SG,zac,zh ?_⟩;rw [<- EO.o,DD];refine ⟨?_,jz (H2.1.chg H4.2.2.1) H5.2.1 H5.2.2,?_⟩
       ·rw [ZC];exact H5.1
       ·refine ((((HU.2.2.trans (HG.c.mo)).trans H2.2).trans (H4.2.2.1.mo))).grown H5.2.1 (fun z hz => .inr (HU.1.lt z hz).1)
   ·obtain rfl:i=q:=zo
    have i1:¬ (i:Int)<(i:Int):=zo
    have Gt:(xp (decide (k=0)) l B i).2.length=i:=by
     have:=HU.1.1;rw [ZB] at this;omega
    have MA:∀ g,g∈qm u8->g∉M.L:=fun g hg hm=>by
     have h1:=(HU.1.lt g (Xj.1 hg)).1;have h2:=FA g hm;have h3:=H.2.2.2.2.1.size;omega
    by_cases Le:i=1
    ·subst Le
     have hq5:zw l.length=1:=HQ.2.symm;obtain ⟨ls1,ls2,ls3⟩:=H.2.1.last hM hq5;have hBH:=H.2.2.1.last H.2.1.len hq5 E8;have FE:=H.2.2.2.2.2.trans (eQ Eu hq5);generalize xp (decide (k=0)) l B 1=r at HU Gt ls1 ls2 ls3 FE ⊢;obtain ⟨g,cg,rfl,z1,z2,z3,z4,z5⟩:=aE HU.1 zo;have Mm:=(QM r.2 0 (by rw [Gt];omega)).2;rw [show 0*2+1=1 from rfl] at Mm;have hx:=(z5 1 zo).trans Mm;obtain ⟨x,GW⟩:=zE (qv r.2 0);have Rv:wr.cell? ⟨g,1,none⟩=some (.int .u64 (x:Int)):=by rw [GW];unfold qv;exact hx
     clear Mm;rw [<- GW] at ls2 FE;have C5:=(XW ls2.right).2.1;rw [ls1.n] at C5
     have HE:Hd (zx wr M F r.1/\qy N 1 r.1/\Zl r.1 (x:Int) k items/\eH m0=k+1/\zv M.L w wr/\(r.1,x)=R0):=zh
      ⟨HU.2.1.sub (fun y hy=>zar _ hy),ls1,ls2,hBH,H.2.2.2.2.1.trans HU.2.2,FE.symm⟩
     have IJ:x<4096:=qe (Int.ofNat_lt.1 C5) hM;obtain ⟨e5,e6⟩:=OS IJ;have hk8:k<8:=zo
     clear ls1 ls2 ls3 hx GW FE C5 z1 z2 z3 z4 z5 MA Gt hBH;go_wp2_with fail;refine bodyPost_ret (v := .tuple #[.int .i64 (x:Int),.bool true]) (by simp [results,Tryz.results30,go_sem,e6]) rfl ⟨x,rfl,k,_,HE.1,HE.2.1,HE.2.2.1,hk8,HE.2.2.2.1,HE.2.2.2.2.1,HE.2.2.2.2.2⟩
    ·have MI:((i:Int)==1)=false:=by simp;omega
     have hq3:2<=i:=zo;have hq4:2<=zw l.length:=by rw [<- HQ.2];exact hq3
     have Fi:=H.2.1.next hM hq4;rw [<- HQ.2] at Fi
     have Gg:Hd (xU M.L wr u8 (xp (decide (k=0)) l B i).2/\BI N 1 (k+1) items (xp (decide (k=0)) l B i).2 (xp (decide (k=0)) l B i).1/\BH (k+1) (xp (decide (k=0)) l B i).2.length m0/\zx wr M F (xp (decide (k=0)) l B i).1/\zv M.L w wr/\R0=ZJ (8 - (k+1)) (k+1) (xp (decide (k=0)) l B i).2 (xp (decide (k=0)) l B i).1):=zh
      ⟨xU.of_own (by rw [Gt];exact HU.1) Fi.asc.2 (fun g hg=>MA g (Xj.2 hg)),Fi,by rw [Gt,HQ.2];exact H.2.2.1.next hq4 E8,HU.2.1.sub (fun x hx=>zar _ hx),H.2.2.2.2.1.trans HU.2.2,by rw [HQ.2];exact H.2.2.2.2.2.trans (eV Eu zo)⟩
     obtain ⟨va,vc,rfl,EZ,Ge⟩:=XI HU.1;clear Fi MA;go_wp2_with fail;go_roundg i
     case measure=>have h1:=IP.o;have h2:=HQ.1;omega
     case rel=>exact ⟨k+1,_,_,Gt.symm,zac,Gg⟩
def Bs.ups (B:Bs) (v:zF):Nat->Bs
 | 0=>B
 | i+1=>if v i=0 then B.ups v i else (B.ups v i).up (v i:Int)
theorem vF (h:zx w M F B) (hF:∀ q,q∈F->q<w.heap.size) {vk:Value} {keys vals:zF} (hk:zT M.L w vk nk keys) (hv:zT M.L w vv n vals)
  (hn:n<=1000) (hb:∀ i,i<n->vals i<4096) (hup:∀ i,i<n->vals i≠0->(B.ups vals i).upE (vals i:Int)=0) :
  zC 207 #[zP M.b,.agg #[.bool leaf,vk,vv]] w fun e w'=>e = .returned (.int .i64 0)/\zx w' M F (B.ups vals n)/\zv M.L w w':=by
 have c0:=(zv.refl [] w).alloc (.cells #[.bool leaf,vk,vv] 42);have k0:=xo w (.cells #[.bool leaf,vk,vv] 42);have HV:=zh (hv.chg c0);have HB:=zh (zA (h.chg c0) (zA hF (zA c0 (zA hb hup))));obtain ⟨ak,ck,rfl⟩:=hk.len;obtain ⟨av,cv,rfl,cv1,cv2⟩:=hv.cap;have hs:=zz k0;have x2:(w.alloc (.cells #[.bool leaf,.slice ak nk ck,.slice av n cv] 42)).cell? ⟨w.heap.size,2,none⟩=some (.slice av n cv):=(zM k0 2).trans rfl;clear h hF hk hv c0 k0 hb hup;go_enter Tryz.func207,Tryz.ntmps207;go_wp2_with (refine qJ rfl 42 (.tmp 1) rfl (cells:=#[.bool leaf,.slice ak nk ck,.slice av n cv]) rfl ?_);clear x2;obtain ⟨W,hW⟩:=zE (w.alloc (.cells #[.bool leaf,.slice ak nk ck,.slice av n cv] 42));rw [<- hW] at HV HB hs ⊢;clear hW;go_loopg [5,16] n (fun gg s5 s16 wr=>∃ (j m:Nat) (xs:List Value),gg=n - j/\j<=n/\m<=j/\s16 = .int .i64 (j:Int)/\Hd (wr.ownsRow W.heap.size 3 1 s5 m xs/\zx wr M (qm s5++F) (B.ups vals j)/\zv M.L W wr))
 case atStart=>exact ⟨0,0,[],rfl,yg _,xd _,rfl,zh ⟨yO _ _ _ _,HB.1,zv.refl _ _⟩⟩
 case round =>
  obtain ⟨j,m,xs,DM,hj,hm,rfl,H⟩:=hrel;have IP:=zh DM;clear DM;by_cases Ga:j<n
  ·have i1:(j:Int)<(n:Int):=zo
   obtain ⟨va,vc,rfl,EZ,Ge⟩:=XI H.1;obtain ⟨b,o,rfl,FE,hbM,Gj⟩:=(HV.chg H.2.2 (fun q hq => .inl hq)).get Ga;obtain ⟨Ef,B5⟩:=Gj j Ga;clear Gj;have h4:=HB.2.2.2.1 j Ga;have TH:=bJ (vals j) h4 wr;have HU:=zh (HB.2.2.2.2 j Ga);obtain ⟨x,hx⟩:=zE (vals j);rw [<- hx] at Ef TH HU h4;have HX:=zh hx;clear hx B5;by_cases LM:x=0
   ·subst LM
    have Cn:zC 40 #[.int .u64 0] wr fun e w'=>e = .returned (.tuple #[.int .i64 0,.bool false])/\wr=w':=TH;clear TH;go_wp2_with fail;refine Cn.mono ?_;clear Cn;rintro e w' ⟨rfl,rfl⟩;go_wp2_with fail;go_roundg (n - (j+1))
    case measure=>have:=IP.o;omega
    case rel=>exact ⟨j+1,m,xs,rfl,Ga,zo,zac,zh ⟨H.1,by unfold Bs.ups;rw [if_pos HX.symm];exact H.2.1,H.2.2⟩⟩
   ·rw [yq LM] at TH
    have BY:∀ z,z∈qm (.slice va m vc)++F->z<wr.heap.size:=fun z hz=>by
     rcases yx.1 hz with hz | hz
     ·exact (H.1.lt z (Xj.1 hz)).2
     ·exact qe (HB.2.1 z hz) (qh HB.2.2.1.size H.2.2.size)
    have cu:=lE H.2.1 BY (x:Int);rw [HU.o LM] at cu;have CU:=zh cu;clear cu BY;go_wp2_with fail;refine TH.mono ?_;clear TH;rintro e w' ⟨rfl,rfl⟩;go_wp2_with fail;refine CU.mono ?_;clear CU;rintro e w2 ⟨rfl,Cr,BW⟩
    have Rc:∀ q,W.heap.size<=q->q∉M.L:=fun q hq hm=>by
     have:=HB.1.ltL hm;omega
    have HO:=zh (Xg H.1 BW (fun q hq hm=>Rc q (H.1.lt q hq).1 hm));have H2:=zh (zA Cr BW);clear Cr BW Rc;have FY:=xo w2 (.cells #[.int .i64 (x:Int)] 3);have Cd:zv [] w2 (w2.alloc (.cells #[.int .i64 (x:Int)] 3)):=(zv.refl [] w2).alloc _;have Ko:=Xg HO Cd zaa;have H4:=zh (zA Ko (zA FY (zA Cd (qh H.2.2.size (qh H2.2.size Cd.size)))));clear FY Cd Ko;go_wp2_with (at_builtin;refine x9 rfl _ _ 32 rfl rfl (base:=W.heap.size) (size:=1) (n:=m) (m:=1) (xs:=xs) (news:=[.int .i64 (x:Int)]) Tryz.underlying32 YH rfl zo zo rfl rfl H4.1 (xQ.blk H4.2.1 rfl (fun u hu=>by simp at hu;rcases hu with rfl;rfl)) zo H4.2.2.2 ?_;intro v' w5 Cf Dd Ec;have H5:=zh (zA Cf (zA Dd Ec));clear Cf Dd Ec);go_roundg (n - (j+1))
    case measure=>have:=IP.o;omega
    case rel =>
     refine ⟨j+1,m+1,_,rfl,Ga,zo,zac,zh ⟨H5.1,?_,?_⟩⟩
     ·have Fr:=jz (H2.1.chg H4.2.2.1) H5.2.1 H5.2.2
      unfold Bs.ups;rw [<- HX.o,if_neg LM];exact Fr
     ·exact ((H.2.2.trans H2.2).trans (H4.2.2.1.mo)).grown H5.2.1 (fun z hz => .inr (H.1.lt z hz).1)
  ·obtain rfl:j=n:=zo
   have i1:¬ (j:Int)<(j:Int):=zo;have HE:=zh (zA (H.2.1.sub (fun y hy=>zar _ hy):zx wr M F _) ((HB.2.2.1.mo).trans H.2.2:zv M.L w wr));go_wp2_with fail;go_ret;exact ⟨rfl,HE⟩
end Go.Proofs.YtegpiomkmfhadaaGreat
