/- node.Join: one of two, or two that are -/
import Derived.Test.YtegpiomkmfhadaaGreatZo31
set_option linter.all false
set_option maxRecDepth 100000
set_option maxHeartbeats 20000000
namespace Go.Proofs.YtegpiomkmfhadaaGreat
open Go.RowKit
variable {w:World} {g n c i x z lo hi:Nat} {f:zF} {d:Nd} {B:Bs}
theorem zQ.src (h:zQ w g n f) (hn:n<=1000):JB w (zS g n n) n f:=⟨g,0,n,rfl,xd _,by unfold maxLen;omega,h.lt,h.nums⟩
def vO (w:World) (lf:Bool) (t:Nat) (K V:zF) (e:Ending) (w':World):Prop:=zv [] w w' /\
 ((t<=7/\∃ sb vk vv,e = .returned (.tuple #[zS sb 1 1,.int .i64 0])/\w.heap.size<=sb/\w'.heap[sb]?=some (.cells #[.bool lf,vk,vv] 42 (0,0))/\xP w.heap.size w' vk t K/\xP w.heap.size w' vv t V) ∨
 (7<t/\∃ k sb v1 v2 v3 v4,k=(t+1) / 2/\e = .returned (.tuple #[zS sb 2 2,.int .i64 0])/\w.heap.size<=sb/\w'.heap[sb]?=some (.cells #[.bool lf,v1,v2,.bool lf,v3,v4] 42 (0,0)) /\
  xP w.heap.size w' v1 k K/\xP w.heap.size w' v2 k V/\xP w.heap.size w' v3 (t - k) (fun j=>K (k+j))/\xP w.heap.size w' v4 (t - k) (fun j=>V (k+j))))
theorem px {k1 v1 k2 v2:Nat} {dl dr:Nd} (ol:dl.Ok) (or:dr.Ok) (Rx:zQ w k1 dl.n dl.k) (Ry:zQ w v1 dl.n dl.v) (Ug:zQ w k2 dr.n dr.k) (Uh:zQ w v2 dr.n dr.v) (hlf:dr.leaf=dl.leaf) (h1:0<dl.n) (h2:0<dr.n) (ha:dl.k (dl.n - 1)<dr.k 0) :
  zC 164 #[.agg #[.bool dl.leaf,zS k1 dl.n dl.n,zS v1 dl.n dl.n],.agg #[.bool dr.leaf,zS k2 dr.n dr.n,zS v2 dr.n dr.n]] w (vO w dl.leaf (dl.n+dr.n) (dl.cat dr).k (dl.cat dr).v):=by
 have n7:=ol.n;have m7:=or.n;have b0:=xo w (.cells #[.bool dl.leaf,zS k1 dl.n dl.n,zS v1 dl.n dl.n] 42);have d0:=(zv.refl [] w).alloc (.cells #[.bool dl.leaf,zS k1 dl.n dl.n,zS v1 dl.n dl.n] 42);have s1:(w.alloc (.cells #[.bool dl.leaf,zS k1 dl.n dl.n,zS v1 dl.n dl.n] 42)).heap.size=w.heap.size+1:=zD _ _;have b1:=xo (w.alloc (.cells #[.bool dl.leaf,zS k1 dl.n dl.n,zS v1 dl.n dl.n] 42)) (.cells #[.bool dr.leaf,zS k2 dr.n dr.n,zS v2 dr.n dr.n] 42);have d1:=d0.alloc (.cells #[.bool dr.leaf,zS k2 dr.n dr.n,zS v2 dr.n dr.n] 42);have b2:=(((zv.refl [] _).alloc (.cells #[.bool dr.leaf,zS k2 dr.n dr.n,zS v2 dr.n dr.n] 42)).block w.heap.size (zz b0) zaa).trans b0;rw [s1] at b1;obtain ⟨W,hW⟩:=zE ((w.alloc (.cells #[.bool dl.leaf,zS k1 dl.n dl.n,zS v1 dl.n dl.n] 42)).alloc (.cells #[.bool dr.leaf,zS k2 dr.n dr.n,zS v2 dr.n dr.n] 42));rw [<- hW] at b1 d1 b2;obtain ⟨t,ht⟩:=zE (dl.n+dr.n)
 have ck:∀ W1 b,zv [] W W1->W1.heap[b]?=some (.cells #[zS k1 dl.n dl.n,zS k2 dr.n dr.n] 40 (0,0))->zC 208 #[zS b 2 2] W1 fun e w'=>∃ g c,e = .returned (zS g t c)/\t<=c/\c<=maxLen/\W1.heap.size<=g/\zQ w' g t (dl.cat dr).k/\zv [] W1 w':=fun W1 b hc hb=>by
  refine (QS hb ((Rx.chg (d1.trans hc)).src zo) ((Ug.chg (d1.trans hc)).src zo) zo ol.k or.k).mono ?_;rintro e w' ⟨v,rfl,ho,BW⟩;rw [<- ht] at ho;obtain ⟨g,c,rfl,q⟩:=ho.row zo;exact ⟨g,c,rfl,q.1,q.2.1,q.2.2.1,q.2.2.2,BW⟩
 have cv:∀ W1 b,zv [] W W1->W1.heap[b]?=some (.cells #[zS v1 dl.n dl.n,zS v2 dr.n dr.n] 40 (0,0))->zC 208 #[zS b 2 2] W1 fun e w'=>∃ g c,e = .returned (zS g t c)/\t<=c/\c<=maxLen/\W1.heap.size<=g/\zQ w' g t (dl.cat dr).v/\zv [] W1 w':=fun W1 b hc hb=>by
  refine (QS hb ((Ry.chg (d1.trans hc)).src zo) ((Uh.chg (d1.trans hc)).src zo) zo ol.v or.v).mono ?_;rintro e w' ⟨v,rfl,ho,BW⟩;rw [<- ht] at ho;obtain ⟨g,c,rfl,q⟩:=ho.row zo;exact ⟨g,c,rfl,q.1,q.2.1,q.2.2.1,q.2.2.2,BW⟩
 have UN:∀ W1,zv [] W W1->zC 107 #[.agg #[.bool dl.leaf,zS k1 dl.n dl.n,zS v1 dl.n dl.n]] W1 fun e w'=>e = .returned (.bool true)/\zv [] W1 w':=fun W1 hc=>by
  have:=Xa (leaf:=dl.leaf) ((Rx.chg (d1.trans hc)).numsIn (A:=[]) zo zaa ol.k) ((Ry.chg (d1.trans hc)).numsIn (A:=[]) zo zaa ol.v);rwa [ol.rightN] at this
 have cr2:∀ W1,zv [] W W1->zC 107 #[.agg #[.bool dl.leaf,zS k2 dr.n dr.n,zS v2 dr.n dr.n]] W1 fun e w'=>e = .returned (.bool true)/\zv [] W1 w':=fun W1 hc=>by
  have:=Xa (leaf:=dr.leaf) ((Ug.chg (d1.trans hc)).numsIn (A:=[]) zo zaa or.k) ((Uh.chg (d1.trans hc)).numsIn (A:=[]) zo zaa or.v);rw [or.rightN] at this;rwa [hlf] at this
 have PY:(dl.cat dr).k (dl.n - 1)=dl.k (dl.n - 1):=if_pos zo
 have PZ:(dl.cat dr).k dl.n=dr.k 0:=by
  show (if dl.n<dl.n then dl.k dl.n else dr.k (dl.n - dl.n))=_
  rw [if_neg zo,Nat.sub_self]
 rw [<- PY,<- PZ] at ha;have HA:=zh ha;have CC:=zh (zA ck cv);have CR:=zh (zA UN cr2);rw [hlf] at b1;have HB:=zh (zA b2 (zA b1 (zA d1 s1)));have Sj:=hW;rw [hlf] at Sj;have HT:=zh ht;rw [<- ht];obtain ⟨K,hK⟩:=zE ((dl.cat dr).k);obtain ⟨V,hV⟩:=zE ((dl.cat dr).v);rw [<- hK,<- hV] at CC ⊢;rw [<- hK] at HA;obtain ⟨n,hn⟩:=zE dl.n;obtain ⟨m,hm⟩:=zE dr.n;obtain ⟨lf,Ke⟩:=zE dl.leaf;rw [hlf];rw [<- hn,<- hm] at CC CR HB;rw [<- hn] at HA h1;rw [<- hm] at h2;rw [<- hn] at n7;rw [<- hm] at m7;rw [<- hn,<- hm,<- Ke] at Sj ⊢;rw [<- Ke] at HB CR;have DI:=zz HB.1;have Dj:=zz HB.2.1;have hx:=HB.1;have hy:=HB.2.1;have Ub:n+m=t:=by rw [hn,hm];exact HT.symm
 have HTN:=zh Ub;have hs:=HB.o.2.2.1.size;obtain ⟨x0,x1,x2⟩:=Za hx;obtain ⟨y0,y1,y2⟩:=Za hy;clear b0 d0 b1 d1 b2 s1 ck cv UN cr2 Rx Ry Ug Uh hK hV hn hm Ke hW ha PY PZ hlf hx hy HT ht ol or;go_enter Tryz.func164,Tryz.ntmps164;go_upto_region 1 with fail;rw [<- Sj];clear Sj;refine wp_region_held_drew (S:=fun W'=>W'.cell? ⟨w.heap.size,1,none⟩=some (zS k1 n n)/\W'.cell? ⟨w.heap.size,2,none⟩=some (zS v1 n n)/\W'.cell? ⟨w.heap.size+1,1,none⟩=some (zS k2 m m)/\W'.cell? ⟨w.heap.size+1,2,none⟩=some (zS v2 m m)) zab (by exact ⟨x1,x2,y1,y2⟩) fun BS=>?_;refine wV 0 ?_ (hy:=by intro w' ⟨s0,s1,s2,s3⟩;go_simp;first | done | with_reducible rfl);refine zu ?_
 refine wV 1 ?_ (hy:=by intro w' ⟨s0,s1,s2,s3⟩;go_simp;first | done | with_reducible rfl);refine zu ?_;refine wV 2 ?_ (hy:=by intro w' ⟨s0,s1,s2,s3⟩;go_simp;first | done | with_reducible rfl);refine zu ?_;refine wV 3 ?_ (hy:=by intro w' ⟨s0,s1,s2,s3⟩;go_simp;first | done | with_reducible rfl);refine zu ?_;refine wV 6 ?_ (hy:=by intro w' ⟨s0,s1,s2,s3⟩;go_simp;first | done | with_reducible rfl);refine zu ?_;refine wV 7 ?_ (hy:=by intro w' ⟨s0,s1,s2,s3⟩;go_simp;first | done | with_reducible rfl);refine zu ?_;refine wV 8 ?_ (hy:=by intro w' ⟨s0,s1,s2,s3⟩;go_simp;first | done | with_reducible rfl);refine zu ?_;refine wV 9 ?_ (hy:=by intro w' ⟨s0,s1,s2,s3⟩;go_simp;first | done | with_reducible rfl);refine zu ?_;refine bW (fuel:=2) (H:=[4,5,10,11]) (deps:=fun | 5=>[4] | 11=>[10] | _=>[]) (C:=fun W1=>zv [] W W1) (R:=fun W1 W2=>zv [] W1 W2) (Post:=fun i v W1=>match i with | 4=>bX W1 v (zS k1 n n) (zS k2 m m) | 10=>bX W1 v (zS v1 n n) (zS v2 m m) | 5=>xP W.heap.size W1 v t K | _=>xP W.heap.size W1 v t V) zab zab zab (fun _ _ _ d _ h=>by cases d <;> exact h) (fun j v w1 w2 h=>by split <;> intro h1 <;> first | exact h1.chg h | exact h1.chg h) (fun W1 h=>⟨h.ce x1 DI,h.ce x2 DI,h.ce y1 Dj,h.ce y2 Dj⟩) ((zv.refl [] W).drew) ?_ ?_;refine qo.cons (o:=?_) ?_ (fun fv W1 hC hD K hK=>?_) ?_
 rotate_left 1
 ·(simp only [tA1,tA2,tA3];rfl)
 ·simp only [xa,qn,qg,Option.bind_some,tA1,tA2,tA3,Act.put,sA1,sA2,sA3]
  go_simp;exact hK.out _ _ ⟨zS _ 2 2,by first | rfl | (simp only [xa,qn,qg,Option.bind_some,tA1,tA2,tA3,Act.put,sA1,sA2,sA3] <;> simp only [*]),hC.alloc _,(zv.refl [] _).alloc _,⟨_,rfl,xo _ _⟩⟩
 refine qo.cons (o:=?_) ?_ (fun fv W1 hC hD K hK=>?_) ?_
 rotate_left 1
 ·(simp only [tA1,tA2,tA3];rfl)
 ·simp only [xa,qn,qg,Option.bind_some,tA1,tA2,tA3,Act.put,sA1,sA2,sA3]
  (obtain ⟨b,e1,hb⟩:=hD 4 (show 4∈[4] by simp);rw [e1];go_simp;refine (CC.1 _ b hC hb).mono ?_;rintro e W2 ⟨g,c,rfl,p1,p2,p3,p4,p5⟩)
  exact hK.out _ _ ⟨zS g t c,by first | rfl | (simp only [xa,qn,qg,Option.bind_some,tA1,tA2,tA3,Act.put,sA1,sA2,sA3] <;> simp only [*]),hC.trans p5,p5,⟨g,c,rfl,p1,p2,qh hC.size p3,p4⟩⟩
 refine qo.cons (o:=?_) ?_ (fun fv W1 hC hD K hK=>?_) ?_
 rotate_left 1
 ·(simp only [tA1,tA2,tA3];rfl)
 ·simp only [xa,qn,qg,Option.bind_some,tA1,tA2,tA3,Act.put,sA1,sA2,sA3]
  go_simp;exact hK.out _ _ ⟨zS _ 2 2,by first | rfl | (simp only [xa,qn,qg,Option.bind_some,tA1,tA2,tA3,Act.put,sA1,sA2,sA3] <;> simp only [*]),hC.alloc _,(zv.refl [] _).alloc _,⟨_,rfl,xo _ _⟩⟩
 refine qo.cons (o:=?_) ?_ (fun fv W1 hC hD K hK=>?_) ?_
 rotate_left 1
 ·(simp only [tA1,tA2,tA3];rfl)
 ·simp only [xa,qn,qg,Option.bind_some,tA1,tA2,tA3,Act.put,sA1,sA2,sA3]
  (obtain ⟨b,e1,hb⟩:=hD 10 (show 10∈[10] by simp);rw [e1];go_simp;refine (CC.2 _ b hC hb).mono ?_;rintro e W2 ⟨g,c,rfl,p1,p2,p3,p4,p5⟩)
  exact hK.out _ _ ⟨zS g t c,by first | rfl | (simp only [xa,qn,qg,Option.bind_some,tA1,tA2,tA3,Act.put,sA1,sA2,sA3] <;> simp only [*]),hC.trans p5,p5,⟨g,c,rfl,p1,p2,qh hC.size p3,p4⟩⟩
 ·exact qo.nil
 clear BS;intro F W1 hC BS hP;simp only [xa,bV,qn,qg,Option.bind_some,tA1,tA2,tA3,Act.put,sA1,sA2,sA3];obtain ⟨kg,kc,e5,a1,a2,a3,a4⟩:=hP 5 zaa;obtain ⟨vg,vc,UP,c1,c2,c3,c4⟩:=hP 11 zaa;rw [e5,UP];have H1:=zh (zA a1 (zA a2 (zA a3 (zA a4 (zA c1 (zA c2 (zA c3 (zA c4 hC))))))));clear hP e5 UP a1 a2 a3 a4 c1 c2 c3 c4 hC;refine wV 12 ?_ (hy:=by intro w' ⟨s0,s1,s2,s3⟩;go_simp;first | done | with_reducible rfl);refine zu ?_;refine wV 13 ?_ (hy:=by intro w' ⟨s0,s1,s2,s3⟩;go_simp;first | done | with_reducible rfl);refine zu ?_;refine wpAnyH_done zab ?_ _;clear x0 x1 x2 y0 y1 y2;have hx:=(H1.2.2.2.2.2.2.2.2.bl DI).trans HB.1;have hy:=(H1.2.2.2.2.2.2.2.2.bl Dj).trans HB.2.1;obtain ⟨x0,x1,x2⟩:=Za hx;obtain ⟨y0,y1,y2⟩:=Za hy;have Fv:0<t:=zo
 have z1:=H1.2.2.2.1.cell (i:=n - 1) zo;have z2:=H1.2.2.2.1.cell (i:=n) zo;clear hx hy;obtain ⟨a,ha⟩:=zE (K (n - 1));obtain ⟨b,hb⟩:=zE (K n);have Cq:a<b:=by rw [ha,hb];exact HA.o
 rw [<- ha] at z1;rw [<- hb] at z2;clear ha hb HA;obtain ⟨n1,Iz⟩:∃ n1,n=n1+1:=⟨n - 1,zo⟩;rw [show n - 1=n1 by omega] at z1;have e1:IntKind.i64.wrap ((n:Int) - 1)=(n1:Int):=by rw [show (n:Int) - 1=(n1:Int) by omega];exact yv _ zo
 have j1:(0:Int)<(n:Int):=zo;have j2:(n:Int)<(t:Int):=zo;have j3:(n1:Int)<(t:Int):=zo;have j4:decide (b<=a)=false:=yC zo;have j5:¬ (b:Int)<=(a:Int):=zo
 have j6:¬ b<=a:=zo;have j7:(lf != lf)=false:=zaa;clear Iz Cq;go_upto_region 3 with fail;refine wp_region_held_drew (S:=fun W'=>W'.cell? ⟨w.heap.size,0,none⟩=some (.bool lf)/\W'.cell? ⟨w.heap.size,1,none⟩=some (zS k1 n n)/\W'.cell? ⟨w.heap.size,2,none⟩=some (zS v1 n n)/\W'.cell? ⟨w.heap.size+1,0,none⟩=some (.bool lf)/\W'.cell? ⟨w.heap.size+1,1,none⟩=some (zS k2 m m)/\W'.cell? ⟨w.heap.size+1,2,none⟩=some (zS v2 m m)/\W'.cell? ⟨kg,n1,none⟩=some (.int .u64 (a:Int))/\W'.cell? ⟨kg,n,none⟩=some (.int .u64 (b:Int))) zab (by exact ⟨x0,x1,x2,y0,y1,y2,z1,z2⟩) fun BS=>?_;have hCw:=H1.2.2.2.2.2.2.2.2.drew;refine Qv 0 ?_;refine zu ?_
 refine wE 1 (fun K hK=>?_)
 (go_simp;refine (CR.1 _ hCw).mono ?_;rintro e W2 ⟨rfl,BW⟩;have BZ:=zh BW;have hk:=fun (p:Addr) v (h:W1.cell? p=some v)=>(BW.cell (p:=p) (yc _ _ h) zaa).trans h;clear BW)
 refine hK.out _ _ (⟨hk _ _ x0,hk _ _ x1,hk _ _ x2,hk _ _ y0,hk _ _ y1,hk _ _ y2,hk _ _ z1,hk _ _ z2⟩) fun BS=>?_;clear hK K;refine zu ?_;clear hk;refine Qv 2 ?_;refine zu ?_;refine Qv 3 ?_;refine zu ?_;refine Qv 4 ?_;refine zu ?_;refine wE 5 (fun K hK=>?_)
 (go_simp;refine (CR.2 _ (hCw.trans BZ)).mono ?_;rintro e W3 ⟨rfl,Ci⟩;have Cj:=zh (BZ.trans Ci);have hk:=fun (p:Addr) v (h:W1.cell? p=some v)=>(((BZ.trans Ci).cell (p:=p) (yc _ _ h) zaa).trans h);clear Ci)
 refine hK.out _ _ (⟨hk _ _ x0,hk _ _ x1,hk _ _ x2,hk _ _ y0,hk _ _ y1,hk _ _ y2,hk _ _ z1,hk _ _ z2⟩) fun BS=>?_;clear hK K;refine zu ?_;have LM:=hk _ _ x0;clear hk x0 x1 x2 y0 y1 y2 z1 z2;refine Qv 6 ?_;refine zu ?_;refine Qv 7 ?_;refine zu ?_;refine Qv 8 ?_;refine zu ?_;refine Qv 9 ?_;refine zu ?_;refine Qv 10 ?_;refine zu ?_;refine Qv 11 ?_;refine zu ?_;refine Qv 12 ?_;refine zu ?_;refine Qv 13 ?_;refine zu ?_;refine Qv 14 ?_;refine zu ?_;refine Qv 15 ?_;refine zu ?_;refine Qv 16 ?_;refine zu ?_;refine Qv 17 ?_;refine zu ?_;refine Qv 18 ?_;refine zu ?_;refine Qv 19 ?_;refine zu ?_;refine Qv 20 ?_;refine zu ?_;refine Qv 21 ?_;refine zu ?_;refine Qv 22 ?_;refine zu ?_;refine Qv 23 ?_;refine zu ?_;refine Qv 24 ?_;refine zu ?_;refine Qv 25 ?_;refine zu ?_;refine Qv 26 ?_;refine zu ?_;refine Qv 27 ?_;refine zu ?_;refine Qv 28 ?_;refine zu ?_;refine Qv 29 ?_;refine zu ?_;refine Qv 30 ?_;refine zu ?_;refine Qv 31 ?_;refine zu ?_;refine Qv 32 ?_;refine zu ?_;refine Qv 33 ?_;refine zu ?_;refine Qv 34 ?_;refine zu ?_;refine Qv 35 ?_;refine zu ?_;refine Qv 36 ?_;refine zu ?_;refine wpAnyH_done zab ?_ _;have H3:Hd (zv [] W W3):=zh (hCw.trans Cj);have Fj:=H1.2.2.2.1.chg ((zv.refl [] W1).drew.trans Cj);have Fk:=H1.2.2.2.2.2.2.2.1.chg ((zv.refl [] W1).drew.trans Cj);have HR:=zh (zA Fj Fk);clear Fj Fk hCw;by_cases h7:t<=7
 ·have i7:(t:Int)<=7:=zo
  have H7:=zh h7;clear h7;go_wp2_with fail
  go_ret2
  have hc:=H3.alloc (.cells #[.bool lf,zS kg t kc,zS vg t vc] 42);have hq:=(zv.refl [] W3).alloc (.cells #[.bool lf,zS kg t kc,zS vg t vc] 42);have hw:=HB.2.2.1.size;have hw3:=H3.size;exact ⟨HB.2.2.1.trans hc,.inl ⟨H7.o,_,_,_,rfl,zo,xo _ _,⟨kg,kc,rfl,H1.1,H1.2.1,qh hw H1.2.2.1,HR.1.chg hq⟩,⟨vg,vc,rfl,H1.2.2.2.2.1,H1.2.2.2.2.2.1,qh hw H1.2.2.2.2.2.2.1,HR.2.chg hq⟩⟩⟩
 ·have i7:¬ (t:Int)<=7:=zo
  have H7:=zh h7;have KP:Hd (∀ Y,zv [] W3 Y->Y.cell? ⟨w.heap.size,0,none⟩=some (.bool lf)):=zh fun Y hc=>(hc.cell (p:=⟨w.heap.size,0,none⟩) (yc _ _ LM) zaa).trans LM;obtain ⟨k,hk⟩:=zE ((t+1) / 2);have HK:=zh hk
  have CH:Hd (∀ Y,zv [] W3 Y->zC 210 #[.bool lf,zS kg t kc,zS vg t vc] Y fun e w'=>∃ v1 v2 v3 v4,e = .returned (.tuple #[.agg #[.bool lf,v1,v2],.agg #[.bool lf,v3,v4]]) /\
   xP Y.heap.size w' v1 k K/\xP Y.heap.size w' v2 k V/\xP Y.heap.size w' v3 (t - k) (fun j=>K (k+j))/\xP Y.heap.size w' v4 (t - k) (fun j=>V (k+j))/\zv [] Y w'):=zh fun Y hc=>pk (HR.1.chg hc) (HR.2.chg hc) zo zo H1.1 H1.2.2.2.2.1 H1.2.1 H1.2.2.2.2.2.1 hk
  clear h7 hk;go_wp2_with fail;refine (CH _ (zv.refl [] _)).mono ?_;rintro e X ⟨_,_,_,_,rfl,⟨g1,q1,rfl,r1⟩,⟨g2,q2,rfl,r2⟩,⟨g3,q3,rfl,r3⟩,⟨g4,q4,rfl,r4⟩,hc⟩;have HV:=zh (zA r1 (zA r2 (zA r3 r4)));have HX:=zh hc;clear r1 r2 r3 r4 hc;have y0:=xo X (.cells #[.bool lf,zS g1 k q1,zS g2 k q2] 42);have e0:=(zv.refl [] X).alloc (.cells #[.bool lf,zS g1 k q1,zS g2 k q2] 42);have f0:(X.alloc (.cells #[.bool lf,zS g1 k q1,zS g2 k q2] 42)).heap.size=X.heap.size+1:=zD _ _;have y1:=xo (X.alloc (.cells #[.bool lf,zS g1 k q1,zS g2 k q2] 42)) (.cells #[.bool lf,zS g3 (t - k) q3,zS g4 (t - k) q4] 42);have e1:=e0.alloc (.cells #[.bool lf,zS g3 (t - k) q3,zS g4 (t - k) q4] 42);have y2:=(((zv.refl [] _).alloc (.cells #[.bool lf,zS g3 (t - k) q3,zS g4 (t - k) q4] 42)).block X.heap.size (zz y0) zaa).trans y0;rw [f0] at y1;clear e0 f0 y0;go_upto_region 8 with fail;generalize (X.alloc (.cells #[.bool lf,zS g1 k q1,zS g2 k q2] 42)).alloc (.cells #[.bool lf,zS g3 (t - k) q3,zS g4 (t - k) q4] 42)=Y at y1 e1 y2 ⊢;obtain ⟨u0,u1,u2⟩:=Za y2;obtain ⟨r0,r1,r2⟩:=Za y1;have HY:=zh e1;have hl5:=zz y2;have hl6:=zz y1;clear e1 y1 y2;go_wp2_with fail
  go_ret2
  have hc:=(HX.trans HY).alloc (.cells #[.bool lf,zS g1 k q1,zS g2 k q2,.bool lf,zS g3 (t - k) q3,zS g4 (t - k) q4] 42);have hq:=HY.alloc (.cells #[.bool lf,zS g1 k q1,zS g2 k q2,.bool lf,zS g3 (t - k) q3,zS g4 (t - k) q4] 42);have hw:=HB.2.2.1.size;have hw3:=H3.size;have Nn:=(HX.trans HY).size;have fin:∀ {v:Value} {n:Nat} {F:zF},xP W3.heap.size X v n F->xP w.heap.size (Y.alloc (.cells #[.bool lf,zS g1 k q1,zS g2 k q2,.bool lf,zS g3 (t - k) q3,zS g4 (t - k) q4] 42)) v n F:=fun h=>(h.chg hq).base zo;exact ⟨(HB.2.2.1.trans H3).trans hc,.inr ⟨by have:=H7.o;omega,k,_,_,_,_,_,HK.o,rfl,zo,xo _ _,fin ⟨_,_,rfl,HV.1⟩,fin ⟨_,_,rfl,HV.2.1⟩,fin ⟨_,_,rfl,HV.2.2.1⟩,fin ⟨_,_,rfl,HV.2.2.2⟩⟩⟩
def OX (i:Nat):Nat:=if i=0 then 1 else i - 1
theorem fw {lf:Bool} {a a2:Option Addr} {c2:Nat} (hn:2<=n) (hi:i<100) (w:World) :
  zC 160 #[.agg #[.bool lf,.slice a n c,.slice a2 n c2],.int .i64 (i:Int)] w fun e w'=>e = .returned (.int .i64 (OX i:Int))/\zv [] w w':=by
 have hX:=xo w (.cells #[.bool lf,.slice a n c,.slice a2 n c2] 42);have hW:=zh ((zv.refl [] w).alloc (.cells #[.bool lf,.slice a n c,.slice a2 n c2] 42));have:(1:Int)<(n:Int):=zo
 obtain ⟨x0,x1,x2⟩:=Za hX;clear hX;obtain ⟨r,hr⟩:=zE (OX i);rw [<- hr];unfold OX at hr;go_enter Tryz.func160,Tryz.ntmps160;go_upto_region 1 with fail;generalize w.alloc (.cells #[.bool lf,.slice a n c,.slice a2 n c2] 42)=W at *;by_cases h0:i=0
 ·subst h0
  rw [if_pos rfl] at hr;subst hr;go_wp2_with fail;go_ret;exact ⟨rfl,hW⟩
 ·rw [if_neg h0] at hr
  obtain ⟨q,rfl⟩:∃ q,i=q+1:=⟨i - 1,zo⟩;obtain rfl:r=q:=zo;clear hr h0;have:(0:Int)<(r:Int)+1:=zo;have:IntKind.i64.wrap ((r:Int)+1 - 1)=(r:Int):=by rw [show (r:Int)+1 - 1=(r:Int) by omega];exact yv _ zo
  go_wp2_with fail;go_ret;exact ⟨rfl,hW⟩
structure tE (W wx:World) (bx kx vx:Nat) (d:Nd):Prop where
 c:zv [] W wx
 b:wx.heap[bx]?=some (.cells #[.bool d.leaf,zS kx d.n d.n,zS vx d.n d.n] 42 (0,0))
 k:zQ wx kx d.n d.k
 v:zQ wx vx d.n d.v
 l:W.heap.size<=bx/\W.heap.size<=kx/\W.heap.size<=vx
theorem zQ.ne {p:Nat} {cs:Array Value} {T:TypeId} (h:zQ w g n f) (hp:w.heap[p]?=some (.cells cs T (0,0))) (hT:23≠T):g≠p:=fun e=>by
 obtain ⟨BV,hb⟩:=h.blk;rw [e,hp] at hb;injection hb with hb;injection hb with _ hb;exact hT hb.symm
theorem jL {W X:World} {bx kx vx:Nat} (c:zv [] W X) (hb:X.heap[bx]?=some (.cells #[.bool false,.slice none 0 0,.slice none 0 0] 42 (0,0))) (rk:zQ X kx d.n d.k) (rv:zQ X vx d.n d.v) (l:W.heap.size<=bx/\W.heap.size<=kx/\W.heap.size<=vx) :
  tE W (((X.setCell ⟨bx,0,none⟩ (.bool d.leaf)).setCell ⟨bx,1,none⟩ (zS kx d.n d.n)).setCell ⟨bx,2,none⟩ (zS vx d.n d.n)) bx kx vx d :=
 ⟨c.tn (xn _ _ _ _ _) l.1,JP hb _ _ _,rk.chg (xn _ _ _ _ _) (by simpa using rk.ne hb zaf),rv.chg (xn _ _ _ _ _) (by simpa using rv.ne hb zaf),l⟩
theorem tE.chg {W wx w':World} {bx kx vx:Nat} {d:Nd} {L:List Nat} (h:tE W wx bx kx vx d) (c:zv L wx w') (hL:∀ q,q∈L->q<W.heap.size:=by simp):w'.heap[bx]?=some (.cells #[.bool d.leaf,zS kx d.n d.n,zS vx d.n d.n] 42 (0,0))/\zQ w' kx d.n d.k/\zQ w' vx d.n d.v :=
 ⟨(c.block _ (zz h.b) (fun hm=>by have:=hL _ hm;have:=h.l.1;omega)).trans h.b,h.k.chg c (fun hm=>by have:=hL _ hm;have:=h.l.2.1;omega),h.v.chg c (fun hm=>by have:=hL _ hm;have:=h.l.2.2;omega)⟩
theorem Yp {M:Bm} {F:List Nat} (h:zx w M F B) (hd:B.nodeI (x:Int)=some d):zC 15 #[zP M.b,.int .i64 (x:Int)] w fun e w'=>∃ kx vx,e = .returned (.tuple #[.agg #[.bool d.leaf,zS kx d.n d.n,zS vx d.n d.n],.int .i64 0])/\w.heap.size<=kx/\w.heap.size<=vx/\zQ w' kx d.n d.k/\zQ w' vx d.n d.v/\zv [] w w':=by
 refine (h.cNode (x:Int)).mono ?_;rintro e w' (⟨d',kx,vx,hd',rfl,p1,p2,-,p4,p5,p6⟩ | ⟨hd',-,-⟩)
 ·obtain rfl:d=d':=yj (hd.symm.trans hd')
  exact ⟨kx,vx,rfl,p1,p2,p4,p5,p6⟩
 ·rw [hd] at hd';cases hd'
structure gS (w:World) (p:Nat) (M:Bm) (F:List Nat) (kb vb bn br n key val old:Nat) (was:Bool) (K V:zF) (B:Bs) (W:World):Prop where
 base:zx W M (bn::br::F) B
 lt:∀ q,q∈bn::br::F->q<W.heap.size
 hp:p∈F
 hk:kb∈F
 hv:vb∈F
 ch:qU W p M key val old was
 k:zQ W kb n K
 v:zQ W vb n V
 nd:W.heap[bn]?=some (.cells #[.bool false,zS kb n n,zS vb n n] 42 (0,0))
 rs:W.heap[br]?=some (.cells #[.bool false,.slice none 0 0,.slice none 0 0] 42 (0,0))
 far:w.heap.size<=bn/\w.heap.size<=br/\bn≠br/\∀ q,q∈F->q<w.heap.size
 kv:kb≠vb
 c:zv (p::kb::vb::M.L) w W
section
variable {w W W':World} {p:Nat} {M:Bm} {F:List Nat} {kb vb bn br n key val old:Nat} {was:Bool} {K V:Nat->Nat} {B B':Bs}
theorem gS.frame (j:gS w p M F kb vb bn br n key val old was K V B W) (c:zv [] W W'):gS w p M F kb vb bn br n key val old was K V B W' :=
 { j with base:=j.base.chg c,lt:=fun q hq=>qe (j.lt q hq) c.size,ch:=j.ch.chg c,k:=j.k.chg c,v:=j.v.chg c,nd:=c.kp j.nd,rs:=c.kp j.rs,c:=j.c.trans (c.mo) }
theorem gS.ne (j:gS w p M F kb vb bn br n key val old was K V B W):kb≠p/\vb≠p/\bn≠p/\br≠p/\kb≠bn/\vb≠bn/\kb≠br/\vb≠br:=by
 have:=j.far.2.2.2 p j.hp;have:=j.far.2.2.2 kb j.hk;have:=j.far.2.2.2 vb j.hv;have:=j.far;exact ⟨j.k.ne j.ch zaf,j.v.ne j.ch zaf,zo,zo,zo,zo,zo,zo⟩
theorem gS.call (j:gS w p M F kb vb bn br n key val old was K V B W) (c:zv (p::M.L) W W') (hb:zx W' M (bn::br::F) B') (hc:qU W' p M key val old was):gS w p M F kb vb bn br n key val old was K V B' W':=by
 have N:=j.ne
 have hm:∀ q,q∈bn::br::F->q≠p->q∉p::M.L:=fun q hq hn=>by
  simp only [ya,not_or];exact ⟨hn,j.base.notL hq⟩
 refine { j with base:=hb,lt:=fun q hq=>qe (j.lt q hq) c.size,ch:=hc,k:=j.k.chg c (hm _ (by simp [j.hk]) N.1),v:=j.v.chg c (hm _ (by simp [j.hv]) N.2.1),nd:=(c.block _ (zz j.nd) (hm _ zaa N.2.2.1)).trans j.nd,rs:=(c.block _ (zz j.rs) (hm _ zaa N.2.2.2.1)).trans j.rs,c:=j.c.trans (c.mono fun q hq=>?_) };rcases ya.1 hq with rfl | hq
 ·exact yJ
 ·exact zco _ (zco _ (zco _ hq))
theorem gS.setV (j:gS w p M F kb vb bn br n key val old was K V B W) (hi:i<n) (hz:z<18446744073709551616):gS w p M F kb vb bn br n key val old was K (fun q=>if q=i then z else V q) B (W.setCell ⟨vb,i,none⟩ (.int .u64 (z:Int))):=by
 have N:=j.ne;have c:zv [vb] W (W.setCell ⟨vb,i,none⟩ (.int .u64 (z:Int))):=(zv.refl [vb] W).setCell (.inl zaa) _;have hm:∀ {q:Nat},q≠vb->q∉[vb]:=fun hn=>by simpa using hn
 exact { j with base:=j.base.chg c (fun q hq=>by rw [zms] at hq;rw [hq];simp [j.hv]),lt:=fun q hq=>qe (j.lt q hq) c.size,ch:=j.ch.chg c (hm (Ne.symm N.2.1)),k:=j.k.chg c (hm j.kv),v:=j.v.set hi hz,nd:=(c.block _ (zz j.nd) (hm (Ne.symm N.2.2.2.2.2.1))).trans j.nd,rs:=(c.block _ (zz j.rs) (hm (Ne.symm N.2.2.2.2.2.2.2))).trans j.rs,c:=j.c.trans (c.mo) }
theorem gS.setK (j:gS w p M F kb vb bn br n key val old was K V B W) (hi:i<n) (hz:z<18446744073709551616):gS w p M F kb vb bn br n key val old was (fun q=>if q=i then z else K q) V B (W.setCell ⟨kb,i,none⟩ (.int .u64 (z:Int))):=by
 have N:=j.ne;have c:zv [kb] W (W.setCell ⟨kb,i,none⟩ (.int .u64 (z:Int))):=(zv.refl [kb] W).setCell (.inl zaa) _;have hm:∀ {q:Nat},q≠kb->q∉[kb]:=fun hn=>by simpa using hn
 exact { j with base:=j.base.chg c (fun q hq=>by rw [zms] at hq;rw [hq];simp [j.hk]),lt:=fun q hq=>qe (j.lt q hq) c.size,ch:=j.ch.chg c (hm (Ne.symm N.1)),k:=j.k.set hi hz,v:=j.v.chg c (hm (Ne.symm j.kv)),nd:=(c.block _ (zz j.nd) (hm (Ne.symm N.2.2.2.2.1))).trans j.nd,rs:=(c.block _ (zz j.rs) (hm (Ne.symm N.2.2.2.2.2.2.1))).trans j.rs,c:=j.c.trans (c.mo) }
theorem gS.cells (j:gS w p M F kb vb bn br n key val old was K V B W):W.cell? ⟨p,0,none⟩=some (zP M.b)/\W.cell? ⟨bn,0,none⟩=some (.bool false)/\W.cell? ⟨bn,1,none⟩=some (zS kb n n)/\W.cell? ⟨bn,2,none⟩=some (zS vb n n) :=
 ⟨j.ch.cells.1,(zM j.nd 0).trans rfl,(zM j.nd 1).trans rfl,(zM j.nd 2).trans rfl⟩
end
theorem lX (ok:B.Ok):∀ {h:Nat} {x:Int} {lo hi least:Nat},zG B h x lo hi least=true->1<=least->∃ p,p∈zR B h x:=by
 intro h
 induction h with
 | zero =>
  intro x lo hi least hr hl;obtain ⟨d,h1,h2,h3,h4,h5⟩:=qX hr;rw [h4];exact ⟨_,yw.2 ⟨0,ye.2 zo,rfl⟩⟩
 | succ h ih =>
  intro x lo hi least hr hl;obtain ⟨d,hd,hn,v,ha⟩:=VR.of ok hr;obtain ⟨_,_,q3⟩:=v.kid h rfl 0 zo;obtain ⟨p,hp⟩:=ih q3 zo;rw [ha];exact ⟨p,yH.2 ⟨0,ye.2 zo,hp⟩⟩
theorem VR.page (ok:B.Ok) {h:Nat} (v:VR B h d lo hi) (hn:d.n<=7) (h1:1<=d.n) (hN:B.T.n<=4096):zV d.leaf d.n d.n d.k d.v=true:=by
 refine Yo.2 ⟨hn,rfl,?_,v.asc⟩;rw [v.leaf]
 cases h with
 | zero=>rfl
 | succ h =>
  show (false||_)=true
  rw [Bool.false_or,qs];refine ⟨h1,fun i hi=>?_,fun i j DP hj e=>?_⟩
  ·have:=v.kid h rfl i hi
   omega
  ·obtain ⟨_,_,a3⟩:=v.kid h rfl i zo
   obtain ⟨_,_,b3⟩:=v.kid h rfl j hj;obtain ⟨p,hp⟩:=lX ok a3 zo;have h2:=(Y3 ok a3).1 p hp;have:=(Y3 ok b3).1 p (by rw [<- e];exact hp);have h4:d.hi hi i=d.k (i+1) - 1:=if_pos zo;rw [h4] at h2;have:d.k i<d.k (i+1):=qI v.asc zo zo;rcases Nat.lt_or_ge (i+1) j with q | q
   ·have:=qI v.asc q hj;omega
   ·obtain rfl:j=i+1:=zo
    omega
theorem tF {b:Nat} (h:b≠x):(B.over x f).isI (b:Int)=B.isI (b:Int):=by
 have h1:(B.over x f).nodeI (b:Int)=B.nodeI (b:Int):=QQ (B:=B) (B':=B.over x f) rfl (by unfold Bs.read Bs.over;simp [h]);unfold Bs.isI Bs.freshB;rw [h1,yz];have h2:(B.over x f).fr b=B.fr b:=if_neg h;rw [h2];rfl
section
variable {N G:Nat} {B:Bs} {ht:Ht} {BR:Nat->Nat} {x c y v key lo hi l:Nat} {d D dl dr:Nd} {B1 B3:Bs} {Ct DB:Ht}
theorem b8.is (n:b8 N G B ht BR x c key lo hi d y B1 Ct v D l B3 DB) {k:Nat} (hk:k=l∨k=l+1):B3.isI (D.v k:Int)=true:=by
 obtain ⟨l1,l2,l3,l4,l5⟩:=n.two k hk;obtain ⟨hN,hl,dk,hd,_⟩:=n.work.gr.node _ _ l1;refine n.work.gr.isI_of hN l3 ?_ hd;have:=n.work.gr.ref _ (n.work.gr.two hl hN) hN;rw [l2,hl,if_pos rfl] at this;have l4:aa BR x y v D (D.v k)=1:=l4;omega
theorem b8.cat_ok (n:b8 N G B ht BR x c key lo hi d y B1 Ct v D l B3 DB) (hM:N<=4096) (hl:B3.nodeI (D.v l:Int)=some dl) (hr:B3.nodeI (D.v (l+1):Int)=some dr):dl.Ok/\dr.Ok/\dr.leaf=dl.leaf/\2<=dl.n/\2<=dr.n/\dl.k (dl.n - 1)<dr.k 0 /\
  (dl.n+dr.n<=7->zV dl.leaf (dl.n+dr.n) (dl.n+dr.n) (dl.cat dr).k (dl.cat dr).v=true) /\
  (∀ k,3<=k->k+3<=dl.n+dr.n->k<=7->dl.n+dr.n - k<=7->zV dl.leaf k k (dl.cat dr).k (dl.cat dr).v=true/\zV dl.leaf (dl.n+dr.n - k) (dl.n+dr.n - k) (fun j=>(dl.cat dr).k (k+j)) (fun j=>(dl.cat dr).v (k+j))=true):=by
 have P:=n.pair hl hr;have ok:=n.work.gr.good.ok;have hN:B3.T.n<=4096:=by rw [n.work.gr.good.n];exact hM
 have h1:=P.nl;have h2:=P.nr;have Gk:(dl.cat dr).n=dl.n+dr.n:=rfl;refine ⟨(ok.node_ok hl).1,(ok.node_ok hr).1,P.leaf,h1,h2,?_,fun ht=>P.cat.page ok ht (by show 1<=dl.n+dr.n;omega) hN,fun k k1 k2 k3 k4=>⟨?_,?_⟩⟩
 ·have:=P.cat.asc dl.n zo (by show dl.n<dl.n+dr.n;omega)
  have e1:(dl.cat dr).k (dl.n - 1)=dl.k (dl.n - 1):=if_pos zo
  have e2:(dl.cat dr).k dl.n=dr.k 0:=by
   show (if dl.n<dl.n then dl.k dl.n else dr.k (dl.n - dl.n))=_
   rw [if_neg zo,Nat.sub_self]
  rwa [e1,e2] at this
 ·have:=(P.cat.sub (a:=0) (m:=k) (hi':=D.hi hi (l+1)) (by rw [Gk];omega) (fun i hi=>(P.cat.bd (0+i) (by rw [Gk];omega)).2) (fun h=>by have:=(P.cat.bd (0+k) h).2;omega) (fun h=>zo)).page ok (by exact k3) (by show 1<=k;omega) hN
  have e1:((dl.cat dr).sub 0 k).k=(dl.cat dr).k:=funext fun j=>by show (dl.cat dr).k (0+j)=_;rw [yn]
  have e2:((dl.cat dr).sub 0 k).v=(dl.cat dr).v:=funext fun j=>by show (dl.cat dr).v (0+j)=_;rw [yn]
  rw [e1,e2] at this;exact this
 ·exact (P.cat.sub (a:=k) (m:=dl.n+dr.n - k) (hi':=D.hi hi (l+1)) (by rw [Gk];omega) (fun i hi=>(P.cat.bd (k+i) (by rw [Gk];omega)).2) (fun h=>by rw [Gk] at h;omega) (fun _=>xd _)).page ok (by exact k4) (by show 1<=dl.n+dr.n - k;omega) hN
theorem Xd.imp {P Q:Nd->Prop} {N G:Nat} {ht:Ht} {BR:zF} {key y v:Nat} {B4:Bs} (h:Xd P N G B ht BR x c key lo hi y v B4) (hi':∀ d,Q d->P d):Xd Q N G B ht BR x c key lo hi y v B4:=⟨h.1,fun h1 h2 h3=>h.2 h1 h2 (hi' _ h3)⟩
end
end Go.Proofs.YtegpiomkmfhadaaGreat
