/- Package tree: change's take. · Package -/
import Derived.Test.YtegpiomkmfhadaaGreatZo33
set_option linter.all false
set_option maxRecDepth 100000
set_option maxHeartbeats 20000000
namespace Go.Proofs.YtegpiomkmfhadaaGreat
open Go.RowKit
variable {n p vb c N G x key Cb:Nat} {X w:World} {v:Value} {f V BR:zF} {lf:Bool} {M:Bm} {F:List Nat} {B:Bs} {ht:Ht} {items:zL}
theorem qw.keep {base:Nat} {X':World} {cs:Array Value} {T:TypeId} (h:qw base X v n f) (hb:X.heap[p]?=some (.cells cs T (0,0))) (hT:23≠T) (c:zv [p] X X'):qw base X' v n f:=by
 rcases h with h | ⟨g,k,e,h1,h2,h3,h4⟩
 ·exact .inl h
 ·exact .inr ⟨g,k,e,h1,h2,h3,h4.chg c (by simpa using h4.ne hb hT)⟩
theorem zT.bd {A:List Nat} (h:zT A w v n f):∀ i,i<n->f i<18446744073709551616:=fun i hi=>by
 rcases h with ⟨_,h⟩ | ⟨_,_,_,_,_,_,_,_,h⟩
 ·omega
 ·exact (h i hi).2
theorem zv.drop {kb:Nat} {L:List Nat} (h:zv (p::kb::vb::L) w X) (h1:w.heap.size<=kb) (h2:w.heap.size<=vb):zv (p::L) w X :=
 (zv.refl (p::L) w).then h fun q hq=>by
  simp only [ya] at hq ⊢;rcases hq with h | h | h | h
  ·exact .inl (.inl h)
  ·exact .inr zo
  ·exact .inr zo
  ·exact .inl (.inr h)
structure A6 (W wx:World) (bx:Nat) (lf:Bool) (n:Nat) (K V:zF) (vk vv:Value):Prop where
 c:zv [] W wx
 b:wx.heap[bx]?=some (.cells #[.bool lf,vk,vv] 42 (0,0))
 k:qw W.heap.size wx vk n K
 v:qw W.heap.size wx vv n V
 l:W.heap.size<=bx
theorem tG {W:World} {bx:Nat} {K:zF} {vk vv:Value} (c:zv [] W X) (hb:X.heap[bx]?=some (.cells #[.bool false,.slice none 0 0,.slice none 0 0] 42 (0,0))) (h1:qw W.heap.size X vk n K) (h2:qw W.heap.size X vv n V) (l:W.heap.size<=bx) :
  A6 W (((X.setCell ⟨bx,0,none⟩ (.bool lf)).setCell ⟨bx,1,none⟩ vk).setCell ⟨bx,2,none⟩ vv) bx lf n K V vk vv :=
 ⟨c.tn (xn _ _ _ _ _) l,JP hb _ _ _,h1.keep hb zaf (xn _ _ _ _ _),h2.keep hb zaf (xn _ _ _ _ _),l⟩
def az (w:World) (p:Nat) (M:Bm) (F:List Nat) (k0 val:Nat) (was:Bool) (N G:Nat) (B:Bs) (ht:Ht) (BR:zF) (x c lo hi least y m:Nat) (w':World):Prop :=
 ∃ (v:Nat) (B':Bs) (B6:Ht),zx w' M F B'/\Xk N G B ht BR x c k0 lo hi y m v B' B6/\least<=m+1/\qU w' p M k0 val v was/\zv (p::M.L) w w'
def lY (c:Nat):Prop:=∀ {w:World} {p:Nat} {M:Bm} {F:List Nat} {B:Bs} {N G:Nat} {ht:Ht} {BR:zF} {x l k0 lo hi least val old:Nat} {was:Bool},zx w M F B->(∀ q,q∈F->q<w.heap.size)->p∈F->qU w p M k0 val old was->Gr N G B ht BR->N<=4096->(∀ b,BR b<=20000+100*l)->ht x=some c->c+l<8->1<=BR x->zG B c (x:Int) lo hi least=true->(c≠0->2<=least)->(∃ v,(k0,v)∈zR B c (x:Int))->k0<18446744073709551616->2*(c:Int)+1<=B.room ->
 zC 62 #[zP p,.int .i64 (x:Int)] w fun e w'=>∃ y m:Nat,e = .returned (.tuple #[.int .i64 (y:Int),.int .i64 (m:Int)])/\az w p M F k0 val was N G B ht BR x c lo hi least y m w'
theorem fA (ih:∀ c',c=c'+1->lY c'):lY c:=by
 intro w p M F B N G ht BR x l k0 lo hi least val old was hb hF hp IT g hM hm hx Eo Nj hr DI hk Kd D7;have cm:=fu hb hF hp IT g hM (fun b=>by have:=hm b;omega) hx Nj zo;have H:=zh (zA hb (zA hF (zA g (zA hm (zA hx (zA hr (zA DI (zA hk D7))))))));have FA:=zh (fun q hq=>hb.ltL hq:∀ q,q∈M.L->q<w.heap.size);have:=hF p hp;have IH:=zh ih;clear hb hF IT g hm hx Nj hr DI hk D7 ih;go_enter Tryz.func62,Tryz.ntmps62;go_wp2_with fail;refine cm.mono ?_;clear cm;rintro e w1 ⟨y,kb,vb,d,rfl,B1,Ct,Sx,al,o,Fu,B5,rk,rv,l1,l2,hkv⟩;have hq:=(zv.refl [] w1).alloc (.cells #[.bool d.leaf,zS kb d.n d.n,zS vb d.n d.n] 42);have Cx:=xo w1 (.cells #[.bool d.leaf,zS kb d.n d.n,zS vb d.n d.n] 42);have Gd:=B5.size;have Cr:=(al.new (xd _)).chg hq;have C8:=Fu.chg hq;have Ug:=rk.chg hq;have Uh:=rv.chg hq;have BW:=B5.trans (hq.mo);obtain ⟨x0,x1,x2,x3,x4,x5⟩:=C8.cells;have H1:=zh (zA Cr (zA C8 (zA Ug (zA Uh (zA Cx BW)))));have HO:=zh o;have ok:=(o.gr.good.ok.node_ok o.node).1;have n7:=ok.n;obtain ⟨_,_,d0,Ez,nd⟩:=o.gr.node _ _ o.top;obtain rfl:d=d0:=yj (o.node.symm.trans Ez);have:y<4096:=zq (o.gr.lt o.top)
 have HN:=zh nd;have D3:=zh ok;have G6:w.heap.size<=w1.heap.size:=Gd;obtain ⟨z0,z1,z2⟩:=Za Cx;clear Sx al Fu B5 rk rv hq Cr C8 Ug Uh BW Cx Ez nd o ok;go_upto_region 2 with fail;generalize w1.alloc (.cells #[.bool d.leaf,zS kb d.n d.n,zS vb d.n d.n] 42)=W at *;obtain ⟨bn,Sp⟩:=zE w1.heap.size;rw [<- Sp] at H1 z0 z1 z2 ⊢;rw [<- Sp] at G6;clear Sp;have hlf:d.leaf=decide (c % 100=0):=HN.leaf
 cases c with
 | zero =>
  obtain ⟨v0,FJ⟩:=H.2.2.2.2.2.2.2.1;have Fj:zG B1 0 (y:Int) lo hi least=true:=(HO.same.1 lo hi least).trans H.2.2.2.2.2.1;obtain ⟨d0,Ez,Dt,vr,a0⟩:=VR.of HO.gr.good.ok Fj;obtain rfl:d=d0:=yj (HO.node.symm.trans Ez);rw [<- HO.same.2,a0] at FJ;obtain ⟨i,hi',e⟩:=yw.1 FJ;have hi':=ye.1 hi';obtain ⟨e1,e2⟩:=Prod.mk.inj e;have Dj:d.leaf=true:=hlf;obtain ⟨Iy,ER,hls⟩:=HO.may0 hi' H.2.2.2.2.2.1;rw [e1] at Iy;have HM:=zh (zA Iy (zA ER hls));have ct:=fun X (c:zv [] W X)=>eY D3 (H1.2.2.1.chg c) (H1.2.2.2.1.chg c) hi' (.inl Dj);rw [e1] at ct;rw [Dj] at ct z0;have CT:=zh ct;have:=zh (zA hi' (zA e1 e2));obtain ⟨dv,hdv⟩:=zE (d.v i);rw [<- hdv] at CT HM;have:=zh (show dv<18446744073709551616 by rw [hdv];exact D3.v i hi');obtain ⟨n,hn⟩:=zE d.n;rw [<- hn] at CT HM z1 z2 n7;have Gz:=zh hn;clear ct Iy ER hls Fj Ez Dt vr a0 FJ e e1 e2 hi' Dj hlf hdv hn
  have KS:Hd (∀ Y,zv [] W Y->Y.cell? ⟨p,1,none⟩=some (.int .u64 (k0:Int))/\Y.cell? ⟨bn,0,none⟩=some (.bool true)/\Y.cell? ⟨bn,1,none⟩=some (zS kb n n)/\Y.cell? ⟨bn,2,none⟩=some (zS vb n n)):=zh fun Y c=>⟨(c.cell (p:=⟨p,1,none⟩) (yc _ _ x1) zaa).trans x1,(c.cell (p:=⟨bn,0,none⟩) (yc _ _ z0) zaa).trans z0,(c.cell (p:=⟨bn,1,none⟩) (yc _ _ z1) zaa).trans z1,(c.cell (p:=⟨bn,2,none⟩) (yc _ _ z2) zaa).trans z2⟩;go_upto_region 5 with fail;go_cut [8,9,10] (fun s8 s9 s10 wx=>∃ bx,s8 = zP bx/\s9 = .int .u64 (dv:Int)/\s10 = .int .i64 0/\Hd (∃ ak ck av cv,A6 W wx bx true (n - 1) (qS d.k i) (qS d.v i) (.slice ak (n - 1) ck) (.slice av (n - 1) cv)))
  case first =>
   refine wp_region_held_drew (S:=fun W'=>W'.cell? ⟨p,1,none⟩=some (.int .u64 (k0:Int))/\W'.cell? ⟨bn,0,none⟩=some (.bool true)/\W'.cell? ⟨bn,1,none⟩=some (zS kb n n)/\W'.cell? ⟨bn,2,none⟩=some (zS vb n n)) zab (by exact KS _ (zv.refl [] W).drew) fun BS=>?_;have Df:=zh ((zv.refl [] W).drew);generalize W.drew=X0 at Df BS ⊢;refine Zq 0 ?_;refine Zq 1 ?_;refine Zq 2 ?_;refine Zq 3 ?_;refine Zq 4 ?_;refine zu ?_;refine wR [5,10] ?_;refine wC (fun K hK=>?_) ?_
   (go_simp;refine (CT _ Df).mono ?_;rintro e X1 ⟨vk,vv,rfl,p1,p2,p3⟩;obtain ⟨ak,ck,rfl⟩:=p1.len;obtain ⟨av,cv,rfl⟩:=p2.len;have Ce:=zh (Df.trans p3);have IS:=zh (zA (p1.base Df.size) (p2.base Df.size));clear p1 p2 p3)
   refine hK.out _ _ (KS _ Ce) fun BS=>?_;clear hK K;refine zu ?_;refine Zq 6 ?_;refine Zq 7 ?_;refine Zq 8 ?_;refine Zq 9 ?_;refine zu ?_;refine wE 10 (fun K hK=>?_)
   (go_simp;have PB:=zh (zA Ce.size (xo X1 (.cells #[.bool false,.slice none 0 0,.slice none 0 0] 42)));have BZ:=zh (Ce.alloc (.cells #[.bool false,.slice none 0 0,.slice none 0 0] 42));have Fd:=zh (zA (IS.1.chg ((zv.refl [] X1).alloc (.cells #[.bool false,.slice none 0 0,.slice none 0 0] 42))) (IS.2.chg ((zv.refl [] X1).alloc (.cells #[.bool false,.slice none 0 0,.slice none 0 0] 42))));generalize X1.alloc (.cells #[.bool false,.slice none 0 0,.slice none 0 0] 42)=X2 at PB BZ Fd ⊢;generalize X1.heap.size=bx at PB ⊢)
   refine hK.out _ _ (KS _ BZ) fun BS=>?_;clear hK K;refine zu ?_
   rotate_left 1
   refine wD (fun K hK=>?_)
   (go_simp;have Kw:=zh (zA Df.size (xo X0 (.cells #[.bool false,.slice none 0 0,.slice none 0 0] 42)));have Ce:=zh (Df.alloc (.cells #[.bool false,.slice none 0 0,.slice none 0 0] 42));generalize X0.alloc (.cells #[.bool false,.slice none 0 0,.slice none 0 0] 42)=X1 at Kw Ce ⊢;generalize X0.heap.size=bx at Kw ⊢)
   refine hK.out _ _ (KS _ Ce) fun BS=>?_;clear hK K;refine zu ?_;refine wE 5 (fun K hK=>?_)
   (go_simp;refine (CT _ Ce).mono ?_;rintro e X2 ⟨vk,vv,rfl,p1,p2,p3⟩;obtain ⟨ak,ck,rfl⟩:=p1.len;obtain ⟨av,cv,rfl⟩:=p2.len;have BZ:=zh (Ce.trans p3);have Fd:=zh (zA (p1.base Ce.size) (p2.base Ce.size));have PB:=zh (zA Kw.1 (p3.kp Kw.2));clear p1 p2 p3)
   refine hK.out _ _ (KS _ BZ) fun BS=>?_;clear hK K;refine zu ?_;refine Zq 6 ?_;refine Zq 7 ?_;refine Zq 8 ?_;refine Zq 9 ?_;refine zu ?_
   rotate_left 1
   all_goals
    have FR:=PB.2;have f0:=xB FR 0;have f1:=xB FR 1;have f2:=xB FR 2;obtain ⟨z0,z1,z2⟩:=Za FR;have HE:=zh (tG (lf:=true) BZ FR Fd.1 Fd.2 PB.1);clear FR;refine wE 11 fun K hK=>?_;go_simp;refine hK.out _ _ (KS _ HE.c) fun BS=>?_;clear hK K;refine zu ?_
    refine Zq 12 ?_;refine Zq 13 ?_;refine zu ?_;refine wpAnyH_done zab ?_ _;go_wp2_with fail;go_meet;exact ⟨_,rfl,rfl,rfl,zh ⟨_,_,_,_,HE⟩⟩
  case rest =>
  obtain ⟨W2,rfl⟩:=zE wc;obtain ⟨bx,rfl,rfl,rfl,HX⟩:=hcut;obtain ⟨ak,ck,av,cv,Dh⟩:=HX.o;have C8:=H1.2.1.chg Dh.c;have:W.heap.size<=bx:=Dh.l;have:p<bx:=qe H1.2.1.lt Dh.l;have f3:=xB C8 3;obtain ⟨x0,x1,x2,x3,x4,x5⟩:=C8.cells;have hgo:=C8.setOld dv;have cO:zv [p] W2 (W2.setCell ⟨p,3,none⟩ (.int .u64 (dv:Int))):=(zv.refl [p] W2).setCell (.inl zaa) _;have Cx:=(cO.block _ (zz Dh.b) zad).trans Dh.b;have:=H1.2.1.lt;have Cy:=Dh.k.chg cO zad;have Ge:=Dh.v.chg cO zad;have Cr:=((H1.1.sub (F':=F) (fun q hq=>by simp [hq])).chg Dh.c).chg cO (by simp [hp]);have H2:=zh (zA hgo (zA Cx (zA Cy (zA Ge (zA Cr ((H1.2.2.2.2.2.trans (Dh.c.mo)).trans (cO.mo)))))));clear Dh HX hgo cO Cx Cy Ge Cr KS C8;go_upto_region 7 with fail;generalize W2.setCell ⟨p,3,none⟩ (.int .u64 (dv:Int))=W3 at *;clear x0 x1 x2 x3 x4 x5 f3;have cf:=zh (qD H2.1);go_wp2_with fail;refine cf.mono ?_;clear cf;rintro e w4 ⟨rfl,Fe,Cd⟩;have GN:=(Cd.block _ (zz H2.2.1) zad).trans H2.2.1;have Gb:=H2.2.2.1.chg Cd zad;have LI:=H2.2.2.2.1.chg Cd zad;have Ex:=H2.2.2.2.2.1.chg Cd (by simp [hp]);have hF4:∀ q,q∈F->q<w4.heap.size:=fun q hq=>qe (H.2.1 q hq) (qh H2.2.2.2.2.2.size Cd.size)
  have cs:=zh (QU Ex hF4 hp Fe HM.1.1 (Gb.nums (A:=[]) zaa) (LI.nums (A:=[]) zaa) (by rw [Gz.o];rw [Gz.o] at HM;exact HM.2.1));have H4:=zh (zA (H2.2.2.2.2.2.trans (Cd.mo)) (zA Gb (zA LI GN)));obtain ⟨z0,z1,z2⟩:=Za GN;clear GN Gb LI Ex Fe Cd H2;go_wp2_with fail;refine cs.mono ?_;clear cs;rintro e w5 ⟨rfl,Fr,Dd,DF⟩
  obtain ⟨B6,tk⟩:=HM.1.laid HM.2.1 (fun j hj=>by
   have h1:=Gz.o;unfold qS
   split
   ·exact D3.k _ zo
   ·exact D3.k _ zo) (fun j hj=>by
   have h1:=Gz.o;unfold qS
   split
   ·exact D3.v _ zo
   ·exact D3.v _ zo)
  have Me:=(DF.block _ (zz H4.2.2.2) (fun hm=>(ya.1 hm).elim (fun e=>absurd e zo) (fun e=>absurd (FA _ e) (by have:=H1.2.2.2.2.2.size;have:=H1.2.1.lt;omega)))).trans H4.2.2.2;have HE:Hd (∀ X,zv [] w5 X->az w p M F k0 val was N G B ht BR x 0 lo hi least y (n - 1) X):=zh fun X c=>⟨dv,_,B6,Fr.chg c,tk,HM.2.2,Dd.chg c,(H4.1.trans DF).trans (c.mo)⟩;obtain ⟨u0,u1,u2⟩:=Za Me;clear Fr Dd DF tk Me H4 z0 z1 z2;go_wp2_with fail
  go_quiet (fail)
  go_wp2_with fail
  go_ret2
  exact ⟨y,n - 1,rfl,HE _ ((zv.refl [] w5).drewN _)⟩
 | succ c =>
  have hcl2:c+1<100:=zo;obtain ⟨hls,v1,a1,-⟩:=HO.seen hcl2 H.2.2.2.2.2.1;have Fh:2<=d.n:=zq (H.2.2.2.2.2.2.1 zo);obtain ⟨v0,FJ⟩:=H.2.2.2.2.2.2.2.1;rw [a1] at FJ;obtain ⟨hi',EZ⟩:=AJ HO.gr.good.ok v1 D3 zo FJ;obtain ⟨i,NX⟩:=zE (d.at_ k0);have ca:=fun X (c:zv [] W X)=>gj (A:=[]) D3 ((H1.2.2.1.chg c).numsIn zo zaa D3.k) ((H1.2.2.2.1.chg c).numsIn zo zaa D3.v) k0 Kd;rw [<- NX] at ca hi' EZ;obtain ⟨Wk,ndk⟩:=HO.work;have Eb:=ndk.kid zo i hi';rw [show c+1 - 1=c by omega] at Eb;have Dz:=(v1.kid c rfl i hi').2.2;have hvN:d.v i<4096:=zq (Wk.gr.lt Eb)
  have Er:=HO.room;have Kl:=H.2.2.2.2.2.2.2.2
  have MF:∀ b,xA (xt BR x) y b+xi d b<=20000+100*(l+1):=fun b=>by
   have h1:=H.2.2.2.1 b;have:=bI d b;unfold xA xt
   split <;> split <;> omega
  have Ke:d.leaf=false:=by rw [hlf];exact yC zo
  have HK:=zh (zA hi' (zA Dz (zA Eb (zA Wk.gr (zA MF (zA EZ Fh))))));rw [Ke] at ca z0;have CA:=zh ca;obtain ⟨b0,DW⟩:=zE (d.is k0);rw [<- DW] at CA;obtain ⟨n,hn⟩:=zE d.n;rw [<- hn] at CA z1 z2 n7 Fh hi';have Gz:=zh hn;have EO:=zh Ke;clear ca hlf Ke hls v1 a1 FJ NX Wk ndk Eb Dz Er Kl MF EZ DW hn;go_upto_region 11 with fail;refine wp_region_held_drew (S:=fun W'=>W'.cell? ⟨p,1,none⟩=some (.int .u64 (k0:Int))/\W'.cell? ⟨bn,0,none⟩=some (.bool false)/\W'.cell? ⟨bn,1,none⟩=some (zS kb n n)/\W'.cell? ⟨bn,2,none⟩=some (zS vb n n)) zab (by exact ⟨x1,z0,z1,z2⟩) fun BS=>?_;refine Zq 0 ?_;refine Zq 1 ?_;refine Zq 2 ?_;refine Zq 3 ?_;refine Zq 4 ?_;refine zu ?_
  refine wE 5 (fun K hK=>?_)
  (go_simp;refine (CA _ (zv.refl [] W).drew).mono ?_;rintro e w3 ⟨rfl,Ci⟩;have Cj:=zh ((zv.refl [] W).drew.trans Ci);have q1:=((zv.refl [] W).drew.trans Ci).cell (p:=⟨p,1,none⟩) (yc _ _ x1) zaa;have q2:=((zv.refl [] W).drew.trans Ci).cell (p:=⟨bn,0,none⟩) (yc _ _ z0) zaa;have q3:=((zv.refl [] W).drew.trans Ci).cell (p:=⟨bn,1,none⟩) (yc _ _ z1) zaa;have q4:=((zv.refl [] W).drew.trans Ci).cell (p:=⟨bn,2,none⟩) (yc _ _ z2) zaa;clear Ci)
  refine hK.out _ _ (⟨q1.trans x1,q2.trans z0,q3.trans z1,q4.trans z2⟩) fun BS=>?_;clear hK K;refine zu ?_;refine Zq 6 ?_;refine Zq 7 ?_;refine Zq 8 ?_;refine Zq 9 ?_;refine Zq 10 ?_;refine Zq 11 ?_;refine Zq 12 ?_;refine zu ?_;refine wpAnyH_done zab ?_ _;have z1:=q3.trans z1;have z2:=q4.trans z2;have z0:=q2.trans z0;clear q1 q2 q3 q4 x0 x1 x2 x3 x4 x5;have Du:=H1.1.chg Cj.o;have F9:=H1.2.1.chg Cj.o;have rk3:=H1.2.2.1.chg Cj.o;have rv3:=H1.2.2.2.1.chg Cj.o;have Sq:=Cj.kp H1.2.2.2.2.1;have Ci:=H1.2.2.2.2.2.trans (Cj.mo)
  have hF3:∀ q,q∈bn::kb::vb::F->q<w3.heap.size:=fun q hq=>by
   rcases ya.1 hq with rfl | hq
   ·exact zz Sq
   rcases ya.1 hq with rfl | hq
   ·exact rk3.lt
   ·rcases ya.1 hq with rfl | hq
    ·exact rv3.lt
    ·exact qe (H.2.1 q hq) Ci.size
  have cp:=IH c rfl (l:=l+1) Du hF3 (by simp [hp]) F9 HK.2.2.2.1 hM HK.2.2.2.2.1 HK.2.2.1 zo (by show 1<=xA _ y _+xi d (d.v i);have:=xK HK.1 (rfl:d.v i=d.v i);omega) HK.2.1 (fun _=>zo) ⟨v0,HK.2.2.2.2.2.1⟩ Kd (by have:=HO.room;have:=H.2.2.2.2.2.2.2.2;omega);have IG:=rv3.cell (i:=i) HK.1;obtain ⟨u,hu⟩:=zE (d.v i);rw [<- hu] at cp IG hvN;have HU:=zh hu;have e1:IntKind.i64.wrap (u:Int)=(u:Int):=yv _ zo;have:(i:Int)<(n:Int):=zo
  have CP:=zh cp;have H3:=zh (zA rk3 (zA rv3 (zA Sq Ci)));obtain ⟨x0,x1,x2,x3,x4,x5⟩:=F9.cells;have re:=zh F9;clear Du hF3 F9 rk3 rv3 Sq Ci cp hu CA;go_wp2_with fail;refine CP.mono ?_;clear CP;rintro e w4 ⟨z,m,rfl,v,B2,Cg,Ex,q,Kh,Fe,Cd⟩;rw [HU.o] at q;have Fy:2<=m:=zo
  have:z<4096:=zq (q.gr.lt q.top);have Wv:bn≠p:=zo
  have Ms:kb≠p/\vb≠p:=⟨H3.1.ne re zaf,H3.2.1.ne re zaf⟩;have Cv:bn∉p::M.L:=fun hm=>(ya.1 hm).elim Wv (fun e=>absurd (FA _ e) zo);have SM:kb∉p::M.L:=fun hm=>(ya.1 hm).elim Ms.1 (fun e=>absurd e (Ex.notL zaa));have KC:vb∉p::M.L:=fun hm=>(ya.1 hm).elim Ms.2 (fun e=>absurd e (Ex.notL zaa));have rk4:=H3.1.chg Cd SM;have rv4:=H3.2.1.chg Cd KC;have GN:=(Cd.block _ (zz H3.2.2.1) Cv).trans H3.2.2.1;have cS:zv [vb] w4 (w4.setCell ⟨vb,i,none⟩ (.int .u64 (z:Int))):=(zv.refl [vb] w4).setCell (.inl zaa) _;have rv5:=rv4.set (v:=z) HK.1 zo;have rk5:=rk4.chg cS (by simpa using hkv);have hvbn:vb≠bn:=rv4.ne GN zaf;have Me:=(cS.block _ (zz GN) (by simpa using Ne.symm hvbn)).trans GN;have Dd:=Fe.chg cS (by simpa using Ne.symm Ms.2);have Fr:=Ex.chg cS;have hvc4:=rv4.cell (i:=i) HK.1;have hvf:=rv4.fz i;have e2:IntKind.u64.wrap (z:Int)=(z:Int):=IntWalk.u64_in _ zo;have HQ:=zh (zA q Kh);have Gj:zv (p::kb::vb::M.L) w (w4.setCell ⟨vb,i,none⟩ (.int .u64 (z:Int))):=((H3.2.2.2.mono (fun q hq=>by rcases ya.1 hq with h | h <;> simp [h])).trans (Cd.mono (fun q hq=>by rcases ya.1 hq with h | h <;> simp [h]))).trans (cS.mo);have H5:=zh (zA Fr (zA Dd (zA rk5 (zA rv5 (zA Me Gj)))));obtain ⟨x0,x1,x2,x3,x4,x5⟩:=Fe.cells;obtain ⟨z0,z1,z2⟩:=Za GN;rw [EO.o] at z0;rw [<- Gz.o] at z1 z2;clear Ex q Kh Cd rk4 rv4 GN cS rv5 rk5 Me Dd Fr Gj H3 Fe Cv SM KC;go_upto_region 17 with fail;obtain ⟨W5,KX⟩:=zE (w4.setCell ⟨vb,i,none⟩ (.int .u64 (z:Int)));rw [<- KX] at H5 ⊢;clear KX hvc4 hvf x0 x1 x2 x3 x4 x5 z0 z1 z2;have Cx:=H5.2.2.2.2.1;obtain ⟨z0,z1,z2⟩:=Za Cx;rw [EO.o] at z0;rw [<- Gz.o] at z1 z2;have TZ:=zz Cx;clear Cx;have hup:(fun j=>if j=i then z else d.v j)=(d.upd i z).v:=rfl;rw [hup] at H5;clear hup;by_cases h3:m<3
  ·have i3:(m:Int)<3:=zo
   have cj:=jM HO zo hM HK.1 H.2.2.2.2.2.1 HQ.1 Fy (by rw [<- Gz.o];exact Fh) (zq H.2.2.2.2.2.2.2.2) (fun b=>by have:=H.2.2.2.1 b;omega) H5.1 (fun q hq=>by
    rcases ya.1 hq with rfl | hq
    ·exact zz H5.2.2.2.2.1
    rcases ya.1 hq with rfl | hq
    ·exact H5.2.2.1.lt
    ·rcases ya.1 hq with rfl | hq
     ·exact H5.2.2.2.1.lt
     ·exact qe (H.2.1 q hq) H5.2.2.2.2.2.size) (by simp [hp]) zaa zaa hkv H5.2.1 H5.2.2.1 H5.2.2.2.1
   rw [<- Gz.o] at cj;have CJ:=zh cj;clear cj;go_wp2_with fail;refine CJ.mono ?_;clear CJ;rintro e w6 ⟨vk,vv,n',K,V,B4,rfl,Ki,FD,EY,EP,ER,Iy,Dl⟩;obtain ⟨ak,ck,rfl⟩:=(Ki [] zaa).1.len;obtain ⟨av,cv,rfl⟩:=(Ki [] zaa).2.len;have LC:bn<W5.heap.size/\bn≠kb/\bn≠vb:=⟨TZ,fun e=>absurd H5.2.2.2.2.1 (by rw [e];exact fun h=>H5.2.2.1.ne h zaf rfl),fun e=>absurd H5.2.2.2.2.1 (by rw [e];exact fun h=>H5.2.2.2.1.ne h zaf rfl)⟩
   have Cv:bn∉p::kb::vb::M.L:=fun hm=>by
    simp only [ya] at hm;rcases hm with h | h | h | h
    ·exact Wv h
    ·exact LC.2.1 h
    ·exact LC.2.2 h
    ·exact absurd (FA _ h) zo
   have KZ:=(EP.block _ (zz H5.2.2.2.2.1) Cv).trans H5.2.2.2.2.1;have f0:=xB KZ 0;have f1:=xB KZ 1;have f2:=xB KZ 2;have cE:=xn w6 bn (.bool false) (.slice ak n' ck) (.slice av n' cv);have hX:=JP KZ (.bool false) (.slice ak n' ck) (.slice av n' cv);obtain ⟨nk,nv⟩:=Ki [bn] (fun q hq=>by rw [zms] at hq;rw [hq];exact LC);have hbN:=(FD.chg cE).sub (F':=F) (fun q hq=>by simp [hq]);have hX:=zh hX;have H7:=zh (zA (nk.chg cE) (zA (nv.chg cE) (zA hbN (zA (EY.chg cE (by simpa using Ne.symm Wv)) (zA ((H5.2.2.2.2.2.trans EP).tn cE G6) (zA ER (zA Iy Dl)))))));obtain ⟨b0,b1,b2⟩:=Za KZ;clear hbN nk nv EY EP ER Iy Dl Ki FD KZ cE;go_wp2_with fail;refine (QU H7.2.2.1 (fun q hq=>qe (H.2.1 q hq) H7.2.2.2.2.1.size) hp H7.2.2.2.1 H7.2.2.2.2.2.2.1.1 H7.1 H7.2.1 H7.2.2.2.2.2.1).mono ?_;rintro e w8 ⟨rfl,GM,P4,DO⟩;obtain ⟨B6,tk⟩:=H7.2.2.2.2.2.2.1.laid H7.2.2.2.2.2.1 H7.1.bd H7.2.1.bd;have Mf:=(DO.block _ (zz hX) (fun hm=>(ya.1 hm).elim Wv (fun e=>absurd (FA _ e) zo))).trans hX.o
   have HE:Hd (∀ X,zv [] w8 X->az w p M F k0 val was N G B ht BR x (c+1) lo hi least y n' X):=zh fun X c=>⟨v,_,B6,GM.chg c,tk,H7.2.2.2.2.2.2.2,P4.chg c,(zv.then (H7.2.2.2.2.1.trans (DO.mono (fun q hq=>by rcases ya.1 hq with h | h <;> simp [h]))) (c.mo:zv [] w8 X) zaa).drop l1 l2⟩;obtain ⟨u0,u1,u2⟩:=Za Mf;clear GM P4 DO tk Mf z0 z1 z2;go_wp2_with fail
   go_quiet (fail)
   go_wp2_with fail
   go_ret2
   exact ⟨y,n',rfl,HE _ ((zv.refl [] w8).drewN _)⟩
  ·have i3:¬ (m:Int)<3:=zo
   obtain ⟨Iy,ER,Dl⟩:=HO.may1 zo hM HK.1 H.2.2.2.2.2.1 HQ.1 zo;have Nb:d.n<=100000:=by rw [<- Gz.o];omega
   have hvb5:=H5.2.2.2.1.nums
   have H7:Hd (zT [] W5 (zS kb n n) n d.k/\zT [] W5 (zS vb n n) n (d.upd i z).v/\zx W5 M F B2/\qU W5 p M k0 val v was/\zv (p::kb::vb::M.L) w W5/\zV false n n d.k (d.upd i z).v=true/\Xd (fun d'=>d'.Lk ⟨false,n,d.k,(d.upd i z).v⟩) N G B ht BR x (c+1) k0 lo hi y v B2/\least<=n+1):=by
    refine zh ?_;rw [Gz.o];exact ⟨H5.2.2.1.numsIn Nb zaa (fun j hj=>(H5.2.2.1.nums j hj).2),H5.2.2.2.1.numsIn Nb zaa (fun j hj=>(H5.2.2.2.1.nums j hj).2),H5.1.sub (fun q hq=>by simp [hq]),H5.2.1,H5.2.2.2.2.2,ER,Iy,Dl⟩
   clear Iy ER Dl Nb hvb5;go_wp2_with fail;refine (QU H7.2.2.1 (fun q hq=>qe (H.2.1 q hq) H7.2.2.2.2.1.size) hp H7.2.2.2.1 H7.2.2.2.2.2.2.1.1 H7.1 H7.2.1 H7.2.2.2.2.2.1).mono ?_;rintro e w8 ⟨rfl,GM,P4,DO⟩;obtain ⟨B6,tk⟩:=H7.2.2.2.2.2.2.1.laid H7.2.2.2.2.2.1 H7.1.bd H7.2.1.bd;have Mf:=(DO.block _ (zz H5.2.2.2.2.1) (fun hm=>(ya.1 hm).elim Wv (fun e=>absurd (FA _ e) zo))).trans H5.2.2.2.2.1;have HE:Hd (∀ X,zv [] w8 X->az w p M F k0 val was N G B ht BR x (c+1) lo hi least y n X):=zh fun X c=>⟨v,_,B6,GM.chg c,tk,H7.2.2.2.2.2.2.2,P4.chg c,(zv.then (H7.2.2.2.2.1.trans (DO.mono (fun q hq=>by rcases ya.1 hq with h | h <;> simp [h]))) (c.mo:zv [] w8 X) zaa).drop l1 l2⟩;obtain ⟨u0,u1,u2⟩:=Za Mf;rw [<- Gz.o] at u1 u2;clear GM P4 DO tk Mf z0 z1 z2;go_wp2_with fail
   go_quiet (fail)
   go_wp2_with fail
   go_ret2
   exact ⟨y,n,rfl,HE _ ((zv.refl [] w8).drewN _)⟩
theorem jN:∀ c,lY c
 | 0=>fA (fun _ h=>absurd h zo)
 | c+1=>fA fun c' h=>by
  obtain rfl:c'=c:=zo;exact jN c'
def A7 (B:Bs) (n:Nat) (V:zF):Prop:=∀ i,i<n->V i≠0->V i<4096/\getV B.T (V i:Int)<=65519
theorem fB {kk:Value} (hb:zx w M F B) (hv:zQ w vb n V) (hl:A7 B n V) (hn:n<=7) :
  zC 159 #[zP M.b,.agg #[.bool lf,kk,zS vb n n]] w fun e w'=>e = .returned (.bool false)/\zv [] w w':=by
 have hX:=xo w (.cells #[.bool lf,kk,zS vb n n] 42);have hW:=(zv.refl [] w).alloc (.cells #[.bool lf,kk,zS vb n n] 42);have HB:=zh (hb.chg hW);have HV:=zh (hv.chg hW);have HW:=zh hW;have HL:=zh hl;clear hb hv hW hl;obtain ⟨x0,x1,x2⟩:=Za hX;clear hX;go_enter Tryz.func159,Tryz.ntmps159;go_upto_region 1 with fail;generalize w.alloc (.cells #[.bool lf,kk,zS vb n n] 42)=W at *;go_upto_region 2 with fail;go_loopg [10] (n+1) (fun gg s wr=>∃ i:Nat,gg=(n - i)+1/\i<=n/\s = zI i/\wr=W)
 case atStart=>exact ⟨0,zo,zo,rfl,rfl⟩
 case round =>
  obtain ⟨i,rfl,hi,rfl,rfl⟩:=hrel;by_cases h:i<n
  ·have j1:(i:Int)<(n:Int):=zo
   have hc:=HV.cell h;have h6:=(HV.nums i h).2;have MY:=zh (HL i h);obtain ⟨u,hu⟩:=zE (V i);rw [<- hu] at hc h6 MY;clear hu;by_cases h0:u=0
   ·subst h0
    go_wp2_with fail;go_roundg (n - (i+1)+1)
    case measure=>omega
    case rel=>exact ⟨i+1,rfl,zo,zac,rfl⟩
   ·obtain ⟨l1,l2⟩:=MY h0
    have cc:=zh (HB.cCount (u:Int));have:((u:Int)==0)=false:=by rw [yD];omega
    have:min (u:Int) 2147483648=(u:Int):=zo;obtain ⟨g,hg⟩:=zE (getV B.T (u:Int));rw [<- hg] at cc l2;have:¬ (65519<g):=zo;clear hg;go_wp2_with fail;refine cc.mono ?_;clear cc;rintro e w' ⟨rfl,rfl⟩;go_wp2_with fail;go_roundg (n - (i+1)+1)
    case measure=>omega
    case rel=>exact ⟨i+1,rfl,zo,zac,rfl⟩
  ·obtain rfl:i=n:=zo
   have j1:¬ (i:Int)<(i:Int):=zo;go_wp2_with fail;go_ret;exact ⟨rfl,HW⟩
theorem Gr.low (g:Gr N G B ht BR) (hM:N<=4096) (hm:∀ b,BR b<=30000) (hx:x<N) (hl:B.live x=true) (h2:2<=x):Proofs.YtegpiomkmfhadaaGreat.getV B.T (x:Int)<=65519:=by
 rw [g.getV hx];have:=g.now_le h2 hx hl;have:=hm x;omega
theorem Gr.lowN (g:Gr N G B ht BR) (hM:N<=4096) (hm:∀ b,BR b<=30000) {d:Nd} (hx:ht x=some c) (hd:B.nodeI (x:Int)=some d):A7 B d.n d.v:=fun i hi h0=>by
 obtain ⟨h2,hN,hl⟩:=g.val_live hx hd hi h0;exact ⟨zo,g.low hM hm hN hl h2⟩
theorem jO {b:Option Addr} :
  zC 110 #[.pointer b,.int .i64 0,.int .u64 (key:Int)] w fun e w'=>e = .returned (.int .i64 0)/\w=w':=by
 go_enter Tryz.func110,Tryz.ntmps110;go_upto_region 3 with fail;go_loopg [7,8] 10 (fun gg s l wr=>gg=10/\s = .bool false/\l = .int .i64 0/\wr=w)
 case atStart=>exact ⟨rfl,rfl,rfl,rfl⟩
 case round =>
  obtain ⟨rfl,rfl,rfl,rfl⟩:=hrel;go_wp2_with fail;go_ret;exact ⟨rfl,rfl⟩
def A8 (w:World) (B:Bs) (ht:Ht) (y c:Nat) (wr:World):Prop:=zv [] w wr/\ht y=some c/\c<100/\∃ lo hi least,zG B c (y:Int) lo hi least=true/\(c≠0->2<=least)
theorem py (hb:zx w M F B) (g:Gr N G B ht BR) (hM:N<=4096) (hm:∀ b,BR b<=30000) (hx:A8 w B ht x c w) (hk:key<18446744073709551616) :
  zC 110 #[zP M.b,.int .i64 (x:Int),.int .u64 (key:Int)] w fun e w'=>e = .returned (.int .i64 0)/\zv [] w w':=by
 have HB:=zh hb;have HG:=zh g;have HM:=zh hm;have HX:=zh hx;have ok:=zh g.good.ok;clear hb g hm hx;go_enter Tryz.func110,Tryz.ntmps110;go_upto_region 3 with fail;go_loopg [7,8] (c+2) (fun gg s l wr=>∃ (sh:Bool) (y c:Nat),gg=c+2/\s = .bool sh/\l = .int .i64 (y:Int)/\Hd (A8 w B ht y c wr))
 case atStart=>exact ⟨false,x,c,rfl,rfl,rfl,HX⟩
 case round =>
  obtain ⟨sh,y,c,rfl,rfl,rfl,H⟩:=hrel;obtain ⟨lo,hi,least,hr,DI⟩:=H.2.2.2;obtain ⟨d,hd,hl,vr,-⟩:=VR.of ok hr;obtain ⟨Np,hyl⟩:=HG.lt H.2.1;have:=HG.two hyl Np;have:((y:Int)==0)=false:=by rw [yD];omega
  have cn:=zh (Yp (HB.chg H.1) hd);have HD:=zh (zA hd (zA hl (zA vr (zA hr DI))));have NE:=zh (ok.node_ok hd).1;have n7:=NE.n;clear hd hl vr hr DI;go_wp2_with fail;refine cn.mono ?_;clear cn;rintro e w1 ⟨kb,vb,rfl,k1,k2,rk,rv,B5⟩;have Cv:=xo w1 (.cells #[.bool d.leaf,zS kb d.n d.n,zS vb d.n d.n] 42);have Cn:=(zv.refl [] w1).alloc (.cells #[.bool d.leaf,zS kb d.n d.n,zS vb d.n d.n] 42);have HC:=zh (zA ((H.1.trans B5).trans Cn) (zA (rk.chg Cn) (zA (rv.chg Cn) Cv)));obtain ⟨z0,z1,z2⟩:=Za Cv;clear Cv Cn rk rv B5 k1 k2;go_upto_region 7 with fail;generalize w1.alloc (.cells #[.bool d.leaf,zS kb d.n d.n,zS vb d.n d.n] 42)=W at *;obtain ⟨bx,Cx⟩:=zE w1.heap.size;rw [<- Cx] at HC z0 z1 z2 ⊢;clear Cx;go_cut [7] from 18 to 92 (fun s wx=>∃ sh:Bool,s = .bool sh/\W=wx)
  case first =>
   cases sh with
   | true =>
    go_wp2_with fail;go_meet;exact ⟨_,rfl,rfl⟩
   | false =>
    have cc:=(HB.chg HC.1).cCount (y:Int);go_wp2_with fail;refine cc.mono ?_;clear cc;rintro e w' ⟨rfl,rfl⟩;go_wp2_with fail;go_meet;exact ⟨_,rfl,rfl⟩
  case rest =>
  obtain ⟨sh',rfl,rfl⟩:=hcut;go_upto_region 8 with fail;go_cut [41] from 18 to 92 (fun s wx=>s = .bool false/\Hd (zv [] W wx))
  case first =>
   cases sh' with
   | true =>
    have cf:=fB (lf:=d.leaf) (kk := zS kb d.n d.n) (HB.chg HC.1) HC.2.2.1 (HG.lowN hM HM H.2.1 HD.1) n7;go_wp2_with fail;refine cf.mono ?_;clear cf;rintro e w' ⟨rfl,c'⟩;go_wp2_with fail;go_meet;exact ⟨rfl,zh c'⟩
   | false =>
    go_wp2_with fail;go_meet;exact ⟨rfl,zh (zv.refl _ _)⟩
  case rest =>
  obtain ⟨W2,rfl⟩:=zE wc;obtain ⟨rfl,BW⟩:=hcut;have Cx:=BW.kp HC.2.2.2;have BZ:=zh (zA (HC.1.trans BW) (zA (HC.2.1.chg BW) (zA (HC.2.2.1.chg BW) Cx)));obtain ⟨y0,y1,y2⟩:=Za Cx;clear Cx z0 z1 z2 BW HC
  cases hlf:d.leaf with
  | true =>
   rw [hlf] at y0;have HE:=zh BZ.1;clear hlf;go_wp2_with fail;go_ret;exact ⟨rfl,HE⟩
  | false =>
   have:c≠0:=fun e=>by rw [HD.2.2.1.leaf,e] at hlf;simp at hlf
   obtain ⟨c,rfl⟩:∃ k,c=k+1:=⟨c - 1,zo⟩;have Fh:2<=d.n:=by have:=HD.2.2.2.2 zo;have:=HD.2.1;omega
   have ha:=(NE.at_lt (key:=key) hlf zo).1;have ca:=gj NE (BZ.2.1.numsIn (A:=[]) zo zaa NE.k) (BZ.2.2.1.numsIn (A:=[]) zo zaa NE.v) key hk;rw [hlf] at y0 ca;have EO:=zh hlf;have hj:OX (d.at_ key)<d.n:=by unfold OX;split <;> omega
   obtain ⟨i,hi⟩:=zE (d.at_ key);rw [<- hi] at ca ha hj;have vk:=HD.2.2.1.kid c rfl;have N0:=vk i ha;have hkj:=vk _ hj;have wkk:=HG.node _ _ H.2.1;obtain ⟨_,_,d',hd',nd⟩:=wkk;obtain rfl:d=d':=yj (HD.1.symm.trans hd');have hti:=nd.kid (zq H.2.2.1) i ha;have htj:=nd.kid (zq H.2.2.1) _ hj;rw [show c+1 - 1=c by omega] at hti htj;obtain ⟨dj,Sw,hlj,vrj,-⟩:=VR.of ok hkj.2.2;have djk:=(ok.node_ok Sw).1;have Fw:=(HG.lt hti).1;have hjN:=(HG.lt htj).1;obtain ⟨j,Ng⟩:=zE (OX i);have cn:=fw (lf:=false) (a:=some ⟨kb,0,none⟩) (a2:=some ⟨vb,0,none⟩) (c:=d.n) (c2:=d.n) (i:=i) Fh zo;rw [<- Ng] at hj hkj htj Sw hjN cn;have LJ:=zh (HG.lowN hM HM htj Sw);obtain ⟨n,hn⟩:=zE d.n;have HN:=zh hn;obtain ⟨b0,DW⟩:=zE (d.is key);rw [<- DW] at ca;rw [<- hn] at ca cn y1 y2 ha hj Fh n7;have CA:=zh ca;have CN:=zh cn;have HDJ:=zh (zA Sw djk);have RJ:=zh (zA N0 hti);have:(0:Int)<=(j:Int):=zo
   have:(j:Int)<(n:Int):=zo;clear ca cn hi N0 hkj vk hd' nd hti htj Sw hlj vrj djk Ng hn DW hlf;go_wp2_with fail;refine CA.mono ?_;clear CA;rintro e w3 ⟨rfl,c3⟩;have Cx:=c3.kp BZ.2.2.2;have Cj:=zh (zA (BZ.1.trans c3) (zA (BZ.2.1.chg c3) (zA (BZ.2.2.1.chg c3) Cx)));obtain ⟨z0,z1,z2⟩:=Za Cx;rw [EO.o] at z0;rw [<- HN.o] at z1 z2;clear Cx c3 y0 y1 y2 BZ;go_wp2_with fail;refine (CN _).mono ?_;clear CN;rintro e w4 ⟨rfl,c4⟩;have Cx:=c4.kp Cj.2.2.2;have hvj:=(Cj.2.2.1.chg c4).cell (i:=j) (by rw [<- HN.o];exact hj);have C6:=zh (zA (Cj.1.trans c4) (zA (Cj.2.2.1.chg c4) Cx));obtain ⟨y0,y1,y2⟩:=Za Cx;rw [EO.o] at y0;rw [<- HN.o] at y1 y2;have cb:=Yp (HB.chg C6.1) HDJ.1;obtain ⟨v,hv⟩:=zE (d.v j);rw [<- hv] at hvj cb hjN;have:IntKind.i64.wrap (v:Int)=(v:Int):=yv _ zo;have HV:=zh hv;have CB:=zh cb;clear Cx c4 z0 z1 z2 Cj cb hv;go_wp2_with fail;refine CB.mono ?_;clear CB;rintro e w5 ⟨kj,vj,rfl,k1,k2,rk,rv,c5⟩;have Cx:=c5.kp C6.2.2;have Cv:=xo w5 (.cells #[.bool dj.leaf,zS kj dj.n dj.n,zS vj dj.n dj.n] 42)
   have Cn:=(zv.refl [] w5).alloc (.cells #[.bool dj.leaf,zS kj dj.n dj.n,zS vj dj.n dj.n] 42);have Fp:=zh (zA ((C6.1.trans c5).trans Cn) (zA ((C6.2.1.chg c5).chg Cn) (zA (Cn.kp Cx) (zA (rv.chg Cn) Cv))));obtain ⟨q0,q1,q2⟩:=Za Cv;clear Cx Cv Cn rk rv c5 k1 k2 y0 y1 y2 hvj;go_upto_region 17 with fail;generalize w5.alloc (.cells #[.bool dj.leaf,zS kj dj.n dj.n,zS vj dj.n dj.n] 42)=W6 at *;obtain ⟨bj,hbj⟩:=zE w5.heap.size;rw [<- hbj] at Fp q0 q1 q2 ⊢;clear hbj;have Cx:=Fp.2.2.1;obtain ⟨y0,y1,y2⟩:=Za Cx;rw [EO.o] at y0;rw [<- HN.o] at y1 y2;have hvj:=Fp.2.1.cell (i:=j) (by rw [<- HN.o];exact hj);rw [<- HV.o] at hvj;clear Cx;go_cut [86] from 18 to 92 (fun s wx=>s = .bool false/\Hd (zv [] W6 wx))
   case first =>
    have cf:=fB (lf:=dj.leaf) (kk := zS kj dj.n dj.n) (HB.chg Fp.1) Fp.2.2.2.1 LJ HDJ.2.n
    cases sh' with
    | true =>
     go_wp2_with fail;refine cf.mono ?_;clear cf;rintro e w' ⟨rfl,c'⟩;go_wp2_with fail;go_meet;exact ⟨rfl,zh c'⟩
    | false =>
     have cc:=(HB.chg Fp.1).cCount (v:Int);obtain ⟨gv,G9⟩:=zE (getV B.T (v:Int));rw [<- G9] at cc;clear G9;go_wp2_with fail;refine cc.mono ?_;clear cc;rintro e w' ⟨rfl,rfl⟩;by_cases Fu:1<gv
     ·go_wp2_with fail
      refine cf.mono ?_;clear cf;rintro e w' ⟨rfl,c'⟩;go_wp2_with fail;go_meet;exact ⟨rfl,zh c'⟩
     ·go_wp2_with fail
      go_meet;exact ⟨rfl,zh (zv.refl _ _)⟩
   case rest =>
   obtain ⟨W7,rfl⟩:=zE wc;obtain ⟨rfl,E9⟩:=hcut;have Cx:=E9.kp Fp.2.2.1;have hvi:=(Fp.2.1.chg E9).cell (i:=i) (by rw [<- HN.o];exact ha);have HC7:=zh (Fp.1.trans E9);clear y0 y1 y2 q0 q1 q2 hvj;obtain ⟨y0,y1,y2⟩:=Za Cx;rw [EO.o] at y0;rw [<- HN.o] at y1 y2;obtain ⟨u,hu⟩:=zE (d.v i);rw [<- hu] at hvi Fw;have HU:=zh hu;have:IntKind.i64.wrap (u:Int)=(u:Int):=yv _ zo;have:(i:Int)<(n:Int):=zo
   clear Cx E9 Fp hu;go_wp2_with fail;go_roundg (c+2)
   case measure=>omega
   case rel=>exact ⟨sh',u,c,rfl,rfl,rfl,zh (by rw [HU.o];exact ⟨HC7.o,RJ.2,by have:=H.2.2.1;omega,_,_,3,RJ.1.2.2,fun _=>zo⟩)⟩
theorem nB {α β:Type} {f:α->List β} {k:Nat} : ∀ (l:List α),(∀ a∈l,k<=(f a).length)->l.length*k<=(l.flatMap f).length
 | [],_=>by simp
 | a::l,h=>by
  have:=h a zaa;have:=nB l (fun b hb=>h b (by simp [hb]));rw [List.flatMap_cons,ym,yu,Nat.succ_mul];omega
theorem JX {B:Bs} (ok:B.Ok):∀ {h:Nat} {x:Int} {lo hi least:Nat},zG B h x lo hi least=true->least*3 ^ h<=(zR B h x).length
 | 0,x,lo,hi,least,hr=>by
  obtain ⟨d,hd,hl,vr,ha⟩:=VR.of ok hr;rw [ha]
  show least*1<=(d.items).length
  have:d.items.length=d.n:=by unfold Nd.items;simp
  omega
 | h+1,x,lo,hi,least,hr=>by
  obtain ⟨d,hd,hl,vr,ha⟩:=VR.of ok hr;rw [ha];have h1:=nB (f:=fun i=>zR B h (d.v i:Int)) (k:=3*3 ^ h) (List.range d.n) (fun i hi=>JX ok (vr.kid h rfl i (ye.1 hi)).2.2);rw [List.length_range] at h1
  have h2:least*3 ^ (h+1)<=d.n*(3*3 ^ h):=by
   rw [Nat.pow_succ,Nat.mul_comm (3 ^ h) 3];exact Nat.mul_le_mul_right _ hl
  exact qh h2 h1
structure A9 (B:Bs) (ht:Ht) (x h:Nat) (items:zL):Prop where
 top:ht x=some h
 right:zG B h (x:Int) 0 Qu (if h=0 then 1 else 2)=true
 all:zR B h (x:Int)=items
def Xl (B:Bs) (ht:Ht) (x Cb:Nat) (items:zL):Prop:=(x=0/\Cb=0/\items=[])∨∃ h,Cb=h+1/\h<7/\A9 B ht x h items
theorem A9.h7 {B:Bs} {ht:Ht} {x h:Nat} {items:zL} (t:A9 B ht x h items) (ok:B.Ok) (hl:items.length<=4000):h<7:=by
 have h1:=JX ok t.right;rw [t.all] at h1;refine Nat.lt_of_not_le fun h7=>?_;rw [if_neg zo] at h1;have:3 ^ 7<=3 ^ h:=Nat.pow_le_pow_right zo h7;have:3 ^ 7=2187:=zaf
 omega
theorem Xl.height (t:Xl B ht x Cb items) (ok:B.Ok):xM B 8 (x:Int)=(Cb,0):=by
 rcases t with ⟨rfl,rfl,rfl⟩ | ⟨h,rfl,h7,t⟩
 ·rfl
 ·exact Qe ok t.right zo zaA
theorem Xl.get (t:Xl B ht x Cb items) (ok:B.Ok) (key:Nat):wJ items key (QL B key 8 (x:Int)):=by
 rcases t with ⟨rfl,rfl,rfl⟩ | ⟨h,rfl,h7,t⟩
 ·exact .inr ⟨zaa,rfl⟩
 ·have:=eC ok (key:=key) t.right (show h<8 by omega) zaA
  rwa [t.all] at this
theorem Xl.high7 (t:Xl B ht x Cb items):Cb<=7:=by
 rcases t with ⟨rfl,rfl,rfl⟩ | ⟨h,rfl,h7,t⟩ <;> omega
theorem pz {h:Nat} (hh:h<=100) (w:World):zC 109 #[.int .i64 (h:Int)] w fun e w'=>e = .returned (.int .i64 ((2*h+2:Nat):Int))/\w'=w:=by
 have:max (h:Int) 0=(h:Int):=zo;have:IntKind.i64.wrap (2*(h:Int))=2*(h:Int):=yv _ zo;have:IntKind.i64.wrap (2*(h:Int)+2)=2*(h:Int)+2:=yv _ zo;go_enter Tryz.func109,Tryz.ntmps109;go_wp2_with fail;go_ret;exact ⟨zac,rfl⟩
def vQ (room:Int) (Cb:Nat):Int:=if room<((2*Cb+2:Nat):Int) then 90 else 0
theorem tH (hb:zx w M F B) (g:Gr N G B ht BR) (hM:N<=4096) (hm:∀ b,BR b<=30000) (t:Xl B ht x Cb items) (hk:key<18446744073709551616) :
  zC 61 #[zP M.b,.int .i64 (x:Int),.int .u64 (key:Int)] w fun e w'=>e = .returned (.int .i64 (vQ B.room Cb))/\zv [] w w':=by
 have ok:=g.good.ok
 have:x<4096:=by
  rcases t with ⟨rfl,rfl,rfl⟩ | ⟨h,rfl,h7,t⟩
  ·omega
  ·have:=(g.lt t.top).1;omega
 have hxw:(Lit.int .i64 (x:Int)).wf=true:=by
  have h1:IntKind.i64.min = -9223372036854775808:=zaf;simp [Lit.wf,h1];omega
 have ch:=ls hb (x:Int) hxw;rw [t.height ok] at ch;have cg:=fun w' (c:zv [] w w')=>mW (hb.chg c) (x:Int) hxw key hk
 obtain ⟨v,bo,hv⟩:∃ v bo,QL B key 8 (x:Int)=(v,bo,0):=by
  rcases t.get ok key with ⟨v,-,h⟩ | ⟨-,h⟩
  ·exact ⟨_,_,h⟩
  ·exact ⟨_,_,h⟩
 rw [hv] at cg;have h7:=t.high7;have:¬ (Cb:Int)=8:=zo
 have cr:=fun w' (c:zv [] w w')=>(hb.chg c).cRoom;have cd:=pz (h:=Cb) zo
 have cf:∀ w',zv [] w w'->zC 110 #[zP M.b,.int .i64 (x:Int),.int .u64 (key:Int)] w' fun e KI=>e = .returned (.int .i64 0)/\zv [] w' KI:=fun w' c=>by
  rcases t with ⟨rfl,rfl,rfl⟩ | ⟨h,rfl,h7,t⟩
  ·exact jO.mono fun e KI q=>⟨q.1,by rw [q.2];exact zv.refl _ _⟩
  ·exact py (hb.chg c) g hM hm ⟨zv.refl _ _,t.top,zo,_,_,_,t.right,fun q=>by rw [if_neg q];exact xd _⟩ hk
 have CG:=zh cg;have CR:=zh cr;have CD:=zh cd;have CF:=zh cf;obtain ⟨r,hr⟩:=zE B.room;rw [<- hr] at CR ⊢;obtain ⟨nd,Cp⟩:=zE (2*Cb+2);obtain ⟨E,hE⟩:=zE (vQ r Cb);rw [<- hE];unfold vQ at hE;rw [<- Cp] at CD hE;have HE:=zh hE;clear cg cr cd cf hv hr Cp hE t hb g hm ok;go_enter Tryz.func61,Tryz.ntmps61;go_wp2_with fail;refine ch.mono ?_;rintro e w1 ⟨rfl,c1⟩;have cg:=CG _ c1;clear ch;go_wp2_with fail;refine cg.mono ?_;clear cg;rintro e w2 ⟨rfl,c2⟩;have cr:=CR _ (c1.trans c2);go_wp2_with fail;refine zm cr ?_;have cd:=CD.o;go_wp2_with fail;refine zm (cd _) ?_;have HC:=zh (c1.trans c2);clear cd cr c1 c2;by_cases BY:r<(nd:Int)
 ·obtain rfl:E=90:=HE.trans (if_pos BY)
  go_wp2_with fail;go_ret;exact ⟨rfl,HC⟩
 ·obtain rfl:E=0:=HE.trans (if_neg BY)
  go_wp2_with fail;refine (CF _ HC).mono ?_;rintro e w4 ⟨rfl,c4⟩;go_wp2_with fail;go_ret;exact ⟨rfl,HC.trans c4⟩
end Go.Proofs.YtegpiomkmfhadaaGreat
