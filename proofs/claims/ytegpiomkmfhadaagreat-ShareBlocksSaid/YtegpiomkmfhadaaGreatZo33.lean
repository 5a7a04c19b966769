/- Package tree: change's joined. · Layer -/
import Derived.Test.YtegpiomkmfhadaaGreatZo32
set_option linter.all false
set_option maxRecDepth 100000
set_option maxHeartbeats 20000000
namespace Go.Proofs.YtegpiomkmfhadaaGreat
open Go.RowKit
variable {val x c i lo hi least key:Nat} {B:Bs} {d:Nd}
def A5 (w:World) (p:Nat) (M:Bm) (F:List Nat) (kb vb k0 val old:Nat) (was:Bool) (N G:Nat) (B:Bs) (ht:Ht) (BR:zF) (x c key lo hi least y v:Nat) (e:Ending) (w':World):Prop :=
 ∃ (vk vv:Value) (n:Nat) (K V:zF) (B4:Bs),e = .returned (.agg #[.bool false,vk,vv])/\(∀ A:List Nat,(∀ q,q∈A->q<w.heap.size/\q≠kb/\q≠vb)->zT A w' vk n K/\zT A w' vv n V)/\zx w' M F B4/\qU w' p M k0 val old was/\zv (p::kb::vb::M.L) w w'/\zV false n n K V=true/\Xd (fun d'=>d'.Lk ⟨false,n,K,V⟩) N G B ht BR x c key lo hi y v B4/\least<=n+1
theorem jM {w:World} {p:Nat} {M:Bm} {F:List Nat} {kb vb k0 old:Nat} {was:Bool} {N G:Nat} {ht:Ht} {BR:zF} {y z m v:Nat} {B1 B2:Bs} {Ct Cg:Ht}
    (o:qf N G B ht BR x (c+1) d y B1 Ct) (hc:c+1<8) (hM:N<=4096) (hi':i<d.n) (hr:zG B (c+1) (x:Int) lo hi least=true) (q:Xk N G B1 (zY Ct y none) (fun b=>xA (xt BR x) y b+xi d b) (d.v i) c key (d.k i) (d.hi hi i) z m v B2 Cg) (hm:2<=m) (hn:2<=d.n) (D7:2*((c:Int)+1)+1<=B.room) (Nj:∀ b,BR b<=25000)
    (hb:zx w M F B2) (hF:∀ q,q∈F->q<w.heap.size) (hp:p∈F) (hkF:kb∈F) (hvF:vb∈F) (hkv:kb≠vb) (IT:qU w p M k0 val old was) (rk:zQ w kb d.n d.k) (rv:zQ w vb d.n (d.upd i z).v) :
    zC 115 #[zP p,.agg #[.bool false,zS kb d.n d.n,zS vb d.n d.n],.int .i64 (i:Int)] w (A5 w p M F kb vb k0 val old was N G B ht BR x (c+1) key lo hi least y v):=by
  have ok:=(o.gr.good.ok.node_ok o.node).1;have n7:=ok.n;obtain ⟨j,Ng⟩:=zE (OX i)
  have hj:j<d.n/\j≠i/\((min i j=i/\min i j+1=j)∨(min i j=j/\min i j+1=i)):=by
    unfold OX at Ng;by_cases h:i=0
    · rw [if_pos h] at Ng;omega
    · rw [if_neg h] at Ng;omega
  obtain ⟨hj,DJ,hl⟩:=hj;obtain ⟨l,Dt⟩:=zE (min i j);rw [<- Dt] at hl;obtain ⟨dz,LD,hdm⟩:=q.node;obtain ⟨g2,hw,Ru,ow,Ps,oz,rz,F2⟩:=o.near_may zo hi' hr q hj DJ LD;have Er:0<B2.room:=by have:=q.room;have:=o.room;omega
  have MF:∀ b,xA (xt BR x) y b+(if b=v then 1 else 0)+xi (d.upd i z) b+xi dz b<=30000:=fun b=>by
    have h1:=Nj b;have h2:=bI (d.upd i z) b;have h3:(d.upd i z).n=d.n:=rfl;have h4:=bI dz b;have h5:=(q.gr.good.ok.node_ok LD).1.n;unfold xA xt
    split <;> split <;> split <;> omega
  have hwp:1<=xA (xt BR x) y (d.v j)+(if d.v j=v then 1 else 0)+xi (d.upd i z) (d.v j)+xi dz (d.v j):=zo;have b0:=xo w (.cells #[.bool false,zS kb d.n d.n,zS vb d.n d.n] 42);have d0:=(zv.refl [] w).alloc (.cells #[.bool false,zS kb d.n d.n,zS vb d.n d.n] 42);have s1:(w.alloc (.cells #[.bool false,zS kb d.n d.n,zS vb d.n d.n] 42)).heap.size=w.heap.size+1:=zD _ _;have b1:=xo (w.alloc (.cells #[.bool false,zS kb d.n d.n,zS vb d.n d.n] 42)) (.cells #[.bool false,.slice none 0 0,.slice none 0 0] 42);have d1:=d0.alloc (.cells #[.bool false,.slice none 0 0,.slice none 0 0] 42);have b2:=(((zv.refl [] _).alloc (.cells #[.bool false,.slice none 0 0,.slice none 0 0] 42)).block w.heap.size (zz b0) zaa).trans b0;rw [s1] at b1;obtain ⟨W,hW⟩:=zE ((w.alloc (.cells #[.bool false,zS kb d.n d.n,zS vb d.n d.n] 42)).alloc (.cells #[.bool false,.slice none 0 0,.slice none 0 0] 42));rw [<- hW] at b1 d1 b2
  have J0:gS w p M F kb vb w.heap.size (w.heap.size+1) d.n k0 val old was d.k (d.upd i z).v B2 W :=
    { base:=((hb.new (Nat.le_succ _)).new (xd _)).chg d1,lt:=fun q hq=>by
        rcases ya.1 hq with rfl | hq
        · exact zz b2
        · rcases ya.1 hq with rfl | hq
          · exact zz b1
          · exact qe (hF q hq) d1.size
      hp:=hp,hk:=hkF,hv:=hvF,ch:=IT.chg d1,k:=rk.chg d1,v:=rv.chg d1,nd:=b2,rs:=b1,far:=⟨xd _,Nat.le_succ _,zo,hF⟩,kv:=hkv,c:=d1.mo }
  have H:=zh (zA o (zA hr (zA q (zA LD hl))));have HG:=zh (zA g2 (zA hw (zA MF (zA hwp Er))));have HJ:=zh J0;have HHF:=zh hF;clear b0 d0 s1 b1 d1 b2 J0 hb hF hp hkF hvF IT rk rv o hr q LD hdm g2 hw Ru ow Ps oz rz F2 Er MF hwp D7 Nj;have cn:=zh (fun W=>fw (lf:=false) (a:=some ⟨kb,0,none⟩) (a2:=some ⟨vb,0,none⟩) (c:=d.n) (c2:=d.n) (i:=i) hn zo W);rw [<- Ng] at cn;obtain ⟨x0,x1,x2,x3⟩:=HJ.cells;obtain ⟨n,Ki⟩:=zE d.n;rw [<- Ki] at hW cn HJ x2 x3 hj hi' hn n7 ⊢;have HN:=zh Ki;clear Ki Ng ok;go_enter Tryz.func115,Tryz.ntmps115;go_upto_region 1 with fail;rw [<- hW];clear hW;go_wp2_with fail;refine (cn _).mono ?_;clear cn;rintro e w1 ⟨rfl,B5⟩;have MX:=zh (HJ.frame B5);clear HJ B5 x0 x1 x2 x3;obtain ⟨x0,x1,x2,x3⟩:=MX.cells;have EZ:=MX.v.cell hj;rw [show (d.upd i z).v j=d.v j from if_neg DJ] at EZ
  have hwN:d.v j<4096:=by
    have:=(H.1.gr.good.ok.node_ok H.1.node).1;have:=HG.1.lt HG.2.1;omega
  have cm:=fu MX.base MX.lt (zco _ (zco _ MX.hp)) MX.ch HG.1 hM HG.2.2.1 HG.2.1 HG.2.2.2.1 HG.2.2.2.2;obtain ⟨a,ha⟩:=zE (d.v j);rw [<- ha] at EZ hwN cm;have CM:=zh cm;have HA:=zh ha;have e1:IntKind.i64.wrap (a:Int)=(a:Int):=yv _ zo;have i0:¬ (j:Int)<0:=zo
  have i1:(j:Int)<(n:Int):=zo;clear cm ha;go_wp2_with fail;refine CM.mono ?_;clear CM;rintro e w2 ⟨zj,kx,vx,dj,rfl,B3,DB,Sw,Cr,Pd,C8,BW,-,-,-,-,-⟩;rw [HA.o] at Pd;have Ln:=zh (MX.call BW (Cr.sub fun q hq=>zco _ (zco _ hq)) C8);have hzj:zj<4096:=zq (Pd.gr.lt Pd.top)
  have HO:=zh Pd;clear Cr C8 BW x0 x1 x2 x3 EZ MX Sw Pd;have hq:=(zv.refl [] w2).alloc (.cells #[.bool dj.leaf,zS kx dj.n dj.n,zS vx dj.n dj.n] 42);have LW:=zh (Ln.frame hq);clear hq Ln;go_upto_region 5 with fail;generalize w2.alloc (.cells #[.bool dj.leaf,zS kx dj.n dj.n,zS vx dj.n dj.n] 42)=W2 at *;obtain ⟨x0,x1,x2,x3⟩:=LW.cells;have Ge:=LW.v.cell hj;have f2:=LW.v.fz j;have e2:IntKind.u64.wrap (zj:Int)=(zj:Int):=IntWalk.u64_in _ zo;have Ks:=zh (LW.setV hj (z:=zj) zo);obtain ⟨W3,FC⟩:=zE (W2.setCell ⟨vb,j,none⟩ (.int .u64 (zj:Int)));rw [<- FC] at Ks;go_upto_region 6 with fail;rw [<- FC];clear FC x0 x1 x2 x3 Ge f2 LW;have nr:=H.1.near zo hM (by rw [<- HN.o];exact hi') H.2.1 H.2.2.1 hm (by rw [<- HN.o];exact hj) DJ H.2.2.2.1 HO hl;have hV:(fun q=>if q=j then zj else (d.upd i z).v q)=((d.upd i z).upd j zj).v:=rfl;rw [hV] at Ks;obtain ⟨D,hD⟩:=zE ((d.upd i z).upd j zj);have M4:D.k=d.k:=by rw [hD];rfl
  have hDn:D.n=n:=by rw [hD,HN.o];rfl
  have U0:D.leaf=d.leaf:=by rw [hD];rfl
  rw [<- hD] at nr Ks;rw [<- M4] at Ks;obtain ⟨nr,hld,-,-⟩:=nr;obtain ⟨_,_,dl,NS,_⟩:=nr.work.gr.node _ _ (nr.two l (.inl rfl)).1;obtain ⟨_,_,dr,I8,_⟩:=nr.work.gr.node _ _ (nr.two (l+1) (.inr rfl)).1;have FB:=zh (zA nr (zA NS (zA I8 hld)));have HD:=zh (zA M4 (zA hDn U0));obtain ⟨r,Gc⟩:=zE (l+1);have hmin:min (i:Int) (j:Int)=(l:Int):=zo
  have N8:max (i:Int) (j:Int)=(r:Int):=zo;have GQ:l<n/\r<n:=zo;have HR:=zh Gc;clear nr NS I8 hld hD hV M4 hDn U0 Gc HO hl Dt;obtain ⟨x0,x1,x2,x3⟩:=Ks.cells;have Ro:=Ks.v.cell GQ.1;have IY:=Ks.v.cell GQ.2
  have hN4:D.v l<4096/\D.v (l+1)<4096:=by
    have h1:=(FB.1.work.gr.lt (FB.1.two l (.inl rfl)).1).1;have h2:=(FB.1.work.gr.lt (FB.1.two (l+1) (.inr rfl)).1).1;omega
  have hur2:D.v r=D.v (l+1):=by rw [HR.o]
  obtain ⟨ul,Pn⟩:=zE (D.v l);obtain ⟨ur,S8⟩:=zE (D.v (l+1));rw [hur2] at IY;rw [<- Pn] at Ro hN4;rw [<- S8] at IY hN4;have HU:=zh (zA Pn S8);have KS:Hd (∀ Y,zv [] W3 Y->Y.cell? ⟨p,0,none⟩=some (zP M.b)/\Y.cell? ⟨w.heap.size,2,none⟩=some (zS vb n n)/\Y.cell? ⟨vb,l,none⟩=some (.int .u64 (ul:Int))):=zh fun Y c=>⟨(c.cell (p:=⟨p,0,none⟩) (yc _ _ x0) zaa).trans x0,(c.cell (p:=⟨w.heap.size,2,none⟩) (yc _ _ x3) zaa).trans x3,(c.cell (p:=⟨vb,l,none⟩) (yc _ _ Ro) zaa).trans Ro⟩;have CNl:=zh (fun Y (c:zv [] W3 Y)=>Yp (Ks.base.chg c) (x:=ul) (d:=dl) (by rw [Pn];exact FB.2.1));have e3:IntKind.i64.wrap (ul:Int)=(ul:Int):=yv _ zo;have e4:IntKind.i64.wrap (ur:Int)=(ur:Int):=yv _ zo;have i2:(l:Int)<(n:Int):=zo
  have i3:(r:Int)<(n:Int):=zo;clear x0 x1 x2 x3 Ro IY Pn S8 hur2;go_upto_region 7 with fail;go_cut [12,13] (fun s12 Tm wx=>∃ bx,s12 = zP bx/\Tm = .int .i64 0/\Hd (∃ kx vx,tE W3 wx bx kx vx dl))
  case first =>
    refine wp_region_held_drew (S:=fun W'=>W'.cell? ⟨p,0,none⟩=some (zP M.b)/\W'.cell? ⟨w.heap.size,2,none⟩=some (zS vb n n)/\W'.cell? ⟨vb,l,none⟩=some (.int .u64 (ul:Int))) zab (by exact KS _ (zv.refl [] W3).drew) fun BS=>?_;have Df:=zh ((zv.refl [] W3).drew);generalize W3.drew=X0 at Df BS ⊢;refine ZF 0 ?_;refine ZF 1 ?_;refine ZF 2 ?_;refine ZF 3 ?_;refine ZF 4 ?_;refine ZF 5 ?_;refine ZF 6 ?_;refine ZF 7 ?_;refine ZF 8 ?_;refine ZF 9 ?_;refine zu ?_;refine wR [10,14] ?_;refine wC (fun K hK=>?_) ?_
    (go_simp;refine (CNl _ Df).mono ?_;rintro e X1 ⟨kx,vx,rfl,p1,p2,p4,p5,p6⟩;have Ce:=zh (Df.trans p6);have IS:=zh (zA (qh Df.size p1) (zA (qh Df.size p2) (zA p4 p5)));clear p1 p2 p4 p5 p6)
    refine hK.out _ _ (KS _ Ce) fun BS=>?_;clear hK K;refine zu ?_;refine ZF 11 ?_;refine ZF 12 ?_;refine ZF 13 ?_;refine zu ?_;refine wE 14 (fun K hK=>?_)
    (go_simp;have PB:=zh (zA Ce.size (xo X1 (.cells #[.bool false,.slice none 0 0,.slice none 0 0] 42)));have BZ:=zh (Ce.alloc (.cells #[.bool false,.slice none 0 0,.slice none 0 0] 42));have Fd:=zh (zA IS.1 (zA IS.2.1 (zA (IS.2.2.1.chg ((zv.refl [] X1).alloc (.cells #[.bool false,.slice none 0 0,.slice none 0 0] 42))) (IS.2.2.2.chg ((zv.refl [] X1).alloc (.cells #[.bool false,.slice none 0 0,.slice none 0 0] 42))))));generalize X1.alloc (.cells #[.bool false,.slice none 0 0,.slice none 0 0] 42)=X2 at PB BZ Fd ⊢;generalize X1.heap.size=bx at PB ⊢)
    refine hK.out _ _ (KS _ BZ) fun BS=>?_;clear hK K;refine zu ?_
    rotate_left 1
    refine wD (fun K hK=>?_)
    (go_simp;have Kw:=zh (zA Df.size (xo X0 (.cells #[.bool false,.slice none 0 0,.slice none 0 0] 42)));have Ce:=zh (Df.alloc (.cells #[.bool false,.slice none 0 0,.slice none 0 0] 42));generalize X0.alloc (.cells #[.bool false,.slice none 0 0,.slice none 0 0] 42)=X1 at Kw Ce ⊢;generalize X0.heap.size=bx at Kw ⊢)
    refine hK.out _ _ (KS _ Ce) fun BS=>?_;clear hK K;refine zu ?_;refine wE 10 (fun K hK=>?_)
    (go_simp;refine (CNl _ Ce).mono ?_;rintro e X2 ⟨kx,vx,rfl,p1,p2,p4,p5,p6⟩;have BZ:=zh (Ce.trans p6);have Fd:=zh (zA (qh Ce.size p1) (zA (qh Ce.size p2) (zA p4 p5)));have PB:=zh (zA Kw.1 (p6.kp Kw.2));clear p1 p2 p4 p5 p6)
    refine hK.out _ _ (KS _ BZ) fun BS=>?_;clear hK K;refine zu ?_;refine ZF 11 ?_;refine ZF 12 ?_;refine ZF 13 ?_;refine zu ?_
    rotate_left 1
    all_goals
      have FR:=PB.2;have f0:=xB FR 0;have f1:=xB FR 1;have f2:=xB FR 2;obtain ⟨z0,z1,z2⟩:=Za FR;have HE:=zh (jL BZ FR Fd.2.2.1 Fd.2.2.2 ⟨PB.1,Fd.1,Fd.2.1⟩);clear FR;refine wE 15 fun K hK=>?_;go_simp;refine hK.out _ _ (KS _ HE.c) fun BS=>?_;clear hK K;refine zu ?_
      refine ZF 16 ?_;refine zu ?_;refine wpAnyH_done zab ?_ _;go_wp2_with fail;go_meet;exact ⟨_,rfl,rfl,zh ⟨_,_,HE⟩⟩
  case rest =>
  obtain ⟨W4,rfl⟩:=zE wc;obtain ⟨bx,rfl,rfl,HX⟩:=hcut;obtain ⟨kx,vx,nbx⟩:=HX.o;have Ut:=zh (Ks.frame nbx.c);have HBX:=zh nbx;obtain ⟨x0,x1,x2,x3⟩:=Ut.cells;have IY:=Ut.v.cell GQ.2;rw [show D.v r=ur by rw [HU.2,HR.o]] at IY;have KR:Hd (∀ Y,zv [] W4 Y->Y.cell? ⟨p,0,none⟩=some (zP M.b)/\Y.cell? ⟨w.heap.size,2,none⟩=some (zS vb n n)/\Y.cell? ⟨vb,r,none⟩=some (.int .u64 (ur:Int))):=zh fun Y c=>⟨(c.cell (p:=⟨p,0,none⟩) (yc _ _ x0) zaa).trans x0,(c.cell (p:=⟨w.heap.size,2,none⟩) (yc _ _ x3) zaa).trans x3,(c.cell (p:=⟨vb,r,none⟩) (yc _ _ IY) zaa).trans IY⟩;have CNr:=zh (fun Y (c:zv [] W4 Y)=>Yp (Ut.base.chg c) (x:=ur) (d:=dr) (by rw [HU.2];exact FB.2.2.1));clear x0 x1 x2 x3 IY KS CNl HX nbx Ks;go_upto_region 8 with fail;go_cut [14,15] (fun s12 Tm wx=>∃ bx,s12 = zP bx/\Tm = .int .i64 0/\Hd (∃ kx vx,tE W4 wx bx kx vx dr))
  case first =>
    refine wp_region_held_drew (S:=fun W'=>W'.cell? ⟨p,0,none⟩=some (zP M.b)/\W'.cell? ⟨w.heap.size,2,none⟩=some (zS vb n n)/\W'.cell? ⟨vb,r,none⟩=some (.int .u64 (ur:Int))) zab (by exact KR _ (zv.refl [] W4).drew) fun BS=>?_;have Df:=zh ((zv.refl [] W4).drew);generalize W4.drew=X0 at Df BS ⊢;refine ZF 0 ?_;refine ZF 1 ?_;refine ZF 2 ?_;refine ZF 3 ?_;refine ZF 4 ?_;refine ZF 5 ?_;refine ZF 6 ?_;refine ZF 7 ?_;refine ZF 8 ?_;refine ZF 9 ?_;refine zu ?_;refine wR [10,14] ?_;refine wC (fun K hK=>?_) ?_
    (go_simp;refine (CNr _ Df).mono ?_;rintro e X1 ⟨kx,vx,rfl,p1,p2,p4,p5,p6⟩;have Ce:=zh (Df.trans p6);have IS:=zh (zA (qh Df.size p1) (zA (qh Df.size p2) (zA p4 p5)));clear p1 p2 p4 p5 p6)
    refine hK.out _ _ (KR _ Ce) fun BS=>?_;clear hK K;refine zu ?_;refine ZF 11 ?_;refine ZF 12 ?_;refine ZF 13 ?_;refine zu ?_;refine wE 14 (fun K hK=>?_)
    (go_simp;have PB:=zh (zA Ce.size (xo X1 (.cells #[.bool false,.slice none 0 0,.slice none 0 0] 42)));have BZ:=zh (Ce.alloc (.cells #[.bool false,.slice none 0 0,.slice none 0 0] 42));have Fd:=zh (zA IS.1 (zA IS.2.1 (zA (IS.2.2.1.chg ((zv.refl [] X1).alloc (.cells #[.bool false,.slice none 0 0,.slice none 0 0] 42))) (IS.2.2.2.chg ((zv.refl [] X1).alloc (.cells #[.bool false,.slice none 0 0,.slice none 0 0] 42))))));generalize X1.alloc (.cells #[.bool false,.slice none 0 0,.slice none 0 0] 42)=X2 at PB BZ Fd ⊢;generalize X1.heap.size=bx at PB ⊢)
    refine hK.out _ _ (KR _ BZ) fun BS=>?_;clear hK K;refine zu ?_
    rotate_left 1
    refine wD (fun K hK=>?_)
    (go_simp;have Kw:=zh (zA Df.size (xo X0 (.cells #[.bool false,.slice none 0 0,.slice none 0 0] 42)));have Ce:=zh (Df.alloc (.cells #[.bool false,.slice none 0 0,.slice none 0 0] 42));generalize X0.alloc (.cells #[.bool false,.slice none 0 0,.slice none 0 0] 42)=X1 at Kw Ce ⊢;generalize X0.heap.size=bx at Kw ⊢)
    refine hK.out _ _ (KR _ Ce) fun BS=>?_;clear hK K;refine zu ?_;refine wE 10 (fun K hK=>?_)
    (go_simp;refine (CNr _ Ce).mono ?_;rintro e X2 ⟨kx,vx,rfl,p1,p2,p4,p5,p6⟩;have BZ:=zh (Ce.trans p6);have Fd:=zh (zA (qh Ce.size p1) (zA (qh Ce.size p2) (zA p4 p5)));have PB:=zh (zA Kw.1 (p6.kp Kw.2));clear p1 p2 p4 p5 p6)
    refine hK.out _ _ (KR _ BZ) fun BS=>?_;clear hK K;refine zu ?_;refine ZF 11 ?_;refine ZF 12 ?_;refine ZF 13 ?_;refine zu ?_
    rotate_left 1
    all_goals
      have FR:=PB.2;have f0:=xB FR 0;have f1:=xB FR 1;have f2:=xB FR 2;obtain ⟨z0,z1,z2⟩:=Za FR;have HE:=zh (jL BZ FR Fd.2.2.1 Fd.2.2.2 ⟨PB.1,Fd.1,Fd.2.1⟩);clear FR;refine wE 15 fun K hK=>?_;go_simp;refine hK.out _ _ (KR _ HE.c) fun BS=>?_;clear hK K;refine zu ?_
      refine ZF 16 ?_;refine zu ?_;refine wpAnyH_done zab ?_ _;go_wp2_with fail;go_meet;exact ⟨_,rfl,rfl,zh ⟨_,_,HE⟩⟩
  case rest =>
  obtain ⟨W5,rfl⟩:=zE wc;obtain ⟨by_,rfl,rfl,HY⟩:=hcut;obtain ⟨ky,vy,Tj⟩:=HY.o;have Tx:=zh (Ut.frame Tj.c);obtain ⟨Cx,rkx,rvx⟩:=HBX.chg Tj.c;have HX5:=zh (zA Cx (zA rkx (zA rvx Tj)));have D5:=Tj.b;obtain ⟨okl,okr,hlf,nl2,nr2,Il,hp1,hp2⟩:=FB.1.cat_ok hM FB.2.1 FB.2.2.1;have cj:=px okl okr rkx rvx Tj.k Tj.v hlf zo zo Il;have n7l:=okl.n;have n7r:=okr.n;have HP:=zh (zA hp1 (zA hp2 (zA okl okr)));obtain ⟨t,ht⟩:=zE (dl.n+dr.n);obtain ⟨CK,hCK⟩:=zE ((dl.cat dr).k);obtain ⟨CV,hCV⟩:=zE ((dl.cat dr).v);rw [<- ht,<- hCK,<- hCV] at cj;have I2:=zh (zA hCK (zA hCV ht));rw [<- ht,<- hCK,<- hCV] at HP;have ht14:4<=t/\t<=14:=zo
  obtain ⟨lf,N5⟩:=zE dl.leaf;rw [hlf,<- N5] at cj D5;rw [<- N5] at Cx HP;have EO:=zh N5;have CJ:=zh cj;obtain ⟨a0,a1,a2⟩:=Za Cx;obtain ⟨b0,b1,b2⟩:=Za D5
  clear KR CNr HY Ut rkx rvx Tj okl okr hlf nl2 nr2 Il hp1 hp2 cj n7l n7r ht hCK hCV N5 Cx D5;go_wp2_with fail;refine CJ.mono ?_;clear CJ;rintro e w6 ⟨EP,hj6⟩
  have h6:∃ (len sb n1 ga ca gb cb:Nat),e = .returned (.tuple #[zS sb len len,.int .i64 0])/\W5.heap.size<=sb/\1<=len/\zV lf n1 n1 CK CV=true/\n1<=7/\w6.cell? ⟨sb,0,none⟩=some (.bool lf)/\w6.cell? ⟨sb,1,none⟩=some (zS ga n1 ca)/\w6.cell? ⟨sb,2,none⟩=some (zS gb n1 cb) /\
      Hd (xP W5.heap.size w6 (zS ga n1 ca) n1 CK/\xP W5.heap.size w6 (zS gb n1 cb) n1 CV) /\
      ((len=1/\t<=7/\n1=t)∨(len=2/\8<=t/\n1=(t+1) / 2/\zV lf (t - n1) (t - n1) (fun j=>CK (n1+j)) (fun j=>CV (n1+j))=true/\∃ (gc cc gd cd:Nat),w6.cell? ⟨sb,3,none⟩=some (.bool lf)/\w6.cell? ⟨sb,4,none⟩=some (zS gc (t - n1) cc)/\w6.cell? ⟨sb,5,none⟩=some (zS gd (t - n1) cd) /\
        Hd (xP W5.heap.size w6 (zS gc (t - n1) cc) (t - n1) (fun j=>CK (n1+j))/\xP W5.heap.size w6 (zS gd (t - n1) cd) (t - n1) (fun j=>CV (n1+j))))):=by
    rcases hj6 with ⟨h7,sb,vk,vv,rfl,l1,D8,⟨ga,ca,rfl,ra⟩,⟨gb,cb,rfl,rb⟩⟩ | ⟨h7,k,sb,v1,v2,v3,v4,hk,rfl,l1,D8,⟨ga,ca,rfl,ra⟩,⟨gb,cb,rfl,rb⟩,⟨gc,cc,rfl,rc⟩,⟨gd,cd,rfl,rd⟩⟩
    · exact ⟨1,sb,t,ga,ca,gb,cb,rfl,l1,xd _,HP.1 h7,h7,(zM D8 0).trans rfl,(zM D8 1).trans rfl,(zM D8 2).trans rfl,zh ⟨⟨ga,ca,rfl,ra⟩,⟨gb,cb,rfl,rb⟩⟩,.inl ⟨rfl,h7,rfl⟩⟩
    · have:=HP.2.1 k zo zo zo zo
      exact ⟨2,sb,k,ga,ca,gb,cb,rfl,l1,zo,this.1,zo,(zM D8 0).trans rfl,(zM D8 1).trans rfl,(zM D8 2).trans rfl,zh ⟨⟨ga,ca,rfl,ra⟩,⟨gb,cb,rfl,rb⟩⟩,.inr ⟨rfl,zo,hk,this.2,gc,cc,gd,cd,(zM D8 3).trans rfl,(zM D8 4).trans rfl,(zM D8 5).trans rfl,zh ⟨⟨gc,cc,rfl,rc⟩,⟨gd,cd,rfl,rd⟩⟩⟩⟩
  clear hj6;obtain ⟨len,sb,n1,ga,ca,gb,cb,rfl,l1,B9,ER,hn17,s0,s1,s2,GF,Po⟩:=h6;have HJ6:=zh (Tx.frame EP);have hp5:p<W5.heap.size:=Tx.lt p (by simp [Tx.hp]);have HW5:=zh Tx.c.size;have FA:=zh (fun q hq=>Tx.base.ltL hq:∀ q,q∈M.L->q<W5.heap.size);have HW:=zh (zA ER (zA Po l1));clear ER Po EP Tx a0 a1 a2 b0 b1 b2;have cf:=zh (qD HJ6.ch);go_wp2_with fail;refine cf.mono ?_;clear cf;rintro e w7 ⟨rfl,hg7,E9⟩;have cf:=zh (qD hg7);have H7:=zh E9;clear hg7 E9;go_wp2_with fail;refine cf.mono ?_;clear cf;rintro e w8 ⟨rfl,P4,DO⟩;have cf:=zh (qD P4);have H8:=zh (H7.trans DO);clear P4 DO H7;go_wp2_with fail;refine cf.mono ?_;clear cf;rintro e w9 ⟨rfl,TY,FU⟩;have H9:=zh (H8.trans FU);have HJ9:=zh (HJ6.call (H9.mo) (HJ6.base.chg H9 (fun q hq=>by rw [zms] at hq;rw [hq];simp [HJ6.hp])) TY);have Gx:∀ (o:Nat) (u:Value),w6.cell? ⟨sb,o,none⟩=some u->w9.cell? ⟨sb,o,none⟩=some u:=fun o u h=>(H9.cell (p:=⟨sb,o,none⟩) (yc _ _ h) zad).trans h;have HSP:=zh Gx;have t0:=Gx 0 _ s0;have t1:=Gx 1 _ s1;have t2:=Gx 2 _ s2;obtain ⟨x0,x1,x2,x3⟩:=HJ9.cells;have Ro:=HJ9.v.cell GQ.1;rw [<- HU.1] at Ro;have Kl:=GF.o;have T3:=HJ9.frame (zv.refl [] w9).drew
  have cs:=QU T3.base T3.lt (by simp [T3.hp]) T3.ch (x:=ul) (A:=[]) (leaf:=lf) (n:=n1) (keys:=CK) (vals:=CV) (by rw [HU.1];exact FB.1.is (.inl rfl))
    (((Kl.1.chg (H9.trans (zv.refl [p] w9).drew) zad).nums)) (((Kl.2.chg (H9.trans (zv.refl [p] w9).drew) zad).nums)) HW.1
  have CS:=zh cs;have Uu:=zh T3;have hlen0:0<len:=B9;clear TY FU H8 Gx s0 s1 s2 T3 cs Kl;go_upto_region 12 with fail;refine wp_region_held_drew (S:=fun W'=>W'.cell? ⟨w.heap.size,2,none⟩=some (zS vb n n)/\W'.cell? ⟨vb,l,none⟩=some (.int .u64 (ul:Int))/\W'.cell? ⟨sb,0,none⟩=some (.bool lf)/\W'.cell? ⟨sb,1,none⟩=some (zS ga n1 ca)/\W'.cell? ⟨sb,2,none⟩=some (zS gb n1 cb)) zab (by exact ⟨x3,Ro,t0,t1,t2⟩) fun BS=>?_;refine dD 0 ?_;refine dD 1 ?_;refine dD 2 ?_;refine dD 3 ?_;refine dD 4 ?_;refine dD 5 ?_;refine dD 6 ?_;refine dD 7 ?_;refine dD 8 ?_;refine dD 9 ?_;refine zu ?_
  refine wE 10 (fun K hK=>?_)
  (go_simp;refine CS.mono ?_;rintro e LR ⟨rfl,Wm,WW,NO⟩;have GJ:=zh (Uu.call NO Wm WW);have Gx:∀ (o:Nat) (u:Value),w9.cell? ⟨sb,o,none⟩=some u->LR.cell? ⟨sb,o,none⟩=some u:=fun o u h=>(NO.cell (p:=⟨sb,o,none⟩) (yc _ _ h) (fun hm=>(ya.1 hm).elim (fun e=>absurd e (by have h6:=HW.2.2;show ¬ sb=p;omega)) (fun e=>absurd (FA _ e) (by have h6:=HW.2.2;show ¬ sb<W5.heap.size;omega)))).trans h;have z0:=Gx 0 _ t0;have z1:=Gx 1 _ t1;have z2:=Gx 2 _ t2;have z3:=GJ.cells.2.2.2;have z4:=GJ.v.cell GQ.1;rw [<- HU.1] at z4;have RC:=zh NO;have RR:=zh Gx;clear Wm WW NO Gx)
  refine hK.out _ _ (⟨z3,z4,z0,z1,z2⟩) fun BS=>?_;clear hK K;refine zu ?_;refine wpAnyH_done zab ?_ _;clear x0 x1 x2 x3 Ro t0 t1 t2 z0 z1 z2 z3 z4 CS Uu HJ9;obtain ⟨ER,Po,hl6⟩:=HW.o;rcases Po with ⟨rfl,h7,Mz⟩ | ⟨rfl,h8,Mz,SW,gc,cc,gd,cd,s3,s4,s5,GT⟩
  · -- DEV<
    obtain ⟨da,WO,g1,g2,g3,g4⟩:=YQ ER GF.1.lt GF.2.lt;have ej:da.Lk (dl.cat dr):=⟨g1.trans EO.o,by rw [g2,Mz,I2.2.2];rfl,fun i hi=>by rw [g3 i (by rw [Mz,I2.2.2];exact hi),I2.1],fun i hi=>by rw [g4 i (by rw [Mz,I2.2.2];exact hi),I2.2.1]⟩;obtain ⟨Ez,Iy,Fj⟩:=FB.1.join1 zo FB.2.1 FB.2.2.1 (fun i _=>XU lf zo _ _ i) WO ej;rw [<- HU.1,<- HU.2] at Ez Iy;have FX:=GJ.frame (zv.refl [] LR).drew;have cd:=QN FX.base FX.lt (ur:Int);rw [Ez] at cd;have CD:=zh cd;have Fc:=zh FX;have FA:=zh (zA Iy (zA Fj FA));obtain ⟨x0,x1,x2,x3⟩:=GJ.cells;have IY:=GJ.v.cell GQ.2;rw [show D.v r=ur by rw [HU.2,HR.o]] at IY;clear Ez Iy Fj ej WO g1 g2 g3 g4 FX cd ER GF;go_upto_region 17 with fail;refine wp_region_held_drew (S:=fun W'=>W'.cell? ⟨p,0,none⟩=some (zP M.b)/\W'.cell? ⟨w.heap.size,2,none⟩=some (zS vb n n)/\W'.cell? ⟨vb,r,none⟩=some (.int .u64 (ur:Int))) zab (by exact ⟨x0,x3,IY⟩) fun BS=>?_;refine de 0 ?_;refine de 1 ?_;refine de 2 ?_;refine de 3 ?_;refine de 4 ?_;refine de 5 ?_;refine de 6 ?_;refine de 7 ?_;refine de 8 ?_;refine de 9 ?_;refine de 10 ?_;refine zu ?_
    refine wE 11 (fun K hK=>?_)
    (go_simp;refine CD.mono ?_;rintro e MQ ⟨rfl,Mc,FT⟩;have Ew:=zh (Fc.call (FT.mono (fun q hq=>zco _ hq)) Mc (Fc.ch.chg FT (Fc.base.notL (by simp [Fc.hp]))));obtain ⟨z0,z1,z2,z3⟩:=Ew.cells;have zr:=Ew.v.cell GQ.2;rw [show D.v r=ur by rw [HU.2,HR.o]] at zr;clear Mc FT)
    refine hK.out _ _ (⟨z0,z3,zr⟩) fun BS=>?_;clear hK K;refine zu ?_;refine wE 12 (fun K hK=>?_)
    (go_simp;refine (qD Ew.ch).mono ?_;rintro e MR ⟨rfl,WY,Sr⟩;have Gf:=zh (Ew.call (Sr.mo) (Ew.base.chg Sr (fun q hq=>by rw [zms] at hq;rw [hq];simp [Ew.hp])) WY);obtain ⟨v0,v1,v2,v3⟩:=Gf.cells;have vr:=Gf.v.cell GQ.2;rw [show D.v r=ur by rw [HU.2,HR.o]] at vr;clear WY Sr)
    refine hK.out _ _ (⟨v0,v3,vr⟩) fun BS=>?_;clear hK K;refine zu ?_;refine wpAnyH_done zab ?_ _;clear z0 z1 z2 z3 zr vr x0 x1 x2 x3 IY CD Fc Ew GJ;have Dz:=Gf.k.cell GQ.2;have HW12:=zh (show w.heap.size+1<MR.drew.heap.size from Gf.lt (w.heap.size+1) zaa);have ct:=eY (w:=MR.drew) (d:=⟨false,n,D.k,D.v⟩) ⟨n7,fun i hi=>(Gf.k.nums i hi).2,fun i hi=>(Gf.v.nums i hi).2,by have:=(Yo.1 FB.1.good).2.2.2;rw [HD.2.1] at this;exact this,fun _=>by have:=(Yo.1 FB.1.good).2.2.1;rw [HD.2.1] at this;exact this⟩ (Gf.k.chg (zv.refl [] MR).drew zaa) (Gf.v.chg (zv.refl [] MR).drew zaa) (i:=r) GQ.2 (.inr hn);have CT:=zh ct;clear ct;go_upto_region 18 with fail;refine JA [11] (fun W'=>W'.cell? ⟨w.heap.size,0,none⟩=some (.bool false)/\W'.cell? ⟨w.heap.size,1,none⟩=some (zS kb n n)/\W'.cell? ⟨w.heap.size,2,none⟩=some (zS vb n n)/\W'.cell? ⟨kb,r,none⟩=some (.int .u64 (D.k r:Int))) zab (by exact ⟨v1,v2,v3,Dz⟩) fun BS=>?_;refine gR 1 fun BS=>?_;refine zu ?_
    refine gR 3 fun BS=>?_;refine zu ?_;refine Ay 0 (fun BS=>?_) (hy:=by intro W' ⟨y0,y1,y2,y3⟩;go_simp;first | done | with_reducible rfl);refine zu ?_;refine Ay 2 (fun BS=>?_) (hy:=by intro W' ⟨y0,y1,y2,y3⟩;go_simp;first | done | with_reducible rfl);refine zu ?_;refine gR 4 fun BS=>?_;refine zu ?_;refine Ay 5 (fun BS=>?_) (hy:=by intro W' ⟨y0,y1,y2,y3⟩;go_simp;first | done | with_reducible rfl);refine zu ?_;refine lS 6 (fun K hK=>?_)
    (go_simp;refine CT.mono ?_;rintro e w13 ⟨vk,vv,rfl,ok1,ok2,K0⟩;obtain ⟨ak,ck,rfl⟩:=ok1.len;obtain ⟨av,cv,rfl⟩:=ok2.len;have E5:=zh ((Gf.frame (zv.refl [] MR).drew).frame K0);have D3:=zh (zA ok1 ok2);obtain ⟨z0,z1,z2,z3⟩:=E5.cells;have zk:=E5.k.cell GQ.2;clear ok1 ok2 K0)
    refine hK.out _ _ (fun _ _=>⟨z1,z2,z3,zk⟩) fun BS=>?_;clear hK K;refine zu ?_;refine gR 7 fun BS=>?_;refine zu ?_;refine gR 8 fun BS=>?_;refine zu ?_;refine gR 9 fun BS=>?_;refine zu ?_;refine gR 10 fun BS=>?_;refine zu ?_;have Cp:=E5.nd;have f0:=xB Cp 0;have f1:=xB Cp 1;have f2:=xB Cp 2;clear Cp;refine lS 11 fun K hK=>?_;go_simp;refine hK.out _ _ (fun h=>absurd h zaf) fun BS=>?_;clear hK K;refine zu ?_
    refine gR 12 fun BS=>?_;refine zu ?_;refine Xw zab ?_ _;have N13:=E5.ne;have cC:=xn w13 w.heap.size (.bool false) (.slice ak (n - 1) ck) (.slice av (n - 1) cv);have Cp:=JP E5.nd (.bool false) (.slice ak (n - 1) ck) (.slice av (n - 1) cv);have WZ:=E5.ch.chg cC (by simpa using Ne.symm N13.2.2.1);have Pg:=cC.kp E5.rs;have Px:=zh (zA Cp (zA cC Pg));have cf:=zh (qD WZ);clear Cp cC WZ Pg v0 v1 v2 v3 z0 z1 z2 z3 zk f0 f1 f2 Dz CT Gf;obtain ⟨W14,Sk⟩:=zE (((w13.setCell ⟨w.heap.size,0,none⟩ (.bool false)).setCell ⟨w.heap.size,1,none⟩ (.slice ak (n - 1) ck)).setCell ⟨w.heap.size,2,none⟩ (.slice av (n - 1) cv));rw [<- Sk] at Px cf;go_upto_region 19 with fail;rw [<- Sk];clear Sk;go_wp2_with fail;refine cf.mono ?_;clear cf;rintro e w15 ⟨rfl,W9,In⟩;have hn15:=(In.block _ (zz Px.1) (by simpa using N13.2.2.1)).trans Px.1;have Fz:=(In.block _ (zz Px.2.2) (by simpa using N13.2.2.2.1)).trans Px.2.2;have Ul:=zh (zA W9 (zA In Fz));obtain ⟨b0,b1,b2⟩:=Za hn15;obtain ⟨r0,r1,r2⟩:=Za Fz;have f0:=xB Fz 0;have f1:=xB Fz 1;have f2:=xB Fz 2;clear W9 In Fz hn15;go_wp2_with fail;have cE:=xn w15 (w.heap.size+1) (.bool false) (.slice ak (n - 1) ck) (.slice av (n - 1) cv)
    have hpw:=E5.far.2.2.2 p E5.hp;have hb13:=E5.c.size
    have BT:∀ {u:Value} {f:zF} {A:List Nat},(∀ q,q∈A->q<w.heap.size/\q≠kb/\q≠vb)->qw MR.drew.heap.size w13 u (n - 1) f->zT A (((w15.setCell ⟨w.heap.size+1,0,none⟩ (.bool false)).setCell ⟨w.heap.size+1,1,none⟩ (.slice ak (n - 1) ck)).setCell ⟨w.heap.size+1,2,none⟩ (.slice av (n - 1) cv)) u (n - 1) f:=fun hA h=>by
      have h1:w.heap.size+1<MR.drew.heap.size:=HW12.o;exact (((h.chg Px.2.1 zad).chg Ul.2.1 zad).chg cE zad).nums (fun q hq=>by have:=hA q hq;omega)
    refine bodyPost_ret (VU (a:=6) zab rfl (Ju (JP Ul.2.2 _ _ _))) rfl ⟨_,_,n - 1,qS D.k r,qS D.v r,(B3.over ul (xg lf n1 CK CV)).down (ur:Int),rfl,fun A hA=>⟨BT hA D3.1,BT hA D3.2⟩,?_,?_,?_,?_,?_,?_⟩
    · exact (((E5.base.chg Px.2.1).chg Ul.2.1 (by simp [E5.hp])).chg cE).sub fun q hq=>zco _ (zco _ hq)
    · exact Ul.1.chg cE (by simpa using Ne.symm N13.2.2.2.1)
    · exact ((E5.c.tn Px.2.1 (xd _)).trans (Ul.2.1.mo)).tn cE (Nat.le_succ _)
    · have:=FA.2.1
      rw [<- HR.o,HD.2.1] at this;exact this
    · refine FA.1.imp fun d' h=>⟨h.leaf.trans ?_,h.n.trans ?_,fun q hq=>?_,fun q hq=>?_⟩
      · show false=D.leaf
        rw [FB.1.vk.leaf]
      · show n - 1=D.n - 1
        rw [HD.2.1]
      · have:=h.k q (by rw [<- HD.2.1];exact hq)
        rw [<- HR.o];exact this
      · have:=h.v q (by rw [<- HD.2.1];exact hq)
        rw [<- HR.o];exact this
    · have:=FB.2.2.2
      rw [<- HN.o] at this;omega
  · obtain ⟨da,WO,g1,g2,g3,g4⟩:=YQ ER GF.1.lt GF.2.lt
    obtain ⟨db,Na,k1,k2,k3,k4⟩:=YQ SW GT.1.lt GT.2.lt;have ea:da.Lk ((dl.cat dr).sub 0 n1):=⟨g1.trans EO.o,g2,fun i hi=>by rw [g3 i hi,I2.1];show _=(dl.cat dr).k (0+i);rw [yn],fun i hi=>by rw [g4 i hi,I2.2.1];show _=(dl.cat dr).v (0+i);rw [yn]⟩;have eb:db.Lk ((dl.cat dr).sub n1 (dl.n+dr.n - n1)):=⟨k1.trans EO.o,k2.trans (by rw [I2.2.2];rfl),fun i hi=>by rw [k3 i (by rw [I2.2.2];exact hi),I2.1];rfl,fun i hi=>by rw [k4 i (by rw [I2.2.2];exact hi),I2.2.1];rfl⟩;have Ub:=I2.2.2;obtain ⟨Iy,Fj⟩:=FB.1.join2 zo FB.2.1 FB.2.2.1 (fun i _=>XU lf zo _ _ i) (fun i _=>XU lf zo _ _ i) (k:=n1) zo zo WO ea Na eb;rw [<- HU.1,<- HU.2] at Iy;have FX:=GJ.frame (zv.refl [] LR).drew;have Kl:=GT.o
    have cs:=QU FX.base FX.lt (by simp [FX.hp]) FX.ch (x:=ur) (A:=[]) (leaf:=lf) (n:=t - n1) (keys:=fun j=>CK (n1+j)) (vals:=fun j=>CV (n1+j)) (by
        rw [tF (by rw [HU.1,HU.2];exact fun e=>FB.1.ne e.symm),HU.2];exact FB.1.is (.inr rfl))
      ((Kl.1.chg ((H9.mono (L':=p::M.L) zaa).drew.trans RC).drew (fun q hq => .inl (by
        rcases ya.1 hq with rfl | hq
        · exact hp5
        · exact FA q hq))).nums) ((Kl.2.chg ((H9.mono (L':=p::M.L) zaa).drew.trans RC).drew (fun q hq => .inl (by
        rcases ya.1 hq with rfl | hq
        · exact hp5
        · exact FA q hq))).nums) SW
    have CS:=zh cs;have Fc:=zh FX;have HMY:=zh (zA Iy Fj);obtain ⟨x0,x1,x2,x3⟩:=GJ.cells;have IY:=GJ.v.cell GQ.2;rw [show D.v r=ur by rw [HU.2,HR.o]] at IY;have t3:=RR _ _ (HSP _ _ s3);have t4:=RR _ _ (HSP _ _ s4);have t5:=RR _ _ (HSP _ _ s5);clear Iy Fj ea eb WO Na g1 g2 g3 g4 k1 k2 k3 k4 FX cs Kl ER SW s3 s4 s5 Ub;have hsw:w.heap.size<=W5.heap.size:=HW5.o;have hn1p:n1<=t/\4<=n1/\3<=t - n1:=zo
    clear Mz;go_upto_region 14 with fail;refine wp_region_held_drew (S:=fun W'=>W'.cell? ⟨w.heap.size,2,none⟩=some (zS vb n n)/\W'.cell? ⟨vb,r,none⟩=some (.int .u64 (ur:Int))/\W'.cell? ⟨sb,3,none⟩=some (.bool lf)/\W'.cell? ⟨sb,4,none⟩=some (zS gc (t - n1) cc)/\W'.cell? ⟨sb,5,none⟩=some (zS gd (t - n1) cd)) zab (by exact ⟨x3,IY,t3,t4,t5⟩) fun BS=>?_;refine dD 0 ?_;refine dD 1 ?_;refine dD 2 ?_;refine dD 3 ?_;refine dD 4 ?_;refine dD 5 ?_;refine dD 6 ?_;refine dD 7 ?_;refine dD 8 ?_;refine dD 9 ?_;refine zu ?_
    refine wE 10 (fun K hK=>?_)
    (go_simp;refine CS.mono ?_;rintro e MQ ⟨rfl,Mc,WX,FT⟩;have Ew:=zh (Fc.call FT Mc WX);have Gx:∀ (o:Nat) (u:Value),LR.cell? ⟨sb,o,none⟩=some u->MQ.cell? ⟨sb,o,none⟩=some u:=fun o u h=>(FT.cell (p:=⟨sb,o,none⟩) (yc _ _ h) (fun hm=>(ya.1 hm).elim (fun e=>absurd e (by show ¬ sb=p;omega)) (fun e=>absurd (FA _ e) (by show ¬ sb<W5.heap.size;omega)))).trans h;have z0:=Gx 3 _ t3;have z1:=Gx 4 _ t4;have z2:=Gx 5 _ t5;have z3:=Ew.cells.2.2.2;have z4:=Ew.v.cell GQ.2;rw [show D.v r=ur by rw [HU.2,HR.o]] at z4;have HRC:=zh (GT.1.chg (((H9.mono (L':=p::M.L) zaa).drew.trans RC).drew.trans FT) (fun q hq => .inl ((ya.1 hq).elim (fun e=>by rw [e];exact hp5) (fun e=>FA q e))));clear Mc WX FT Gx)
    refine hK.out _ _ (⟨z3,z4,z0,z1,z2⟩) fun BS=>?_;clear hK K;refine zu ?_;refine wpAnyH_done zab ?_ _;obtain ⟨_,_,eg,_,_,hgc,SX⟩:=HRC.o;injection eg with eg _ _;injection eg with eg;injection eg with eg _ _;subst eg;have Ch:=SX.cell (i:=0) zo;have IV:=SX.lt;have htr:0<t - n1:=zo
    obtain ⟨Ue,N2⟩:=zE (CK (n1+0));rw [<- N2] at Ch;have hky64:Ue<18446744073709551616:=by rw [N2];exact (SX.nums 0 zo).2
    have HKY:=zh N2;have Dz:=Ew.k.cell GQ.2;have hkf:=Ew.k.fz r;have x1:=Ew.cells.2.2.1
    have BU:gc≠kb/\sb≠kb:=by
      have h1:=Ew.far.2.2.2 kb Ew.hk;omega
    clear x0 x2 x3 IY t3 t4 t5 z0 z2 z3 z4 CS Fc N2 SX HRC;go_upto_region 15 with fail;refine wp_region_held_drew (S:=fun W'=>W'.cell? ⟨w.heap.size,1,none⟩=some (zS kb n n)/\W'.cell? ⟨sb,4,none⟩=some (zS gc (t - n1) cc)/\W'.cell? ⟨gc,0,none⟩=some (.int .u64 (Ue:Int))) zab (by exact ⟨x1,z1,Ch⟩) fun BS=>?_;refine de 0 ?_;refine de 1 ?_;refine de 2 ?_;refine de 3 ?_;refine de 4 ?_;refine de 5 ?_;refine de 6 ?_;refine de 7 ?_;refine de 8 ?_;refine de 9 ?_;refine zu ?_
    have DR:=zh ((Ew.frame (zv.refl [] MQ).drew).setK GQ.2 hky64);have q1:=DR.cells.2.2.1;have cK:zv [kb] MQ.drew (MQ.drew.setCell ⟨kb,r,none⟩ (.int .u64 (Ue:Int))):=(zv.refl [kb] MQ.drew).setCell (.inl zaa) _;have q2:=(cK.cell (p:=⟨sb,4,none⟩) (yc _ _ z1) (by simpa using BU.2)).trans z1;have q3:=(cK.cell (p:=⟨gc,0,none⟩) (yc _ _ Ch) (by simpa using BU.1)).trans Ch;refine wE 10 fun K hK=>?_;go_simp;refine hK.out _ _ (⟨q1,q2,q3⟩) fun BS=>?_;clear hK K;refine zu ?_
    refine wpAnyH_done zab ?_ _;clear q1 q2 q3 cK Ch Dz hkf x1 z1
    change Hd (gS _ _ _ _ _ _ _ _ _ _ _ _ _ _ _ _ ((MQ.setCell ⟨kb,r,none⟩ (.int .u64 (Ue:Int))).drew)) at DR
    obtain ⟨W15,Sl⟩:=zE ((MQ.setCell ⟨kb,r,none⟩ (.int .u64 (Ue:Int))).drew);rw [<- Sl] at DR;go_upto_region 16 with fail;rw [<- Sl];clear Sl;obtain ⟨b0,b1,b2,b3⟩:=DR.cells;have Fz:=DR.rs;have N15:=DR.ne;obtain ⟨r0,r1,r2⟩:=Za Fz;have f0:=xB Fz 0;have f1:=xB Fz 1;have f2:=xB Fz 2;clear Fz;go_wp2_with fail;have cE:=xn W15 (w.heap.size+1) (.bool false) (zS kb n n) (zS vb n n);have h1:=DR.far.2.2.2 p DR.hp;have h2:=DR.far.2.2.2 kb DR.hk;have h3:=DR.far.2.2.2 vb DR.hv;have Cy:=DR.k.chg cE zad;have Ge:=DR.v.chg cE zad;refine bodyPost_ret (VU (a:=6) zab rfl (Ju (JP DR.rs _ _ _))) rfl ⟨_,_,n,_,_,(B3.over ul (xg lf n1 CK CV)).over ur (xg lf (t - n1) (fun j=>CK (n1+j)) (fun j=>CV (n1+j))),rfl,fun A hA=>⟨Cy.numsIn zo (fun hm=>(hA _ hm).2.1 rfl) (fun i hi=>(DR.k.nums i hi).2),Ge.numsIn zo (fun hm=>(hA _ hm).2.2 rfl) (fun i hi=>(DR.v.nums i hi).2)⟩,?_,?_,?_,?_,?_,?_⟩
    · exact (DR.base.chg cE).sub fun q hq=>zco _ (zco _ hq)
    · exact DR.ch.chg cE zad
    · exact DR.c.tn cE (Nat.le_succ _)
    · have:=HMY.2
      rw [HD.2.1] at this;rw [HR.o,HKY.o,Nat.add_zero,I2.1];exact this
    · refine HMY.1.imp fun d' h=>⟨h.leaf.trans ?_,h.n.trans ?_,fun q hq=>?_,fun q hq=>?_⟩
      · show false=D.leaf
        rw [FB.1.vk.leaf]
      · show n=D.n
        rw [HD.2.1]
      · have:=h.k q (by rw [<- HD.2.1];exact hq)
        rw [this]
        show (if q=r then Ue else D.k q)=if q=l+1 then (dl.cat dr).k n1 else D.k q
        rw [HR.o,HKY.o,I2.1];rfl
      · exact h.v q (by rw [<- HD.2.1];exact hq)
    · have:=FB.2.2.2
      rw [<- HN.o] at this;omega
theorem AJ (ok:B.Ok) (v:VR B (c+1) d lo hi) (hd:d.Ok) (hn:0<d.n) (h:(key,val)∈VA B (c+1) d):d.at_ key<d.n/\(key,val)∈zR B c (d.v (d.at_ key):Int):=by
 obtain ⟨a1,a2,a3⟩:=hd.at_lt (key:=key) (by rw [v.leaf];rfl) hn;refine ⟨a1,?_⟩;obtain ⟨j,hj,hm⟩:=yH.1 h;have hj:=ye.1 hj;have hb:=(Y3 ok (v.kid c rfl j hj).2.2).1 _ hm;by_cases e:j=d.at_ key
 ·subst e;exact hm
 ·by_cases BY:j<d.at_ key
  ·have:=Xt hd BY a1 hb.2
   have:=a2 zo;simp only at *;omega
  ·have:=a3 j zo hj
   simp only at *;omega
section
variable {N G:Nat} {B:Bs} {ht:Ht} {BR:Nat->Nat} {x c y z m v key:Nat} {d:Nd} {B1 B2:Bs} {Ct Cg:Ht}
theorem qf.may1 (o:qf N G B ht BR x (c+1) d y B1 Ct) (hc:c+1<100) (hM:N<=4096) (hi':i<d.n) (hr:zG B (c+1) (x:Int) lo hi least=true) (q:Xk N G B1 (zY Ct y none) (fun b=>xA (xt BR x) y b+xi d b) (d.v i) c key (d.k i) (d.hi hi i) z m v B2 Cg) (hm:3<=m) :
  Xd (fun d'=>d'.Lk ⟨false,d.n,d.k,(d.upd i z).v⟩) N G B ht BR x (c+1) key lo hi y v B2/\zV false d.n d.n d.k (d.upd i z).v=true/\least<=d.n+1:=by
 obtain ⟨W2,_⟩:=o.took_work hc hi' q;obtain ⟨hl,v1,_,_⟩:=o.seen hc hr;refine ⟨⟨W2.at_.2.2.2.2.2.2,fun {g d'} hg hd e=>⟨_,(o.took1 hc hi' hr q hm hg hd (d':=d') ⟨e.leaf.trans ?_,e.n,e.k,e.v⟩).1⟩⟩,o.took_right hc hM hi' hr q,zo⟩
 show false=d.leaf
 rw [v1.leaf];rfl
theorem qf.may0 (o:qf N G B ht BR x 0 d y B1 Ct) (hi':i<d.n) (hr:zG B 0 (x:Int) lo hi least=true) :
  Xd (fun d'=>d'.Lk ⟨true,d.n - 1,qS d.k i,qS d.v i⟩) N G B ht BR x 0 (d.k i) lo hi y (d.v i) B1/\zV true (d.n - 1) (d.n - 1) (qS d.k i) (qS d.v i)=true/\least<=d.n - 1+1:=by
 obtain ⟨_,_,d0,Ez,nd⟩:=o.gr.node _ _ o.top;obtain rfl:d=d0:=yj (o.node.symm.trans Ez);have hlf:d.leaf=true:=nd.leaf;have h:=(o.gr.pg (o.gr.lt o.top).1 o.node).1;rw [hlf] at h;have Fj:zG B1 0 (y:Int) lo hi least=true:=(o.same.1 lo hi least).trans hr;obtain ⟨d0,Ez,Dt,v0,a0⟩:=VR.of o.gr.good.ok Fj;obtain rfl:d=d0:=yj (o.node.symm.trans Ez);refine ⟨⟨o.is,fun {g d'} hg hd e=>⟨zY (zY Ct y none) y (some 0),?_⟩⟩,by rw [fj h hi'];rfl,zo⟩;have:=(o.took0 hr hi' rfl hg hd (d':=d') ⟨e.leaf.trans hlf.symm,e.n,e.k,e.v⟩).1;rw [show d'.n=d.n - 1 from e.n];exact this
theorem Xd.laid {lf:Bool} {n:Nat} {K V:zF} {B4:Bs} (h:Xd (fun d'=>d'.Lk ⟨lf,n,K,V⟩) N G B ht BR x c key lo hi y v B4) (hb:zV lf n n K V=true) (hk:∀ i,i<n->K i<18446744073709551616) (hv:∀ i,i<n->V i<18446744073709551616):∃ B6,Xk N G B ht BR x c key lo hi y n v (B4.over y (xg lf n K V)) B6:=by
 obtain ⟨d',hd',g1,g2,g3,g4⟩:=YQ hb hk hv;have:=(XV hb).1;obtain ⟨B6,t⟩:=h.2 (fun i _=>XU lf zo _ _ i) hd' ⟨g1,g2,g3,g4⟩;rw [g2] at t;exact ⟨B6,t⟩
end
end Go.Proofs.YtegpiomkmfhadaaGreat
