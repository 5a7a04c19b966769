/- Package base: Commit. · Package base: O -/
import Derived.Test.YtegpiomkmfhadaaGreatZo21
set_option linter.all false
set_option maxRecDepth 100000
set_option maxHeartbeats 20000000
namespace Go.Proofs.YtegpiomkmfhadaaGreat
open Go.RowKit
variable {B:Bs} {x n b k:Nat} {f:zF}
theorem o6 {w:World} {d bb cap:Nat} {wv:Value} {D:Dk} (h:ZG w d bb cap wv D) (hn:D.n=B.T.n) (hD:∀ b,b<B.T.n->∀ i,i<128->D.rd b i=B.D b i) (ok:B.Ok) :
  zC 49 #[zP d] w fun e w'=>∃ M R,e = .returned (.tuple #[zP M.b,.int .i64 0])/\M.d=d/\M.bb=bb/\qQ w' M R B.open_/\zv [] w w'/\(∀ x,fX M R B.open_ x->x≠d->x≠bb->w.heap.size<=x):=by
 obtain ⟨o,ho,PW⟩:=ok.decs hD;obtain ⟨N,hN⟩:∃ N,N=B.T.n:=⟨_,rfl⟩;have n1:=ok.n;rw [<- hN] at hn n1;have cl:=ia h;have cr0:=J2 (at':=0) h (by omega);rw [hn] at cl;have H:=zh h;have HO:=zh (zA ho PW);have OK:=zh (zA ok hD);have HN:=zh (zA hN hn);have CR0:=zh cr0;have i0:¬ ((N:Int)=0):=by omega
 clear h ho PW ok hD hN hn cr0;go_enter Tryz.func49,Tryz.ntmps49;go_wp2_with fail;refine cl.mono ?_;rintro e w' ⟨rfl,rfl⟩;clear cl;go_wp2_with fail;refine CR0.o.mono ?_;clear CR0;rintro e w1 ⟨rfl,al,B5⟩;have h1:=H.o.chg B5;have UN:=J2 (at':=1) h1 (by have:=HN.o.2;omega);have CR1:=zh UN;have Ce:=zh (zA al B5);clear al B5 h1 UN;go_wp2_with fail;refine CR1.o.mono ?_;clear CR1;rintro e w2 ⟨rfl,Cr,BW⟩;have Wn:=BW.kp Ce.o.1;have by0:zB w2 w.heap.size 0 128 (D.rd 0):=fun i hi=>⟨by rw [yn,zM Wn,xL hi],H.o.rd_le (by have:=HN.o.2;omega) i hi⟩;have by1:zB w2 w1.heap.size 0 128 (D.rd 1):=fun i hi=>⟨by rw [yn,zM Cr,xL hi],H.o.rd_le (by have:=HN.o.2;omega) i hi⟩;have cp:=oa (f:=fun k=>D.rd k) (o:=o) by0 by1 (xd _) (xd _) (by omega) (by omega) (HO.o.1 0 (by omega)) (HO.o.1 1 (by omega)) (by rw [HO.o.2];have:=OK.o.1.kp.ok.gen.1;omega);rw [HO.o.2] at cp;have CP:=zh cp;have BZ:=zh (Ce.o.2.trans BW);clear Cr BW Wn by0 by1 cp Ce HO;go_wp2_with fail;refine CP.o.mono ?_;clear CP;rintro e w3 ⟨rfl,Ci⟩;have kx:=xo w3 (.cells YA 56);rw [<- q9] at kx;have Cj:=zh (zA kx (BZ.o.trans (Ci.alloc (.cells YA 56))));have Hj:w.heap.size<=w3.heap.size:=(BZ.o.trans Ci).size;have IS:=zh Cj.o;rw [q9] at IS;unfold YA at IS;clear kx Ci
 go_upto_region 9 with (refine xY (t:=56) (T:=56) (b:=w3.heap.size) (o:=0) (n:=18) (N:=18) (V:=Xh.cellV) (U:=B.Kp.cellV) rfl (.tmp 9) (.tmp 46) rfl rfl rfl ?_ (by omega) Yv (fun i _=>xj.cell_one _ i) ?_;exact Cj.o.1;intro W4 SV Cd;have H4:=zh (zA SV Cd);clear SV Cd)
 have hX:=H4.o.1;rw [YF] at hX;obtain ⟨xb,C5⟩:∃ xb,xb=w3.heap.size:=⟨_,rfl⟩;rw [<- C5] at hX ⊢;have S9:zv [] w W4:=Cj.o.2.then H4.o.2 (fun q hq=>by simp only [zms] at hq;subst hq;exact .inr Hj)
 have x1:W4.cell? ⟨xb,1,none⟩=some (.int .u32 (N:Int)):=by
  have:=xj.cell hX (i:=1) (by omega);have e:=OK.o.1.kp.b;rw [this,HN.o.1,<- e];rfl
 have E1:IntKind.i64.wrap (N:Int)=(N:Int):=yv _ (by omega);have iN:((N:Int) != (N:Int))=false:=by simp
 have KQ:=fun w=>Zx (n:=N) w (by omega) (by omega);have IX:1<=pg N/\pg N<=4096:=by unfold pg;omega
 have cg2:=fun w=>Zx (n:=pg N) w IX.1 IX.2;have h4:=H.o.chg S9;have H5:=zh (zA h4 (zA hX S9));have CG:=zh (zA KQ cg2);have If:=zh (zA C5 Hj);clear h4 hX S9 KQ cg2 H4 Cj IS C5 Hj BZ;go_wp2_with fail;refine (CG.o.1 _).mono ?_;rintro e w' ⟨rfl,rfl⟩;go_upto_region 13 with fail;obtain ⟨W5,KX⟩:∃ W5,W5=W4.alloc (.cells #[.slice none 0 0,.slice none 0 0] 50):=⟨_,rfl⟩;have kS:W5.heap[W4.heap.size]?=some (.cells #[.slice none 0 0,.slice none 0 0] 50 (0,0)):=by rw [KX];exact xo _ _
 have DF:zv [] W4 W5:=by rw [KX];exact (zv.refl _ _).alloc _
 rw [<- KX];clear KX;obtain ⟨sb,D8⟩:∃ sb,sb=W4.heap.size:=⟨_,rfl⟩;rw [<- D8] at kS ⊢;have hX5:=DF.kp H5.o.2.1;have Pq:xb<sb:=by rw [D8];exact zz H5.o.2.1
 have H6:=zh (zA kS (zA hX5 (H5.o.2.2.trans DF)));have HSB:=zh (zA D8 (zz kS));clear kS DF hX5 D8 x1;go_wp2_with fail;refine (CG.o.2 _).mono ?_;rintro e w' ⟨rfl,rfl⟩;obtain ⟨q,hq⟩:∃ q,q=pg (pg N):=⟨_,rfl⟩;rw [<- hq];have MI:1<=q/\q<=2:=by rw [hq];refine ⟨?_,fW n1.2⟩;unfold pg at IX ⊢;omega
 have HQ:=zh hq;clear hq CG;go_wp2_with fail;go_loopg [62] q (fun gg s wr=>∃ k:Nat,gg=q - k/\k<=q/\s = .int .i64 (k:Int)/\Hd (∃ v,wr.heap[sb]?=some (.cells #[.slice none 0 0,v] 50 (0,0))/\wr.ownsRow W5.heap.size 3 1 v k (xC (JN k (B.a 1)))/\zv [sb] W5 wr))
 case atStart=>exact ⟨0,rfl,yg _,by go_num,zh ⟨_,H6.o.1,yO _ _ _ _,zv.refl _ _⟩⟩
 case round =>
  obtain ⟨k,DM,hkq,rfl,hXX⟩:=hrel;by_cases hk:k<q
  ·obtain ⟨v,hS,BT,hC⟩:=hXX.o
   obtain ⟨a1,c1,rfl,hc1k,hc1m⟩:=XI BT;have NL:=(hC.block xb (zz H6.o.2.1) (by simp only [zms];omega)).trans H6.o.2.1;have s1:=zM hS 1;simp only [tA1,tA3,tA2] at s1;have f1:=xB hS 1;have l1:=zz hS;have x2:=xj.cell H6.o.2.1 (i:=2+k) (by omega)
   have eR:B.Kp.roots k=B.a 1 k:=by
    have:=OK.o.1.kp.r k (by omega);rw [this,if_pos];have:=HQ.o;rw [<- HN.o.1];omega
   have x5:W5.cell? ⟨xb,2+k,none⟩=some (.int .u32 (B.a 1 k:Int)):=by
    rw [x2,Yi _ (by omega)];unfold xj.valS n8;rw [if_neg (by omega),if_pos (by omega),if_neg (by omega),if_neg (by omega),if_pos (by omega),yA,eR]
   have Ui:=(hC.cell (p:=⟨xb,2+k,none⟩) (zz H6.o.2.1) (by simp only [zms];omega)).trans x5
   have Ly:B.a 1 k<4294967296:=by
    have:=OK.o.1.own.ok.has 1 k (by omega) (by show k<qd B.T.n 1;rw [<- HN.o.1];have:=HQ.o;show k<pg (pg N);omega) (OK.o.1.own.nz 1 k (by omega) (by show k<qd B.T.n 1;rw [<- HN.o.1];have:=HQ.o;show k<pg (pg N);omega));have:=n1.2;have:=HN.o.1;omega
   obtain ⟨x,hx⟩:∃ x,x=B.a 1 k:=⟨_,rfl⟩;rw [<- hx] at Ui x5 Ly;have X5:=zh x5;have E2:IntKind.i64.wrap (x:Int)=(x:Int):=yv _ (by omega);have ix:(k:Int)<8:=by omega
   have i1:(k:Int)<(q:Int):=by omega
   have xl:=zz NL;have xl5:=zz H6.o.2.1;have sl5:=zz H6.o.1;have HK:=zh (zA hS (zA BT (zA hC hx)));clear hXX hS BT hC NL x2 eR hx x5;go_upto_region 16 with fail;refine wp_region_held_drew (S:=fun W'=>W'.cell? ⟨xb,2+k,none⟩=some (.int .u32 (x:Int))) (by kernel_rfl) (by exact Ui) (fun BS=>?_);refine Xy 0 ?_;refine Xy 2 ?_;refine Xy 3 ?_;refine Xy 4 ?_;refine Xy 5 ?_;refine Xy 6 ?_;try simp only [Act.put,sA1,sA2,sA3]
   refine wR [1,7] ?_;refine wC (fun K hK=>?_) ?_
   ·(go_simp)
    refine hK.out _ _ (Ui) (fun BS=>?_);clear hK K;try simp only [Act.put,sA1,sA2,sA3]
    refine wE 7 (fun K hK=>?_)
    (go_simp)
    refine hK.out _ _ ((yW (Below.heap_alloc _ _ _ xl)).trans Ui) (fun BS=>?_);clear hK K;try simp only [Act.put,sA1,sA2,sA3]
    have Wg:=xo wr.drew (.cells #[.int .i64 (x:Int)] 3);have Da:zv [sb] W5 (wr.drew.alloc (.cells #[.int .i64 (x:Int)] 3)):=HK.o.2.2.1.drew.alloc _;have RS:=zh (zA Wg Da);clear Wg Da;refine wE 8 (fun K hK=>?_)
    (refine YD (base:=W5.heap.size) (m:=1) (n:=k) (xv := zS wr.heap.size 1 1) (v := .slice a1 k c1) (xs:=xC (JN k (B.a 1))) (news:=[.int .i64 (x:Int)]) rfl (.tmp 66) (.tmp 72) 32 rfl rfl Tryz.underlying32 YH rfl (by omega) (by omega) ?_ ?_ (Xg HK.o.2.1 ((zv.refl [] wr).drew.alloc (.cells #[.int .i64 (x:Int)] 3)) (by simp)) (xQ.blk RS.o.1 rfl (fun u hu=>by simp at hu;subst hu;rfl)) (by omega) RS.o.2.size ?_;(simp [Act.eval,Act.put]);(simp [Act.eval,Act.put]);intro v5 W6 FZ EY SO;have EP:=RS.o.2.grown EY (fun q hq => .inr (HK.o.2.1.lt q hq).1);have GU:=(EY.block sb (qe l1 ((zv.refl [] wr).drew.alloc (.cells #[.int .i64 (x:Int)] 3)).size) (fun e=>by have:=(HK.o.2.1.lt sb e.symm).1;omega)).trans ((((zv.refl [] wr).drew.alloc (.cells #[.int .i64 (x:Int)] 3)).block sb l1 (by simp)).trans HK.o.1);obtain ⟨a6,c6,hv6,hk6,hm6⟩:=XI FZ;subst hv6;have H7:=zh (zA FZ (zA EP GU));clear FZ EY SO EP GU)
    refine hK.out _ _ ((H7.o.2.1.cell (p:=⟨xb,2+k,none⟩) xl5 (by simp only [zms];omega)).trans X5.o) (fun BS=>?_);clear hK K;try simp only [Act.put,sA1,sA2,sA3]
    refine Xy 9 ?_;try simp only [Act.put,sA1,sA2,sA3]
    have q1:=zM H7.o.2.2 1;simp only [tA1,tA3,tA2] at q1;have q2:=xB H7.o.2.2 1;have q3:=zz H7.o.2.2;refine wE 10 (fun K hK=>?_)
    (go_simp)
    refine hK.out _ _ (((H7.o.2.1.setCell (.inl (by simp)) _:zv [sb] W5 (W6.setCell ⟨sb,1,none⟩ (.slice a6 (k+1) c6))).cell (p:=⟨xb,2+k,none⟩) xl5 (by simp only [zms];omega)).trans X5.o) (fun BS=>?_);clear hK K;try simp only [Act.put,sA1,sA2,sA3]
    refine wpAnyH_done (by kernel_rfl) ?_ _;clear q1 q2;go_wp2_with fail;go_roundg (q - (k+1))
    case measure=>omega
    case rel =>
     refine ⟨k+1,rfl,by omega,by go_num,zh ⟨.slice a6 (k+1) c6,Yh H7.o.2.2 1 _,?_,H7.o.2.1.setCell (.inl (by simp)) _⟩⟩;have ho:=H7.o.1;rw [show xC (JN k (B.a 1))++[Value.int .i64 (x:Int)]=xC (JN (k+1) (B.a 1)) from by rw [aX,XQ,HK.o.2.2.2];rfl] at ho;exact Yu ho (fun g hg=>ZS 1 _ (fun e=>by have:=(ho.lt g hg).1;omega))
   refine wD (fun K hK=>?_)
   ·(go_simp)
    refine hK.out _ _ ((yW (Below.heap_alloc _ _ _ xl)).trans Ui) (fun BS=>?_);clear hK K;try simp only [Act.put,sA1,sA2,sA3]
    refine wE 1 (fun K hK=>?_)
    (have Hk:=zM ((((zv.refl [] wr).drew.alloc (.cells #[.int .i64 (x:Int)] 3)).block sb l1 (by simp)).trans HK.o.1) 1;simp only [tA1,tA3,tA2] at Hk;go_simp;clear Hk)
    refine hK.out _ _ ((yW (Below.heap_alloc _ _ _ xl)).trans Ui) (fun BS=>?_);clear hK K;try simp only [Act.put,sA1,sA2,sA3]
    have Wg:=xo wr.drew (.cells #[.int .i64 (x:Int)] 3);have Da:zv [sb] W5 (wr.drew.alloc (.cells #[.int .i64 (x:Int)] 3)):=HK.o.2.2.1.drew.alloc _;have RS:=zh (zA Wg Da);clear Wg Da;refine wE 8 (fun K hK=>?_)
    (refine YD (base:=W5.heap.size) (m:=1) (n:=k) (xv := zS wr.heap.size 1 1) (v := .slice a1 k c1) (xs:=xC (JN k (B.a 1))) (news:=[.int .i64 (x:Int)]) rfl (.tmp 66) (.tmp 72) 32 rfl rfl Tryz.underlying32 YH rfl (by omega) (by omega) ?_ ?_ (Xg HK.o.2.1 ((zv.refl [] wr).drew.alloc (.cells #[.int .i64 (x:Int)] 3)) (by simp)) (xQ.blk RS.o.1 rfl (fun u hu=>by simp at hu;subst hu;rfl)) (by omega) RS.o.2.size ?_;(simp [Act.eval,Act.put]);(simp [Act.eval,Act.put]);intro v5 W6 FZ EY SO;have EP:=RS.o.2.grown EY (fun q hq => .inr (HK.o.2.1.lt q hq).1);have GU:=(EY.block sb (qe l1 ((zv.refl [] wr).drew.alloc (.cells #[.int .i64 (x:Int)] 3)).size) (fun e=>by have:=(HK.o.2.1.lt sb e.symm).1;omega)).trans ((((zv.refl [] wr).drew.alloc (.cells #[.int .i64 (x:Int)] 3)).block sb l1 (by simp)).trans HK.o.1);obtain ⟨a6,c6,hv6,hk6,hm6⟩:=XI FZ;subst hv6;have H7:=zh (zA FZ (zA EP GU));clear FZ EY SO EP GU)
    refine hK.out _ _ ((H7.o.2.1.cell (p:=⟨xb,2+k,none⟩) xl5 (by simp only [zms];omega)).trans X5.o) (fun BS=>?_);clear hK K;try simp only [Act.put,sA1,sA2,sA3]
    refine Xy 9 ?_;try simp only [Act.put,sA1,sA2,sA3]
    have q1:=zM H7.o.2.2 1;simp only [tA1,tA3,tA2] at q1;have q2:=xB H7.o.2.2 1;have q3:=zz H7.o.2.2;refine wE 10 (fun K hK=>?_)
    (go_simp)
    refine hK.out _ _ (((H7.o.2.1.setCell (.inl (by simp)) _:zv [sb] W5 (W6.setCell ⟨sb,1,none⟩ (.slice a6 (k+1) c6))).cell (p:=⟨xb,2+k,none⟩) xl5 (by simp only [zms];omega)).trans X5.o) (fun BS=>?_);clear hK K;try simp only [Act.put,sA1,sA2,sA3]
    refine wpAnyH_done (by kernel_rfl) ?_ _;clear q1 q2;go_wp2_with fail;go_roundg (q - (k+1))
    case measure=>omega
    case rel =>
     refine ⟨k+1,rfl,by omega,by go_num,zh ⟨.slice a6 (k+1) c6,Yh H7.o.2.2 1 _,?_,H7.o.2.1.setCell (.inl (by simp)) _⟩⟩;have ho:=H7.o.1;rw [show xC (JN k (B.a 1))++[Value.int .i64 (x:Int)]=xC (JN (k+1) (B.a 1)) from by rw [aX,XQ,HK.o.2.2.2];rfl] at ho;exact Yu ho (fun g hg=>ZS 1 _ (fun e=>by have:=(ho.lt g hg).1;omega))
  ·obtain rfl:k=q:=by omega
   obtain ⟨v,hS,BT,hC⟩:=hXX.o;obtain ⟨gv,cv,rfl,TT,F8,_,G9,Cs⟩:=aE BT (by omega);have NL:=(hC.block xb (zz H6.o.2.1) (by simp only [zms];omega)).trans H6.o.2.1;have s1:=zM hS 1;simp only [tA1,tA3,tA2] at s1;have T5:∀ i,i<k->i<qd B.T.n 1:=fun i hi=>by rw [<- HN.o.1];have:=HQ.o;show i<pg (pg N);omega
   have hdc:∀ i,i<k->wr.cell? ⟨gv,i,none⟩=some (.int .i64 (B.a 1 i:Int)):=fun i hi=>by
    rw [Cs i (by omega)];simp [xC,JN,hi]
   have PO:∀ i,i<k->2<=B.a 1 i/\B.a 1 i<N:=fun i hi=>⟨OK.o.1.a2 1 i (by omega) (T5 i hi),by
    have:=(OK.o.1.own.ok.has 1 i (by omega) (T5 i hi) (OK.o.1.own.nz 1 i (by omega) (T5 i hi))).1;rw [HN.o.1];exact this⟩
   have cR:=OE (w:=wr.drew) (S:=B.Kp) (m:=k) (cs:=cv) (a:=some ⟨gv,0,none⟩) (A:=B.a 1) MI.2 TT (fun i hi=>⟨gv,rfl,G9,hdc i hi,by have:=(PO i hi).2;omega⟩)
   have eRS:(Qq B.Kp k (B.a 1) 2).row=B.Kp.row:=by
    have:=oZ OK.o.1.kp;rw [<- HN.o.1,<- HQ.o] at this;exact this
   rw [eRS] at cR;have hEq:∀ w,(Op.equalIn 10000 56 (.agg B.Kp.row) (.agg (zK 18 B.Kp.cellV))).run Tryz.prog w = .ok true w:=fun w=>sY w rfl;have HR:=zh (zA NL (zA hS (zA BT (zA hC (zA cR (zA hdc PO))))));have RI:=zh (zA G9 (zA TT F8));have xl:=zz NL;have sl:=zz hS;clear hXX NL hS BT hC Cs cR eRS hdc PO G9 F8 T5;go_wp2_with fail;go_upto_region 18 with fail;refine wp_region_held_drew (S:=fun W'=>W'.cell? ⟨sb,1,none⟩=some (zS gv k cv)/\∀ j,j<18->W'.cell? ⟨xb,0+j,none⟩=some (B.Kp.cellV j)) (by kernel_rfl) (by exact ⟨s1,xj.cells HR.o.1⟩) (fun BS=>?_);refine wpAnyH_take (i:=0) (oi:=?_) (v := .agg (zK 18 B.Kp.cellV)) ?_ (by kernel_rfl) (by kernel_rfl) (by kernel_rfl) ?_ (ZX (n:=18) (V:=B.Kp.cellV) Tryz.underlying56 rfl (by kernel_rfl) ?_ (.tmp 9) ?_ ?_ (fun w' hw=>hw.2)) BS ?_
   rotate_left 1
   ·(simp only [tA1,tA2,tA3];rfl)
   ·exact fun _ _ _ h=>h
   ·rfl
   ·rfl
   ·(first | rfl | simp [Act.eval,Act.put])
   try simp only [Act.put,sA1,sA2,sA3]
   refine wV 1 ?_ (hy:=by rintro W' ⟨s0,s2⟩;go_simp;first | done | with_reducible rfl);refine wV 2 ?_ (hy:=by rintro W' ⟨s0,s2⟩;go_simp;first | done | with_reducible rfl);try simp only [Act.put,sA1,sA2,sA3]
   refine wpAnyH_take (i:=4) (oi:=?_) (v := .agg (zK 18 B.Kp.cellV)) ?_ (by kernel_rfl) (by kernel_rfl) (by kernel_rfl) ?_ (ZX (n:=18) (V:=B.Kp.cellV) Tryz.underlying56 rfl (by kernel_rfl) ?_ (.tmp 9) ?_ ?_ (fun w' hw=>hw.2)) BS ?_
   rotate_left 1
   ·(simp only [tA1,tA2,tA3];rfl)
   ·exact fun _ _ _ h=>h
   ·rfl
   ·rfl
   ·(first | rfl | simp [Act.eval,Act.put])
   try simp only [Act.put,sA1,sA2,sA3]
   refine wE 3 (fun K hK=>?_)
   (go_simp;refine HR.o.2.2.2.2.1.mono ?_;rintro e wRz ⟨rfl,Wy⟩;have Wz:zv [] wr wRz:=(zv.refl [] wr).drew.trans Wy;have Id:=zh Wz;clear Wy Wz)
   refine hK.out _ _ (⟨Id.o.ce s1 sl,fun j hj=>(Id.o.cell (p:=⟨xb,0+j,none⟩) xl (by simp)).trans (xj.cells HR.o.1 j hj)⟩) (fun BS=>?_);clear hK K;try simp only [Act.put,sA1,sA2,sA3]
   refine wV 5 ?_ (hy:=by rintro W' ⟨s0,s2⟩;have hE1:=hEq W';go_simp;first | done | with_reducible rfl);try simp only [Act.put,sA1,sA2,sA3]
   refine wpAnyH_done (by kernel_rfl) ?_ _;clear hEq;have PM:=(Id.o.block sb sl (by simp)).trans HR.o.2.1;have Do:=HR.o.2.2.2.1.trans (Id.o.mo);have IU:=(H.o.chg (H6.o.2.2.then Do (fun q hq=>by simp only [zms] at hq;subst hq;exact .inr (by have:=HSB.o;have:=H5.o.2.2.size;omega))))
   have ct:=Vp (kind:=4) (N:=pg N) (l:=B.a 0) (A:=B.a 1) (gs:=gv) (m:=k) (cs:=cv) IU (.inl rfl) IX.2 (by rw [HQ.o]) TT (fun i hi=>by
     have:=(OK.o.1.own.ok.has 0 i (by omega) (by rw [<- HN.o.1];exact hi) (OK.o.1.own.nz 0 i (by omega) (by rw [<- HN.o.1];exact hi))).1
     have:=HN.o.1;omega) (qe RI.o.1 Id.o.size) (fun i hi=>⟨(Id.o.cell (p:=⟨gv,i,none⟩) RI.o.1 (by simp)).trans (HR.o.2.2.2.2.2.1 i hi),(HR.o.2.2.2.2.2.2 i hi).1,by rw [HN.o.2];exact (HR.o.2.2.2.2.2.2 i hi).2,fun j hj=>by
     rw [OK.o.2 _ (by rw [<- HN.o.1];exact (HR.o.2.2.2.2.2.2 i hi).2) j hj];have:=OK.o.1.disk.dir i (by rw [<- HN.o.1,<- HQ.o];exact hi) j hj;rw [<- HN.o.1] at this;exact this⟩)
   have s1':=zM PM 1;simp only [tA1,tA3,tA2] at s1';have CT:=zh ct;have MW:=zh (zA PM (zA Do ((Id.o.block xb xl (by simp)).trans HR.o.1)));clear ct PM Do IU s1;go_wp2_with fail;refine CT.o.mono ?_;clear CT;rintro e wTz ⟨vP,rfl,hoP,hcT⟩;obtain ⟨gp,cp,rfl,hcp,hcpm,hgp0,IW,hpc⟩:=aE hoP IX.1;have U9:=(hcT.block sb (zz MW.o.1) (by simp)).trans MW.o.1;have Sh:=Yh U9 0 (zS gp (pg N) cp);have hcU:zv [sb] wRz (wTz.setCell ⟨sb,0,none⟩ (zS gp (pg N) cp)):=(hcT.mo).setCell (.inl (by simp)) _;have t0:=zM U9 0;have t1:=xB U9 0;have t2:=zz U9;simp only [tA1,tA3,tA2] at t0;have ui:gp≠sb:=by have:=zz MW.o.1;omega
   have hpcU:∀ i,i<pg N->(wTz.setCell ⟨sb,0,none⟩ (zS gp (pg N) cp)).cell? ⟨gp,i,none⟩=some (.int .i64 (B.a 0 i:Int)):=fun i hi=>(yW (ZS 0 _ ui)).trans (by rw [hpc i (by omega)];simp [xC,JN,hi]);have th:gp<(wTz.setCell ⟨sb,0,none⟩ (zS gp (pg N) cp)).heap.size:=by simp [World.setCell];exact IW
   have HU:=zh (zA Sh (zA hcU (zA hpcU th)));have HGP:=zh (zA hcp (zA hcpm (zA hgp0 ui)));clear hoP hcT U9 Sh hcU hpc hpcU th s1';go_upto_region 23 with fail;generalize wTz.setCell ⟨sb,0,none⟩ (zS gp (pg N) cp)=wU at *;clear t0 t1 t2;have Sh:=HU.o.1;simp only [List.setIfInBounds_toArray,List.set_cons_zero] at Sh;have u0:=zM Sh 0;simp only [tA1,tA3,tA2] at u0;have hCU:=MW.o.2.1.trans HU.o.2.1;have hwU:zv [] w wU:=H6.o.2.2.then hCU (fun q hq=>by simp only [zms] at hq;subst hq;exact .inr (by have:=HSB.o;have:=H5.o.2.2.size;omega));have hdU:=H.o.chg hwU;have Ld:∀ i,i<pg N->i<qd B.T.n 0:=fun i hi=>by rw [<- HN.o.1];exact hi
   have ct:=Vp (kind:=5) (N:=N) (l:=B.T.kept) (A:=B.a 0) (gs:=gp) (m:=pg N) (cs:=cp) hdU (.inr rfl) n1.2 rfl HGP.o.1 (fun i hi=>by
     have:=(OK.o.1.le i (by have:=HN.o.1;omega)).2;omega) HU.o.2.2.2 (fun i hi=>⟨HU.o.2.2.1 i hi,OK.o.1.a2 0 i (by omega) (Ld i hi),by
     have:=(OK.o.1.own.ok.has 0 i (by omega) (Ld i hi) (OK.o.1.own.nz 0 i (by omega) (Ld i hi))).1
     rw [HN.o.2,HN.o.1];exact this,fun j hj=>by
     rw [OK.o.2 _ (OK.o.1.own.ok.has 0 i (by omega) (Ld i hi) (OK.o.1.own.nz 0 i (by omega) (Ld i hi))).1 j hj];have:=OK.o.1.disk.cnt i (by rw [<- HN.o.1];exact hi) j hj;rw [<- HN.o.1] at this;exact this⟩)
   have CT:=zh ct;have HV:=zh (zA Sh (zA hwU ((HU.o.2.1.block xb (zz MW.o.2.2) (by simp only [zms];omega)).trans MW.o.2.2)));clear ct Sh hCU hwU hdU Ld;go_wp2_with fail;refine CT.o.mono ?_;clear CT u0;rintro e wVz ⟨vC,rfl,hoC,hcV⟩;obtain ⟨gc,cc,rfl,Gj,hccm,hgc0,hgc,Cs⟩:=aE hoC (by omega);have UM:=Vo (w:=wVz) (g:=gc) (o:=0) (c:=cc) (n:=N) (a:=some ⟨gc,0,none⟩) (l:=B.T.kept) (by omega) Gj (fun i hi=>by have:=(OK.o.1.le i (by have:=HN.o.1;omega)).2;omega) (fun _=>⟨rfl,hgc,fun i hi=>by rw [yn,Cs i (by omega)];simp [xC,JN,hi]⟩);have CN:=zh UM;have HCV:=zh hcV;clear UM hoC Cs hcV hgc hgc0 hccm;go_wp2_with fail;refine CN.o.mono ?_;clear CN;rintro e wX ⟨vN,rfl,hoN,FG⟩;obtain ⟨an,cn,rfl,Gk,WI,hun⟩:=VX hoN (fun i hi=>by have:=(OK.o.1.le i (by have:=HN.o.1;omega)).2;omega);have cof:=vf hun Gk WI (by omega) n1.2;have COF:=zh cof;have ES:=zh (HCV.o.trans FG);clear cof hoN FG hun Gk WI HCV;go_wp2_with fail;refine COF.o.mono ?_;clear COF;rintro e wY ⟨t,bc,bk,rfl,hT,hcY,lt1,lt2,lt3⟩;have Si:zv [] wU wY:=ES.o.trans hcY;have hSY:=(Si.block sb (zz HV.o.1) (by simp)).trans HV.o.1;have y0:=zM hSY 0;have y1:=zM hSY 1;simp only [tA1,tA3,tA2] at y0 y1
   have hsl0:Y9 wY (zS gp (pg N) cp) (JN (pg N) (B.a 0)) := .inr ⟨gp,cp,by rw [qx],by rw [qx];exact HGP.o.1,HGP.o.2.1,qe HU.o.2.2.2 Si.size,fun i hi=>by
    rw [qx] at hi;rw [mK hi];exact (Si.cell (p:=⟨gp,i,none⟩) HU.o.2.2.2 (by simp)).trans (HU.o.2.2.1 i hi)⟩
   have hCr:zv [sb] wr wY:=(Id.o.mo).trans (HU.o.2.1.trans (Si.mo));have At:gv≠sb:=by have:=HSB.o.2;omega
   have hsl1:Y9 wY (zS gv k cv) (JN k (B.a 1)) := .inr ⟨gv,cv,by rw [qx],by rw [qx];exact RI.o.2.1,RI.o.2.2,qe RI.o.1 hCr.size,fun i hi=>by
    rw [qx] at hi;rw [mK hi];exact (hCr.cell (p:=⟨gv,i,none⟩) RI.o.1 (by simpa using At)).trans (HR.o.2.2.2.2.2.1 i hi)⟩
   obtain ⟨g,hg⟩:∃ g:Nat->Nat,g=fun k=>if k=0 then gp else gv:=⟨_,rfl⟩
   obtain ⟨c,hc⟩:∃ c:Nat->Nat,c=fun k=>if k=0 then cp else cv:=⟨_,rfl⟩
   have GV:gQ wY (zS gp (pg N) cp) (zS gv k cv) B.a (qd N) g c:=by
    refine ⟨by rw [hg,hc];rfl,by rw [hg,hc,HQ.o];rfl,fun j hj=>?_⟩
    match j,hj with
    | 0,_=>rw [hg,hc];exact hsl0
    | 1,_=>rw [hg,hc];have h:=hsl1;rw [HQ.o] at h;exact h
   have hTO:zJ wY t bc bk B.open_.T:=by
    have h:=hT;rw [HN.o.1] at h;exact h
   have hOO:=OK.o.1.open_ok;have hok1:JL B.open_.T (qd N) B.a:=by have:=hOO.own.ok;rw [HN.o.1];exact this
   have cri:=iB hTO GV hok1;have CRI:=zh cri;have HY:=zh (zA hTO (zA GV (zA (HV.o.2.1.trans Si) (zA hSY ((Si.block xb (zz HV.o.2.2) (by simp)).trans HV.o.2.2)))))
   have DU:=zh (show w.heap.size<=t/\w.heap.size<=bc/\w.heap.size<=bk/\w.heap.size<=gp/\w.heap.size<=gv from by
    have a1:=(HV.o.2.1.trans ES.o).size;have a2:=H6.o.2.2.size;have a3:=HR.o.2.2.2.1.size;have a4:=Id.o.size;have a5:=HGP.o.2.2.1;refine ⟨by omega,by omega,by omega,by omega,by omega⟩)
   have HG:=zh (zA hg hc);have hUYX:=zh hcY;have hCrX:=zh hCr;clear cri hT hTO GV hok1 hOO hsl0 hsl1 hCr hSY Si hcY lt1 lt2 lt3 hg hc At;go_wp2_with fail;refine CRI.o.mono ?_;clear CRI y0 y1;rintro e wZ ⟨rfl,TS⟩;have hTZ:=HY.o.1.chg TS;have cpn:=mA hTZ 2 (by show 2<=B.T.n;have:=HN.o.1;omega)
   change Calls _ _ #[_,.int .i64 2] wZ _ at cpn
   have CPN:=zh cpn;have HZ:=zh (zA hTZ TS);clear cpn hTZ TS;go_wp2_with fail;refine CPN.o.mono ?_;clear CPN;rintro e wP ⟨rfl,hPP,hcP⟩;have Sm:=HZ.o.2.trans hcP;have hSP:=(Sm.block sb (zz HY.o.2.2.2.1) (by simp)).trans HY.o.2.2.2.1;have hXP:=(Sm.block xb (zz HY.o.2.2.2.2) (by simp)).trans HY.o.2.2.2.2;have p0:=zM hSP 0;have p1:=zM hSP 1;simp only [tA1,tA3,tA2] at p0 p1;have HP:=zh (zA hPP (zA (HZ.o.1.chg hcP) (zA (HY.o.2.1.chg Sm) (zA (HY.o.2.2.1.trans Sm) hXP))));have HPS:=zh (HY.o.2.2.1.trans HZ.o.2).size;have HPP:=zh (show gp<wP.heap.size/\gv<wP.heap.size from ⟨qe HU.o.2.2.2 (ES.o.trans (hUYX.o.trans Sm)).size,qe RI.o.1 (hCrX.o.trans (Sm.mo)).size⟩);clear hPP hcP Sm hSP hXP HZ HY;have EX:g 0=gp/\g 1=gv/\c 0=cp/\c 1=cv:=by rw [HG.o.1,HG.o.2];exact ⟨rfl,rfl,rfl,rfl⟩
   have eSl:((B.Kp.gen:Int) % 2)=((B.Kp.gen % 2:Nat):Int):=by omega
   have TP:Tryz.prog.built 58 [(0,zP d),(1,zP t),(2,zP wZ.heap.size),(3,.agg #[zS gp (pg N) cp,zS gv k cv]),(4,.map (some wP.heap.size)),(5,.agg B.Kp.row),(6,.agg B.Kp.row),(7,.int .i64 ((B.Kp.gen:Int) % 2))]=some (zK 44 (Xr ⟨wP.heap.size+1,d,bb,wZ.heap.size,t,bc,bk,wP.heap.size⟩ ⟨g,c,fun _=>0,fun _=>0⟩ B.open_)):=by
    rw [<- EX.1,<- EX.2.1,<- EX.2.2.1,<- EX.2.2.2,eSl];exact lF ⟨wP.heap.size+1,d,bb,wZ.heap.size,t,bc,bk,wP.heap.size⟩ ⟨g,c,fun _=>0,fun _=>0⟩ B.open_ (pg N) k (by show pg N=qd B.T.n 0;rw [HN.o.1];rfl) (by show k=qd B.T.n 1;rw [HQ.o,HN.o.1];rfl)
   have IQ:=zh (zA TP EX);have hmm:=run_makeMap (P:=Tryz.prog) 51 wP;have hXA:=((zv.refl [] wP).alloc (.map #[] 0)).block xb (zz HP.o.2.2.2.2) (by simp);have HXA:=zh (hXA.trans HP.o.2.2.2.2);clear TP EX eSl hXA;go_upto_region 30 with fail
   go_wp2_with (first
    | (refine YZ (S:=B.Kp) rfl (.tmp 9) rfl (k:=xb) (o:=0) rfl ?_ ?_;exact xj.cells HXA.o)
    | (refine Vu rfl 58 _ rfl (ps:=_) ?hp IQ.o.1 ?hk;case hp=>(simp [Act.eval,Act.put]))
    | (refine qJ rfl 58 (.tmp 128) rfl rfl ?_))
   obtain ⟨M,hM⟩:∃ M:Bm,M=⟨wP.heap.size+1,d,bb,wZ.heap.size,t,bc,bk,wP.heap.size⟩:=⟨_,rfl⟩;obtain ⟨R,hR⟩:∃ R:Br,R=⟨g,c,fun _=>0,fun _=>0⟩:=⟨_,rfl⟩;rw [<- hM,<- hR];have FF:zv [] wP ((wP.alloc (.map #[] 0)).alloc (.cells (zK 44 (Xr M R B.open_)) 58)):=((zv.refl [] wP).alloc _).alloc _;have hbF:=cZ wP (.map #[] 0) (.cells (zK 44 (Xr M R B.open_)) 58);have hmF:=xJ.made (P:=Tryz.prog) (kt:=3) (good:=dW) wP B.T.n;have hmF2:=hmF.chg ((zv.refl [] _).alloc (.cells (zK 44 (Xr M R B.open_)) 58)) (by simp);obtain ⟨wF,hwF⟩:∃ wF,wF=(wP.alloc (.map #[] 0)).alloc (.cells (zK 44 (Xr M R B.open_)) 58):=⟨_,rfl⟩;rw [<- hwF] at FF hbF hmF2 ⊢;have hg:=HG.o.1;have hc:=HG.o.2;have n3:=OK.o.1.n;have hPp:wZ.heap.size<wP.heap.size:=zz HP.o.1.top;have hPT:=HP.o.2.1;refine bodyPost_ret (v := .tuple #[zP M.b,.int .i64 0]) (by simp [results,Tryz.results49,go_sem,hM]) rfl ⟨M,R,rfl,by rw [hM],by rw [hM],?_,HP.o.2.2.2.1.trans FF,?_⟩
   ·have GV:=(HP.o.2.2.1.chg FF)
    refine { top:=by rw [show M.b=wP.heap.size+1 from by rw [hM]];exact hbF,pt:=?_,sh:=?_,fm:=?_,fd:=(fun k f hk hf=>by cases hf),ok:=OK.o.1.open_ok,ne:=?_,glt:=?_ }
    ·rw [hM]
     exact ⟨⟨FF.kp HP.o.1.top⟩,hPT.chg FF,xd _,by show 2<=B.T.n;omega,yg _⟩
    ·have e0:qd B.open_.T.n 0=pg N:=by rw [HN.o.1];rfl
     have e1:qd B.open_.T.n 1=k:=by rw [HQ.o,HN.o.1];rfl
     have eg:R.g=g/\R.c=c:=by rw [hR];exact ⟨rfl,rfl⟩
     rw [e0,e1,eg.1,eg.2,IQ.o.2.1,IQ.o.2.2.1,IQ.o.2.2.2.1,IQ.o.2.2.2.2];have h:=GV;rw [HN.o.1] at h ⊢;exact h
    ·rw [show M.mf=wP.heap.size from by rw [hM]]
     exact hmF2.congr fun k hk=>rfl
    ·rw [hM]
     exact fun e=>by have:=hPT.lt2;change wP.heap.size=bk at e;omega
    ·intro j hj
     have eg:R.g=g:=by rw [hR]
     rw [eg];have hs:=FF.size;obtain ⟨l0,l1⟩:gp<wP.heap.size/\gv<wP.heap.size:=HPP.o
     match j,hj with
     | 0,_=>rw [IQ.o.2.1];omega
     | 1,_=>rw [IQ.o.2.2.1];omega
   ·intro x hx hxd C5
    have h1:=DU.o;have h2:=HP.o.2.2.2.1.size;have h3:=HPS.o;rcases hx with hx | ⟨j,hj,rfl⟩ | ⟨j,hj,hf,rfl⟩
    ·rw [hM] at hx
     simp only [Bm.L,ya,yk,or_false] at hx;rcases hx with rfl | rfl | rfl | rfl | rfl | rfl | rfl | rfl
     ·omega
     ·exact absurd rfl hxd
     ·exact absurd rfl C5
     ·exact h3
     ·exact h1.1
     ·exact h1.2.1
     ·exact h1.2.2.1
     ·exact h2
    ·rw [show R.g=g from by rw [hR]]
     match j,hj with
     | 0,_=>rw [IQ.o.2.1];exact h1.2.2.2.1
     | 1,_=>rw [IQ.o.2.2.1];exact h1.2.2.2.2
    ·cases hf
theorem vD (h:x<n):cnt n (fun b=>decide (b=x))=1:=by
 have:=xN (p:=fun b=>decide (b=x)) (q:=fun _=>false) (k:=x) (n:=n) h (fun i _ hi=>by simp [hi]);rw [dM] at this;simpa using this.symm
theorem mZ {N:Nat} : ∀ l:List Nat,l.Nodup->(∀ x,x∈l->x<N)->cnt N (fun b=>decide (b∈l))=l.length
 | [],_,_=>qM fun i _=>by simp
 | x::r,hn,hl=>by
  obtain ⟨h1,h2⟩:=List.nodup_cons.1 hn;have ih:=mZ r h2 (fun y hy=>hl y (by simp [hy]))
  have:=ZU (n:=N) (p:=fun b=>decide (b∈x::r)) (q:=fun b=>decide (b=x)) (r:=fun b=>decide (b∈r)) (fun i _=>by
   by_cases e:i=x
   ·subst e;simp [h1]
   ·simp [e])
  rw [this,vD (hl x zaa),ih,yu];omega
def bG (B:Bs) (b:Nat):Bool:=Z7 B 0 (b:Int)||Z7 B 1 (b:Int)
theorem Jb : bG B b=true↔B.page b:=by
 unfold bG;rw [Bool.or_eq_true,Zh,Zh];constructor
 ·rintro (⟨i,hi,e⟩ | ⟨i,hi,e⟩)
  ·exact ⟨0,i,zo,hi,zo⟩
  ·exact ⟨1,i,zo,hi,zo⟩
 ·rintro ⟨k,i,hk,hi,e⟩
  rcases (show k=0∨k=1 by omega) with rfl | rfl
  ·exact .inl ⟨i,hi,zo⟩
  ·exact .inr ⟨i,hi,zo⟩
def Bs.live (B:Bs) (b:Nat):Bool:=B.T.now b != 0 && !bG B b
theorem Vv : B.live b=true↔B.T.now b≠0/\¬ B.page b:=by
 unfold Bs.live;rw [Bool.and_eq_true,<- Jb];simp
section
variable {B:Bs}
theorem Bs.Ok.page_lt (h:B.Ok) {i:Nat} (hk:k<2) (hi:i<qd B.T.n k):B.a k i<B.T.n:=(h.own.ok.has k i hk hi (h.own.nz k i hk hi)).1
theorem Bs.Ok.page_cnt (h:B.Ok) (hk:k<2):cnt B.T.n (fun b=>Z7 B k (b:Int))=qd B.T.n k:=by
 rw [zZ (q:=fun b=>decide (b∈Qp B.a (qd B.T.n) k)),mZ,xF]
 ·unfold Qp
  rw [List.Nodup,List.pairwise_map];refine List.Pairwise.imp_of_mem ?_ List.pairwise_lt_range;intro i j hi hj BY e;rw [ye] at hi hj;have:=(h.own.ok.apart k i k j hk hi hk hj (h.own.nz k i hk hi) e).2;omega
 ·intro x hx
  unfold Qp at hx;obtain ⟨i,hi,rfl⟩:=yw.1 hx;exact h.page_lt hk zaD
 ·intro b _
  rw [Bool.eq_iff_iff,Zh,decide_eq_true_iff];unfold Qp;rw [yw];constructor
  ·rintro ⟨i,hi,e⟩;exact ⟨i,zaD,zo⟩
  ·rintro ⟨i,hi,e⟩;exact ⟨i,zaD,zo⟩
theorem Bs.Ok.pages_cnt (h:B.Ok):cnt B.T.n (bG B)=qu B.T.n:=by
 have:=ZU (n:=B.T.n) (p:=bG B) (q:=fun b=>Z7 B 0 (b:Int)) (r:=fun b=>Z7 B 1 (b:Int)) (fun b _=>by
  unfold bG
  cases h0:Z7 B 0 (b:Int) with
  | false=>simp
  | true =>
   cases h1:Z7 B 1 (b:Int) with
   | false=>simp
   | true =>
    obtain ⟨i,hi,e⟩:=Zh.1 h0;obtain ⟨j,hj,e'⟩:=Zh.1 h1;have:=(h.own.ok.apart 0 i 1 j zo hi zo hj (h.own.nz 0 i zo hi) zo).1;omega)
 rw [this,h.page_cnt zo,h.page_cnt zo];rfl
theorem Bs.Ok.count_all (h:B.Ok):B.T.frees+B.T.waits+qu B.T.n+cnt B.T.n B.live=B.T.n:=by
 have h1:=ZU (n:=B.T.n) (p:=fun b=>B.T.now b==0) (q:=B.T.free) (r:=B.T.waitB) (fun b _=>by
  unfold zW.free zW.waitB;by_cases e:B.T.now b=0 <;> by_cases e2:B.T.kept b=0 <;> simp [e,e2])
 have h2:=ZU (n:=B.T.n) (p:=fun b=>B.T.now b != 0) (q:=bG B) (r:=B.live) (fun b _=>by
  unfold Bs.live
  cases hp:bG B b with
  | false=>by_cases e:B.T.now b=0 <;> simp [e]
  | true =>
   obtain ⟨k,i,hk,hi,e⟩:=Jb.1 hp;have:=h.own.now k i hk hi;rw [e] at this;simp [this])
 have h3:=ZU (n:=B.T.n) (p:=fun _=>true) (q:=fun b=>B.T.now b==0) (r:=fun b=>B.T.now b != 0) (fun b _=>by
  by_cases e:B.T.now b=0 <;> simp [e])
 rw [J8] at h3;rw [h.pages_cnt] at h2;unfold zW.frees zW.waits;omega
theorem Bs.Ok.room_all (h:B.Ok):xO B.T 2=(B.T.n:Int) - 2 - (qu B.T.n:Int) - (cnt B.T.n B.live:Int) - (B.T.waits:Int):=by
 have h1:=h.count_all
 have h2:cnt 2 B.T.free=2:=J9 fun i hi=>by
  have:=h.low i hi;simp [zW.free,this]
 unfold xO;rw [h2];omega
end
structure qy (N G:Nat) (B:Bs):Prop where
 ok:B.Ok
 n:B.T.n=N
 r:(qu N:Int)<=xO B.T 2
 g:B.Kp.gen<=G
theorem lK {T:zW} (h:∀ b,b<T.n->T.kept b=T.now b):T.waits=0:=qM fun b hb=>by
 unfold zW.waitB;by_cases e:T.now b=0
 ·rw [h b hb,e];rfl
 ·simp [e]
theorem Vw {N:Nat} (h:16<=N/\N<=4096):qy N 1 (Bs.fmt N)/\(∀ b,(Bs.fmt N).live b=false)/\(Bs.fmt N).T.waits=0:=by
 have F:=Ja h.1;have ok:=tc h;have tn:(Bs.fmt N).T.n=N:=F.tn
 have hl:∀ b,(Bs.fmt N).live b=false:=fun b=>by
  cases hb:(Bs.fmt N).live b with
  | false=>rfl
  | true =>
   obtain ⟨h1,h2⟩:=Vv.1 hb;obtain ⟨k,i,hk,hi,e⟩:=F.pages b h1;exact absurd ⟨k,i,hk,by rw [tn];exact hi,e⟩ h2
 have hw:(Bs.fmt N).T.waits=0:=lK fun b _=>rfl;refine ⟨⟨ok,tn,?_,xd _⟩,hl,hw⟩;have:=ok.room_all;rw [tn,hw,qM (fun i _=>hl i)] at this;rw [this];unfold qu pg;omega
section
variable {B:Bs} {N G:Nat}
theorem qy.room (h:qy N G B):B.room=(N:Int) - 2 - 2*(qu N:Int) - (cnt N B.live:Int) - (B.T.waits:Int):=by
 have h1:=h.ok.room_all;have:=h.r;unfold Bs.room;rw [h.n] at h1 ⊢;omega
theorem qy.put_ (h:qy N G B) (hr:0<B.room) (hf:∀ i,i<128->f i<=255) :
  qy N G (B.put f)/\B.live B.at_=false/\2<=B.at_/\B.at_<N/\(∀ b,(B.put f).live b=(decide (b=B.at_)||B.live b))/\(B.put f).T.waits=B.T.waits/\cnt N (B.put f).live=cnt N B.live+1/\(B.put f).room=B.room - 1/\B.T.kept B.at_=0:=by
 obtain ⟨ht,b1,b2,b3⟩:=h.ok.put_spec hr;have ok:=h.ok.put_ok hr hf;have Fa:=b3;simp only [zW.free,Bool.and_eq_true,beq_iff_eq] at Fa;have l0:B.live B.at_=false:=by unfold Bs.live;rw [Fa.1];rfl
 have np:bG B B.at_=false:=by
  cases hp:bG B B.at_ with
  | false=>rfl
  | true =>
   obtain ⟨k,i,hk,hi,e⟩:=Jb.1 hp;have:=h.ok.own.now k i hk hi;rw [e,Fa.1] at this;cases this
 have hl:∀ b,(B.put f).live b=(decide (b=B.at_)||B.live b):=fun b=>by
  show ((if b=B.at_ then 1 else B.T.now b) != 0 && !bG B b)=_
  by_cases e:b=B.at_
  ·subst e;simp [np]
  ·simp [e,Bs.live]
 have hw:(B.put f).T.waits=B.T.waits:=by
  have:=Ze B.T (b:=B.at_) 1 b2;have e1:B.T.waitB B.at_=false:=by unfold zW.waitB;rw [Fa.2];simp
  have e2:(B.T.set B.at_ 1).waitB B.at_=false:=by simp [zW.waitB,zW.set]
  rw [e1,e2] at this;exact this
 have hc:cnt N (B.put f).live=cnt N B.live+1:=by
  have:=xN (p:=(B.put f).live) (q:=B.live) (k:=B.at_) (n:=N) (by rw [<- h.n];exact b2) (fun i _ hi=>by rw [hl i];simp [hi]);rw [hl B.at_,l0] at this;simpa using this.symm
 have r1:=ok.room_all;have r2:=h.ok.room_all;have n1:(B.put f).T.n=N:=h.n;rw [n1,hc,hw] at r1;rw [h.n] at r2;have Er:=h.room;have g':qy N G (B.put f):=⟨ok,h.n,zo,h.g⟩;have hrm':=g'.room;rw [hc,hw] at hrm';exact ⟨g',l0,b1,by rw [<- h.n];exact b2,hl,hw,hc,zo,Fa.2⟩
end
def QO (n i:Nat):Nat:=(n*31+i*(n % 7)) % 256
theorem m8 (n i:Nat):QO n i<=255:=by unfold QO;omega
def td (n k i:Nat):Nat:=if i<k then QO n i else 0
theorem tf (n:Nat):Y7 128 (td n 128)=Y7 128 (QO n):=by
 apply yM;intro i;by_cases hi:i<128
 ·rw [xL hi,xL hi];simp [td,hi]
 ·rw [yo (by simp [Y7];omega),yo (by simp [Y7];omega)]
theorem gt (w:World) (hn:n<=65535):zC 32 #[.int .u16 (n:Int)] w fun e w'=>∃ g,e = .returned (zS g 128 128)/\w.heap.size<=g/\w'.heap[g]?=some (.cells (Y7 128 (QO n)) 5 (0,0))/\zv [] w w':=by
 have EA:∀ w:World,(Instr.makeSlice 81 (.int .i64 128) (.int .i64 128)).run Tryz.prog w = .ok (zS w.heap.size 128 128) (w.alloc (.cells (zO 128 (.int .u8 0)) 5)):=xW (P:=Tryz.prog) 81 5 Tryz.underlying81 X7 rfl .i64 .i64 128 zo zo;go_enter Tryz.func32,Tryz.ntmps32;go_upto_region 2 with fail;clear EA;have hz:=xo w (.cells (zO 128 (.int .u8 0)) 5);have Te:zv [] w (w.alloc (.cells (zO 128 (.int .u8 0)) 5)):=(zv.refl [] w).alloc _;rw [ZW] at hz Te;rw [ZW];generalize w.alloc (.cells (Y7 128 fun _=>0) 5)=w1 at *;obtain ⟨g,hg⟩:=zE w.heap.size;rw [<- hg] at hz ⊢;have HZ:=zh (zA hz (zA Te hg));clear hz Te hg;go_wp2_with fail;go_loopg [8] 128 (fun gg s wr=>∃ k:Nat,gg=128 - k/\k<=128/\s = zI k/\Hd (wr.heap[g]?=some (.cells (Y7 128 (td n k)) 5 (0,0))/\zv [g] w1 wr))
 case atStart=>exact ⟨0,rfl,yg _,zac,zh ⟨by rw [HZ.1];congr 3,zv.refl _ _⟩⟩
 case round =>
  obtain ⟨k,DM,hk8,rfl,hX⟩:=hrel;by_cases hk:k<128
  ·have i1:(k:Int)<128:=zo
   have c0:=zM hX.1 k;rw [xL hk] at c0;have f0:=xB hX.1 k;have l0:=zz hX.1;obtain ⟨m,hm⟩:=zE (k*(n % 7));have Iw:m<=1000:=by rw [hm];exact qh (Nat.mul_le_mul (show k<=128 by omega) (show n % 7<=6 by omega)) zaf
   have E3:wrap64 ((k:Int)*((n:Int) % 7))=(m:Int):=by
    have:(k:Int)*((n:Int) % 7)=(m:Int):=by rw [hm,Int.natCast_mul];rfl
    rw [this];unfold wrap64;omega
   have E4:((n:Int)*31+(m:Int)) % 256=((QO n k:Nat):Int):=by unfold QO;rw [<- hm];omega
   obtain ⟨bv,hbv⟩:=zE (QO n k);rw [<- hbv] at E4;have HX:=zh (zA hX hbv);clear hm hX hbv;go_wp2_with fail;go_roundg (128 - (k+1))
   case measure=>omega
   case rel =>
    refine ⟨k+1,rfl,zo,zac,zh ⟨?_,HX.1.2.setCell (.inl zaa) _⟩⟩;rw [Yh HX.1.1,ae hk];congr 3;funext i;unfold td;by_cases e:i=k
    ·subst e;rw [if_pos rfl,if_pos zo,HX.2]
    ·rw [if_neg e]
     by_cases e2:i<k
     ·rw [if_pos e2,if_pos zo]
     ·rw [if_neg e2,if_neg zo]
  ·obtain rfl:k=128:=zo
   go_wp2_with fail;go_ret;refine ⟨g,rfl,by rw [HZ.2.2];exact xd _,?_,HZ.2.1.tn hX.2 (by rw [HZ.2.2];exact xd _)⟩;rw [hX.1]
   show some (Obj.cells (Y7 128 (td n 128)) 5 (0,0))=some (Obj.cells (Y7 128 (QO n)) 5 (0,0))
   rw [tf]
theorem lL (w:World) (hn:n<=65535):zC 32 #[.int .u16 (n:Int)] w fun e w'=>∃ g,e = .returned (zS g 128 128)/\w.heap.size<=g/\zB w' g 0 128 (QO n)/\zv [] w w' :=
 (gt w hn).mono fun e w' ⟨g,h1,h2,h3,h4⟩=>⟨g,h1,h2,fun i hi=>⟨by rw [yn,zM h3,xL hi],m8 _ _⟩,h4⟩
theorem tg (N:Nat):(Bs.fmt N).open_=Bs.fmt N:=rfl
section
variable {B:Bs} {N G:Nat}
theorem qy.turn {B':Bs} (h:qy N G B) (ok:B'.Ok) (n:B'.T.n=B.T.n) (k:B'.Kp.gen=B.Kp.gen) (hl:cnt N B'.live+B'.T.waits<=cnt N B.live+B.T.waits):qy N G B':=by
 have r1:=ok.room_all;have r2:=h.ok.room_all;have n1:B'.T.n=N:=n.trans h.n;rw [n1] at r1;rw [h.n] at r2;have:=h.r;exact ⟨ok,n1,zo,by rw [k];exact h.g⟩
theorem qy.may (h:qy N G B) (hx:x<N) (hl:B.live x=true):2<=x/\B.mayC (x:Int)=true/\B.T.now x≠0/\bG B x=false:=by
 obtain ⟨h1,h2⟩:=Vv.1 hl
 have h3:2<=x:=by
  by_cases e:x<2
  ·exact absurd (h.ok.low x e).1 h1
  ·omega
 have hp:bG B x=false:=by
  cases q:bG B x with
  | false=>rfl
  | true=>exact absurd (Jb.1 q) h2
 have EL:=hp;unfold bG at EL;rw [Bool.or_eq_false_iff] at EL;refine ⟨h3,?_,h1,hp⟩;unfold Bs.mayC;rw [EL.1,EL.2,yq (show (2:Int)<=(x:Int) by omega),yq (show (x:Int)<(B.T.n:Int) by have:=h.n;omega)];rfl
theorem Vx (h:qy N G B) (hx:x<N) (hl:B.live x=true):B.downE (x:Int)=0/\B.down (x:Int)=B.counted (B.T.set x (B.T.now x - 1)) x:=by
 obtain ⟨h1,h2,h3,h4⟩:=h.may hx hl;have hg:getV B.T (x:Int)=(B.T.now x:Int):=Ve (by rw [h.n];exact hx);have EX:¬ getV B.T (x:Int)=0:=by rw [hg];omega
 have hh:=(x7 B.T (x:Int)).2 (zq h.n);have hd:Proofs.YtegpiomkmfhadaaGreat.downE B.T (x:Int)=0:=by simp [Proofs.YtegpiomkmfhadaaGreat.downE,hh,h3]
 unfold Bs.downE Bs.down;rw [h2,yC EX,if_pos rfl,if_neg EX];refine ⟨hd,?_⟩;rw [if_pos (show (true && !false)=true from rfl),yz];unfold Proofs.YtegpiomkmfhadaaGreat.down;rw [hd,if_pos rfl,yz]
theorem qy.down_ (h:qy N G B) (hx:x<N) (hl:B.live x=true) :
  qy N G (B.down (x:Int))/\(∀ b,(B.down (x:Int)).live b=if b=x then decide (2<=B.T.now x) else B.live b)/\(∀ b,(B.down (x:Int)).T.now b=if b=x then B.T.now x - 1 else B.T.now b)/\(∀ b,(B.down (x:Int)).T.kept b=B.T.kept b) /\
   (B.T.now x=1->B.T.kept x≠0->(B.down (x:Int)).T.waits=B.T.waits+1/\cnt N (B.down (x:Int)).live+1=cnt N B.live)/\(∀ b,bG (B.down (x:Int)) b=bG B b):=by
 obtain ⟨h1,h2,h3,h4⟩:=h.may hx hl;obtain ⟨-,eB⟩:=Vx h hx hl;rw [eB];have ok:(B.counted (B.T.set x (B.T.now x - 1)) x).Ok:=h.ok.counted_ok h3 h2 (zq ((h.ok.le x (by rw [h.n];exact hx)).1));have IX:∀ b,bG (B.counted (B.T.set x (B.T.now x - 1)) x) b=bG B b:=fun b=>rfl
 have DD:∀ b,(B.counted (B.T.set x (B.T.now x - 1)) x).live b=if b=x then decide (2<=B.T.now x) else B.live b:=fun b=>by
  show ((if b=x then B.T.now x - 1 else B.T.now b) != 0 && !bG B b)=_
  by_cases e:b=x
  ·subst e
   rw [if_pos rfl,if_pos rfl,h4];by_cases q:2<=B.T.now b
   ·simp [q];omega
   ·simp [q];omega
  ·rw [if_neg e,if_neg e];rfl
 have hw:=Ze B.T (b:=x) (B.T.now x - 1) (by rw [h.n];exact hx);have w1:B.T.waitB x=false:=by unfold zW.waitB;simp [h3]
 have w2:(B.T.set x (B.T.now x - 1)).waitB x=(decide (B.T.now x=1)&&decide (B.T.kept x≠0)):=by
  unfold zW.waitB zW.set;simp only [if_true];by_cases q:B.T.now x=1
  ·rw [q];by_cases q2:B.T.kept x=0 <;> simp [q2]
  ·have:B.T.now x - 1≠0:=zo
   simp [q,this]
 rw [w1,w2] at hw;have hc:=xN (p:=B.live) (q:=(B.counted (B.T.set x (B.T.now x - 1)) x).live) (k:=x) (n:=N) hx (fun i _ hi=>by rw [DD i,if_neg hi]);rw [DD x,if_pos rfl,hl] at hc;have ew:(B.counted (B.T.set x (B.T.now x - 1)) x).T.waits=(B.T.set x (B.T.now x - 1)).waits:=rfl;refine ⟨h.turn ok rfl rfl ?_,DD,fun b=>rfl,fun b=>rfl,?_,IX⟩
 ·rw [ew]
  generalize (B.T.set x (B.T.now x - 1)).waits=W1 at hw ⊢;generalize cnt N (B.counted (B.T.set x (B.T.now x - 1)) x).live=C1 at hc ⊢;by_cases q:B.T.now x=1
  ·by_cases q2:B.T.kept x=0
   ·simp [q,q2] at hw hc;omega
   ·simp [q,q2] at hw hc;omega
  ·have:2<=B.T.now x:=zo
   simp [q,this] at hw hc;omega
 ·intro q q2
  rw [ew];generalize (B.T.set x (B.T.now x - 1)).waits=W1 at hw ⊢;generalize cnt N (B.counted (B.T.set x (B.T.now x - 1)) x).live=C1 at hc ⊢;simp [q,q2] at hw hc;omega
theorem qy.over_ (h:qy N G B) (hx:(B.fr x).isSome=true) (hf:∀ i,i<128->f i<=255):qy N G (B.over x f):=⟨h.ok.over_ok hx hf,h.n,h.r,h.g⟩
end

end Go.Proofs.YtegpiomkmfhadaaGreat
