/- Package base: Open of a disk that holds what was committed. -/
import Derived.Test.YtkhcaclndepgbaaGreatZn29
set_option linter.unusedVariables false
set_option linter.unusedSimpArgs false
set_option maxRecDepth 100000
set_option maxHeartbeats 20000000
namespace Go.Proofs.YtkhcaclndepgbaaGreat
open Go.RowKit
theorem baOpen_at {w:World} {d bb cap:Nat} {wv:Value} {D:Dk} {B:Bs} (h:DiskRd w d bb cap wv D) (hn:D.n=B.T.n) (hD:∀ b,b<B.T.n->∀ i,i<128->D.rd b i=B.D b i) (ok:B.Ok) :
  Calls Tryz.prog 38 #[.pointer (some ⟨d,0,none⟩)] w fun e w'=>∃ M R,e = .returned (.tuple #[.pointer (some ⟨M.b,0,none⟩),.int .i64 0])/\M.d=d/\M.bb=bb/\BaseC w' M R B.open_/\Chg [] w w'/\(∀ x,Bown M R B.open_ x->x≠d->x≠bb->w.heap.size<=x):=by
 obtain ⟨o,ho,hbest⟩:=ok.decs hD;obtain ⟨N,hN⟩:∃ N,N=B.T.n:=⟨_,rfl⟩;have n1:=ok.n;rw [<- hN] at hn n1;have cl:=rdLen_at h;have cr0:=dRead_at (at':=0) h (by omega);rw [hn] at cl;have H:=zh h;have HO:=zh (zA ho hbest);have OK:=zh (zA ok hD);have HN:=zh (zA hN hn);have CR0:=zh cr0;have i0:¬ ((N:Int)=0):=by omega
 clear h ho hbest ok hD hN hn cr0;go_enter Tryz.func38,Tryz.ntmps38;go_wp2_with fail;refine cl.mono ?_;rintro e w' ⟨rfl,rfl⟩;clear cl;go_wp2_with fail;refine CR0.out.mono ?_;clear CR0;rintro e w1 ⟨rfl,hb1,hc1⟩;have h1:=H.out.chg hc1 (by simp) (by simp) (by simp);have cr1:=dRead_at (at':=1) h1 (by have:=HN.out.2;omega);have CR1:=zh cr1;have HC1:=zh (zA hb1 hc1);clear hb1 hc1 h1 cr1;go_wp2_with fail;refine CR1.out.mono ?_;clear CR1;rintro e w2 ⟨rfl,hb2,hc2⟩;have hb12:=(hc2.block _ (zhl HC1.out.1) (by simp)).trans HC1.out.1;have by0:BytesAt w2 w.heap.size 0 128 (D.rd 0):=fun i hi=>⟨by rw [Nat.zero_add,zcb hb12,u8s_get hi],H.out.rd_le (by have:=HN.out.2;omega) i hi⟩;have by1:BytesAt w2 w1.heap.size 0 128 (D.rd 1):=fun i hi=>⟨by rw [Nat.zero_add,zcb hb2,u8s_get hi],H.out.rd_le (by have:=HN.out.2;omega) i hi⟩;have cp:=suPick_at (f:=fun k=>D.rd k) (o:=o) by0 by1 (zLr _) (zLr _) (by omega) (by omega) (HO.out.1 0 (by omega)) (HO.out.1 1 (by omega)) (by rw [HO.out.2];have:=OK.out.1.kp.ok.gen.1;omega);rw [HO.out.2] at cp;have CP:=zh cp;have HC2:=zh (HC1.out.2.trans hc2);clear hb2 hc2 hb12 by0 by1 cp HC1 HO;go_wp2_with fail;refine CP.out.mono ?_;clear CP;rintro e w3 ⟨rfl,hc3⟩;have kx:=znb w3 (.cells zSup 49);rw [<- supZ_row] at kx;have HC3:=zh (zA kx (HC2.out.trans (hc3.alloc (.cells zSup 49))));have hs3:w.heap.size<=w3.heap.size:=(HC2.out.trans hc3).size;have HX1:=zh HC3.out;rw [supZ_row] at HX1;unfold zSup at HX1;clear kx hc3
 go_upto_region 9 with (refine wpList_storeRow (t:=49) (T:=49) (b:=w3.heap.size) (o:=0) (n:=18) (N:=18) (V:=supZ.cellV) (U:=B.Kp.cellV) rfl (.tmp 9) (.tmp 46) rfl rfl rfl ?_ (by omega) infoSup (fun i _=>Sup.cell_one _ i) ?_;exact HC3.out.1;intro W4 hr4 hc4;have H4:=zh (zA hr4 hc4);clear hr4 hc4)
 have hX:=H4.out.1;rw [laid_sup] at hX;obtain ⟨xb,hxb⟩:∃ xb,xb=w3.heap.size:=⟨_,rfl⟩;rw [<- hxb] at hX ⊢;have hw34:Chg [] w W4:=HC3.out.2.then H4.out.2 (fun q hq=>by simp only [zms] at hq;subst hq;exact .inr hs3)
 have x1:W4.cell? ⟨xb,1,none⟩=some (.int .u32 (N:Int)):=by
  have:=Sup.cell hX (i:=1) (by omega);have e:=OK.out.1.kp.b;rw [this,HN.out.1,<- e];rfl
 have E1:IntKind.i64.wrap (N:Int)=(N:Int):=IntWalk.i64_in _ (by omega);have iN:((N:Int) != (N:Int))=false:=by simp
 have cg1:=fun w=>pages_at (n:=N) w (by omega) (by omega);have hpg:1<=pg N/\pg N<=4096:=by unfold pg;omega
 have cg2:=fun w=>pages_at (n:=pg N) w hpg.1 hpg.2;have h4:=H.out.chg hw34 (by simp) (by simp) (by simp);have H5:=zh (zA h4 (zA hX hw34));have CG:=zh (zA cg1 cg2);have HXB:=zh (zA hxb hs3);clear h4 hX hw34 cg1 cg2 H4 HC3 HX1 hxb hs3 HC2;go_wp2_with fail;refine (CG.out.1 _).mono ?_;rintro e w' ⟨rfl,rfl⟩;go_upto_region 13 with fail;obtain ⟨W5,hW5⟩:∃ W5,W5=W4.alloc (.cells #[.slice none 0 0,.slice none 0 0] 42):=⟨_,rfl⟩;have kS:W5.heap[W4.heap.size]?=some (.cells #[.slice none 0 0,.slice none 0 0] 42 (0,0)):=by rw [hW5];exact znb _ _
 have hc5:Chg [] W4 W5:=by rw [hW5];exact (Chg.refl _ _).alloc _
 rw [<- hW5];clear hW5;obtain ⟨sb,hsb⟩:∃ sb,sb=W4.heap.size:=⟨_,rfl⟩;rw [<- hsb] at kS ⊢;have hX5:=(hc5.block _ (zhl H5.out.2.1) (by simp)).trans H5.out.2.1;have hxs:xb<sb:=by rw [hsb];exact zhl H5.out.2.1
 have H6:=zh (zA kS (zA hX5 (H5.out.2.2.trans hc5)));have HSB:=zh (zA hsb (zhl kS));clear kS hc5 hX5 hsb x1;go_wp2_with fail;refine (CG.out.2 _).mono ?_;rintro e w' ⟨rfl,rfl⟩;obtain ⟨q,hq⟩:∃ q,q=pg (pg N):=⟨_,rfl⟩;rw [<- hq];have hq2:1<=q/\q<=2:=by rw [hq];refine ⟨?_,pgpg_le n1.2⟩;unfold pg at hpg ⊢;omega
 have HQ:=zh hq;clear hq CG;go_wp2_with fail;go_loopg [62] q (fun gg s wr=>∃ k:Nat,gg=q - k/\k<=q/\s = .int .i64 (k:Int)/\Hid (∃ v,wr.heap[sb]?=some (.cells #[.slice none 0 0,v] 42 (0,0))/\wr.ownsRow W5.heap.size 3 1 v k (intVs (fnL k (B.a 1)))/\Chg [sb] W5 wr))
 case atStart=>exact ⟨0,rfl,Nat.zero_le _,by go_num,zh ⟨_,H6.out.1,World.ownsRow_nil _ _ _ _,Chg.refl _ _⟩⟩
 case round =>
  obtain ⟨k,hgg,hkq,rfl,hXX⟩:=hrel;by_cases hk:k<q
  ·obtain ⟨v,hS,hown,hC⟩:=hXX.out
   obtain ⟨a1,c1,rfl,hc1k,hc1m⟩:=zos hown;have hX6:=(hC.block xb (zhl H6.out.2.1) (by simp only [zms];omega)).trans H6.out.2.1;have s1:=zcb hS 1;simp only [tA1,tA3,tA2] at s1;have f1:=zfb hS 1;have l1:=zhl hS;have x2:=Sup.cell H6.out.2.1 (i:=2+k) (by omega)
   have eR:B.Kp.roots k=B.a 1 k:=by
    have:=OK.out.1.kp.r k (by omega);rw [this,if_pos];have:=HQ.out;rw [<- HN.out.1];omega
   have x5:W5.cell? ⟨xb,2+k,none⟩=some (.int .u32 (B.a 1 k:Int)):=by
    rw [x2,cellV_mk _ (by omega)];unfold Sup.valS mkV;rw [if_neg (by omega),if_pos (by omega),if_neg (by omega),if_neg (by omega),if_pos (by omega),Nat.add_sub_cancel_left,eR]
   have x2':=(hC.cell (p:=⟨xb,2+k,none⟩) (zhl H6.out.2.1) (by simp only [zms];omega)).trans x5
   have hal:B.a 1 k<4294967296:=by
    have:=OK.out.1.own.ok.has 1 k (by omega) (by show k<nOf B.T.n 1;rw [<- HN.out.1];have:=HQ.out;show k<pg (pg N);omega) (OK.out.1.own.nz 1 k (by omega) (by show k<nOf B.T.n 1;rw [<- HN.out.1];have:=HQ.out;show k<pg (pg N);omega));have:=n1.2;have:=HN.out.1;omega
   obtain ⟨x,hx⟩:∃ x,x=B.a 1 k:=⟨_,rfl⟩;rw [<- hx] at x2' x5 hal;have X5:=zh x5;have E2:IntKind.i64.wrap (x:Int)=(x:Int):=IntWalk.i64_in _ (by omega);have ix:(k:Int)<8:=by omega
   have i1:(k:Int)<(q:Int):=by omega
   have xl:=zhl hX6;have xl5:=zhl H6.out.2.1;have sl5:=zhl H6.out.1;have HK:=zh (zA hS (zA hown (zA hC hx)));clear hXX hS hown hC hX6 x2 eR hx x5;go_upto_region 16 with fail;refine wp_region_held_drew (S:=fun W'=>W'.cell? ⟨xb,2+k,none⟩=some (.int .u32 (x:Int))) (by kernel_rfl) (by exact x2') (fun hHeld=>?_);refine wVd 0 ?_;refine wVd 2 ?_;refine wVd 3 ?_;refine wVd 4 ?_;refine wVd 5 ?_;refine wVd 6 ?_;try simp only [Act.put,sA1,sA2,sA3]
   refine wR [1,7] ?_;refine wC (fun K hK=>?_) ?_
   ·(go_simp)
    refine hK.out _ _ (x2') (fun hHeld=>?_);clear hK K;try simp only [Act.put,sA1,sA2,sA3]
    refine wE 7 (fun K hK=>?_)
    (go_simp)
    refine hK.out _ _ ((World.cell?_of_block (Below.heap_alloc _ _ _ xl)).trans x2') (fun hHeld=>?_);clear hK K;try simp only [Act.put,sA1,sA2,sA3]
    have hWA:=znb wr.drew (.cells #[.int .i64 (x:Int)] 3);have hcA:Chg [sb] W5 (wr.drew.alloc (.cells #[.int .i64 (x:Int)] 3)):=HK.out.2.2.1.drew.alloc _;have HWA:=zh (zA hWA hcA);clear hWA hcA;refine wE 8 (fun K hK=>?_)
    (refine step_app (base:=W5.heap.size) (m:=1) (n:=k) (xv := .slice (some ⟨wr.heap.size,0,none⟩) 1 1) (v := .slice a1 k c1) (xs:=intVs (fnL k (B.a 1))) (news:=[.int .i64 (x:Int)]) rfl (.tmp 66) (.tmp 72) 27 rfl rfl Tryz.underlying27 infoInt8 rfl (by omega) (by omega) ?_ ?_ (zoc HK.out.2.1 ((Chg.refl [] wr).drew.alloc (.cells #[.int .i64 (x:Int)] 3)) (by simp)) (AppSrc.blk HWA.out.1 rfl (fun u hu=>by simp at hu;subst hu;rfl)) (by omega) HWA.out.2.size ?_;(simp [Act.eval,Act.put]);(simp [Act.eval,Act.put]);intro v5 W6 hown6 hg6 hob6;have hc6:=HWA.out.2.grown hg6 (fun q hq => .inr (HK.out.2.1.lt q hq).1);have hs6:=(hg6.block sb (zLl l1 ((Chg.refl [] wr).drew.alloc (.cells #[.int .i64 (x:Int)] 3)).size) (fun e=>by have:=(HK.out.2.1.lt sb e.symm).1;omega)).trans ((((Chg.refl [] wr).drew.alloc (.cells #[.int .i64 (x:Int)] 3)).block sb l1 (by simp)).trans HK.out.1);obtain ⟨a6,c6,hv6,hk6,hm6⟩:=zos hown6;subst hv6;have H7:=zh (zA hown6 (zA hc6 hs6));clear hown6 hg6 hob6 hc6 hs6)
    refine hK.out _ _ ((H7.out.2.1.cell (p:=⟨xb,2+k,none⟩) xl5 (by simp only [zms];omega)).trans X5.out) (fun hHeld=>?_);clear hK K;try simp only [Act.put,sA1,sA2,sA3]
    refine wVd 9 ?_;try simp only [Act.put,sA1,sA2,sA3]
    have q1:=zcb H7.out.2.2 1;simp only [tA1,tA3,tA2] at q1;have q2:=zfb H7.out.2.2 1;have q3:=zhl H7.out.2.2;refine wE 10 (fun K hK=>?_)
    (go_simp)
    refine hK.out _ _ (((H7.out.2.1.setCell (.inl (by simp)) _:Chg [sb] W5 (W6.setCell ⟨sb,1,none⟩ (.slice a6 (k+1) c6))).cell (p:=⟨xb,2+k,none⟩) xl5 (by simp only [zms];omega)).trans X5.out) (fun hHeld=>?_);clear hK K;try simp only [Act.put,sA1,sA2,sA3]
    refine wpAnyH_done (by kernel_rfl) ?_ _;clear q1 q2;go_wp2_with fail;go_roundg (q - (k+1))
    case measure=>omega
    case rel =>
     refine ⟨k+1,rfl,by omega,by go_num,zh ⟨.slice a6 (k+1) c6,zsb H7.out.2.2 1 _,?_,H7.out.2.1.setCell (.inl (by simp)) _⟩⟩;have ho:=H7.out.1;rw [show intVs (fnL k (B.a 1))++[Value.int .i64 (x:Int)]=intVs (fnL (k+1) (B.a 1)) from by rw [fnL_succ,intVs_app,HK.out.2.2.2];rfl] at ho;exact ownRow_block ho (fun g hg=>zso 1 _ (fun e=>by have:=(ho.lt g hg).1;omega))
   refine wD (fun K hK=>?_)
   ·(go_simp)
    refine hK.out _ _ ((World.cell?_of_block (Below.heap_alloc _ _ _ xl)).trans x2') (fun hHeld=>?_);clear hK K;try simp only [Act.put,sA1,sA2,sA3]
    refine wE 1 (fun K hK=>?_)
    (have hsA:=zcb ((((Chg.refl [] wr).drew.alloc (.cells #[.int .i64 (x:Int)] 3)).block sb l1 (by simp)).trans HK.out.1) 1;simp only [tA1,tA3,tA2] at hsA;go_simp;clear hsA)
    refine hK.out _ _ ((World.cell?_of_block (Below.heap_alloc _ _ _ xl)).trans x2') (fun hHeld=>?_);clear hK K;try simp only [Act.put,sA1,sA2,sA3]
    have hWA:=znb wr.drew (.cells #[.int .i64 (x:Int)] 3);have hcA:Chg [sb] W5 (wr.drew.alloc (.cells #[.int .i64 (x:Int)] 3)):=HK.out.2.2.1.drew.alloc _;have HWA:=zh (zA hWA hcA);clear hWA hcA;refine wE 8 (fun K hK=>?_)
    (refine step_app (base:=W5.heap.size) (m:=1) (n:=k) (xv := .slice (some ⟨wr.heap.size,0,none⟩) 1 1) (v := .slice a1 k c1) (xs:=intVs (fnL k (B.a 1))) (news:=[.int .i64 (x:Int)]) rfl (.tmp 66) (.tmp 72) 27 rfl rfl Tryz.underlying27 infoInt8 rfl (by omega) (by omega) ?_ ?_ (zoc HK.out.2.1 ((Chg.refl [] wr).drew.alloc (.cells #[.int .i64 (x:Int)] 3)) (by simp)) (AppSrc.blk HWA.out.1 rfl (fun u hu=>by simp at hu;subst hu;rfl)) (by omega) HWA.out.2.size ?_;(simp [Act.eval,Act.put]);(simp [Act.eval,Act.put]);intro v5 W6 hown6 hg6 hob6;have hc6:=HWA.out.2.grown hg6 (fun q hq => .inr (HK.out.2.1.lt q hq).1);have hs6:=(hg6.block sb (zLl l1 ((Chg.refl [] wr).drew.alloc (.cells #[.int .i64 (x:Int)] 3)).size) (fun e=>by have:=(HK.out.2.1.lt sb e.symm).1;omega)).trans ((((Chg.refl [] wr).drew.alloc (.cells #[.int .i64 (x:Int)] 3)).block sb l1 (by simp)).trans HK.out.1);obtain ⟨a6,c6,hv6,hk6,hm6⟩:=zos hown6;subst hv6;have H7:=zh (zA hown6 (zA hc6 hs6));clear hown6 hg6 hob6 hc6 hs6)
    refine hK.out _ _ ((H7.out.2.1.cell (p:=⟨xb,2+k,none⟩) xl5 (by simp only [zms];omega)).trans X5.out) (fun hHeld=>?_);clear hK K;try simp only [Act.put,sA1,sA2,sA3]
    refine wVd 9 ?_;try simp only [Act.put,sA1,sA2,sA3]
    have q1:=zcb H7.out.2.2 1;simp only [tA1,tA3,tA2] at q1;have q2:=zfb H7.out.2.2 1;have q3:=zhl H7.out.2.2;refine wE 10 (fun K hK=>?_)
    (go_simp)
    refine hK.out _ _ (((H7.out.2.1.setCell (.inl (by simp)) _:Chg [sb] W5 (W6.setCell ⟨sb,1,none⟩ (.slice a6 (k+1) c6))).cell (p:=⟨xb,2+k,none⟩) xl5 (by simp only [zms];omega)).trans X5.out) (fun hHeld=>?_);clear hK K;try simp only [Act.put,sA1,sA2,sA3]
    refine wpAnyH_done (by kernel_rfl) ?_ _;clear q1 q2;go_wp2_with fail;go_roundg (q - (k+1))
    case measure=>omega
    case rel =>
     refine ⟨k+1,rfl,by omega,by go_num,zh ⟨.slice a6 (k+1) c6,zsb H7.out.2.2 1 _,?_,H7.out.2.1.setCell (.inl (by simp)) _⟩⟩;have ho:=H7.out.1;rw [show intVs (fnL k (B.a 1))++[Value.int .i64 (x:Int)]=intVs (fnL (k+1) (B.a 1)) from by rw [fnL_succ,intVs_app,HK.out.2.2.2];rfl] at ho;exact ownRow_block ho (fun g hg=>zso 1 _ (fun e=>by have:=(ho.lt g hg).1;omega))
  ·obtain rfl:k=q:=by omega
   obtain ⟨v,hS,hown,hC⟩:=hXX.out;obtain ⟨gv,cv,rfl,hcv,hcm,_,hgv,hcells⟩:=zol hown (by omega);have hX6:=(hC.block xb (zhl H6.out.2.1) (by simp only [zms];omega)).trans H6.out.2.1;have s1:=zcb hS 1;simp only [tA1,tA3,tA2] at s1;have hpn:∀ i,i<k->i<nOf B.T.n 1:=fun i hi=>by rw [<- HN.out.1];have:=HQ.out;show i<pg (pg N);omega
   have hdc:∀ i,i<k->wr.cell? ⟨gv,i,none⟩=some (.int .i64 (B.a 1 i:Int)):=fun i hi=>by
    rw [hcells i (by omega)];simp [intVs,fnL,hi]
   have ha1:∀ i,i<k->2<=B.a 1 i/\B.a 1 i<N:=fun i hi=>⟨OK.out.1.a2 1 i (by omega) (hpn i hi),by
    have:=(OK.out.1.own.ok.has 1 i (by omega) (hpn i hi) (OK.out.1.own.nz 1 i (by omega) (hpn i hi))).1;rw [HN.out.1];exact this⟩
   have cR:=baRooted_at (w:=wr.drew) (S:=B.Kp) (m:=k) (cs:=cv) (a:=some ⟨gv,0,none⟩) (A:=B.a 1) hq2.2 hcv (fun i hi=>⟨gv,rfl,hgv,hdc i hi,by have:=(ha1 i hi).2;omega⟩)
   have eRS:(rootK B.Kp k (B.a 1) 2).row=B.Kp.row:=by
    have:=root_same OK.out.1.kp;rw [<- HN.out.1,<- HQ.out] at this;exact this
   rw [eRS] at cR;have hEq:∀ w,(Op.equalIn 10000 49 (.agg B.Kp.row) (.agg (fnRow 18 B.Kp.cellV))).run Tryz.prog w = .ok true w:=fun w=>sup_same w rfl;have HR:=zh (zA hX6 (zA hS (zA hown (zA hC (zA cR (zA hdc ha1))))));have HHN:=zh (zA hgv (zA hcv hcm));have xl:=zhl hX6;have sl:=zhl hS;clear hXX hX6 hS hown hC hcells cR eRS hdc ha1 hgv hcm hpn;go_wp2_with fail;go_upto_region 18 with fail;refine wp_region_held_drew (S:=fun W'=>W'.cell? ⟨sb,1,none⟩=some (.slice (some ⟨gv,0,none⟩) k cv)/\∀ j,j<18->W'.cell? ⟨xb,0+j,none⟩=some (B.Kp.cellV j)) (by kernel_rfl) (by exact ⟨s1,Sup.cells HR.out.1⟩) (fun hHeld=>?_);refine wpAnyH_take (i:=0) (oi:=?_) (v := .agg (fnRow 18 B.Kp.cellV)) ?_ (by kernel_rfl) (by kernel_rfl) (by kernel_rfl) ?_ (yields_row (n:=18) (V:=B.Kp.cellV) Tryz.underlying49 rfl (by kernel_rfl) ?_ (.tmp 9) ?_ ?_ (fun w' hw=>hw.2)) hHeld ?_
   rotate_left 1
   ·(simp only [tA1,tA2,tA3];rfl)
   ·exact fun _ _ _ h=>h
   ·rfl
   ·rfl
   ·(first | rfl | simp [Act.eval,Act.put])
   try simp only [Act.put,sA1,sA2,sA3]
   refine wV 1 ?_ (hy:=by rintro W' ⟨s0,s2⟩;go_simp;first | done | with_reducible rfl);refine wV 2 ?_ (hy:=by rintro W' ⟨s0,s2⟩;go_simp;first | done | with_reducible rfl);try simp only [Act.put,sA1,sA2,sA3]
   refine wpAnyH_take (i:=4) (oi:=?_) (v := .agg (fnRow 18 B.Kp.cellV)) ?_ (by kernel_rfl) (by kernel_rfl) (by kernel_rfl) ?_ (yields_row (n:=18) (V:=B.Kp.cellV) Tryz.underlying49 rfl (by kernel_rfl) ?_ (.tmp 9) ?_ ?_ (fun w' hw=>hw.2)) hHeld ?_
   rotate_left 1
   ·(simp only [tA1,tA2,tA3];rfl)
   ·exact fun _ _ _ h=>h
   ·rfl
   ·rfl
   ·(first | rfl | simp [Act.eval,Act.put])
   try simp only [Act.put,sA1,sA2,sA3]
   refine wE 3 (fun K hK=>?_)
   (go_simp;refine HR.out.2.2.2.2.1.mono ?_;rintro e wRz ⟨rfl,hcR⟩;have hcR':Chg [] wr wRz:=(Chg.refl [] wr).drew.trans hcR;have HCR:=zh hcR';clear hcR hcR')
   refine hK.out _ _ (⟨(HCR.out.cell (p:=⟨sb,1,none⟩) sl (by simp)).trans s1,fun j hj=>(HCR.out.cell (p:=⟨xb,0+j,none⟩) xl (by simp)).trans (Sup.cells HR.out.1 j hj)⟩) (fun hHeld=>?_);clear hK K;try simp only [Act.put,sA1,sA2,sA3]
   refine wV 5 ?_ (hy:=by rintro W' ⟨s0,s2⟩;have hE1:=hEq W';go_simp;first | done | with_reducible rfl);try simp only [Act.put,sA1,sA2,sA3]
   refine wpAnyH_done (by kernel_rfl) ?_ _;clear hEq;have hS2:=(HCR.out.block sb sl (by simp)).trans HR.out.2.1;have hC2:=HR.out.2.2.2.1.trans (HCR.out.mono (by simp));have hdk:=(H.out.chg (H6.out.2.2.then hC2 (fun q hq=>by simp only [zms] at hq;subst hq;exact .inr (by have:=HSB.out;have:=H5.out.2.2.size;omega))) (by simp) (by simp) (by simp))
   have ct:=baThrough_at (kind:=4) (N:=pg N) (l:=B.a 0) (A:=B.a 1) (gs:=gv) (m:=k) (cs:=cv) hdk (.inl rfl) hpg.2 (by rw [HQ.out]) hcv (fun i hi=>by
     have:=(OK.out.1.own.ok.has 0 i (by omega) (by rw [<- HN.out.1];exact hi) (OK.out.1.own.nz 0 i (by omega) (by rw [<- HN.out.1];exact hi))).1
     have:=HN.out.1;omega) (zLl HHN.out.1 HCR.out.size) (fun i hi=>⟨(HCR.out.cell (p:=⟨gv,i,none⟩) HHN.out.1 (by simp)).trans (HR.out.2.2.2.2.2.1 i hi),(HR.out.2.2.2.2.2.2 i hi).1,by rw [HN.out.2];exact (HR.out.2.2.2.2.2.2 i hi).2,fun j hj=>by
     rw [OK.out.2 _ (by rw [<- HN.out.1];exact (HR.out.2.2.2.2.2.2 i hi).2) j hj];have:=OK.out.1.disk.dir i (by rw [<- HN.out.1,<- HQ.out];exact hi) j hj;rw [<- HN.out.1] at this;exact this⟩)
   have s1':=zcb hS2 1;simp only [tA1,tA3,tA2] at s1';have CT:=zh ct;have HH2:=zh (zA hS2 (zA hC2 ((HCR.out.block xb xl (by simp)).trans HR.out.1)));clear ct hS2 hC2 hdk s1;go_wp2_with fail;refine CT.out.mono ?_;clear CT;rintro e wTz ⟨vP,rfl,hoP,hcT⟩;obtain ⟨gp,cp,rfl,hcp,hcpm,hgp0,hgp,hpc⟩:=zol hoP hpg.1;have hST:=(hcT.block sb (zhl HH2.out.1) (by simp)).trans HH2.out.1;have hSU:=zsb hST 0 (.slice (some ⟨gp,0,none⟩) (pg N) cp);have hcU:Chg [sb] wRz (wTz.setCell ⟨sb,0,none⟩ (.slice (some ⟨gp,0,none⟩) (pg N) cp)):=(hcT.mono (by simp)).setCell (.inl (by simp)) _;have t0:=zcb hST 0;have t1:=zfb hST 0;have t2:=zhl hST;simp only [tA1,tA3,tA2] at t0;have hgsb:gp≠sb:=by have:=zhl HH2.out.1;omega
   have hpcU:∀ i,i<pg N->(wTz.setCell ⟨sb,0,none⟩ (.slice (some ⟨gp,0,none⟩) (pg N) cp)).cell? ⟨gp,i,none⟩=some (.int .i64 (B.a 0 i:Int)):=fun i hi=>(World.cell?_of_block (zso 0 _ hgsb)).trans (by rw [hpc i (by omega)];simp [intVs,fnL,hi]);have hgpU:gp<(wTz.setCell ⟨sb,0,none⟩ (.slice (some ⟨gp,0,none⟩) (pg N) cp)).heap.size:=by simp [World.setCell];exact hgp
   have HU:=zh (zA hSU (zA hcU (zA hpcU hgpU)));have HGP:=zh (zA hcp (zA hcpm (zA hgp0 hgsb)));clear hoP hcT hST hSU hcU hpc hpcU hgpU s1';go_upto_region 23 with fail;generalize wTz.setCell ⟨sb,0,none⟩ (.slice (some ⟨gp,0,none⟩) (pg N) cp)=wU at *;clear t0 t1 t2;have hSU:=HU.out.1;simp only [List.setIfInBounds_toArray,List.set_cons_zero] at hSU;have u0:=zcb hSU 0;simp only [tA1,tA3,tA2] at u0;have hCU:=HH2.out.2.1.trans HU.out.2.1;have hwU:Chg [] w wU:=H6.out.2.2.then hCU (fun q hq=>by simp only [zms] at hq;subst hq;exact .inr (by have:=HSB.out;have:=H5.out.2.2.size;omega));have hdU:=H.out.chg hwU (by simp) (by simp) (by simp);have hpn0:∀ i,i<pg N->i<nOf B.T.n 0:=fun i hi=>by rw [<- HN.out.1];exact hi
   have ct:=baThrough_at (kind:=5) (N:=N) (l:=B.T.kept) (A:=B.a 0) (gs:=gp) (m:=pg N) (cs:=cp) hdU (.inr rfl) n1.2 rfl HGP.out.1 (fun i hi=>by
     have:=(OK.out.1.le i (by have:=HN.out.1;omega)).2;omega) HU.out.2.2.2 (fun i hi=>⟨HU.out.2.2.1 i hi,OK.out.1.a2 0 i (by omega) (hpn0 i hi),by
     have:=(OK.out.1.own.ok.has 0 i (by omega) (hpn0 i hi) (OK.out.1.own.nz 0 i (by omega) (hpn0 i hi))).1
     rw [HN.out.2,HN.out.1];exact this,fun j hj=>by
     rw [OK.out.2 _ (OK.out.1.own.ok.has 0 i (by omega) (hpn0 i hi) (OK.out.1.own.nz 0 i (by omega) (hpn0 i hi))).1 j hj];have:=OK.out.1.disk.cnt i (by rw [<- HN.out.1];exact hi) j hj;rw [<- HN.out.1] at this;exact this⟩)
   have CT:=zh ct;have HV:=zh (zA hSU (zA hwU ((HU.out.2.1.block xb (zhl HH2.out.2.2) (by simp only [zms];omega)).trans HH2.out.2.2)));clear ct hSU hCU hwU hdU hpn0;go_wp2_with fail;refine CT.out.mono ?_;clear CT u0;rintro e wVz ⟨vC,rfl,hoC,hcV⟩;obtain ⟨gc,cc,rfl,hcc,hccm,hgc0,hgc,hcells⟩:=zol hoC (by omega);have cnm:=baNumbers_at (w:=wVz) (g:=gc) (o:=0) (c:=cc) (n:=N) (a:=some ⟨gc,0,none⟩) (l:=B.T.kept) (by omega) hcc (fun i hi=>by have:=(OK.out.1.le i (by have:=HN.out.1;omega)).2;omega) (fun _=>⟨rfl,hgc,fun i hi=>by rw [Nat.zero_add,hcells i (by omega)];simp [intVs,fnL,hi]⟩);have CN:=zh cnm;have HCV:=zh hcV;clear cnm hoC hcells hcV hgc hgc0 hccm;go_wp2_with fail;refine CN.out.mono ?_;clear CN;rintro e wX ⟨vN,rfl,hoN,hcX⟩;obtain ⟨an,cn,rfl,hcn,hcnm,hun⟩:=u16In_own hoN (fun i hi=>by have:=(OK.out.1.le i (by have:=HN.out.1;omega)).2;omega);have cof:=tofU_at hun hcn hcnm (by omega) n1.2;have COF:=zh cof;have HCX:=zh (HCV.out.trans hcX);clear cof hoN hcX hun hcn hcnm HCV;go_wp2_with fail;refine COF.out.mono ?_;clear COF;rintro e wY ⟨t,bc,bk,rfl,hT,hcY,lt1,lt2,lt3⟩;have hUY:Chg [] wU wY:=HCX.out.trans hcY;have hSY:=(hUY.block sb (zhl HV.out.1) (by simp)).trans HV.out.1;have y0:=zcb hSY 0;have y1:=zcb hSY 1;simp only [tA1,tA3,tA2] at y0 y1
   have hsl0:SlI wY (.slice (some ⟨gp,0,none⟩) (pg N) cp) (fnL (pg N) (B.a 0)) := .inr ⟨gp,cp,by rw [fnL_len],by rw [fnL_len];exact HGP.out.1,HGP.out.2.1,zLl HU.out.2.2.2 hUY.size,fun i hi=>by
    rw [fnL_len] at hi;rw [fnL_get hi];exact (hUY.cell (p:=⟨gp,i,none⟩) HU.out.2.2.2 (by simp)).trans (HU.out.2.2.1 i hi)⟩
   have hCr:Chg [sb] wr wY:=(HCR.out.mono (by simp)).trans (HU.out.2.1.trans (hUY.mono (by simp)));have hgvs:gv≠sb:=by have:=HSB.out.2;omega
   have hsl1:SlI wY (.slice (some ⟨gv,0,none⟩) k cv) (fnL k (B.a 1)) := .inr ⟨gv,cv,by rw [fnL_len],by rw [fnL_len];exact HHN.out.2.1,HHN.out.2.2,zLl HHN.out.1 hCr.size,fun i hi=>by
    rw [fnL_len] at hi;rw [fnL_get hi];exact (hCr.cell (p:=⟨gv,i,none⟩) HHN.out.1 (by simpa using hgvs)).trans (HR.out.2.2.2.2.2.1 i hi)⟩
   obtain ⟨g,hg⟩:∃ g:Nat->Nat,g=fun k=>if k=0 then gp else gv:=⟨_,rfl⟩
   obtain ⟨c,hc⟩:∃ c:Nat->Nat,c=fun k=>if k=0 then cp else cv:=⟨_,rfl⟩
   have hsh:ShV wY (.slice (some ⟨gp,0,none⟩) (pg N) cp) (.slice (some ⟨gv,0,none⟩) k cv) B.a (nOf N) g c:=by
    refine ⟨by rw [hg,hc];rfl,by rw [hg,hc,HQ.out];rfl,fun j hj=>?_⟩
    match j,hj with
    | 0,_=>rw [hg,hc];exact hsl0
    | 1,_=>rw [hg,hc];have h:=hsl1;rw [HQ.out] at h;exact h
   have hTO:TallyAt wY t bc bk B.open_.T:=by
    have h:=hT;rw [HN.out.1] at h;exact h
   have hOO:=OK.out.1.open_ok;have hok1:ShOk B.open_.T (nOf N) B.a:=by have:=hOO.own.ok;rw [HN.out.1];exact this
   have cri:=right_at hTO hsh hok1;have CRI:=zh cri;have HY:=zh (zA hTO (zA hsh (zA (HV.out.2.1.trans hUY) (zA hSY ((hUY.block xb (zhl HV.out.2.2) (by simp)).trans HV.out.2.2)))))
   have HLT:=zh (show w.heap.size<=t/\w.heap.size<=bc/\w.heap.size<=bk/\w.heap.size<=gp/\w.heap.size<=gv from by
    have a1:=(HV.out.2.1.trans HCX.out).size;have a2:=H6.out.2.2.size;have a3:=HR.out.2.2.2.1.size;have a4:=HCR.out.size;have a5:=HGP.out.2.2.1;refine ⟨by omega,by omega,by omega,by omega,by omega⟩)
   have HG:=zh (zA hg hc);have hUYX:=zh hcY;have hCrX:=zh hCr;clear cri hT hTO hsh hok1 hOO hsl0 hsl1 hCr hSY hUY hcY lt1 lt2 lt3 hg hc hgvs;go_wp2_with fail;refine CRI.out.mono ?_;clear CRI y0 y1;rintro e wZ ⟨rfl,hcZ⟩;have hTZ:=HY.out.1.chg hcZ (by simp) (by simp) (by simp);have cpn:=pnew_at hTZ 2 (by show 2<=B.T.n;have:=HN.out.1;omega)
   change Calls _ _ #[_,.int .i64 2] wZ _ at cpn
   have CPN:=zh cpn;have HZ:=zh (zA hTZ hcZ);clear cpn hTZ hcZ;go_wp2_with fail;refine CPN.out.mono ?_;clear CPN;rintro e wP ⟨rfl,hPP,hcP⟩;have hYP:=HZ.out.2.trans hcP;have hSP:=(hYP.block sb (zhl HY.out.2.2.2.1) (by simp)).trans HY.out.2.2.2.1;have hXP:=(hYP.block xb (zhl HY.out.2.2.2.2) (by simp)).trans HY.out.2.2.2.2;have p0:=zcb hSP 0;have p1:=zcb hSP 1;simp only [tA1,tA3,tA2] at p0 p1;have HP:=zh (zA hPP (zA (HZ.out.1.chg hcP (by simp) (by simp) (by simp)) (zA (HY.out.2.1.chg hYP (by simp) (by simp)) (zA (HY.out.2.2.1.trans hYP) hXP))));have HPS:=zh (HY.out.2.2.1.trans HZ.out.2).size;have HPP:=zh (show gp<wP.heap.size/\gv<wP.heap.size from ⟨zLl HU.out.2.2.2 (HCX.out.trans (hUYX.out.trans hYP)).size,zLl HHN.out.1 (hCrX.out.trans (hYP.mono (by simp))).size⟩);clear hPP hcP hYP hSP hXP HZ HY;have hg0:g 0=gp/\g 1=gv/\c 0=cp/\c 1=cv:=by rw [HG.out.1,HG.out.2];exact ⟨rfl,rfl,rfl,rfl⟩
   have eSl:((B.Kp.gen:Int) % 2)=((B.Kp.gen % 2:Nat):Int):=by omega
   have hbd:Tryz.prog.built 51 [(0,.pointer (some ⟨d,0,none⟩)),(1,.pointer (some ⟨t,0,none⟩)),(2,.pointer (some ⟨wZ.heap.size,0,none⟩)),(3,.agg #[.slice (some ⟨gp,0,none⟩) (pg N) cp,.slice (some ⟨gv,0,none⟩) k cv]),(4,.map (some wP.heap.size)),(5,.agg B.Kp.row),(6,.agg B.Kp.row),(7,.int .i64 ((B.Kp.gen:Int) % 2))]=some (fnRow 44 (baseV ⟨wP.heap.size+1,d,bb,wZ.heap.size,t,bc,bk,wP.heap.size⟩ ⟨g,c,fun _=>0,fun _=>0⟩ B.open_)):=by
    rw [<- hg0.1,<- hg0.2.1,<- hg0.2.2.1,<- hg0.2.2.2,eSl];exact built_base ⟨wP.heap.size+1,d,bb,wZ.heap.size,t,bc,bk,wP.heap.size⟩ ⟨g,c,fun _=>0,fun _=>0⟩ B.open_ (pg N) k (by show pg N=nOf B.T.n 0;rw [HN.out.1];rfl) (by show k=nOf B.T.n 1;rw [HQ.out,HN.out.1];rfl)
   have HBD:=zh (zA hbd hg0);have hmm:=run_makeMap (P:=Tryz.prog) 43 wP;have hXA:=((Chg.refl [] wP).alloc (.map #[] 0)).block xb (zhl HP.out.2.2.2.2) (by simp);have HXA:=zh (hXA.trans HP.out.2.2.2.2);clear hbd hg0 eSl hXA;go_upto_region 30 with fail
   go_wp2_with (first
    | (refine wpList_loadSup (S:=B.Kp) rfl (.tmp 9) rfl (k:=xb) (o:=0) rfl ?_ ?_;exact Sup.cells HXA.out)
    | (refine wpList_built rfl 51 _ rfl (ps:=_) ?hp HBD.out.1 ?hk;case hp=>(simp [Act.eval,Act.put]))
    | (refine wpList_boxAgg rfl 51 (.tmp 128) rfl rfl ?_))
   obtain ⟨M,hM⟩:∃ M:Bm,M=⟨wP.heap.size+1,d,bb,wZ.heap.size,t,bc,bk,wP.heap.size⟩:=⟨_,rfl⟩;obtain ⟨R,hR⟩:∃ R:Br,R=⟨g,c,fun _=>0,fun _=>0⟩:=⟨_,rfl⟩;rw [<- hM,<- hR];have hcF:Chg [] wP ((wP.alloc (.map #[] 0)).alloc (.cells (fnRow 44 (baseV M R B.open_)) 51)):=((Chg.refl [] wP).alloc _).alloc _;have hbF:=znc wP (.map #[] 0) (.cells (fnRow 44 (baseV M R B.open_)) 51);have hmF:=KMapV.made (P:=Tryz.prog) (kt:=3) (good:=goodF) wP B.T.n;have hmF2:=hmF.chg ((Chg.refl [] _).alloc (.cells (fnRow 44 (baseV M R B.open_)) 51)) (by simp);obtain ⟨wF,hwF⟩:∃ wF,wF=(wP.alloc (.map #[] 0)).alloc (.cells (fnRow 44 (baseV M R B.open_)) 51):=⟨_,rfl⟩;rw [<- hwF] at hcF hbF hmF2 ⊢;have hg:=HG.out.1;have hc:=HG.out.2;have n3:=OK.out.1.n;have hPp:wZ.heap.size<wP.heap.size:=zhl HP.out.1.top;have hPT:=HP.out.2.1;refine bodyPost_ret (v := .tuple #[.pointer (some ⟨M.b,0,none⟩),.int .i64 0]) (by simp [results,Tryz.results38,go_sem,hM]) rfl ⟨M,R,rfl,by rw [hM],by rw [hM],?_,HP.out.2.2.2.1.trans hcF,?_⟩
   ·have hsh:=(HP.out.2.2.1.chg hcF (by simp) (by simp))
    refine { top:=by rw [show M.b=wP.heap.size+1 from by rw [hM]];exact hbF,pt:=?_,sh:=?_,fm:=?_,fd:=(fun k f hk hf=>by cases hf),ok:=OK.out.1.open_ok,ne:=?_,glt:=?_ }
    ·rw [hM]
     exact ⟨⟨(hcF.block _ (zhl HP.out.1.top) (by simp)).trans HP.out.1.top⟩,hPT.chg hcF (by simp) (by simp) (by simp),zLr _,by show 2<=B.T.n;omega,Nat.zero_le _⟩
    ·have e0:nOf B.open_.T.n 0=pg N:=by rw [HN.out.1];rfl
     have e1:nOf B.open_.T.n 1=k:=by rw [HQ.out,HN.out.1];rfl
     have eg:R.g=g/\R.c=c:=by rw [hR];exact ⟨rfl,rfl⟩
     rw [e0,e1,eg.1,eg.2,HBD.out.2.1,HBD.out.2.2.1,HBD.out.2.2.2.1,HBD.out.2.2.2.2];have h:=hsh;rw [HN.out.1] at h ⊢;exact h
    ·rw [show M.mf=wP.heap.size from by rw [hM]]
     exact hmF2.congr fun k hk=>rfl
    ·rw [hM]
     exact fun e=>by have:=hPT.lt2;change wP.heap.size=bk at e;omega
    ·intro j hj
     have eg:R.g=g:=by rw [hR]
     rw [eg];have hs:=hcF.size;obtain ⟨l0,l1⟩:gp<wP.heap.size/\gv<wP.heap.size:=HPP.out
     match j,hj with
     | 0,_=>rw [HBD.out.2.1];omega
     | 1,_=>rw [HBD.out.2.2.1];omega
   ·intro x hx hxd hxb
    have h1:=HLT.out;have h2:=HP.out.2.2.2.1.size;have h3:=HPS.out;rcases hx with hx | ⟨j,hj,rfl⟩ | ⟨j,hj,hf,rfl⟩
    ·rw [hM] at hx
     simp only [Bm.L,List.mem_cons,List.not_mem_nil,or_false] at hx;rcases hx with rfl | rfl | rfl | rfl | rfl | rfl | rfl | rfl
     ·omega
     ·exact absurd rfl hxd
     ·exact absurd rfl hxb
     ·exact h3
     ·exact h1.1
     ·exact h1.2.1
     ·exact h1.2.2.1
     ·exact h2
    ·rw [show R.g=g from by rw [hR]]
     match j,hj with
     | 0,_=>rw [HBD.out.2.1];exact h1.2.2.2.1
     | 1,_=>rw [HBD.out.2.2.1];exact h1.2.2.2.2
    ·cases hf
end Go.Proofs.YtkhcaclndepgbaaGreat
