/- Layer 14's Counted: the walk. · Package -/
import Derived.Test.YtegpiomkmfhadaaGreatZo37
import Derived.Sort.AssemblyPlain
import Derived.Sort.LotD4
import Derived.Sort.LotD5
import Derived.IntWalk
set_option linter.all false
set_option maxRecDepth 100000
set_option maxHeartbeats 20000000
namespace Go.Proofs.YtegpiomkmfhadaaGreat
open Go.RowKit
variable {N G r h:Nat} {B:Bs} {ht:Ht} {R F:List Nat} {oth:Nat->Int} {D:Nat->Bool} {w:World} {p v:Value} {M:Bm}
structure AM (N G:Nat) (B:Bs) (ht:Ht) (BR:zF) (R:List Nat) (oth:Nat->Int):Prop where
 gr:Gr N G B ht BR
 hM:1<=N/\N<=4096
 top:∀ r,r∈R->r=0∨∃ c,ht r=some c/\c % 100<8
 all:∀ n,(ht n).isSome=true->1<=BR n->n∈R
 low:∀ n c,ht n=some c->c<200
 tell:∀ k c,ht k=some c->100<=c->c % 100=0->∀ d,B.nodeI (k:Int)=some d->∀ i,i<d.n->d.v i≠0->d.v i∈R
 sum:∀ b,2<=b->b<N->(xG R b:Int)+oth b=(BR b:Int)
 o0:oth 0=0/\oth 1=0
 big:∀ b,b<N -> -1000000<=oth b/\oth b<=1000000
 len:R.length<=1000
theorem AM.ends {BR:zF} (h:AM N G B ht BR R oth) {q:zF} (m:Y6 B ht (fun _=>false) D) (hr:∀ r,r∈R->r≠0->D r=true) (hs:∀ b,1<=b->b<N->q b=xG R b+Ol B N D b) (h0:q 0=0) :
  (∀ b,b<N->¬ ((q b:Int)+oth b=0/\B.T.now b=1)->(B.T.now b:Int)=(q b:Int)+oth b)/\cnt N (fun b=>decide ((q b:Int)+oth b=0/\B.T.now b=1))=qu N/\∀ b,b<N->q b<=100000:=by
 have BU:∀ r,r∈R->r≠1:=fun r hm e=>by
  rcases h.top r hm with q | ⟨c,hc,_⟩
  ·omega
  ·exact h.gr.ne1 hc e
 have ha:∀ b,Ol B N D b=xq B ht N b:=fun b=>h.gr.addS_eq m (fun n hn hp=>hr n (h.all n hn hp) (fun e=>by
  obtain ⟨c,hc⟩:=yR.1 hn;have:=h.gr.two (h.gr.lt hc).2 (h.gr.lt hc).1;omega)) h.low (fun k c hk h1 h2 d hd i hi hv=>hr _ (h.tell k c hk h1 h2 d hd i hi hv) hv) b
 have h1:((q 1:Nat):Int)+oth 1=0:=by
  rw [h.o0.2,hs 1 zo (by have:=h.gr.good.ok.n.1;have:=h.gr.good.n;omega),ha,h.gr.refs_one];unfold xG;rw [List.count_eq_zero.2 (fun hm=>BU 1 hm rfl)];rfl
 obtain ⟨r1,r2⟩:=h.gr.counted (q:=fun b=>(q b:Int)+oth b) (by show ((q 0:Nat):Int)+oth 0=0;rw [h0,h.o0.1];rfl) h1 (fun b b2 bN=>by
  have:=h.sum b b2 bN
  show ((q b:Nat):Int)+oth b=_
  rw [hs b zo bN,ha];omega)
 refine ⟨r1,r2,fun b hb=>?_⟩;by_cases e:b=0
 ·rw [e,h0];omega
 ·rw [hs b zo hb]
  have h2:=gH h.gr.good.ok (N:=N) D b;have:=QT R b;have:=h.len;have:=h.hM;omega
def tU (w:World) (B:Bs) (ht:Ht) (r:Nat) (e:Ending) (w':World):Prop :=
 ∃ (lf:Bool) (a1 a2 a3:Option Addr) (n1 c1 n2 c2 n3 c3:Nat),e = .returned (.tuple #[.agg #[.int .i64 (r:Int),.bool lf,.slice a1 n1 c1,.slice a2 n2 c2,.slice a3 n3 c3],.bool true])/\(∀ A,(∀ q,q∈A->q<w.heap.size)->JE A w' B ht r [.int .i64 (r:Int),.bool lf,.slice a1 n1 c1,.slice a2 n2 c2,.slice a3 n3 c3])/\zv [] w w'
theorem jV : zC 54 #[p,.int .i64 0,.int .i64 0] w (tU w B ht 0):=by
 have k0:=xo w (.cells #[.int .i64 0,.bool false,.slice none 0 0,.slice none 0 0,.slice none 0 0] 129);have c0:=(zv.refl [] w).alloc (.cells #[.int .i64 0,.bool false,.slice none 0 0,.slice none 0 0,.slice none 0 0] 129);have s1:(w.alloc (.cells #[.int .i64 0,.bool false,.slice none 0 0,.slice none 0 0,.slice none 0 0] 129)).heap.size=w.heap.size+1:=zD _ _;have k1:=xo (w.alloc (.cells #[.int .i64 0,.bool false,.slice none 0 0,.slice none 0 0,.slice none 0 0] 129)) (.cells #[.int .i64 0,.bool false,.slice none 0 0,.slice none 0 0,.slice none 0 0] 129);have c1:=c0.alloc (.cells #[.int .i64 0,.bool false,.slice none 0 0,.slice none 0 0,.slice none 0 0] 129);have k2:=(((zv.refl [] _).alloc (.cells #[.int .i64 0,.bool false,.slice none 0 0,.slice none 0 0,.slice none 0 0] 129)).block w.heap.size (zz k0) zaa).trans k0;rw [s1] at k1;clear k0 c0 s1;go_enter Tryz.func54,Tryz.ntmps54;go_upto_region 2 with fail;generalize (w.alloc _).alloc _=W at k1 c1 k2 ⊢;obtain ⟨y0,y1,y2,y3,y4⟩:=pZ k1;obtain ⟨t0,t1,t2,t3,t4⟩:=pZ k2;have:=xB k2 0;have:=xB k2 1;have:=xB k2 2;have:=xB k2 3;have:=xB k2 4;have HK:=zh (zA k2 c1);clear k1 c1 k2;go_wp2_with fail;refine bodyPost_ret (qG (a:=6) (b:=7) zab rfl (tQ (AL HK.1 _ _ _ _ _))) rfl ?_
 exact ⟨_,_,_,_,_,_,_,_,_,_,rfl,fun A hA => .inl ⟨rfl,rfl⟩,HK.2.then (cI _ _ _ _ _ _ _) (fun q hq=>by rw [zms] at hq;exact .inr zo)⟩
theorem l8 {BR:zF} (hb:zx w M F B) (g:Gr N G B ht BR) (hM:N<=4096) (hr:r=0∨∃ c,ht r=some c/\c % 100<8) :
  zC 54 #[zP M.b,.int .i64 (r:Int),.int .i64 0] w (tU w B ht r):=by
 rcases hr with rfl | ⟨c,hc,h8⟩
 ·exact jV
 ·refine (cJ (c % 100) (l:=0) hb g hM hc rfl zo).mono ?_
  rintro e w' ⟨lf,a1,a2,a3,n1,c1,n2,c2,n3,c3,h1,h2,h3⟩;exact ⟨lf,a1,a2,a3,n1,c1,n2,c2,n3,c3,h1,fun A hA => .inr ⟨_,c,hc,h2 A hA⟩,h3⟩
theorem l9 {BR:zF} (hb:zx w M F B) (hC:AM N G B ht BR R oth) {vo:Value} (hv:Y9 w v R)
  (hO:∀ w',zv [] w w'->∀ b:Nat,b<N->(Instr.lookup 39 vo (.int .i64 (b:Int)) false).run Tryz.prog w' = .ok (.int .i64 (oth b)) w') :
  zC 24 #[zP M.b,v,vo] w fun e w'=>e = .returned (.bool true)/\zv [] w w':=by
 obtain ⟨a,cap,rfl⟩:=hv.len;have KO:=hb.cBlocks;have Gq:=hC.gr.good.n;rw [Gq] at KO;have hN:=hC.hM;have B9:=hC.len;obtain ⟨n,hn⟩:=zE R.length;have H:=zh (zA hb (zA hC (zA hv (zA hO hn))));rw [<- hn] at B9 ⊢;have n0:((N:Int)==0)=false:=by rw [yD];omega
 clear hb hC hv hO hn;go_enter Tryz.func24,Tryz.ntmps24;go_wp2_with fail;refine zm (KO) ?_;go_upto_region 5 with fail;go_loopg [7,21] n (fun gg s7 s21 wr=>∃ i:Nat,gg=n - i/\i<=n/\s21 = .int .i64 (i:Int)/\Hd (∃ us:List (List Value),wr.ownsRow w.heap.size 129 5 s7 i us.flatten/\us.length=i/\(∀ U,U∈us->U.length=5)/\(∀ j,j<i->JE (qm s7) wr B ht (R.getD j 0) (us.getD j []))/\zv [] w wr))
 case atStart=>exact ⟨0,rfl,yg _,rfl,zh ⟨[],yO _ _ _ _,rfl,fun U hU=>(by cases hU),fun j hj=>zo,zv.refl _ _⟩⟩
 case round =>
  obtain ⟨i,Dw,hi,rfl,HR⟩:=hrel;have FK:=zh Dw;clear Dw;obtain ⟨us,h1,h2,h3,h4,h5⟩:=HR.o;obtain ⟨ua,uc,rfl,u1,u2⟩:=XI h1;have HS:=zh (zA h1 (zA h2 (zA h3 (zA h4 h5))));by_cases Cm:i<n
  ·have i1:(i:Int)<(n:Int):=zo
   have Iv:i<R.length:=by rw [<- H.2.2.2.2];exact Cm
   obtain ⟨g,rfl,Gj⟩:=(H.2.2.1.chg h5).get.2 i Iv;have EK:R.getD i 0∈R:=by rw [zgD,yt Iv];exact zt _
   have ct:=l8 (H.1.chg h5) H.2.1.gr H.2.1.hM.2 (H.2.1.top _ EK);obtain ⟨r,hr⟩:=zE (R.getD i 0);rw [<- hr] at Gj ct;have HRr:=zh hr;have CT:=zh ct;clear h1 h2 h3 h4 h5 EK ct hr Iv;go_wp2_with fail;refine CT.mono ?_;clear CT;rintro e w3 ⟨lk,a1,a2,a3,n1,m1,n2,m2,n3,m3,rfl,hT,Ci⟩;have HT:=zh (zA hT Ci);clear hT Ci;go_upto_region 10 with fail;have kx:=xo w3 (.cells #[.int .i64 (r:Int),.bool lk,.slice a1 n1 m1,.slice a2 n2 m2,.slice a3 n3 m3] 129);have cx:=HT.2.alloc (.cells #[.int .i64 (r:Int),.bool lk,.slice a1 n1 m1,.slice a2 n2 m2,.slice a3 n3 m3] 129);have RX:=(zv.refl [] w3).alloc (.cells #[.int .i64 (r:Int),.bool lk,.slice a1 n1 m1,.slice a2 n2 m2,.slice a3 n3 m3] 129);generalize w3.alloc (.cells #[.int .i64 (r:Int),.bool lk,.slice a1 n1 m1,.slice a2 n2 m2,.slice a3 n3 m3] 129)=W3 at kx cx RX ⊢;obtain ⟨e0,e1,e2,e3,e4⟩:=pZ kx;have FY:=xo W3 (.cells #[.int .i64 (r:Int),.bool lk,.slice a1 n1 m1,.slice a2 n2 m2,.slice a3 n3 m3] 129);have Cd:zv [] W3 (W3.alloc (.cells #[.int .i64 (r:Int),.bool lk,.slice a1 n1 m1,.slice a2 n2 m2,.slice a3 n3 m3] 129)):=(zv.refl [] W3).alloc _;have c4:=cx.trans Cd;have H4:=zh (zA (Xg HS.1 c4 zaa) (zA FY (zA c4 (qh HS.2.2.2.2.size c4.size))));have Tq:=zh (RX.trans Cd);clear FY Cd c4 kx cx RX
   go_wp2_with (at_builtin;refine x9 rfl _ _ 127 rfl rfl (base:=w.heap.size) (size:=5) (n:=i) (m:=1) (xs:=us.flatten) (news:=[.int .i64 (r:Int),.bool lk,.slice a1 n1 m1,.slice a2 n2 m2,.slice a3 n3 m3]) Tryz.underlying127 fD rfl zo zo rfl rfl H4.1 (xQ.blk H4.2.1 rfl (fun u hu=>by simp at hu;rcases hu with rfl | rfl | rfl | rfl | rfl <;> rfl)) zo H4.2.2.2 ?_;intro v' w5 Cf Dd Ec;have cG:=(zv.refl (qm (.slice ua i uc)) _).grown Dd (fun z hz => .inl (Xj.2 hz));have H5:=zh (zA Cf (zA cG Ec));clear Cf Dd Ec cG);go_roundg (n - (i+1))
   case measure=>have:=FK.o;omega
   case rel =>
    refine ⟨i+1,rfl,Cm,zac,zh ⟨us++[[.int .i64 (r:Int),.bool lk,.slice a1 n1 m1,.slice a2 n2 m2,.slice a3 n3 m3]],?_,by rw [ym,HS.2.1];rfl,fun V hV=>?_,fun j hj=>?_,(HS.2.2.2.2.trans H4.2.2.1).then H5.2.1 (fun q hq => .inr (HS.1.lt q (Xj.1 hq)).1)⟩⟩
    ·have:=H5.1
     rw [List.flatten_append];simpa using this
    ·rcases yx.1 hV with hV | hV
     ·exact HS.2.2.1 V hV
     ·rw [zms] at hV
      rw [hV];rfl
    ·have Dh:v'.ownBlock=(Value.slice ua i uc).ownBlock∨v'.ownBlock=some _:=H5.2.2
     have Ly:∀ y Y,JE (qm (.slice ua i uc)) _ B ht y Y->JE (qm v') w5 B ht y Y:=fun y Y h=>h.chg H5.2.1 (fun q hq => .inl hq) (fun q hq=>by
      have hq:=Xj.1 hq;rcases Dh with e | e
      ·exact .inl (Xj.2 (e.symm.trans hq))
      ·rw [e] at hq
       exact .inr (Nat.le_of_eq (yj hq)))
     by_cases DJ:j<i
     ·rw [zgD (l:=us++_),yI (by rw [HS.2.1];exact DJ),<- zgD]
      exact Ly _ _ ((HS.2.2.2.1 j DJ).chg H4.2.2.1 zaa (fun q hq => .inl hq))
     ·obtain rfl:j=i:=zo
      rw [zgD (l:=us++_),yF (by rw [HS.2.1];omega),HS.2.1,Nat.sub_self,<- HRr.o];exact Ly _ _ ((HT.1 _ (fun q hq=>(HS.1.lt q (Xj.1 hq)).2)).chg Tq zaa (fun q hq => .inl hq))
  ·obtain rfl:i=n:=zo
   have i1:¬ (i:Int)<(i:Int):=zo
   have hfo:jU [] wr B ht (.slice ua i uc) R:=by
    refine ⟨ua,uc,by rw [H.2.2.2.2],by rw [<- H.2.2.2.2];exact u1,u2,fun h0=>?_⟩;rw [<- H.2.2.2.2] at h0;obtain ⟨g,c',e,g1,g2,g3,g4,g5⟩:=aE h1 h0;injection e with e _ e';subst e;subst e';refine ⟨g,rfl,g4,zaa,fun j hj=>?_⟩;rw [<- H.2.2.2.2] at hj;exact ⟨_,(h4 j hj).chg (zv.refl [] wr),fun q hq=>by rw [g5 _ zo,tR us h3 j q (by rw [h2];exact hj) hq]⟩
   have cr:=vW H.2.1.gr H.2.1.hM.2 hfo (by rw [<- H.2.2.2.2];exact B9);have cb2:=(H.1.chg h5).cBlocks;rw [Gq] at cb2;have CR:=zh cr;clear h1 h2 h3 h4 h5 cr hfo;go_wp2_with fail;refine cb2.mono ?_;clear cb2;rintro e w' ⟨rfl,rfl⟩;go_wp2_with fail;refine CR.mono ?_;clear CR;rintro e w2 ⟨ob,q,D,rfl,hq,hm,hr,hs,h0,BW⟩;obtain ⟨e1,e2,e3⟩:=H.2.1.ends hm hr hs h0;have HQ:=zh (zA hq (zA e1 (zA e2 (zA e3 (HS.2.2.2.2.trans BW)))));clear hq hm hr hs h0 BW e1 e2 e3;go_upto_region 15 with fail;go_loopg [13,44] N (fun gg Tm s44 wk=>∃ j:Nat,gg=N - j/\j<=N/\Tm = .int .i64 ((cnt j fun b=>decide ((q b:Int)+oth b=0/\B.T.now b=1):Nat):Int)/\s44 = .int .i64 (j:Int)/\Hd (YO wk ob N q/\zv [] w wk))
   case atStart=>exact ⟨0,rfl,yg _,rfl,rfl,zh ⟨HQ.1,HQ.2.2.2.2⟩⟩
   case round =>
    obtain ⟨j,It,hj,rfl,rfl,HJ⟩:=hrel;have KJ:=zh It;clear It;by_cases Ga:j<N
    ·have j1:(j:Int)<(N:Int):=zo
     have cdr:zv [] w wr.drew:=HJ.2.drew;have qc:=(HJ.1.chg ((zv.refl [] wr).drew)).cell Ga;have ql:=HQ.2.2.2.1 j Ga;have Co:=H.2.2.2.1 wr.drew cdr j Ga;have Wt:=H.2.1.big j Ga;have Lg:=HQ.2.1 j Ga;obtain ⟨qj,hqj⟩:=zE (q j);rw [<- hqj] at qc ql Lg;obtain ⟨oj,SQ⟩:=zE (oth j);rw [<- SQ] at Co Wt Lg;have RW:=H.1.chg cdr;have cc:=RW.cCount (j:Int);rw [H.2.1.gr.getV Ga] at cc;have DX:B.T.now j<=65535:=(H.2.1.gr.good.ok.le j (by rw [Gq];exact Ga)).1;have DG:=qO j (fun b=>decide ((q b:Int)+oth b=0/\B.T.now b=1));have Eo:=Yj (fun b=>decide ((q b:Int)+oth b=0/\B.T.now b=1)) j;obtain ⟨k,hk⟩:=zE (cnt j (fun b=>decide ((q b:Int)+oth b=0/\B.T.now b=1)));rw [<- hk] at DG Eo ⊢;rw [<- hqj,<- SQ] at DG;obtain ⟨s,hs⟩:=zE ((qj:Int)+oj);rw [<- hs] at DG Lg;have e5:IntKind.i64.wrap ((qj:Int)+oj)=s:=by rw [hs];exact yv _ zo
     obtain ⟨u,hu⟩:=zE (B.T.now j);rw [<- hu] at cc DX DG Lg;have RE:=zh cc;have Nw:=zh (zA DG (zA Lg hk));have e6:IntKind.i64.wrap ((k:Int)+1)=((k+1:Nat):Int):=by rw [yv _ zo];omega
     obtain ⟨k1,Gs⟩:=zE (k+1);rw [<- Gs] at e6;have HK1:=zh Gs;have Tu:=zh (zA (HJ.1.chg ((zv.refl [] wr).drew)) cdr);clear cc DG Lg hk hqj SQ hs hu Wt Gs RW cdr;go_upto_region 17 with fail
     go_region
     by_cases F6:s=0
     ·subst F6
      by_cases hu1:u=1
      ·subst hu1
       have cc:=RE.o;have Fi:cnt (j+1) (fun b=>decide ((q b:Int)+oth b=0/\B.T.now b=1))=k1:=by rw [Nw.1,HK1.o];rfl
       have Gg:=zh Fi;clear Fi;go_wp2_with fail;refine cc.mono ?_;clear cc;rintro e w' ⟨rfl,rfl⟩;go_wp2_with fail;go_roundg (N - (j+1))
       case measure=>have:=KJ.o;omega
       case rel=>exact ⟨j+1,rfl,Ga,by rw [Gg.o],zac,zh Tu⟩
      ·have hu0:u=0:=by
        have:=Nw.2.1 (fun h=>hu1 h.2);omega
       subst hu0;have cc:=RE.o;have cc2:=zh RE.o;rw [show (((0:Nat)):Int)=0 from rfl] at cc;have Fi:cnt (j+1) (fun b=>decide ((q b:Int)+oth b=0/\B.T.now b=1))=k:=by rw [Nw.1];rfl
       have Gg:=zh Fi;clear Fi hu1;go_wp2_with fail;refine cc.mono ?_;clear cc;rintro e w' ⟨rfl,rfl⟩;have cc:=cc2.o;rw [show (((0:Nat)):Int)=0 from rfl] at cc;go_wp2_with fail;refine cc.mono ?_;clear cc;rintro e w' ⟨rfl,rfl⟩;go_wp2_with fail;go_roundg (N - (j+1))
       case measure=>have:=KJ.o;omega
       case rel=>exact ⟨j+1,rfl,Ga,by rw [Gg.o],zac,zh Tu⟩
     ·have hus:(u:Int)=s:=Nw.2.1 (fun h=>F6 h.1)
      have z0:(s==0)=false:=by rw [yD];exact F6
      have Fi:cnt (j+1) (fun b=>decide ((q b:Int)+oth b=0/\B.T.now b=1))=k:=by rw [Nw.1,yC (fun h=>F6 h.1)];rfl
      have Gg:=zh Fi;have cc:=RE.o;rw [hus] at cc;have z1:(s != s)=false:=zaa
      clear Fi hus;go_wp2_with fail;refine cc.mono ?_;clear cc;rintro e w' ⟨rfl,rfl⟩;go_wp2_with fail;go_roundg (N - (j+1))
      case measure=>have:=KJ.o;omega
      case rel=>exact ⟨j+1,rfl,Ga,by rw [Gg.o],zac,zh Tu⟩
    ·obtain rfl:j=N:=zo
     have j1:¬ (j:Int)<(j:Int):=zo;have cb3:=(H.1.chg HJ.2).cBlocks;rw [Gq] at cb3;have cnd:=fU (n:=j) wr hN.1 hN.2;have NR:=HQ.2.2.1;rw [NR];have Ln:=zh HJ.2;clear NR;go_wp2_with fail;refine cb3.mono ?_;clear cb3;rintro e w' ⟨rfl,rfl⟩;go_wp2_with fail;refine cnd.mono ?_;clear cnd;rintro e w' ⟨rfl,rfl⟩;go_wp2_with fail;go_ret;exact ⟨rfl,Ln⟩
theorem tV (w:World) {b:Int} (hb:(Lit.int .i64 b).wf=true):(Instr.lookup 39 (.map none) (.int .i64 b) false).run Tryz.prog w = .ok (.int .i64 0) w :=
 Maps.look_nil false (Maps.int_keyed Tryz.underlying3) Tryz.underlying39 (Tryz.zeroValue3 w) (Maps.keyOf_int_mk Tryz.underlying3 hb)
open Go.RowKit Go.Maps
section
variable {N G:Nat} {B:Bs} {ht:Ht} {BR:Nat->Nat}
def nodesB (B:Bs) (ht:Ht) (R:List Nat):Nat->Bool:=fun n=>decide ((n:Int)∈Yq B ht R)
theorem Yr:nodesB B ht []=fun _=>false:=by
 funext n
 unfold nodesB Yq;simp
theorem Qk (hr:ht r=some h):nodesB B ht (R++[r])=Jj B (nodesB B ht R) h r:=by
 funext n
 unfold Jj nodesB Yq;rw [zi,List.flatMap_cons,List.flatMap_nil,yY,hr];simp only [yx,Bool.decide_or]
theorem ZD (h0:ht 0=none):nodesB B ht (R++[0])=nodesB B ht R:=by
 funext n
 unfold nodesB Yq;rw [zi,List.flatMap_cons,List.flatMap_nil,yY,h0,yY]
theorem Gr.nodesB_has (g:Gr N G B ht BR) (low:∀ n c,ht n=some c->c<8) {n:Nat} (hn:nodesB B ht R n=true):∃ c d,ht n=some c/\B.nodeI (n:Int)=some d/\Zm N ht c d/\(c≠0->∀ i,i<d.n->nodesB B ht R (d.v i)=true):=by
 obtain ⟨r,hr,h,e,hm⟩:=qY.1 (of_decide_eq_true hn);obtain ⟨m,c,d,e1,e2,e3,e4,e5,e6,e7⟩:=g.in_tree h r e (zq (low r h e)) _ hm;obtain rfl:n=m:=zo;exact ⟨c,d,e2,e4,e5,fun h0 i hi=>yq (qY.2 ⟨r,hr,h,e,e7 h0 i hi⟩)⟩
theorem Gr.nodesB_cl (g:Gr N G B ht BR) (low:∀ n c,ht n=some c->c<8) : Cl B ht (nodesB B ht R) h:=fun n c hD hn hc Ef d hd i hi=>by
 obtain ⟨c',d',e1,e2,e3,e4⟩:=g.nodesB_has low hD;obtain rfl:c=c':=yj (hn.symm.trans e1);obtain rfl:d=d':=yj (hd.symm.trans e2);exact e4 Ef i hi
theorem Gr.nodesB_low (g:Gr N G B ht BR) (low:∀ n c,ht n=some c->c<8) : nodesB B ht R 0=false:=by
 cases e:nodesB B ht R 0 with
 | false=>rfl
 | true =>
  obtain ⟨c,d,e1,_⟩:=g.nodesB_has low e;rw [g.none0] at e1;cases e1
end
theorem cL {L0 mb:Nat} (hm:YK L0 w mb B N D) (h0:D 0=false) (hN:0<N/\N<=4096) :
  zC 35 #[p,.int .i64 0,.int .i64 0,.map (some mb)] w fun e w'=>e = .returned (.int .i64 0)/\zv [] w w':=by
 obtain ⟨f,hf,hfd⟩:=hm.map;have Co:=(hf.look Tryz.underlying3 Tryz.underlying100 (Tryz.zeroValue42 w) rfl hN.1 hN.2).1;rw [(hfd 0 hN.1).1 h0] at Co;have:(Instr.lookup 100 (.map (some mb)) (.int .i64 0) true).run Tryz.prog w = .ok (.tuple #[.agg #[.bool false,.slice none 0 0,.slice none 0 0],.bool false]) w:=Co;have HC:=zh ((zv.refl [] w).alloc (.cells #[.bool false,.slice none 0 0,.slice none 0 0] 42));clear Co hf hfd hm;go_enter Tryz.func35,Tryz.ntmps35;go_upto_region 2 with fail;generalize w.alloc (.cells #[.bool false,.slice none 0 0,.slice none 0 0] 42)=W at HC ⊢;go_wp2_with fail;go_ret;exact ⟨rfl,HC⟩
structure Bx (N G:Nat) (B:Bs) (ht:Ht) (BR:zF) (R:List Nat):Prop where
 gr:Gr N G B ht BR
 hM:16<=N/\N<=4096
 low:∀ n c,ht n=some c->c<8
 top:∀ r,r∈R->r=0∨∃ h,ht r=some h
 len:R.length<=1000
theorem jW {BR:zF} (hb:zx w M F B) (hI:Bx N G B ht BR R) (hv:Y9 w v R) :
  zC 12 #[zP M.b,v] w fun e w'=>∃ u,e = .returned (.tuple #[u,.int .i64 0])/\w'.ownsRow w.heap.size 3 1 u (xm (nodesB B ht R) N).length (xC (xm (nodesB B ht R) N))/\zv [] w w':=by
 obtain ⟨a,cap,rfl⟩:=hv.len;have KO:=hb.cBlocks;have Gq:=hI.gr.good.n;rw [Gq] at KO;have hN:=hI.hM;have B9:=hI.len;obtain ⟨n,hn⟩:=zE R.length;have n0:((N:Int)==0)=false:=by rw [yD];omega
 have EA:=run_makeMap (P:=Tryz.prog) 100 w;have k0:=xJ.made (P:=Tryz.prog) (kt:=3) (good:=XE) w N;have c0:=(zv.refl [] w).alloc (.map #[] 0);have DW:=(hb.new (xd _)).chg c0;have FJ:=hv.chg c0;have II:=hv.lt_own;have F6:(w.alloc (.map #[] 0)).heap.size=w.heap.size+1:=zaa
 have H:=zh (zA hI (zA hn k0));rw [<- hn] at B9 ⊢;have Df:=zh (zA c0 (zA DW (zA FJ (zA F6 II))));clear hb hI hv hn k0 c0 DW FJ Gq F6 II;go_enter Tryz.func12,Tryz.ntmps12;go_wp2_with fail;refine zm (KO) ?_;go_upto_region 4 with fail;clear EA;generalize w.alloc (.map #[] 0)=W at H Df ⊢;obtain ⟨mb,Iw⟩:=zE w.heap.size;rw [<- Iw] at H Df ⊢;have HMB:=zh Iw;clear Iw;have RL:Hd (YK (mb+1) W mb B N (nodesB B ht [])):=zh ⟨⟨_,H.2.2,fun k hk=>⟨fun _=>rfl,fun hD=>by rw [Yr] at hD;cases hD⟩⟩,Nat.lt_succ_self _,by rw [Df.2.2.2.1];exact xd _⟩;go_upto_region 5 with fail;clear n0 KO;go_loopg [16] n (fun gg s16 wr=>∃ i:Nat,gg=n - i/\i<=n/\s16 = .int .i64 (i:Int)/\Hd (YK (mb+1) wr mb B N (nodesB B ht (R.take i))/\zv [mb] W wr))
 case atStart=>exact ⟨0,rfl,yg _,rfl,zh ⟨RL.o,zv.refl _ _⟩⟩
 case round =>
  obtain ⟨i,Dw,hi,rfl,HR⟩:=hrel;have FK:=zh Dw;clear Dw;by_cases Cm:i<n
  ·have i1:(i:Int)<(n:Int):=zo
   have hiR:i<R.length:=by rw [<- H.2.1];exact Cm
   have hvr:=Df.2.2.1.chg HR.2 (fun g hg=>by have:=Df.2.2.2.2 g hg;simp only [zms];omega);rw [<- H.2.1] at hvr;obtain ⟨g,rfl,hc⟩:=hvr.get.2 i Cm;have Li:R.take (i+1)=R.take i++[R.getD i 0]:=by rw [List.take_add_one,zgD,yt hiR];rfl
   have Er:R.getD i 0∈R:=by rw [zgD,yt hiR];exact zt _
   obtain ⟨r,hr⟩:=zE (R.getD i 0);rw [<- hr] at hc Li Er
   have PX:zC 35 #[zP M.b,.int .i64 (r:Int),.int .i64 0,.map (some mb)] wr fun e w'=>e = .returned (.int .i64 0)/\YK (mb+1) w' mb B N (nodesB B ht (R.take (i+1)))/\zv [mb] wr w':=by
    have TQ:=Df.2.1.chg HR.2 (fun q hq=>by rw [zms] at hq;rw [hq,HMB.o];exact yJ);rcases H.1.top r Er with e | ⟨h,hh⟩
    ·rw [Li,e,ZD H.1.gr.none0]
     refine (cL HR.1 (H.1.gr.nodesB_low H.1.low) zo).mono ?_;rintro e w' ⟨rfl,c⟩;exact ⟨rfl,HR.1.chg c,c.mo⟩
    ·rw [Li,Qk hh]
     have:=On h (l:=0) ⟨TQ,by rw [HMB.o];exact yJ,H.1.gr,hN.2,HR.1,H.1.gr.nodesB_cl H.1.low,hh,by have:=H.1.low r h hh;omega⟩;exact this
   have Pz:=zh PX;clear PX hvr Li Er hr hiR;go_wp2_with fail;refine Pz.mono ?_;clear Pz;rintro e w4 ⟨rfl,Mw,Cd⟩;have H4:=zh (zA Mw (HR.2.trans Cd));clear Mw Cd;go_wp2_with fail;go_roundg (n - (i+1))
   case measure=>have:=FK.o;omega
   case rel=>exact ⟨i+1,rfl,Cm,zac,H4⟩
  ·obtain rfl:i=n:=zo
   have i1:¬ (i:Int)<(i:Int):=zo;obtain ⟨f,hf,hfd⟩:=HR.1.map;have Dv:zv [] w wr:=Df.1.then HR.2 (fun q hq=>by rw [zms] at hq;rw [hq,HMB.o];exact .inr (xd _))
   have TW:xm (fun k=>(f k).isSome) N=xm (nodesB B ht R) N:=by
    have e:R.take i=R:=by rw [H.2.1,List.take_length]
    rw [e] at hfd;unfold xm;refine List.filter_congr fun k hk=>?_;have hk:=ye.1 hk
    cases hD:nodesB B ht R k with
    | false=>rw [(hfd k hk).1 hD];rfl
    | true =>
     obtain ⟨v,d,e1,_⟩:=(hfd k hk).2 hD;rw [e1];rfl
   have cs:=l6 hf hN.2;rw [TW] at cs;have CS:=zh cs;have DQ:=zh Dv;clear hf hfd Dv TW cs;go_wp2_with fail;refine zm (tO _ _) ?_;go_wp2_with fail;refine CS.mono ?_;clear CS;rintro e wS ⟨vL,rfl,Cc,FE⟩;have HE:=zh (zA (ownsRow_base_a (base':=w.heap.size) Cc DQ.size) (DQ.trans (zv.of_below FE)));obtain ⟨va,vc,rfl,_,_⟩:=XI Cc;clear Cc FE;go_wp2_with fail
   go_ret2
   exact ⟨_,rfl,HE⟩
end Go.Proofs.YtegpiomkmfhadaaGreat
namespace Go.Proofs.YtegpiomkmfhadaaGreat
variable {l a b items:zL} {k v x Cb g N i j:Nat} {w:World} {d:Array Int}
def YT (l:zL) (k:Nat):Option Nat:=(l.find? fun p=>p.1==k).map Prod.snd
theorem Jf (h:Jw l):∀ {k v v':Nat},(k,v)∈l->(k,v')∈l->v=v':=by
 induction l with
 | nil=>intro k v v' h1;cases h1
 | cons p r ih =>
  intro k v v' h1 h2;have hc:=List.pairwise_cons.1 h;rcases ya.1 h1 with a1 | a1
  ·rcases ya.1 h2 with a2 | a2
   ·rw [<- a1] at a2;injection a2 with _ e;exact e.symm
   ·have:=hc.1 _ a2;rw [<- a1] at this;simp only at this;omega
  ·rcases ya.1 h2 with a2 | a2
   ·have:=hc.1 _ a1;rw [<- a2] at this;simp only at this;omega
   ·exact ih hc.2 a1 a2
theorem YP (h:Jw l) : YT l k=some v↔(k,v)∈l:=by
 unfold YT;constructor
 ·intro e
  cases hf:l.find? fun p=>p.1==k with
  | none=>rw [hf] at e;cases e
  | some p =>
   rw [hf] at e;have h1:=List.mem_of_find?_eq_some hf;have h2:=List.find?_some hf;simp only [beq_iff_eq] at h2;injection e with e;have:p=(k,v):=by rw [<- e,<- h2]
   rw [<- this];exact h1
 ·intro hm
  cases hf:l.find? fun p=>p.1==k with
  | none=>have:=List.find?_eq_none.1 hf _ hm;simp at this
  | some p =>
   have h1:=List.mem_of_find?_eq_some hf;have h2:=List.find?_some hf;simp only [beq_iff_eq] at h2;have:(k,p.2)∈l:=by rw [<- h2];exact h1
   rw [Jf h hm this];rfl
theorem Xe : YT l k=none↔∀ v,(k,v)∉l:=by
 unfold YT;rw [Option.map_eq_none_iff,List.find?_eq_none];constructor
 ·intro h v hm;have:=h _ hm;simp at this
 ·intro h p hp e
  have e:=beq_iff_eq.1 e;exact h p.2 (by rw [<- e];exact hp)
structure ZL (a b:zL) (l:List Nat):Prop where
 asc:l.Pairwise (· < ·)
 mem:∀ k,k∈l↔YT a k≠YT b k
theorem nG:∀ {l m:List Nat},l.Pairwise (· < ·)->m.Pairwise (· < ·)->(∀ x,x∈l↔x∈m)->l=m
 | [],[],_,_,_=>rfl
 | [],y::m,_,_,h=>absurd ((h y).2 yJ) zaa
 | x::l,[],_,_,h=>absurd ((h x).1 yJ) zaa
 | x::l,y::m,hl,hm,h=>by
  have hl':=List.pairwise_cons.1 hl;have Fx:=List.pairwise_cons.1 hm
  have e:x=y:=by
   rcases ya.1 ((h x).1 yJ) with e | e
   ·exact e
   ·rcases ya.1 ((h y).2 yJ) with e' | e'
    ·exact e'.symm
    ·have:=Fx.1 x e
     have:=hl'.1 y e';omega
  subst e;refine congrArg (x :: ·) (nG hl'.2 Fx.2 fun z=>⟨fun hz=>?_,fun hz=>?_⟩)
  ·rcases ya.1 ((h z).1 (zco _ hz)) with e | e
   ·subst e;have:=hl'.1 z hz;omega
   ·exact e
  ·rcases ya.1 ((h z).2 (zco _ hz)) with e | e
   ·subst e;have:=Fx.1 z hz;omega
   ·exact e
theorem ZL.eq {l m:List Nat} (h:ZL a b l) (k:ZL a b m):l=m:=nG h.asc k.asc fun x=>(h.mem x).trans (k.mem x).symm
theorem ZL.self {l:List Nat} (h:ZL a a l):l=[]:=by
 cases l with
 | nil=>rfl
 | cons x r=>exact absurd rfl ((h.mem x).1 yJ)
theorem ZL.cut (ha:Jw a) (lo hi:Nat):ZL a (a.filter fun p => !Xn lo hi p) ((a.filter (Xn lo hi)).map Prod.fst):=by
 have hb:Jw (a.filter fun p => !Xn lo hi p):=List.Pairwise.filter _ ha;refine ⟨?_,fun k=>?_⟩
 ·rw [List.pairwise_map]
  exact List.Pairwise.filter _ ha
 ·constructor
  ·intro hk e
   obtain ⟨⟨k',v⟩,hm,rfl⟩:=yw.1 hk;obtain ⟨h1,h2⟩:=yG.1 hm;rw [(YP ha).2 h1] at e;have:=(yG.1 ((YP hb).1 e.symm)).2;rw [h2] at this;cases this
  ·intro BU
   cases e:YT a k with
   | none =>
    rw [e] at BU;have:=Xe.1 e;exact absurd (Xe.2 fun v hv=>this v (yG.1 hv).1).symm BU
   | some v =>
    have hm:=(YP ha).1 e
    cases q:Xn lo hi (k,v) with
    | true=>exact yw.2 ⟨(k,v),yG.2 ⟨hm,q⟩,rfl⟩
    | false =>
     rw [e] at BU;exact absurd ((YP hb).2 (yG.2 ⟨hm,by rw [q];rfl⟩)).symm BU
section
variable {N G:Nat} {B:Bs} {ht:Ht} {BR:Nat->Nat}
theorem Gr.leaf_one (g:Gr N G B ht BR):∀ {h x lo hi least:Nat},zG B h (x:Int) lo hi least=true->ht x=some h->h<100->∀ {n n':Nat} {d d':Nd} {i j:Nat},(n:Int)∈z9 B h (x:Int)->(n':Int)∈z9 B h (x:Int)->B.nodeI (n:Int)=some d->B.nodeI (n':Int)=some d'->d.leaf=true->d'.leaf=true->i<d.n->j<d'.n->d.k i=d'.k j->n=n'
 | 0,x,lo,hi,least,hr,hx,h100,n,n',d,d',i,j,hn,hn',_,_,_,_,_,_,_=>by
  simp only [z9,zms] at hn hn';omega
 | h+1,x,lo,hi,least,hr,hx,h100,n,n',d,d',i,j,hn,hn',hd,hd',hl,hl',hi',hj,hk=>by
  obtain ⟨D,I⟩:=qB hr;obtain ⟨_,_,D2,hD2,nd⟩:=g.node x (h+1) hx;obtain rfl:D=D2:=yj (I.node.symm.trans hD2);have hDo:=(g.good.ok.node_ok hD2).1;rw [Zn hD2] at hn hn'
  have key:∀ {n:Nat} {d:Nd} {i:Nat},(n:Int)∈(x:Int)::((List.range D.n).flatMap fun i=>z9 B h (D.v i:Int))->B.nodeI (n:Int)=some d->d.leaf=true->i<d.n->∃ a,a<D.n/\(n:Int)∈z9 B h (D.v a:Int)/\D.k a<=d.k i/\d.k i<=D.hi hi a:=fun {n d i} hn hd hl hi'=>by
   rcases ya.1 hn with e | hn
   ·obtain rfl:n=x:=zo
    obtain rfl:d=D:=yj (hd.symm.trans hD2);rw [I.leaf] at hl;cases hl
   ·obtain ⟨a,ha,hn⟩:=yH.1 hn
    have ha:=ye.1 ha;obtain ⟨m,c,d2,e1,e2,e3,e4,e5,e6,e7⟩:=g.in_tree h (D.v a) (nd.kid zo a ha) zo _ hn;obtain rfl:n=m:=zo;obtain rfl:d=d2:=yj (hd.symm.trans e4);have Ef:c=0:=by rw [e5.leaf] at hl;have:=of_decide_eq_true hl;omega
    have:=(Y3 g.good.ok (I.right a ha)).1 (d.k i,d.v i) (e6 Ef _ (yw.2 ⟨i,ye.2 hi',rfl⟩));exact ⟨a,ha,hn,this⟩
  obtain ⟨a,ha,hna,b1,b2⟩:=key hn hd hl hi';obtain ⟨b,hb,Cv,c1,c2⟩:=key hn' hd' hl' hj
  have Cq:a=b:=by
   by_cases h1:a<b
   ·have:=Xt hDo h1 hb b2;omega
   ·by_cases h2:b<a
    ·have:=Xt hDo h2 ha c2;omega
    ·omega
  subst Cq;exact g.leaf_one (I.right a ha) (nd.kid zo a ha) zo hna Cv hd hd' hl hl' hi' hj hk
theorem Gr.all_leaf (g:Gr N G B ht BR):∀ (h x:Nat),ht x=some h->h<100->∀ p,p∈zR B h (x:Int)->∃ (n:Nat) (d:Nd) (i:Nat),(n:Int)∈z9 B h (x:Int)/\B.nodeI (n:Int)=some d/\d.leaf=true/\i<d.n/\d.k i=p.1/\d.v i=p.2
 | 0,x,hx,_,p,hp=>by
  obtain ⟨_,_,d,hd,nd⟩:=g.node x 0 hx;have e:zR B 0 (x:Int)=d.items:=by show (match B.nodeI (x:Int) with | none=>[] | some d=>d.items)=_;rw [hd]
  rw [e] at hp;obtain ⟨i,hi,rfl⟩:=yw.1 hp;exact ⟨x,d,i,Om B 0 _,hd,nd.leaf,ye.1 hi,rfl,rfl⟩
 | h+1,x,hx,h100,p,hp=>by
  obtain ⟨_,_,d,hd,nd⟩:=g.node x (h+1) hx;rw [cy hd] at hp;obtain ⟨i,hi,hp⟩:=yH.1 hp;obtain ⟨n,d',j,a1,a2⟩:=g.all_leaf h (d.v i) (nd.kid zo i (ye.1 hi)) zo p hp;refine ⟨n,d',j,?_,a2⟩;rw [Zn hd];exact zco _ (yH.2 ⟨i,hi,a1⟩)
theorem Xl.hasKV (t:Xl B ht x Cb items) (g:Gr N G B ht BR) : qV B (nodesB B ht [x]) k v↔(k,v)∈items:=by
 rcases t with ⟨rfl,-,rfl⟩ | ⟨h,rfl,h7,t⟩
 ·constructor
  ·rintro ⟨n,d,i,a,-⟩
   have:=ZD (B:=B) (R:=[]) g.none0;rw [yy] at this;rw [this,Yr] at a;cases a
  ·intro h;cases h
 ·have e:nodesB B ht [x]=Jj B (fun _=>false) h x:=by
   have:=Qk (B:=B) (R:=[]) t.top;rw [yy,Yr] at this;exact this
  rw [e,<- t.all];constructor
  ·rintro ⟨n,d,i,a1,a2,a3,a4,a5,a6⟩
   have a1:(n:Int)∈z9 B h (x:Int):=by
    unfold Jj at a1;simpa using a1
   obtain ⟨m,c,d2,e1,e2,e3,e4,e5,e6,e7⟩:=g.in_tree h x t.top zo _ a1;obtain rfl:n=m:=zo;obtain rfl:d=d2:=yj (a2.symm.trans e4);have Ef:c=0:=by rw [e5.leaf] at a3;have:=of_decide_eq_true a3;omega
   rw [<- a5,<- a6];exact e6 Ef _ (yw.2 ⟨i,ye.2 a4,rfl⟩)
  ·intro hm
   obtain ⟨n,d,i,a1,a2,a3,a4,a5,a6⟩:=g.all_leaf h x t.top zo _ hm;exact ⟨n,d,i,by unfold Jj;simp [a1],a2,a3,a4,a5,a6⟩
theorem Xl.leaf_one {x Cb:Nat} {items:zL} (t:Xl B ht x Cb items) (g:Gr N G B ht BR) {n n':Nat} {d d':Nd} {i j:Nat} (hn:nodesB B ht [x] n=true) (hn':nodesB B ht [x] n'=true) (hd:B.nodeI (n:Int)=some d) (hd':B.nodeI (n':Int)=some d') (hl:d.leaf=true) (hl':d'.leaf=true) (hi:i<d.n) (hj:j<d'.n) (hk:d.k i=d'.k j):n=n':=by
 rcases t with ⟨rfl,-,rfl⟩ | ⟨h,rfl,h7,t⟩
 ·have:=ZD (B:=B) (R:=[]) g.none0
  rw [yy] at this;rw [this,Yr] at hn;cases hn
 ·have e:nodesB B ht [x]=Jj B (fun _=>false) h x:=by
   have:=Qk (B:=B) (R:=[]) t.top;rw [yy,Yr] at this;exact this
  rw [e] at hn hn';unfold Jj at hn hn';exact g.leaf_one t.right t.top zo (by simpa using hn) (by simpa using hn') hd hd' hl hl' hi hj hk
def Ys (B:Bs) (ht:Ht) (x y:Nat):Nat->Bool:=fun n=>nodesB B ht [x] n && !nodesB B ht [y] n
theorem Xl.uniq (t:Xl B ht x Cb items) (g:Gr N G B ht BR) {D:Nat->Bool} (hD:∀ n,D n=true->nodesB B ht [x] n=true):lZ B D:=fun k v v' h h'=>by
 have low:∀ {v},qV B D k v->(k,v)∈items:=fun {v} ⟨n,d,i,a,b⟩=>(t.hasKV g).1 ⟨n,d,i,hD n a,b⟩;exact Jf (t.asc g.good.ok) (low h) (low h')
theorem Xl.differ {y h1 h2:Nat} (t:Xl B ht x h1 a) (u:Xl B ht y h2 b) (g:Gr N G B ht BR) (k:Nat) :
  ((∃ v,qV B (Ys B ht x y) k v/\¬ qV B (Ys B ht y x) k v)∨((∀ v,¬ qV B (Ys B ht x y) k v)/\∃ v,qV B (Ys B ht y x) k v))↔YT a k≠YT b k:=by
 have ha:=t.asc g.good.ok;have hb:=u.asc g.good.ok;have To:∀ {v},qV B (Ys B ht x y) k v->(k,v)∈a:=fun {v} ⟨n,d,i,q,r⟩=>(t.hasKV g).1 ⟨n,d,i,by unfold Ys at q;simp only [Bool.and_eq_true] at q;exact q.1,r⟩;have Pt:∀ {v},qV B (Ys B ht y x) k v->(k,v)∈b:=fun {v} ⟨n,d,i,q,r⟩=>(u.hasKV g).1 ⟨n,d,i,by unfold Ys at q;simp only [Bool.and_eq_true] at q;exact q.1,r⟩
 have inX:∀ {v},(k,v)∈a->qV B (Ys B ht x y) k v∨((k,v)∈b/\(∀ w,¬ qV B (Ys B ht x y) k w)/\∀ w,¬ qV B (Ys B ht y x) k w):=fun {v} hm=>by
  obtain ⟨n,d,i,q1,q2,q3,q4,q5,q6⟩:=(t.hasKV g).2 hm
  cases e:nodesB B ht [y] n with
  | false=>exact .inl ⟨n,d,i,by unfold Ys;rw [q1,e];rfl,q2,q3,q4,q5,q6⟩
  | true =>
   refine .inr ⟨(u.hasKV g).1 ⟨n,d,i,e,q2,q3,q4,q5,q6⟩,fun w ⟨n',d',j,r1,r2,r3,r4,r5,r6⟩=>?_,fun w ⟨n',d',j,r1,r2,r3,r4,r5,r6⟩=>?_⟩
   ·unfold Ys at r1
    simp only [Bool.and_eq_true,Bool.not_eq_true'] at r1;have:=t.leaf_one g q1 r1.1 q2 r2 q3 r3 q4 r4 (q5.trans r5.symm);rw [<- this,e] at r1;cases r1.2
   ·unfold Ys at r1
    simp only [Bool.and_eq_true,Bool.not_eq_true'] at r1;have:=u.leaf_one g e r1.1 q2 r2 q3 r3 q4 r4 (q5.trans r5.symm);rw [<- this,q1] at r1;cases r1.2
 have inY:∀ {v},(k,v)∈b->qV B (Ys B ht y x) k v∨(k,v)∈a:=fun {v} hm=>by
  obtain ⟨n,d,i,q1,q2,q3,q4,q5,q6⟩:=(u.hasKV g).2 hm
  cases e:nodesB B ht [x] n with
  | false=>exact .inl ⟨n,d,i,by unfold Ys;rw [q1,e];rfl,q2,q3,q4,q5,q6⟩
  | true=>exact .inr ((t.hasKV g).1 ⟨n,d,i,e,q2,q3,q4,q5,q6⟩)
 cases ea:YT a k with
 | none =>
  have na:=Xe.1 ea
  cases eb:YT b k with
  | none =>
   have nb:=Xe.1 eb;refine ⟨fun h=>?_,fun h=>absurd rfl h⟩;rcases h with ⟨v,h,-⟩ | ⟨-,v,h⟩
   ·exact absurd (To h) (na v)
   ·exact absurd (Pt h) (nb v)
  | some v =>
   refine ⟨fun _ q=>(by cases q),fun _ => .inr ⟨fun w h=>na w (To h),v,?_⟩⟩;rcases inY ((YP hb).1 eb) with h | h
   ·exact h
   ·exact absurd h (na v)
 | some v =>
  have hm:=(YP ha).1 ea
  cases eb:YT b k with
  | none =>
   have nb:=Xe.1 eb;refine ⟨fun _ q=>(by cases q),fun _ => .inl ⟨v,?_,fun h=>nb v (Pt h)⟩⟩;rcases inX hm with h | ⟨h,-⟩
   ·exact h
   ·exact absurd h (nb v)
  | some v' =>
   have Fx:=(YP hb).1 eb;constructor
   ·intro h q
    injection q with q;subst q;rcases h with ⟨w,h,hn⟩ | ⟨hn,w,h⟩
    ·have e:=Jf ha hm (To h)
     subst e;rcases inY Fx with h' | h'
     ·exact hn h'
     ·rcases inX hm with h2 | ⟨_,h2,_⟩
      ·-- the leaf of one is none of the other's,yet the other's leaf is one of this one's
       obtain ⟨n,d,i,q1,q2,q3,q4,q5,q6⟩:=h2;obtain ⟨n',d',j,r1,r2,r3,r4,r5,r6⟩:=(u.hasKV g).2 Fx;unfold Ys at q1;simp only [Bool.and_eq_true,Bool.not_eq_true'] at q1
       cases e:nodesB B ht [x] n' with
       | false=>exact hn ⟨n',d',j,by unfold Ys;rw [r1,e];rfl,r2,r3,r4,r5,r6⟩
       | true =>
        have:=t.leaf_one g q1.1 e q2 r2 q3 r3 q4 r4 (q5.trans r5.symm);rw [this,r1] at q1;cases q1.2
      ·exact h2 v h
    ·have e:=Jf hb Fx (Pt h)
     subst e;rcases inX hm with h2 | ⟨_,_,h2⟩
     ·exact hn v h2
     ·exact h2 v h
   ·intro BU
    have hv:v≠v':=fun e=>BU (by rw [e]);rcases inX hm with h | ⟨h,-⟩
    ·exact .inl ⟨v,h,fun h'=>hv (Jf hb (Pt h') Fx)⟩
    ·exact absurd (Jf hb h Fx) hv
end
open Go.RowKit Go.Sort
theorem tW (x:Int) (w:World):zC 205 #[.int .u64 x] w fun e w'=>e = .returned (.bool false)/\w=w':=by
 go_enter Tryz.func205,Tryz.ntmps205
 go_wp2
 go_ret;exact ⟨zaa,rfl⟩
theorem pK (x y:Int) (w:World):zC 157 #[.int .u64 x,.int .u64 y] w fun e w'=>e = .returned (.bool (ltInt x y))/\w=w':=by
 go_enter Tryz.func157,Tryz.ntmps157;go_wp2_with (go_at_call 205;refine zm (tW _ _) ?_);go_ret;exact ⟨by simp [ltInt],rfl⟩
theorem jX (x y:Int) (w:World) (n:Nat) {b:Bool} (h:ltInt x y=b):zC 157 #[.int .u64 x,.int .u64 y] (w.drewN n) fun e KI=>e = .returned (.bool b)/\∃ m,KI=w.drewN m :=
 (pK x y _).mono fun _ _ ⟨he,hm⟩=>⟨by rw [he,h],n,hm.symm⟩
structure Zp (w:World) (g N:Nat) (d:Array Int):Prop where
 sz:d.size=N
 blk:∃ BV,w.heap[g]?=some (.cells BV 23 (0,0))/\∀ i,i<N->BV[i]?=some (.int .u64 d[i]!)
 wf:∀ i,i<N->0<=d[i]!/\d[i]!<18446744073709551616
theorem Zp.lt (h:Zp w g N d):g<w.heap.size:=by obtain ⟨BV,h,_⟩:=h.blk;exact zz h
theorem Zp.cell (h:Zp w g N d) (hi:i<N):w.cell? ⟨g,i,none⟩=some (.int .u64 d[i]!):=by
 obtain ⟨BV,hb,hc⟩:=h.blk;rw [zM hb];exact hc i hi
theorem Zp.fz (h:Zp w g N d) (i:Nat):w.frozen? ⟨g,i,none⟩=false:=by
 obtain ⟨BV,hb,_⟩:=h.blk;exact xB hb i
theorem Zp.chg {w':World} {L:List Nat} (h:Zp w g N d) (c:zv L w w') (hg:g∉L:=by simp):Zp w' g N d:=by
 obtain ⟨BV,hb,hc⟩:=h.blk;exact ⟨h.sz,⟨BV,(c.block g (zz hb) hg).trans hb,hc⟩,h.wf⟩
theorem Zp.swap (h:Zp w g N d) (hi:i<N) (hj:j<N) :
  Zp ((w.setCell ⟨g,i,none⟩ (.int .u64 d[j]!)).setCell ⟨g,j,none⟩ (.int .u64 d[i]!)) g N (Go.Sort.swp d i j):=by
 have sz:=h.sz;have hg:∀ k,(Go.Sort.swp d i j)[k]! = if k=j then d[i]! else if k=i then d[j]! else d[k]!:=fun k=>swp_get d zo zo k
 obtain ⟨BV,hb,hc⟩:=h.blk;refine ⟨by rw [swp_size];exact sz,⟨_,Yh (Yh hb i (.int .u64 d[j]!)) j (.int .u64 d[i]!),fun k hk=>?_⟩,fun k hk=>?_⟩
 ·have li:i<BV.size:=by have:=hc i hi;exact (yL.1 this).1
  have lj:j<BV.size:=by have:=hc j hj;exact (yL.1 this).1
  rw [hg,yP,yP];by_cases e1:j=k
  ·subst e1;simp [lj]
  ·have e1':¬ k=j:=fun q=>e1 q.symm
   by_cases e2:i=k
   ·subst e2
    simp only [e1,e1',if_false,if_true];rw [if_pos li]
   ·have e2':¬ k=i:=fun q=>e2 q.symm
    simp only [e1,e1',e2,e2',if_false];exact hc k hk
 ·rw [hg]
  split
  ·exact h.wf i hi
  ·split
   ·exact h.wf j hj
   ·exact h.wf k hk
theorem Zp.swapd {x y:Int} (h:Zp w g N d) (hi:i<N) (hj:j<N) (hx:x=d[i]!) (hy:y=d[j]!) :
  Zp ((w.setCell ⟨g,i,none⟩ (.int .u64 y)).setCell ⟨g,j,none⟩ (.int .u64 x)) g N (Go.Sort.swp d i j)/\zv [g] w ((w.setCell ⟨g,i,none⟩ (.int .u64 y)).setCell ⟨g,j,none⟩ (.int .u64 x)):=by
 subst hx hy;exact ⟨h.swap hi hj,((zv.refl [g] w).setCell (.inl zaa) _).setCell (.inl zaa) _⟩
section
variable {α:Type} [Inhabited α] (lt:α->α->Bool)
theorem tX (a j:Nat) (d:Array α) (hj:a<j) (hl:lt d[j]! d[j - 1]! = true):insInner lt a j d=insInner lt a (j - 1) (Go.Sort.swp d j (j - 1)):=by
 cases j with
 | zero=>omega
 | succ k =>
  have e:k+1 - 1=k:=zo;rw [e] at hl ⊢
  conv=>lhs;unfold insInner
  simp [hj,hl]
theorem cQ (a j:Nat) (d:Array α) (h:j<=a∨lt d[j]! d[j - 1]! = false):insInner lt a j d=d:=by
 cases j with
 | zero=>rfl
 | succ k =>
  have e:k+1 - 1=k:=zo;rw [e] at h;unfold insInner;rcases h with h | h
  ·have:¬ a<k+1:=zo
   simp [this]
  ·simp [h]
theorem jY (a b i:Nat) (d:Array α) (h:i<b):insOuter lt a b i d=insOuter lt a b (i+1) (insInner lt a i d):=by rw [insOuter,if_pos h]
theorem mc (a b i:Nat) (d:Array α) (h:¬ i<b):insOuter lt a b i d=d:=by rw [insOuter,if_neg h]
end
theorem tY {c:Nat} (h:Zp w g N d) (hN:N<4611686018427387904) (hc:N<=c) {a b:Nat} (Cq:a<=b) (hb:b<=N) :
  zC 182 #[zS g N c,.int .i64 (a:Int),.int .i64 (b:Int)] w fun e w' =>
   e = .returned (.tuple #[])/\Zp w' g N (insertionSort ltInt d a b)/\zv [g] w w':=by
 have H:=zh h;clear h;go_enter Tryz.func182,Tryz.ntmps182;go_wp2_with fail
 go_loopw [6] (fun s wr=>∃ (i:Nat),s = .int .i64 (i:Int)/\a<i/\i<=b+1/\Hd (∃ dk,Zp wr g N dk/\zv [g] w wr/\insOuter ltInt a b i dk=insOuter ltInt a b (a+1) d)) (fun s _=>b+1 - (intOf s).toNat)
 case atStart=>exact ⟨a+1,zac,zo,zo,⟨d,H.o,zv.refl _ _,rfl⟩⟩
 case round =>
  obtain ⟨i,rfl,hi1,Mm,hX⟩:=hrel;obtain ⟨wo,rfl⟩:=zE wr;by_cases Kb:i<b
  ·have:(i:Int)<(b:Int):=zo
   go_wp2_with fail
   go_loopw [7] (fun s wr=>∃ (j:Nat),s = .int .i64 (j:Int)/\a<=j/\j<=i/\Hd (∃ dk dj,Zp wr g N dj/\zv [g] w wr/\insInner ltInt a j dj=insInner ltInt a i dk/\insOuter ltInt a b i dk=insOuter ltInt a b (a+1) d)) (fun s _=>(intOf s).toNat)
   case atStart =>
    obtain ⟨dk,h1,h2,h3⟩:=hX.o;exact ⟨i,rfl,zo,xd _,⟨dk,dk,h1,h2,rfl,h3⟩⟩
   case round =>
    obtain ⟨j,rfl,haj,DJ,hY⟩:=hrel;obtain ⟨wi,rfl⟩:=zE wr;obtain ⟨dk,dj,hR,hC,hI,hO⟩:=hY.o;have HR:=zh hR;have HC:=zh hC;have HI:=zh hI;have HO:=zh hO;clear hR hC hI hO hX hY;by_cases hja:a<j
    ·obtain ⟨k,hk⟩:∃ k,j=k+1:=⟨j - 1,zo⟩
     subst hk;obtain ⟨x,hx⟩:=zE (dj[k+1]!);obtain ⟨y,hy⟩:=zE (dj[k]!);have c1:=HR.cell (i:=k+1) zo;have c2:=HR.cell (i:=k) zo;rw [<- hx] at c1;rw [<- hy] at c2;have Hx:=zh hx;have Hy:=zh hy;clear hx hy;have:(a:Int)<(k:Int)+1:=zo
     have:(0:Int)<=(k:Int)+1:=zo;have:(k:Int)+1<(N:Int):=zo;have:(0:Int)<=(k:Int):=zo;have:(k:Int)<(N:Int):=zo
     have:IntKind.i64.wrap ((k:Int)+1 - 1)=(k:Int):=by
      rw [show (k:Int)+1 - 1=(k:Int) by omega];exact yv _ zo
     cases hl:ltInt x y with
     | true =>
      have Hd:=zh (fun n=>jX x y wi n hl);have Hl:=zh hl;clear hl;go_wp2_with fail
      go_quiet ((go_at_call 157;exact Hd _))
      go_wp2_with fail;have LX:=zh (HR.chg (zv.drewN (zv.refl [] _) nq));have Uo:=zh (HC.drewN nq);have d1:(wi.drewN nq).cell? ⟨g,k+1,none⟩=_:=c1;have d2:(wi.drewN nq).cell? ⟨g,k,none⟩=_:=c2;clear Hd c1 c2;generalize wi.drewN nq=W at *;have f1:=LX.fz (k+1);have f2:=LX.fz k
      go_region
      have HS:=zh (LX.swapd (i:=k+1) (j:=k) zo zo Hx Hy);clear d1 d2 f1 f2;go_wp2_with fail
      go_roundw
      case rel=>exact ⟨k,zac,zo,zo,⟨dk,Go.Sort.swp dj (k+1) k,HS.1.chg (zv.drew (zv.refl [] _)),(Uo.trans HS.2).drew,by rw [<- HI.o,tX ltInt a (k+1) dj hja (by rw [zg,<- Hx.o,<- Hy.o];exact Hl)];rfl,HO⟩⟩
      case measure=>simp [intOf]
     | false =>
      have Hd:=zh (fun n=>jX x y wi n hl);have Hl:=zh hl;clear hl;go_wp2_with fail
      go_quiet ((go_at_call 157;exact Hd _))
      go_wp2_with fail
      go_roundw
      case rel=>exact ⟨i+1,zac,zo,zo,⟨dj,HR.chg (zv.drewN (zv.refl [] _) _),HC.drewN _,by rw [<- HO.o,jY ltInt a b i dk Kb,<- HI.o,cQ ltInt a (k+1) dj (.inr (by rw [zg,<- Hx.o,<- Hy.o];exact Hl))]⟩⟩
      case measure=>simp [intOf];omega
    ·have:decide ((a:Int)<(j:Int))=false:=by simp;omega
     go_wp2_with fail
     go_quiet (fail)
     go_wp2_with fail
     go_roundw
     case rel=>exact ⟨i+1,zac,zo,zo,⟨dj,HR.chg (zv.drewN (zv.refl [] _) _),HC.drewN _,by rw [<- HO.o,jY ltInt a b i dk Kb,<- HI.o,cQ ltInt a j dj (.inl zo)]⟩⟩
     case measure=>simp [intOf];omega
  ·obtain ⟨dk,hR,hC,hO⟩:=hX.o
   have HF:=zh (zA (show Zp wo g N (insertionSort ltInt d a b) by unfold insertionSort;rw [<- hO,mc ltInt a b i dk Kb];exact hR) hC);clear hX hR hC hO;go_wp2_with fail
   go_end0
   exact ⟨rfl,HF.1,HF.2⟩
end Go.Proofs.YtegpiomkmfhadaaGreat
