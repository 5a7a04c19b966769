/- Layer 14's Tree: the walk. · Layer 14's -/
import Derived.Test.YtegpiomkmfhadaaGreatZo36
set_option linter.all false
set_option maxRecDepth 100000
set_option maxHeartbeats 20000000
namespace Go.Proofs.YtegpiomkmfhadaaGreat
open Go.RowKit
variable {w w':World} {B:Bs} {k x b N ob db i:Nat} {d:Nd} {v:Value} {o q:zF} {D:Nat->Bool} {L R:List Nat} {ht:Ht}
theorem fD:(Tryz.prog.info? 129).map (fun i=>(i.zero,i.size,i.bytes))=some (some (.agg #[.int .i64 0,.bool false,.slice none 0 0,.slice none 0 0,.slice none 0 0]),5,88):=zab
def nD (w:World) (B:Bs) (f x:Nat) (e:Ending) (w':World):Prop :=
 ∃ (lf:Bool) (a1 a2 a3:Option Addr) (n1 c1 n2 c2 n3 c3:Nat),e = .returned (.tuple #[.agg #[.int .i64 (x:Int),.bool lf,.slice a1 n1 c1,.slice a2 n2 c2,.slice a3 n3 c3],.bool true])/\(∀ A,(∀ q,q∈A->q<w.heap.size)->Jk A w' B f x [.int .i64 (x:Int),.bool lf,.slice a1 n1 c1,.slice a2 n2 c2,.slice a3 n3 c3])/\zv [] w w'
def l7 (k:Nat):Prop:=∀ {w:World} {M:Bm} {F:List Nat} {B:Bs} {N G:Nat} {ht:Ht} {BR:zF} {x l c:Nat},zx w M F B->Gr N G B ht BR->N<=4096->ht x=some c->c % 100=k->k+l<8 ->
 zC 54 #[zP M.b,.int .i64 (x:Int),.int .i64 (l:Int)] w (nD w B (k+1) x)
theorem tR:∀ (us:List (List Value)),(∀ U,U∈us->U.length=5)->∀ i j,i<us.length->j<5->us.flatten[i*5+j]?=(us.getD i [])[j]?
 | [],_,i,j,hi,_=>by simp at hi
 | U::r,h,0,j,_,hj=>by
  rw [List.flatten_cons,yI (by rw [h U zaa];omega),Nat.zero_mul,yn];rfl
 | U::r,h,i+1,j,hi,hj=>by
  have hU:=h U zaa;rw [List.flatten_cons,yF (by rw [hU];omega),hU,show (i+1)*5+j - 5=i*5+j by omega];exact tR r (fun V hV=>h V (by simp [hV])) i j zaD hj
structure Bi (w W2:World) (B:Bs) (k tb rb:Nat) (d:Nd) (y0 y1 y2 y3:Value) (i:Nat) (wr:World) (u:Value) (us:List (List Value)):Prop where
 top:wr.heap[tb]?=some (.cells #[y0,y1,y2,y3,u] 129 (0,0))
 own:wr.ownsRow W2.heap.size 129 5 u i us.flatten
 len:us.length=i
 five:∀ U,U∈us->U.length=5
 kids:∀ j,j<i->∀ A,(∀ q,q∈A->q<w.heap.size)->Jk ([tb,rb]++qm u++A) wr B k (d.v j) (us.getD j [])
 chg:zv [tb] W2 wr
theorem Bi.fin {W2:World} {tb rb xb kb vb:Nat} {lf:Bool} {n:Nat} {wr:World} {u:Value} {us:List (List Value)} (h:Bi w W2 B k tb rb d (.int .i64 (x:Int)) (.bool lf) (zS kb d.n d.n) (zS vb d.n d.n) n wr u us)
  {base:Nat} (hbs:w.heap.size<=base) (nd:bu wr base xb kb vb d) (hd:B.nodeI (x:Int)=some d) (hl:lf=d.leaf) (hn:n=if d.leaf then 0 else d.n) (c0:zv [] w W2) (ht:w.heap.size<=tb) (hr:w.heap.size<=rb) (c:zv [rb] wr w') (ER:rb<W2.heap.size) (hx:rb≠kb/\rb≠vb) :
  nD w B (k+1) x (.returned (.tuple #[.agg #[.int .i64 (x:Int),.bool lf,zS kb d.n d.n,zS vb d.n d.n,u],.bool true])) w':=by
 obtain ⟨ua,uc,rfl,u1,u2⟩:=XI h.own;refine ⟨lf,_,_,_,_,_,_,_,_,_,rfl,fun A hA=>?_,(c0.then h.chg (fun q hq=>by rw [zms] at hq;exact .inr zo)).then c (fun q hq=>by rw [zms] at hq;exact .inr zo)⟩;have:=nd.ok.n;have far:=nd.far;refine ⟨d,_,_,ua,n,uc,by rw [hl],hd,nd.ok,(nd.k.chg c zae).numsIn zo (fun hm=>by have:=hA _ hm;omega) nd.ok.k,(nd.v.chg c zae).numsIn zo (fun hm=>by have:=hA _ hm;omega) nd.ok.v,u1,u2,hn,fun h0=>?_⟩;obtain ⟨g,c',e,g1,g2,g3,g4,g5⟩:=aE h.own h0;injection e with e _ e';subst e;subst e';refine ⟨g,rfl,qe g4 c.size,fun hm=>by have:=hA _ hm;have:=c0.size;omega,fun i hi=>⟨us.getD i [],?_,fun j hj=>?_⟩⟩
 ·exact (h.kids i hi A hA).chg c (fun q hq => .inl (by rw [zms] at hq;simp [hq])) (fun q hq => .inl (zar _ hq)) _ _ _
 ·rw [c.cell (p:=⟨g,i*5+j,none⟩) g4 zad,g5 _ zo,tR us h.five i j (by rw [h.len];exact hi) hj]
theorem fE (ih:∀ k',k=k'+1->l7 k'):l7 k:=by
 intro w M F B N G ht BR x l c hb g hM hx hc hl;obtain ⟨Eh,Et,d,hd,nd⟩:=g.node x c hx;have FO:=g.two Et Eh;have k0:=xo w (.cells #[.int .i64 0,.bool false,.slice none 0 0,.slice none 0 0,.slice none 0 0] 129);have c0:=(zv.refl [] w).alloc (.cells #[.int .i64 0,.bool false,.slice none 0 0,.slice none 0 0,.slice none 0 0] 129);have s1:(w.alloc (.cells #[.int .i64 0,.bool false,.slice none 0 0,.slice none 0 0,.slice none 0 0] 129)).heap.size=w.heap.size+1:=zD _ _;have k1:=xo (w.alloc (.cells #[.int .i64 0,.bool false,.slice none 0 0,.slice none 0 0,.slice none 0 0] 129)) (.cells #[.int .i64 (x:Int),.bool false,.slice none 0 0,.slice none 0 0,.slice none 0 0] 129);have c1:=c0.alloc (.cells #[.int .i64 (x:Int),.bool false,.slice none 0 0,.slice none 0 0,.slice none 0 0] 129);have k2:=(((zv.refl [] _).alloc (.cells #[.int .i64 (x:Int),.bool false,.slice none 0 0,.slice none 0 0,.slice none 0 0] 129)).block w.heap.size (zz k0) zaa).trans k0;rw [s1] at k1;have H0:=zh (zA hb (zA g (zA hM (zA hx (zA hc hl)))));have HD:=zh (zA hd (zA nd (zA Eh FO)));have IH:=zh ih;have x0:((x:Int)==0)=false:=by rw [yD];omega
 have x1:¬ (x:Int)<0:=zo;have x2:¬ (N:Int)<=(x:Int):=zo;have LC:=hb.chg c1;have Dm:=g.good.ok;have Gq:=g.good.n;clear hb g hM hx hc ih k0 c0 s1;go_enter Tryz.func54,Tryz.ntmps54;go_upto_region 2 with fail;generalize (w.alloc _).alloc _=W at k1 c1 k2 LC ⊢;obtain ⟨tb,Pm⟩:=zE (w.heap.size+1);rw [<- Pm] at k1 ⊢;obtain ⟨rb,ER⟩:=zE w.heap.size;rw [<- ER] at k2 ⊢;have HW:=zh (zA Pm (zA ER (zA c1 (zA k1 (zA k2 LC)))));have KO:=LC.cBlocks;rw [Gq] at KO;have cn:=zh (LC.cNode (x:Int));clear Pm ER c1 k1 k2 LC Gq;go_wp2_with fail;refine zm (KO) ?_;go_wp2_with fail;refine cn.mono ?_;clear cn;rintro e w1 (⟨d',kb,vb,hd',rfl,q1,q2,q3,r1,r2,B5⟩ | ⟨hd',rfl,B5⟩)
 case inr=>exact absurd (HD.1.symm.trans hd') zaa
 obtain rfl:d'=d:=yj (hd'.symm.trans HD.1);have D6:=(Dm.node_ok hd').1;have Cv:=xo w1 (.cells #[.bool d'.leaf,zS kb d'.n d'.n,zS vb d'.n d'.n] 42);have Cn:=(zv.refl [] w1).alloc (.cells #[.bool d'.leaf,zS kb d'.n d'.n,zS vb d'.n d'.n] 42);have Cp:=ZQ.box D6 q1 q2 r1 r2 B5 Cv (Cn.mo);have Ed:=zh Cp;have HC:=zh (B5.trans Cn);have D3:=zh Dm;clear Cp Cv Cn B5 r1 r2 hd' q1 q2 q3 Dm;go_upto_region 7 with fail;generalize w1.alloc (.cells #[.bool d'.leaf,zS kb d'.n d'.n,zS vb d'.n d'.n] 42)=W1 at *;obtain ⟨xb,C5⟩:=zE w1.heap.size;rw [<- C5] at Ed ⊢;clear C5;obtain ⟨lf,hlf⟩:=zE d'.leaf;obtain ⟨z0,z1,z2⟩:=Ed.c;rw [<- hlf] at z0;have EO:=zh hlf;clear hlf;have hl8:((l:Int)==8)=false:=by rw [yD];omega
 have kt:=(HC.block tb (zz HW.2.2.2.1) zaa).trans HW.2.2.2.1;have kr:=(HC.block rb (zz HW.2.2.2.2.1) zaa).trans HW.2.2.2.2.1;have HKT:=zh (zA kt kr);obtain ⟨y0,y1,y2,y3,y4⟩:=pZ kt;have f0:=xB kt 1;have f1:=xB kt 2;have f2:=xB kt 3;clear kt kr;go_upto_region 10 with fail;have hT2:=Yh (Yh (Yh HKT.1 1 (.bool lf)) 2 (zS kb d'.n d'.n)) 3 (zS vb d'.n d'.n);have UJ:=((((zv.refl [tb] W1).setCell (p:=⟨tb,1,none⟩) (.inl zaa) (.bool lf)).setCell (p:=⟨tb,2,none⟩) (.inl zaa) (zS kb d'.n d'.n)).setCell (p:=⟨tb,3,none⟩) (.inl zaa) (zS vb d'.n d'.n));simp only [sA1,sA2,sA3] at hT2;generalize ((W1.setCell ⟨tb,1,none⟩ (.bool lf)).setCell ⟨tb,2,none⟩ (zS kb d'.n d'.n)).setCell ⟨tb,3,none⟩ (zS vb d'.n d'.n)=W2 at hT2 UJ ⊢;have I9:=Ed.far;have htw:=HW.1;have hrw:=HW.2.1;have PN:=HC.size;have hts:=zz HW.2.2.2.1;have Fh:=Ed.chg UJ (fun q hq=>by rw [zms] at hq;exact .inl zo);have GB:zv [] w W2:=(HW.2.2.1.trans HC).then UJ (fun q hq=>by rw [zms] at hq;exact .inr zo);have Wb:=Bi.mk (w:=w) (B:=B) (k:=k) (rb:=rb) (d:=d') (us:=[]) hT2 (yO _ _ _ _) rfl (fun U hU=>by cases hU) (fun j hj=>zo) (zv.refl [tb] W2)
 have Fk:=(UJ.block rb (zz HKT.2) zad).trans HKT.2;have H2:=zh (zA Fh (zA GB (zA Wb (zA Fk (zA (show w.heap.size<=tb by omega) (zA (show w.heap.size<=rb by omega) (show rb≠tb by omega)))))));obtain ⟨z0,z1,z2⟩:=Fh.c;rw [<- EO.o] at z0;clear y0 y1 y2 y3 y4 f0 f1 f2 KO;clear hT2 UJ I9 htw hrw PN hts Fh GB Wb Fk;go_upto_region 11 with fail;go_loopg [58] d'.n (fun gg s58 wr=>∃ i:Nat,gg=d'.n - i/\i<=d'.n/\(lf=true->i=0)/\s58 = .int .i64 (i:Int)/\Hd (∃ u us,Bi w W2 B k tb rb d' (.int .i64 (x:Int)) (.bool lf) (zS kb d'.n d'.n) (zS vb d'.n d'.n) i wr u us))
 case atStart=>exact ⟨0,rfl,yg _,fun _=>rfl,rfl,zh ⟨_,_,H2.2.2.1⟩⟩
 case round =>
  obtain ⟨i,Dw,hi,Dt,rfl,HR⟩:=hrel;have FK:=zh Dw;clear Dw;clear z0 z1 z2;obtain ⟨u,us,hS⟩:=HR.o;have HS:=zh hS;have Gk:zv [] w wr:=H2.2.1.then hS.chg (fun q hq=>by rw [zms] at hq;exact .inr (zq H2.2.2.2.2.1));have SN:=H2.1.chg hS.chg (fun q hq=>by rw [zms] at hq;exact .inl (by have:=H2.2.2.2.2.1;have:=HW.1;have:=zz HW.2.2.2.1;omega));have Gc:=(hS.chg.block rb (zz H2.2.2.2.1) (by simp only [zms];exact H2.2.2.2.2.2.2)).trans H2.2.2.2.1;obtain ⟨ua,uc,rfl,u1,u2⟩:=XI hS.own;have kt:=hS.top;obtain ⟨z0,z1,z2⟩:=SN.c;rw [<- EO.o] at z0;obtain ⟨y0,y1,y2,y3,y4⟩:=pZ kt;obtain ⟨t0,t1,t2,t3,t4⟩:=pZ Gc;have f0:=xB Gc 0;have f1:=xB Gc 1;have f2:=xB Gc 2;have f3:=xB Gc 3;have f4:=xB Gc 4;have Ej:=zh (zA Gk (zA SN Gc));by_cases D9:i=d'.n∨lf=true
  ·have Gn:i=if d'.leaf then 0 else d'.n:=by
    rw [<- EO.o]
    cases lf with
    | true=>exact Dt rfl
    | false=>exact D9.resolve_right zaf
   have FIN:=zh (fun w' (cc:zv [rb] wr w')=>hS.fin HW.2.2.1.size SN HD.1 EO Gn H2.2.1 H2.2.2.2.2.1 H2.2.2.2.2.2.1 cc (zz H2.2.2.2.1) (by have:=SN.far;have:=HW.1;have:=HW.2.1;have:=zz HW.2.2.2.1;omega));clear Gn Gk SN hS kt Dt;by_cases Cm:i<d'.n
   ·have i1:(i:Int)<(d'.n:Int):=zo
    obtain rfl:lf=true:=D9.resolve_left zo;have IG:=Ej.2.1.v.cell Cm;clear D9 Gc;go_wp2_with fail;refine bodyPost_ret (qG (a:=6) (b:=7) zab rfl (tQ (AL Ej.2.2 _ _ _ _ _))) rfl ?_;exact FIN _ (cI _ _ _ _ _ _ _)
   ·have i1:¬ (i:Int)<(d'.n:Int):=zo
    clear D9 Gc;go_wp2_with fail;refine bodyPost_ret (qG (a:=6) (b:=7) zab rfl (tQ (AL Ej.2.2 _ _ _ _ _))) rfl ?_;exact FIN _ (cI _ _ _ _ _ _ _)
  ·have Cm:i<d'.n:=zo
   have i1:(i:Int)<(d'.n:Int):=zo
   obtain rfl:lf=false:=by
    cases lf with
    | true=>exact absurd (Or.inr rfl) D9
    | false=>rfl
   have DH:¬ c % 100=0:=by
    have:=EO.o;rw [nd.leaf] at this;exact of_decide_eq_false this.symm
   have Eb:=nd.kid DH i Cm
   have II:=H0.2.1.val_live H0.2.2.2.1 HD.1 Cm (fun e=>by
    have h1:=H0.2.1.lt Eb;have:=H0.2.1.two h1.2 h1.1;omega)
   have IG:=SN.v.cell Cm;have GP:=H0.2.2.2.2.1;have hM:=H0.2.2.1;have ck:=IH (k - 1) zo (l:=l+1) (H0.1.chg Gk) H0.2.1 H0.2.2.1 Eb zo zo;have cb:=(H0.1.chg Gk).cBlocks;rw [H0.2.1.good.n] at cb;obtain ⟨v,hv⟩:=zE (d'.v i);rw [<- hv] at II IG ck;have HV:=zh hv;rw [show ((l+1:Nat):Int)=(l:Int)+1 by omega] at ck;have CK:=zh ck;have e1:((v:Int)==0)=false:=by rw [yD];omega
   have e2:IntKind.u64.wrap (N:Int)=(N:Int):=IntWalk.u64_in _ zo;have e3:¬ (N:Int)<=(v:Int):=zo
   have e4:IntKind.i64.wrap (v:Int)=(v:Int):=yv _ zo;have e5:IntKind.i64.wrap ((l:Int)+1)=(l:Int)+1:=yv _ zo;have Gs:1<=k:=zo
   clear D9 Gc hv ck SN hS kt Eb DH Gk Dt;go_wp2_with fail;refine cb.mono ?_;clear cb;rintro e w' ⟨rfl,rfl⟩;go_wp2_with fail;refine CK.mono ?_;clear CK;rintro e w3 ⟨lk,a1,a2,a3,n1,m1,n2,m2,n3,m3,rfl,hT,Ci⟩;have HT:=zh (zA hT Ci);clear hT Ci;go_upto_region 19 with fail;have kx:=xo w3 (.cells #[.int .i64 (v:Int),.bool lk,.slice a1 n1 m1,.slice a2 n2 m2,.slice a3 n3 m3] 129);have cx:=HT.2.alloc (.cells #[.int .i64 (v:Int),.bool lk,.slice a1 n1 m1,.slice a2 n2 m2,.slice a3 n3 m3] 129);have RX:=(zv.refl [] w3).alloc (.cells #[.int .i64 (v:Int),.bool lk,.slice a1 n1 m1,.slice a2 n2 m2,.slice a3 n3 m3] 129);generalize w3.alloc (.cells #[.int .i64 (v:Int),.bool lk,.slice a1 n1 m1,.slice a2 n2 m2,.slice a3 n3 m3] 129)=W3 at kx cx RX ⊢;obtain ⟨e0,e1,e2,e3,e4⟩:=pZ kx;have kt:=(cx.block tb (zz HS.top) zaa).trans HS.top;clear y0 y1 y2 y3 y4 z0 z1 z2 IG t0 t1 t2 t3 t4 f0 f1 f2 f3 f4;obtain ⟨y0,y1,y2,y3,y4⟩:=pZ kt;have FY:=xo W3 (.cells #[.int .i64 (v:Int),.bool lk,.slice a1 n1 m1,.slice a2 n2 m2,.slice a3 n3 m3] 129);have Cd:zv [] W3 (W3.alloc (.cells #[.int .i64 (v:Int),.bool lk,.slice a1 n1 m1,.slice a2 n2 m2,.slice a3 n3 m3] 129)):=(zv.refl [] W3).alloc _;have c4:=cx.trans Cd
   have H4:=zh (zA (Xg HS.own c4 zaa) (zA FY (zA c4 (zA (qh HS.chg.size c4.size) ((c4.block tb (zz HS.top) zaa).trans HS.top)))));have n7:=D6.n
   have HTU:Hd (tb∉qm (.slice ua i uc)):=zh (fun hm=>by
    have h1:=(HS.own.lt tb (Xj.1 hm)).1;have h2:=zz H2.2.2.1.top;omega)
   have Tq:=zh (RX.trans Cd);clear FY Cd c4 kt kx cx RX;go_wp2_with (at_builtin;refine x9 rfl _ _ 127 rfl rfl (base:=W2.heap.size) (size:=5) (n:=i) (m:=1) (xs:=us.flatten) (news:=[.int .i64 (v:Int),.bool lk,.slice a1 n1 m1,.slice a2 n2 m2,.slice a3 n3 m3]) Tryz.underlying127 fD rfl zo zo rfl rfl H4.1 (xQ.blk H4.2.1 rfl (fun u hu=>by simp at hu;rcases hu with rfl | rfl | rfl | rfl | rfl <;> rfl)) zo H4.2.2.2.1 ?_;intro v' w5 Cf Dd Ec;obtain ⟨va,vc,rfl,v1,v2⟩:=XI Cf;have cG:=(zv.refl (qm (.slice ua i uc)) _).grown Dd (fun z hz => .inl (Xj.2 hz));have kt5:=(cG.block tb (zz H4.2.2.2.2) HTU).trans H4.2.2.2.2;have y5:w5.cell? ⟨tb,4,none⟩=some (.slice ua i uc):=(zM kt5 4).trans rfl;have f5:=xB kt5 4;have KT5:=zh (zA kt5 cG);clear kt5 cG;have H5:=zh (zA Cf (zA Dd Ec));clear Cf Dd Ec);go_roundg (d'.n - (i+1))
   case measure=>have:=FK.o;omega
   case rel =>
    have Pm:=zz H2.2.2.1.top;have hto:=H2.2.2.2.2.1;have hW:=HW.2.2.1.size;have cS:zv [tb] w5 (w5.setCell ⟨tb,4,none⟩ (.slice va (i+1) vc)):=(zv.refl [tb] w5).setCell (.inl zaa) _;have htop:=Yh KT5.1 4 (.slice va (i+1) vc);simp only [sA1,sA2,sA3] at htop
    have KC:∀ g,(Value.slice va (i+1) vc).ownBlock=some g->g∉[tb]:=fun g hg=>by
     have:=(H5.1.lt g hg).1;simp only [zms];omega
    obtain ⟨U,hU⟩:=zE ([Value.int .i64 (v:Int),.bool lk,.slice a1 n1 m1,.slice a2 n2 m2,.slice a3 n3 m3]);have h5:=H5.1;rw [<- hU] at h5
    have hT:∀ A,(∀ q,q∈A->q<wr.heap.size)->Jk A w3 B k v U:=by
     have:=HT.1;rw [<- hU,show k - 1+1=k by omega] at this;exact this
    refine ⟨i+1,rfl,Cm,fun q=>(by cases q),zac,zh ⟨.slice va (i+1) vc,us++[U],?_⟩⟩;have Dh:(Value.slice va (i+1) vc).ownBlock=(Value.slice ua i uc).ownBlock∨(Value.slice va (i+1) vc).ownBlock=some _:=H5.2.2
    have Ly:∀ A,(∀ q,q∈A->q<w.heap.size)->∀ f y Y,Jk ([tb,rb]++qm (.slice ua i uc)++A) _ B f y Y->Jk ([tb,rb]++qm (.slice va (i+1) vc)++A) (w5.setCell ⟨tb,4,none⟩ (.slice va (i+1) vc)) B f y Y:=fun A hA f y Y h=>by
     refine (h.chg KT5.2 (A':=[tb,rb]++qm (.slice va (i+1) vc)++A) (fun q hq => .inl (zal _ (zar _ hq))) (fun q hq=>?_)).chg cS (fun q hq => .inl (by rw [zms] at hq;simp [hq])) (fun q hq => .inl hq);rcases yx.1 hq with hq | hq
     ·rcases yx.1 hq with hq | hq
      ·exact .inl (zal _ (zal _ hq))
      ·have hq:=Xj.1 hq
       rcases Dh with e | e
       ·exact .inl (zal _ (zar _ (Xj.2 (e.symm.trans hq))))
       ·rw [e] at hq
        exact .inr (Nat.le_of_eq (yj hq))
     ·exact .inl (zar _ hq)
    refine ⟨htop,?_,by rw [ym,HS.len];rfl,fun V hV=>?_,fun j hj A hA=>?_,((HS.chg.trans (H4.2.2.1.mo)).then KT5.2 (fun q hq => .inr (HS.own.lt q (Xj.1 hq)).1)).then cS (fun q hq => .inl hq)⟩
    ·have:=Xg h5 cS KC
     rw [List.flatten_append];simpa using this
    ·rcases yx.1 hV with hV | hV
     ·exact HS.five V hV
     ·rw [zms] at hV
      rw [hV,hU];rfl
    ·by_cases DJ:j<i
     ·rw [zgD,yI (by rw [HS.len];exact DJ),<- zgD]
      exact Ly A hA _ _ _ ((HS.kids j DJ A hA).chg H4.2.2.1 zaa (fun q hq => .inl hq))
     ·obtain rfl:j=i:=zo
      rw [zgD,yF (by rw [HS.len];omega),HS.len,Nat.sub_self,<- HV.o]
      have BY:∀ q,q∈[tb,rb]++qm (.slice ua j uc)++A->q<wr.heap.size:=fun q hq=>by
       have hws:=Ej.1.size;rcases yx.1 hq with hq | hq
       ·rcases yx.1 hq with hq | hq
        ·simp only [ya,yk,or_false] at hq
         rcases hq with rfl | rfl
         ·exact zz HS.top
         ·exact zz Ej.2.2
        ·exact (HS.own.lt q (Xj.1 hq)).2
       ·have:=hA q hq;omega
      exact Ly A hA _ _ _ ((hT _ BY).chg Tq zaa (fun q hq => .inl hq))
theorem cJ:∀ k,l7 k
 | 0=>fE fun k' h=>by cases h
 | k+1=>fE fun k' h=>by
  obtain rfl:k'=k:=zo;exact cJ k'
theorem tS {o:Nat} {t:TypeId} {V:Nat->Value} (h:w.heap[b]?=some (.cells (zK N V) t (0,0))):(w.setCell ⟨b,o,none⟩ v).heap[b]?=some (.cells (zK N (fun i=>if i=o then v else V i)) t (0,0)):=by
 rw [Yh h];congr 2;apply yM;intro i;rw [yP];by_cases hi:i<N
 ·rw [Qn hi,Qn hi]
  by_cases e:o=i
  ·subst e;rw [if_pos rfl,if_pos rfl,if_pos (by rw [ZT];exact hi)]
  ·rw [if_neg e,if_neg (fun q=>e q.symm)]
 ·rw [yo zaj,yo zaj]
  by_cases e:o=i
  ·subst e;rw [if_pos rfl,if_neg zaj]
  ·rw [if_neg e]
def YO (w:World) (b N:Nat) (o:zF):Prop:=w.heap[b]?=some (.cells (zK N fun i => .int .i64 (o i:Int)) 3 (0,0))
def ZK (w:World) (b N:Nat) (D:Nat->Bool):Prop:=w.heap[b]?=some (.cells (zK N fun i => .bool (D i)) 4 (0,0))
theorem YO.set {v:Nat} (h:YO w b N o):YO (w.setCell ⟨b,x,none⟩ (.int .i64 (v:Int))) b N (fun i=>if i=x then v else o i):=by
 refine (tS h).trans ?_;congr 3;funext i;by_cases e:i=x <;> simp [e]
theorem ZK.set (h:ZK w b N D):ZK (w.setCell ⟨b,x,none⟩ (.bool true)) b N (QV D x):=by
 refine (tS h).trans ?_;congr 3;funext i;unfold QV
 split <;> rfl
theorem YO.chg (h:YO w b N o) (c:zv L w w') (hL:b∉L:=by simp):YO w' b N o:=(c.block b (zz h) hL).trans h
theorem ZK.chg (h:ZK w b N D) (c:zv L w w') (hL:b∉L:=by simp):ZK w' b N D:=(c.block b (zz h) hL).trans h
theorem YO.cell (h:YO w b N o) (hx:x<N):w.cell? ⟨b,x,none⟩=some (.int .i64 (o x:Int)):=(zM h _).trans (Qn hx)
theorem ZK.cell (h:ZK w b N D) (hx:x<N):w.cell? ⟨b,x,none⟩=some (.bool (D x)):=(zM h _).trans (Qn hx)
theorem Jk.head {A:List Nat} : ∀ {f x:Nat} {V:List Value},Jk A w B f x V->∃ v1 v2 v3 v4,V=[.int .i64 (x:Int),v1,v2,v3,v4]
 | 0,_,_,h=>h.elim
 | f+1,_,_,h=>by obtain ⟨_,_,_,_,_,_,rfl,_⟩:=h;exact ⟨_,_,_,_,rfl⟩
structure Xx (B:Bs) (N:Nat) (ht:Ht) (w:World) (ob db:Nat) (o:zF) (D:Nat->Bool) (w':World) (o':zF) (D':Nat->Bool):Prop where
 oro:YO w' ob N o'
 bits:ZK w' db N D'
 marks:Y6 B ht D D'
 sum:∀ b,1<=b->b<N->o' b+Ol B N D b=o b+Ol B N D' b
 zero:o' 0=o 0
 chg:zv [ob,db] w w'
theorem Xx.trans {B:Bs} {N:Nat} {ht:Ht} {w w' KI:World} {ob db:Nat} {o o' o'':zF} {D D' D'':Nat->Bool} (a:Xx B N ht w ob db o D w' o' D') (b:Xx B N ht w' ob db o' D' KI o'' D''):Xx B N ht w ob db o D KI o'' D'' :=
 ⟨b.oro,b.bits,a.marks.trans b.marks,fun q h1 h2=>by have:=a.sum q h1 h2;have:=b.sum q h1 h2;omega,b.zero.trans a.zero,a.chg.trans b.chg⟩
def Bb (B:Bs) (N:Nat) (o:zF) (D:Nat->Bool):Prop:=∀ b,1<=b->b<N->o b<=1000000000+Ol B N D b
theorem Xx.far {o':zF} {D':Nat->Bool} (a:Xx B N ht w ob db o D w' o' D') (h:Bb B N o D):Bb B N o' D':=fun b h1 h2=>by
 have:=a.sum b h1 h2;have:=h b h1 h2;omega
theorem gH (ok:B.Ok) (D:Nat->Bool) (b:Nat):Ol B N D b<=N*7:=VD (fun i=>by
 split
 ·cases hd:B.nodeI (i:Int) with
  | none=>exact yg _
  | some d=>exact qh (bI d b) (ok.node_ok hd).1.n
 ·exact yg _) N
def nE (f:Nat):Prop:=∀ {w:World} {B:Bs} {N G:Nat} {ht:Ht} {BR:zF} {ob db x c:Nat} {o:zF} {D:Nat->Bool} {v1 v2 v3 v4:Value},Gr N G B ht BR->N<=4096->ht x=some c->ob≠db->YO w ob N o->ZK w db N D->Bb B N o D ->
 Jk [ob,db] w B f x [.int .i64 (x:Int),v1,v2,v3,v4] ->
 zC 106 #[zS ob N N,zS db N N,.agg #[.int .i64 (x:Int),v1,v2,v3,v4]] w fun e w'=>e = .returned (.tuple #[])/\∃ o' D',Xx B N ht w ob db o D w' o' D'/\D' x=true
def oI (d:Nd) (o:zF) (i:Nat) (b:Nat):Nat:=if b=0 then o 0 else o b+cnt i fun j=>decide (d.v j=b)
theorem vS (d:Nd) (o:zF):oI d o 0=o:=by
 funext b
 unfold oI;by_cases e:b=0
 ·rw [if_pos e,e]
 ·rw [if_neg e];rfl
theorem vT (h:d.v i=0):oI d o (i+1)=oI d o i:=by
 funext b
 unfold oI;by_cases e:b=0
 ·rw [if_pos e,if_pos e]
 ·rw [if_neg e,if_neg e,qO,h,yC (fun q=>e q.symm)];simp
theorem vU (h:d.v i≠0):oI d o (i+1)=fun b=>if b=d.v i then oI d o i (d.v i)+1 else oI d o i b:=by
 funext b
 unfold oI;by_cases e:b=0
 ·subst e;rw [if_pos rfl,if_neg (fun q=>h q.symm),if_pos rfl]
 ·by_cases e2:b=d.v i
  ·subst e2
   rw [if_neg e,if_pos rfl,if_neg e,qO,yq rfl,if_pos rfl];omega
  ·rw [if_neg e,if_neg e2,if_neg e,qO,yC (fun q=>e2 q.symm)];simp
theorem tT {f:Nat} (ih:nE f):nE (f+1):=by
 intro w B N G ht BR ob db x c o D v1 v2 v3 v4 g hM hx hod ho hD I9 hT;obtain ⟨d,vk,vv,a,n,cc,hV,hd,NE,hk,hv,B5,BW,hn,P8⟩:=hT;simp only [List.cons.injEq,and_true] at hV;obtain ⟨-,rfl,rfl,rfl,rfl⟩:=hV;obtain ⟨va,vc,rfl⟩:=hv.len;obtain ⟨ka,kc,rfl⟩:=hk.len;obtain ⟨Eh,Et,d',hd',nd⟩:=g.node x c hx;obtain rfl:d=d':=yj (hd.symm.trans hd');have c0:=(zv.refl [] w).alloc (.cells #[zI x,.bool d.leaf,.slice ka d.n kc,.slice va d.n vc,.slice a n cc] 129);have k0:=xo w (.cells #[zI x,.bool d.leaf,.slice ka d.n kc,.slice va d.n vc,.slice a n cc] 129);have IH:Hd (nE f) := @ih;have H:=zh (zA g (zA hM (zA hx (zA hod (zA I9 (zA Eh (zA hd (zA nd NE))))))));have HK:=zh (zA hv (zA P8 (zA hn (zA B5 BW))));have n7:=NE.n;have Dh:=zz ho;have Na:=zz hD;clear ih g hM hx I9 hk hv P8 hn hd hd' nd NE;go_enter Tryz.func106,Tryz.ntmps106;go_upto_region 1 with (refine qJ rfl 129 (.tmp 2) rfl (cells:=#[zI x,.bool d.leaf,.slice ka d.n kc,.slice va d.n vc,.slice a n cc]) rfl ?_)
 generalize w.alloc (.cells #[zI x,.bool d.leaf,.slice ka d.n kc,.slice va d.n vc,.slice a n cc] 129)=W0 at c0 k0 ⊢;obtain ⟨xb,C5⟩:=zE w.heap.size;rw [<- C5] at k0 ⊢;have ho0:=ho.chg c0;have hD0:=hD.chg c0;have xc:=hD0.cell Eh;have xf:=xB hD0 x;obtain ⟨y0,y1,y2,y3,y4⟩:=pZ k0;have If:=zh (zA C5 (zA c0 (zA k0 (zA ho0 hD0))));clear C5 c0 k0 ho0 hD0 ho hD
 cases hDx:D x with
 | true =>
  rw [hDx] at xc;have hE:Xx B N ht w ob db o D W0 o D:=⟨If.2.2.2.1,If.2.2.2.2,Y6.refl _ _ _,fun b _ _=>rfl,rfl,If.2.1.mo⟩;have HE:=zh hE;clear hE;go_wp2_with fail;exact bodyPost_ret (v := .tuple #[]) (by simp [results,Tryz.f106,go_sem]) rfl ⟨rfl,o,D,HE.o,hDx⟩
 | false =>
  rw [hDx] at xc;go_upto_region 4 with fail;have hD1:=If.2.2.2.2.set (x:=x);have c1:=(zv.refl [db] W0).setCell (p:=⟨db,x,none⟩) (.inl zaa) (.bool true);generalize W0.setCell ⟨db,x,none⟩ (.bool true)=W1 at hD1 c1 ⊢;have Hg:=If.2.2.2.1.chg c1 (by simp only [zms];exact H.2.2.2.1);have k1:=(c1.block xb (zz If.2.2.1) (by simp only [zms];rw [If.1];omega)).trans If.2.2.1;have H1:=zh (zA hD1 (zA Hg (zA k1 ((If.2.1.mo:zv [ob,db] w W0).trans (c1.mo)))));clear hD1 c1 Hg k1 xc xf y0 y1 y2 y3 y4;go_loopg [6] d.n (fun gg s6 wr=>∃ i:Nat,gg=d.n - i/\i<=d.n/\s6 = zI i/\Hd (YO wr ob N (oI d o i)/\ZK wr db N (QV D x)/\wr.heap[xb]?=some (.cells #[zI x,.bool d.leaf,.slice ka d.n kc,.slice va d.n vc,.slice a n cc] 129 (0,0))/\zv [ob,db] w wr))
  case atStart=>exact ⟨0,rfl,yg _,rfl,zh ⟨by rw [vS];exact H1.2.1,H1.1,H1.2.2.1,H1.2.2.2⟩⟩
  case round =>
   obtain ⟨i,Dw,hi,rfl,HR⟩:=hrel;have FK:=zh Dw;clear Dw;have kr:=HR.2.2.1;obtain ⟨y0,y1,y2,y3,y4⟩:=pZ kr;clear kr;by_cases Cm:i<d.n
   ·have i1:(i:Int)<(d.n:Int):=zo
    obtain ⟨b,off,rfl,hb,Kx,hnum⟩:=(HK.1.chg HR.2.2.2 (fun q hq => .inl hq)).get Cm;obtain ⟨IG,hv64⟩:=hnum i Cm;have DE:=H.1.val_live H.2.2.1 H.2.2.2.2.2.2.1 Cm;obtain ⟨v,hv⟩:=zE (d.v i);rw [<- hv] at IG hv64 DE;have HV:=zh hv;have hM:=H.2.1;have e2:IntKind.u64.wrap (N:Int)=(N:Int):=IntWalk.u64_in _ zo;clear hnum Kx hb hv;by_cases FJ:v=0
    ·have e1:¬ (0:Int)<(v:Int):=zo
     have Pi:=vT (d:=d) (o:=o) (i:=i) (by rw [<- HV.o];exact FJ);have RQ:=zh Pi;clear Pi DE FJ;go_wp2_with fail;go_roundg (d.n - (i+1))
     case measure=>have:=FK.o;omega
     case rel=>exact ⟨i+1,rfl,Cm,zac,zh ⟨by rw [RQ.o];exact HR.1,HR.2⟩⟩
    ·obtain ⟨v2,vN,vl⟩:=DE FJ
     have e1:(0:Int)<(v:Int):=zo;have e3:(v:Int)<(N:Int):=zo;have oc:=HR.1.cell vN;have of_:=xB HR.1 v;have T0:=vU (d:=d) (o:=o) (i:=i) (by rw [<- HV.o];exact FJ);rw [<- HV.o] at T0;obtain ⟨ov,SR⟩:=zE (oI d o i v)
     have Dl:ov<=1000000000+N*7+7:=by
      have h1:=H.2.2.2.2.1 v zo vN;have h2:=gH H.1.good.ok (N:=N) D v;have h3:(cnt i fun j=>decide (d.v j=v))<=i:=Yj _ _;rw [SR];unfold oI;rw [if_neg zo];omega
     rw [<- SR] at oc T0;have e4:IntKind.i64.wrap ((ov:Int)+1)=((ov+1:Nat):Int):=by rw [yv _ zo];omega
     obtain ⟨o1,Hg⟩:=zE (ov+1);rw [<- Hg] at e4 T0;have HMO:=zh T0;clear T0 SR DE Dl FJ Hg;go_wp2_with fail;go_roundg (d.n - (i+1))
     case measure=>have:=FK.o;omega
     case rel =>
      have cS:zv [ob] wr (wr.setCell ⟨ob,v,none⟩ (zI o1)):=(zv.refl [ob] wr).setCell (.inl zaa) _;refine ⟨i+1,rfl,Cm,zac,zh ⟨by rw [HMO.o];exact HR.1.set,HR.2.1.chg cS (by simp only [zms];exact fun q=>H.2.2.2.1 q.symm),(cS.block xb (zz HR.2.2.1) (by simp only [zms];rw [If.1];omega)).trans HR.2.2.1,HR.2.2.2.trans (cS.mo)⟩⟩
   ·obtain rfl:i=d.n:=zo
    have i1:¬ (d.n:Int)<(d.n:Int):=zo;go_upto_region 10 with fail
    have I9:Bb B N (oI d o d.n) (QV D x):=fun b h1 h2=>by
     have:=H.2.2.2.2.1 b h1 h2;rw [jP H.2.2.2.2.2.1 hDx H.2.2.2.2.2.2.1];unfold oI xi;rw [if_neg zo];omega
    have H2:=zh (zA (Xx.mk HR.1 HR.2.1 (Y6.refl B ht (QV D x)) (fun b _ _=>rfl) rfl (zv.refl [ob,db] wr)) (zA I9 (zA HR.2.2.1 HR.2.2.2)));clear y0 y1 y2 y3 y4 I9 hi;obtain ⟨W2,rfl⟩:=zE wr;have nn7:n<=7:=by have:=HK.2.2.1;split at this <;> omega
    go_loopg [8] n (fun gg s8 wk=>∃ i:Nat,gg=n - i/\i<=n/\s8 = zI i/\Hd (∃ o1 D1,Xx B N ht W2 ob db (oI d o d.n) (QV D x) wk o1 D1/\∀ j,j<i->D1 (d.v j)=true))
    case atStart=>exact ⟨0,rfl,yg _,rfl,zh ⟨_,_,H2.1,fun j hj=>zo⟩⟩
    case round =>
     obtain ⟨i,It,hi,rfl,HA⟩:=hrel;have KJ:=zh It;clear It;obtain ⟨o1,D1,hA,NF⟩:=HA.o;have UO:zv [ob,db] w wr:=H2.2.2.2.trans hA.chg;have kr:=(hA.chg.block xb (zz H2.2.2.1) (by rw [If.1];simp only [ya,yk,or_false];omega)).trans H2.2.2.1;obtain ⟨y0,y1,y2,y3,y4⟩:=pZ kr;have Nv:=zh (zA hA (zA NF (zA UO kr)));clear kr;by_cases Cm:i<n
     ·have j1:(i:Int)<(n:Int):=zo
      obtain ⟨g,rfl,hg,ro,GP⟩:=HK.2.1 zo;obtain ⟨U,hU,hc⟩:=GP i Cm;obtain ⟨u1,u2,u3,u4,rfl⟩:=hU.head
      have hlf:d.leaf=false/\n=d.n:=by
       have:=HK.2.2.1
       cases hq:d.leaf with
       | true=>rw [hq] at this;simp at this;omega
       | false=>rw [hq] at this;simp at this;exact ⟨rfl,this⟩
      have Eb:=H.2.2.2.2.2.2.2.1.kid (by
       have:=H.2.2.2.2.2.2.2.1.leaf;rw [hlf.1] at this;exact of_decide_eq_false this.symm) i zo
      have Dv:∀ j,j<5->wr.cell? ⟨g,i*5+j,none⟩=[Value.int .i64 (d.v i:Int),u1,u2,u3,u4][j]?:=fun j hj=>(UO.cell (p:=⟨g,i*5+j,none⟩) hg ro).trans (hc j hj);have e0:wr.cell? ⟨g,i*5,none⟩=some (.int .i64 (d.v i:Int)):=Dv 0 zo;have e1:wr.cell? ⟨g,i*5+1,none⟩=some u1:=Dv 1 zo;have e2:wr.cell? ⟨g,i*5+2,none⟩=some u2:=Dv 2 zo;have e3:wr.cell? ⟨g,i*5+3,none⟩=some u3:=Dv 3 zo;have e4:wr.cell? ⟨g,i*5+4,none⟩=some u4:=Dv 4 zo
      have ci:zC 106 #[zS ob N N,zS db N N,.agg #[.int .i64 (d.v i:Int),u1,u2,u3,u4]] wr fun e w'=>e = .returned (.tuple #[])/\∃ o' D',Xx B N ht wr ob db o1 D1 w' o' D'/\D' (d.v i)=true :=
       IH H.1 H.2.1 Eb H.2.2.2.1 hA.oro hA.bits (hA.far H2.2.1) (hU.chg UO (fun q hq => .inl hq) (fun q hq => .inl hq) _ _ _)
      have CI:=zh ci;obtain ⟨v,hv⟩:=zE (d.v i);rw [<- hv] at e0 CI;have HV:=zh hv;clear ci Dv GP hc hU Eb hlf hA NF hg ro UO hv;go_wp2_with fail;refine CI.mono ?_;clear CI;rintro e w3 ⟨rfl,o2,D2,hB,hBx⟩;have HB:=zh (zA hB hBx);clear hB hBx;go_wp2_with fail;go_roundg (n - (i+1))
      case measure=>have:=KJ.o;omega
      case rel =>
       refine ⟨i+1,rfl,Cm,zac,zh ⟨o2,D2,Nv.1.trans HB.1,fun j hj=>?_⟩⟩;by_cases e:j=i
       ·subst e;rw [<- HV.o];exact HB.2
       ·exact HB.1.marks.sub _ (Nv.2.1 j zo)
     ·obtain rfl:i=n:=zo
      have j1:¬ (i:Int)<(i:Int):=zo;obtain ⟨hm,Fy⟩:=Y6.top (ht:=ht) (x:=x) (by rw [H.2.2.1];rfl) H.2.2.2.2.2.2.1 Nv.1.marks (fun hl j hj=>Nv.2.1 j (by have:=HK.2.2.1;rw [hl] at this;simp at this;omega))
      have hE:Xx B N ht w ob db o D wr o1 D1:=⟨Nv.1.oro,Nv.1.bits,hm,fun b h1 h2=>by
       have q1:=Nv.1.sum b h1 h2;rw [jP H.2.2.2.2.2.1 hDx H.2.2.2.2.2.2.1] at q1;unfold oI at q1;rw [if_neg zo] at q1;unfold xi at q1;omega,by have:=Nv.1.zero;unfold oI at this;rw [if_pos rfl] at this;exact this,Nv.2.2.1⟩
      have HE:=zh (zA hE Fy);clear hE hm Fy hA NF UO;go_wp2_with fail
      go_end0
      exact ⟨rfl,o1,D1,HE.1,HE.2⟩
theorem nF:∀ f,nE f
 | 0=>fun _ _ _ _ _ _ _ h=>h.elim
 | f+1=>tT (nF f)
def JE (A:List Nat) (w:World) (B:Bs) (ht:Ht) (r:Nat) (U:List Value):Prop :=
 (r=0/\U=[.int .i64 0,.bool false,.slice none 0 0,.slice none 0 0,.slice none 0 0])∨∃ f c,ht r=some c/\Jk A w B f r U
theorem JE.chg {A A' L:List Nat} {w w':World} {B:Bs} {ht:Ht} {r:Nat} {U:List Value} (h:JE A w B ht r U) (c:zv L w w') (hL:∀ k,k∈L->k∈A∨w.heap.size<=k:=by simp) (hA:∀ k,k∈A'->k∈A∨w.heap.size<=k:=by simp):JE A' w' B ht r U:=by
 rcases h with h | ⟨f,k,h1,h2⟩
 ·exact .inl h
 ·exact .inr ⟨f,k,h1,h2.chg c hL hA _ _ _⟩
theorem JE.head {A:List Nat} {w:World} {B:Bs} {ht:Ht} {r:Nat} {U:List Value} (h:JE A w B ht r U):∃ v1 v2 v3 v4,U=[.int .i64 (r:Int),v1,v2,v3,v4]:=by
 rcases h with ⟨rfl,rfl⟩ | ⟨f,k,h1,h2⟩
 ·exact ⟨_,_,_,_,rfl⟩
 ·exact h2.head
def jU (A:List Nat) (w:World) (B:Bs) (ht:Ht) (v:Value) (R:List Nat):Prop :=
 ∃ a c,v = .slice a R.length c/\R.length<=c/\c<=maxLen/\(0<R.length->∃ g,a=some ⟨g,0,none⟩/\g<w.heap.size/\g∉A/\∀ i,i<R.length->∃ U,JE A w B ht (R.getD i 0) U/\∀ j,j<5->w.cell? ⟨g,i*5+j,none⟩=U[j]?)
structure dx (B:Bs) (N:Nat) (ht:Ht) (w:World) (ob db:Nat) (R:List Nat) (w':World) (q:zF) (D:Nat->Bool):Prop where
 oro:YO w' ob N q
 bits:ZK w' db N D
 marks:Y6 B ht (fun _=>false) D
 roots:∀ r,r∈R->r≠0->D r=true
 sum:∀ b,1<=b->b<N->q b=xG R b+Ol B N D b
 zero:q 0=0
 chg:zv [ob,db] w w'
theorem dx.skip (h:dx B N ht w ob db R w' q D):dx B N ht w ob db (R++[0]) w' q D :=
 ⟨h.oro,h.bits,h.marks,fun r hr h0=>h.roots r ((yx.1 hr).resolve_right fun hm=>h0 (List.mem_singleton.1 hm)) h0,fun b h1 h2=>by
  rw [h.sum b h1 h2,<- YS];unfold xA;rw [if_neg zo,Nat.add_zero],h.zero,h.chg⟩
theorem dx.far (h:dx B N ht w ob db R w' q D) (hR:R.length<=1000) (r:Nat):Bb B N (fun b=>if b=r then q r+1 else q b) D:=fun b h1 h2=>by
 have:=h.sum b h1 h2;have:=QT R b
 show (if b=r then q r+1 else q b)<=_
 by_cases e:b=r
 ·rw [if_pos e,<- e];omega
 ·rw [if_neg e];omega
theorem dx.step {w3 w4:World} {r:Nat} {o2:zF} {D2:Nat->Bool} (h:dx B N ht w ob db R w' q D) (hr:r≠0) (c:zv [ob] w' w3)
  (a:Xx B N ht w3 ob db (fun b=>if b=r then q r+1 else q b) D w4 o2 D2) (hx:D2 r=true):dx B N ht w ob db (R++[r]) w4 o2 D2:=by
 refine ⟨a.oro,a.bits,h.marks.trans a.marks,fun x hx' h0=>?_,fun b h1 h2=>?_,?_,(h.chg.trans (c.mo)).trans a.chg⟩
 ·rcases yx.1 hx' with hm | hm
  ·exact a.marks.sub _ (h.roots x hm h0)
  ·rw [List.mem_singleton.1 hm];exact hx
 ·have h3:=a.sum b h1 h2
  have:=h.sum b h1 h2;rw [<- YS];unfold xA;by_cases e:b=r
  ·subst e
   simp only [if_true] at h3 ⊢;omega
  ·simp only [if_neg e] at h3 ⊢
   omega
 ·rw [a.zero]
  show (if 0=r then q r+1 else q 0)=0
  rw [if_neg (fun e=>hr e.symm),h.zero]
theorem pI (N:Nat):zO N (.int .i64 0)=zK N (fun _ => .int .i64 ((0:Nat):Int)):=by
 apply yM;intro i;by_cases hi:i<N
 ·rw [Qn hi];simp [zO,hi]
 ·rw [yo (by simp [zO];omega),yo zaj]
theorem pJ (N:Nat):zO N (.bool false)=zK N (fun _ => .bool false):=by
 apply yM;intro i;by_cases hi:i<N
 ·rw [Qn hi];simp [zO,hi]
 ·rw [yo (by simp [zO];omega),yo zaj]
theorem Oo (hi:i<R.length):R.take (i+1)=R.take i++[R.getD i 0]:=by
 rw [List.take_succ_eq_append_getElem hi,zgD,yt hi];rfl
def vV (w:World) (B:Bs) (N:Nat) (ht:Ht) (R:List Nat) (e:Ending) (w':World):Prop :=
 ∃ ob q D,e = .returned (zS ob N N)/\YO w' ob N q/\Y6 B ht (fun _=>false) D/\(∀ r,r∈R->r≠0->D r=true)/\(∀ b,1<=b->b<N->q b=xG R b+Ol B N D b)/\q 0=0/\zv [] w w'
theorem vW {G:Nat} {BR:zF} (g:Gr N G B ht BR) (hM:N<=4096) (hF:jU [] w B ht v R) (hR:R.length<=1000) :
  zC 55 #[.int .i64 (N:Int),v] w (vV w B N ht R):=by
 obtain ⟨a,cc,rfl,B5,BW,hF2⟩:=hF;have mk0:=xW (P:=Tryz.prog) 32 3 Tryz.underlying32 YH rfl .i64 .i64 N zo zo;have mk1:=xW (P:=Tryz.prog) 198 4 Tryz.underlying198 aT rfl .i64 .i64 N zo zo;rw [pI] at mk0;rw [pJ] at mk1;obtain ⟨n,hn⟩:=zE R.length;have H:=zh (zA g (zA hM (zA hF2 (zA hR hn))));rw [<- hn] at B5 hR ⊢;clear g hF2 hn;go_enter Tryz.func55,Tryz.ntmps55;go_upto_region 4 with fail;have s1:(w.alloc (.cells (zK N fun _ => .int .i64 0) 3)).heap.size=w.heap.size+1:=zD _ _;have k0:=xo w (.cells (zK N fun _ => .int .i64 0) 3);have c0:=(zv.refl [] w).alloc (.cells (zK N fun _ => .int .i64 0) 3);have k1:=xo (w.alloc (.cells (zK N fun _ => .int .i64 0) 3)) (.cells (zK N fun _ => .bool false) 4);have c1:=c0.alloc (.cells (zK N fun _ => .bool false) 4);have k2:=(((zv.refl [] _).alloc (.cells (zK N fun _ => .bool false) 4)).block w.heap.size (zz k0) zaa).trans k0;rw [s1] at k1;generalize (w.alloc _).alloc _=W2 at k1 c1 k2 ⊢;obtain ⟨ob,Dh⟩:=zE w.heap.size;rw [<- Dh] at k1 k2 ⊢;obtain ⟨db,Na⟩:=zE (ob+1);rw [<- Na] at k1 ⊢;have Ez:dx B N ht W2 ob db [] W2 (fun _=>0) (fun _=>false):=⟨k2,k1,Y6.refl _ _ _,fun r hr=>(by cases hr),fun b _ _=>by rw [pB];rfl,rfl,zv.refl _ _⟩;have H2:=zh (zA Ez (zA c1 (zA Dh Na)));clear k0 c0 k1 c1 k2 s1 Ez Dh Na mk0 mk1
 go_loopg [7] n (fun gg s7 wr=>∃ i:Nat,gg=n - i/\i<=n/\s7 = .int .i64 (i:Int)/\Hd (∃ q D,dx B N ht W2 ob db (R.take i) wr q D))
 case atStart=>exact ⟨0,rfl,yg _,rfl,zh ⟨_,_,H2.1⟩⟩
 case round =>
  obtain ⟨i,Dw,hi,rfl,HR⟩:=hrel;have FK:=zh Dw;clear Dw;obtain ⟨q,D,Lf⟩:=HR.o;have NA:=zh Lf;by_cases Cm:i<n
  ·have i1:(i:Int)<(n:Int):=zo
   obtain ⟨b,rfl,hb,-,GP⟩:=H.2.2.1 (by rw [<- H.2.2.2.2];omega);obtain ⟨U,hU,hc⟩:=GP i (by rw [<- H.2.2.2.2];omega);have Li:=Oo (R:=R) (i:=i) (by rw [<- H.2.2.2.2];omega);obtain ⟨r,hr⟩:=zE (R.getD i 0);rw [<- hr] at hU Li;have HTK:=zh Li;obtain ⟨u1,u2,u3,u4,rfl⟩:=hU.head
   have G6:b∉[ob,db]:=by
    have h1:=H2.2.2.1;have h2:=H2.2.2.2;simp only [ya,yk,or_false];omega
   have Dv:∀ j,j<5->wr.cell? ⟨b,i*5+j,none⟩=[Value.int .i64 (r:Int),u1,u2,u3,u4][j]?:=fun j hj =>
    (Lf.chg.cell (p:=⟨b,i*5+j,none⟩) (qe hb H2.2.1.size) G6).trans ((H2.2.1.cell (p:=⟨b,i*5+j,none⟩) hb zaa).trans (hc j hj))
   have e0:wr.cell? ⟨b,i*5,none⟩=some (.int .i64 (r:Int)):=Dv 0 zo;have HU:=zh (zA hU G6);clear hc GP Lf Li hr;by_cases FI:r=0
   ·have j1:¬ (0:Int)<(r:Int):=zo
    have Pi:=NA.skip;rw [<- FI,<- HTK.o] at Pi;have RQ:=zh Pi;clear Pi Dv hU FI;go_wp2_with fail;go_roundg (n - (i+1))
    case measure=>have:=FK.o;omega
    case rel=>exact ⟨i+1,rfl,Cm,zac,zh ⟨_,_,RQ⟩⟩
   ·obtain ⟨f,c,SX,Wc⟩:∃ f c,ht r=some c/\Jk [] w B f r [.int .i64 (r:Int),u1,u2,u3,u4]:=hU.resolve_left fun q=>FI q.1
    obtain ⟨rN,rl⟩:=H.1.lt SX;have j1:(0:Int)<(r:Int):=zo;have j2:(r:Int)<(N:Int):=zo;have oc:=NA.oro.cell rN;have of_:=xB NA.oro r;obtain ⟨ov,SR⟩:=zE (q r)
    have Dl:ov<=1000+N*7:=by
     have h1:=NA.sum r zo rN;have h2:=gH H.1.good.ok (N:=N) D r;have h3:=QT (R.take i) r;have h4:=List.length_take_le i R;omega
    rw [<- SR] at oc;have e4:IntKind.i64.wrap ((ov:Int)+1)=((ov+1:Nat):Int):=by rw [yv _ zo];omega
    have HOV:=zh SR;clear SR Dl FI;go_upto_region 8 with fail;have Kz:zv [ob] wr (wr.setCell ⟨ob,r,none⟩ (.int .i64 ((ov+1:Nat):Int))):=(zv.refl [ob] wr).setCell (.inl zaa) _;have hoS:=NA.oro.set (x:=r) (v:=ov+1);rw [show ((ov+1:Nat):Int)=(ov:Int)+1 by omega] at Kz hoS;generalize wr.setCell ⟨ob,r,none⟩ (.int .i64 ((ov:Int)+1))=w3 at Kz hoS ⊢;have hoS2:YO w3 ob N (fun k=>if k=r then q r+1 else q k):=by rw [<- HOV.o];exact hoS
    have hbS:=NA.bits.chg Kz (by simp only [zms];have:=H2.2.2.2;omega);have c03:zv [ob,db] W2 w3:=NA.chg.trans (Kz.mo)
    have Wd:Jk [ob,db] w3 B f r [.int .i64 (r:Int),u1,u2,u3,u4] :=
     (Wc.chg H2.2.1 zaa (A':=[ob,db]) (fun k hk => .inr (by have h1:=H2.2.2.1;have h2:=H2.2.2.2;simp only [ya,yk,or_false] at hk;omega)) _ _ _).chg c03 (fun k hk => .inl hk) (fun k hk => .inl hk) _ _ _
    have ca:zC 106 #[zS ob N N,zS db N N,.agg #[.int .i64 (r:Int),u1,u2,u3,u4]] w3 fun e w'=>e = .returned (.tuple #[])/\∃ o' D',Xx B N ht w3 ob db (fun k=>if k=r then q r+1 else q k) D w' o' D'/\D' r=true :=
     nF f H.1 H.2.1 SX (zq H2.2.2.2) hoS2 hbS (NA.far (zq (List.length_take_le i R)) r) Wd
    have Fs:∀ j,j<5->w3.cell? ⟨b,i*5+j,none⟩=[Value.int .i64 (r:Int),u1,u2,u3,u4][j]?:=fun j hj=>(Kz.cell (p:=⟨b,i*5+j,none⟩) (yc wr ⟨b,i*5,none⟩ e0) (by have:=HU.2;simp only [ya,yk,or_false,zms] at this ⊢;omega)).trans (Dv j hj);have d0:w3.cell? ⟨b,i*5,none⟩=some (.int .i64 (r:Int)):=Fs 0 zo;have d1:w3.cell? ⟨b,i*5+1,none⟩=some u1:=Fs 1 zo;have d2:w3.cell? ⟨b,i*5+2,none⟩=some u2:=Fs 2 zo;have d3:w3.cell? ⟨b,i*5+3,none⟩=some u3:=Fs 3 zo;have d4:w3.cell? ⟨b,i*5+4,none⟩=some u4:=Fs 4 zo;have CA:=zh ca;have Nw:=zh Kz;have KG:r≠0:=zo
    clear hoS hoS2 hbS c03 Wd ca Fs Dv Wc hU oc of_ e0 Kz;go_wp2_with fail;refine CA.mono ?_;clear CA;rintro e w4 ⟨rfl,o2,D2,hA,hx⟩;have Ev:=NA.step KG Nw hA hx;rw [<- HTK.o] at Ev;have IR:=zh Ev;clear Ev hA hx d0 d1 d2 d3 d4;go_wp2_with fail;go_roundg (n - (i+1))
    case measure=>have:=FK.o;omega
    case rel=>exact ⟨i+1,rfl,Cm,zac,zh ⟨_,_,IR⟩⟩
  ·obtain rfl:i=n:=zo
   have i1:¬ (i:Int)<(i:Int):=zo;have Ir:R.take i=R:=by rw [H.2.2.2.2];exact List.take_length
   rw [Ir] at Lf;have HF:=zh (zA Lf (H2.2.1.then Lf.chg (fun k hk => .inr (by have h1:=H2.2.2.1;have h2:=H2.2.2.2;simp only [ya,yk,or_false] at hk;omega))));clear Lf Ir;go_wp2_with fail;go_ret;exact ⟨ob,q,D,rfl,HF.1.oro,HF.1.marks,HF.1.roots,HF.1.sum,HF.1.zero,HF.2⟩
end Go.Proofs.YtegpiomkmfhadaaGreat
