/- Package share: Diff. · Package tree: Ta -/
import Derived.Test.YtegpiomkmfhadaaGreatZo39
set_option linter.all false
set_option maxRecDepth 100000
set_option maxHeartbeats 20000000
namespace Go.Proofs.YtegpiomkmfhadaaGreat
open Go.RowKit Go.Maps
variable {L0 N k x G:Nat} {w:World} {B:Bs} {f:Nat->Option Value} {D D':Nat->Bool} {ht:Ht} {M:Bm} {F l:List Nat} {BR:zF} {a b:zL}
def Ql (L0:Nat) (w:World) (B:Bs) (N:Nat) (f:Nat->Option Value) (D:Nat->Bool):Prop:=∀ n,n<N->(D n=false->f n=none)/\(D n=true->∃ v d,f n=some v/\B.nodeI (n:Int)=some d/\d.n<=7/\cz L0 w v d)
theorem Ql.chg {L0 N:Nat} {w w':World} {B:Bs} {f:Nat->Option Value} {D:Nat->Bool} {L:List Nat} (h:Ql L0 w B N f D) (c:zv L w w') (hL:∀ q,q∈L->q<L0∨w.heap.size<=q:=by simp):Ql L0 w' B N f D:=fun n hn=>⟨(h n hn).1,fun hD=>by
 obtain ⟨v,d,e1,e2,e3,e4⟩:=(h n hn).2 hD;exact ⟨v,d,e1,e2,e3,e4.chg c hL⟩⟩
theorem Ql.drop (h:Ql L0 w B N f D) (hD:∀ n,D' n=(D n && !decide (n=k))):Ql L0 w B N (fun i=>if i=k then none else f i) D':=fun n hn=>by
 rw [hD n];by_cases e:n=k
 ·simp [e]
 ·simp only [e,decide_false,Bool.not_false,Bool.and_true,if_false]
  exact h n hn
theorem Ql.congr (h:Ql L0 w B N f D) (hD:∀ n,n<N->D' n=D n):Ql L0 w B N f D':=fun n hn=>by rw [hD n hn];exact h n hn
structure By (N G:Nat) (B:Bs) (ht:Ht) (BR:zF) (x y h1 h2:Nat) (a b:zL):Prop where
 gr:Gr N G B ht BR
 hM:16<=N/\N<=4096
 low:∀ n c,ht n=some c->c<8
 one:Xl B ht x h1 a
 two:Xl B ht y h2 b
theorem Xl.root {Cb:Nat} {items:zL} (t:Xl B ht x Cb items):x=0∨∃ h,ht x=some h:=by
 rcases t with ⟨rfl,-⟩ | ⟨h,-,-,t⟩
 ·exact .inl rfl
 ·exact .inr ⟨h,t.top⟩
theorem cV {mb r:Nat} (hb:zx w M F B) (hF:mb∈F) (g:Gr N G B ht BR) (hN:16<=N/\N<=4096) (low:∀ n c,ht n=some c->c<8) (hm:YK L0 w mb B N (fun _=>false)) (hr:r=0∨∃ h,ht r=some h) :
  zC 35 #[zP M.b,.int .i64 (r:Int),.int .i64 0,.map (some mb)] w fun e w'=>e = .returned (.int .i64 0)/\YK L0 w' mb B N (nodesB B ht [r])/\zv [mb] w w':=by
 rcases hr with rfl | ⟨h,hh⟩
 ·have e:nodesB B ht [0]=fun _=>false:=(ZD (B:=B) (R:=[]) g.none0).trans Yr
  rw [e];refine (cL hm rfl zo).mono ?_;rintro e w' ⟨rfl,c⟩;exact ⟨rfl,hm.chg c,c.mo⟩
 ·have e:nodesB B ht [r]=Jj B (fun _=>false) h r:=by
   have:=Qk (B:=B) (R:=[]) hh;rw [yy,Yr] at this;exact this
  rw [e];exact On h (l:=0) ⟨hb,hF,g,hN.2,hm,fun n c hD=>(by cases hD),hh,by have:=low r h hh;omega⟩
theorem Gr.keys64 (g:Gr N G B ht BR):∀ (n:Nat) d,B.nodeI (n:Int)=some d->∀ i,i<d.n->d.k i<18446744073709551616:=fun n d hd i hi=>(g.good.ok.node_ok hd).1.k i hi
theorem qV.congr {v:Nat} (e:∀ n,D n=D' n):qV B D k v↔qV B D' k v:=by
 have:D=D':=funext e;rw [this]
theorem Gr.nodesB_lt (g:Gr N G B ht BR) (low:∀ n c,ht n=some c->c<8) {R:List Nat} (n:Nat):(nodesB B ht R n&&decide (n<N))=nodesB B ht R n:=by
 cases e:nodesB B ht R n with
 | false=>rfl
 | true =>
  obtain ⟨c,d,e1,_⟩:=g.nodesB_has low e;rw [yq (g.lt e1).1];rfl
theorem fF {f:Nat->Option Nat} {v:Value} (h:XF f k=some v):∃ u:Nat,f k=some u/\v = .int .u64 (u:Int):=by
 unfold XF at h
 cases e:f k with
 | none=>rw [e] at h;cases h
 | some u=>rw [e] at h;injection h with h;exact ⟨u,rfl,h.symm⟩
theorem nH {f:Nat->Option Nat} : (XF f k).isSome=(f k).isSome:=by unfold XF;cases f k <;> rfl
def nI (L0 xb yb it N:Nat) (B:Bs) (w:World) (Dx Dy:Nat->Bool) (wr:World):Prop:=∃ (left:Nat->Bool) (fx fy:Nat->Option Value),KR Tryz.prog 3 XE wr xb it N fx left/\xJ Tryz.prog 3 XE wr yb N fy/\Ql L0 w B N fx (fun n=>Dx n && !(Dy n && !left n))/\Ql L0 w B N fy (fun n=>Dy n && !(Dx n && !left n))/\zv [xb,yb] w wr/\∀ n,n<N->left n=true->Dx n=true
def nJ (ab cb db it:Nat) (w:World) (fa fc:Nat->Option Nat) (wr:World):Prop:=∃ (left:Nat->Bool) (fd:Nat->Option Value) (m:Nat),jS Tryz.prog 23 JD wr ab it 30000 (XF fa) left/\qE Tryz.prog 23 JD wr cb 30000 (XF fc)/\qE Tryz.prog 23 JD wr db m fd/\m+wr.rangeLeft ab it<=30000/\(∀ k,(fd k).isSome=true↔(fa k).isSome=true/\left k=false/\fc k≠fa k)/\zv [] w wr
def aA (ab cb db it:Nat) (w:World) (fa fc:Nat->Option Nat) (wr:World):Prop:=∃ (left:Nat->Bool) (fd:Nat->Option Value) (m:Nat),jS Tryz.prog 23 JD wr cb it 30000 (XF fc) left/\qE Tryz.prog 23 JD wr ab 30000 (XF fa)/\qE Tryz.prog 23 JD wr db m fd/\m+wr.rangeLeft cb it<=60000/\(∀ k,(fd k).isSome=true↔((fa k).isSome=true/\fc k≠fa k)∨(fa k=none/\(fc k).isSome=true/\left k=false))/\zv [] w wr
theorem ub {ss:List Nat} (hn:ss.Nodup) (h:∀ x,x∈ss->x∈l):ss.length<=l.length:=by
 induction ss generalizing l with
 | nil=>simp
 | cons a t ih =>
  have ha:=h a zaa;have:=ih (l:=l.erase a) (List.nodup_cons.1 hn).2 (fun x hx=>(List.mem_erase_of_ne (fun e:x=a=>(List.nodup_cons.1 hn).1 (by rw [<- e];exact hx))).2 (h x (by simp [hx])));rw [List.length_erase_of_mem ha] at this;have:=List.length_pos_of_mem ha;simp;omega
theorem kd.congr {M:Nat} {p q:Nat->Prop} (h:kd M p) (e:∀ x,q x↔p x):kd M q:=h.imp id fun h ss hn hm=>h ss hn fun x=>(hm x).trans (e x)
theorem kd.of {M:Nat} (h:ZL a b l) (hl:l.length<=M):kd M fun k=>YT a k≠YT b k :=
 .inr fun ss hn hm=>qh (ub hn fun x hx=>(h.mem x).2 ((hm x).1 hx)) hl
def nK (w:World) (a b:zL) (e:Ending) (w':World):Prop:=∃ v l,e = .returned (.tuple #[v,.int .i64 0])/\ZL a b l/\l.length<=60000/\VM w' w.heap.size v l/\zv [] w w'
theorem pP {y h1 h2:Nat} {K:Nat} (hK:Bc K) (hF:kd K fun k=>YT a k≠YT b k) (hb:zx w M F B) (hI:By N G B ht BR x y h1 h2 a b) :
  zC 16 #[zP M.b,.int .i64 (x:Int),.int .i64 (y:Int)] w (nK w a b):=by
 have KO:=hb.cBlocks;have Gq:=hI.gr.good.n;rw [Gq] at KO;have hN:=hI.hM;have n0:((N:Int)==0)=false:=by rw [yD];omega
 have EA:=run_makeMap (P:=Tryz.prog) 100 w;have hmk2:=run_makeMap (P:=Tryz.prog) 100 (w.alloc (.map #[] 0));have c0:=(zv.refl [] w).alloc (.map #[] 0);have c01:=(zv.refl [] (w.alloc (.map #[] 0))).alloc (.map #[] 0);have kx:=(xJ.made (P:=Tryz.prog) (kt:=3) (good:=XE) w N).chg c01;have ky:=xJ.made (P:=Tryz.prog) (kt:=3) (good:=XE) (w.alloc (.map #[] 0)) N;have Gd:(w.alloc (.map #[] 0)).heap.size=w.heap.size+1:=zaa
 have LH:((w.alloc (.map #[] 0)).alloc (.map #[] 0)).heap.size=w.heap.size+2:=zaa;have Cr:=(((hb.new (xd _)).chg c0).new (xd _)).chg c01;rw [Gd] at ky Cr;have H:=zh hI;have HW:=zh (zA kx (zA ky (zA Cr (zA LH (c0.trans c01)))));clear hb hI Gq c0 c01 kx ky Gd LH Cr;go_enter Tryz.func16,Tryz.ntmps16;go_wp2_with fail;refine zm (KO) ?_;go_upto_region 4 with fail;clear EA hmk2;generalize (w.alloc (.map #[] 0)).alloc (.map #[] 0)=W at HW ⊢;obtain ⟨xb,C5⟩:=zE w.heap.size;rw [<- C5] at HW ⊢;obtain ⟨yb,Nq⟩:=zE (xb+1);rw [<- Nq] at HW ⊢;have G0:=zh (zA C5 (zA Nq (show xb≠yb by omega)));clear C5 Nq;obtain ⟨L0,Sb⟩:=zE (xb+2);have MY:=zh Sb;have T2:YK L0 W xb B N (fun _=>false):=⟨⟨_,HW.1,fun k hk=>⟨fun _=>rfl,fun hD=>(by cases hD)⟩⟩,zo,by rw [HW.2.2.2.1,Sb];exact xd _⟩;have Pc:YK L0 W yb B N (fun _=>false):=⟨⟨_,HW.2.1,fun k hk=>⟨fun _=>rfl,fun hD=>(by cases hD)⟩⟩,by have:=G0.2.1;omega,by rw [HW.2.2.2.1,Sb];exact xd _⟩;have CX:=zh (cV HW.2.2.1 (by rw [G0.1];simp) H.gr hN H.low T2 H.one.root);have HY0:=zh Pc;clear T2 Pc Sb;go_wp2_with fail;refine CX.mono ?_;clear CX;rintro e w3 ⟨rfl,Kh,c3⟩;have Wp:∀ q,q∈[xb]->q<L0∨W.heap.size<=q:=fun q hq=>by rw [zms] at hq;have:=MY.o;exact .inl zo
 have CY:=zh (cV (HW.2.2.1.chg c3 (fun q hq=>by rw [zms] at hq;rw [hq,G0.1];simp)) (mb:=yb) (by rw [G0.2.1,G0.1];simp) H.gr hN H.low (HY0.chg c3 (by simp only [zms];exact fun e=>G0.2.2 e.symm) Wp) H.two.root);have H3:=zh (zA Kh c3);clear Kh c3 Wp HY0;go_wp2_with fail;refine CY.mono ?_;clear CY;rintro e w4 ⟨rfl,Mw,c4⟩
 have N9:∃ Dx Dy:Nat->Bool,Dx=nodesB B ht [x]/\Dy=nodesB B ht [y]/\YK L0 w4 xb B N Dx/\YK L0 w4 yb B N Dy/\zv [] w w4:=by
  refine ⟨_,_,rfl,rfl,H3.1.chg c4 (by simp only [zms];exact G0.2.2) (fun q hq=>by rw [zms] at hq;have:=MY.o;have:=G0.2.1;exact .inl zo),Mw,?_⟩;refine (HW.2.2.2.2.then H3.2 (fun q hq=>?_)).then c4 (fun q hq=>?_)
  ·rw [zms] at hq;rw [hq,G0.1];exact .inr (xd _)
  ·rw [zms] at hq;rw [hq,G0.2.1,G0.1];exact .inr (Nat.le_succ _)
 clear Mw c4 H3 HW;obtain ⟨Dx,Dy,eDx,eDy,T2,Pc,Cd⟩:=N9;have HD:=zh (zA eDx eDy);clear eDx eDy;have Dg:=T2.sz;obtain ⟨fx,SB,Sx⟩:=T2.map;obtain ⟨fy,WV,WQ⟩:=Pc.map;have H4:=zh (zA SB (zA Sx (zA WV (zA WQ (zA Cd Dg)))));clear T2 Pc SB Sx WV WQ Cd Dg;go_wp2_with (refine Jz rfl _ rfl Tryz.underlying3 Tryz.underlying100 H4.1 rfl ?_;intro w6 Dz EY GU;have H7:=zh (zA Dz (zA EY GU));clear Dz EY GU)
 go_frame
 obtain ⟨it,DN⟩:=zE w4.heap.size;rw [<- DN] at H7 ⊢
 have Lm:=zh (show w.heap.size<=it/\L0<=it/\it≠xb/\it≠yb/\w4.heap.size<=it by
  have h1:=H4.2.2.2.2.1.size;have h2:=H4.2.2.2.2.2;have h3:=MY.o;have h4:=G0.2.1;omega)
 clear DN
 have Ev:Hd (nI L0 xb yb it N B w4 Dx Dy w6):=zh (by
  have c6:zv [] w4 w6:=(zv.refl [] w4).grown H7.2.1 (fun k hk=>by cases hk)
  have hl:∀ n,n<N->(fx n).isSome=Dx n:=fun n hn=>by
   cases e:Dx n with
   | false=>rw [(H4.2.1 n hn).1 e];rfl
   | true=>obtain ⟨v,d,e1,_⟩:=(H4.2.1 n hn).2 e;rw [e1];rfl
  refine ⟨fun n=>(fx n).isSome,fx,fy,H7.1,H4.2.2.1.chg c6,Ql.congr H4.2.1 fun n hn=>?_,Ql.congr H4.2.2.2.1 fun n hn=>?_,c6.mo,fun n hn h=>?_⟩
  ·show (Dx n && !(Dy n && !(fx n).isSome))=Dx n
   rw [hl n hn];cases Dx n <;> cases Dy n <;> rfl
  ·show (Dy n && !(Dx n && !(fx n).isSome))=Dy n
   rw [hl n hn];cases Dx n <;> cases Dy n <;> rfl
  ·rw [<- hl n hn];exact h)
 have C6:=zh (zA H4.2.2.2.2.1 H4.2.2.2.2.2);clear H7 H4
 go_loopw [12] (fun _ wr=>Hd (nI L0 xb yb it N B w4 Dx Dy wr)) (fun _ wr=>wr.rangeLeft xb it)
 case atStart=>exact Ev
 case round =>
  clear Ev;obtain ⟨left,fx,fy,Dz,WV,Sx,WQ,Dv,hlD⟩:=hrel.o;have HR:=zh (zA WV (zA Sx (zA WQ (zA Dv hlD))));clear WV Sx WQ Dv hlD;go_upto_region 12 with (refine VC rfl _ rfl Tryz.underlying3 Dz rfl ?_ ?_)
  ·intro Dt
   have N9:YK L0 wr xb B N (fun n=>Dx n && !Dy n)/\YK L0 wr yb B N (fun n=>Dy n && !Dx n)/\zv [] w wr:=by
    have Dg:=Lm.2.1;have SF:=Dz.lt.2;have h3:=MY.o;have h4:=G0.2.1
    have hq:∀ q,q∈[xb,yb]->q<L0∨w4.heap.size<=q:=fun q hq=>by
     simp only [ya,yk,or_false] at hq;rcases hq with rfl | rfl <;> exact .inl zo
    refine ⟨⟨⟨fx,Dz.kmap,Ql.congr (Ql.chg HR.2.1 HR.2.2.2.1 hq) fun n hn=>?_⟩,zo,zo⟩,⟨⟨fy,HR.1,Ql.congr (Ql.chg HR.2.2.1 HR.2.2.2.1 hq) fun n hn=>?_⟩,zo,zo⟩,C6.1.then HR.2.2.2.1 fun q hq=>?_⟩
    rotate_left 2
    ·simp only [ya,yk,or_false] at hq
     have:=G0.1;rcases hq with rfl | rfl <;> exact .inr zo
    ·show (Dx n && !Dy n)=(Dx n && !(Dy n && !left n))
     rw [Dt n hn];cases Dx n <;> cases Dy n <;> rfl
    ·show (Dy n && !Dx n)=(Dy n && !(Dx n && !left n))
     rw [Dt n hn];cases Dx n <;> cases Dy n <;> rfl
   have HM:=zh N9;clear Dt N9 HR Dz hrel;clear left fx fy;have hmk3:=run_makeMap (P:=Tryz.prog) 113 wr;have c5:=(zv.refl [] wr).alloc (.map #[] 0);have H5:=zh (zA (qE.made (P:=Tryz.prog) (kt:=23) (good:=JD) wr) (zA (HM.1.chg c5) (zA (HM.2.1.chg c5) (zA (HM.2.2.trans c5) HM.2.2.size))));clear c5 HM;go_upto_region 18 with fail;clear hmk3;generalize wr.alloc (.map #[] 0)=W5 at H5 ⊢;obtain ⟨db,Na⟩:=zE wr.heap.size;rw [<- Na] at H5 ⊢;clear Na;have CA:=zh (cH H5.2.1 hN.2 (H.one.uniq H.gr (fun n hn=>by rw [<- HD.1];simp only [Bool.and_eq_true] at hn;exact hn.1.1)) H.gr.keys64);go_wp2_with fail;refine CA.mono ?_;clear CA;rintro e w8 ⟨ab,rfl,Cq,hoa,c8⟩;have CC:=zh (cH (H5.2.2.1.chg c8) hN.2 (H.two.uniq H.gr (fun n hn=>by rw [<- HD.2];simp only [Bool.and_eq_true] at hn;exact hn.1.1)) H.gr.keys64);have H8:=zh (zA Cq (zA hoa c8));clear Cq hoa c8;go_wp2_with fail;refine CC.mono ?_;clear CC;rintro e w9 ⟨cb,rfl,Cn,hoc,c9⟩;obtain ⟨fa,PO,ha2⟩:=(H8.2.1.chg c9).map;obtain ⟨fc,B5,BW⟩:=hoc.map
   have hfa:∀ k v,fa k=some v↔qV B (Ys B ht x y) k v:=fun k v=>(ha2 k v).trans (qV.congr fun n=>by
    have e1:=congrFun HD.1 n;have e2:=congrFun HD.2 n;have e3:=H.gr.nodesB_lt H.low (R:=[x]) n;rw [e1,e2];unfold Ys;rw [<- e3];cases nodesB B ht [x] n <;> cases nodesB B ht [y] n <;> cases decide (n<N) <;> rfl)
   have hfc:∀ k v,fc k=some v↔qV B (Ys B ht y x) k v:=fun k v=>(BW k v).trans (qV.congr fun n=>by
    have e1:=congrFun HD.1 n;have e2:=congrFun HD.2 n;have e3:=H.gr.nodesB_lt H.low (R:=[y]) n;rw [e1,e2];unfold Ys;rw [<- e3];cases nodesB B ht [x] n <;> cases nodesB B ht [y] n <;> cases decide (n<N) <;> rfl)
   have Pl:=H8.2.2.size;have hsz5:=H8.1;have hdlt:=H5.1.lt;have H9:=zh (zA PO (zA B5 (zA (H5.1.chg (H8.2.2.trans c9)) (zA ((H5.2.2.2.1.trans H8.2.2).trans c9) (show db<ab/\ab<cb/\w.heap.size<=db from ⟨zo,by have:=H8.2.1.map;obtain ⟨f,h,_⟩:=this;have:=h.lt;omega,H5.2.2.2.2⟩)))));have MU:=zh (zA hfa hfc);clear PO ha2 B5 BW hoc Cn c9 Pl hsz5 hdlt hfa hfc H8 H5;go_wp2_with (refine JC rfl _ rfl Tryz.underlying23 Tryz.underlying114 H9.1 rfl ?_;intro LR Dz LG EY GU;have Uj:=zh (zA Dz (zA LG (zA EY GU)));clear Dz LG EY GU)
   go_frame
   obtain ⟨GX,K7⟩:=zE w9.heap.size;rw [<- K7] at Uj ⊢
   have Us:=zh (show w.heap.size<=GX/\ab<GX/\cb<GX/\db<GX by
    have h1:=H9.1.lt;have h2:=H9.2.1.lt;have h3:=H9.2.2.1.lt;have h4:=H9.2.2.2.1.size;omega)
   clear K7
   have Ev:Hd (nJ ab cb db GX w fa fc LR):=zh (by
    have c6:zv [] w9 LR:=(zv.refl [] w9).grown Uj.2.2.1 (fun k hk=>by cases hk);refine ⟨_,_,0,Uj.1,H9.2.1.chg c6,H9.2.2.1.chg c6,by have:=Uj.2.1;omega,fun k=>?_,H9.2.2.2.1.trans c6⟩;rw [nH];constructor
    ·intro h;cases h
    ·rintro ⟨h1,h2,_⟩
     rw [h1] at h2;cases h2)
   have DU:=zh (zA H9.2.2.2.2 H9.2.2.2.1.size);clear Uj H9;obtain ⟨w0r,rfl⟩:=zE wr
   go_loopw [18] (fun _ wr=>Hd (nJ ab cb db GX w fa fc wr)) (fun _ wr=>wr.rangeLeft ab GX)
   case atStart=>exact Ev
   case round =>
    clear Ev;obtain ⟨left,fd,m,Dz,B5,D6,hm,hfd,Dv⟩:=hrel.o;have HR:=zh (zA B5 (zA D6 (zA hm (zA hfd Dv))));clear B5 D6 hm hfd Dv;go_upto_region 21 with (refine VI rfl _ rfl Tryz.underlying23 Dz rfl ?_ ?_)
    ·intro Dt
     have LT:=zh (zA Dz.kmap (zA HR.1 (zA HR.2.1 (zA (show m<=30000 by have:=HR.2.2.1;omega) (zA (fun k=>(HR.2.2.2.1 k).trans ⟨fun q=>⟨q.1,q.2.2⟩,fun q=>⟨q.1,Dt k,q.2⟩⟩:∀ k,(fd k).isSome=true↔(fa k).isSome=true/\fc k≠fa k) HR.2.2.2.2)))));clear Dt HR Dz hrel left;go_wp2_with (refine JC rfl _ rfl Tryz.underlying23 Tryz.underlying114 LT.2.1 rfl ?_;intro MR Dz LG EY GU;have Uk:=zh (zA Dz (zA LG (zA EY GU)));clear Dz LG EY GU)
     go_frame
     obtain ⟨Kq,hit3⟩:=zE wr.heap.size;rw [<- hit3] at Uk ⊢
     have HI3:=zh (show w.heap.size<=Kq/\ab<Kq/\cb<Kq/\db<Kq by
      have h1:=LT.1.lt;have h2:=LT.2.1.lt;have h3:=LT.2.2.1.lt;have h4:=LT.2.2.2.2.2.size;omega)
     clear hit3
     have Ev:Hd (aA ab cb db Kq w fa fc MR):=zh (by
      have c6:zv [] wr MR:=(zv.refl [] wr).grown Uk.2.2.1 (fun k hk=>by cases hk);refine ⟨_,_,m,Uk.1,LT.1.chg c6,LT.2.2.1.chg c6,by have:=Uk.2.1;have:=LT.2.2.2.1;omega,fun k=>?_,LT.2.2.2.2.2.trans c6⟩;rw [LT.2.2.2.2.1 k,nH];constructor
      ·intro h;exact .inl h
      ·rintro (h | ⟨_,h1,h2⟩)
       ·exact h
       ·rw [h1] at h2;cases h2)
     clear Uk LT;obtain ⟨w1r,rfl⟩:=zE wr;clear fd m
     go_loopw [22] (fun _ wr=>Hd (aA ab cb db Kq w fa fc wr)) (fun _ wr=>wr.rangeLeft cb Kq)
     case atStart=>exact Ev
     case round =>
      clear Ev;obtain ⟨left,fd,m,Dz,B5,D6,hm,hfd,Dv⟩:=hrel.o;have HR:=zh (zA B5 (zA D6 (zA hm (zA hfd Dv))));clear B5 D6 hm hfd Dv;go_upto_region 27 with (refine VI rfl _ rfl Tryz.underlying23 Dz rfl ?_ ?_)
      ·intro Dt
       have Gn:∀ k,(fd k).isSome=true↔YT a k≠YT b k:=fun k=>by
        rw [HR.2.2.2.1 k,<- H.one.differ H.two H.gr k]
        have nofa:fa k=none↔∀ v,¬ qV B (Ys B ht x y) k v:=by
         constructor
         ·intro h v hv
          have:=(MU.1 k v).2 hv;rw [h] at this;cases this
         ·intro h
          cases e:fa k with
          | none=>rfl
          | some v=>exact absurd ((MU.1 k v).1 e) (h v)
        constructor
        ·rintro (⟨h1,h2⟩ | ⟨h1,h2,_⟩)
         ·obtain ⟨v,hv⟩:=yR.1 h1
          refine .inl ⟨v,(MU.1 k v).1 hv,fun q=>h2 ?_⟩;rw [hv,(MU.2 k v).2 q]
         ·obtain ⟨v,hv⟩:=yR.1 h2
          exact .inr ⟨nofa.1 h1,v,(MU.2 k v).1 hv⟩
        ·rintro (⟨v,h1,h2⟩ | ⟨h1,v,h2⟩)
         ·have hv:=(MU.1 k v).2 h1
          refine .inl ⟨by rw [hv];rfl,fun q=>h2 ((MU.2 k v).1 (q.trans hv))⟩
         ·exact .inr ⟨nofa.2 h1,by rw [(MU.2 k v).2 h2];rfl,Dt k⟩
       have hm:=HR.2.2.1;have CS:=zh (ke hK HR.2.1 zo (hF.congr Gn));have CK:=zh ((callsIn_wide (n:=5)).1 (pO 5 (some db) wr));have HE:=zh (zA Gn (zA HR.2.2.2.2 (show m<=60000 by omega)));clear Gn hm HR Dz hrel Dt;go_wp2_with fail;refine CK.mono ?_;clear CK;rintro e w1 ⟨rfl,rfl⟩;go_wp2_with fail;refine CS.mono ?_;clear CS;rintro e w2 ⟨v,l,rfl,hpw,EK,B9,N7,hc⟩;have HF:=zh (show ZL a b l/\l.length<=60000/\VM w2 w.heap.size v l/\zv [] w w2 from ⟨⟨hpw,fun k=>(EK k).trans (HE.1 k)⟩,qh B9 HE.2.2,N7.up HE.2.1.size,HE.2.1.trans hc⟩)
       have WU:∃ p n c,v = .slice p n c:=by
        rcases N7 with ⟨_,h⟩ | ⟨_,g,c,h,_⟩
        ·exact ⟨_,_,_,h⟩
        ·exact ⟨_,_,_,h⟩
       obtain ⟨p,n,c,rfl⟩:=WU;clear hpw EK B9 N7 hc;go_wp2_with fail
       go_ret2
       exact ⟨_,l,rfl,HF⟩
      ·intro k v w1 hk LE Co Eg Di BY Fu Gd Mj
       have c1:zv [Kq] wr w1:=(zv.refl [Kq] wr).grown Fu (fun q hq=>by cases hq;exact .inl zaa);have hi:=HI3.o;have BW:=HR.1.chg c1 zad;have EJ:=HR.2.1.chg c1 zad;have Db:=(BW.look Tryz.underlying23 Tryz.underlying114 (Tryz.zeroValue23 w1) rfl hk).1;obtain ⟨vc,IG,rfl⟩:=fF LE;have Ey:zv [] w w1:=HR.2.2.2.2.tn c1 hi.1;have EE:=HR.2.2.1
       cases hf:fa k with
       | none =>
        have K6:fd k=none:=by
         cases e:fd k with
         | none=>rfl
         | some u =>
          rcases (HR.2.2.2.1 k).1 (by rw [e];rfl) with ⟨h,_⟩ | ⟨_,_,h⟩
          ·rw [hf] at h;cases h
          ·rw [Co] at h;cases h
        have Kf:=(EJ.look Tryz.underlying23 Tryz.underlying113 (Tryz.zeroValue3 w1) rfl hk).2;rw [K6] at Kf;have Ra:(Instr.lookup 113 (.map (some db)) (.int .u64 (k:Int)) false).run Tryz.prog w1 = .ok (.int .i64 0) w1:=Kf;obtain ⟨w8,MH,WM,Rn⟩:=EJ.put Tryz.underlying23 Tryz.underlying113 (v := .int .i64 1) hk zo rfl;have c8:=xD Rn;have Cq:=Di.lt;have Mv:=DU.1
        have HP:Hd (aA ab cb db Kq w fa fc w8/\w8.rangeLeft cb Kq<wr.rangeLeft cb Kq):=zh (by
         have SY:=Di.left_eq (w':=w8) (fun q hq=>by rcases hq with rfl | rfl;exact c8.block _ Cq.1 zad;exact c8.block _ Cq.2 zad);refine ⟨⟨_,_,m+1,Di.chg c8 zad zad,BW.chg c8 zad,WM,zo,fun j=>?_,Ey.tn c8 Mv.2.2⟩,by rw [SY];exact BY⟩;by_cases e:j=k
         ·subst e
          simp [hf,IG]
         ·simp only [e,if_false,HR.2.2.2.1 j]
          simp [e])
        have e0:XF fa k=none:=by unfold XF;rw [hf];rfl
        rw [e0] at Db;have hl':(Instr.lookup 114 (.map (some ab)) (.int .u64 (k:Int)) true).run Tryz.prog w1 = .ok (.tuple #[.int .u64 0,.bool false]) w1:=Db;clear LE Co Eg Di BY Fu Gd c1 hi BW EJ K6 Kf WM Rn c8 Cq Ey Mv EE HR Dz hrel Db e0 hf IG;go_wp2_with fail
        go_roundw
        case rel=>exact zh HP.1
        case measure=>exact HP.2
       | some u =>
        have HS:Hd (aA ab cb db Kq w fa fc w1/\w1.rangeLeft cb Kq<wr.rangeLeft cb Kq):=zh (by
         refine ⟨⟨_,_,m,Di,BW,EJ,zo,fun j=>?_,Ey⟩,BY⟩;rw [HR.2.2.2.1 j];by_cases e:j=k
         ·subst e
          simp [hf]
         ·simp [e])
        have e0:XF fa k=some (.int .u64 (u:Int)):=by unfold XF;rw [hf];rfl
        rw [e0] at Db;have hl':(Instr.lookup 114 (.map (some ab)) (.int .u64 (k:Int)) true).run Tryz.prog w1 = .ok (.tuple #[.int .u64 (u:Int),.bool true]) w1:=Db;clear LE Co Eg Di BY Fu Gd c1 hi BW EJ Ey EE HR Dz hrel Db e0 hf IG;go_wp2_with fail
        go_roundw
        case rel=>exact zh HS.1
        case measure=>exact HS.2
    ·intro k v w1 hk LE Co Eg Di BY Fu Gd Mj
     obtain ⟨va,Rq,rfl⟩:=fF LE;have c1:zv [GX] wr w1:=(zv.refl [GX] wr).grown Fu (fun q hq=>by cases hq;exact .inl zaa);have hi:=Us.o;have BW:=HR.1.chg c1 zad;have EJ:=HR.2.1.chg c1 zad;have Db:=(BW.look Tryz.underlying23 Tryz.underlying114 (Tryz.zeroValue23 w1) rfl hk).1
     have K6:fd k=none:=by
      cases e:fd k with
      | none=>rfl
      | some u =>
       have:=((HR.2.2.2.1 k).1 (by rw [e];rfl)).2.1;rw [Co] at this;cases this
     have Kf:=(EJ.look Tryz.underlying23 Tryz.underlying113 (Tryz.zeroValue3 w1) rfl hk).2;rw [K6] at Kf;have Ra:(Instr.lookup 113 (.map (some db)) (.int .u64 (k:Int)) false).run Tryz.prog w1 = .ok (.int .i64 0) w1:=Kf;have EE:=HR.2.2.1;obtain ⟨w8,MH,WM,Rn⟩:=EJ.put Tryz.underlying23 Tryz.underlying113 (v := .int .i64 1) hk zo rfl;have c8:=xD Rn;have Cq:=Di.lt;have Ey:zv [] w w1:=HR.2.2.2.2.tn c1 hi.1;have Mv:=DU.1
     have HP:Hd (fc k≠fa k->nJ ab cb db GX w fa fc w8/\w8.rangeLeft ab GX<wr.rangeLeft ab GX):=zh (fun BU=>by
      have SY:=Di.left_eq (w':=w8) (fun q hq=>by rcases hq with rfl | rfl;exact c8.block _ Cq.1 zad;exact c8.block _ Cq.2 zad);refine ⟨⟨_,_,m+1,Di.chg c8 zad zad,BW.chg c8 zad,WM,zo,fun j=>?_,Ey.tn c8 Mv.2.2⟩,by rw [SY];exact BY⟩;by_cases e:j=k
      ·subst e
       simp [Rq,BU];rw [Rq] at BU;exact BU
      ·simp only [e,if_false,HR.2.2.2.1 j]
       simp [e])
     have HS:Hd (fc k=fa k->nJ ab cb db GX w fa fc w1/\w1.rangeLeft ab GX<wr.rangeLeft ab GX):=zh (fun G8=>by
      refine ⟨⟨_,_,m,Di,BW,EJ,zo,fun j=>?_,Ey⟩,BY⟩;by_cases e:j=k
      ·subst e
       simp [K6,G8]
      ·simp only [HR.2.2.2.1 j]
       simp [e])
     clear LE Co Eg Di BY Fu Gd c1 hi BW EJ K6 Kf WM Rn c8 Cq Ey Mv EE HR Dz hrel
     cases hf:fc k with
     | none =>
      have e0:XF fc k=none:=by unfold XF;rw [hf];rfl
      rw [e0] at Db;have hl':(Instr.lookup 114 (.map (some cb)) (.int .u64 (k:Int)) true).run Tryz.prog w1 = .ok (.tuple #[.int .u64 0,.bool false]) w1:=Db;have HE:=zh (HP (by rw [hf,Rq];simp));clear Db e0 hf HP HS Rq;go_wp2_with fail
      go_roundw
      case rel=>exact zh HE.1
      case measure=>exact HE.2
     | some u =>
      have e0:XF fc k=some (.int .u64 (u:Int)):=by unfold XF;rw [hf];rfl
      rw [e0] at Db;have hl':(Instr.lookup 114 (.map (some cb)) (.int .u64 (k:Int)) true).run Tryz.prog w1 = .ok (.tuple #[.int .u64 (u:Int),.bool true]) w1:=Db;by_cases hq:u=va
      ·have HE:=zh (HS (by rw [hf,Rq,hq]))
       have q0:((u:Int)==(va:Int))=true:=by rw [hq];exact beq_self_eq_true _
       clear Db e0 hf HP HS Rq hq MH Ra;go_wp2_with fail
       go_roundw
       case rel=>exact zh HE.1
       case measure=>exact HE.2
      ·have HE:=zh (HP (by rw [hf,Rq];simpa using hq))
       have q0:((u:Int)==(va:Int))=false:=by rw [yD];omega
       clear Db e0 hf HP HS Rq hq;go_wp2_with fail
       go_roundw
       case rel=>exact zh HE.1
       case measure=>exact HE.2
  ·intro k v w1 hk LE Co Eg Di BY Fu Gd Mj
   have c1:zv [it] wr w1:=(zv.refl [it] wr).grown Fu (fun q hq=>by cases hq;exact .inl zaa);have hy1:=HR.1.chg c1 (by simp only [zms];exact fun e=>Lm.2.2.2.1 e.symm);have M4:=HR.2.2.2.2 k hk Co;have Db:=(hy1.look Tryz.underlying3 Tryz.underlying100 (Tryz.zeroValue42 w1) rfl hk hN.2).1;have NY:zv [xb,yb] w4 w1:=HR.2.2.2.1.tn c1 Lm.2.2.2.2
   cases hD:Dy k with
   | true =>
    obtain ⟨v2,d,e1,e2,e3,kb,vb,e4,-⟩:=(HR.2.2.1 k hk).2 (by show (Dy k && !(Dx k && !left k))=true;rw [hD,Co];simp);rw [e1,e4] at Db;have hl':(Instr.lookup 100 (.map (some yb)) (.int .i64 (k:Int)) true).run Tryz.prog w1 = .ok (.tuple #[.agg #[.bool d.leaf,zS kb d.n d.n,zS vb d.n d.n],.bool true]) w1:=Db;have ca:=(zv.refl [] w1).alloc (.cells #[.bool d.leaf,zS kb d.n d.n,zS vb d.n d.n] 42);have Cy:=Di.chg ca;have hy2:=hy1.chg ca;have MK:=KR.left_eq Di (ca.block xb Di.lt.1 zaa) (ca.block it Di.lt.2 zaa);have H2:=zh (zA Cy (zA hy2 (zA (NY.trans (ca.mo)) (zA MK (zA BY (zA Co (zA M4 hD)))))));clear Db e1 e2 e3 e4 ca Cy hy2 MK BY Co M4 hD NY hy1 c1 LE Eg Di Fu Gd Dz hrel;go_upto_region 14 with fail;clear Mj hl';generalize w1.alloc (.cells #[.bool d.leaf,zS kb d.n d.n,zS vb d.n d.n] 42)=W2 at H2 ⊢;obtain ⟨w7,hr7,hk7,ht7,hle7⟩:=H2.1.del Tryz.underlying3 Tryz.underlying100 hk hN.2 zaa 0;have c7:=xD ht7;obtain ⟨w8,hr8,hm8,Rn⟩:=(H2.2.1.chg c7 (by simp only [zms];exact fun e=>G0.2.2 e.symm)).del Tryz.underlying3 Tryz.underlying100 hk hN.2 0;have c8:=xD Rn
    have HE:Hd (nI L0 xb yb it N B w4 Dx Dy w8/\w8.rangeLeft xb it<wr.rangeLeft xb it):=zh (by
     have hx8:xb∉[yb]:=by simp only [zms];exact G0.2.2
     have hi8:it∉[yb]:=by simp only [zms];exact Lm.2.2.2.1
     refine ⟨⟨_,_,_,hk7.chg c8 hx8 hi8,hm8,HR.2.1.drop (k:=k) fun n=>?_,HR.2.2.1.drop (k:=k) fun n=>?_,(H2.2.2.1.trans (c7.mo)).trans (c8.mo),fun n hn h=>HR.2.2.2.2 n hn (by rw [Bool.and_eq_true] at h;exact h.1)⟩,?_⟩
     ·by_cases e:n=k
      ·subst e
       simp [H2.2.2.2.2.2.2.2]
      ·simp [e]
     ·by_cases e:n=k
      ·subst e
       simp [H2.2.2.2.2.2.2.1]
      ·simp [e]
     ·have h1:=KR.left_eq hk7 (c8.block xb hk7.lt.1 hx8) (c8.block it hk7.lt.2 hi8)
      have h2:=H2.2.2.2.1;have h3:=H2.2.2.2.2.1;omega)
    clear hk7 ht7 hle7 c7 hm8 Rn c8 H2 HR;go_wp2_with fail
    go_roundw
    case rel=>exact zh HE.1
    case measure=>exact HE.2
   | false =>
    have e1:=(HR.2.2.1 k hk).1 (by show (Dy k && !(Dx k && !left k))=false;rw [hD];rfl);rw [e1] at Db;have hl':(Instr.lookup 100 (.map (some yb)) (.int .i64 (k:Int)) true).run Tryz.prog w1 = .ok (.tuple #[.agg #[.bool false,.slice none 0 0,.slice none 0 0],.bool false]) w1:=Db;have ca:=(zv.refl [] w1).alloc (.cells #[.bool false,.slice none 0 0,.slice none 0 0] 42);have MK:=KR.left_eq Di (ca.block xb Di.lt.1 zaa) (ca.block it Di.lt.2 zaa)
    have HE:Hd (nI L0 xb yb it N B w4 Dx Dy (w1.alloc (.cells #[.bool false,.slice none 0 0,.slice none 0 0] 42))/\(w1.alloc (.cells #[.bool false,.slice none 0 0,.slice none 0 0] 42)).rangeLeft xb it<wr.rangeLeft xb it):=zh (by
     refine ⟨⟨_,_,_,Di.chg ca,hy1.chg ca,Ql.congr HR.2.1 fun n hn=>?_,Ql.congr HR.2.2.1 fun n hn=>?_,NY.trans (ca.mo),fun n hn h=>HR.2.2.2.2 n hn (by rw [Bool.and_eq_true] at h;exact h.1)⟩,by rw [MK];exact BY⟩
     ·by_cases e:n=k
      ·subst e
       simp [hD]
      ·simp [e]
     ·by_cases e:n=k
      ·subst e
       simp [hD]
      ·simp [e])
    clear Db e1 ca MK BY Co M4 hD NY hy1 c1 LE Eg Di Fu Gd Dz hrel HR;go_upto_region 14 with fail;clear Mj hl';generalize w1.alloc (.cells #[.bool false,.slice none 0 0,.slice none 0 0] 42)=W2 at HE ⊢;go_wp2_with fail
    go_roundw
    case rel=>exact zh HE.1
    case measure=>exact HE.2
end Go.Proofs.YtegpiomkmfhadaaGreat
namespace Go.Proofs.YtegpiomkmfhadaaGreat
open Go.RowKit
def Qm (w:World) (M:Bm) (F:List Nat) (N G:Nat) (B:Bs) (ht:Ht) (BR:zF) (x Cb key:Nat) (items:zL) (e:Ending) (w':World):Prop :=
 (B.room<((2*Cb+2:Nat):Int)/\e = .returned (.tuple #[.int .i64 0,.int .u64 0,.int .i64 90])/\zv [] w w') ∨
 (((2*Cb+2:Nat):Int)<=B.room/\(∀ v,(key,v)∉items)/\e = .returned (.tuple #[.int .i64 0,.int .u64 0,.int .i64 121])/\zv [] w w') ∨
 (((2*Cb+2:Nat):Int)<=B.room/\∃ (z v:Nat) (B':Bs) (B6:Ht) (Cw:Nat),e = .returned (.tuple #[.int .i64 (z:Int),.int .u64 (v:Int),.int .i64 0])/\zx w' M F B'/\AK N G B ht BR x Cb key items z v B' B6 Cw/\zv M.L w w')
theorem pQ {w:World} {M:Bm} {F:List Nat} {B:Bs} {N G:Nat} {ht:Ht} {BR:zF} {x Cb key:Nat} {items:zL} (hb:zx w M F B) (hF:∀ q,q∈F->q<w.heap.size) (g:Gr N G B ht BR) (hM:N<=4096) (hm:∀ b,BR b<=20000) (t:Xl B ht x Cb items) (hp:x≠0->1<=BR x) (hk:key<18446744073709551616) :
  zC 27 #[zP M.b,.int .i64 (x:Int),.int .u64 (key:Int)] w (Qm w M F N G B ht BR x Cb key items):=by
 have ok:=g.good.ok
 have Eh:x<4096:=by
  rcases t with ⟨rfl,rfl,rfl⟩ | ⟨h,rfl,h7,t⟩
  ·omega
  ·have:=(g.lt t.top).1;omega
 have hxw:(Lit.int .i64 (x:Int)).wf=true:=by
  have h1:IntKind.i64.min = -9223372036854775808:=zaf;simp [Lit.wf,h1];omega
 have cm:=tH hb g hM (fun b=>by have:=hm b;omega) t hk;have cg:=fun w' (c:zv [] w w')=>mW (hb.chg c) (x:Int) hxw key hk;have hg:=t.get ok key;have HH:=zh (zA hb (zA hF (zA g (zA hm (zA t hp)))));have D3:=zh ok;have CG:=zh cg;obtain ⟨E,hE⟩:=zE (vQ B.room Cb);rw [<- hE] at cm;have HE:=zh hE;clear hb hF g hm t hp ok cg hE;go_enter Tryz.func27,Tryz.ntmps27;go_wp2_with fail;refine cm.mono ?_;clear cm;rintro e w1 ⟨rfl,c1⟩;by_cases BY:B.room<((2*Cb+2:Nat):Int)
 ·obtain rfl:E=90:=HE.trans (if_pos BY)
  have HC:=zh (zA BY c1);clear BY c1;go_wp2_with fail
  go_ret3
  unfold Qm;exact .inl ⟨HC.1,rfl,HC.2⟩
 obtain rfl:E=0:=HE.trans (if_neg BY);have DU:=zh BY;have cg:=CG w1 c1;rcases hg with ⟨u,hu,he⟩ | ⟨hno,he⟩
 ·rw [he] at cg
  have HU:=zh hu;have Ce:=zh c1;clear he BY hu c1;go_wp2_with fail;refine cg.mono ?_;clear cg;rintro e w2 ⟨rfl,c2⟩;have BZ:=zh (Ce.trans c2);have Cv:=xo w2 (.cells #[zP M.b,.int .u64 (key:Int),.int .u64 0,.int .u64 0,.bool false,.int .i64 0] 142);clear c2;go_upto_region 8 with fail
  obtain ⟨h,hh,h7,t1⟩:∃ h,Cb=h+1/\h<7/\A9 B ht x h items:=by
   rcases HH.2.2.2.2.1 with ⟨-,-,e⟩ | q
   ·have:=HU.o;rw [e] at this;simp at this
   ·exact q
  subst hh;have Ly:=(zv.refl [] w2).alloc (.cells #[zP M.b,.int .u64 (key:Int),.int .u64 0,.int .u64 0,.bool false,.int .i64 0] 142);have Kx:=((HH.1.chg BZ).new (xd _)).chg Ly;have Dg:w.heap.size<=w2.heap.size:=BZ.size
  have hFA:∀ q,q∈w2.heap.size::F->q<(w2.alloc (.cells #[zP M.b,.int .u64 (key:Int),.int .u64 0,.int .u64 0,.bool false,.int .i64 0] 142)).heap.size:=fun q hq=>by
   rcases ya.1 hq with rfl | hq
   ·exact zz Cv
   ·exact qe (HH.2.1 q hq) (qh Dg Ly.size)
  have H3:=zh (zA Kx (zA hFA (zA (BZ.trans Ly) Cv)));clear Kx hFA Ly Cv Ce;generalize w2.alloc (.cells #[zP M.b,.int .u64 (key:Int),.int .u64 0,.int .u64 0,.bool false,.int .i64 0] 142)=W at *;obtain ⟨p,hp⟩:=zE w2.heap.size;rw [<- hp] at H3 Dg ⊢;clear hp;have Nj:1<=BR x:=HH.2.2.2.2.2 (fun e=>by have:=HH.2.2.1.two (HH.2.2.1.lt t1.top).2 (HH.2.2.1.lt t1.top).1;omega);have ct:=jN h (l:=0) (old:=0) (val:=0) (was:=false) H3.1 H3.2.1 zaa H3.2.2.2 HH.2.2.1 hM (fun b=>by have:=HH.2.2.2.1 b;omega) t1.top zo Nj t1.right (fun e=>by rw [if_neg e];exact xd _) ⟨u,by rw [t1.all];exact HU⟩ hk (zq DU.o);have HT:=zh t1;have CT:=zh ct;clear ct t1 Nj;go_wp2_with fail;refine CT.mono ?_;clear CT;rintro e w4 ⟨y,m,rfl,v,B',B6,Ex,T,Dl,Fe,Cd⟩;obtain ⟨x0,x1,x2,x3,x4,x5⟩:=Fe.cells;obtain ⟨d',hd',Nb⟩:=T.node;have Np:y<4096:=zq (T.gr.lt T.top)
  have cn:=Yp Ex hd';have HDN:=zh Nb;clear Nb;have H4:=zh (zA Ex (zA T (zA Dl (zA Fe (zA Cd hd')))));have CN:=zh cn;clear cn Ex T Dl Fe Cd hd';go_wp2_with fail;refine CN.mono ?_;clear CN;rintro e w5 ⟨kx,vx,rfl,k1,k2,rk,rv,c5⟩;have Cv:=xo w5 (.cells #[.bool d'.leaf,zS kx d'.n d'.n,zS vx d'.n d'.n] 42);have Cn:=(zv.refl [] w5).alloc (.cells #[.bool d'.leaf,zS kx d'.n d'.n,zS vx d'.n d'.n] 42);have c6:=c5.trans Cn;have EY:=H4.2.2.2.1.chg c6;have FD:=(H4.1.chg c6).sub (F':=F) (fun q hq=>by simp [hq])
  have Dv:zv M.L w _:=(H3.2.2.1.mo:zv M.L w W).then (H4.2.2.2.2.1.trans (c6.mo)) (fun q hq=>by
   rcases ya.1 hq with rfl | hq
   ·exact .inr Dg
   ·exact .inl hq)
  have hpM:p∉M.L:=H4.1.notL zaa;have H6:=zh (zA FD (zA EY (zA (rv.chg Cn) (zA Dv (zA Cv hpM)))));clear x0 x1 x2 x3 x4 x5;obtain ⟨x0,x1,x2,x3,x4,x5⟩:=EY.cells;obtain ⟨z0,z1,z2⟩:=Za Cv;have FE:=zz Cv;have hvL:vx∉M.L:=fun hm=>absurd (H4.1.ltL hm) zo;have Wp:w5.heap.size∉M.L:=fun hm=>absurd (H4.1.ltL hm) (zq c5.size);clear Cv Cn c6 EY FD Dv c5 k1 k2 rk rv;go_upto_region 12 with fail;generalize w5.alloc (.cells #[.bool d'.leaf,zS kx d'.n d'.n,zS vx d'.n d'.n] 42)=W6 at *;obtain ⟨bx,Cx⟩:=zE w5.heap.size;rw [<- Cx] at H6 z0 z1 z2 FE Wp ⊢;clear Cx;have h0x:(0:Int)<=(m:Int):=zo
  have hF6:∀ X,zv [] W6 X->∀ q,q∈F->q<X.heap.size:=fun X c q hq=>qe (HH.2.1 q hq) (qh H6.2.2.2.1.size c.size);have cd:=fun X (c:zv [] W6 X)=>QN (H6.1.chg c) (hF6 X c) (y:Int);by_cases KB:m=0
  ·subst KB
   obtain ⟨e1,h2,R⟩:=H4.2.1.root0 h7 H4.2.2.1 HT.all;rw [e1] at cd;have CD:=zh cd;have HR:=zh R;clear cd e1 R hF6 z0 z1 z2;go_upto_region 15 with fail;refine wp_region_held_drew (S:=fun W'=>W'.cell? ⟨p,3,none⟩=some (.int .u64 (v:Int))) zab (by exact x3) fun BS=>?_;refine Xy 0 ?_;refine Xy 1 ?_;refine Xy 2 ?_;refine Xy 3 ?_;refine Xy 4 ?_;refine Xy 5 ?_;refine zu ?_
   refine wE 6 (fun K hK=>?_)
   (go_simp;refine (CD _ (zv.refl [] W6).drew).mono ?_;rintro e w7 ⟨rfl,FQ,E9⟩;have q3:=E9.cell (p:=⟨p,3,none⟩) (yc _ _ x3) hpM;have H7:=zh (zA FQ (((zv.refl [] W6).drew.mo:zv M.L W6 _).trans E9));clear FQ E9)
   refine hK.out _ _ (q3.trans x3) fun BS=>?_;clear hK K;refine zu ?_;refine Xy 7 ?_;refine Xy 8 ?_;refine Xy 9 ?_;refine zu ?_;refine wpAnyH_done zab ?_ _;have H8:=zh (H6.2.2.2.1.trans H7.2);clear x0 x1 x2 x3 x4 x5;go_wp2_with fail
   go_ret3
   unfold Qm;exact .inr (.inr ⟨DU.o,0,v,_,_,h2,rfl,H7.1,HR.o,H8⟩)
  ·have hm0':¬ (m:Int)=0:=zo
   obtain ⟨d2,EJ,-,vr,-⟩:=VR.of H4.2.1.gr.good.ok (H4.2.1.right m (xd _));obtain rfl:d'=d2:=yj (H4.2.2.2.2.2.symm.trans EJ);have hlf:d'.leaf=decide (h=0):=vr.leaf;clear EJ vr;by_cases Gs:m=1/\h≠0
   ·obtain ⟨EE,BU⟩:=Gs
    obtain ⟨c,hc⟩:∃ c,h=c+1:=⟨h - 1,zo⟩;subst hc;subst EE;obtain ⟨e1,hvN,h2,R⟩:=H4.2.1.root1 h7 HT.all H4.2.2.2.2.2;rw [e1] at cd;have Rs:=H6.2.2.1.cell (i:=0) (zq HDN.o);obtain ⟨z,hz⟩:=zE (d'.v 0);rw [<- hz] at Rs hvN R;have CD:=zh cd;have HR:=zh R;rw [hlf,yC zo] at z0;have i0:0<d'.n:=zq HDN.o
    have ez:IntKind.i64.wrap (z:Int)=(z:Int):=yv _ zo;clear cd e1 R hF6 hlf hz KB hm0' BU;go_upto_region 17 with fail;refine wp_region_held_drew (S:=fun W'=>W'.cell? ⟨p,3,none⟩=some (.int .u64 (v:Int))/\W'.cell? ⟨bx,2,none⟩=some (zS vx d'.n d'.n)/\W'.cell? ⟨vx,0,none⟩=some (.int .u64 (z:Int))) zab (by exact ⟨x3,z2,Rs⟩) fun BS=>?_;refine ZF 0 ?_;refine ZF 1 ?_;refine ZF 2 ?_;refine ZF 3 ?_;refine ZF 4 ?_;refine ZF 5 ?_;refine ZF 6 ?_;refine ZF 7 ?_;refine ZF 8 ?_;refine ZF 9 ?_;refine ZF 10 ?_;refine zu ?_
    refine wE 11 (fun K hK=>?_)
    (go_simp;refine (CD _ (zv.refl [] W6).drew).mono ?_;rintro e w7 ⟨rfl,FQ,E9⟩;have q3:=E9.cell (p:=⟨p,3,none⟩) (yc _ _ x3) hpM;have q4:=E9.cell (p:=⟨bx,2,none⟩) (yc _ _ z2) Wp;have q5:=E9.cell (p:=⟨vx,0,none⟩) (yc _ _ Rs) hvL;have H7:=zh (zA FQ (((zv.refl [] W6).drew.mo:zv M.L W6 _).trans E9));clear FQ E9)
    refine hK.out _ _ (⟨q3.trans x3,q4.trans z2,q5.trans Rs⟩) fun BS=>?_;clear hK K;refine zu ?_;refine ZF 12 ?_;refine ZF 13 ?_;refine ZF 14 ?_;refine zu ?_;refine wpAnyH_done zab ?_ _;have H8:=zh (H6.2.2.2.1.trans H7.2);clear x0 x1 x2 x3 x4 x5;go_wp2_with fail
    go_ret3
    unfold Qm;exact .inr (.inr ⟨DU.o,z,v,_,_,h2,rfl,H7.1,HR.o,H8⟩)
   ·have GD:(if h=0 then 1 else 2)<=m:=by
     split
     ·omega
     ·rename_i q
      have:¬ m=1:=fun e=>Gs ⟨e,q⟩;omega
    have R:=zh (H4.2.1.root h7 GD HT.all);clear cd hF6 GD;have HY:Hd (∀ X,zv [] W6 X->zx X M F B'/\zv M.L w X):=zh fun X c=>⟨H6.1.chg c,H6.2.2.2.1.trans (c.mo)⟩;by_cases EE:m=1
    ·have h0:h=0:=Classical.byContradiction fun q=>Gs ⟨EE,q⟩
     have i1:(m:Int)=1:=zo;rw [hlf,yq h0] at z0;clear hlf Gs EE h0;go_wp2_with fail
     go_quiet (fail)
     go_wp2_with fail
     go_ret3
     unfold Qm;exact .inr (.inr ⟨DU.o,y,v,_,_,_,rfl,(HY _ ((zv.refl [] W6).drewN _)).1,R.o,(HY _ ((zv.refl [] W6).drewN _)).2⟩)
    ·have i1:¬ (m:Int)=1:=zo
     clear hlf Gs EE;go_wp2_with fail
     go_quiet (fail)
     go_wp2_with fail
     go_ret3
     unfold Qm;exact .inr (.inr ⟨DU.o,y,v,_,_,_,rfl,(HY _ ((zv.refl [] W6).drewN _)).1,R.o,(HY _ ((zv.refl [] W6).drewN _)).2⟩)
 ·rw [he] at cg
  have HC:=zh (zA hno c1);clear hno he BY c1;go_wp2_with fail;refine cg.mono ?_;rintro e w2 ⟨rfl,c2⟩;have BZ:=zh (HC.2.trans c2);clear cg c2;go_wp2_with fail
  go_ret3
  unfold Qm;exact .inr (.inl ⟨DU.o,HC.1,rfl,BZ⟩)
end Go.Proofs.YtegpiomkmfhadaaGreat
