/- Layer 10: place.Right of a sheet that i -/
import Derived.Test.YtegpiomkmfhadaaGreatZo08
set_option linter.all false
set_option maxRecDepth 100000
set_option maxHeartbeats 20000000
namespace Go.Proofs.YtegpiomkmfhadaaGreat
open Go.RowKit
variable {k i j t bc bk x p:Nat} {n:zF} {T:zW} {w:World}
def Qp (S:Nat->Nat->Nat) (n:zF) (k:Nat):List Nat:=(List.range (n k)).map (S k)
theorem xF (S:Nat->Nat->Nat) (n:zF) (k:Nat):(Qp S n k).length=n k:=by simp [Qp]
theorem Y0 (S:Nat->Nat->Nat) (n:zF) (h:i<n k):(Qp S n k).getD i 0=S k i:=by
 simp [Qp,zgD,h]
def QH (n:zF) (j:Nat):Nat:=if j<n 0 then 0 else 1
def aS (n:zF) (j:Nat):Nat:=if j<n 0 then j else j - n 0
theorem mD (h:j<n 0+n 1):QH n j<2/\aS n j<n (QH n j):=by
 unfold QH aS
 split
 ·exact ⟨zo,zau⟩
 ·exact ⟨zo,zo⟩
theorem Af (h1:QH n i=QH n j) (h2:aS n i=aS n j):i=j:=by
 unfold QH at h1;unfold aS at h2;by_cases a:i<n 0 <;> by_cases b:j<n 0 <;> simp [a,b] at h1 h2 <;> omega
theorem Vf (S:Nat->Nat->Nat) (n:zF) (h:j<n 0+n 1):(Qp S n 0++Qp S n 1).getD j 0=S (QH n j) (aS n j):=by
 unfold QH aS;rw [zgD];by_cases hj:j<n 0
 ·rw [if_pos hj,if_pos hj,yI (by rw [xF];exact hj),<- zgD,Y0 _ _ hj]
 ·rw [if_neg hj,if_neg hj,yF (by rw [xF];omega),xF,<- zgD,Y0 _ _ zo]
structure gQ (w:World) (v0 v1:Value) (S:Nat->Nat->Nat) (n:zF) (g c:zF):Prop where
 e0:v0 = zS (g 0) (n 0) (c 0)
 e1:v1 = zS (g 1) (n 1) (c 1)
 l:∀ k,k<2->Y9 w (zS (g k) (n k) (c k)) (Qp S n k)
theorem gQ.chg {w w':World} {v0 v1:Value} {S:Nat->Nat->Nat} {n g c:zF} (h:gQ w v0 v1 S n g c) {L:List Nat} (hc:zv L w w') (h0:g 0∉L:=by simp) (h1:g 1∉L:=by simp):gQ w' v0 v1 S n g c :=
 ⟨h.e0,h.e1,fun k hk=>(h.l k hk).chg hc (fun b hb=>by
  have Cy:k=0∨k=1:=zo;rcases Cy with rfl | rfl
  ·have:g 0=b:=by simpa [Value.ownBlock] using hb
   rw [<- this];exact h0
  ·have:g 1=b:=by simpa [Value.ownBlock] using hb
   rw [<- this];exact h1)⟩
def XB (S:Nat->Nat->Nat) (n:zF) (j b:Nat):Option Nat :=
 if b≠0/\∃ i,i<j/\(Qp S n 0++Qp S n 1).getD i 0=b then some 1 else none
theorem rQ {S:Nat->Nat->Nat} (h:(Qp S n 0++Qp S n 1).getD j 0≠0) (b:Nat):XB S n (j+1) b=(if b=(Qp S n 0++Qp S n 1).getD j 0 then some 1 else XB S n j b):=by
 unfold XB;by_cases e:b=(Qp S n 0++Qp S n 1).getD j 0
 ·rw [if_pos e,if_pos ⟨by rw [e];exact h,j,zo,e.symm⟩]
 ·rw [if_neg e]
  congr 1;apply propext;constructor
  ·rintro ⟨h0,i,hi,he⟩
   have:i≠j:=fun q=>e (by rw [<- he,q]);exact ⟨h0,i,zo,he⟩
  ·rintro ⟨h0,i,hi,he⟩
   exact ⟨h0,i,zo,he⟩
theorem oq {S:Nat->Nat->Nat} (h:(Qp S n 0++Qp S n 1).getD j 0=0) (b:Nat):XB S n (j+1) b=XB S n j b:=by
 unfold XB;congr 1;apply propext;constructor
 ·rintro ⟨h0,i,hi,he⟩
  have:i≠j:=fun q=>h0 (by rw [<- he,q];exact h);exact ⟨h0,i,zo,he⟩
 ·rintro ⟨h0,i,hi,he⟩
  exact ⟨h0,i,zo,he⟩
theorem rR {S:Nat->Nat->Nat} (ho:JL T n S) (hj:j<n 0+n 1) (h:(Qp S n 0++Qp S n 1).getD j 0≠0):XB S n j ((Qp S n 0++Qp S n 1).getD j 0)=none:=by
 unfold XB;rw [if_neg];rintro ⟨_,i,hi,he⟩;rw [Vf S n hj] at h he;rw [Vf S n zo] at he;have ⟨a1,a2⟩:=mD hj;have ⟨b1,b2⟩:=mD (n:=n) (j:=i) zo;have ⟨e1,e2⟩:=ho.apart _ _ _ _ b1 b2 a1 a2 (by rw [he];exact h) he;have:=Af e1 e2;omega
theorem mE (w:World):(zeroValue 3).run Tryz.prog w = .ok (.int .i64 0) w:=by
 go_simp
theorem qP.chg {w':World} {b m:Nat} {f:Nat->Option Nat} {kt et:TypeId} (h:qP Tryz.prog kt et w b m f) {L:List Nat} (c:zv L w w') (hb:b∉L:=by simp):qP Tryz.prog kt et w' b m f:=h.same (c.block b h.lt hb)
theorem iB {v0 v1:Value} {S:Nat->Nat->Nat} {g c:zF} (h:zJ w t bc bk T) (hv:gQ w v0 v1 S n g c) (ho:JL T n S) :
  zC 100 #[zP t,.agg #[v0,v1]] w fun e w'=>e = .returned (.bool true)/\zv [] w w':=by
 obtain ⟨rfl,rfl,hl⟩:=hv;have Iz:=h.n1;have Fh:=h.n2;have p1:=JM Iz;have p2:=Js (n:=T.n);have p3:=JM p1;have p4:=Js (n:=pg T.n);have q0:=ho.n0;have q1:=ho.n1;have Dt:=hl 0 zo;have Dj:=hl 1 zo;rw [q0] at Dt ⊢;rw [q1] at Dj ⊢;have MY:=zh Dt;have Ty:=zh Dj;have HO:=zh ho;have HQ:=zh (zA q0 q1);have HB:=zh (xo w (.cells #[zS (g 0) (pg T.n) (c 0),zS (g 1) (pg (pg T.n)) (c 1)] 50));have HC:=zh ((zv.refl [] w).alloc (.cells #[zS (g 0) (pg T.n) (c 0),zS (g 1) (pg (pg T.n)) (c 1)] 50));have hT:=h.chg HC.o;have HT:=zh hT;have h0:=h;have H0:=zh h0;clear hl Dt Dj ho h h0 q0 q1;have E1:¬ (T.n:Int)=0:=zo
 go_enter Tryz.func100,Tryz.ntmps100;go_upto_region 2 with (first | (go_at_call 69;refine zm (xI HT) ?_) | (go_at_call 88;refine zm (Zx _ Iz Fh) ?_))
 have hb:=HB.o;obtain ⟨x0,x1⟩:=uj hb;generalize w.alloc _=w1 at *;clear hb;have HQT:=zh (fun k=>HT.chg ((zv.refl [] w1).drewN k):∀ k,zJ (w1.drewN k) t bc bk T);have g1:((T.n:Int)==0)=false:=by simp;omega
 have g2:((pg T.n:Int) != (pg T.n:Int))=false:=zaa;have g3:((pg (pg T.n):Int) != (pg (pg T.n):Int))=false:=zaa
 go_quiet (first | (go_at_call 69;exact X9 (xI (HQT _))) | (go_at_call 88;exact X9 (Zx _ p1 zo)))
 have mk:=fun w=>run_makeMap (P:=Tryz.prog) 39 w;have z0:=(((zv.refl [] w1).drewN nq).alloc (.map #[] 0)).cell (p:=⟨w.heap.size,0,none⟩) (zz HB) zaa |>.trans x0
 have z1:=(((zv.refl [] w1).drewN nq).alloc (.map #[] 0)).cell (p:=⟨w.heap.size,1,none⟩) (zz HB) zaa |>.trans x1
 have HM:=zh (qP.made (P:=Tryz.prog) (kt:=3) (et:=3) (w1.drewN nq) T.n);have Gd:w.heap.size<w1.heap.size:=zz HB.o;have BZ:=zh ((HC.drewN nq).alloc (.map #[] 0));have Ua:((w1.drewN nq).alloc (.map #[] 0)).heap.size=w1.heap.size+1:=by simp [World.drewN]
 rw [show (w1.drewN nq).heap.size=w1.heap.size from rfl] at HM;clear x0 x1 hT;go_wp2_with fail;have Gj:=(zv.refl [] ((w1.drewN nq).alloc (.map #[] 0))).alloc (.cells #[zS (g 0) (pg T.n) (c 0),zS (g 1) (pg (pg T.n)) (c 1)] 32);have Gy:=zh (xo ((w1.drewN nq).alloc (.map #[] 0)) (.cells #[zS (g 0) (pg T.n) (c 0),zS (g 1) (pg (pg T.n)) (c 1)] 32));rw [Ua] at Gy;have Cj:=zh (BZ.trans Gj);have HM3:=zh (HM.chg Gj);have Hj:=Gj.size;rw [Ua] at Hj;clear Gj z0 z1 Ua g1 g2 g3;generalize ((w1.drewN nq).alloc (.map #[] 0)).alloc _=W at *;have HT3:=zh (H0.chg Cj);refine (kW (l:=Qp S n 0) (m:=Qp S n 1) (by rw [xF];exact HQ.1.symm) (by rw [xF];exact HQ.2.symm) Gy (MY.chg Cj) (Ty.chg Cj) (by rw [xF,HQ.1];exact p1) (by rw [xF,xF,HQ.1,HQ.2];omega)).mono ?_;rintro e w4 ⟨v,rfl,BT,Ds⟩;have B9:(Qp S n 0++Qp S n 1).length=pg T.n+pg (pg T.n):=by rw [ym,xF,xF,HQ.1,HQ.2]
 have GH:=Y9.of_own BT;obtain ⟨a,cp,hv⟩:=GH.len;rw [B9] at hv;subst hv
 have BX:∀ i,i<pg T.n+pg (pg T.n)->∃ gg,a=some ⟨gg,0,none⟩/\gg<w4.heap.size/\W.heap.size<=gg/\w4.cell? ⟨gg,i,none⟩=some (.int .i64 (((Qp S n 0++Qp S n 1).getD i 0:Nat):Int)):=by
  intro i hi;rcases GH with ⟨h1,h2⟩ | ⟨gg,cap,h1,h2,h3,h4,h5⟩
  ·rw [h2] at B9;simp at B9;omega
  ·injection h1 with h1 _ _
   exact ⟨gg,h1,h4,(Qb BT gg (by rw [h1];rfl)).1,h5 i (by rw [B9];exact hi)⟩
 have hcap:pg T.n+pg (pg T.n)<=cp:=by
  rcases GH with ⟨h1,h2⟩ | ⟨gg,cap,h1,h2,h3,h4,h5⟩
  ·rw [h2] at B9;simp at B9;omega
  ·injection h1 with _ _ h1
   rw [<- B9,h1];exact h2
 have HCE:=zh BX;have HM4:=zh (HM3.chg Ds);have HT4:=zh (HT3.chg Ds);have C6:=zh (Cj.trans Ds);have RK:=zh B9
 have hmt:w1.heap.size≠t/\w1.heap.size≠bc/\w1.heap.size≠bk:=by
  have a1:=HT.lt0;have a2:=HT.lt1;have a3:=HT.lt2;omega
 have TA:=zh hmt;clear BX BT Ds GH B9 hmt HB HM HM3 HT HT3 HQT MY Ty Gy;go_wp2_with fail
 go_loopw [38] (fun s wr=>∃ k:Nat,k<=pg T.n+pg (pg T.n)/\s = .int .i64 (k:Int)/\Hd (qP Tryz.prog 3 3 wr w1.heap.size T.n (XB S n k)/\zv [w1.heap.size] w4 wr)) (fun s _=>pg T.n+pg (pg T.n) - (intOf s).toNat)
 case atStart=>exact ⟨0,yg _,rfl,⟨HM4.congr fun i _=>by unfold XB;rw [if_neg];rintro ⟨_,i,hi,_⟩;omega,zv.refl _ _⟩⟩
 case round =>
  obtain ⟨k,hk,rfl,hH⟩:=hrel;by_cases BY:k<pg T.n+pg (pg T.n)
  ·obtain ⟨gg,rfl,Fu,C8,F9⟩:=HCE k BY
   have Fe:=(hH.2.cell (p:=⟨gg,k,none⟩) Fu zae).trans F9;have HTr:=zh (HT4.chg hH.2 (by simp;exact fun e=>TA.1 e.symm) (by simp;exact fun e=>TA.2.1 e.symm) (by simp;exact fun e=>TA.2.2 e.symm));obtain ⟨b,hb⟩:=zE ((Qp S n 0++Qp S n 1).getD k 0);rw [<- hb] at Fe;have RB:=zh hb;clear hb F9;by_cases DW:b=0
   ·subst DW
    rw [show (((0:Nat)):Int)=0 from rfl] at Fe;go_wp2_with fail
    go_roundw
    case rel=>exact ⟨k+1,zo,zac,⟨hH.1.congr fun i _=>(oq RB.symm i).symm,hH.2⟩⟩
    case measure=>simp [intOf];omega
   ·have GP:k<n 0+n 1:=by rw [HQ.1,HQ.2];exact BY
    have NU:=HO.has _ _ (mD GP).1 (mD GP).2 (by rw [<- Vf S n GP,<- RB.o];exact DW);rw [<- Vf S n GP,<- RB.o] at NU;obtain ⟨G6,hbT⟩:=NU;have hsn:=rR HO GP (by rw [<- RB.o];exact DW);rw [<- RB.o] at hsn;have Co:=(hH.1.look (t:=39) Tryz.underlying3 Tryz.underlying3 Tryz.underlying39 (mE wr) G6 Fh).2;rw [hsn] at Co;simp only [Option.getD_none] at Co;rw [show (((0:Nat)):Int)=0 from rfl] at Co;obtain ⟨w5,B8,U4,CQ⟩:=hH.1.put (t:=39) Tryz.underlying3 Tryz.underlying3 Tryz.underlying39 G6 Fh (v:=1) zo;rw [show (((1:Nat)):Int)=1 from rfl] at B8;have hlk5:=(U4.look (t:=39) Tryz.underlying3 Tryz.underlying3 Tryz.underlying39 (mE w5) G6 Fh).2;simp only [if_true,Option.getD_some] at hlk5;rw [show (((1:Nat)):Int)=1 from rfl] at hlk5;have hb0':¬ (b:Int)=0:=zo
    have Nx:=zh U4;have Fp:=zh ((zv.refl [w1.heap.size] wr).grown CQ.grown zaa);have KM:=zh (HTr.chg Fp (by simp;exact fun e=>TA.1 e.symm) (by simp;exact fun e=>TA.2.1 e.symm) (by simp;exact fun e=>TA.2.2 e.symm))
    have G9:zC 68 #[zP t,.int .i64 (b:Int)] w5 fun e w'=>e = .returned (.int .i64 (T.now b:Int))/\w5=w':=by
     have:=QD KM (b:Int);rw [Ve G6] at this;exact this
    have hbT':¬ (T.now b:Int)=0:=zo;clear U4 CQ hsn;go_wp2_with (go_at_call 68;refine zm G9 ?_)
    go_roundw
    case rel=>exact ⟨k+1,zo,zac,⟨Nx.congr fun i _=>by rw [rQ (by rw [<- RB.o];exact DW),<- RB.o],hH.2.trans Fp⟩⟩
    case measure=>simp [intOf];omega
  ·obtain rfl:k=pg T.n+pg (pg T.n):=zo
   go_wp2_with fail;go_ret;have Dg:=C6.size;exact ⟨rfl,C6.then hH.2 (fun i hi => .inr (by simp at hi;omega))⟩
structure ZP (w:World) (x p t bc bk:Nat) (g h c:zF) (S:PS):Prop where
 pt:PT w p t bc bk S.K S.T
 top:w.heap[x]?=some (.cells #[zP t,zP p,zS (g 0) (S.n 0) (c 0),zS (g 1) (S.n 1) (c 1),zS (h 0) (S.n 0) (S.n 0),zS (h 1) (S.n 1) (S.n 1)] 243 (0,0))
 ats:∀ k,k<2->∃ BV,w.heap[g k]?=some (.cells BV 3 (0,0))/\BV.size=c k/\S.n k<=c k/\c k<=maxLen/\∀ i,i<S.n k->BV[i]?=some (.int .i64 (S.a k i:Int))
 pls:∀ k,k<2->w.heap[h k]?=some (.cells (XN (S.n k) (S.p k)) 4 (0,0))
 nd:[x,g 0,g 1,h 0,h 1,p,t,bc,bk].Nodup
 n0:S.n 0=pg S.T.n
 n1:S.n 1=pg (pg S.T.n)
namespace ZP
variable {w:World} {x p t bc bk:Nat} {g h c:Nat->Nat} {S:PS}
theorem chg {w':World} {L:List Nat} (H:ZP w x p t bc bk g h c S) (C:zv L w w') (hd:∀ b,b∈[x,g 0,g 1,h 0,h 1,p,t,bc,bk]->b∉L:=by simp):ZP w' x p t bc bk g h c S:=by
 have m:∀ b,b∈[x,g 0,g 1,h 0,h 1,p,t,bc,bk]->b∉L:=hd;refine ⟨H.pt.chg C (m p zaa) (m t zaa) (m bc zaa) (m bk zaa),(C.block x (zz H.top) (m x zaa)).trans H.top,fun k hk=>?_,fun k hk=>?_,H.nd,H.n0,H.n1⟩
 ·obtain ⟨BV,h1,h2⟩:=H.ats k hk
  have Cy:k=0∨k=1:=zo;refine ⟨BV,(C.block (g k) (zz h1) (m (g k) ?_)).trans h1,h2⟩;rcases Cy with rfl | rfl <;> simp
 ·have h1:=H.pls k hk
  have Cy:k=0∨k=1:=zo;refine (C.block (h k) (zz h1) (m (h k) ?_)).trans h1;rcases Cy with rfl | rfl <;> simp
theorem atc (H:ZP w x p t bc bk g h c S) (hk:k<2) (hi:i<S.n k):w.cell? ⟨g k,i,none⟩=some (.int .i64 (S.a k i:Int)):=by
 obtain ⟨BV,h1,h2,h3,h4,h5⟩:=H.ats k hk;rw [zM h1];exact h5 i hi
theorem atcap (H:ZP w x p t bc bk g h c S) (hk:k<2):S.n k<=c k/\c k<=maxLen:=by
 obtain ⟨BV,h1,h2,h3,h4,h5⟩:=H.ats k hk;exact ⟨h3,h4⟩
theorem plc (H:ZP w x p t bc bk g h c S) (hk:k<2) (hi:i<S.n k):w.cell? ⟨h k,i,none⟩=some (.bool (S.p k i)):=by
 rw [zM (H.pls k hk)];exact Q7 hi
theorem nle (H:ZP w x p t bc bk g h c S) (hk:k<2):1<=S.n k/\S.n k<=4096:=by
 have a1:=H.pt.ht.n1;have:=H.pt.ht.n2;have p1:=JM a1;have:=Js (n:=S.T.n);have:=JM p1;have:=Js (n:=pg S.T.n);have Cy:k=0∨k=1:=zo
 rcases Cy with rfl | rfl
 ·rw [H.n0];omega
 ·rw [H.n1];omega
end ZP
theorem iC (hk:k<(YB T).length):(YB T).getD k 0∈YB T:=by
 rw [zgD,yt hk];exact zt _
theorem uS (h1:k<(YB T).length) (h2:(YB T).getD k 0=61*i):Jr T.changed T.n i=true:=by
 have hm:=QG.1 (iC h1);rw [h2] at hm;exact Q8.2 ⟨61*i,zo,zo,hm.1,hm.2⟩
theorem Ag (h1:k<(YB T).length) (h2:61*i<=(YB T).getD k 0) (h3:(YB T).getD k 0<61*i+61):Jr T.changed T.n i=true:=by
 have hm:=QG.1 (iC h1);exact Q8.2 ⟨_,h2,h3,hm.1,hm.2⟩
theorem mF (ED:∀ j,j<k->(YB T).getD j 0<61*i) (h:k<(YB T).length->61*i+61<=(YB T).getD k 0):Jr T.changed T.n i=false:=by
 cases ha:Jr T.changed T.n i with
 | false=>rfl
 | true =>
  obtain ⟨b,h1,h2,h3,h4⟩:=Q8.1 ha;obtain ⟨j,hj,rfl⟩:=List.getElem_of_mem (QG.2 ⟨h3,h4⟩);have e:(YB T).getD j 0=(YB T)[j]:=by rw [zgD,yt hj];rfl
  by_cases K9:j<k
  ·have:=ED j K9;omega
  ·have h5:=h zo
   have:(YB T).getD k 0<=(YB T).getD j 0:=by
    by_cases e2:k=j
    ·rw [e2];exact xd _
    ·have:=List.pairwise_iff_getElem.1 (Zt T) k j zo hj zo
     rw [e,zgD,yt zo];exact Nat.le_of_lt this
   omega
theorem uT {g h c:zF} {S:PS} (H:ZP w x p t bc bk g h c S) (hk:k<2) (hi:i<S.n k) (hp:S.p k i=true∨S.a k i=0) :
  zC 140 #[zP x,.int .i64 (k:Int),.int .i64 (i:Int)] w fun e w'=>e = .returned (.bool (S.want k i))/\w=w':=by
 have top:=H.top;have ac:=H.atc hk hi;have pc:=H.plc hk hi;have:=H.atcap hk;have:=H.nle hk;obtain ⟨x0,x1,x2,x3,x4,x5⟩:=AP top;clear top
 have hw:S.want k i = !S.p k i:=by
  unfold PS.want;rcases hp with hp | hp
  ·simp [hp]
  ·simp [hp]
 rw [hw];have:(0:Int)<=(i:Int):=zo;have:(i:Int)<(S.n k:Int):=zo;have Cy:k=0∨k=1:=zo;rcases Cy with rfl | rfl
 all_goals
  cases hpp:S.p _ i with
  | true =>
   rw [hpp] at pc;go_enter Tryz.func140,Tryz.ntmps140;go_wp2_with fail;go_ret;exact ⟨rfl,rfl⟩
  | false =>
   rw [hpp] at pc;have ha:=hp.resolve_left (by rw [hpp];decide);rw [ha] at ac;rw [show (((0:Nat)):Int)=0 from rfl] at ac;go_enter Tryz.func140,Tryz.ntmps140;go_wp2_with fail;go_ret;exact ⟨rfl,rfl⟩
theorem uU {g h c:zF} {S:PS} (H:ZP w x p t bc bk g h c S) (hi:i<S.n 1) (hp:S.p 1 i=false) (ha:S.a 1 i≠0) :
  zC 140 #[zP x,.int .i64 1,.int .i64 (i:Int)] w fun e w'=>e = .returned (.bool (S.want 1 i))/\zv [] w w':=by
 have top:=H.top;have ac:=H.atc (k:=1) zo hi;have pc:=H.plc (k:=1) zo hi;have ca:=H.atcap (k:=1) zo;have nl:=H.nle (k:=1) zo;have nl0:=H.nle (k:=0) zo;obtain ⟨x0,x1,x2,x3,x4,x5⟩:=AP top;clear top;rw [hp] at pc;have M7:¬ (S.a 1 i:Int)=0:=zo
 have i0:(0:Int)<=(i:Int):=zo;have i1:(i:Int)<(S.n 1:Int):=zo
 have Cm:61*i<S.n 0:=by
  have:=H.n0;have h2:=H.n1;rw [<- this] at h2;unfold pg at h2;omega
 have hc:=iz (w:=w) (b:=h 0) (o:=61*i) (n:=min (61*i+61) (S.n 0) - 61*i) (cap:=S.n 0 - 61*i) (p:=fun j=>S.p 0 (61*i+j)) zo zo zam (fun j hj=>H.plc (k:=0) zo zo);have HC:=zh hc;clear hc
 have hw:∀ r:Bool,(r=true↔∃ j,j<min (61*i+61) (S.n 0) - 61*i/\S.p 0 (61*i+j)=true)->r=S.want 1 i:=by
  intro r hr;have e:S.want 1 i=Jr (S.p 0) (S.n 0) i:=by unfold PS.want;simp [hp,ha]
  rw [e,Bool.eq_iff_iff,hr,Q8];constructor
  ·rintro ⟨j,hj,h⟩;exact ⟨61*i+j,zo,zo,zo,h⟩
  ·rintro ⟨b,h1,h2,h3,h4⟩;exact ⟨b - 61*i,zo,by rw [show 61*i+(b - 61*i)=b by omega];exact h4⟩
 have HW:=zh hw;clear hw;have hmi:min (((i:Int)+1)*61) (S.n 0:Int)=((min (61*i+61) (S.n 0):Nat):Int):=zo
 have e1:(i:Int)*61=((61*i:Nat):Int):=zo;go_enter Tryz.func140,Tryz.ntmps140;go_wp2_with fail;refine HC.mono ?_;rintro e w' ⟨⟨r,rfl,hr⟩,rfl⟩;obtain rfl:=HW r hr;clear hr;go_wp2_with fail;go_ret;exact ⟨rfl,zv.refl _ _⟩
theorem uV {g h c:zF} {S:PS} (H:ZP w x p t bc bk g h c S) (hi:i<S.n 0) (hp:S.p 0 i=false) (ha:S.a 0 i≠0) :
  zC 140 #[zP x,.int .i64 0,.int .i64 (i:Int)] w fun e w'=>e = .returned (.bool (S.want 0 i))/\zv [] w w':=by
 have top:=H.top;have ac:=H.atc (k:=0) zo hi;have pc:=H.plc (k:=0) zo hi;have:=H.atcap (k:=0) zo;have:=H.nle (k:=0) zo;have HT:=zh H.pt.ht;have hx:=zz top;have:=zh top;obtain ⟨x0,x1,x2,x3,x4,x5⟩:=AP top;clear top;rw [hp] at pc;have:¬ (S.a 0 i:Int)=0:=zo
 have:(0:Int)<=(i:Int):=zo;have:(i:Int)<(S.n 0:Int):=zo;have e:S.want 0 i=Jr S.T.changed S.T.n i:=by unfold PS.want;simp [hp,ha]
 rw [e];clear e;have Eo:(YB S.T).length<=4096:=qh (List.length_filter_le _ _) (by simp;exact H.pt.ht.n2);go_enter Tryz.func140,Tryz.ntmps140;go_wp2_with fail;refine (aQ HT).mono ?_;rintro e w1 ⟨v,rfl,BT,hB⟩;have HS:=zh (Y9.of_own BT);have HC:=zh (zv.of_below (L:=[]) hB);clear BT hB;have cB:=Ae HS (Zt S.T) Eo (61*i) zo;rw [show ((61*i:Nat):Int)=(i:Int)*61 by omega] at cB;have NB:=zh (HT.chg HC);have:=HC.ce x0 hx;clear x0 x1 x2 x3 x4 x5 ac pc;go_wp2_with fail;refine cB.mono ?_;clear cB;rintro e w2 ⟨k,b,rfl,hk,ED,FH,hb,rfl⟩;have Lo:=zh ED;have Tw:=zh FH;have I0:=zh hb;clear ED FH hb
 cases b with
 | true =>
  have HZ:=zh (uS (I0.1 rfl).1 (I0.1 rfl).2);go_wp2_with fail;go_ret;exact ⟨by rw [HZ.o] <;> rfl,HC⟩
 | false =>
  go_wp2_with fail;refine (aQ NB).mono ?_;rintro e w3 ⟨v2,rfl,BT,hB⟩;have PM:=Y9.of_own BT;have BZ:=zh (HC.trans (zv.of_below (L:=[]) hB));clear BT hB;obtain ⟨a,cp,rfl⟩:=PM.len;by_cases N1:k<(YB S.T).length
  ·have BX:∃ gg,a=some ⟨gg,0,none⟩/\(YB S.T).length<=cp/\w3.cell? ⟨gg,k,none⟩=some (.int .i64 (((YB S.T).getD k 0:Nat):Int)):=by
    rcases PM with ⟨h1,h2⟩ | ⟨gg,cap,h1,h2,h3,h4,h5⟩
    ·rw [h2] at N1;simp at N1
    ·injection h1 with h1 _ h6
     exact ⟨gg,h1,by rw [h6];exact h2,h5 k N1⟩
   obtain ⟨gg,rfl,hcp,BX⟩:=BX;have h61:=Tw k (xd _) N1;obtain ⟨y,hy⟩:=zE ((YB S.T).getD k 0);rw [<- hy] at BX h61;have HY:=zh hy;clear hy PM;by_cases BY:y<61*i+61
   ·have i2:(y:Int)<((i:Int)+1)*61:=zo
    go_wp2_with fail;go_ret;exact ⟨by rw [Ag N1 (by rw [<- HY.o];exact h61) (by rw [<- HY.o];exact BY)] <;> rfl,BZ⟩
   ·have i2:¬ (y:Int)<((i:Int)+1)*61:=zo
    go_wp2_with fail;go_ret;exact ⟨by rw [mF Lo.o (fun _=>by rw [<- HY.o];omega)];simp;omega,BZ⟩
  ·obtain rfl:k=(YB S.T).length:=zo
   clear PM;go_wp2_with fail;go_ret;exact ⟨by rw [mF Lo.o (fun h=>absurd h (Nat.lt_irrefl _))] <;> rfl,BZ⟩
theorem iD {g h c:zF} {S:PS} (H:ZP w x p t bc bk g h c S) (hk:k<2) (hi:i<S.n k) :
  zC 140 #[zP x,.int .i64 (k:Int),.int .i64 (i:Int)] w fun e w'=>e = .returned (.bool (S.want k i))/\zv [] w w':=by
 by_cases hq:S.p k i=true∨S.a k i=0
 ·exact (uT H hk hi hq).mono fun e w' ⟨h1,h2⟩=>⟨h1,by rw [<- h2];exact zv.refl _ _⟩
 ·have h1:S.p k i=false:=by cases hpp:S.p k i with | false=>rfl | true=>exact absurd (.inl hpp) hq
  have h2:S.a k i≠0:=fun h=>hq (.inr h);have Cy:k=0∨k=1:=zo
  rcases Cy with rfl | rfl
  ·exact uV H hi h1 h2
  ·exact uU H hi h1 h2
end Go.Proofs.YtegpiomkmfhadaaGreat
namespace Go.Proofs.YtegpiomkmfhadaaGreat
open Go.RowKit
variable {w W:World} {x p t bc bk k i b:Nat} {g h c:zF} {S:PS} {T:zW} {l:List (Nat × Obj)} {o:Obj}
theorem ZP.put {w':World} (H:ZP w x p t bc bk g h c S) (hk:k<2) (hi:i<S.n k) {T':zW} {K':Pk} (Hh:PT w' p t bc bk K' T') (hn:T'.n=S.T.n)
  (C:zv [p,t,bc,bk] w w') (v:Nat) :
  ZP ((w'.setCell ⟨g k,i,none⟩ (.int .i64 (v:Int))).setCell ⟨h k,i,none⟩ (.bool true)) x p t bc bk g h c ⟨T',K',S.n,XO S.a k i v,XO S.p k i true⟩ /\
   zv [g 0,g 1,h 0,h 1,p,t,bc,bk] w ((w'.setCell ⟨g k,i,none⟩ (.int .i64 (v:Int))).setCell ⟨h k,i,none⟩ (.bool true)):=by
 have Cp:=H.nd;simp only [List.nodup_cons,ya,yk,or_false,not_or,List.nodup_nil,and_true] at Cp;obtain ⟨⟨nx1,nx2,nx3,nx4,nx5,nx6,nx7,nx8⟩,⟨a1,a2,a3,a4,a5,a6,a7⟩,⟨b2,b3,b4,b5,b6,b7⟩,⟨c3,c4,c5,c6,c7⟩,⟨d4,d5,d6,d7⟩,_⟩:=Cp;have Cy:k=0∨k=1:=zo
 have oc:∀ (j:Nat) (u:Value) (b:Nat) (W:World),b≠j->∀ q,(W.setCell ⟨j,q,none⟩ u).heap[b]?=W.heap[b]?:=fun j u b W hb q=>ZS q u hb;have CC:zv [g k,h k] w' ((w'.setCell ⟨g k,i,none⟩ (zI v)).setCell ⟨h k,i,none⟩ (.bool true)):=((zv.refl _ _).setCell (.inl zaa) _).setCell (.inl zaa) _
 have mk:∀ b,b∈[g k,h k]->b=g 0∨b=g 1∨b=h 0∨b=h 1:=by
  rcases Cy with rfl | rfl <;> intro b hb <;> simp at hb <;> rcases hb with rfl | rfl <;> simp
 have nn:∀ b,b≠g 0->b≠g 1->b≠h 0->b≠h 1->b∉[g k,h k]:=fun b e1 e2 e3 e4 hm=>by rcases mk b hm with q | q | q | q <;> contradiction
 refine ⟨⟨Hh.chg CC (nn p (Ne.symm a4) (Ne.symm b4) (Ne.symm c4) (Ne.symm d4)) (nn t (Ne.symm a5) (Ne.symm b5) (Ne.symm c5) (Ne.symm d5)) (nn bc (Ne.symm a6) (Ne.symm b6) (Ne.symm c6) (Ne.symm d6)) (nn bk (Ne.symm a7) (Ne.symm b7) (Ne.symm c7) (Ne.symm d7)),?_,?_,?_,H.nd,by rw [hn];exact H.n0,by rw [hn];exact H.n1⟩,?_⟩
 ·exact (CC.block x (qe (zz H.top) C.size) (nn x nx1 nx2 nx3 nx4)).trans ((C.block x (zz H.top) (by simp only [ya,yk,or_false,not_or];exact ⟨nx5,nx6,nx7,nx8⟩)).trans H.top)
 ·intro k' De
  obtain ⟨BV,q1,q2,q3,q4,q5⟩:=H.ats k' De
  have hgk:g k'∉[p,t,bc,bk]:=by
   have FW:k'=0∨k'=1:=zo;simp only [ya,yk,or_false,not_or];rcases FW with rfl | rfl
   ·exact ⟨a4,a5,a6,a7⟩
   ·exact ⟨b4,b5,b6,b7⟩
  have q1':=(C.block (g k') (zz q1) hgk).trans q1
  have SD:g k'≠h k:=by
   have FW:k'=0∨k'=1:=zo;rcases Cy with rfl | rfl <;> rcases FW with rfl | rfl <;> assumption
  by_cases e:k'=k
  ·subst e
   refine ⟨BV.setIfInBounds i (zI v),by rw [oc _ _ _ _ SD,Yh q1'],by simp [q2],q3,q4,fun j hj=>?_⟩;rw [yP];by_cases ej:i=j
   ·subst ej
    rw [if_pos rfl,if_pos (by rw [q2];omega)];simp [XO]
   ·rw [if_neg ej,q5 j hj]
    simp [XO,Ne.symm ej]
  ·have DM:g k'≠g k:=by
    have FW:k'=0∨k'=1:=zo;rcases Cy with rfl | rfl <;> rcases FW with rfl | rfl <;> first | exact absurd rfl e | exact a1 | exact Ne.symm a1
   refine ⟨BV,by rw [oc _ _ _ _ SD,oc _ _ _ _ DM,q1'],q2,q3,q4,fun j hj=>?_⟩;rw [q5 j hj];simp [XO,e]
 ·intro k' De
  have q1:=H.pls k' De
  have hgk:h k'∉[p,t,bc,bk]:=by
   have FW:k'=0∨k'=1:=zo;simp only [ya,yk,or_false,not_or];rcases FW with rfl | rfl
   ·exact ⟨c4,c5,c6,c7⟩
   ·exact ⟨d4,d5,d6,d7⟩
  have q1':=(C.block (h k') (zz q1) hgk).trans q1
  have SD:h k'≠g k:=by
   have FW:k'=0∨k'=1:=zo;rcases Cy with rfl | rfl <;> rcases FW with rfl | rfl <;> first | exact Ne.symm a2 | exact Ne.symm a3 | exact Ne.symm b2 | exact Ne.symm b3
  have q1'':(w'.setCell ⟨g k,i,none⟩ (zI v)).heap[h k']?=_:=(oc _ _ _ _ SD _).trans q1';by_cases e:k'=k
  ·subst e
   show (World.setCell _ ⟨h k',i,none⟩ _).heap[h k']?=some (.cells (XN (S.n k') (XO S.p k' i true k')) 4 (0,0))
   rw [Yh q1'',og hi];congr 2;congr 1;funext j;simp [XO]
  ·have hhh:h k'≠h k:=by
    have FW:k'=0∨k'=1:=zo;rcases Cy with rfl | rfl <;> rcases FW with rfl | rfl <;> first | exact absurd rfl e | exact c3 | exact Ne.symm c3
   show (World.setCell _ ⟨h k,i,none⟩ _).heap[h k']?=some (.cells (XN (S.n k') (XO S.p k i true k')) 4 (0,0))
   rw [oc _ _ _ _ hhh,q1''];congr 2;congr 1;funext j;simp [XO,e]
 ·refine (C.mo).trans (CC.mono fun b hb=>?_)
  rcases mk b hb with rfl | rfl | rfl | rfl <;> simp
theorem dU (S:PS) (k i:Nat):Va (S.T1 k i) S.K=((S.new k i:Nat):Int):=by
 unfold Va PS.new;cases Ye (S.T1 k i) S.K <;> rfl
theorem rS (H:ZP w x p t bc bk g h c S) (hk:k<2) (hi:i<S.n k) :
  zC 141 #[zP x,.int .i64 (k:Int),.int .i64 (i:Int)] w fun e w'=>e = .returned (.int .i64 (Jp (S.T1 k i) S.K))/\ZP w' x p t bc bk g h c (S.step k i)/\zv [g 0,g 1,h 0,h 1,p,t,bc,bk] w w':=by
 have top:=H.top;have ac:=H.atc hk hi;have:=H.atcap hk;have:=H.nle hk;have hx:=zz top;have:=zh top;have Cp:=H.nd;simp only [List.nodup_cons,ya,yk,or_false,not_or,List.nodup_nil,and_true] at Cp;obtain ⟨⟨nx1,nx2,nx3,nx4,nx5,nx6,nx7,nx8⟩,⟨a1,a2,a3,a4,a5,a6,a7⟩,⟨b2,b3,b4,b5,b6,b7⟩,⟨c3,c4,c5,c6,c7⟩,⟨d4,d5,d6,d7⟩,_⟩:=Cp;have Gg:Hd (x∉[p,t,bc,bk]):=zh (by simp only [ya,yk,or_false,not_or];exact ⟨nx5,nx6,nx7,nx8⟩);obtain ⟨x0,x1,x2,x3,x4,x5⟩:=AP top;clear top;have:(0:Int)<=(i:Int):=zo
 have:(i:Int)<(S.n k:Int):=zo;have H1:∃ w1,True:=⟨w,trivial⟩;have HP:=zh H.pt;have Gl:∃ BV,Hd (w.heap[g k]?=some (.cells BV 3 (0,0))):=by obtain ⟨BV,h1,_⟩:=H.ats k hk;exact ⟨BV,h1⟩
 obtain ⟨BV,HG⟩:=Gl;have HH:=zh (H.pls k hk)
 have MV:Hd (g k∉[p,t,bc,bk]/\h k∉[p,t,bc,bk]/\h k≠g k):=zh (by
  have Cy:k=0∨k=1:=zo;simp only [ya,yk,or_false,not_or];rcases Cy with rfl | rfl
  ·exact ⟨⟨a4,a5,a6,a7⟩,⟨c4,c5,c6,c7⟩,Ne.symm a2⟩
  ·exact ⟨⟨b4,b5,b6,b7⟩,⟨d4,d5,d6,d7⟩,Ne.symm b3⟩)
 clear H1 nx1 nx2 nx3 nx4 nx5 nx6 nx7 nx8 a1 a2 a3 a4 a5 a6 a7 b2 b3 b4 b5 b6 b7 c3 c4 c5 c6 c7 d4 d5 d6 d7;have HF:=zh (fun (w2:World) (hp:PT w2 p t bc bk (Z2 (S.T1 k i) S.K) (Qo (S.T1 k i) S.K)) (hc:zv [p,t,bc,bk] w w2)=>H.put hk hi hp (by rw [mB,O7]) hc (S.new k i));have Cy:k=0∨k=1:=zo
 by_cases ha:S.a k i=0
 ·have eT:S.T1 k i=S.T:=by unfold PS.T1;rw [if_pos ha]
  have Uz:=zh (show PT w p t bc bk S.K (S.T1 k i) by rw [eT];exact HP);clear eT;rw [ha] at ac;rw [show (((0:Nat)):Int)=0 from rfl] at ac;rcases Cy with rfl | rfl
  all_goals
   go_enter Tryz.func141,Tryz.ntmps141;go_wp2_with fail;refine (PT.take Uz).mono ?_;rintro e w2 ⟨rfl,U7,Do⟩;rw [dU];have HP2:=zh U7;have BZ:=zh Do;have y2:=(Do.cell (p:=⟨x,2,none⟩) hx Gg).trans x2;have y3:=(Do.cell (p:=⟨x,3,none⟩) hx Gg).trans x3;have y4:=(Do.cell (p:=⟨x,4,none⟩) hx Gg).trans x4;have y5:=(Do.cell (p:=⟨x,5,none⟩) hx Gg).trans x5;have C8:=(Do.block _ (zz HG) MV.1).trans HG.o;have Cu:=(Do.block _ (zz HH) MV.2.1).trans HH.o;have z1:=xB C8 i;have z2:=xB Cu i;have z3:=(Do.cell (p:=⟨g _,i,none⟩) (zz HG) MV.1).trans ac;have z4:=(Do.cell (p:=⟨h _,i,none⟩) (zz HH) MV.2.1).trans (H.plc hk hi);have BU:=MV.2.2;clear U7 Do C8 Cu x0 x1 x2 x3 x4 x5 ac;go_wp2_with fail
   go_region
   go_wp2_with fail;go_ret;have hf:=HF _ HP2 BZ.o;exact ⟨rfl,hf.1.chg ((zv.refl [] _).drew),hf.2.drew⟩
 ·have eT:S.T1 k i=down S.T (S.a k i:Int):=by unfold PS.T1;rw [if_neg ha]
  have HET:=zh eT;have:¬ (S.a k i:Int)=0:=zo
  have:((S.a k i:Int) != 0)=true:=by simp;exact ha
  clear eT;rcases Cy with rfl | rfl
  all_goals
   go_enter Tryz.func141,Tryz.ntmps141;go_wp2_with fail;refine (PT.down HP (S.a _ i:Int)).mono ?_;rintro e w1 ⟨rfl,Lu,Cz⟩;rw [<- HET.o] at Lu;have Uz:=zh Lu;have Ce:=zh Cz;have v1:=(Cz.cell (p:=⟨x,1,none⟩) hx Gg).trans x1;clear Lu Cz;go_wp2_with fail;refine (PT.take Uz).mono ?_;rintro e w2 ⟨rfl,U7,UZ⟩;have Do:=Ce.trans UZ;clear UZ v1;rw [dU];have HP2:=zh U7;have BZ:=zh Do;have y2:=(Do.cell (p:=⟨x,2,none⟩) hx Gg).trans x2;have y3:=(Do.cell (p:=⟨x,3,none⟩) hx Gg).trans x3;have y4:=(Do.cell (p:=⟨x,4,none⟩) hx Gg).trans x4;have y5:=(Do.cell (p:=⟨x,5,none⟩) hx Gg).trans x5;have C8:=(Do.block _ (zz HG) MV.1).trans HG.o;have Cu:=(Do.block _ (zz HH) MV.2.1).trans HH.o;have z1:=xB C8 i;have z2:=xB Cu i;have z3:=(Do.cell (p:=⟨g _,i,none⟩) (zz HG) MV.1).trans ac;have z4:=(Do.cell (p:=⟨h _,i,none⟩) (zz HH) MV.2.1).trans (H.plc hk hi);have BU:=MV.2.2;clear U7 Do C8 Cu x0 x1 x2 x3 x4 x5 ac;go_wp2_with fail
   go_region
   go_wp2_with fail;go_ret;have hf:=HF _ HP2 BZ.o;exact ⟨rfl,hf.1.chg ((zv.refl [] _).drew),hf.2.drew⟩
theorem Bn (a1 a2 b1 b2:Nat) (p q:Option Addr) (w:World):(Instr.index 240 (.agg #[.slice p a1 a2,.slice q b1 b2]) (.int .i64 0)).run Tryz.prog w = .ok (.slice p a1 a2) w:=by
 simp [Instr.index,run_underlying Tryz.underlying240,asIntOf,go_sem]
theorem Bo (a1 a2 b1 b2:Nat) (p q:Option Addr) (w:World):(Instr.index 240 (.agg #[.slice p a1 a2,.slice q b1 b2]) (.int .i64 1)).run Tryz.prog w = .ok (.slice q b1 b2) w:=by
 simp [Instr.index,run_underlying Tryz.underlying240,asIntOf,go_sem]
def Vg (S:PS):Int:=match S.next with | some (k,_)=>k | none => -1
def Vh (S:PS):Int:=match S.next with | some (_,i)=>i | none => -1
def rT (S:PS) (j:Nat):Prop:=∀ j',j'<j->Jo (S.want j') 0 (S.n j')=none
theorem iE {j:Nat} (hj:j<2) (hn:rT S j) (h:Jo (S.want j) 0 (S.n j)=some i):S.next=some (j,i):=by
 have hj2:j=0∨j=1:=zo;unfold PS.next;rcases hj2 with rfl | rfl
 ·rw [h]
 ·rw [hn 0 zo];simp only;rw [h]
theorem ot (hn:rT S 2):S.next=none:=by
 unfold PS.next;rw [hn 0 zo];simp only;rw [hn 1 zo]
theorem mG {q:Nat} (H:ZP w x p t bc bk g h c S) (hq:w.heap[q]?=some (.cells #[zP x] 238 (0,0))) :
  zC 139 #[zP q] w fun e w'=>e = .returned (.tuple #[.int .i64 (Vg S),.int .i64 (Vh S)])/\zv [] w w':=by
 have top:=H.top;have:=zz top;have lq:=zz hq;have HQ:=zh hq;obtain ⟨x0,x1,x2,x3,x4,x5⟩:=AP top;have q0:=Bz hq;clear top hq;have HH:=zh H;have:=H.nle (k:=0) zo;have:=H.nle (k:=1) zo;go_enter Tryz.func139,Tryz.ntmps139;go_wp2_with fail;clear x0 x1 x2 x3 x4 x5 q0
 go_loopw [10] (fun s wr=>∃ j:Nat,j<=2/\s = .int .i64 (j:Int)/\Hd (rT S j/\zv [] w wr)) (fun s _=>2 - (intOf s).toNat)
 case atStart=>exact ⟨0,zo,rfl,⟨fun j hj=>zo,zv.refl _ _⟩⟩
 case round =>
  obtain ⟨j,hj,rfl,hH⟩:=hrel;have q0:=zM HQ 0;simp only [tA1,tA3] at q0;have hj3:j=0∨j=1∨j=2:=zo
  have:=fun w=>Bn (S.n 0) (c 0) (S.n 1) (c 1) (some ⟨g 0,0,none⟩) (some ⟨g 1,0,none⟩) w;have:=fun w=>Bo (S.n 0) (c 0) (S.n 1) (c 1) (some ⟨g 0,0,none⟩) (some ⟨g 1,0,none⟩) w;rcases hj3 with rfl | rfl | rfl
  ·rw [show (((0:Nat)):Int)=0 from rfl]
   go_wp2_with fail
   go_loopw [16] (fun s wr2=>∃ m:Nat,m<=S.n 0/\s = .int .i64 (m:Int)/\Hd (Jo (S.want 0) 0 (S.n 0)=Jo (S.want 0) m (S.n 0 - m)/\zv [] w wr2)) (fun s _=>S.n 0 - (intOf s).toNat)
   case atStart=>exact ⟨0,yg _,rfl,⟨by rw [Nat.sub_zero],hH.2⟩⟩
   case round =>
    obtain ⟨m,hm,rfl,hM⟩:=hrel;have q1:=hM.2.ce q0 lq;have HR:=zh (HH.chg hM.2);by_cases BY:m<S.n 0
    ·have cW:=iD (k:=0) HR zo BY
     rw [show (((0:Nat)):Int)=0 from rfl] at cW;go_wp2_with fail;refine cW.mono ?_;clear cW;rintro e w2 ⟨rfl,Do⟩;have BZ:=zh (hM.2.trans Do);clear Do q1
     cases hwt:S.want 0 m with
     | true =>
      have HZ:=zh (iE zo hH.1 (hM.1.trans (Zr BY hwt)));go_wp2_with fail
      go_ret2
      exact ⟨by unfold Vg Vh;rw [HZ.o] <;> rfl,BZ⟩
     | false =>
      have HZ:=zh (hM.1.trans (ZO BY hwt));go_wp2_with fail
      go_roundw
      case rel=>exact ⟨m+1,zo,zac,⟨HZ.o,BZ⟩⟩
      case measure=>simp [intOf];omega
    ·obtain rfl:m=S.n 0:=zo
     go_wp2_with fail
     go_roundw
     case rel=>exact ⟨1,zo,zac,⟨fun j' Mo=>by
      by_cases e:j'<0
      ·exact hH.1 j' e
      ·obtain rfl:j'=0:=zo
       exact hM.1.trans Zs,hM.2⟩⟩
     case measure=>simp [intOf]
  ·rw [show (((1:Nat)):Int)=1 from rfl]
   go_wp2_with fail
   go_loopw [16] (fun s wr2=>∃ m:Nat,m<=S.n 1/\s = .int .i64 (m:Int)/\Hd (Jo (S.want 1) 0 (S.n 1)=Jo (S.want 1) m (S.n 1 - m)/\zv [] w wr2)) (fun s _=>S.n 1 - (intOf s).toNat)
   case atStart=>exact ⟨0,yg _,rfl,⟨by rw [Nat.sub_zero],hH.2⟩⟩
   case round =>
    obtain ⟨m,hm,rfl,hM⟩:=hrel;have q1:=hM.2.ce q0 lq;have HR:=zh (HH.chg hM.2);by_cases BY:m<S.n 1
    ·have cW:=iD (k:=1) HR zo BY
     rw [show (((1:Nat)):Int)=1 from rfl] at cW;go_wp2_with fail;refine cW.mono ?_;clear cW;rintro e w2 ⟨rfl,Do⟩;have BZ:=zh (hM.2.trans Do);clear Do q1
     cases hwt:S.want 1 m with
     | true =>
      have HZ:=zh (iE zo hH.1 (hM.1.trans (Zr BY hwt)));go_wp2_with fail
      go_ret2
      exact ⟨by unfold Vg Vh;rw [HZ.o] <;> rfl,BZ⟩
     | false =>
      have HZ:=zh (hM.1.trans (ZO BY hwt));go_wp2_with fail
      go_roundw
      case rel=>exact ⟨m+1,zo,zac,⟨HZ.o,BZ⟩⟩
      case measure=>simp [intOf];omega
    ·obtain rfl:m=S.n 1:=zo
     go_wp2_with fail
     go_roundw
     case rel=>exact ⟨2,zo,zac,⟨fun j' Mo=>by
      by_cases e:j'<1
      ·exact hH.1 j' e
      ·obtain rfl:j'=1:=zo
       exact hM.1.trans Zs,hM.2⟩⟩
     case measure=>simp [intOf]
  ·go_wp2_with fail
   go_ret2
   exact ⟨by unfold Vg Vh;rw [ot hH.1] <;> rfl,hH.2⟩
theorem iF {v f:Nat} (hb:b<T.n) (h:T.free b=false):xO T f<=xO (T.set b v) f:=by
 have h1:=Q6 T v hb;rw [h] at h1;unfold xO;by_cases hf:b<f
 ·have h2:=xN (p:=T.free) (q:=(T.set b v).free) (n:=f) hf (fun i _ BU=>by simp [zW.free,zW.set,BU])
  rw [h] at h2;simp only [Bool.false_eq_true,if_false] at h1 h2;omega
 ·have h2:cnt f (T.set b v).free=cnt f T.free:=zZ fun i hi=>by
   have:i≠b:=zo;simp [zW.free,zW.set,this]
  rw [h2];simp only [Bool.false_eq_true,if_false] at h1;omega
structure Z3 (S:PS):Prop where
 ok:JL S.T S.n S.a
 f:S.K.first<=S.K.next
 nx:S.K.next<=S.T.n
 room:(S.left:Int)<=xO S.T S.K.first
theorem mH (h:JL S.T S.n S.a) (hk:k<2) (hi:i<S.n k) (f:Nat):xO S.T f<=xO (S.T1 k i) f:=by
 unfold PS.T1
 split
 ·exact Int.le_refl _
 ·rename_i h0
  have ⟨h1,h2⟩:=h.has k i hk hi h0;rw [aP h1 h2];exact iF h1 (by simp [zW.free,h2])
theorem Z3.block (H:Z3 S) (hk:k<2) (hi:i<S.n k) (hw:S.want k i=true):∃ b,Ye (S.T1 k i) S.K=some b/\S.K.first<=b/\b<S.T.n/\(S.T1 k i).free b=true:=by
 have:=PS.left_pos hk hi hw;have:=mH H.ok hk hi S.K.first;have:=H.room
 cases ht:Ye (S.T1 k i) S.K with
 | none =>
  have:=dQ H.f (by rw [O7];exact H.nx) ht;omega
 | some b =>
  obtain ⟨h1,h2,h3⟩:=Qa H.f (by rw [O7];exact H.nx) ht;rw [O7] at h2;exact ⟨b,rfl,h1,h2,h3⟩
theorem Z3.err (H:Z3 S) (hk:k<2) (hi:i<S.n k) (hw:S.want k i=true):Jp (S.T1 k i) S.K=0:=by
 obtain ⟨b,h,_⟩:=H.block hk hi hw;unfold Jp;rw [h]
theorem Z3.step {S:PS} (H:Z3 S) {k i:Nat} (hk:k<2) (hi:i<S.n k) (hw:S.want k i=true):Z3 (S.step k i):=by
 obtain ⟨b,ht,h1,h2,h3⟩:=H.block hk hi hw;have ⟨e1,e2⟩:=XP ht;have hKb:=QF (T:=S.T1 k i) H.f (by rw [O7];exact H.nx);have DX:=fun x=>Ad H.ok hk hi x
 have DW:(S.T1 k i).now b=0:=by
  simp only [zW.free,Bool.and_eq_true,beq_iff_eq] at h3;exact h3.1
 have keep:∀ k' i',k'<2->i'<S.n k'->¬ (k'=k/\i'=i)->S.a k' i'≠0->(S.T1 k i).now (S.a k' i')≠0/\S.a k' i'≠b:=by
  intro k' i' De hi' BU h0;have hh:=(H.ok.has k' i' De hi' h0).2
  have e:(S.T1 k i).now (S.a k' i')=S.T.now (S.a k' i'):=by
   rw [DX,if_neg];rintro ⟨e,_⟩;exact BU (H.ok.apart k' i' k i De hi' hk hi h0 e)
  refine ⟨by rw [e];exact hh,fun q=>?_⟩;rw [q] at e;rw [DW,<- q] at e;exact hh e.symm
 have hn:(S.step k i).T.n=S.T.n:=by rw [e1];exact O7 S k i
 refine ⟨⟨?_,?_,?_,?_⟩,hKb.1,?_,?_⟩
 ·rw [hn];exact H.ok.n0
 ·rw [hn];exact H.ok.n1
 ·intro k' i' De hi' h0
  rw [hn,e1]
  show _<S.T.n/\((S.T1 k i).set b 1).now _≠0
  by_cases e:k'=k/\i'=i
  ·obtain ⟨rfl,rfl⟩:=e
   have ea:(S.step k' i').a k' i'=b:=by show XO S.a k' i' _ k' i'=b;rw [Yw,e2]
   rw [ea,Xp,if_pos rfl];exact ⟨h2,zo⟩
  ·have ea:(S.step k i).a k' i'=S.a k' i':=xS _ _ e
   rw [ea] at h0 ⊢;have ⟨q1,q2⟩:=keep k' i' De hi' e h0;rw [Xp,if_neg q2];exact ⟨(H.ok.has k' i' De hi' h0).1,q1⟩
 ·intro k' i' LP LO De hi' hk'' Iu h0 he
  by_cases e:k'=k/\i'=i
  ·obtain ⟨rfl,rfl⟩:=e
   have ea:(S.step k' i').a k' i'=b:=by show XO S.a k' i' _ k' i'=b;rw [Yw,e2]
   by_cases e':LP=k'/\LO=i'
   ·exact ⟨e'.1.symm,e'.2.symm⟩
   ·have UT:(S.step k' i').a LP LO=S.a LP LO:=xS _ _ e'
    rw [UT] at he;exact absurd (he.symm.trans ea) (keep LP LO hk'' Iu e' (by rw [<- he];exact h0)).2
  ·have ea:(S.step k i).a k' i'=S.a k' i':=xS _ _ e
   by_cases e':LP=k/\LO=i
   ·obtain ⟨rfl,rfl⟩:=e'
    have UT:(S.step LP LO).a LP LO=b:=by show XO S.a LP LO _ LP LO=b;rw [Yw,e2]
    rw [ea] at he h0;exact absurd (he.trans UT) (keep k' i' De hi' e h0).2
   ·have UT:(S.step k i).a LP LO=S.a LP LO:=xS _ _ e'
    rw [ea] at he h0;rw [UT] at he;exact H.ok.apart k' i' LP LO De hi' hk'' Iu h0 he
 ·have:=hKb.2.1
  rw [O7] at this;rw [hn];exact this
 ·have hl:=PS.left_step hk hi hw
  have hr:=mH H.ok hk hi S.K.first;have Er:=H.room;have hs:=dR (T:=S.T1 k i) h1 (by rw [O7];exact h2) h3;have ef:(S.step k i).K.first=S.K.first:=hKb.2.2.2;rw [ef,e1,hs];omega
theorem Z3.start {K:Pk} {n:zF} {a:Nat->Nat->Nat} (h:JL T n a) (hf:K.first<=K.next) (hn:K.next<=T.n) (hr:(qu T.n:Int)<=xO T K.first):Z3 ⟨T,K,n,a,fun _ _=>false⟩:=by
 refine ⟨h,hf,hn,?_⟩;have h0:cnt (n 0) (fun i=>true)=n 0:=J8 _;have h1:cnt (n 1) (fun i=>true)=n 1:=J8 _
 have:(PS.left ⟨T,K,n,a,fun _ _=>false⟩)=qu T.n:=by
  unfold PS.left qu;simp only [Bool.not_false];rw [h0,h1,h.n0,h.n1]
 rw [this];exact hr
structure Zf (w:World) (l:List (Nat × Obj)) (W:World):Prop where
 chg:zv [] w W
 at_:∀ b o,(b,o)∈l->W.heap[b]?=some o/\w.heap.size<=b
 nd:(l.map Prod.fst).Nodup
theorem Zf.step {W':World} (h:Zf w l W) (c:zv [] W W') (hb:W'.heap[b]?=some o) (hs:W.heap.size<=b):Zf w ((b,o)::l) W':=by
 refine ⟨h.chg.trans c,fun k q hq=>?_,List.nodup_cons.2 ⟨fun hm=>?_,h.nd⟩⟩
 ·rcases ya.1 hq with e | hq
  ·cases e;exact ⟨hb,qh h.chg.size hs⟩
  ·have hk:=h.at_ k q hq
   exact ⟨c.kp hk.1,hk.2⟩
 ·obtain ⟨⟨k,q⟩,hq,rfl⟩:=yw.1 hm
  exact absurd (zz (h.at_ k q hq).1) (by show ¬ k<_;omega)
theorem Zf.new (h:Zf w l W) (o:Obj):∃ b X,W.alloc o=X/\W.heap.size=b/\Zf w ((b,o)::l) X :=
 ⟨_,_,rfl,rfl,h.step ((zv.refl [] W).alloc o) (xo W o) (xd _)⟩
theorem Zf.get (h:Zf w l W) (hm:(b,o)∈l:=by repeat first | exact yJ | refine zco _ ?_):W.heap[b]?=some o/\w.heap.size<=b:=h.at_ b o hm
theorem Zf.set {cs:Array Value} {T:TypeId} (h:Zf w l W) (v:Value) (hb:(b,.cells cs T (0,0))∈l:=by repeat first | exact yJ | refine zco _ ?_):zv [] w (W.setCell ⟨b,i,none⟩ v)/\(W.setCell ⟨b,i,none⟩ v).heap[b]?=some (.cells (cs.setIfInBounds i v) T (0,0))/\∀ k o,W.heap[k]?=some o->k≠b->(W.setCell ⟨b,i,none⟩ v).heap[k]?=some o :=
 ⟨h.chg.setCell (.inr (h.at_ _ _ hb).2) _,Yh (h.at_ _ _ hb).1 i v,fun k o hk e=>(ZS i v e).trans hk⟩
end Go.Proofs.YtegpiomkmfhadaaGreat
