/- Layer 10: place.Place. · catchmentlaw08 -/
import Derived.Test.YtegpiomkmfhadaaGreatZo09
set_option linter.all false
set_option maxRecDepth 100000
set_option maxHeartbeats 20000000
namespace Go.Proofs.YtegpiomkmfhadaaGreat
open Go.RowKit
variable {w w7 W w4 wr w':World} {base k qb xb p t bc bk r i:Nat} {v v0 v1 u4 u5 vq:Value} {l:List Nat} {A a:Nat->Nat->Nat} {n g h c:zF} {Kp:Pk} {T:zW} {S F:PS}
def PS.start (T:zW) (K:Pk) (n:zF) (a:Nat->Nat->Nat):PS:=⟨T,K,n,a,fun _ _=>false⟩
def rU (w:World) (p t bc bk:Nat) (F:PS) (e:Ending) (w':World):Prop :=
 ∃ u0 u1 z0 z1 g c,e = .returned (.tuple #[.agg #[u0,u1],z0,z1,.int .i64 0])/\gQ w' u0 u1 F.a F.n g c/\Y9 w' z0 (xm (F.p 0) (F.n 0))/\Y9 w' z1 (xm (F.p 1) (F.n 1))/\PT w' p t bc bk F.K F.T /\
  zv [p,t,bc,bk] w w'/\(∀ k,k<2->w.heap.size<=g k)/\g 0≠g 1/\(∀ b,z0.ownBlock=some b->w.heap.size<=b)/\(∀ b,z1.ownBlock=some b->w.heap.size<=b)
theorem uW (h:w.ownsRow base 3 1 v l.length (xC l)) (h0:0<l.length) :
  ∃ g c BV,v = zS g l.length c/\base<=g/\w.heap[g]?=some (.cells BV 3 (0,0))/\BV.size=c/\l.length<=c/\c<=maxLen/\∀ i,i<l.length->BV[i]?=some (.int .i64 ((l.getD i 0:Nat):Int)):=by
 rcases h.2 with ⟨_,h1⟩ | ⟨g,cap,BV,h1,h2,h3,h4,h5,h6,h7⟩
 ·omega
 ·refine ⟨g,cap,BV,h1,h2,h3,by simpa using h6,h4,h5,fun i hi=>?_⟩
  have:(BV.toList.take (l.length*1))[i]?=(xC l)[i]?:=by rw [h7]
  rw [List.getElem?_take,if_pos zo] at this;simpa [xC,zgD,hi] using this
theorem Ah {c:Nat} {BV:Array Value} (h:BV.size=c/\(Qp A n k).length<=c/\c<=maxLen/\∀ i,i<(Qp A n k).length->BV[i]?=some (.int .i64 (((Qp A n k).getD i 0:Nat):Int))) :
  BV.size=c/\n k<=c/\c<=maxLen/\∀ i,i<n k->BV[i]?=some (.int .i64 (A k i:Int)):=by
 rw [xF] at h;exact ⟨h.1,h.2.1,h.2.2.1,fun i hi=>by rw [h.2.2.2 i hi,Y0 _ _ hi]⟩
theorem aT:(Tryz.prog.info? 4).map (fun i=>(i.zero,i.size,i.bytes))=some (some (.bool false),1,1):=zab
def Bp (w:World) (t p:Nat) (A:Nat->Nat->Nat) (n:zF) (q:Value) (W:World):Prop :=
 ∃ (qb xb:Nat) (g c:zF),q = zP qb/\W.heap[qb]?=some (.cells #[zP xb] 238 (0,0)) /\
  W.heap[xb]?=some (.cells #[zP t,zP p,zS (g 0) (n 0) (c 0),zS (g 1) (n 1) (c 1),.slice none 0 0,.slice none 0 0] 243 (0,0)) /\
  (∀ k,k<2->∃ BV,W.heap[g k]?=some (.cells BV 3 (0,0))/\BV.size=c k/\n k<=c k/\c k<=maxLen/\∀ i,i<n k->BV[i]?=some (.int .i64 (A k i:Int))) /\
  ([qb,xb,g 0,g 1].Nodup)/\(∀ b,b∈[qb,xb,g 0,g 1]->w.heap.size<=b)/\zv [] w W
theorem AV {g0 g1:Nat} {a0 a1:Addr} (Cp:[qb,xb,g0,g1].Nodup) (lxb:xb<w7.heap.size) (lq:qb<w7.heap.size) (ha0:a0.block<w7.heap.size) (PO:a1.block<w7.heap.size) (e0:a0.block≠xb) (e1:a1.block≠xb) (hC:zv [] w7 W)
  (hq:w7.cell? ⟨qb,0,none⟩=some vq) (h0:w7.cell? a0=some v0) (h1:w7.cell? a1=some v1) :
  ((W.setCell ⟨xb,4,none⟩ u4).setCell ⟨xb,5,none⟩ u5).cell? ⟨qb,0,none⟩=some vq/\((W.setCell ⟨xb,4,none⟩ u4).setCell ⟨xb,5,none⟩ u5).cell? a0=some v0/\((W.setCell ⟨xb,4,none⟩ u4).setCell ⟨xb,5,none⟩ u5).cell? a1=some v1:=by
 have C:zv [xb] w7 ((W.setCell ⟨xb,4,none⟩ u4).setCell ⟨xb,5,none⟩ u5):=((hC.mo).setCell (.inl zaa) _).setCell (.inl zaa) _;simp only [List.nodup_cons,ya,yk,or_false,not_or,List.nodup_nil,and_true] at Cp;exact ⟨(C.cell (p:=⟨qb,0,none⟩) lq (by simp;exact Cp.1.1)).trans hq,(C.cell ha0 (by simp;exact e0)).trans h0,(C.cell PO (by simp;exact e1)).trans h1⟩
theorem rV {h0 h1:Nat} {g' c':zF} (hp:PT w4 p t bc bk Kp T) (ho:JL T n A) (hn:1<=n 0/\n 0<=4096/\1<=n 1/\n 1<=4096)
  (hx:W.heap[xb]?=some (.cells #[zP t,zP p,zS (g' 0) (n 0) (c' 0),zS (g' 1) (n 1) (c' 1),.slice none 0 0,.slice none 0 0] 243 (0,0)))
  (hq:w7.heap[qb]?=some (.cells #[zP xb] 238 (0,0)))
  (ha:∀ k,k<2->∃ BV,w7.heap[g' k]?=some (.cells BV 3 (0,0))/\BV.size=c' k/\n k<=c' k/\c' k<=maxLen/\∀ i,i<n k->BV[i]?=some (.int .i64 (A k i:Int)))
  (Cp:[qb,xb,g' 0,g' 1].Nodup) (GD:∀ b,b∈[qb,xb,g' 0,g' 1]->w4.heap.size<=b) (PK:zv [] w4 w7) (hC:zv [] w7 W) (lxb:xb<w7.heap.size)
  (DW:W.heap[h0]?=some (.cells (zO (n 0) (.bool false)) 4 (0,0))) (al:W.heap[h1]?=some (.cells (zO (n 1) (.bool false)) 4 (0,0))) (BU:h0≠h1) (hh0:w7.heap.size<=h0) (hh1:w7.heap.size<=h1) :
  Hd (∃ h:Nat->Nat,ZP ((W.setCell ⟨xb,4,none⟩ (zS h0 (n 0) (n 0))).setCell ⟨xb,5,none⟩ (zS h1 (n 1) (n 1))) xb p t bc bk g' h c' (PS.start T Kp n A) /\
   ((W.setCell ⟨xb,4,none⟩ (zS h0 (n 0) (n 0))).setCell ⟨xb,5,none⟩ (zS h1 (n 1) (n 1))).heap[qb]?=some (.cells #[zP xb] 238 (0,0)) /\
   zv [] w4 ((W.setCell ⟨xb,4,none⟩ (zS h0 (n 0) (n 0))).setCell ⟨xb,5,none⟩ (zS h1 (n 1) (n 1)))/\(∀ k,k<2->w4.heap.size<=h k)/\qb≠h 0/\qb≠h 1):=by
 have:=PK.size;have C7:zv [xb] w7 ((W.setCell ⟨xb,4,none⟩ (zS h0 (n 0) (n 0))).setCell ⟨xb,5,none⟩ (zS h1 (n 1) (n 1))):=((hC.mo).setCell (.inl zaa) _).setCell (.inl zaa) _;have hgx:=GD xb zaa;have:=GD qb zaa;have:=GD (g' 0) zaa;have:=GD (g' 1) zaa;have C4:zv [] w4 ((W.setCell ⟨xb,4,none⟩ (zS h0 (n 0) (n 0))).setCell ⟨xb,5,none⟩ (zS h1 (n 1) (n 1))):=((PK.trans hC).setCell (.inr hgx) _).setCell (.inr hgx) _;simp only [List.nodup_cons,ya,yk,or_false,not_or,List.nodup_nil,and_true] at Cp;obtain ⟨⟨n1,n2,n3⟩,⟨n4,n5⟩,n6,_⟩:=Cp;have lq:=zz hq;obtain ⟨cur0,a0,_⟩:=ha 0 zo;obtain ⟨cur1,a1,_⟩:=ha 1 zo;have:=zz a0;have:=zz a1;have:=hp.hp.lt;have lt0:=hp.ht.lt0;have lt1:=hp.ht.lt1;have lt2:=hp.ht.lt2;have pn:=Vd hp.hp hp.ht;simp only [ya,yk,or_false,not_or] at pn;have:=hp.ht.ne;have:=hp.ht.ne1;have:=hp.ht.ne2;have GW:=Yh (Yh hx 4 (zS h0 (n 0) (n 0))) 5 (zS h1 (n 1) (n 1));have hx7:h0≠xb/\h1≠xb:=zo
 refine ⟨fun k=>if k=0 then h0 else h1,⟨hp.chg C4,?_,?_,?_,?_,ho.n0,ho.n1⟩,?_,C4,?_,?_,?_⟩
 ·rw [GW];rfl
 ·intro k hk
  obtain ⟨BV,b1,b2⟩:=ha k hk;refine ⟨BV,(C7.block _ (zz b1) ?_).trans b1,b2⟩;have Cy:k=0∨k=1:=zo;simp only [zms];rcases Cy with rfl | rfl
  ·exact Ne.symm n4
  ·exact Ne.symm n5
 ·intro k hk
  have Cy:k=0∨k=1:=zo;rcases Cy with rfl | rfl
  ·exact (ZS 5 _ hx7.1).trans ((ZS 4 _ hx7.1).trans (by rw [DW,aO];rfl))
  ·exact (ZS 5 _ hx7.2).trans ((ZS 4 _ hx7.2).trans (by rw [al,aO];rfl))
 ·simp
  omega
 ·exact (C7.block _ lq (by simp;exact n1)).trans hq
 ·intro k hk
  have Cy:k=0∨k=1:=zo;rcases Cy with rfl | rfl <;> simp <;> omega
 ·simp;omega
 ·simp;omega
structure Vi (w4 wr:World) (xb qb p t bc bk:Nat) (g h c:zF) (S F:PS) (n:zF):Prop where
 sh:ZP wr xb p t bc bk g h c S
 inv:Z3 S
 fin:S.fin=F
 nn:S.n=n
 tn:True
 q:wr.heap[qb]?=some (.cells #[zP xb] 238 (0,0))
 chg:zv [p,t,bc,bk] w4 wr
theorem Vi.on (H:Vi w4 wr xb qb p t bc bk g h c S F n) (C:zv [] wr w'):Vi w4 w' xb qb p t bc bk g h c S F n :=
 { H with sh:=H.sh.chg C,q:=C.kp H.q,chg:=H.chg.trans (C.mo) }
theorem Vi.step {S2:PS} (H:Vi w4 wr xb qb p t bc bk g h c S F n) (hs:ZP w' xb p t bc bk g h c S2) (C:zv [g 0,g 1,h 0,h 1,p,t,bc,bk] wr w') (hi:Z3 S2) (hf:S.fin=S2.fin)
  (h0:w4.heap.size<=h 0) (h1:w4.heap.size<=h 1) (q0:qb≠h 0) (q1:qb≠h 1) (Cp:[qb,xb,g 0,g 1].Nodup) (GD:∀ b,b∈[qb,xb,g 0,g 1]->w4.heap.size<=b) (BY:p<w4.heap.size/\t<w4.heap.size/\bc<w4.heap.size/\bk<w4.heap.size) (hn:S2.n=S.n:=by rfl):Vi w4 w' xb qb p t bc bk g h c S2 F n:=by
 have:=GD qb zaa;have:=GD (g 0) zaa;have:=GD (g 1) zaa;simp only [List.nodup_cons,ya,yk,or_false,not_or,List.nodup_nil,and_true] at Cp;refine { sh:=hs,inv:=hi,fin:=by rw [<- hf];exact H.fin,nn:=hn.trans H.nn,tn:=trivial,q:=(C.block _ (zz H.q) ?_).trans H.q,chg:=H.chg.then C ?_ }
 ·simp
  omega
 ·intro i hi
  simp at hi ⊢;omega
theorem AW {v2 v3 v4 v5:Value} {c0:Nat} (hC:zv [] w7 W) (lq:qb<w7.heap.size) (lx:xb<w7.heap.size) (e0:qb≠r) (e1:xb≠r)
  (hq:w7.cell? ⟨qb,0,none⟩=some vq) (h2:w7.cell? ⟨xb,2,none⟩=some v2) (h3:w7.cell? ⟨xb,3,none⟩=some v3) (h4:w7.cell? ⟨xb,4,none⟩=some v4) (h5:w7.cell? ⟨xb,5,none⟩=some v5) :
  ((W.setCell ⟨r,0,none⟩ u4).setCell ⟨r,1,none⟩ u5).cell? ⟨qb,0,none⟩=some vq/\((W.setCell ⟨r,0,none⟩ u4).setCell ⟨r,1,none⟩ u5).cell? ⟨xb,2,none⟩=some v2 /\
   ((W.setCell ⟨r,0,none⟩ u4).setCell ⟨r,1,none⟩ u5).cell? ⟨xb,3,none⟩=some v3/\((W.setCell ⟨r,0,none⟩ u4).setCell ⟨r,1,none⟩ u5).cell? ⟨xb,4,none⟩=some v4/\((W.setCell ⟨r,0,none⟩ u4).setCell ⟨r,1,none⟩ u5).cell? ⟨xb,5,none⟩=some v5:=by
 have C:zv [r] w7 ((W.setCell ⟨r,0,none⟩ u4).setCell ⟨r,1,none⟩ u5):=((hC.mo).setCell (.inl zaa) _).setCell (.inl zaa) _;exact ⟨(C.cell (p:=⟨qb,0,none⟩) lq (by simp;exact e0)).trans hq,(C.cell (p:=⟨xb,2,none⟩) lx (by simp;exact e1)).trans h2,(C.cell (p:=⟨xb,3,none⟩) lx (by simp;exact e1)).trans h3,(C.cell (p:=⟨xb,4,none⟩) lx (by simp;exact e1)).trans h4,(C.cell (p:=⟨xb,5,none⟩) lx (by simp;exact e1)).trans h5⟩
theorem ZP.sl {x:Nat} (H:ZP w x p t bc bk g h c S):gQ w (zS (g 0) (S.n 0) (c 0)) (zS (g 1) (S.n 1) (c 1)) S.a S.n g c:=by
 refine ⟨rfl,rfl,fun k hk=>?_⟩;obtain ⟨BV,h1,h2,h3,h4,h5⟩:=H.ats k hk;refine .inr ⟨g k,c k,by rw [xF],by rw [xF];exact h3,h4,zz h1,fun i hi=>?_⟩;rw [xF] at hi;rw [zM h1,h5 i hi,Y0 _ _ hi]
theorem kY {W1:World} {z0 z1:Value} (Ds:zv [] w w4) (HR:Vi w4 wr xb qb p t bc bk g h c S F n) (hF:S.fin=S) (GD:∀ b,b∈[qb,xb,g 0,g 1]->w4.heap.size<=b) (Cp:[qb,xb,g 0,g 1].Nodup)
  (hr:W.heap[r]?=some (.cells #[.slice none 0 0,.slice none 0 0] 50 (0,0))) (hC:zv [] wr W) (Ia:Y9 W1 z0 (xm (S.p 0) (S.n 0))) (Lj:Y9 W z1 (xm (S.p 1) (S.n 1))) (hD:zv [] W1 W) {B0 B1 B2 B3:Nat}
  (ho0:∀ b,z0.ownBlock=some b->B0<=b/\b<B2) (Hg:∀ b,z1.ownBlock=some b->B1<=b/\b<B3) (hB0:w4.heap.size<=B0/\w.heap.size<=B0) (EI:w4.heap.size<=B1/\w.heap.size<=B1) (BY:p<w.heap.size/\t<w.heap.size/\bc<w.heap.size/\bk<w.heap.size) (Gc:w.heap.size<=r/\r<w4.heap.size) :
  ∀ W2,W2=(W.setCell ⟨r,0,none⟩ (zS (g 0) (S.n 0) (c 0))).setCell ⟨r,1,none⟩ (zS (g 1) (S.n 1) (c 1)) ->
   W2.cell? ⟨r,0,none⟩=some (zS (g 0) (S.n 0) (c 0))/\W2.cell? ⟨r,1,none⟩=some (zS (g 1) (S.n 1) (c 1)) /\
   rU w p t bc bk F (.returned (.tuple #[.agg #[zS (g 0) (S.n 0) (c 0),zS (g 1) (S.n 1) (c 1)],z0,z1,.int .i64 0])) W2:=by
 rintro W2 rfl;have hFS:S=F:=by rw [<- hF];exact HR.fin
 subst hFS;have hW:=Yh (Yh hr 0 (zS (g 0) (S.n 0) (c 0))) 1 (zS (g 1) (S.n 1) (c 1));have k0:=zM hW 0;have k1:=zM hW 1;simp only [sA1,sA2,sA3,tA1,tA3,tA2] at k0 k1;have:=GD (g 0) zaa;have:=GD (g 1) zaa;simp only [List.nodup_cons,ya,yk,or_false,not_or,List.nodup_nil,and_true] at Cp;have:=Ds.size;have CR:zv [r] W ((W.setCell ⟨r,0,none⟩ (zS (g 0) (S.n 0) (c 0))).setCell ⟨r,1,none⟩ (zS (g 1) (S.n 1) (c 1))):=((zv.refl _ _).setCell (.inl zaa) _).setCell (.inl zaa) _;have Ca:zv [r] wr ((W.setCell ⟨r,0,none⟩ (zS (g 0) (S.n 0) (c 0))).setCell ⟨r,1,none⟩ (zS (g 1) (S.n 1) (c 1))):=(hC.mo).trans CR;refine ⟨k0,k1,_,_,z0,z1,g,c,rfl,(HR.sh.sl).chg Ca zae zae,(Ia.chg hD).chg CR (fun b hb=>by have:=ho0 b hb;simp;omega),Lj.chg CR (fun b hb=>by have:=Hg b hb;simp;omega),HR.sh.pt.chg Ca zae zae zae zae,?_,fun k hk=>?_,?_,fun b hb=>?_,fun b hb=>?_⟩
 ·have c1:zv [p,t,bc,bk] w wr:=(Ds.mo).trans HR.chg
  exact c1.then Ca (fun i hi=>by simp at hi;right;omega)
 ·have Cy:k=0∨k=1:=zo
  rcases Cy with rfl | rfl <;> omega
 ·omega
 ·have:=ho0 b hb;omega
 ·have:=Hg b hb;omega
theorem rW (H:PT w p t bc bk Kp T) (hv:gQ w v0 v1 A n g c) (ho:JL T n A) (hr:(qu T.n:Int)<=xO T Kp.first) :
    zC 89 #[zP t,zP p,.agg #[v0,v1]] w (rU w p t bc bk (PS.start T Kp n A).fin):=by
  have n1:=H.ht.n1;have n2:=H.ht.n2;have:=qh H.f H.n;have HH:=zh H;have HV:=zh hv;have HO:=zh ho;have e0:=hv.e0;have e1:=hv.e1;subst e0 e1;have al:=kC w (.cells #[zS (g 0) (n 0) (c 0),zS (g 1) (n 1) (c 1)] 50) (.cells #[.slice none 0 0,.slice none 0 0] 50);have Cr:=cZ w (.cells #[zS (g 0) (n 0) (c 0),zS (g 1) (n 1) (c 1)] 50) (.cells #[.slice none 0 0,.slice none 0 0] 50);have Do:zv [] w ((w.alloc (.cells #[zS (g 0) (n 0) (c 0),zS (g 1) (n 1) (c 1)] 50)).alloc (.cells #[.slice none 0 0,.slice none 0 0] 50)):=((zv.refl [] w).alloc _).alloc _;clear hv ho H;go_enter Tryz.func89,Tryz.ntmps89;go_wp2_with fail;generalize (w.alloc _).alloc _=w2 at *;have:=zz Cr;obtain ⟨x0,x1⟩:=uj al;have Py:=zh al;have IN:=zh Cr;have BZ:=zh Do;have MW:=zh (HH.chg Do);have HV2:=zh (HV.chg Do);clear al Cr Do;refine zm (xI MW.ht) ?_;have:¬ (T.n:Int)=0:=zo
  go_wp2_with fail;refine (iB MW.ht HV2 HO).mono ?_;rintro e w4 ⟨rfl,Ds⟩;have RH:=zh (MW.chg Ds);have HV4:=zh (HV2.chg Ds);have HB4:=zh (Ds.kp Py);have Lp:=zh (Ds.kp IN);have C6:=zh (BZ.trans Ds);clear Ds x0 x1;go_wp2_with fail;refine zm (PT.room RH) ?_;go_wp2_with fail;refine zm (xI RH.ht) ?_;go_wp2_with fail;refine zm (fU _ n1 n2) ?_;have:¬ xO T Kp.first<(qu T.n:Int):=zo
  have FI:=HB4.o;obtain ⟨x0,x1⟩:=uj FI;have lx:=zz FI;clear FI
  have Gy:Hd (1<=n 0/\n 0<=4096/\1<=n 1/\n 1<=4096):=zh (by
    have p1:=JM n1;have:=Js (n:=T.n);have:=JM p1;have:=Js (n:=pg T.n);rw [HO.n0,HO.n1];omega)
  have HNP:Hd (w.heap.size+1∉[p,t,bc,bk]):=zh (by
    have a0:=HH.hp.lt;have a1:=HH.ht.lt0;have a2:=HH.ht.lt1;have a3:=HH.ht.lt2;simp;omega)
  go_upto_region 7 with fail;go_cut [10] (fun q wr=>Hd (Bp w4 t p A n q wr))
  case first =>
    have Z:Hd (Zf w4 [] w4.drew):=zh ⟨(zv.refl [] w4).drew,zaa,zaa⟩;have KS:Hd (∀ W,zv [] w4 W->W.cell? ⟨w.heap.size,0,none⟩=some (zS (g 0) (n 0) (c 0))/\W.cell? ⟨w.heap.size,1,none⟩=some (zS (g 1) (n 1) (c 1))):=zh fun W h=>⟨h.ce x0 lx,h.ce x1 lx⟩
    have CL:Hd (∀ k,k<2->∀ l W,Zf w4 l W->zC 138 #[zS (g k) (n k) (c k)] W fun e W'=>∃ ga ca r,e = .returned (zS ga (n k) ca)/\Zf w4 ((ga,.cells r 3 (0,0))::l) W'/\r.size=ca/\n k<=ca/\ca<=maxLen/\∀ i,i<n k->r[i]?=some (.int .i64 (A k i:Int))):=zh fun k hk l W z=>by
      have hb:1<=n k/\n k<=4096:=by
        have:=Gy.o;rcases (show k=0∨k=1 by omega) with rfl | rfl <;> omega
      refine (oo (l:=Qp A n k) (xF A n k).symm ((HV4.l k hk).chg z.chg) (by rw [xF];omega)).mono ?_;rintro e W' ⟨v,rfl,ho,hD⟩;obtain ⟨ga,ca,r,rfl,h1,h2,h3⟩:=uW ho (by rw [xF];omega);exact ⟨ga,ca,r,by rw [xF],z.step hD h2 h1,Ah h3⟩
    refine wp_region_held_drew (S:=fun W'=>W'.cell? ⟨w.heap.size,0,none⟩=some (zS (g 0) (n 0) (c 0))/\W'.cell? ⟨w.heap.size,1,none⟩=some (zS (g 1) (n 1) (c 1))) zab (by exact ⟨x0,x1⟩) fun BS=>?_;refine XH 0 ?_;refine XH 1 ?_;refine XH 2 ?_;refine XH 3 ?_;refine XH 5 ?_;refine XH 6 ?_;refine zu ?_;generalize w4.drew=w6 at *;refine wR [4,11] ?_;refine wC (fun K hK=>?_) ?_
    (go_simp;refine (CL 0 zo _ _ Z).mono ?_;clear Z;rintro e w6 ⟨ga,ca,ra,rfl,z,pa⟩;have Z:=zh z;have Pa:=zh pa;clear z pa)
    refine hK.out _ _ (KS _ Z.chg) fun BS=>?_;clear hK K;refine zu ?_;refine wR [7,11] ?_;refine wC (fun K hK=>?_) ?_
    (go_simp;refine (CL 1 zo _ _ Z).mono ?_;clear Z;rintro e w6 ⟨gb,cb,rb,rfl,z,pb⟩;have Z:=zh z;have Pb:=zh pb;clear z pb)
    refine hK.out _ _ (KS _ Z.chg) fun BS=>?_;clear hK K;refine zu ?_;refine XH 8 ?_;refine XH 9 ?_;refine zu ?_;refine wR [10,11] ?_;refine wC (fun K hK=>?_) ?_
    (go_simp;obtain ⟨xb,w6,e1,e2,z⟩:=Z.new (.cells #[zP t,zP p,zS ga (n 0) ca,zS gb (n 1) cb,.slice none 0 0,.slice none 0 0] 243);rw [e1,e2];clear Z e1 e2;have Z:=zh z;clear z)
    refine hK.out _ _ (KS _ Z.chg) fun BS=>?_;clear hK K;refine zu ?_;refine wE 11 (fun K hK=>?_)
    (go_simp;obtain ⟨qb,w6,e1,e2,z⟩:=Z.new (.cells #[.pointer none] 238);rw [e1,e2];clear Z e1 e2;have Z:=zh z;clear z)
    refine hK.out _ _ (KS _ Z.chg) fun BS=>?_;clear hK K;refine zu ?_;refine wE 12 (fun K hK=>?_)
    (have zq:=Z.get (b:=qb);have fz:=xB zq.1 0;have zc:=zM zq.1 0;simp only [tA1,tA3] at zc;go_simp;obtain ⟨z1,z2,z3⟩:=Z.set (b:=qb) (i:=0) (zP xb);have Y:=zh (zA z1 (zA z2 z3));clear zq fz zc z1 z2 z3)
    refine hK.out _ _ (KS _ Y.1) fun BS=>?_;clear hK K;refine zu ?_
    rotate_left 1
    refine wD (fun K hK=>?_)
    (go_simp;obtain ⟨qb,w6,e1,e2,z⟩:=Z.new (.cells #[.pointer none] 238);rw [e1,e2];clear Z e1 e2;have Z:=zh z;clear z)
    refine hK.out _ _ (KS _ Z.chg) fun BS=>?_;clear hK K;refine zu ?_;refine wE 10 (fun K hK=>?_)
    (go_simp;obtain ⟨xb,w6,e1,e2,z⟩:=Z.new (.cells #[zP t,zP p,zS ga (n 0) ca,zS gb (n 1) cb,.slice none 0 0,.slice none 0 0] 243);rw [e1,e2];clear Z e1 e2;have Z:=zh z;clear z)
    refine hK.out _ _ (KS _ Z.chg) fun BS=>?_;clear hK K;refine zu ?_;refine wE 12 (fun K hK=>?_)
    (have zq:=Z.get (b:=qb);have fz:=xB zq.1 0;have zc:=zM zq.1 0;simp only [tA1,tA3] at zc;go_simp;obtain ⟨z1,z2,z3⟩:=Z.set (b:=qb) (i:=0) (zP xb);have Y:=zh (zA z1 (zA z2 z3));clear zq fz zc z1 z2 z3)
    refine hK.out _ _ (KS _ Y.1) fun BS=>?_;clear hK K;refine zu ?_
    rotate_left 1
    refine wD (fun K hK=>?_)
    (go_simp;obtain ⟨qb,w6,e1,e2,z⟩:=Z.new (.cells #[.pointer none] 238);rw [e1,e2];clear Z e1 e2;have Z:=zh z;clear z)
    refine hK.out _ _ (KS _ Z.chg) fun BS=>?_;clear hK K;refine zu ?_;refine wE 7 (fun K hK=>?_)
    (go_simp;refine (CL 1 zo _ _ Z).mono ?_;clear Z;rintro e w6 ⟨gb,cb,rb,rfl,z,pb⟩;have Z:=zh z;have Pb:=zh pb;clear z pb)
    refine hK.out _ _ (KS _ Z.chg) fun BS=>?_;clear hK K;refine zu ?_;refine XH 8 ?_;refine XH 9 ?_;refine zu ?_;refine wE 10 (fun K hK=>?_)
    (go_simp;obtain ⟨xb,w6,e1,e2,z⟩:=Z.new (.cells #[zP t,zP p,zS ga (n 0) ca,zS gb (n 1) cb,.slice none 0 0,.slice none 0 0] 243);rw [e1,e2];clear Z e1 e2;have Z:=zh z;clear z)
    refine hK.out _ _ (KS _ Z.chg) fun BS=>?_;clear hK K;refine zu ?_;refine wE 12 (fun K hK=>?_)
    (have zq:=Z.get (b:=qb);have fz:=xB zq.1 0;have zc:=zM zq.1 0;simp only [tA1,tA3] at zc;go_simp;obtain ⟨z1,z2,z3⟩:=Z.set (b:=qb) (i:=0) (zP xb);have Y:=zh (zA z1 (zA z2 z3));clear zq fz zc z1 z2 z3)
    refine hK.out _ _ (KS _ Y.1) fun BS=>?_;clear hK K;refine zu ?_
    rotate_left 1
    refine wD (fun K hK=>?_)
    (go_simp;obtain ⟨qb,w6,e1,e2,z⟩:=Z.new (.cells #[.pointer none] 238);rw [e1,e2];clear Z e1 e2;have Z:=zh z;clear z)
    refine hK.out _ _ (KS _ Z.chg) fun BS=>?_;clear hK K;refine zu ?_;refine wE 4 (fun K hK=>?_)
    (go_simp;refine (CL 0 zo _ _ Z).mono ?_;clear Z;rintro e w6 ⟨ga,ca,ra,rfl,z,pa⟩;have Z:=zh z;have Pa:=zh pa;clear z pa)
    refine hK.out _ _ (KS _ Z.chg) fun BS=>?_;clear hK K;refine zu ?_;refine wE 7 (fun K hK=>?_)
    (go_simp;refine (CL 1 zo _ _ Z).mono ?_;clear Z;rintro e w6 ⟨gb,cb,rb,rfl,z,pb⟩;have Z:=zh z;have Pb:=zh pb;clear z pb)
    refine hK.out _ _ (KS _ Z.chg) fun BS=>?_;clear hK K;refine zu ?_;refine XH 8 ?_;refine XH 9 ?_;refine zu ?_;refine wE 10 (fun K hK=>?_)
    (go_simp;obtain ⟨xb,w6,e1,e2,z⟩:=Z.new (.cells #[zP t,zP p,zS ga (n 0) ca,zS gb (n 1) cb,.slice none 0 0,.slice none 0 0] 243);rw [e1,e2];clear Z e1 e2;have Z:=zh z;clear z)
    refine hK.out _ _ (KS _ Z.chg) fun BS=>?_;clear hK K;refine zu ?_;refine wE 12 (fun K hK=>?_)
    (have zq:=Z.get (b:=qb);have fz:=xB zq.1 0;have zc:=zM zq.1 0;simp only [tA1,tA3] at zc;go_simp;obtain ⟨z1,z2,z3⟩:=Z.set (b:=qb) (i:=0) (zP xb);have Y:=zh (zA z1 (zA z2 z3));clear zq fz zc z1 z2 z3)
    refine hK.out _ _ (KS _ Y.1) fun BS=>?_;clear hK K;refine zu ?_
    rotate_left 1
    all_goals
      refine wpAnyH_done zab ?_ _;go_wp2_with fail;go_meet;have nd:=Z.nd;simp at nd;refine ⟨qb,xb,fun k=>if k=0 then ga else gb,fun k=>if k=0 then ca else cb,rfl,Y.2.1,Y.2.2 xb _ Z.get.1 zo,fun k hk=>?_,?_,?_,Y.1⟩
      · rcases (show k=0∨k=1 by omega) with rfl | rfl
        · exact ⟨ra,Y.2.2 ga _ Z.get.1 zo,Pa⟩
        · exact ⟨rb,Y.2.2 gb _ Z.get.1 zo,Pb⟩
      · simp
        omega
      · have h1:=(Z.get (b:=qb)).2
        have h2:=(Z.get (b:=xb)).2;have h3:=(Z.get (b:=ga)).2;have h4:=(Z.get (b:=gb)).2;intro b hb;simp at hb;omega
  case rest =>
    obtain ⟨qb,xb,g',c',rfl,hQ,hX,Wl,Cp,GD,PK⟩:=hcut.o;clear hcut
    rename World=>w7
    have q0:=zM hQ 0;simp only [tA1,tA3] at q0;have y0:=PK.ce x0 lx;have y1:=PK.ce x1 lx;have mk0:=xW (P:=Tryz.prog) 198 4 Tryz.underlying198 aT rfl .i64 .i64 (n 0) (zq Gy.o) (zq Gy.o);have mk1:=xW (P:=Tryz.prog) 198 4 Tryz.underlying198 aT rfl .i64 .i64 (n 1) (zq Gy.o) (zq Gy.o);have lq:=zz hQ;have lxb:=zz hX;have HQ:=zh hQ;have HX:=zh hX;have HATS:=zh Wl;have Ed:=zh Cp;have RF:=zh GD;have Fp:=zh PK;have Uf:=qe lx PK.size;clear hQ hX Wl Cp GD PK x0 x1;go_upto_region 8 with fail;go_cut [] (fun wr=>Hd (∃ h:Nat->Nat,ZP wr xb p t bc bk g' h c' (PS.start T Kp n A)/\wr.heap[qb]?=some (.cells #[zP xb] 238 (0,0))/\zv [] w4 wr/\(∀ k,k<2->w4.heap.size<=h k)/\qb≠h 0/\qb≠h 1))
    case first =>
      have Z:Hd (Zf w7 [] w7.drew):=zh ⟨(zv.refl [] w7).drew,zaa,zaa⟩;have KS:Hd (∀ W,zv [] w7 W->W.cell? ⟨qb,0,none⟩=some (zP xb)/\W.cell? ⟨w.heap.size,0,none⟩=some (zS (g 0) (n 0) (c 0))/\W.cell? ⟨w.heap.size,1,none⟩=some (zS (g 1) (n 1) (c 1))):=zh fun W h=>⟨h.ce q0 lq,h.ce y0 Uf,h.ce y1 Uf⟩;refine wp_region_held_drew (S:=fun W'=>W'.cell? ⟨qb,0,none⟩=some (zP xb)/\W'.cell? ⟨w.heap.size,0,none⟩=some (zS (g 0) (n 0) (c 0))/\W'.cell? ⟨w.heap.size,1,none⟩=some (zS (g 1) (n 1) (c 1))) zab (by exact ⟨q0,y0,y1⟩) fun BS=>?_;refine Jl 0 ?_;refine Jl 1 ?_;refine Jl 2 ?_;refine Jl 3 ?_;refine Jl 5 ?_;refine Jl 6 ?_;refine Jl 7 ?_;refine zu ?_
      generalize w7.drew=w8 at *;refine wR [4,8] ?_;refine wC (fun K hK=>?_) ?_
      (go_simp;obtain ⟨b0,w8,e1,e2,z⟩:=Z.new (.cells (zO (n 0) (.bool false)) 4);rw [e1,e2];clear Z e1 e2;have Z:=zh z;clear z)
      refine hK.out _ _ (KS _ Z.chg) fun BS=>?_;clear hK K;refine zu ?_;refine wE 8 (fun K hK=>?_)
      (go_simp;obtain ⟨b1,w8,e1,e2,z⟩:=Z.new (.cells (zO (n 1) (.bool false)) 4);rw [e1,e2];clear Z e1 e2;have Z:=zh z;clear z)
      refine hK.out _ _ (KS _ Z.chg) fun BS=>?_;clear hK K;refine zu ?_
      rotate_left 1
      refine wD (fun K hK=>?_)
      (go_simp;obtain ⟨b1,w8,e1,e2,z⟩:=Z.new (.cells (zO (n 1) (.bool false)) 4);rw [e1,e2];clear Z e1 e2;have Z:=zh z;clear z)
      refine hK.out _ _ (KS _ Z.chg) fun BS=>?_;clear hK K;refine zu ?_;refine wE 4 (fun K hK=>?_)
      (go_simp;obtain ⟨b0,w8,e1,e2,z⟩:=Z.new (.cells (zO (n 0) (.bool false)) 4);rw [e1,e2];clear Z e1 e2;have Z:=zh z;clear z)
      refine hK.out _ _ (KS _ Z.chg) fun BS=>?_;clear hK K;refine zu ?_
      rotate_left 1
      all_goals
        refine Jl 9 ?_;refine Jl 10 ?_;refine Jl 11 ?_;refine zu ?_;refine wE 12 (fun K hK=>?_)
        (have Rv:=(Z.chg.bl lxb).trans HX.o;have z4:=zM Rv 4;have z5:=zM Rv 5;have f4:=xB Rv 4;have f5:=xB Rv 5;simp only [tA1,tA3,tA2] at z4 z5;have Fd:=zh Rv;clear Rv;go_simp)
        refine hK.out _ _ (AV Ed lxb lq Uf Uf (fun e=>by have h1:=RF xb zaa;have h2:w.heap.size=xb:=e;omega) (fun e=>by have h1:=RF xb zaa;have h2:w.heap.size=xb:=e;omega) Z.chg q0 y0 y1) fun BS=>?_;clear hK K;refine zu ?_;refine wpAnyH_done zab ?_ _;go_wp2_with fail;go_meet;have nd:=Z.nd;simp at nd;exact rV RH HO Gy Fd HQ HATS Ed RF Fp Z.chg lxb (Z.get (b:=b0)).1 (Z.get (b:=b1)).1 zo (Z.get (b:=b0)).2 (Z.get (b:=b1)).2
    case rest =>
      obtain ⟨h,hS,hQ2,hC8,SD,Pf,Le⟩:=hcut.o;clear hcut q0 y0 y1
      rename World=>w9
      have HSS:=zh hS;have HQ2:=zh hQ2;have HC8:=zh hC8;have HGH:=zh (zA SD (zA Pf Le));have HPI:=zh (Z3.start HO HH.f HH.n hr);clear hS hQ2 hC8 SD Pf Le mk0 mk1;go_wp2_with fail;refine (mG HSS HQ2).mono ?_;rintro e LR ⟨rfl,NG⟩
      have HL:Hd (Vi w4 LR xb qb p t bc bk g' h c' (PS.start T Kp n A) (PS.start T Kp n A).fin n):=zh
        { sh:=HSS.chg NG,inv:=HPI.o,fin:=rfl,nn:=rfl,tn:=trivial,
          q:=NG.kp HQ2.o,chg:=(HC8.trans NG).mo }
      clear NG;go_wp2_with fail;go_loopg [12,13] (PS.start T Kp n A).left (fun gg k i wr=>∃ S',gg=PS.left S'/\k = .int .i64 (Vg S')/\i = .int .i64 (Vh S')/\Hd (Vi w4 wr xb qb p t bc bk g' h c' S' (PS.start T Kp n A).fin n))
      case atStart=>exact ⟨_,rfl,rfl,rfl,HL⟩
      case round =>
        obtain ⟨S',DM,De,hi',HR⟩:=hrel
        cases hn:S'.next with
        | none =>
          have e1:Vg S' = -1:=by unfold Vg;rw [hn]
          have e2:Vh S' = -1:=by unfold Vh;rw [hn]
          rw [e1] at De;rw [e2] at hi';subst De hi';have HFN:=zh (PS.fin_none hn);clear hn e1 e2;have GV:=HR.sh;have q0:=zM HR.q 0;have top:=GV.top;obtain ⟨x0,x1,x2,x3,x4,x5⟩:=AP top;simp only [tA1,tA3] at q0;have lq9:=zz HR.q;have Pr:=zz top;have HP0:=zh (GV.pls 0 zo);have Uz:=zh (GV.pls 1 zo);have PD:=zh (zA (GV.nle (k:=0) zo) (GV.nle (k:=1) zo));clear GV top x0 x1;have j0:¬ (0:Int) <= -1:=zo
          go_upto_region 16 with fail;have RD:=zh ((zv.refl [] wr).drew);refine wp_region_held_drew (S:=fun W'=>W'.cell? ⟨qb,0,none⟩=some (zP xb)/\W'.cell? ⟨xb,2,none⟩=some (zS (g' 0) (S'.n 0) (c' 0))/\W'.cell? ⟨xb,3,none⟩=some (zS (g' 1) (S'.n 1) (c' 1))/\W'.cell? ⟨xb,4,none⟩=some (zS (h 0) (S'.n 0) (S'.n 0))/\W'.cell? ⟨xb,5,none⟩=some (zS (h 1) (S'.n 1) (S'.n 1))) zab (by exact ⟨q0,x2,x3,x4,x5⟩) fun BS=>?_;refine ad 0 ?_;refine ad 1 ?_;refine ad 2 ?_;refine ad 3 ?_;refine ad 4 ?_;refine ad 5 ?_;refine ad 6 ?_;refine ad 7 ?_;refine ad 8 ?_;refine ad 9 ?_;refine ad 10 ?_;refine ad 11 ?_;refine ad 12 ?_;refine ad 13 ?_;refine ad 14 ?_;refine ad 15 ?_;refine ad 17 ?_;refine ad 18 ?_;refine ad 19 ?_;refine ad 20 ?_;refine ad 21 ?_;refine zu ?_
          generalize wr.drew=w8 at *;refine wE 16 (fun K hK=>?_)
          · (go_simp;refine (iA (RD.kp HP0) (zq PD.o)).mono ?_;rintro e w91 ⟨z0,rfl,BT,hC⟩;have HZ0:=zh (Y9.of_own BT);have HO0:=zh (Qb BT);have RP:=zh (show wr.heap.size<=_ from RD.size);have Ib:=zh (RD.trans hC);have:=zh hC;clear BT hC)
            refine hK.out _ _ (⟨Ib.ce q0 lq9,Ib.ce x2 Pr,Ib.ce x3 Pr,Ib.ce x4 Pr,Ib.ce x5 Pr⟩) fun BS=>?_;clear hK K;refine zu ?_;refine wE 22 (fun K hK=>?_)
            · (go_simp;refine (iA (Ib.kp Uz) (zq PD.o)).mono ?_;rintro e w92 ⟨z1,rfl,BT,hC⟩;have HZ1:=zh (Y9.of_own BT);have HO1:=zh (Qb BT);have Lq:=zh (show wr.heap.size<=_ from Ib.size);have Ic:=zh (Ib.trans hC);have Tt:=zh hC;clear BT hC)
              refine hK.out _ _ (⟨Ic.ce q0 lq9,Ic.ce x2 Pr,Ic.ce x3 Pr,Ic.ce x4 Pr,Ic.ce x5 Pr⟩) fun BS=>?_;clear hK K;refine zu ?_;refine wE 23 (fun K hK=>?_)
              · (have Fk:=(Ic.bl (qe (zz Lp) HR.chg.size)).trans ((HR.chg.block _ (zz Lp) HNP).trans Lp);have z4:=zM Fk 0;have z5:=zM Fk 1;have f4:=xB Fk 0;have f5:=xB Fk 1;simp only [tA1,tA3,tA2] at z4 z5;have Ej:=zh Fk;clear Fk;go_simp)
                refine hK.out _ _ (AW (c0:=S'.n 0) Ic lq9 Pr (by have:=RF qb zaa;have:=zz Lp.o;omega) (by have:=RF xb zaa;have:=zz Lp.o;omega) q0 x2 x3 x4 x5) fun BS=>?_;clear hK K;refine zu ?_;refine ad 24 ?_;refine ad 25 ?_;refine ad 26 ?_;refine zu ?_;refine wpAnyH_done zab ?_ _;have HFIN:=zh (kY C6 HR HFN RF Ed Ej Ic HZ0 HZ1 Tt HO0 HO1 (by have h1:=RP.o;have h2:=Lq.o;have h3:=HR.chg.size;have h4:=C6.size;omega) (by have h1:=RP.o;have h2:=Lq.o;have h3:=HR.chg.size;have h4:=C6.size;omega) (by have a0:=HH.hp.lt;have a1:=HH.ht.lt0;have a2:=HH.ht.lt1;have a3:=HH.ht.lt2;omega) (zq (zz Lp.o)));go_wp2_with fail;obtain ⟨k0,k1,hP⟩:=HFIN _ rfl;exact bodyPost_ret (v := .tuple #[.agg #[zS (g' 0) (S'.n 0) (c' 0),zS (g' 1) (S'.n 1) (c' 1)],z0,z1,.int .i64 0]) (by simp [results,Tryz.results89,go_sem,k0,k1]) rfl hP
        | some ki =>
          obtain ⟨k,i⟩:=ki;have ⟨b1,b2,b3⟩:=PS.next_some hn;have e1:Vg S'=(k:Int):=by unfold Vg;rw [hn]
          have e2:Vh S'=(i:Int):=by unfold Vh;rw [hn]
          rw [e1] at De;rw [e2] at hi';subst De hi';have HFS:=zh (PS.fin_some hn);have HLS:=zh (PS.left_step b1 b2 b3);have HER:=zh (HR.inv.err b1 b2 b3);have IR:=zh (HR.inv.step b1 b2 b3);have j0:(0:Int)<=(i:Int):=zo
          have q0:=zM HR.q 0;simp only [tA1,tA3] at q0;clear hn e1 e2;go_wp2_with fail;refine (rS HR.sh b1 b2).mono ?_;rintro e MQ ⟨rfl,U8,UX⟩;rw [HER.o];have Ej:=zh (HR.step U8 UX IR HFS (HGH.1 0 zo) (HGH.1 1 zo) HGH.2.1 HGH.2.2 Ed RF (by have:=RH.hp.lt;have a1:=RH.ht.lt0;have a2:=RH.ht.lt1;have a3:=RH.ht.lt2;omega));clear U8 UX q0;go_wp2_with fail;refine (mG Ej.sh Ej.q).mono ?_;rintro e MR ⟨rfl,UY⟩;have HR3:=zh (Ej.on UY);clear UY;go_wp2_with fail;go_roundg (PS.left (S'.step k i))
          case measure=>have:=HLS.o;omega
          case rel=>exact ⟨_,rfl,rfl,rfl,HR3⟩
theorem Y9.get {a:Option Addr} {n cap:Nat} (h:Y9 w (.slice a n cap) l):n=l.length/\∀ i,i<n->∃ g,a=some ⟨g,0,none⟩/\w.cell? ⟨g,i,none⟩=some (.int .i64 ((l.getD i 0:Nat):Int)):=by
 rcases h with ⟨hv,rfl⟩ | ⟨g,Ih,hv,_,_,_,hc⟩
 ·cases hv;exact ⟨rfl,fun i hi=>zo⟩
 ·injection hv with h1 h2 h3
  subst h1 h2;exact ⟨rfl,fun i hi=>⟨g,rfl,hc i hi⟩⟩
theorem mI:(Tryz.prog.info? 98).map (fun i=>(i.zero,i.size,i.bytes))=some (some (.int .u16 0),1,2):=zab
def iG (T:zW) (lo m:Nat):List Value:=(List.range m).map fun j => .int .u16 (T.now (lo+j):Int)
theorem kZ (T:zW) (lo m:Nat):iG T lo (m+1)=iG T lo m++[.int .u16 (T.now (lo+m):Int)]:=by simp [iG,zn]
theorem Z4 {n e:Nat} {xs:List Value} {L:List Nat} (h:w.ownsRow base e 1 v n xs) (c:zv L w w') (hL:∀ k,v.ownBlock=some k->k∉L):w'.ownsRow base e 1 v n xs:=by
 refine ⟨h.1,?_⟩;rcases h.2 with h | ⟨g,cap,BV,h1,h2,h3,h4⟩
 ·exact .inl h
 ·exact .inr ⟨g,cap,BV,h1,h2,(c.block g (zz h3) (hL g (by rw [h1];rfl))).trans h3,h4⟩
theorem ou (H:zJ w t bc bk T) (p:Nat) (hp:61*p<T.n) :
  zC 150 #[zP t,.int .i64 (p:Int)] w fun e w'=>∃ v,e = .returned v /\
   w'.ownsRow w.heap.size 98 1 v (min (61*p+61) T.n - 61*p) (iG T (61*p) (min (61*p+61) T.n - 61*p))/\zv [] w w':=by
 have n2:=H.n2;have HH:=zh H;have:¬ (p:Int)<0:=zo
 have:(p:Int)*61=((61*p:Nat):Int):=zo;have:min (((p:Int)+1)*61) (T.n:Int)=((min (61*p+61) T.n:Nat):Int):=zo;clear H;go_enter Tryz.func150,Tryz.ntmps150;go_wp2_with fail
 go_loopw [5,6] (fun v s wr=>∃ m:Nat,m<=min (61*p+61) T.n - 61*p/\s = .int .i64 ((61*p+m:Nat):Int)/\Hd (wr.ownsRow w.heap.size 98 1 v m (iG T (61*p) m)/\zv [] w wr)) (fun _ s _=>T.n - (intOf s).toNat)
 case atStart=>exact ⟨0,yg _,zaa,⟨yO _ _ _ _,zv.refl _ _⟩⟩
 case round =>
  obtain ⟨m,hm,rfl,hH⟩:=hrel;have HT:=zh (HH.chg hH.2);have Fq:=zh hH.1;have DQ:=zh hH.2;have:=hH.2.size;have I1:=zh (fun k hk=>(hH.1.lt k hk).1:∀ k,(Value.ownBlock _=some k)->w.heap.size<=k);clear hH;by_cases BY:m<min (61*p+61) T.n - 61*p
  ·have G6:61*p+m<T.n:=zo
   have i1:((61*p+m:Nat):Int)<((min (61*p+61) T.n:Nat):Int):=zo;have G9:=QD HT ((61*p+m:Nat):Int);rw [Ve G6] at G9;have:=HT.now _ G6;have:IntKind.u16.wrap (T.now (61*p+m):Int)=(T.now (61*p+m):Int):=by rw [IntKind.wrap_u16];omega
   go_wp2_with fail;refine zm (xI HT) ?_;go_wp2_with fail;refine zm G9 ?_;have HN:=zh (xo wr (.cells #[.int .u16 (T.now (61*p+m):Int)] 98));go_wp2_with (at_builtin;refine Xo _ rfl _ _ 190 rfl w.heap.size 98 (.int .u16 0) 2 Tryz.underlying190 mI rfl _ _ _ rfl (Z4 Fq ((zv.refl [] wr).alloc _) zaa) wr.heap.size 1 (.int .u16 (T.now (61*p+m):Int)) rfl (zM HN 0) rfl zo zo zae ?_;intro v' w2 Ck C8;have C9:=zh Ck;have BZ:=zh ((DQ.alloc _).grown C8 (fun k hk => .inr (I1 k hk)));clear Ck C8)
   go_roundw
   case rel=>exact ⟨m+1,zo,zac,⟨by rw [kZ];exact C9.o,BZ⟩⟩
   case measure=>simp [intOf];omega
  ·obtain rfl:m=min (61*p+61) T.n - 61*p:=zo
   have i1:¬ ((61*p+(min (61*p+61) T.n - 61*p):Nat):Int)<((min (61*p+61) T.n:Nat):Int):=zo;go_wp2_with fail;refine zm (xI HT) ?_;go_wp2_with fail;go_ret;exact ⟨_,rfl,Fq.o,DQ⟩
def qd (n:Nat) (k:Nat):Nat:=if k=0 then pg n else pg (pg n)
theorem Vj (T:zW):JL T (qd T.n) (fun _ _=>0):=⟨rfl,rfl,fun k i _ _ h=>absurd rfl h,fun k i k' i' _ _ _ _ h=>absurd rfl h⟩
theorem Vk {n:Nat} (h:16<=n):(qu n:Int)<=xO (zW.new n) 2:=by
 have h2:cnt 2 (zW.new n).free=2:=J9 fun i _=>by simp [zW.free,zW.new]
 unfold xO;rw [dO,h2];unfold qu pg;omega
theorem iI {b v f:Nat} (hb:b<T.n):xO (T.set b v) f<=xO T f+1:=by
 have h1:=Q6 T v hb;unfold xO;by_cases hf:b<f
 ·have h2:=xN (p:=T.free) (q:=(T.set b v).free) (n:=f) hf (fun i _ BU=>by simp [zW.free,zW.set,BU])
  cases h3:T.free b <;> cases h4:(T.set b v).free b <;> simp [h3,h4] at h1 h2 <;> omega
 ·have h2:cnt f (T.set b v).free=cnt f T.free:=zZ fun i hi=>by
   have:i≠b:=zo;simp [zW.free,zW.set,this]
  rw [h2];cases h3:T.free b <;> cases h4:(T.set b v).free b <;> simp [h3,h4] at h1 <;> omega
theorem k8 (h:JL S.T S.n S.a) (hk:k<2) (hi:i<S.n k) (f:Nat):xO (S.T1 k i) f<=xO S.T f+1:=by
 unfold PS.T1
 split
 ·omega
 ·rename_i h0
  have ⟨h1,h2⟩:=h.has k i hk hi h0;rw [aP h1 h2];exact iI h1
theorem aU (H:Z3 S) : (S.step k i).K.first=S.K.first:=(QF (T:=S.T1 k i) H.f (by rw [O7];exact H.nx)).2.2.2
theorem ox (H:Z3 S) (hk:k<2) (hi:i<S.n k) (hw:S.want k i=true):xO (S.step k i).T S.K.first<=xO S.T S.K.first:=by
 obtain ⟨b,ht,h1,h2,h3⟩:=H.block hk hi hw;have ⟨e1,e2⟩:=XP ht;have hs:=dR (T:=S.T1 k i) h1 (by rw [O7];exact h2) h3;have:=k8 H.ok hk hi S.K.first;rw [e1,hs];omega
theorem Ai (H:Z3 S) (hk:k<2) (hi:i<S.n k) (hw:S.want k i=true):(S.step k i).T.n=S.T.n:=by
 obtain ⟨b,ht,_⟩:=H.block hk hi hw;rw [(XP ht).1];exact O7 S k i
theorem Aj {K:Pk} (h:JL T n a) (hf:K.first<=K.next) (hn:K.next<=T.n) (hr:(qu T.n:Int)<=xO T K.first) :
  Z3 (PS.start T K n a).fin/\(PS.start T K n a).fin.next=none/\(PS.start T K n a).fin.n=n/\(PS.start T K n a).fin.T.n=T.n/\(PS.start T K n a).fin.K.first=K.first/\xO (PS.start T K n a).fin.T K.first<=xO T K.first:=by
 have:=PS.fin_ind (Q:=fun S=>Z3 S/\S.n=n/\S.T.n=T.n/\S.K.first=K.first/\xO S.T K.first<=xO T K.first)
  (fun S k i ⟨q1,q2,q3,q4,q5⟩ hk hi hw=>⟨q1.step hk hi hw,q2,(Ai q1 hk hi hw).trans q3,(aU q1).trans q4,by
   have:=ox q1 hk hi hw;rw [q4] at this;omega⟩) _ (PS.start T K n a) (xd _) ⟨Z3.start h hf hn hr,rfl,rfl,rfl,Int.le_refl _⟩
 exact ⟨this.1.1,this.2,this.1.2.1,this.1.2.2.1,this.1.2.2.2.1,this.1.2.2.2.2⟩
theorem uX (h:JL T n a):JL T.keep n a:=⟨h.n0,h.n1,h.has,h.apart⟩
noncomputable def xH (n:Nat):PS:=(PS.start (zW.new n) ⟨2,2,0⟩ (qd n) (fun _ _=>0)).fin
theorem rX {n:Nat} (h:16<=n):Z3 (xH n)/\(xH n).next=none/\(xH n).n=qd n/\(xH n).T.n=n/\(xH n).K.first=2 :=
 have:=Aj (Vj (zW.new n)) (K:=⟨2,2,0⟩) (xd _) (show 2<=n by omega) (Vk h)
 ⟨this.1,this.2.1,this.2.2.1,this.2.2.2.1,this.2.2.2.2.1⟩
end Go.Proofs.YtegpiomkmfhadaaGreat
