/- Layer 10: place.Place. -/
import Derived.Test.YtkhcaclndepgbaaGreatZn13
set_option linter.unusedVariables false
set_option linter.unusedSimpArgs false
set_option maxRecDepth 100000
set_option maxHeartbeats 20000000
namespace Go.Proofs.YtkhcaclndepgbaaGreat
open Go.RowKit
def PS.start (T:Tal) (K:Pk) (n:Nat->Nat) (a:Nat->Nat->Nat):PS:=⟨T,K,n,a,fun _ _=>false⟩
def Placed (w:World) (p t bc bk:Nat) (F:PS) (e:Ending) (w':World):Prop :=
 ∃ u0 u1 z0 z1 g c,e = .returned (.tuple #[.agg #[u0,u1],z0,z1,.int .i64 0])/\ShV w' u0 u1 F.a F.n g c/\SlI w' z0 (yesTo (F.p 0) (F.n 0))/\SlI w' z1 (yesTo (F.p 1) (F.n 1))/\PT w' p t bc bk F.K F.T /\
  Chg [p,t,bc,bk] w w'/\(∀ k,k<2->w.heap.size<=g k)/\g 0≠g 1/\(∀ b,z0.ownBlock=some b->w.heap.size<=b)/\(∀ b,z1.ownBlock=some b->w.heap.size<=b)
theorem place_full {w:World} {p t bc bk:Nat} {K:Pk} {T:Tal} {v0 v1:Value} {A:Nat->Nat->Nat} {n g c:Nat->Nat} (H:PT w p t bc bk K T) (hv:ShV w v0 v1 A n g c) (ho:ShOk T n A) (hr:roomI T K.first<(needN T.n:Int)) :
  Calls Tryz.prog 80 #[.pointer (some ⟨t,0,none⟩),.pointer (some ⟨p,0,none⟩),.agg #[v0,v1]] w fun e w'=>e = .returned (.tuple #[.agg #[.slice none 0 0,.slice none 0 0],.slice none 0 0,.slice none 0 0,.int .i64 90])/\Chg [] w w':=by
 have n1:=H.ht.n1;have n2:=H.ht.n2;have hfn:=zLt H.f H.n;have HH:=zh H;have HV:=zh hv;have HO:=zh ho;have e0:=hv.e0;have e1:=hv.e1;subst e0 e1;have hb1:=znd w (.cells #[.slice (some ⟨g 0,0,none⟩) (n 0) (c 0),.slice (some ⟨g 1,0,none⟩) (n 1) (c 1)] 42) (.cells #[.slice none 0 0,.slice none 0 0] 42);have hb2:=znc w (.cells #[.slice (some ⟨g 0,0,none⟩) (n 0) (c 0),.slice (some ⟨g 1,0,none⟩) (n 1) (c 1)] 42) (.cells #[.slice none 0 0,.slice none 0 0] 42);have hC2:Chg [] w ((w.alloc (.cells #[.slice (some ⟨g 0,0,none⟩) (n 0) (c 0),.slice (some ⟨g 1,0,none⟩) (n 1) (c 1)] 42)).alloc (.cells #[.slice none 0 0,.slice none 0 0] 42)):=((Chg.refl [] w).alloc _).alloc _;clear hv ho H;go_enter Tryz.func80,Tryz.ntmps80;go_wp2_with fail;generalize (w.alloc _).alloc _=w2 at *;have lb2:=zhl hb2;have x0:=zcb hb1 0;have x1:=zcb hb1 1;simp only [tA1,tA3,tA2] at x0 x1;have HB1:=zh hb1;have HB2:=zh hb2;have HC2:=zh hC2;have HH2:=zh (HH.out.chg hC2 (by simp) (by simp) (by simp) (by simp));have HV2:=zh (HV.out.chg hC2 (by simp) (by simp));clear hb1 hb2 hC2;refine (blocks_at HH2.out.ht).mono ?_;rintro e w3 ⟨rfl,rfl⟩;have nz:¬ (T.n:Int)=0:=by omega
 go_wp2_with fail;refine (right_at HH2.out.ht HV2.out HO.out).mono ?_;rintro e w4 ⟨rfl,hC4⟩;have HH4:=zh (HH2.out.chg hC4 (by simp) (by simp) (by simp) (by simp));have HV4:=zh (HV2.out.chg hC4 (by simp) (by simp));have HB4:=zh ((hC4.block _ (zhl HB1.out) (by simp)).trans HB1.out);have HR4:=zh ((hC4.block _ (zhl HB2.out) (by simp)).trans HB2.out);have HC4:=zh (HC2.out.trans hC4);clear hC4 x0 x1;go_wp2_with fail;refine (PT.room HH4.out).mono ?_;rintro e w5 ⟨rfl,rfl⟩;go_wp2_with fail;refine (blocks_at HH4.out.ht).mono ?_;rintro e w5 ⟨rfl,rfl⟩;go_wp2_with fail;refine (need_at _ n1 n2).mono ?_;rintro e w5 ⟨rfl,rfl⟩;have hr0:=HR4.out;have r0:=zcb hr0 0;have r1:=zcb hr0 1;simp only [tA1,tA3,tA2] at r0 r1;have fr:=zfb hr0 0;have fr1:=zfb hr0 1;clear hr0;go_wp2_with fail;have hW:=zsb (zsb HR4.out 0 (.slice none 0 0)) 1 (.slice none 0 0);have hCW:Chg [] w ((w4.setCell ⟨w.heap.size+1,0,none⟩ (.slice none 0 0)).setCell ⟨w.heap.size+1,1,none⟩ (.slice none 0 0)):=(HC4.out.setCell (.inr (by show w.heap.size<=w.heap.size+1;omega)) _).setCell (.inr (by show w.heap.size<=w.heap.size+1;omega)) _;generalize (w4.setCell _ _).setCell _ _=W at *;have k0:=zcb hW 0;have k1:=zcb hW 1;simp only [sA1,sA2,sA3,tA1,tA3,tA2] at k0 k1;exact bodyPost_ret (v := .tuple #[.agg #[.slice none 0 0,.slice none 0 0],.slice none 0 0,.slice none 0 0,.int .i64 90]) (by simp [results,Tryz.results80,go_sem,k0,k1]) rfl ⟨rfl,hCW⟩
theorem own_out {w:World} {base:Nat} {v:Value} {l:List Nat} (h:w.ownsRow base 3 1 v l.length (intVs l)) (h0:0<l.length) :
  ∃ g c cur,v = .slice (some ⟨g,0,none⟩) l.length c/\base<=g/\w.heap[g]?=some (.cells cur 3 (0,0))/\cur.size=c/\l.length<=c/\c<=maxLen/\∀ i,i<l.length->cur[i]?=some (.int .i64 ((l.getD i 0:Nat):Int)):=by
 rcases h.2 with ⟨_,h1⟩ | ⟨g,cap,cur,h1,h2,h3,h4,h5,h6,h7⟩
 ·omega
 ·refine ⟨g,cap,cur,h1,h2,h3,by simpa using h6,h4,h5,fun i hi=>?_⟩
  have:(cur.toList.take (l.length*1))[i]?=(intVs l)[i]?:=by rw [h7]
  rw [List.getElem?_take,if_pos (by omega)] at this;simpa [intVs,zgD,hi] using this
theorem own_at {A:Nat->Nat->Nat} {n:Nat->Nat} {k c:Nat} {cur:Array Value} (h:cur.size=c/\(atL A n k).length<=c/\c<=maxLen/\∀ i,i<(atL A n k).length->cur[i]?=some (.int .i64 (((atL A n k).getD i 0:Nat):Int))) :
  cur.size=c/\n k<=c/\c<=maxLen/\∀ i,i<n k->cur[i]?=some (.int .i64 (A k i:Int)):=by
 rw [atL_len] at h;exact ⟨h.1,h.2.1,h.2.2.1,fun i hi=>by rw [h.2.2.2 i hi,atL_get _ _ hi]⟩
theorem infoBool:(Tryz.prog.info? 4).map (fun i=>(i.zero,i.size,i.bytes))=some (some (.bool false),1,1):=by kernel_rfl
def Laid (w:World) (t p:Nat) (A:Nat->Nat->Nat) (n:Nat->Nat) (q:Value) (W:World):Prop :=
 ∃ (qb xb:Nat) (g c:Nat->Nat),q = .pointer (some ⟨qb,0,none⟩)/\W.heap[qb]?=some (.cells #[.pointer (some ⟨xb,0,none⟩)] 216 (0,0)) /\
  W.heap[xb]?=some (.cells #[.pointer (some ⟨t,0,none⟩),.pointer (some ⟨p,0,none⟩),.slice (some ⟨g 0,0,none⟩) (n 0) (c 0),.slice (some ⟨g 1,0,none⟩) (n 1) (c 1),.slice none 0 0,.slice none 0 0] 222 (0,0)) /\
  (∀ k,k<2->∃ cur,W.heap[g k]?=some (.cells cur 3 (0,0))/\cur.size=c k/\n k<=c k/\c k<=maxLen/\∀ i,i<n k->cur[i]?=some (.int .i64 (A k i:Int))) /\
  ([qb,xb,g 0,g 1].Nodup)/\(∀ b,b∈[qb,xb,g 0,g 1]->w.heap.size<=b)/\Chg [] w W
theorem keepS {w7 W:World} {qb xb g0 g1:Nat} {a0 a1:Addr} {v0 v1 u4 u5 vq:Value} (hnd:[qb,xb,g0,g1].Nodup) (lxb:xb<w7.heap.size) (lq:qb<w7.heap.size) (ha0:a0.block<w7.heap.size) (ha1:a1.block<w7.heap.size) (e0:a0.block≠xb) (e1:a1.block≠xb) (hC:Chg [] w7 W)
  (hq:w7.cell? ⟨qb,0,none⟩=some vq) (h0:w7.cell? a0=some v0) (h1:w7.cell? a1=some v1) :
  ((W.setCell ⟨xb,4,none⟩ u4).setCell ⟨xb,5,none⟩ u5).cell? ⟨qb,0,none⟩=some vq/\((W.setCell ⟨xb,4,none⟩ u4).setCell ⟨xb,5,none⟩ u5).cell? a0=some v0/\((W.setCell ⟨xb,4,none⟩ u4).setCell ⟨xb,5,none⟩ u5).cell? a1=some v1:=by
 have C:Chg [xb] w7 ((W.setCell ⟨xb,4,none⟩ u4).setCell ⟨xb,5,none⟩ u5):=((hC.mono (by simp)).setCell (.inl (by simp)) _).setCell (.inl (by simp)) _;simp only [List.nodup_cons,List.mem_cons,List.not_mem_nil,or_false,not_or,List.nodup_nil,and_true] at hnd;exact ⟨(C.cell (p:=⟨qb,0,none⟩) lq (by simp;exact hnd.1.1)).trans hq,(C.cell ha0 (by simp;exact e0)).trans h0,(C.cell ha1 (by simp;exact e1)).trans h1⟩
theorem start_sh {w4 w7 W:World} {p t bc bk qb xb h0 h1:Nat} {Kp:Pk} {T:Tal} {A:Nat->Nat->Nat} {n g' c':Nat->Nat} (hp:PT w4 p t bc bk Kp T) (ho:ShOk T n A) (hn:1<=n 0/\n 0<=4096/\1<=n 1/\n 1<=4096)
  (hx:W.heap[xb]?=some (.cells #[.pointer (some ⟨t,0,none⟩),.pointer (some ⟨p,0,none⟩),.slice (some ⟨g' 0,0,none⟩) (n 0) (c' 0),.slice (some ⟨g' 1,0,none⟩) (n 1) (c' 1),.slice none 0 0,.slice none 0 0] 222 (0,0)))
  (hq:w7.heap[qb]?=some (.cells #[.pointer (some ⟨xb,0,none⟩)] 216 (0,0)))
  (ha:∀ k,k<2->∃ cur,w7.heap[g' k]?=some (.cells cur 3 (0,0))/\cur.size=c' k/\n k<=c' k/\c' k<=maxLen/\∀ i,i<n k->cur[i]?=some (.int .i64 (A k i:Int)))
  (hnd:[qb,xb,g' 0,g' 1].Nodup) (hge:∀ b,b∈[qb,xb,g' 0,g' 1]->w4.heap.size<=b) (hC5:Chg [] w4 w7) (hC:Chg [] w7 W) (lxb:xb<w7.heap.size)
  (hb0:W.heap[h0]?=some (.cells (zrow (n 0) (.bool false)) 4 (0,0))) (hb1:W.heap[h1]?=some (.cells (zrow (n 1) (.bool false)) 4 (0,0))) (hne:h0≠h1) (hh0:w7.heap.size<=h0) (hh1:w7.heap.size<=h1) :
  Hid (∃ h:Nat->Nat,ShAt ((W.setCell ⟨xb,4,none⟩ (.slice (some ⟨h0,0,none⟩) (n 0) (n 0))).setCell ⟨xb,5,none⟩ (.slice (some ⟨h1,0,none⟩) (n 1) (n 1))) xb p t bc bk g' h c' (PS.start T Kp n A) /\
   ((W.setCell ⟨xb,4,none⟩ (.slice (some ⟨h0,0,none⟩) (n 0) (n 0))).setCell ⟨xb,5,none⟩ (.slice (some ⟨h1,0,none⟩) (n 1) (n 1))).heap[qb]?=some (.cells #[.pointer (some ⟨xb,0,none⟩)] 216 (0,0)) /\
   Chg [] w4 ((W.setCell ⟨xb,4,none⟩ (.slice (some ⟨h0,0,none⟩) (n 0) (n 0))).setCell ⟨xb,5,none⟩ (.slice (some ⟨h1,0,none⟩) (n 1) (n 1)))/\(∀ k,k<2->w4.heap.size<=h k)/\qb≠h 0/\qb≠h 1):=by
 have s47:=hC5.size;have C7:Chg [xb] w7 ((W.setCell ⟨xb,4,none⟩ (.slice (some ⟨h0,0,none⟩) (n 0) (n 0))).setCell ⟨xb,5,none⟩ (.slice (some ⟨h1,0,none⟩) (n 1) (n 1))):=((hC.mono (by simp)).setCell (.inl (by simp)) _).setCell (.inl (by simp)) _;have hgx:=hge xb (by simp);have hgq:=hge qb (by simp);have hg0:=hge (g' 0) (by simp);have hg1:=hge (g' 1) (by simp);have C4:Chg [] w4 ((W.setCell ⟨xb,4,none⟩ (.slice (some ⟨h0,0,none⟩) (n 0) (n 0))).setCell ⟨xb,5,none⟩ (.slice (some ⟨h1,0,none⟩) (n 1) (n 1))):=((hC5.trans hC).setCell (.inr hgx) _).setCell (.inr hgx) _;simp only [List.nodup_cons,List.mem_cons,List.not_mem_nil,or_false,not_or,List.nodup_nil,and_true] at hnd;obtain ⟨⟨n1,n2,n3⟩,⟨n4,n5⟩,n6,_⟩:=hnd;have lq:=zhl hq;obtain ⟨cur0,a0,_⟩:=ha 0 (by omega);obtain ⟨cur1,a1,_⟩:=ha 1 (by omega);have l0:=zhl a0;have l1:=zhl a1;have lp:=hp.hp.lt;have lt0:=hp.ht.lt0;have lt1:=hp.ht.lt1;have lt2:=hp.ht.lt2;have pn:=pick_ne hp.hp hp.ht;simp only [List.mem_cons,List.not_mem_nil,or_false,not_or] at pn;have t1:=hp.ht.ne;have t2:=hp.ht.ne1;have t3:=hp.ht.ne2;have hxx:=zsb (zsb hx 4 (.slice (some ⟨h0,0,none⟩) (n 0) (n 0))) 5 (.slice (some ⟨h1,0,none⟩) (n 1) (n 1));have hx7:h0≠xb/\h1≠xb:=by omega
 refine ⟨fun k=>if k=0 then h0 else h1,⟨hp.chg C4 (by simp) (by simp) (by simp) (by simp),?_,?_,?_,?_,ho.n0,ho.n1⟩,?_,C4,?_,?_,?_⟩
 ·rw [hxx];rfl
 ·intro k hk
  obtain ⟨cur,b1,b2⟩:=ha k hk;refine ⟨cur,(C7.block _ (zhl b1) ?_).trans b1,b2⟩;have hk2:k=0∨k=1:=by omega
  simp only [zms];rcases hk2 with rfl | rfl
  ·exact Ne.symm n4
  ·exact Ne.symm n5
 ·intro k hk
  have hk2:k=0∨k=1:=by omega
  rcases hk2 with rfl | rfl
  ·exact (zso 5 _ hx7.1).trans ((zso 4 _ hx7.1).trans (by rw [hb0,zrow_bools];rfl))
  ·exact (zso 5 _ hx7.2).trans ((zso 4 _ hx7.2).trans (by rw [hb1,zrow_bools];rfl))
 ·simp
  omega
 ·exact (C7.block _ lq (by simp;exact n1)).trans hq
 ·intro k hk
  have hk2:k=0∨k=1:=by omega
  rcases hk2 with rfl | rfl <;> simp <;> omega
 ·simp;omega
 ·simp;omega
structure LoopR (w4 wr:World) (xb qb p t bc bk:Nat) (g h c:Nat->Nat) (S F:PS) (n:Nat->Nat):Prop where
 sh:ShAt wr xb p t bc bk g h c S
 inv:PInv S
 fin:S.fin=F
 nn:S.n=n
 tn:True
 q:wr.heap[qb]?=some (.cells #[.pointer (some ⟨xb,0,none⟩)] 216 (0,0))
 chg:Chg [p,t,bc,bk] w4 wr
theorem LoopR.on {w4 wr w':World} {xb qb p t bc bk:Nat} {g h c:Nat->Nat} {S F:PS} {n:Nat->Nat} (H:LoopR w4 wr xb qb p t bc bk g h c S F n) (C:Chg [] wr w'):LoopR w4 w' xb qb p t bc bk g h c S F n :=
 { H with sh:=H.sh.chg C (by simp),q:=(C.block _ (zhl H.q) (by simp)).trans H.q,chg:=H.chg.trans (C.mono (by simp)) }
theorem LoopR.step {w4 wr w':World} {xb qb p t bc bk:Nat} {g h c:Nat->Nat} {S S2 F:PS} {n:Nat->Nat} (H:LoopR w4 wr xb qb p t bc bk g h c S F n) (hs:ShAt w' xb p t bc bk g h c S2) (C:Chg [g 0,g 1,h 0,h 1,p,t,bc,bk] wr w') (hi:PInv S2) (hf:S.fin=S2.fin)
  (h0:w4.heap.size<=h 0) (h1:w4.heap.size<=h 1) (q0:qb≠h 0) (q1:qb≠h 1) (hnd:[qb,xb,g 0,g 1].Nodup) (hge:∀ b,b∈[qb,xb,g 0,g 1]->w4.heap.size<=b) (hlt:p<w4.heap.size/\t<w4.heap.size/\bc<w4.heap.size/\bk<w4.heap.size) (hn:S2.n=S.n:=by rfl):LoopR w4 w' xb qb p t bc bk g h c S2 F n:=by
 have hgx:=hge qb (by simp);have hg0:=hge (g 0) (by simp);have hg1:=hge (g 1) (by simp);simp only [List.nodup_cons,List.mem_cons,List.not_mem_nil,or_false,not_or,List.nodup_nil,and_true] at hnd;refine { sh:=hs,inv:=hi,fin:=by rw [<- hf];exact H.fin,nn:=hn.trans H.nn,tn:=trivial,q:=(C.block _ (zhl H.q) ?_).trans H.q,chg:=H.chg.then C ?_ }
 ·simp
  omega
 ·intro i hi
  simp at hi ⊢;omega
theorem keepE {w7 W:World} {qb xb r:Nat} {vq u4 u5 v2 v3 v4 v5:Value} {c0:Nat} (hC:Chg [] w7 W) (lq:qb<w7.heap.size) (lx:xb<w7.heap.size) (e0:qb≠r) (e1:xb≠r)
  (hq:w7.cell? ⟨qb,0,none⟩=some vq) (h2:w7.cell? ⟨xb,2,none⟩=some v2) (h3:w7.cell? ⟨xb,3,none⟩=some v3) (h4:w7.cell? ⟨xb,4,none⟩=some v4) (h5:w7.cell? ⟨xb,5,none⟩=some v5) :
  ((W.setCell ⟨r,0,none⟩ u4).setCell ⟨r,1,none⟩ u5).cell? ⟨qb,0,none⟩=some vq/\((W.setCell ⟨r,0,none⟩ u4).setCell ⟨r,1,none⟩ u5).cell? ⟨xb,2,none⟩=some v2 /\
   ((W.setCell ⟨r,0,none⟩ u4).setCell ⟨r,1,none⟩ u5).cell? ⟨xb,3,none⟩=some v3/\((W.setCell ⟨r,0,none⟩ u4).setCell ⟨r,1,none⟩ u5).cell? ⟨xb,4,none⟩=some v4/\((W.setCell ⟨r,0,none⟩ u4).setCell ⟨r,1,none⟩ u5).cell? ⟨xb,5,none⟩=some v5:=by
 have C:Chg [r] w7 ((W.setCell ⟨r,0,none⟩ u4).setCell ⟨r,1,none⟩ u5):=((hC.mono (by simp)).setCell (.inl (by simp)) _).setCell (.inl (by simp)) _;exact ⟨(C.cell (p:=⟨qb,0,none⟩) lq (by simp;exact e0)).trans hq,(C.cell (p:=⟨xb,2,none⟩) lx (by simp;exact e1)).trans h2,(C.cell (p:=⟨xb,3,none⟩) lx (by simp;exact e1)).trans h3,(C.cell (p:=⟨xb,4,none⟩) lx (by simp;exact e1)).trans h4,(C.cell (p:=⟨xb,5,none⟩) lx (by simp;exact e1)).trans h5⟩
theorem ShAt.sl {w:World} {x p t bc bk:Nat} {g h c:Nat->Nat} {S:PS} (H:ShAt w x p t bc bk g h c S):ShV w (.slice (some ⟨g 0,0,none⟩) (S.n 0) (c 0)) (.slice (some ⟨g 1,0,none⟩) (S.n 1) (c 1)) S.a S.n g c:=by
 refine ⟨rfl,rfl,fun k hk=>?_⟩;obtain ⟨cur,h1,h2,h3,h4,h5⟩:=H.ats k hk;refine .inr ⟨g k,c k,by rw [atL_len],by rw [atL_len];exact h3,h4,zhl h1,fun i hi=>?_⟩;rw [atL_len] at hi;rw [zcb h1,h5 i hi,atL_get _ _ hi]
theorem placed_end {w w4 wr W1 W:World} {xb qb p t bc bk r:Nat} {g h c n:Nat->Nat} {S F:PS} {z0 z1:Value} (hC4:Chg [] w w4) (HR:LoopR w4 wr xb qb p t bc bk g h c S F n) (hF:S.fin=S) (hge:∀ b,b∈[qb,xb,g 0,g 1]->w4.heap.size<=b) (hnd:[qb,xb,g 0,g 1].Nodup)
  (hr:W.heap[r]?=some (.cells #[.slice none 0 0,.slice none 0 0] 42 (0,0))) (hC:Chg [] wr W) (hz0:SlI W1 z0 (yesTo (S.p 0) (S.n 0))) (hz1:SlI W z1 (yesTo (S.p 1) (S.n 1))) (hD:Chg [] W1 W) {B0 B1 B2 B3:Nat}
  (ho0:∀ b,z0.ownBlock=some b->B0<=b/\b<B2) (ho1:∀ b,z1.ownBlock=some b->B1<=b/\b<B3) (hB0:w4.heap.size<=B0/\w.heap.size<=B0) (hB1:w4.heap.size<=B1/\w.heap.size<=B1) (hlt:p<w.heap.size/\t<w.heap.size/\bc<w.heap.size/\bk<w.heap.size) (hrr:w.heap.size<=r/\r<w4.heap.size) :
  ∀ W2,W2=(W.setCell ⟨r,0,none⟩ (.slice (some ⟨g 0,0,none⟩) (S.n 0) (c 0))).setCell ⟨r,1,none⟩ (.slice (some ⟨g 1,0,none⟩) (S.n 1) (c 1)) ->
   W2.cell? ⟨r,0,none⟩=some (.slice (some ⟨g 0,0,none⟩) (S.n 0) (c 0))/\W2.cell? ⟨r,1,none⟩=some (.slice (some ⟨g 1,0,none⟩) (S.n 1) (c 1)) /\
   Placed w p t bc bk F (.returned (.tuple #[.agg #[.slice (some ⟨g 0,0,none⟩) (S.n 0) (c 0),.slice (some ⟨g 1,0,none⟩) (S.n 1) (c 1)],z0,z1,.int .i64 0])) W2:=by
 rintro W2 rfl;have hFS:S=F:=by rw [<- hF];exact HR.fin
 subst hFS;have hW:=zsb (zsb hr 0 (.slice (some ⟨g 0,0,none⟩) (S.n 0) (c 0))) 1 (.slice (some ⟨g 1,0,none⟩) (S.n 1) (c 1));have k0:=zcb hW 0;have k1:=zcb hW 1;simp only [sA1,sA2,sA3,tA1,tA3,tA2] at k0 k1;have hg0:=hge (g 0) (by simp);have hg1:=hge (g 1) (by simp);simp only [List.nodup_cons,List.mem_cons,List.not_mem_nil,or_false,not_or,List.nodup_nil,and_true] at hnd;have s4:=hC4.size;have CR:Chg [r] W ((W.setCell ⟨r,0,none⟩ (.slice (some ⟨g 0,0,none⟩) (S.n 0) (c 0))).setCell ⟨r,1,none⟩ (.slice (some ⟨g 1,0,none⟩) (S.n 1) (c 1))):=((Chg.refl _ _).setCell (.inl (by simp)) _).setCell (.inl (by simp)) _;have Ca:Chg [r] wr ((W.setCell ⟨r,0,none⟩ (.slice (some ⟨g 0,0,none⟩) (S.n 0) (c 0))).setCell ⟨r,1,none⟩ (.slice (some ⟨g 1,0,none⟩) (S.n 1) (c 1))):=(hC.mono (by simp)).trans CR;refine ⟨k0,k1,_,_,z0,z1,g,c,rfl,(HR.sh.sl).chg Ca (by simp;omega) (by simp;omega),(hz0.chg hD (by simp)).chg CR (fun b hb=>by have:=ho0 b hb;simp;omega),hz1.chg CR (fun b hb=>by have:=ho1 b hb;simp;omega),HR.sh.pt.chg Ca (by simp;omega) (by simp;omega) (by simp;omega) (by simp;omega),?_,fun k hk=>?_,?_,fun b hb=>?_,fun b hb=>?_⟩
 ·have c1:Chg [p,t,bc,bk] w wr:=(hC4.mono (by simp)).trans HR.chg
  exact c1.then Ca (fun i hi=>by simp at hi;right;omega)
 ·have hk2:k=0∨k=1:=by omega
  rcases hk2 with rfl | rfl <;> omega
 ·omega
 ·have:=ho0 b hb;omega
 ·have:=ho1 b hb;omega
theorem place_ok {w:World} {p t bc bk:Nat} {Kp:Pk} {T:Tal} {v0 v1:Value} {A:Nat->Nat->Nat} {n g c:Nat->Nat} (H:PT w p t bc bk Kp T) (hv:ShV w v0 v1 A n g c) (ho:ShOk T n A) (hr:(needN T.n:Int)<=roomI T Kp.first) :
    Calls Tryz.prog 80 #[.pointer (some ⟨t,0,none⟩),.pointer (some ⟨p,0,none⟩),.agg #[v0,v1]] w (Placed w p t bc bk (PS.start T Kp n A).fin):=by
  have n1:=H.ht.n1;have n2:=H.ht.n2;have hfn:=zLt H.f H.n;have HH:=zh H;have HV:=zh hv;have HO:=zh ho;have e0:=hv.e0;have e1:=hv.e1;subst e0 e1;have hb1:=znd w (.cells #[.slice (some ⟨g 0,0,none⟩) (n 0) (c 0),.slice (some ⟨g 1,0,none⟩) (n 1) (c 1)] 42) (.cells #[.slice none 0 0,.slice none 0 0] 42);have hb2:=znc w (.cells #[.slice (some ⟨g 0,0,none⟩) (n 0) (c 0),.slice (some ⟨g 1,0,none⟩) (n 1) (c 1)] 42) (.cells #[.slice none 0 0,.slice none 0 0] 42);have hC2:Chg [] w ((w.alloc (.cells #[.slice (some ⟨g 0,0,none⟩) (n 0) (c 0),.slice (some ⟨g 1,0,none⟩) (n 1) (c 1)] 42)).alloc (.cells #[.slice none 0 0,.slice none 0 0] 42)):=((Chg.refl [] w).alloc _).alloc _;clear hv ho H;go_enter Tryz.func80,Tryz.ntmps80;go_wp2_with fail;generalize (w.alloc _).alloc _=w2 at *;have lb2:=zhl hb2;have x0:=zcb hb1 0;have x1:=zcb hb1 1;simp only [tA1,tA3,tA2] at x0 x1;have HB1:=zh hb1;have HB2:=zh hb2;have HC2:=zh hC2;have HH2:=zh (HH.out.chg hC2 (by simp) (by simp) (by simp) (by simp));have HV2:=zh (HV.out.chg hC2 (by simp) (by simp));clear hb1 hb2 hC2;refine (blocks_at HH2.out.ht).mono ?_;rintro e w3 ⟨rfl,rfl⟩;have nz:¬ (T.n:Int)=0:=by omega
  go_wp2_with fail;refine (right_at HH2.out.ht HV2.out HO.out).mono ?_;rintro e w4 ⟨rfl,hC4⟩;have HH4:=zh (HH2.out.chg hC4 (by simp) (by simp) (by simp) (by simp));have HV4:=zh (HV2.out.chg hC4 (by simp) (by simp));have HB4:=zh ((hC4.block _ (zhl HB1.out) (by simp)).trans HB1.out);have HR4:=zh ((hC4.block _ (zhl HB2.out) (by simp)).trans HB2.out);have HC4:=zh (HC2.out.trans hC4);clear hC4 x0 x1;go_wp2_with fail;refine (PT.room HH4.out).mono ?_;rintro e w5 ⟨rfl,rfl⟩;go_wp2_with fail;refine (blocks_at HH4.out.ht).mono ?_;rintro e w5 ⟨rfl,rfl⟩;go_wp2_with fail;refine (need_at _ n1 n2).mono ?_;rintro e w5 ⟨rfl,rfl⟩;have hr':¬ roomI T Kp.first<(needN T.n:Int):=by omega
  have hr0:=HB4.out;have x0:=zcb hr0 0;have x1:=zcb hr0 1;simp only [tA1,tA3,tA2] at x0 x1;have lx:=zhl hr0;clear hr0
  have HNB:Hid (1<=n 0/\n 0<=4096/\1<=n 1/\n 1<=4096):=zh (by
    have p1:=pg_pos n1;have p2:=pg_le (n:=T.n);have p3:=pg_pos p1;have p4:=pg_le (n:=pg T.n);rw [HO.out.n0,HO.out.n1];omega)
  have HNP:Hid (w.heap.size+1∉[p,t,bc,bk]):=zh (by
    have a0:=HH.out.hp.lt;have a1:=HH.out.ht.lt0;have a2:=HH.out.ht.lt1;have a3:=HH.out.ht.lt2;simp;omega)
  go_upto_region 7 with fail;go_cut [10] (fun q wr=>Hid (Laid w4 t p A n q wr))
  case first =>
    have HC70:=zh ((Chg.refl [] w4).drew);have hdr:=zh (show w4.drew.heap.size=w4.heap.size from rfl);refine wp_region_held_drew (S:=fun W'=>W'.cell? ⟨w.heap.size,0,none⟩=some (.slice (some ⟨g 0,0,none⟩) (n 0) (c 0))/\W'.cell? ⟨w.heap.size,1,none⟩=some (.slice (some ⟨g 1,0,none⟩) (n 1) (c 1))) (by kernel_rfl) (by exact ⟨x0,x1⟩) (fun hHeld=>?_);refine wVc 0 ?_;refine wVc 1 ?_;refine wVc 2 ?_;refine wVc 3 ?_;refine wVc 5 ?_;refine wVc 6 ?_;try simp only [Act.put,sA1,sA2,sA3]
    generalize w4.drew=w6 at *;refine wR [4,11] ?_;refine wC (fun K hK=>?_) ?_
    · (go_simp;refine (cloneI_at (l:=atL A n 0) (atL_len A n 0).symm ((HV4.out.l 0 (by omega)).chg HC70.out (by simp)) (by rw [atL_len];have:=HNB.out;omega)).mono ?_;rintro e wa ⟨va,rfl,howna,hD1⟩;obtain ⟨ga,ca,cura,rfl,geax,FAx,PAx⟩:=own_out howna (by rw [atL_len];have:=HNB.out;omega);have FA1:=zh FAx;have PA:=zh (own_at (A:=A) (n:=n) PAx);have gea:=zh geax;have lta:=zh (zhl FAx);have sz1:=zh hD1.size;have HC71:=zh (HC70.out.trans hD1);rw [atL_len];clear howna hD1 FAx PAx geax)
      refine hK.out _ _ (⟨(HC71.out.cell (p:=⟨w.heap.size,0,none⟩) lx (by simp)).trans x0,(HC71.out.cell (p:=⟨w.heap.size,1,none⟩) lx (by simp)).trans x1⟩) (fun hHeld=>?_);clear hK K;try simp only [Act.put,sA1,sA2,sA3]
      refine wR [7,11] ?_;refine wC (fun K hK=>?_) ?_
      · (go_simp;refine (cloneI_at (l:=atL A n 1) (atL_len A n 1).symm ((HV4.out.l 1 (by omega)).chg HC71.out (by simp)) (by rw [atL_len];have:=HNB.out;omega)).mono ?_;rintro e wb ⟨vb,rfl,hownb,hD2⟩;obtain ⟨gb,cb,curb,rfl,gebx,FBx,PBx⟩:=own_out hownb (by rw [atL_len];have:=HNB.out;omega);have FB2:=zh FBx;have PB:=zh (own_at (A:=A) (n:=n) PBx);have geb:=zh gebx;have ltb:=zh (zhl FBx);have sz2:=zh hD2.size;have FA2:=zh ((hD2.block _ (zhl FA1.out) (by simp)).trans FA1.out);have HC72:=zh (HC71.out.trans hD2);rw [atL_len];clear hownb hD2 FBx PBx gebx)
        refine hK.out _ _ (⟨(HC72.out.cell (p:=⟨w.heap.size,0,none⟩) lx (by simp)).trans x0,(HC72.out.cell (p:=⟨w.heap.size,1,none⟩) lx (by simp)).trans x1⟩) (fun hHeld=>?_);clear hK K;try simp only [Act.put,sA1,sA2,sA3]
        refine wVc 8 ?_;refine wVc 9 ?_;try simp only [Act.put,sA1,sA2,sA3]
        refine wR [10,11] ?_;refine wC (fun K hK=>?_) ?_
        · (go_simp;have FX3:=zh (znb wb (.cells #[.pointer (some ⟨t,0,none⟩),.pointer (some ⟨p,0,none⟩),.slice (some ⟨ga,0,none⟩) (n 0) ca,.slice (some ⟨gb,0,none⟩) (n 1) cb,.slice none 0 0,.slice none 0 0] 222));have sz3:=zh (size_alloc' wb (.cells #[.pointer (some ⟨t,0,none⟩),.pointer (some ⟨p,0,none⟩),.slice (some ⟨ga,0,none⟩) (n 0) ca,.slice (some ⟨gb,0,none⟩) (n 1) cb,.slice none 0 0,.slice none 0 0] 222));have FA3:=zh ((((Chg.refl [] wb).alloc (.cells #[.pointer (some ⟨t,0,none⟩),.pointer (some ⟨p,0,none⟩),.slice (some ⟨ga,0,none⟩) (n 0) ca,.slice (some ⟨gb,0,none⟩) (n 1) cb,.slice none 0 0,.slice none 0 0] 222)).block _ (zhl FA2.out) (by simp)).trans FA2.out);have FB3:=zh ((((Chg.refl [] wb).alloc (.cells #[.pointer (some ⟨t,0,none⟩),.pointer (some ⟨p,0,none⟩),.slice (some ⟨ga,0,none⟩) (n 0) ca,.slice (some ⟨gb,0,none⟩) (n 1) cb,.slice none 0 0,.slice none 0 0] 222)).block _ (zhl FB2.out) (by simp)).trans FB2.out);have HC73:=zh (HC72.out.alloc (.cells #[.pointer (some ⟨t,0,none⟩),.pointer (some ⟨p,0,none⟩),.slice (some ⟨ga,0,none⟩) (n 0) ca,.slice (some ⟨gb,0,none⟩) (n 1) cb,.slice none 0 0,.slice none 0 0] 222));generalize wb.alloc _=W3 at *)
          refine hK.out _ _ (⟨(HC73.out.cell (p:=⟨w.heap.size,0,none⟩) lx (by simp)).trans x0,(HC73.out.cell (p:=⟨w.heap.size,1,none⟩) lx (by simp)).trans x1⟩) (fun hHeld=>?_);clear hK K;try simp only [Act.put,sA1,sA2,sA3]
          refine wE 11 (fun K hK=>?_)
          · (go_simp;have FQ4:=zh (znb W3 (.cells #[.pointer none] 216));have sz4:=zh (size_alloc' W3 (.cells #[.pointer none] 216));have FA4:=zh ((((Chg.refl [] W3).alloc (.cells #[.pointer none] 216)).block _ (zhl FA3.out) (by simp)).trans FA3.out);have FB4:=zh ((((Chg.refl [] W3).alloc (.cells #[.pointer none] 216)).block _ (zhl FB3.out) (by simp)).trans FB3.out);have FX4:=zh ((((Chg.refl [] W3).alloc (.cells #[.pointer none] 216)).block _ (zhl FX3.out) (by simp)).trans FX3.out);have HC74:=zh (HC73.out.alloc (.cells #[.pointer none] 216));generalize W3.alloc _=W4 at *)
            refine hK.out _ _ (⟨(HC74.out.cell (p:=⟨w.heap.size,0,none⟩) lx (by simp)).trans x0,(HC74.out.cell (p:=⟨w.heap.size,1,none⟩) lx (by simp)).trans x1⟩) (fun hHeld=>?_);clear hK K;try simp only [Act.put,sA1,sA2,sA3]
            refine wE 12 (fun K hK=>?_)
            · (have fz:=zfb FQ4.out 0;have zq:=zcb FQ4.out 0;simp only [tA1,tA3] at zq;go_simp;have FA5:=zh ((zso (b:=W3.heap.size) 0 (.pointer (some ⟨wb.heap.size,0,none⟩)) (by have q0:=hdr.out;have q1:=sz1.out;have q2:=sz2.out;have q3:=sz3.out;have q4:=sz4.out;have la:=lta.out;have ga1:=gea.out;have lb:=ltb.out;have gb1:=geb.out;omega)).trans FA4.out);have FB5:=zh ((zso (b:=W3.heap.size) 0 (.pointer (some ⟨wb.heap.size,0,none⟩)) (by have q0:=hdr.out;have q1:=sz1.out;have q2:=sz2.out;have q3:=sz3.out;have q4:=sz4.out;have la:=lta.out;have ga1:=gea.out;have lb:=ltb.out;have gb1:=geb.out;omega)).trans FB4.out);have FX5:=zh ((zso (b:=W3.heap.size) 0 (.pointer (some ⟨wb.heap.size,0,none⟩)) (by have q0:=hdr.out;have q1:=sz1.out;have q2:=sz2.out;have q3:=sz3.out;have q4:=sz4.out;have la:=lta.out;have ga1:=gea.out;have lb:=ltb.out;have gb1:=geb.out;omega)).trans FX4.out);have FQ5:=zh (zsb FQ4.out 0 (.pointer (some ⟨wb.heap.size,0,none⟩)));have HC75:=zh (HC74.out.setCell (p:=⟨W3.heap.size,0,none⟩) (.inr (by have q0:=hdr.out;have q1:=sz1.out;have q2:=sz2.out;have q3:=sz3.out;have q4:=sz4.out;have la:=lta.out;have ga1:=gea.out;have lb:=ltb.out;have gb1:=geb.out;show w4.heap.size<=W3.heap.size;omega)) (.pointer (some ⟨wb.heap.size,0,none⟩)));clear fz zq)
              refine hK.out _ _ (⟨(HC75.out.cell (p:=⟨w.heap.size,0,none⟩) lx (by simp)).trans x0,(HC75.out.cell (p:=⟨w.heap.size,1,none⟩) lx (by simp)).trans x1⟩) (fun hHeld=>?_);clear hK K;try simp only [Act.put,sA1,sA2,sA3]
              refine wpAnyH_done (by kernel_rfl) ?_ _;go_wp2_with fail;go_meet;refine ⟨W3.heap.size,wb.heap.size,fun k=>if k=0 then ga else gb,fun k=>if k=0 then ca else cb,rfl,FQ5.out,FX5.out,fun k hk=>?_,?_,?_,HC75.out⟩
              · have hk2:k=0∨k=1:=by omega
                rcases hk2 with rfl | rfl
                · exact ⟨cura,FA5.out,PA.out⟩
                · exact ⟨curb,FB5.out,PB.out⟩
              · have q0:=hdr.out;have q1:=sz1.out;have q2:=sz2.out;have q3:=sz3.out;have q4:=sz4.out;have la:=lta.out;have ga1:=gea.out;have lb:=ltb.out;have gb1:=geb.out
                simp;omega
              · intro b hb
                have q0:=hdr.out;have q1:=sz1.out;have q2:=sz2.out;have q3:=sz3.out;have q4:=sz4.out;have la:=lta.out;have ga1:=gea.out;have lb:=ltb.out;have gb1:=geb.out
                simp at hb;omega
        refine wD (fun K hK=>?_)
        · (go_simp;have FQ3:=zh (znb wb (.cells #[.pointer none] 216));have sz3:=zh (size_alloc' wb (.cells #[.pointer none] 216));have FA3:=zh ((((Chg.refl [] wb).alloc (.cells #[.pointer none] 216)).block _ (zhl FA2.out) (by simp)).trans FA2.out);have FB3:=zh ((((Chg.refl [] wb).alloc (.cells #[.pointer none] 216)).block _ (zhl FB2.out) (by simp)).trans FB2.out);have HC73:=zh (HC72.out.alloc (.cells #[.pointer none] 216));generalize wb.alloc _=W3 at *)
          refine hK.out _ _ (⟨(HC73.out.cell (p:=⟨w.heap.size,0,none⟩) lx (by simp)).trans x0,(HC73.out.cell (p:=⟨w.heap.size,1,none⟩) lx (by simp)).trans x1⟩) (fun hHeld=>?_);clear hK K;try simp only [Act.put,sA1,sA2,sA3]
          refine wE 10 (fun K hK=>?_)
          · (go_simp;have FX4:=zh (znb W3 (.cells #[.pointer (some ⟨t,0,none⟩),.pointer (some ⟨p,0,none⟩),.slice (some ⟨ga,0,none⟩) (n 0) ca,.slice (some ⟨gb,0,none⟩) (n 1) cb,.slice none 0 0,.slice none 0 0] 222));have sz4:=zh (size_alloc' W3 (.cells #[.pointer (some ⟨t,0,none⟩),.pointer (some ⟨p,0,none⟩),.slice (some ⟨ga,0,none⟩) (n 0) ca,.slice (some ⟨gb,0,none⟩) (n 1) cb,.slice none 0 0,.slice none 0 0] 222));have FA4:=zh ((((Chg.refl [] W3).alloc (.cells #[.pointer (some ⟨t,0,none⟩),.pointer (some ⟨p,0,none⟩),.slice (some ⟨ga,0,none⟩) (n 0) ca,.slice (some ⟨gb,0,none⟩) (n 1) cb,.slice none 0 0,.slice none 0 0] 222)).block _ (zhl FA3.out) (by simp)).trans FA3.out);have FB4:=zh ((((Chg.refl [] W3).alloc (.cells #[.pointer (some ⟨t,0,none⟩),.pointer (some ⟨p,0,none⟩),.slice (some ⟨ga,0,none⟩) (n 0) ca,.slice (some ⟨gb,0,none⟩) (n 1) cb,.slice none 0 0,.slice none 0 0] 222)).block _ (zhl FB3.out) (by simp)).trans FB3.out);have FQ4:=zh ((((Chg.refl [] W3).alloc (.cells #[.pointer (some ⟨t,0,none⟩),.pointer (some ⟨p,0,none⟩),.slice (some ⟨ga,0,none⟩) (n 0) ca,.slice (some ⟨gb,0,none⟩) (n 1) cb,.slice none 0 0,.slice none 0 0] 222)).block _ (zhl FQ3.out) (by simp)).trans FQ3.out);have HC74:=zh (HC73.out.alloc (.cells #[.pointer (some ⟨t,0,none⟩),.pointer (some ⟨p,0,none⟩),.slice (some ⟨ga,0,none⟩) (n 0) ca,.slice (some ⟨gb,0,none⟩) (n 1) cb,.slice none 0 0,.slice none 0 0] 222));generalize W3.alloc _=W4 at *)
            refine hK.out _ _ (⟨(HC74.out.cell (p:=⟨w.heap.size,0,none⟩) lx (by simp)).trans x0,(HC74.out.cell (p:=⟨w.heap.size,1,none⟩) lx (by simp)).trans x1⟩) (fun hHeld=>?_);clear hK K;try simp only [Act.put,sA1,sA2,sA3]
            refine wE 12 (fun K hK=>?_)
            · (have fz:=zfb FQ4.out 0;have zq:=zcb FQ4.out 0;simp only [tA1,tA3] at zq;go_simp;have FA5:=zh ((zso (b:=wb.heap.size) 0 (.pointer (some ⟨W3.heap.size,0,none⟩)) (by have q0:=hdr.out;have q1:=sz1.out;have q2:=sz2.out;have q3:=sz3.out;have q4:=sz4.out;have la:=lta.out;have ga1:=gea.out;have lb:=ltb.out;have gb1:=geb.out;omega)).trans FA4.out);have FB5:=zh ((zso (b:=wb.heap.size) 0 (.pointer (some ⟨W3.heap.size,0,none⟩)) (by have q0:=hdr.out;have q1:=sz1.out;have q2:=sz2.out;have q3:=sz3.out;have q4:=sz4.out;have la:=lta.out;have ga1:=gea.out;have lb:=ltb.out;have gb1:=geb.out;omega)).trans FB4.out);have FX5:=zh ((zso (b:=wb.heap.size) 0 (.pointer (some ⟨W3.heap.size,0,none⟩)) (by have q0:=hdr.out;have q1:=sz1.out;have q2:=sz2.out;have q3:=sz3.out;have q4:=sz4.out;have la:=lta.out;have ga1:=gea.out;have lb:=ltb.out;have gb1:=geb.out;omega)).trans FX4.out);have FQ5:=zh (zsb FQ4.out 0 (.pointer (some ⟨W3.heap.size,0,none⟩)));have HC75:=zh (HC74.out.setCell (p:=⟨wb.heap.size,0,none⟩) (.inr (by have q0:=hdr.out;have q1:=sz1.out;have q2:=sz2.out;have q3:=sz3.out;have q4:=sz4.out;have la:=lta.out;have ga1:=gea.out;have lb:=ltb.out;have gb1:=geb.out;show w4.heap.size<=wb.heap.size;omega)) (.pointer (some ⟨W3.heap.size,0,none⟩)));clear fz zq)
              refine hK.out _ _ (⟨(HC75.out.cell (p:=⟨w.heap.size,0,none⟩) lx (by simp)).trans x0,(HC75.out.cell (p:=⟨w.heap.size,1,none⟩) lx (by simp)).trans x1⟩) (fun hHeld=>?_);clear hK K;try simp only [Act.put,sA1,sA2,sA3]
              refine wpAnyH_done (by kernel_rfl) ?_ _;go_wp2_with fail;go_meet;refine ⟨wb.heap.size,W3.heap.size,fun k=>if k=0 then ga else gb,fun k=>if k=0 then ca else cb,rfl,FQ5.out,FX5.out,fun k hk=>?_,?_,?_,HC75.out⟩
              · have hk2:k=0∨k=1:=by omega
                rcases hk2 with rfl | rfl
                · exact ⟨cura,FA5.out,PA.out⟩
                · exact ⟨curb,FB5.out,PB.out⟩
              · have q0:=hdr.out;have q1:=sz1.out;have q2:=sz2.out;have q3:=sz3.out;have q4:=sz4.out;have la:=lta.out;have ga1:=gea.out;have lb:=ltb.out;have gb1:=geb.out
                simp;omega
              · intro b hb
                have q0:=hdr.out;have q1:=sz1.out;have q2:=sz2.out;have q3:=sz3.out;have q4:=sz4.out;have la:=lta.out;have ga1:=gea.out;have lb:=ltb.out;have gb1:=geb.out
                simp at hb;omega
      refine wD (fun K hK=>?_)
      · (go_simp;have FQ2:=zh (znb wa (.cells #[.pointer none] 216));have sz2:=zh (size_alloc' wa (.cells #[.pointer none] 216));have FA2:=zh ((((Chg.refl [] wa).alloc (.cells #[.pointer none] 216)).block _ (zhl FA1.out) (by simp)).trans FA1.out);have HC72:=zh (HC71.out.alloc (.cells #[.pointer none] 216));generalize wa.alloc _=W2 at *)
        refine hK.out _ _ (⟨(HC72.out.cell (p:=⟨w.heap.size,0,none⟩) lx (by simp)).trans x0,(HC72.out.cell (p:=⟨w.heap.size,1,none⟩) lx (by simp)).trans x1⟩) (fun hHeld=>?_);clear hK K;try simp only [Act.put,sA1,sA2,sA3]
        refine wE 7 (fun K hK=>?_)
        · (go_simp;refine (cloneI_at (l:=atL A n 1) (atL_len A n 1).symm ((HV4.out.l 1 (by omega)).chg HC72.out (by simp)) (by rw [atL_len];have:=HNB.out;omega)).mono ?_;rintro e wb ⟨vb,rfl,hownb,hD3⟩;obtain ⟨gb,cb,curb,rfl,gebx,FBx,PBx⟩:=own_out hownb (by rw [atL_len];have:=HNB.out;omega);have FB3:=zh FBx;have PB:=zh (own_at (A:=A) (n:=n) PBx);have geb:=zh gebx;have ltb:=zh (zhl FBx);have sz3:=zh hD3.size;have FA3:=zh ((hD3.block _ (zhl FA2.out) (by simp)).trans FA2.out);have FQ3:=zh ((hD3.block _ (zhl FQ2.out) (by simp)).trans FQ2.out);have HC73:=zh (HC72.out.trans hD3);rw [atL_len];clear hownb hD3 FBx PBx gebx)
          refine hK.out _ _ (⟨(HC73.out.cell (p:=⟨w.heap.size,0,none⟩) lx (by simp)).trans x0,(HC73.out.cell (p:=⟨w.heap.size,1,none⟩) lx (by simp)).trans x1⟩) (fun hHeld=>?_);clear hK K;try simp only [Act.put,sA1,sA2,sA3]
          refine wVc 8 ?_;refine wVc 9 ?_;try simp only [Act.put,sA1,sA2,sA3]
          refine wE 10 (fun K hK=>?_)
          · (go_simp;have FX4:=zh (znb wb (.cells #[.pointer (some ⟨t,0,none⟩),.pointer (some ⟨p,0,none⟩),.slice (some ⟨ga,0,none⟩) (n 0) ca,.slice (some ⟨gb,0,none⟩) (n 1) cb,.slice none 0 0,.slice none 0 0] 222));have sz4:=zh (size_alloc' wb (.cells #[.pointer (some ⟨t,0,none⟩),.pointer (some ⟨p,0,none⟩),.slice (some ⟨ga,0,none⟩) (n 0) ca,.slice (some ⟨gb,0,none⟩) (n 1) cb,.slice none 0 0,.slice none 0 0] 222));have FA4:=zh ((((Chg.refl [] wb).alloc (.cells #[.pointer (some ⟨t,0,none⟩),.pointer (some ⟨p,0,none⟩),.slice (some ⟨ga,0,none⟩) (n 0) ca,.slice (some ⟨gb,0,none⟩) (n 1) cb,.slice none 0 0,.slice none 0 0] 222)).block _ (zhl FA3.out) (by simp)).trans FA3.out);have FQ4:=zh ((((Chg.refl [] wb).alloc (.cells #[.pointer (some ⟨t,0,none⟩),.pointer (some ⟨p,0,none⟩),.slice (some ⟨ga,0,none⟩) (n 0) ca,.slice (some ⟨gb,0,none⟩) (n 1) cb,.slice none 0 0,.slice none 0 0] 222)).block _ (zhl FQ3.out) (by simp)).trans FQ3.out);have FB4:=zh ((((Chg.refl [] wb).alloc (.cells #[.pointer (some ⟨t,0,none⟩),.pointer (some ⟨p,0,none⟩),.slice (some ⟨ga,0,none⟩) (n 0) ca,.slice (some ⟨gb,0,none⟩) (n 1) cb,.slice none 0 0,.slice none 0 0] 222)).block _ (zhl FB3.out) (by simp)).trans FB3.out);have HC74:=zh (HC73.out.alloc (.cells #[.pointer (some ⟨t,0,none⟩),.pointer (some ⟨p,0,none⟩),.slice (some ⟨ga,0,none⟩) (n 0) ca,.slice (some ⟨gb,0,none⟩) (n 1) cb,.slice none 0 0,.slice none 0 0] 222));generalize wb.alloc _=W4 at *)
            refine hK.out _ _ (⟨(HC74.out.cell (p:=⟨w.heap.size,0,none⟩) lx (by simp)).trans x0,(HC74.out.cell (p:=⟨w.heap.size,1,none⟩) lx (by simp)).trans x1⟩) (fun hHeld=>?_);clear hK K;try simp only [Act.put,sA1,sA2,sA3]
            refine wE 12 (fun K hK=>?_)
            · (have fz:=zfb FQ4.out 0;have zq:=zcb FQ4.out 0;simp only [tA1,tA3] at zq;go_simp;have FA5:=zh ((zso (b:=wa.heap.size) 0 (.pointer (some ⟨wb.heap.size,0,none⟩)) (by have q0:=hdr.out;have q1:=sz1.out;have q2:=sz2.out;have q3:=sz3.out;have q4:=sz4.out;have la:=lta.out;have ga1:=gea.out;have lb:=ltb.out;have gb1:=geb.out;omega)).trans FA4.out);have FB5:=zh ((zso (b:=wa.heap.size) 0 (.pointer (some ⟨wb.heap.size,0,none⟩)) (by have q0:=hdr.out;have q1:=sz1.out;have q2:=sz2.out;have q3:=sz3.out;have q4:=sz4.out;have la:=lta.out;have ga1:=gea.out;have lb:=ltb.out;have gb1:=geb.out;omega)).trans FB4.out);have FX5:=zh ((zso (b:=wa.heap.size) 0 (.pointer (some ⟨wb.heap.size,0,none⟩)) (by have q0:=hdr.out;have q1:=sz1.out;have q2:=sz2.out;have q3:=sz3.out;have q4:=sz4.out;have la:=lta.out;have ga1:=gea.out;have lb:=ltb.out;have gb1:=geb.out;omega)).trans FX4.out);have FQ5:=zh (zsb FQ4.out 0 (.pointer (some ⟨wb.heap.size,0,none⟩)));have HC75:=zh (HC74.out.setCell (p:=⟨wa.heap.size,0,none⟩) (.inr (by have q0:=hdr.out;have q1:=sz1.out;have q2:=sz2.out;have q3:=sz3.out;have q4:=sz4.out;have la:=lta.out;have ga1:=gea.out;have lb:=ltb.out;have gb1:=geb.out;show w4.heap.size<=wa.heap.size;omega)) (.pointer (some ⟨wb.heap.size,0,none⟩)));clear fz zq)
              refine hK.out _ _ (⟨(HC75.out.cell (p:=⟨w.heap.size,0,none⟩) lx (by simp)).trans x0,(HC75.out.cell (p:=⟨w.heap.size,1,none⟩) lx (by simp)).trans x1⟩) (fun hHeld=>?_);clear hK K;try simp only [Act.put,sA1,sA2,sA3]
              refine wpAnyH_done (by kernel_rfl) ?_ _;go_wp2_with fail;go_meet;refine ⟨wa.heap.size,wb.heap.size,fun k=>if k=0 then ga else gb,fun k=>if k=0 then ca else cb,rfl,FQ5.out,FX5.out,fun k hk=>?_,?_,?_,HC75.out⟩
              · have hk2:k=0∨k=1:=by omega
                rcases hk2 with rfl | rfl
                · exact ⟨cura,FA5.out,PA.out⟩
                · exact ⟨curb,FB5.out,PB.out⟩
              · have q0:=hdr.out;have q1:=sz1.out;have q2:=sz2.out;have q3:=sz3.out;have q4:=sz4.out;have la:=lta.out;have ga1:=gea.out;have lb:=ltb.out;have gb1:=geb.out
                simp;omega
              · intro b hb
                have q0:=hdr.out;have q1:=sz1.out;have q2:=sz2.out;have q3:=sz3.out;have q4:=sz4.out;have la:=lta.out;have ga1:=gea.out;have lb:=ltb.out;have gb1:=geb.out
                simp at hb;omega
    refine wD (fun K hK=>?_)
    · (go_simp;have FQ1:=zh (znb w6 (.cells #[.pointer none] 216));have sz1:=zh (size_alloc' w6 (.cells #[.pointer none] 216));have HC71:=zh (HC70.out.alloc (.cells #[.pointer none] 216));generalize w6.alloc _=W1 at *)
      refine hK.out _ _ (⟨(HC71.out.cell (p:=⟨w.heap.size,0,none⟩) lx (by simp)).trans x0,(HC71.out.cell (p:=⟨w.heap.size,1,none⟩) lx (by simp)).trans x1⟩) (fun hHeld=>?_);clear hK K;try simp only [Act.put,sA1,sA2,sA3]
      refine wE 4 (fun K hK=>?_)
      · (go_simp;refine (cloneI_at (l:=atL A n 0) (atL_len A n 0).symm ((HV4.out.l 0 (by omega)).chg HC71.out (by simp)) (by rw [atL_len];have:=HNB.out;omega)).mono ?_;rintro e wa ⟨va,rfl,howna,hD2⟩;obtain ⟨ga,ca,cura,rfl,geax,FAx,PAx⟩:=own_out howna (by rw [atL_len];have:=HNB.out;omega);have FA2:=zh FAx;have PA:=zh (own_at (A:=A) (n:=n) PAx);have gea:=zh geax;have lta:=zh (zhl FAx);have sz2:=zh hD2.size;have FQ2:=zh ((hD2.block _ (zhl FQ1.out) (by simp)).trans FQ1.out);have HC72:=zh (HC71.out.trans hD2);rw [atL_len];clear howna hD2 FAx PAx geax)
        refine hK.out _ _ (⟨(HC72.out.cell (p:=⟨w.heap.size,0,none⟩) lx (by simp)).trans x0,(HC72.out.cell (p:=⟨w.heap.size,1,none⟩) lx (by simp)).trans x1⟩) (fun hHeld=>?_);clear hK K;try simp only [Act.put,sA1,sA2,sA3]
        refine wE 7 (fun K hK=>?_)
        · (go_simp;refine (cloneI_at (l:=atL A n 1) (atL_len A n 1).symm ((HV4.out.l 1 (by omega)).chg HC72.out (by simp)) (by rw [atL_len];have:=HNB.out;omega)).mono ?_;rintro e wb ⟨vb,rfl,hownb,hD3⟩;obtain ⟨gb,cb,curb,rfl,gebx,FBx,PBx⟩:=own_out hownb (by rw [atL_len];have:=HNB.out;omega);have FB3:=zh FBx;have PB:=zh (own_at (A:=A) (n:=n) PBx);have geb:=zh gebx;have ltb:=zh (zhl FBx);have sz3:=zh hD3.size;have FQ3:=zh ((hD3.block _ (zhl FQ2.out) (by simp)).trans FQ2.out);have FA3:=zh ((hD3.block _ (zhl FA2.out) (by simp)).trans FA2.out);have HC73:=zh (HC72.out.trans hD3);rw [atL_len];clear hownb hD3 FBx PBx gebx)
          refine hK.out _ _ (⟨(HC73.out.cell (p:=⟨w.heap.size,0,none⟩) lx (by simp)).trans x0,(HC73.out.cell (p:=⟨w.heap.size,1,none⟩) lx (by simp)).trans x1⟩) (fun hHeld=>?_);clear hK K;try simp only [Act.put,sA1,sA2,sA3]
          refine wVc 8 ?_;refine wVc 9 ?_;try simp only [Act.put,sA1,sA2,sA3]
          refine wE 10 (fun K hK=>?_)
          · (go_simp;have FX4:=zh (znb wb (.cells #[.pointer (some ⟨t,0,none⟩),.pointer (some ⟨p,0,none⟩),.slice (some ⟨ga,0,none⟩) (n 0) ca,.slice (some ⟨gb,0,none⟩) (n 1) cb,.slice none 0 0,.slice none 0 0] 222));have sz4:=zh (size_alloc' wb (.cells #[.pointer (some ⟨t,0,none⟩),.pointer (some ⟨p,0,none⟩),.slice (some ⟨ga,0,none⟩) (n 0) ca,.slice (some ⟨gb,0,none⟩) (n 1) cb,.slice none 0 0,.slice none 0 0] 222));have FQ4:=zh ((((Chg.refl [] wb).alloc (.cells #[.pointer (some ⟨t,0,none⟩),.pointer (some ⟨p,0,none⟩),.slice (some ⟨ga,0,none⟩) (n 0) ca,.slice (some ⟨gb,0,none⟩) (n 1) cb,.slice none 0 0,.slice none 0 0] 222)).block _ (zhl FQ3.out) (by simp)).trans FQ3.out);have FA4:=zh ((((Chg.refl [] wb).alloc (.cells #[.pointer (some ⟨t,0,none⟩),.pointer (some ⟨p,0,none⟩),.slice (some ⟨ga,0,none⟩) (n 0) ca,.slice (some ⟨gb,0,none⟩) (n 1) cb,.slice none 0 0,.slice none 0 0] 222)).block _ (zhl FA3.out) (by simp)).trans FA3.out);have FB4:=zh ((((Chg.refl [] wb).alloc (.cells #[.pointer (some ⟨t,0,none⟩),.pointer (some ⟨p,0,none⟩),.slice (some ⟨ga,0,none⟩) (n 0) ca,.slice (some ⟨gb,0,none⟩) (n 1) cb,.slice none 0 0,.slice none 0 0] 222)).block _ (zhl FB3.out) (by simp)).trans FB3.out);have HC74:=zh (HC73.out.alloc (.cells #[.pointer (some ⟨t,0,none⟩),.pointer (some ⟨p,0,none⟩),.slice (some ⟨ga,0,none⟩) (n 0) ca,.slice (some ⟨gb,0,none⟩) (n 1) cb,.slice none 0 0,.slice none 0 0] 222));generalize wb.alloc _=W4 at *)
            refine hK.out _ _ (⟨(HC74.out.cell (p:=⟨w.heap.size,0,none⟩) lx (by simp)).trans x0,(HC74.out.cell (p:=⟨w.heap.size,1,none⟩) lx (by simp)).trans x1⟩) (fun hHeld=>?_);clear hK K;try simp only [Act.put,sA1,sA2,sA3]
            refine wE 12 (fun K hK=>?_)
            · (have fz:=zfb FQ4.out 0;have zq:=zcb FQ4.out 0;simp only [tA1,tA3] at zq;go_simp;have FA5:=zh ((zso (b:=w6.heap.size) 0 (.pointer (some ⟨wb.heap.size,0,none⟩)) (by have q0:=hdr.out;have q1:=sz1.out;have q2:=sz2.out;have q3:=sz3.out;have q4:=sz4.out;have la:=lta.out;have ga1:=gea.out;have lb:=ltb.out;have gb1:=geb.out;omega)).trans FA4.out);have FB5:=zh ((zso (b:=w6.heap.size) 0 (.pointer (some ⟨wb.heap.size,0,none⟩)) (by have q0:=hdr.out;have q1:=sz1.out;have q2:=sz2.out;have q3:=sz3.out;have q4:=sz4.out;have la:=lta.out;have ga1:=gea.out;have lb:=ltb.out;have gb1:=geb.out;omega)).trans FB4.out);have FX5:=zh ((zso (b:=w6.heap.size) 0 (.pointer (some ⟨wb.heap.size,0,none⟩)) (by have q0:=hdr.out;have q1:=sz1.out;have q2:=sz2.out;have q3:=sz3.out;have q4:=sz4.out;have la:=lta.out;have ga1:=gea.out;have lb:=ltb.out;have gb1:=geb.out;omega)).trans FX4.out);have FQ5:=zh (zsb FQ4.out 0 (.pointer (some ⟨wb.heap.size,0,none⟩)));have HC75:=zh (HC74.out.setCell (p:=⟨w6.heap.size,0,none⟩) (.inr (by have q0:=hdr.out;have q1:=sz1.out;have q2:=sz2.out;have q3:=sz3.out;have q4:=sz4.out;have la:=lta.out;have ga1:=gea.out;have lb:=ltb.out;have gb1:=geb.out;show w4.heap.size<=w6.heap.size;omega)) (.pointer (some ⟨wb.heap.size,0,none⟩)));clear fz zq)
              refine hK.out _ _ (⟨(HC75.out.cell (p:=⟨w.heap.size,0,none⟩) lx (by simp)).trans x0,(HC75.out.cell (p:=⟨w.heap.size,1,none⟩) lx (by simp)).trans x1⟩) (fun hHeld=>?_);clear hK K;try simp only [Act.put,sA1,sA2,sA3]
              refine wpAnyH_done (by kernel_rfl) ?_ _;go_wp2_with fail;go_meet;refine ⟨w6.heap.size,wb.heap.size,fun k=>if k=0 then ga else gb,fun k=>if k=0 then ca else cb,rfl,FQ5.out,FX5.out,fun k hk=>?_,?_,?_,HC75.out⟩
              · have hk2:k=0∨k=1:=by omega
                rcases hk2 with rfl | rfl
                · exact ⟨cura,FA5.out,PA.out⟩
                · exact ⟨curb,FB5.out,PB.out⟩
              · have q0:=hdr.out;have q1:=sz1.out;have q2:=sz2.out;have q3:=sz3.out;have q4:=sz4.out;have la:=lta.out;have ga1:=gea.out;have lb:=ltb.out;have gb1:=geb.out
                simp;omega
              · intro b hb
                have q0:=hdr.out;have q1:=sz1.out;have q2:=sz2.out;have q3:=sz3.out;have q4:=sz4.out;have la:=lta.out;have ga1:=gea.out;have lb:=ltb.out;have gb1:=geb.out
                simp at hb;omega
  case rest =>
    obtain ⟨qb,xb,g',c',rfl,hQ,hX,hats,hnd,hge,hC5⟩:=hcut.out;clear hcut
    rename World=>w7
    have q0:=zcb hQ 0;simp only [tA1,tA3] at q0;have y0:=(hC5.cell (p:=⟨w.heap.size,0,none⟩) lx (by simp)).trans x0;have y1:=(hC5.cell (p:=⟨w.heap.size,1,none⟩) lx (by simp)).trans x1;have mk0:=run_make1 (P:=Tryz.prog) 219 4 Tryz.underlying219 infoBool rfl .i64 .i64 (n 0) (by have:=HNB.out;omega) (by have:=HNB.out;omega);have mk1:=run_make1 (P:=Tryz.prog) 219 4 Tryz.underlying219 infoBool rfl .i64 .i64 (n 1) (by have:=HNB.out;omega) (by have:=HNB.out;omega);have lq:=zhl hQ;have lxb:=zhl hX;have HQ:=zh hQ;have HX:=zh hX;have HATS:=zh hats;have HND:=zh hnd;have HGE:=zh hge;have HC5:=zh hC5;have lx7:=zLl lx hC5.size;clear hQ hX hats hnd hge hC5 x0 x1;go_upto_region 8 with fail;go_cut [] (fun wr=>Hid (∃ h:Nat->Nat,ShAt wr xb p t bc bk g' h c' (PS.start T Kp n A)/\wr.heap[qb]?=some (.cells #[.pointer (some ⟨xb,0,none⟩)] 216 (0,0))/\Chg [] w4 wr/\(∀ k,k<2->w4.heap.size<=h k)/\qb≠h 0/\qb≠h 1))
    case first =>
      have HC80:=zh ((Chg.refl [] w7).drew);refine wp_region_held_drew (S:=fun W'=>W'.cell? ⟨qb,0,none⟩=some (.pointer (some ⟨xb,0,none⟩))/\W'.cell? ⟨w.heap.size,0,none⟩=some (.slice (some ⟨g 0,0,none⟩) (n 0) (c 0))/\W'.cell? ⟨w.heap.size,1,none⟩=some (.slice (some ⟨g 1,0,none⟩) (n 1) (c 1))) (by kernel_rfl) (by exact ⟨q0,y0,y1⟩) (fun hHeld=>?_);refine wVb 0 ?_;refine wVb 1 ?_;refine wVb 2 ?_;refine wVb 3 ?_;refine wVb 5 ?_;refine wVb 6 ?_;refine wVb 7 ?_;try simp only [Act.put,sA1,sA2,sA3]
      generalize w7.drew=w8 at *;refine wR [4,8] ?_;refine wC (fun K hK=>?_) ?_
      · (go_simp;have FB1:=zh (znb w8 (.cells (zrow (n 0) (.bool false)) 4));have HC81:=zh (HC80.out.alloc (.cells (zrow (n 0) (.bool false)) 4));have sz1:=zh (size_alloc' w8 (.cells (zrow (n 0) (.bool false)) 4));generalize w8.alloc _=W81 at *)
        refine hK.out _ _ (⟨(HC81.out.cell (p:=⟨qb,0,none⟩) lq (by simp)).trans q0,(HC81.out.cell (p:=⟨w.heap.size,0,none⟩) lx7 (by simp)).trans y0,(HC81.out.cell (p:=⟨w.heap.size,1,none⟩) lx7 (by simp)).trans y1⟩) (fun hHeld=>?_);clear hK K;try simp only [Act.put,sA1,sA2,sA3]
        refine wE 8 (fun K hK=>?_)
        · (go_simp;have FB2:=zh (znb W81 (.cells (zrow (n 1) (.bool false)) 4));have FB1':=zh ((((Chg.refl [] W81).alloc (.cells (zrow (n 1) (.bool false)) 4)).block _ (zhl FB1.out) (by simp)).trans FB1.out);have HC82:=zh (HC81.out.alloc (.cells (zrow (n 1) (.bool false)) 4));have sz2:=zh (size_alloc' W81 (.cells (zrow (n 1) (.bool false)) 4));generalize W81.alloc _=W82 at *)
          refine hK.out _ _ (⟨(HC82.out.cell (p:=⟨qb,0,none⟩) lq (by simp)).trans q0,(HC82.out.cell (p:=⟨w.heap.size,0,none⟩) lx7 (by simp)).trans y0,(HC82.out.cell (p:=⟨w.heap.size,1,none⟩) lx7 (by simp)).trans y1⟩) (fun hHeld=>?_);clear hK K;try simp only [Act.put,sA1,sA2,sA3]
          refine wVb 9 ?_;refine wVb 10 ?_;refine wVb 11 ?_;try simp only [Act.put,sA1,sA2,sA3]
          refine wE 12 (fun K hK=>?_)
          · (have hx2:=(HC82.out.block _ lxb (by simp)).trans HX.out;have z4:=zcb hx2 4;have z5:=zcb hx2 5;have f4:=zfb hx2 4;have f5:=zfb hx2 5;simp only [tA1,tA3,tA2] at z4 z5;have HX2:=zh hx2;clear hx2;go_simp)
            refine hK.out _ _ (keepS HND.out lxb lq lx7 lx7 (fun e=>by have h1:=HGE.out xb (by simp);have h2:w.heap.size=xb:=e;omega) (fun e=>by have h1:=HGE.out xb (by simp);have h2:w.heap.size=xb:=e;omega) HC82.out q0 y0 y1) (fun hHeld=>?_);clear hK K;try simp only [Act.put,sA1,sA2,sA3]
            refine wpAnyH_done (by kernel_rfl) ?_ _;go_wp2_with fail;go_meet;exact start_sh HH4.out HO.out HNB.out HX2.out HQ.out HATS.out HND.out HGE.out HC5.out HC82.out lxb FB1'.out FB2.out (by have q1:=sz1.out;have q2:=sz2.out;omega) (by have q1:=sz1.out;have q2:=HC80.out.size;omega) (by have q1:=sz1.out;have q2:=HC80.out.size;omega)
      refine wD (fun K hK=>?_)
      · (go_simp;have FB1:=zh (znb w8 (.cells (zrow (n 1) (.bool false)) 4));have HC81:=zh (HC80.out.alloc (.cells (zrow (n 1) (.bool false)) 4));have sz1:=zh (size_alloc' w8 (.cells (zrow (n 1) (.bool false)) 4));generalize w8.alloc _=W81 at *)
        refine hK.out _ _ (⟨(HC81.out.cell (p:=⟨qb,0,none⟩) lq (by simp)).trans q0,(HC81.out.cell (p:=⟨w.heap.size,0,none⟩) lx7 (by simp)).trans y0,(HC81.out.cell (p:=⟨w.heap.size,1,none⟩) lx7 (by simp)).trans y1⟩) (fun hHeld=>?_);clear hK K;try simp only [Act.put,sA1,sA2,sA3]
        refine wE 4 (fun K hK=>?_)
        · (go_simp;have FB2:=zh (znb W81 (.cells (zrow (n 0) (.bool false)) 4));have FB1':=zh ((((Chg.refl [] W81).alloc (.cells (zrow (n 0) (.bool false)) 4)).block _ (zhl FB1.out) (by simp)).trans FB1.out);have HC82:=zh (HC81.out.alloc (.cells (zrow (n 0) (.bool false)) 4));have sz2:=zh (size_alloc' W81 (.cells (zrow (n 0) (.bool false)) 4));generalize W81.alloc _=W82 at *)
          refine hK.out _ _ (⟨(HC82.out.cell (p:=⟨qb,0,none⟩) lq (by simp)).trans q0,(HC82.out.cell (p:=⟨w.heap.size,0,none⟩) lx7 (by simp)).trans y0,(HC82.out.cell (p:=⟨w.heap.size,1,none⟩) lx7 (by simp)).trans y1⟩) (fun hHeld=>?_);clear hK K;try simp only [Act.put,sA1,sA2,sA3]
          refine wVb 9 ?_;refine wVb 10 ?_;refine wVb 11 ?_;try simp only [Act.put,sA1,sA2,sA3]
          refine wE 12 (fun K hK=>?_)
          · (have hx2:=(HC82.out.block _ lxb (by simp)).trans HX.out;have z4:=zcb hx2 4;have z5:=zcb hx2 5;have f4:=zfb hx2 4;have f5:=zfb hx2 5;simp only [tA1,tA3,tA2] at z4 z5;have HX2:=zh hx2;clear hx2;go_simp)
            refine hK.out _ _ (keepS HND.out lxb lq lx7 lx7 (fun e=>by have h1:=HGE.out xb (by simp);have h2:w.heap.size=xb:=e;omega) (fun e=>by have h1:=HGE.out xb (by simp);have h2:w.heap.size=xb:=e;omega) HC82.out q0 y0 y1) (fun hHeld=>?_);clear hK K;try simp only [Act.put,sA1,sA2,sA3]
            refine wpAnyH_done (by kernel_rfl) ?_ _;go_wp2_with fail;go_meet;exact start_sh HH4.out HO.out HNB.out HX2.out HQ.out HATS.out HND.out HGE.out HC5.out HC82.out lxb FB2.out FB1'.out (by have q1:=sz1.out;have q2:=sz2.out;omega) (by have q1:=sz1.out;have q2:=HC80.out.size;omega) (by have q1:=sz1.out;have q2:=HC80.out.size;omega)
    case rest =>
      obtain ⟨h,hS,hQ2,hC8,hgh,hq0,hq1⟩:=hcut.out;clear hcut q0 y0 y1
      rename World=>w9
      have HSS:=zh hS;have HQ2:=zh hQ2;have HC8:=zh hC8;have HGH:=zh (zA hgh (zA hq0 hq1));have HPI:=zh (PInv.start HO.out HH.out.f HH.out.n hr);clear hS hQ2 hC8 hgh hq0 hq1 mk0 mk1;go_wp2_with fail;refine (next_at HSS.out HQ2.out).mono ?_;rintro e w10 ⟨rfl,hC10⟩
      have HL:Hid (LoopR w4 w10 xb qb p t bc bk g' h c' (PS.start T Kp n A) (PS.start T Kp n A).fin n):=zh
        { sh:=HSS.out.chg hC10 (by simp),inv:=HPI.out,fin:=rfl,nn:=rfl,tn:=trivial,
          q:=(hC10.block _ (zhl HQ2.out) (by simp)).trans HQ2.out,chg:=(HC8.out.trans hC10).mono (by simp) }
      clear hC10;go_wp2_with fail;go_loopg [12,13] (PS.start T Kp n A).left (fun gg k i wr=>∃ S',gg=PS.left S'/\k = .int .i64 (nextK S')/\i = .int .i64 (nextI S')/\Hid (LoopR w4 wr xb qb p t bc bk g' h c' S' (PS.start T Kp n A).fin n))
      case atStart=>exact ⟨_,rfl,rfl,rfl,HL⟩
      case round =>
        obtain ⟨S',hgg,hk',hi',HR⟩:=hrel
        cases hn:S'.next with
        | none =>
          have e1:nextK S' = -1:=by unfold nextK;rw [hn]
          have e2:nextI S' = -1:=by unfold nextI;rw [hn]
          rw [e1] at hk';rw [e2] at hi';subst hk' hi';have HFN:=zh (PS.fin_none hn);clear hn e1 e2;have hsh:=HR.out.sh;have q0:=zcb HR.out.q 0;have top:=hsh.top;have x0:=zcb top 0;have x1:=zcb top 1;have x2:=zcb top 2;have x3:=zcb top 3;have x4:=zcb top 4;have x5:=zcb top 5;simp only [tA1,tA3,tA2] at x0 x1 x2 x3 x4 x5;simp only [tA1,tA3] at q0;have lq9:=zhl HR.out.q;have lx9:=zhl top;have HP0:=zh (hsh.pls 0 (by omega));have HP1:=zh (hsh.pls 1 (by omega));have HNL:=zh (zA (hsh.nle (k:=0) (by omega)) (hsh.nle (k:=1) (by omega)));clear hsh top x0 x1;have j0:¬ (0:Int) <= -1:=by omega
          go_upto_region 16 with fail;have HC90:=zh ((Chg.refl [] wr).drew);refine wp_region_held_drew (S:=fun W'=>W'.cell? ⟨qb,0,none⟩=some (.pointer (some ⟨xb,0,none⟩))/\W'.cell? ⟨xb,2,none⟩=some (.slice (some ⟨g' 0,0,none⟩) (S'.n 0) (c' 0))/\W'.cell? ⟨xb,3,none⟩=some (.slice (some ⟨g' 1,0,none⟩) (S'.n 1) (c' 1))/\W'.cell? ⟨xb,4,none⟩=some (.slice (some ⟨h 0,0,none⟩) (S'.n 0) (S'.n 0))/\W'.cell? ⟨xb,5,none⟩=some (.slice (some ⟨h 1,0,none⟩) (S'.n 1) (S'.n 1))) (by kernel_rfl) (by exact ⟨q0,x2,x3,x4,x5⟩) (fun hHeld=>?_);refine wVf 0 ?_;refine wVf 1 ?_;refine wVf 2 ?_;refine wVf 3 ?_;refine wVf 4 ?_;refine wVf 5 ?_;refine wVf 6 ?_;refine wVf 7 ?_;refine wVf 8 ?_;refine wVf 9 ?_;refine wVf 10 ?_;refine wVf 11 ?_;refine wVf 12 ?_;refine wVf 13 ?_;refine wVf 14 ?_;refine wVf 15 ?_;refine wVf 17 ?_;refine wVf 18 ?_;refine wVf 19 ?_;refine wVf 20 ?_;refine wVf 21 ?_;try simp only [Act.put,sA1,sA2,sA3]
          generalize wr.drew=w8 at *;refine wE 16 (fun K hK=>?_)
          · (go_simp;refine (which_at ((HC90.out.block _ (zhl HP0.out) (by simp)).trans HP0.out) (by have:=HNL.out;omega)).mono ?_;rintro e w91 ⟨z0,rfl,hown,hC⟩;have HZ0:=zh (SlI.of_own hown);have HO0:=zh (ownBlock_new hown);have HS0:=zh (show wr.heap.size<=_ from HC90.out.size);have HC91:=zh (HC90.out.trans hC);have HD1:=zh hC;clear hown hC)
            refine hK.out _ _ (⟨(HC91.out.cell (p:=⟨qb,0,none⟩) lq9 (by simp)).trans q0,(HC91.out.cell (p:=⟨xb,2,none⟩) lx9 (by simp)).trans x2,(HC91.out.cell (p:=⟨xb,3,none⟩) lx9 (by simp)).trans x3,(HC91.out.cell (p:=⟨xb,4,none⟩) lx9 (by simp)).trans x4,(HC91.out.cell (p:=⟨xb,5,none⟩) lx9 (by simp)).trans x5⟩) (fun hHeld=>?_);clear hK K;try simp only [Act.put,sA1,sA2,sA3]
            refine wE 22 (fun K hK=>?_)
            · (go_simp;refine (which_at ((HC91.out.block _ (zhl HP1.out) (by simp)).trans HP1.out) (by have:=HNL.out;omega)).mono ?_;rintro e w92 ⟨z1,rfl,hown,hC⟩;have HZ1:=zh (SlI.of_own hown);have HO1:=zh (ownBlock_new hown);have HS1:=zh (show wr.heap.size<=_ from HC91.out.size);have HC92:=zh (HC91.out.trans hC);have HD2:=zh hC;clear hown hC)
              refine hK.out _ _ (⟨(HC92.out.cell (p:=⟨qb,0,none⟩) lq9 (by simp)).trans q0,(HC92.out.cell (p:=⟨xb,2,none⟩) lx9 (by simp)).trans x2,(HC92.out.cell (p:=⟨xb,3,none⟩) lx9 (by simp)).trans x3,(HC92.out.cell (p:=⟨xb,4,none⟩) lx9 (by simp)).trans x4,(HC92.out.cell (p:=⟨xb,5,none⟩) lx9 (by simp)).trans x5⟩) (fun hHeld=>?_);clear hK K;try simp only [Act.put,sA1,sA2,sA3]
              refine wE 23 (fun K hK=>?_)
              · (have hr2:=(HC92.out.block _ (zLl (zhl HR4.out) HR.out.chg.size) (by simp)).trans ((HR.out.chg.block _ (zhl HR4.out) HNP.out).trans HR4.out);have z4:=zcb hr2 0;have z5:=zcb hr2 1;have f4:=zfb hr2 0;have f5:=zfb hr2 1;simp only [tA1,tA3,tA2] at z4 z5;have HR2:=zh hr2;clear hr2;go_simp)
                refine hK.out _ _ (keepE (c0:=S'.n 0) HC92.out lq9 lx9 (by have:=HGE.out qb (by simp);have:=zhl HR4.out;omega) (by have:=HGE.out xb (by simp);have:=zhl HR4.out;omega) q0 x2 x3 x4 x5) (fun hHeld=>?_);clear hK K;try simp only [Act.put,sA1,sA2,sA3]
                refine wVf 24 ?_;refine wVf 25 ?_;refine wVf 26 ?_;try simp only [Act.put,sA1,sA2,sA3]
                refine wpAnyH_done (by kernel_rfl) ?_ _;have HFIN:=zh (placed_end HC4.out HR.out HFN.out HGE.out HND.out HR2.out HC92.out HZ0.out HZ1.out HD2.out HO0.out HO1.out (by have h1:=HS0.out;have h2:=HS1.out;have h3:=HR.out.chg.size;have h4:=HC4.out.size;omega) (by have h1:=HS0.out;have h2:=HS1.out;have h3:=HR.out.chg.size;have h4:=HC4.out.size;omega) (by have a0:=HH.out.hp.lt;have a1:=HH.out.ht.lt0;have a2:=HH.out.ht.lt1;have a3:=HH.out.ht.lt2;omega) (by have:=zhl HR4.out;omega));go_wp2_with fail;obtain ⟨k0,k1,hP⟩:=HFIN.out _ rfl;exact bodyPost_ret (v := .tuple #[.agg #[.slice (some ⟨g' 0,0,none⟩) (S'.n 0) (c' 0),.slice (some ⟨g' 1,0,none⟩) (S'.n 1) (c' 1)],z0,z1,.int .i64 0]) (by simp [results,Tryz.results80,go_sem,k0,k1]) rfl hP
        | some ki =>
          obtain ⟨k,i⟩:=ki;have ⟨b1,b2,b3⟩:=PS.next_some hn;have e1:nextK S'=(k:Int):=by unfold nextK;rw [hn]
          have e2:nextI S'=(i:Int):=by unfold nextI;rw [hn]
          rw [e1] at hk';rw [e2] at hi';subst hk' hi';have HFS:=zh (PS.fin_some hn);have HLS:=zh (PS.left_step b1 b2 b3);have HER:=zh (HR.out.inv.err b1 b2 b3);have HST:=zh (HR.out.inv.step b1 b2 b3);have j0:(0:Int)<=(i:Int):=by omega
          have q0:=zcb HR.out.q 0;simp only [tA1,tA3] at q0;clear hn e1 e2;go_wp2_with fail;refine (place_at HR.out.sh b1 b2).mono ?_;rintro e w11 ⟨rfl,hS11,hC11⟩;rw [HER.out];have HR2:=zh (HR.out.step hS11 hC11 HST.out HFS.out (HGH.out.1 0 (by omega)) (HGH.out.1 1 (by omega)) HGH.out.2.1 HGH.out.2.2 HND.out HGE.out (by have:=HH4.out.hp.lt;have a1:=HH4.out.ht.lt0;have a2:=HH4.out.ht.lt1;have a3:=HH4.out.ht.lt2;omega));clear hS11 hC11 q0;go_wp2_with fail;refine (next_at HR2.out.sh HR2.out.q).mono ?_;rintro e w12 ⟨rfl,hC12⟩;have HR3:=zh (HR2.out.on hC12);clear hC12;go_wp2_with fail;go_roundg (PS.left (S'.step k i))
          case measure=>have:=HLS.out;omega
          case rel=>exact ⟨_,rfl,rfl,rfl,HR3⟩
end Go.Proofs.YtkhcaclndepgbaaGreat
