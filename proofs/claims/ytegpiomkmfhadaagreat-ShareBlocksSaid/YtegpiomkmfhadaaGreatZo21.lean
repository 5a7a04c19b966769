/- Package base: Format. (Printed by mkfmt -/
import Derived.Test.YtegpiomkmfhadaaGreatZo20
set_option linter.all false
set_option maxRecDepth 100000
set_option maxHeartbeats 20000000
namespace Go.Proofs.YtegpiomkmfhadaaGreat
open Go.RowKit
variable {w W:World} {b n k h0 h1:Nat}
theorem jh (h:w.heap[b]?=some (.cells (zO n (.int .i64 0)) 3 (0,0))) (hn:n<=4096) {A:Nat->Nat->Nat} {nn:zF} (hA:∀ i,A k i=0) (hk:nn k=n):Y9 w (zS b n n) (Qp A nn k):=by
 refine .inr ⟨b,n,by rw [xF,hk],by rw [xF,hk];exact xd _,by unfold maxLen;omega,zz h,fun i hi=>?_⟩;rw [xF] at hi;rw [Y0 _ _ hi,hA,zM h];rw [hk] at hi;simp [zO,hi]
theorem Y9.lt_own {v:Value} {l:List Nat} (h:Y9 w v l):∀ q,v.ownBlock=some q->q<w.heap.size:=by
 intro q hq;rcases h with ⟨rfl,_⟩ | ⟨g,cap,rfl,_,_,h3,_⟩
 ·cases hq
 ·have:g=q:=by simpa [Value.ownBlock] using hq
  omega
theorem vB (hn:n<=4096) (DW:W.heap[h0]?=some (.cells (zO (pg n) (.int .i64 0)) 3 (0,0))) (al:W.heap[h1]?=some (.cells (zO (pg (pg n)) (.int .i64 0)) 3 (0,0))) :
  gQ W (zS h0 (pg n) (pg n)) (zS h1 (pg (pg n)) (pg (pg n))) (fun _ _=>0) (qd n) (fun k=>if k=0 then h0 else h1) (qd n):=by
 have:=Js (n:=n);have:=Js (n:=pg n);refine ⟨rfl,rfl,fun k hk=>?_⟩;rcases (show k=0∨k=1 by omega) with rfl | rfl
 ·exact jh (k:=0) DW zo (fun _=>rfl) rfl
 ·exact jh (k:=1) al zo (fun _=>rfl) rfl
def Bq (_:World):Prop:=True
theorem gQ.rowF {v0 v1:Value} {S:Nat->Nat->Nat} {n g c:zF} (h:gQ w v0 v1 S n g c) (hk:k<2):n k<=c k/\c k<=maxLen/\g k<w.heap.size/\∀ i,i<n k->w.cell? ⟨g k,i,none⟩=some (.int .i64 (S k i:Int)):=by
 rcases h.l k hk with ⟨e,_⟩ | ⟨gg,cap,e,q1,q2,q3,q4⟩
 ·cases e
 ·injection e with e e2 e3
  injection e with e;injection e with e;rw [xF] at q1 q4;subst e;subst e3;refine ⟨q1,q2,q3,fun i hi=>?_⟩;have:=q4 i hi;rw [Y0 _ _ hi] at this;exact this
def BB (w:World) (p t bc bk n:Nat) (s9 z0 z1:Value) (wx:World):Prop :=
 ∃ (xb:Nat) (g c:zF),s9 = zP xb/\wx.heap[xb]?=some (.cells #[zS (g 0) (qd n 0) (c 0),zS (g 1) (qd n 1) (c 1)] 50 (0,0)) /\
  gQ wx (zS (g 0) (qd n 0) (c 0)) (zS (g 1) (qd n 1) (c 1)) (xH n).a (qd n) g c/\Y9 wx z0 (xm ((xH n).p 0) (qd n 0))/\Y9 wx z1 (xm ((xH n).p 1) (qd n 1))/\PT wx p t bc bk (xH n).K (xH n).T/\zv [p,t,bc,bk] w wx
def P7 (W:World) (p t bc bk n:Nat) (z0 z1:Value) (g c:zF) (w':World):Prop :=
 gQ w' (zS (g 0) (qd n 0) (c 0)) (zS (g 1) (qd n 1) (c 1)) (xH n).a (qd n) g c/\Y9 w' z0 (xm ((xH n).p 0) (qd n 0))/\Y9 w' z1 (xm ((xH n).p 1) (qd n 1))/\PT w' p t bc bk (xH n).K (xH n).T /\
  zv [p,t,bc,bk] W w'/\(∀ k,k<2->W.heap.size<=g k)/\(∀ b,z0.ownBlock=some b->W.heap.size<=b)/\(∀ b,z1.ownBlock=some b->W.heap.size<=b)
def BM (W:World) (p t bc bk n:Nat) (e:Ending) (w':World):Prop :=
 ∃ z0 z1 g c,e = .returned (.tuple #[.agg #[zS (g 0) (qd n 0) (c 0),zS (g 1) (qd n 1) (c 1)],z0,z1,.int .i64 0])/\P7 W p t bc bk n z0 z1 g c w'
theorem YN {p t bc bk:Nat} (hn:16<=n/\n<=4096) (hp:PT W p t bc bk ⟨2,2,0⟩ (zW.new n)) (DW:W.heap[h0]?=some (.cells (zO (pg n) (.int .i64 0)) 3 (0,0))) (al:W.heap[h1]?=some (.cells (zO (pg (pg n)) (.int .i64 0)) 3 (0,0))) :
  zC 89 #[zP t,zP p,.agg #[zS h0 (pg n) (pg n),zS h1 (pg (pg n)) (pg (pg n))]] W (BM W p t bc bk n):=by
 have c:=rW hp (vB hn.2 DW al) (Vj (zW.new n)) (Vk hn.1);refine c.mono ?_;rintro e w' ⟨u0,u1,z0,z1,g,c,rfl,hsv,Ia,Lj,Hh,Ds,DM,Gq,hzb0,hzb1⟩;obtain ⟨rfl,rfl,GH⟩:=hsv;have en:(xH n).n=qd n:=(rX hn.1).2.2.1
 change Y9 w' z0 (xm ((xH n).p 0) ((xH n).n 0)) at Ia
 change Y9 w' z1 (xm ((xH n).p 1) ((xH n).n 1)) at Lj
 have GV:gQ w' (zS (g 0) ((xH n).n 0) (c 0)) (zS (g 1) ((xH n).n 1) (c 1)) (xH n).a (xH n).n g c:=gQ.mk rfl rfl GH;rw [en] at Ia Lj GV;refine ⟨z0,z1,g,c,?_,GV,Ia,Lj,Hh,Ds,DM,hzb0,hzb1⟩
 show Ending.returned (.tuple #[.agg #[zS (g 0) ((xH n).n 0) (c 0),zS (g 1) ((xH n).n 1) (c 1)],z0,z1,.int .i64 0])=_
 rw [en]
theorem zX {y:Obj} (B:Obj) (h:W.heap[b]?=some y):(W.alloc B).heap[b]?=some y:=((zv.refl [] W).alloc B).kp h
def R7 (w wX:World) (p t bc bk n xb:Nat) (z0 z1:Value) (g c:zF):Prop :=
 wX.heap[xb]?=some (.cells #[.slice none 0 0,.slice none 0 0] 50 (0,0))/\w.heap.size<=xb/\(xb≠g 0/\xb≠g 1/\z0.ownBlock≠some xb/\z1.ownBlock≠some xb/\xb∉[p,t,bc,bk]) /\
 gQ wX (zS (g 0) (qd n 0) (c 0)) (zS (g 1) (qd n 1) (c 1)) (xH n).a (qd n) g c/\Y9 wX z0 (xm ((xH n).p 0) (qd n 0))/\Y9 wX z1 (xm ((xH n).p 1) (qd n 1))/\PT wX p t bc bk (xH n).K (xH n).T/\zv [p,t,bc,bk] w wX
section
variable {w w0 W wX:World} {p t bc bk n xb:Nat} {z0 z1:Value} {g c:Nat->Nat}
theorem Qr (hs:w.heap.size<=xb) (hc:zv [] w W) (hx:W.heap[xb]?=some (.cells #[.slice none 0 0,.slice none 0 0] 50 (0,0))) (q:P7 W p t bc bk n z0 z1 g c wX) (hp:∀ q,q∈[p,t,bc,bk]->w0.heap.size<=q/\q<w.heap.size):R7 w wX p t bc bk n xb z0 z1 g c:=by
 have hl:=zz hx;have hg:xb∉[p,t,bc,bk]:=fun hm=>by have:=(hp _ hm).2;omega
 obtain ⟨q1,q2,q3,q4,q5,q6,q7,q8⟩:=q;exact ⟨(q5.block _ hl hg).trans hx,hs,⟨by have:=q6 0 zo;omega,by have:=q6 1 zo;omega,fun h=>by have:=q7 _ h;omega,fun h=>by have:=q8 _ h;omega,hg⟩,q1,q2,q3,q4,(hc.mo).trans q5⟩
theorem lJ (hc:zv [] w W) (q:P7 W p t bc bk n z0 z1 g c wX) (hp:∀ q,q∈[p,t,bc,bk]->w0.heap.size<=q/\q<w.heap.size):R7 w (wX.alloc (.cells #[.slice none 0 0,.slice none 0 0] 50)) p t bc bk n wX.heap.size z0 z1 g c:=by
 have:=hc.size;have hx:=xo wX (.cells #[.slice none 0 0,.slice none 0 0] 50);have hk:zv [] wX (wX.alloc (.cells #[.slice none 0 0,.slice none 0 0] 50)):=(zv.refl [] wX).alloc _;obtain ⟨q1,q2,q3,q4,q5,q6,q7,q8⟩:=q;have:=q5.size
 exact ⟨hx,zo,⟨by have:=(q1.rowF (k:=0) zo).2.2.1;omega,by have:=(q1.rowF (k:=1) zo).2.2.1;omega,fun h=>by have:=q2.lt_own _ h;omega,fun h=>by have:=q3.lt_own _ h;omega,fun hm=>by have:=(hp _ hm).2;omega⟩,
  q1.chg hk,q2.chg hk,q3.chg hk,q4.chg hk,((hc.mo).trans q5).trans (hk.mo)⟩
theorem Aw (h:R7 w wX p t bc bk n xb z0 z1 g c):BB w p t bc bk n (zP xb) z0 z1 ((wX.setCell ⟨xb,0,none⟩ (zS (g 0) (qd n 0) (c 0))).setCell ⟨xb,1,none⟩ (zS (g 1) (qd n 1) (c 1))):=by
 obtain ⟨hx,hs,⟨n1,n2,n3,n4,n5⟩,q1,q2,q3,q4,q5⟩:=h;have hC:=((zv.refl [xb] wX).setCell (p:=⟨xb,0,none⟩) (.inl zaa) (zS (g 0) (qd n 0) (c 0))).setCell (p:=⟨xb,1,none⟩) (.inl zaa) (zS (g 1) (qd n 1) (c 1));simp only [ya,yk,or_false,not_or] at n5
 exact ⟨xb,g,c,rfl,Yh (Yh hx 0 _) 1 _,q1.chg hC (by simp;exact fun e=>n1 e.symm) (by simp;exact fun e=>n2 e.symm),q2.chg hC (fun q hq hm=>by rw [zms] at hm;subst hm;exact n3 hq),q3.chg hC (fun q hq hm=>by rw [zms] at hm;subst hm;exact n4 hq),
  q4.chg hC zae zae zae zae,(q5.setCell (.inr hs) _).setCell (.inr hs) _⟩
end
theorem ji {d bb N:Nat} (hd:xE w d bb (.slice none 0 0) ⟨N,fun _ _=>0,[]⟩) (hN:16<=N/\N<=4096) :
  Calls Tryz.prog 48 #[.pointer (some ⟨d,0,none⟩)] w fun e w'=>e = .returned (.int .i64 0)/\xE w' d bb (.slice none 0 0) ⟨N,(Bs.fmt N).D,[]⟩/\zv [d,bb] w w':=by
 have cl:=un hd;have HD:=zh hd;have i0:¬ ((N:Int)=0):=zo
 clear hd;go_enter Tryz.func48,Tryz.ntmps48;go_wp2_with fail;refine zm (cl) ?_;go_wp2_with fail;refine (mC N w zo hN.2).mono ?_;rintro e w1 ⟨t,bc,bk,rfl,ht,Cz,l1,l2,l3⟩;have HT:=zh ht;have Ce:=zh Cz;have HL:=zh (zA l1 (zA l2 l3));clear ht Cz l1 l2 l3 cl;go_wp2_with fail;refine (uP HT 2 zo).mono ?_;rintro e w2 ⟨p,rfl,hp,Do,lp⟩;have HP:=zh hp;have BZ:=zh (Ce.trans Do)
 have GK:=zh (show ∀ q,q∈[p,t,bc,bk]->w.heap.size<=q/\q<w2.heap.size from by
  have h1:=HL.o;have h2:=qh Ce.size lp;have a0:=hp.hp.lt;have a1:=hp.ht.lt0;have a2:=hp.ht.lt1;have a3:=hp.ht.lt2;intro q hq;simp only [ya,yk,or_false] at hq;rcases hq with rfl | rfl | rfl | rfl
  ·exact ⟨h2,a0⟩
  ·exact ⟨h1.1,a1⟩
  ·exact ⟨h1.2.1,a2⟩
  ·exact ⟨h1.2.2,a3⟩)
 clear hp Do lp HT Ce HL;have KQ:=Zx (n:=N) w2 zo hN.2;go_wp2_with fail;refine zm KQ ?_;have IX:1<=pg N/\pg N<=4096:=by unfold pg;omega
 have hpp:pg (pg N)<=4096:=zq (fW hN.2);have CG:=zh (fun W=>Zx (n:=pg N) W IX.1 IX.2);have M1:=zh (xW (P:=Tryz.prog) 32 3 Tryz.underlying32 YH rfl .i64 .i64 (pg N) zo zo);have Lr:=zh (xW (P:=Tryz.prog) 32 3 Tryz.underlying32 YH rfl .i64 .i64 (pg (pg N)) zo zo);clear KQ;go_upto_region 7 with fail;go_cut [9,10,11,12] (fun s9 z0 z1 e12 wx=>e12 = .int .i64 0/\Hd (BB w2 p t bc bk N s9 z0 z1 wx))
 case first =>
  refine wp_region_held_drew (S:=Bq) zab (by exact trivial) fun BS=>?_;refine wV 0 ?_;refine wV 1 ?_;refine wV 2 ?_;refine wV 4 ?_;refine zu ?_;have HC:=zh ((zv.refl [] w2).drew);generalize w2.drew=W0 at *;refine wR [3,5,14] ?_;refine wC (fun K hK=>?_) ?_
  (have mk:=M1.o;go_simp;clear mk;have TF:=zh (xo W0 (.cells (zO (pg N) (.int .i64 0)) 3));have Ce:=zh (HC.alloc (.cells (zO (pg N) (.int .i64 0)) 3));generalize W0.alloc _=W1 at *)
  refine hK.out _ _ trivial fun BS=>?_;clear hK K;refine zu ?_;refine wR [5,14] ?_;refine wC (fun K hK=>?_) ?_
  (go_simp;refine zm (CG _) ?_)
  refine hK.out _ _ trivial fun BS=>?_;clear hK K;refine zu ?_;refine wR [6,14] ?_;refine wC (fun K hK=>?_) ?_
  (have mk:=Lr.o;go_simp;clear mk;have Kv:=zh (xo W1 (.cells (zO (pg (pg N)) (.int .i64 0)) 3));have GA:=zh (zX (.cells (zO (pg (pg N)) (.int .i64 0)) 3) TF);have BZ:=zh (Ce.alloc (.cells (zO (pg (pg N)) (.int .i64 0)) 3));generalize W1.alloc _=W2 at *)
  refine hK.out _ _ trivial fun BS=>?_;clear hK K;refine zu ?_;refine wV 7 ?_;refine zu ?_;refine wR [8,14] ?_;refine wC (fun K hK=>?_) ?_
  (go_simp;refine (YN hN (HP.chg BZ zaa zaa zaa zaa) GA Kv).mono ?_;rintro e wP ⟨z0,z1,g,c,rfl,q0⟩;have Ee:=zh (lJ BZ q0 GK);clear q0)
  refine hK.out _ _ trivial fun BS=>?_;clear hK K;refine zu ?_;refine wV 9 ?_;refine wV 10 ?_;refine wV 11 ?_;refine wV 12 ?_;refine wV 13 ?_;refine zu ?_;refine wE 14 (fun K hK=>?_)
  (go_simp;generalize wP.alloc _=wX at Ee ⊢;generalize wP.heap.size=xb at Ee ⊢)
  refine hK.out _ _ trivial fun BS=>?_;clear hK K;refine zu ?_
  rotate_left 1
  refine wD (fun K hK=>?_)
  (go_simp;have ES:=zh BZ.size;have FN:=zh (xo W2 (.cells #[.slice none 0 0,.slice none 0 0] 50));have FL:=zh (zX (.cells #[.slice none 0 0,.slice none 0 0] 50) GA);have FM:=zh (zX (.cells #[.slice none 0 0,.slice none 0 0] 50) Kv);have Cj:=zh (BZ.alloc (.cells #[.slice none 0 0,.slice none 0 0] 50));generalize W2.alloc _=W3 at *)
  refine hK.out _ _ trivial fun BS=>?_;clear hK K;refine zu ?_;refine wE 8 (fun K hK=>?_)
  (go_simp;refine (YN hN (HP.chg Cj zaa zaa zaa zaa) FL FM).mono ?_;rintro e wX ⟨z0,z1,g,c,rfl,q0⟩;have Ee:=zh (Qr ES Cj FN q0 GK);clear q0;generalize W2.heap.size=xb at Ee ⊢)
  refine hK.out _ _ trivial fun BS=>?_;clear hK K;refine zu ?_;refine wV 9 ?_;refine wV 10 ?_;refine wV 11 ?_;refine wV 12 ?_;refine wV 13 ?_;refine zu ?_
  rotate_left 1
  refine wD (fun K hK=>?_)
  (go_simp;have ES:=zh Ce.size;have Ig:=zh (xo W1 (.cells #[.slice none 0 0,.slice none 0 0] 50));have GA:=zh (zX (.cells #[.slice none 0 0,.slice none 0 0] 50) TF);have BZ:=zh (Ce.alloc (.cells #[.slice none 0 0,.slice none 0 0] 50));generalize W1.alloc _=W2 at *)
  refine hK.out _ _ trivial fun BS=>?_;clear hK K;refine zu ?_;refine wE 6 (fun K hK=>?_)
  (have mk:=Lr.o;go_simp;clear mk;have FM:=zh (xo W2 (.cells (zO (pg (pg N)) (.int .i64 0)) 3));have FL:=zh (zX (.cells (zO (pg (pg N)) (.int .i64 0)) 3) GA);have FN:=zh (zX (.cells (zO (pg (pg N)) (.int .i64 0)) 3) Ig);have Cj:=zh (BZ.alloc (.cells (zO (pg (pg N)) (.int .i64 0)) 3));generalize W2.alloc _=W3 at *)
  refine hK.out _ _ trivial fun BS=>?_;clear hK K;refine zu ?_;refine wV 7 ?_;refine zu ?_;refine wE 8 (fun K hK=>?_)
  (go_simp;refine (YN hN (HP.chg Cj zaa zaa zaa zaa) FL FM).mono ?_;rintro e wX ⟨z0,z1,g,c,rfl,q0⟩;have Ee:=zh (Qr ES Cj FN q0 GK);clear q0;generalize W1.heap.size=xb at Ee ⊢)
  refine hK.out _ _ trivial fun BS=>?_;clear hK K;refine zu ?_;refine wV 9 ?_;refine wV 10 ?_;refine wV 11 ?_;refine wV 12 ?_;refine wV 13 ?_;refine zu ?_
  rotate_left 1
  refine wD (fun K hK=>?_)
  (go_simp;have ES:=zh Ce.size;have Ig:=zh (xo W1 (.cells #[.slice none 0 0,.slice none 0 0] 50));have GA:=zh (zX (.cells #[.slice none 0 0,.slice none 0 0] 50) TF);have BZ:=zh (Ce.alloc (.cells #[.slice none 0 0,.slice none 0 0] 50));generalize W1.alloc _=W2 at *)
  refine hK.out _ _ trivial fun BS=>?_;clear hK K;refine zu ?_;refine wE 5 (fun K hK=>?_)
  (go_simp;refine zm (CG _) ?_)
  refine hK.out _ _ trivial fun BS=>?_;clear hK K;refine zu ?_;refine wE 6 (fun K hK=>?_)
  (have mk:=Lr.o;go_simp;clear mk;have FM:=zh (xo W2 (.cells (zO (pg (pg N)) (.int .i64 0)) 3));have FL:=zh (zX (.cells (zO (pg (pg N)) (.int .i64 0)) 3) GA);have FN:=zh (zX (.cells (zO (pg (pg N)) (.int .i64 0)) 3) Ig);have Cj:=zh (BZ.alloc (.cells (zO (pg (pg N)) (.int .i64 0)) 3));generalize W2.alloc _=W3 at *)
  refine hK.out _ _ trivial fun BS=>?_;clear hK K;refine zu ?_;refine wV 7 ?_;refine zu ?_;refine wE 8 (fun K hK=>?_)
  (go_simp;refine (YN hN (HP.chg Cj zaa zaa zaa zaa) FL FM).mono ?_;rintro e wX ⟨z0,z1,g,c,rfl,q0⟩;have Ee:=zh (Qr ES Cj FN q0 GK);clear q0;generalize W1.heap.size=xb at Ee ⊢)
  refine hK.out _ _ trivial fun BS=>?_;clear hK K;refine zu ?_;refine wV 9 ?_;refine wV 10 ?_;refine wV 11 ?_;refine wV 12 ?_;refine wV 13 ?_;refine zu ?_
  rotate_left 1
  refine wC (fun K hK=>?_) ?_
  (go_simp;refine zm (CG _) ?_)
  refine hK.out _ _ trivial fun BS=>?_;clear hK K;refine zu ?_;refine wR [3,6,14] ?_;refine wC (fun K hK=>?_) ?_
  (have mk:=M1.o;go_simp;clear mk;have TF:=zh (xo W0 (.cells (zO (pg N) (.int .i64 0)) 3));have Ce:=zh (HC.alloc (.cells (zO (pg N) (.int .i64 0)) 3));generalize W0.alloc _=W1 at *)
  refine hK.out _ _ trivial fun BS=>?_;clear hK K;refine zu ?_;refine wR [6,14] ?_;refine wC (fun K hK=>?_) ?_
  (have mk:=Lr.o;go_simp;clear mk;have Kv:=zh (xo W1 (.cells (zO (pg (pg N)) (.int .i64 0)) 3));have GA:=zh (zX (.cells (zO (pg (pg N)) (.int .i64 0)) 3) TF);have BZ:=zh (Ce.alloc (.cells (zO (pg (pg N)) (.int .i64 0)) 3));generalize W1.alloc _=W2 at *)
  refine hK.out _ _ trivial fun BS=>?_;clear hK K;refine zu ?_;refine wV 7 ?_;refine zu ?_;refine wR [8,14] ?_;refine wC (fun K hK=>?_) ?_
  (go_simp;refine (YN hN (HP.chg BZ zaa zaa zaa zaa) GA Kv).mono ?_;rintro e wP ⟨z0,z1,g,c,rfl,q0⟩;have Ee:=zh (lJ BZ q0 GK);clear q0)
  refine hK.out _ _ trivial fun BS=>?_;clear hK K;refine zu ?_;refine wV 9 ?_;refine wV 10 ?_;refine wV 11 ?_;refine wV 12 ?_;refine wV 13 ?_;refine zu ?_;refine wE 14 (fun K hK=>?_)
  (go_simp;generalize wP.alloc _=wX at Ee ⊢;generalize wP.heap.size=xb at Ee ⊢)
  refine hK.out _ _ trivial fun BS=>?_;clear hK K;refine zu ?_
  rotate_left 1
  refine wD (fun K hK=>?_)
  (go_simp;have ES:=zh BZ.size;have FN:=zh (xo W2 (.cells #[.slice none 0 0,.slice none 0 0] 50));have FL:=zh (zX (.cells #[.slice none 0 0,.slice none 0 0] 50) GA);have FM:=zh (zX (.cells #[.slice none 0 0,.slice none 0 0] 50) Kv);have Cj:=zh (BZ.alloc (.cells #[.slice none 0 0,.slice none 0 0] 50));generalize W2.alloc _=W3 at *)
  refine hK.out _ _ trivial fun BS=>?_;clear hK K;refine zu ?_;refine wE 8 (fun K hK=>?_)
  (go_simp;refine (YN hN (HP.chg Cj zaa zaa zaa zaa) FL FM).mono ?_;rintro e wX ⟨z0,z1,g,c,rfl,q0⟩;have Ee:=zh (Qr ES Cj FN q0 GK);clear q0;generalize W2.heap.size=xb at Ee ⊢)
  refine hK.out _ _ trivial fun BS=>?_;clear hK K;refine zu ?_;refine wV 9 ?_;refine wV 10 ?_;refine wV 11 ?_;refine wV 12 ?_;refine wV 13 ?_;refine zu ?_
  rotate_left 1
  refine wD (fun K hK=>?_)
  (go_simp;have ES:=zh Ce.size;have Ig:=zh (xo W1 (.cells #[.slice none 0 0,.slice none 0 0] 50));have GA:=zh (zX (.cells #[.slice none 0 0,.slice none 0 0] 50) TF);have BZ:=zh (Ce.alloc (.cells #[.slice none 0 0,.slice none 0 0] 50));generalize W1.alloc _=W2 at *)
  refine hK.out _ _ trivial fun BS=>?_;clear hK K;refine zu ?_;refine wE 6 (fun K hK=>?_)
  (have mk:=Lr.o;go_simp;clear mk;have FM:=zh (xo W2 (.cells (zO (pg (pg N)) (.int .i64 0)) 3));have FL:=zh (zX (.cells (zO (pg (pg N)) (.int .i64 0)) 3) GA);have FN:=zh (zX (.cells (zO (pg (pg N)) (.int .i64 0)) 3) Ig);have Cj:=zh (BZ.alloc (.cells (zO (pg (pg N)) (.int .i64 0)) 3));generalize W2.alloc _=W3 at *)
  refine hK.out _ _ trivial fun BS=>?_;clear hK K;refine zu ?_;refine wV 7 ?_;refine zu ?_;refine wE 8 (fun K hK=>?_)
  (go_simp;refine (YN hN (HP.chg Cj zaa zaa zaa zaa) FL FM).mono ?_;rintro e wX ⟨z0,z1,g,c,rfl,q0⟩;have Ee:=zh (Qr ES Cj FN q0 GK);clear q0;generalize W1.heap.size=xb at Ee ⊢)
  refine hK.out _ _ trivial fun BS=>?_;clear hK K;refine zu ?_;refine wV 9 ?_;refine wV 10 ?_;refine wV 11 ?_;refine wV 12 ?_;refine wV 13 ?_;refine zu ?_
  rotate_left 1
  refine wC (fun K hK=>?_) ?_
  (have mk:=Lr.o;go_simp;clear mk;have Mb1:=zh (xo W0 (.cells (zO (pg (pg N)) (.int .i64 0)) 3));have Ce:=zh (HC.alloc (.cells (zO (pg (pg N)) (.int .i64 0)) 3));generalize W0.alloc _=W1 at *)
  refine hK.out _ _ trivial fun BS=>?_;clear hK K;refine zu ?_;refine wR [3,14] ?_;refine wC (fun K hK=>?_) ?_
  (have mk:=M1.o;go_simp;clear mk;have GA:=zh (xo W1 (.cells (zO (pg N) (.int .i64 0)) 3));have Kv:=zh (zX (.cells (zO (pg N) (.int .i64 0)) 3) Mb1);have BZ:=zh (Ce.alloc (.cells (zO (pg N) (.int .i64 0)) 3));generalize W1.alloc _=W2 at *)
  refine hK.out _ _ trivial fun BS=>?_;clear hK K;refine zu ?_;refine wV 7 ?_;refine zu ?_;refine wR [8,14] ?_;refine wC (fun K hK=>?_) ?_
  (go_simp;refine (YN hN (HP.chg BZ zaa zaa zaa zaa) GA Kv).mono ?_;rintro e wP ⟨z0,z1,g,c,rfl,q0⟩;have Ee:=zh (lJ BZ q0 GK);clear q0)
  refine hK.out _ _ trivial fun BS=>?_;clear hK K;refine zu ?_;refine wV 9 ?_;refine wV 10 ?_;refine wV 11 ?_;refine wV 12 ?_;refine wV 13 ?_;refine zu ?_;refine wE 14 (fun K hK=>?_)
  (go_simp;generalize wP.alloc _=wX at Ee ⊢;generalize wP.heap.size=xb at Ee ⊢)
  refine hK.out _ _ trivial fun BS=>?_;clear hK K;refine zu ?_
  rotate_left 1
  refine wD (fun K hK=>?_)
  (go_simp;have ES:=zh BZ.size;have FN:=zh (xo W2 (.cells #[.slice none 0 0,.slice none 0 0] 50));have FM:=zh (zX (.cells #[.slice none 0 0,.slice none 0 0] 50) Kv);have FL:=zh (zX (.cells #[.slice none 0 0,.slice none 0 0] 50) GA);have Cj:=zh (BZ.alloc (.cells #[.slice none 0 0,.slice none 0 0] 50));generalize W2.alloc _=W3 at *)
  refine hK.out _ _ trivial fun BS=>?_;clear hK K;refine zu ?_;refine wE 8 (fun K hK=>?_)
  (go_simp;refine (YN hN (HP.chg Cj zaa zaa zaa zaa) FL FM).mono ?_;rintro e wX ⟨z0,z1,g,c,rfl,q0⟩;have Ee:=zh (Qr ES Cj FN q0 GK);clear q0;generalize W2.heap.size=xb at Ee ⊢)
  refine hK.out _ _ trivial fun BS=>?_;clear hK K;refine zu ?_;refine wV 9 ?_;refine wV 10 ?_;refine wV 11 ?_;refine wV 12 ?_;refine wV 13 ?_;refine zu ?_
  rotate_left 1
  refine wD (fun K hK=>?_)
  (go_simp;have ES:=zh Ce.size;have Ig:=zh (xo W1 (.cells #[.slice none 0 0,.slice none 0 0] 50));have Kv:=zh (zX (.cells #[.slice none 0 0,.slice none 0 0] 50) Mb1);have BZ:=zh (Ce.alloc (.cells #[.slice none 0 0,.slice none 0 0] 50));generalize W1.alloc _=W2 at *)
  refine hK.out _ _ trivial fun BS=>?_;clear hK K;refine zu ?_;refine wE 3 (fun K hK=>?_)
  (have mk:=M1.o;go_simp;clear mk;have FL:=zh (xo W2 (.cells (zO (pg N) (.int .i64 0)) 3));have FM:=zh (zX (.cells (zO (pg N) (.int .i64 0)) 3) Kv);have FN:=zh (zX (.cells (zO (pg N) (.int .i64 0)) 3) Ig);have Cj:=zh (BZ.alloc (.cells (zO (pg N) (.int .i64 0)) 3));generalize W2.alloc _=W3 at *)
  refine hK.out _ _ trivial fun BS=>?_;clear hK K;refine zu ?_;refine wV 7 ?_;refine zu ?_;refine wE 8 (fun K hK=>?_)
  (go_simp;refine (YN hN (HP.chg Cj zaa zaa zaa zaa) FL FM).mono ?_;rintro e wX ⟨z0,z1,g,c,rfl,q0⟩;have Ee:=zh (Qr ES Cj FN q0 GK);clear q0;generalize W1.heap.size=xb at Ee ⊢)
  refine hK.out _ _ trivial fun BS=>?_;clear hK K;refine zu ?_;refine wV 9 ?_;refine wV 10 ?_;refine wV 11 ?_;refine wV 12 ?_;refine wV 13 ?_;refine zu ?_
  rotate_left 1
  refine wD (fun K hK=>?_)
  (go_simp;have ES:=zh HC.size;have TG:=zh (xo W0 (.cells #[.slice none 0 0,.slice none 0 0] 50));have Ce:=zh (HC.alloc (.cells #[.slice none 0 0,.slice none 0 0] 50));generalize W0.alloc _=W1 at *)
  refine hK.out _ _ trivial fun BS=>?_;clear hK K;refine zu ?_;refine wR [3,6] ?_;refine wC (fun K hK=>?_) ?_
  (have mk:=M1.o;go_simp;clear mk;have GA:=zh (xo W1 (.cells (zO (pg N) (.int .i64 0)) 3));have Ig:=zh (zX (.cells (zO (pg N) (.int .i64 0)) 3) TG);have BZ:=zh (Ce.alloc (.cells (zO (pg N) (.int .i64 0)) 3));generalize W1.alloc _=W2 at *)
  refine hK.out _ _ trivial fun BS=>?_;clear hK K;refine zu ?_;refine wE 6 (fun K hK=>?_)
  (have mk:=Lr.o;go_simp;clear mk;have FM:=zh (xo W2 (.cells (zO (pg (pg N)) (.int .i64 0)) 3));have FN:=zh (zX (.cells (zO (pg (pg N)) (.int .i64 0)) 3) Ig);have FL:=zh (zX (.cells (zO (pg (pg N)) (.int .i64 0)) 3) GA);have Cj:=zh (BZ.alloc (.cells (zO (pg (pg N)) (.int .i64 0)) 3));generalize W2.alloc _=W3 at *)
  refine hK.out _ _ trivial fun BS=>?_;clear hK K;refine zu ?_;refine wV 7 ?_;refine zu ?_;refine wE 8 (fun K hK=>?_)
  (go_simp;refine (YN hN (HP.chg Cj zaa zaa zaa zaa) FL FM).mono ?_;rintro e wX ⟨z0,z1,g,c,rfl,q0⟩;have Ee:=zh (Qr ES Cj FN q0 GK);clear q0;generalize W0.heap.size=xb at Ee ⊢)
  refine hK.out _ _ trivial fun BS=>?_;clear hK K;refine zu ?_;refine wV 9 ?_;refine wV 10 ?_;refine wV 11 ?_;refine wV 12 ?_;refine wV 13 ?_;refine zu ?_
  rotate_left 1
  refine wD (fun K hK=>?_)
  (have mk:=Lr.o;go_simp;clear mk;have Kv:=zh (xo W1 (.cells (zO (pg (pg N)) (.int .i64 0)) 3));have Ig:=zh (zX (.cells (zO (pg (pg N)) (.int .i64 0)) 3) TG);have BZ:=zh (Ce.alloc (.cells (zO (pg (pg N)) (.int .i64 0)) 3));generalize W1.alloc _=W2 at *)
  refine hK.out _ _ trivial fun BS=>?_;clear hK K;refine zu ?_;refine wE 3 (fun K hK=>?_)
  (have mk:=M1.o;go_simp;clear mk;have FL:=zh (xo W2 (.cells (zO (pg N) (.int .i64 0)) 3));have FN:=zh (zX (.cells (zO (pg N) (.int .i64 0)) 3) Ig);have FM:=zh (zX (.cells (zO (pg N) (.int .i64 0)) 3) Kv);have Cj:=zh (BZ.alloc (.cells (zO (pg N) (.int .i64 0)) 3));generalize W2.alloc _=W3 at *)
  refine hK.out _ _ trivial fun BS=>?_;clear hK K;refine zu ?_;refine wV 7 ?_;refine zu ?_;refine wE 8 (fun K hK=>?_)
  (go_simp;refine (YN hN (HP.chg Cj zaa zaa zaa zaa) FL FM).mono ?_;rintro e wX ⟨z0,z1,g,c,rfl,q0⟩;have Ee:=zh (Qr ES Cj FN q0 GK);clear q0;generalize W0.heap.size=xb at Ee ⊢)
  refine hK.out _ _ trivial fun BS=>?_;clear hK K;refine zu ?_;refine wV 9 ?_;refine wV 10 ?_;refine wV 11 ?_;refine wV 12 ?_;refine wV 13 ?_;refine zu ?_
  rotate_left 1
  refine wD (fun K hK=>?_)
  (go_simp;have ES:=zh HC.size;have TG:=zh (xo W0 (.cells #[.slice none 0 0,.slice none 0 0] 50));have Ce:=zh (HC.alloc (.cells #[.slice none 0 0,.slice none 0 0] 50));generalize W0.alloc _=W1 at *)
  refine hK.out _ _ trivial fun BS=>?_;clear hK K;refine zu ?_;refine wR [3,5] ?_;refine wC (fun K hK=>?_) ?_
  (have mk:=M1.o;go_simp;clear mk;have GA:=zh (xo W1 (.cells (zO (pg N) (.int .i64 0)) 3));have Ig:=zh (zX (.cells (zO (pg N) (.int .i64 0)) 3) TG);have BZ:=zh (Ce.alloc (.cells (zO (pg N) (.int .i64 0)) 3));generalize W1.alloc _=W2 at *)
  refine hK.out _ _ trivial fun BS=>?_;clear hK K;refine zu ?_;refine wE 5 (fun K hK=>?_)
  (go_simp;refine zm (CG _) ?_)
  refine hK.out _ _ trivial fun BS=>?_;clear hK K;refine zu ?_;refine wE 6 (fun K hK=>?_)
  (have mk:=Lr.o;go_simp;clear mk;have FM:=zh (xo W2 (.cells (zO (pg (pg N)) (.int .i64 0)) 3));have FN:=zh (zX (.cells (zO (pg (pg N)) (.int .i64 0)) 3) Ig);have FL:=zh (zX (.cells (zO (pg (pg N)) (.int .i64 0)) 3) GA);have Cj:=zh (BZ.alloc (.cells (zO (pg (pg N)) (.int .i64 0)) 3));generalize W2.alloc _=W3 at *)
  refine hK.out _ _ trivial fun BS=>?_;clear hK K;refine zu ?_;refine wV 7 ?_;refine zu ?_;refine wE 8 (fun K hK=>?_)
  (go_simp;refine (YN hN (HP.chg Cj zaa zaa zaa zaa) FL FM).mono ?_;rintro e wX ⟨z0,z1,g,c,rfl,q0⟩;have Ee:=zh (Qr ES Cj FN q0 GK);clear q0;generalize W0.heap.size=xb at Ee ⊢)
  refine hK.out _ _ trivial fun BS=>?_;clear hK K;refine zu ?_;refine wV 9 ?_;refine wV 10 ?_;refine wV 11 ?_;refine wV 12 ?_;refine wV 13 ?_;refine zu ?_
  rotate_left 1
  refine wD (fun K hK=>?_)
  (go_simp;refine zm (CG _) ?_)
  refine hK.out _ _ trivial fun BS=>?_;clear hK K;refine zu ?_;refine wR [3,6] ?_;refine wC (fun K hK=>?_) ?_
  (have mk:=M1.o;go_simp;clear mk;have GA:=zh (xo W1 (.cells (zO (pg N) (.int .i64 0)) 3));have Ig:=zh (zX (.cells (zO (pg N) (.int .i64 0)) 3) TG);have BZ:=zh (Ce.alloc (.cells (zO (pg N) (.int .i64 0)) 3));generalize W1.alloc _=W2 at *)
  refine hK.out _ _ trivial fun BS=>?_;clear hK K;refine zu ?_;refine wE 6 (fun K hK=>?_)
  (have mk:=Lr.o;go_simp;clear mk;have FM:=zh (xo W2 (.cells (zO (pg (pg N)) (.int .i64 0)) 3));have FN:=zh (zX (.cells (zO (pg (pg N)) (.int .i64 0)) 3) Ig);have FL:=zh (zX (.cells (zO (pg (pg N)) (.int .i64 0)) 3) GA);have Cj:=zh (BZ.alloc (.cells (zO (pg (pg N)) (.int .i64 0)) 3));generalize W2.alloc _=W3 at *)
  refine hK.out _ _ trivial fun BS=>?_;clear hK K;refine zu ?_;refine wV 7 ?_;refine zu ?_;refine wE 8 (fun K hK=>?_)
  (go_simp;refine (YN hN (HP.chg Cj zaa zaa zaa zaa) FL FM).mono ?_;rintro e wX ⟨z0,z1,g,c,rfl,q0⟩;have Ee:=zh (Qr ES Cj FN q0 GK);clear q0;generalize W0.heap.size=xb at Ee ⊢)
  refine hK.out _ _ trivial fun BS=>?_;clear hK K;refine zu ?_;refine wV 9 ?_;refine wV 10 ?_;refine wV 11 ?_;refine wV 12 ?_;refine wV 13 ?_;refine zu ?_
  rotate_left 1
  refine wD (fun K hK=>?_)
  (have mk:=Lr.o;go_simp;clear mk;have Kv:=zh (xo W1 (.cells (zO (pg (pg N)) (.int .i64 0)) 3));have Ig:=zh (zX (.cells (zO (pg (pg N)) (.int .i64 0)) 3) TG);have BZ:=zh (Ce.alloc (.cells (zO (pg (pg N)) (.int .i64 0)) 3));generalize W1.alloc _=W2 at *)
  refine hK.out _ _ trivial fun BS=>?_;clear hK K;refine zu ?_;refine wE 3 (fun K hK=>?_)
  (have mk:=M1.o;go_simp;clear mk;have FL:=zh (xo W2 (.cells (zO (pg N) (.int .i64 0)) 3));have FN:=zh (zX (.cells (zO (pg N) (.int .i64 0)) 3) Ig);have FM:=zh (zX (.cells (zO (pg N) (.int .i64 0)) 3) Kv);have Cj:=zh (BZ.alloc (.cells (zO (pg N) (.int .i64 0)) 3));generalize W2.alloc _=W3 at *)
  refine hK.out _ _ trivial fun BS=>?_;clear hK K;refine zu ?_;refine wV 7 ?_;refine zu ?_;refine wE 8 (fun K hK=>?_)
  (go_simp;refine (YN hN (HP.chg Cj zaa zaa zaa zaa) FL FM).mono ?_;rintro e wX ⟨z0,z1,g,c,rfl,q0⟩;have Ee:=zh (Qr ES Cj FN q0 GK);clear q0;generalize W0.heap.size=xb at Ee ⊢)
  refine hK.out _ _ trivial fun BS=>?_;clear hK K;refine zu ?_;refine wV 9 ?_;refine wV 10 ?_;refine wV 11 ?_;refine wV 12 ?_;refine wV 13 ?_;refine zu ?_
  rotate_left 1
  all_goals
   obtain ⟨hx,hr⟩:=Ee.o;have k0:=zM hx 0;have k1:=zM hx 1;have f0:=xB hx 0;have f1:=xB hx 1;have lx:=zz hx;simp only [tA1,tA3,tA2] at k0 k1;clear hr hx;refine wE 15 (fun K hK=>?_)
   (go_simp)
   refine hK.out _ _ trivial fun BS=>?_;clear hK K;refine zu ?_;refine wV 16 ?_;refine wV 17 ?_;refine wV 18 ?_;refine zu ?_;refine wpAnyH_done zab ?_ _;go_wp2_with fail;go_meet;exact ⟨rfl,zh (Aw Ee)⟩
 case rest =>
  obtain ⟨w7,rfl⟩:=zE wc;obtain ⟨rfl,HF⟩:=hcut;obtain ⟨xb,g,c,rfl,m1,m2,m3,m4,m5,m6⟩:=HF.o;have Ty:=zh (m2.rowF (k:=1) zo);have Fh:qd N 1<=2:=fW hN.2;have HM:=zh (zA m1 (zA m2 (zA m3 (zA m4 (zA m5 m6)))));have BF:=Ja hN.1
  have haN:∀ k i,k<2->i<qd N k->(xH N).a k i<N:=fun k i hk hi=>by
   have h1:=(BF.own.ok.has k i hk hi (BF.own.nz k i hk hi)).1;rw [Au,BF.tn] at h1;exact h1
  have HBF:=zh (zA BF haN);have cR:=OE (w:=w7) (S:=⟨1,N,fun _=>0,fun _=>0⟩) (m:=qd N 1) (cs:=c 1) (a:=some ⟨g 1,0,none⟩) (A:=(xH N).a 1) Fh Ty.1 (fun i hi=>⟨g 1,rfl,Ty.2.2.1,Ty.2.2.2 i hi,by have:=haN 1 i zo hi;omega⟩);have eR:Qq ⟨1,N,fun _=>0,fun _=>0⟩ (qd N 1) ((xH N).a 1) 2=O9 N:=rfl;rw [eR] at cR;have CR:=zh cR;have E1:IntKind.u32.wrap (N:Int)=(N:Int):=by rw [IntKind.wrap_u32];omega
  have IQ:=zh (show Tryz.prog.built 56 [(0,.int .u64 1),(1,.int .u32 (N:Int))]=some (xj.row ⟨1,N,fun _=>0,fun _=>0⟩) from by kernel_rfl);have x1:=zM m1 1;simp only [tA1,tA3,tA2] at x1;have Uf:=zz m1;have Dm:=(mY hN).ok;have D3:=zh Dm;clear m1 m2 m3 m4 m5 m6 BF haN cR eR Dm CG M1 Lr
  go_wp2_with (first
   | (refine Vu rfl 56 _ rfl (ps:=_) ?hp IQ ?hk;case hp=>(simp [Act.eval,Act.put])))
  refine CR.mono ?_;clear CR x1 E1;rintro e w8 ⟨rfl,DO⟩;have CE:=zh (il (w:=w8) D3);have HC8:=zh DO;clear DO;go_wp2_with fail;refine CE.mono ?_;clear CE;rintro e w9 ⟨gp,rfl,IW,P5,FU⟩;have HG9:=zh (zA IW (HC8.trans FU));clear IW P5 FU;have EA:∀ w:World,(Instr.makeSlice 81 (.int .i64 128) (.int .i64 128)).run Tryz.prog w = .ok (.slice (some ⟨w.heap.size,0,none⟩) 128 128) (w.alloc (.cells (zO 128 (.int .u8 0)) 5)):=xW (P:=Tryz.prog) 81 5 Tryz.underlying81 X7 rfl .i64 .i64 128 zo zo;go_upto_region 10 with fail;clear EA;have hz:=xo w9 (.cells (zO 128 (.int .u8 0)) 5);have Te:zv [] w9 (w9.alloc (.cells (zO 128 (.int .u8 0)) 5)):=(zv.refl [] w9).alloc _;generalize w9.alloc (.cells (zO 128 (.int .u8 0)) 5)=wz at *;obtain ⟨zb,hzb⟩:=zE w9.heap.size;rw [<- hzb] at hz ⊢;have HZ:=zh (zA hz (zA (HG9.2.trans Te) ((Te.block gp (zz HG9.1) zaa).trans HG9.1)));clear hz Te hzb
  have CZ:Hd (∀ (W0:World) (k:Nat),k<2->W0.heap[zb]?=some (.cells (zO 128 (.int .u8 0)) 5 (0,0))->Calls Tryz.prog 92 #[.pointer (some ⟨d,0,none⟩),.int .i64 (k:Int),.slice (some ⟨zb,0,none⟩) 128 128] W0 fun e w'=>∃ gf lb,e = .returned (.agg #[.func gf #[] lb])/\qk w' d N (.func gf #[] lb) (some (k,fun _=>0))/\zv [] W0 w') :=
   zh fun W0 k hk hz=>Vn (w:=W0) (dp:=d) (n:=N) (at':=k) (k:=zb) (o:=0) (cap:=128) (f:=fun _=>0) zo (xd _) (fun i hi=>⟨by rw [yn,zM hz];simp [zO,hi],yg _⟩) ⟨_,_,hz⟩
  have c0:=CZ wz 0 zo HZ.1
  change Calls _ _ #[_,.int .i64 0,_] wz _ at c0
  have C0:=zh c0;clear c0;go_wp2_with fail;refine C0.mono ?_;clear C0;rintro e wa ⟨R3,Th,rfl,Tn,Mg⟩;have HA:=zh (zA Tn (zA Mg ((Mg.block zb (zz HZ.1) zaa).trans HZ.1)));clear Tn Mg;have c1:=CZ wa 1 zo HA.2.2
  change Calls _ _ #[_,.int .i64 1,_] wa _ at c1
  have C1:=zh c1;clear c1 CZ;go_wp2_with fail;refine C1.mono ?_;clear C1;rintro e wb ⟨R4,Ti,rfl,MP,Cn⟩;have HB:=zh (zA (HA.1.on Cn) (zA MP ((HZ.2.1.trans HA.2.1).trans Cn)));have HBg:=zh (((HA.2.1.trans Cn).block gp (zz HZ.2.2) zaa).trans HZ.2.2);clear MP Cn;go_upto_region 11 with fail;have GR:=xo wb (.cells #[.func R3 #[] Th,.func R4 #[] Ti,.func (.func 93) #[.pointer (some ⟨d,0,none⟩)] #[]] 181);have Ci:zv [] wb (wb.alloc (.cells #[.func R3 #[] Th,.func R4 #[] Ti,.func (.func 93) #[.pointer (some ⟨d,0,none⟩)] #[]] 181)):=(zv.refl [] wb).alloc _;generalize wb.alloc (.cells #[.func R3 #[] Th,.func R4 #[] Ti,.func (.func 93) #[.pointer (some ⟨d,0,none⟩)] #[]] 181)=wq at GR Ci ⊢
  have PP:∀ (i:Nat) (x:Option (Nat × (Nat->Nat))),[some (0,fun _=>0),some (1,fun _=>0),none][i]?=some x->∃ u:Value,[Value.func R3 #[] Th,.func R4 #[] Ti,.func (.func 93) #[.pointer (some ⟨d,0,none⟩)] #[]][i]?=some u/\qk wq d N u x:=fun i x hx=>by
   match i with
   | 0=>injection hx with hx;subst hx;exact ⟨_,rfl,HB.1.on Ci⟩
   | 1=>injection hx with hx;subst hx;exact ⟨_,rfl,HB.2.1.on Ci⟩
   | 2=>injection hx with hx;subst hx;exact ⟨_,rfl,rfl⟩
   | n+3=>cases hx
  have MB:wq.ownsRow wb.heap.size 181 1 (.slice (some ⟨wb.heap.size,0,none⟩) 3 3) 3 [Value.func R3 #[] Th,.func R4 #[] Ti,.func (.func 93) #[.pointer (some ⟨d,0,none⟩)] #[]] :=
   ⟨rfl,.inr ⟨wb.heap.size,3,_,rfl,xd _,GR,xd _,by unfold maxLen;omega,rfl,rfl⟩⟩
  have hltb:wb.heap.size<wq.heap.size:=zz GR;have MC:∀ q,(Value.slice (some ⟨wb.heap.size,0,none⟩) 3 3).ownBlock=some q->q=wb.heap.size:=fun q hq=>by injection hq with hq;exact hq.symm
  obtain ⟨v0,FJ⟩:=zE (Value.slice (some ⟨wb.heap.size,0,none⟩) 3 3);rw [<- FJ] at MB MC ⊢;have PE:=zh MC;clear FJ MC;obtain ⟨l0,Dt⟩:=zE (xm ((xH N).p 0) (qd N 0));obtain ⟨l1,Dj⟩:=zE (xm ((xH N).p 1) (qd N 1));have hN0:qd N 0<=4096/\qd N 1<=4096:=⟨IX.2,hpp⟩;have hll0:l0.length<=4096:=by rw [Dt];exact qh (XR _ _) hN0.1
  have hll1:l1.length<=4096:=by rw [Dj];exact qh (XR _ _) hN0.2
  have EK:∀ (q:Nat->Bool) (n:Nat) (l:List Nat),l=xm q n->∀ i,i<l.length->l.getD i 0<n:=fun q n l hl i hi=>by
   have:l.getD i 0∈l:=by rw [zgD,yt hi];exact zt _
   have h2:l.getD i 0∈xm q n:=hl▸this;exact (x8.1 h2).1
  obtain ⟨m1,m2,m3,m4,m5,m6⟩:=HM.o;rw [<- Dt] at m3;rw [<- Dj] at m4;have Dl:∀ i,i<N->(xH N).T.now i<65536:=fun i hi=>Nat.lt_of_le_of_lt (HBF.1.le i) zaf;have Su:=HB.2.2.trans Ci;have cPg:=lG (w:=wq) (dp:=d) (N:=N) (T:=(xH N).T) (A:=(xH N).a) (m5.chg Su zaa zaa zaa zaa).ht HBF.1.tn ⟨zo,hN.2⟩ Dl hll0 hll1 (m2.chg Su zaa zaa) (m3.chg Su zaa) (m4.chg Su zaa) (EK _ _ _ Dt) (EK _ _ _ Dj) HBF.2;have CPG:=zh cPg;have hxq:=(Su.block xb Uf zaa).trans m1;obtain ⟨y0,y1⟩:=uj hxq;have ly:=zz hxq;have Is:=(Ci.block gp (zz HBg) zaa).trans HBg.o;have HQ:=zh (zA PP (zA MB (zA Su (zA Is m6))));have IQ:=zh (zA Dt Dj);clear GR Ci PP MB Dt Dj hN0 EK m1 m2 m3 m4 m5 m6 Dl Su cPg hxq Is;go_wp2_with fail;refine CPG.mono ?_;clear CPG y0 y1;rintro e we ⟨v2,rfl,hst2,BW⟩;obtain ⟨IM,KE⟩:=zE ((l0.map fun i=>some ((xH N).a 0 i,Xi 5 N (xH N).T.now i))++(l1.map fun i=>some ((xH N).a 1 i,Xi 4 (pg N) ((xH N).a 0) i)));rw [<- KE] at hst2;obtain ⟨k2,Cy⟩:=zE IM.length;have hol2:k2<=8192:=by rw [Cy,KE,ym,yX,yX];omega
  obtain ⟨vs2,Fl,Ik⟩:=hst2;have ID:=Z4 HQ.2.1 BW zaa;have EN:=xQ.own Fl (o5 Fl Ik);rw [<- Cy] at EN;have PQ:∀ (i:Nat) (x:Option (Nat × (Nat->Nat))),[some (0,fun _=>0),some (1,fun _=>0),none][i]?=some x->∃ u:Value,[Value.func R3 #[] Th,.func R4 #[] Ti,.func (.func 93) #[.pointer (some ⟨d,0,none⟩)] #[]][i]?=some u/\qk we d N u x:=fun i x hx=>by obtain ⟨u,q1,q2⟩:=HQ.1 i x hx;exact ⟨u,q1,q2.on BW⟩
  have hszb:wb.heap.size<=we.heap.size:=qh (Nat.le_of_lt hltb) BW.size;have GD:=(BW.block gp (zz HQ.2.2.2.1) zaa).trans HQ.2.2.2.1;have H3:=zh (zA ID (zA EN (zA PQ (zA Ik (zA Cy (zA GD (zA (HQ.2.2.1.trans BW) KE)))))));clear Fl Ik ID EN PQ GD Cy KE BW;go_wp2_with (at_builtin;refine x9 rfl _ _ 183 rfl rfl (base:=wb.heap.size) (size:=1) (n:=3) (m:=k2) (xs:=[Value.func R3 #[] Th,.func R4 #[] Ti,.func (.func 93) #[.pointer (some ⟨d,0,none⟩)] #[]]) (news:=vs2) Tryz.underlying183 am rfl zo zo rfl rfl H3.1 H3.2.1 zo hszb ?_;intro v5 w5 Cf Dd Kj;have H5:=zh (zA (eL rfl H3.2.2.2.2.1.symm H3.1 H3.2.2.1 H3.2.2.2.1 Cf Dd) (zA (Dd.block gp (zz H3.2.2.2.2.2.1) (fun e=>by have h1:=zz HBg.o;have h2:=PE _ e.symm;omega)) (H3.2.2.2.2.2.2.1.grown Dd (fun q hq => .inr (by rw [PE.o q hq];exact HB.2.2.size)))));have H5s:=zh Dd.size;clear Cf Dd Kj);have Dd:=H5.2.1.trans H3.2.2.2.2.2.1;have TI:=Vn (w:=w5) (dp:=d) (n:=N) (at':=1) (k:=gp) (o:=0) (cap:=128) (f:=Y8 (O9 N)) zo (xd _) (fun i hi=>⟨by rw [yn,zM Dd,xL hi],YY zo (fun i _=>fQ _ i) i⟩) ⟨_,_,Dd⟩
  change Calls _ _ #[_,.int .i64 1,_] w5 _ at TI
  refine TI.mono ?_;clear TI;rintro e w6 ⟨gf,lb,rfl,hst6,EP⟩;have H6:=zh (zA hst6 (zA EP (H5.2.2.trans EP)));clear hst6 EP Dd;have hn8:=xo w6 (.cells #[.func (.func 93) #[.pointer (some ⟨d,0,none⟩)] #[],.func gf #[] lb,.func (.func 93) #[.pointer (some ⟨d,0,none⟩)] #[]] 181);have DO:zv [] w6 (w6.alloc (.cells #[.func (.func 93) #[.pointer (some ⟨d,0,none⟩)] #[],.func gf #[] lb,.func (.func 93) #[.pointer (some ⟨d,0,none⟩)] #[]] 181)):=(zv.refl [] w6).alloc _;obtain ⟨w8',ma⟩:=zE (w6.alloc (.cells #[.func (.func 93) #[.pointer (some ⟨d,0,none⟩)] #[],.func gf #[] lb,.func (.func 93) #[.pointer (some ⟨d,0,none⟩)] #[]] 181));rw [<- ma] at hn8 DO;have hst8:=H5.1.chg (H6.2.1.trans DO);obtain ⟨vs5,MM,PR⟩:=hst8;have hol:([some (0,fun _=>0),some (1,fun _=>0),none]++IM).length=3+k2:=by rw [ym,<- H3.2.2.2.2.1];rfl
  rw [hol] at MM
  have PU:∀ (i:Nat) (x:Option (Nat × (Nat->Nat))),[none,some (1,Y8 (O9 N)),none][i]?=some x->∃ u:Value,[Value.func (.func 93) #[.pointer (some ⟨d,0,none⟩)] #[],.func gf #[] lb,.func (.func 93) #[.pointer (some ⟨d,0,none⟩)] #[]][i]?=some u/\qk w8' d N u x:=fun i x hx=>by
   match i with
   | 0=>injection hx with hx;subst hx;exact ⟨_,rfl,rfl⟩
   | 1=>injection hx with hx;subst hx;exact ⟨_,rfl,H6.1.on DO⟩
   | 2=>injection hx with hx;subst hx;exact ⟨_,rfl,rfl⟩
   | n+3=>cases hx
  have HONE:=zh (show ∀ u,u∈(#[Value.func (.func 93) #[.pointer (some ⟨d,0,none⟩)] #[],.func gf #[] lb,.func (.func 93) #[.pointer (some ⟨d,0,none⟩)] #[]]:Array Value).toList->u.oneCell'=true from fun u hu=>by
   simp at hu;rcases hu with rfl | rfl | rfl <;> rfl)
  have Pl:wb.heap.size<=w8'.heap.size:=qh hszb (qh H5s (H6.2.1.trans DO).size);have H8:=zh (zA MM (zA PR (zA PU (zA hn8 (zA Pl (zA (H6.2.2.trans DO) hol))))));have HW8:=zh ma;clear MM PR PU hn8 Pl DO hol ma;go_wp2_with (at_builtin;rw [<- HW8.o];refine x9 rfl _ _ 183 rfl rfl (base:=wb.heap.size) (size:=1) (n:=3+k2) (m:=3) (xs:=vs5) (news:=[Value.func (.func 93) #[.pointer (some ⟨d,0,none⟩)] #[],.func gf #[] lb,.func (.func 93) #[.pointer (some ⟨d,0,none⟩)] #[]]) Tryz.underlying183 am rfl zo zo rfl rfl H8.1 (xQ.blk H8.2.2.2.1 rfl HONE) zo H8.2.2.2.2.1 ?_;intro v9 LR Re TY hob9;have H9:=zh (zA (eL H8.2.2.2.2.2.2 rfl H8.1 H8.2.1 H8.2.2.1 Re TY) (H8.2.2.2.2.2.1.grown TY (fun q hq => .inr (qh HB.2.2.size (H8.1.lt q hq).1))));clear Re TY hob9);have Dv:zv [] w LR:=(BZ.then HQ.2.2.2.2 (fun q hq => .inr (GK q hq).1)).trans H9.2;have WK:=HD.chg Dv zaa zaa zaa;obtain ⟨OPS,NI⟩:=zE ([some (0,fun _=>0),some (1,fun _=>0),none]++IM++[none,some (1,Y8 (O9 N)),none])
  have hex:ZH ⟨N,fun _ _=>0,[]⟩ OPS=⟨N,(Bs.fmt N).D,[]⟩:=by
   have e:IM=(lH N).map some:=by
    rw [H3.2.2.2.2.2.2.2,IQ.1,IQ.2];unfold lH aV iK;simp only [List.map_append,List.map_map];rfl
   rw [NI,e,zf,jg];rfl
  have P9:OPS.getLast?=some none:=by rw [NI,List.getLast?_append];rfl
  have B9:OPS.length<=20000:=by
   rw [NI,ym,H8.2.2.2.2.2.2];simp only [yu,List.length_nil];omega
  rw [<- NI] at H9;obtain ⟨vs9,Rk,PV⟩:=H9.1;have RV:=r8 WK Rk PV (by show 0+OPS.length<=800000;omega);rw [hex] at RV;refine RV.mono ?_;rintro e MQ ⟨rfl,LS,IU,-,FT,Hm⟩;obtain rfl:=Hm P9;have HE:=zh (zA IU (Dv.mono (L':=[d,bb]) zaa));have HE2:Hd (zv [d,bb] LR MQ):=zh FT;clear RV IU Dv FT Hm PV Rk hex B9 P9 WK;go_wp2_with fail;go_ret;exact ⟨rfl,HE.1,HE.2.trans HE2⟩
end Go.Proofs.YtegpiomkmfhadaaGreat
