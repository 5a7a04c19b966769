/- Package base: Format. (Printed by mkfmt.py.) -/
import Derived.Test.YtkhcaclndepgbaaGreatZn30
set_option linter.unusedVariables false
set_option linter.unusedSimpArgs false
set_option maxRecDepth 100000
set_option maxHeartbeats 20000000
namespace Go.Proofs.YtkhcaclndepgbaaGreat
open Go.RowKit
theorem zrow_sl' {w:World} {b n:Nat} (h:w.heap[b]?=some (.cells (zrow n (.int .i64 0)) 3 (0,0))) (hn:n<=4096) {A:Nat->Nat->Nat} {nn:Nat->Nat} {k:Nat} (hA:∀ i,A k i=0) (hk:nn k=n):SlI w (.slice (some ⟨b,0,none⟩) n n) (atL A nn k):=by
 refine .inr ⟨b,n,by rw [atL_len,hk],by rw [atL_len,hk];exact zLr _,by unfold maxLen;omega,zhl h,fun i hi=>?_⟩;rw [atL_len] at hi;rw [atL_get _ _ hi,hA,zcb h];rw [hk] at hi;simp [zrow,hi]
theorem SlI.lt_own {w:World} {v:Value} {l:List Nat} (h:SlI w v l):∀ q,v.ownBlock=some q->q<w.heap.size:=by
 intro q hq;rcases h with ⟨rfl,_⟩ | ⟨g,cap,rfl,_,_,h3,_⟩
 ·cases hq
 ·have:g=q:=by simpa [Value.ownBlock] using hq
  omega
theorem sh_zero {W:World} {h0 h1 n:Nat} (hn:n<=4096) (hb0:W.heap[h0]?=some (.cells (zrow (pg n) (.int .i64 0)) 3 (0,0))) (hb1:W.heap[h1]?=some (.cells (zrow (pg (pg n)) (.int .i64 0)) 3 (0,0))) :
  ShV W (.slice (some ⟨h0,0,none⟩) (pg n) (pg n)) (.slice (some ⟨h1,0,none⟩) (pg (pg n)) (pg (pg n))) (fun _ _=>0) (nOf n) (fun k=>if k=0 then h0 else h1) (nOf n):=by
 have p2:=pg_le (n:=n);have p4:=pg_le (n:=pg n);refine ⟨rfl,rfl,fun k hk=>?_⟩;rcases (show k=0∨k=1 by omega) with rfl | rfl
 ·exact zrow_sl' (k:=0) hb0 (by omega) (fun _=>rfl) rfl
 ·exact zrow_sl' (k:=1) hb1 (by omega) (fun _=>rfl) rfl
def AnyW (_:World):Prop:=True
theorem ShV.rowF {w:World} {v0 v1:Value} {S:Nat->Nat->Nat} {n g c:Nat->Nat} (h:ShV w v0 v1 S n g c) {k:Nat} (hk:k<2):n k<=c k/\c k<=maxLen/\g k<w.heap.size/\∀ i,i<n k->w.cell? ⟨g k,i,none⟩=some (.int .i64 (S k i:Int)):=by
 rcases h.l k hk with ⟨e,_⟩ | ⟨gg,cap,e,q1,q2,q3,q4⟩
 ·cases e
 ·injection e with e e2 e3
  injection e with e;injection e with e;rw [atL_len] at q1 q4;subst e;subst e3;refine ⟨q1,q2,q3,fun i hi=>?_⟩;have:=q4 i hi;rw [atL_get _ _ hi] at this;exact this
def Fm7 (w:World) (p t bc bk n:Nat) (s9 z0 z1:Value) (wx:World):Prop :=
 ∃ (xb:Nat) (g c:Nat->Nat),s9 = .pointer (some ⟨xb,0,none⟩)/\wx.heap[xb]?=some (.cells #[.slice (some ⟨g 0,0,none⟩) (nOf n 0) (c 0),.slice (some ⟨g 1,0,none⟩) (nOf n 1) (c 1)] 42 (0,0)) /\
  ShV wx (.slice (some ⟨g 0,0,none⟩) (nOf n 0) (c 0)) (.slice (some ⟨g 1,0,none⟩) (nOf n 1) (c 1)) (begF n).a (nOf n) g c/\SlI wx z0 (yesTo ((begF n).p 0) (nOf n 0))/\SlI wx z1 (yesTo ((begF n).p 1) (nOf n 1))/\PT wx p t bc bk (begF n).K (begF n).T/\Chg [p,t,bc,bk] w wx
def P7 (W:World) (p t bc bk n:Nat) (z0 z1:Value) (g c:Nat->Nat) (w':World):Prop :=
 ShV w' (.slice (some ⟨g 0,0,none⟩) (nOf n 0) (c 0)) (.slice (some ⟨g 1,0,none⟩) (nOf n 1) (c 1)) (begF n).a (nOf n) g c/\SlI w' z0 (yesTo ((begF n).p 0) (nOf n 0))/\SlI w' z1 (yesTo ((begF n).p 1) (nOf n 1))/\PT w' p t bc bk (begF n).K (begF n).T /\
  Chg [p,t,bc,bk] W w'/\(∀ k,k<2->W.heap.size<=g k)/\(∀ b,z0.ownBlock=some b->W.heap.size<=b)/\(∀ b,z1.ownBlock=some b->W.heap.size<=b)
def Fpl (W:World) (p t bc bk n:Nat) (e:Ending) (w':World):Prop :=
 ∃ z0 z1 g c,e = .returned (.tuple #[.agg #[.slice (some ⟨g 0,0,none⟩) (nOf n 0) (c 0),.slice (some ⟨g 1,0,none⟩) (nOf n 1) (c 1)],z0,z1,.int .i64 0])/\P7 W p t bc bk n z0 z1 g c w'
theorem fpl_at {W:World} {p t bc bk n h0 h1:Nat} (hn:16<=n/\n<=4096) (hp:PT W p t bc bk ⟨2,2,0⟩ (Tal.new n)) (hb0:W.heap[h0]?=some (.cells (zrow (pg n) (.int .i64 0)) 3 (0,0))) (hb1:W.heap[h1]?=some (.cells (zrow (pg (pg n)) (.int .i64 0)) 3 (0,0))) :
  Calls Tryz.prog 80 #[.pointer (some ⟨t,0,none⟩),.pointer (some ⟨p,0,none⟩),.agg #[.slice (some ⟨h0,0,none⟩) (pg n) (pg n),.slice (some ⟨h1,0,none⟩) (pg (pg n)) (pg (pg n))]] W (Fpl W p t bc bk n):=by
 have c:=place_ok hp (sh_zero hn.2 hb0 hb1) (empty_ok (Tal.new n)) (need_new hn.1);refine c.mono ?_;rintro e w' ⟨u0,u1,z0,z1,g,c,rfl,hsv,hz0,hz1,hpt,hC4,hgg,hgn,hzb0,hzb1⟩;obtain ⟨rfl,rfl,hsl⟩:=hsv;have en:(begF n).n=nOf n:=(beg_ok hn.1).2.2.1
 change SlI w' z0 (yesTo ((begF n).p 0) ((begF n).n 0)) at hz0
 change SlI w' z1 (yesTo ((begF n).p 1) ((begF n).n 1)) at hz1
 have hsh:ShV w' (.slice (some ⟨g 0,0,none⟩) ((begF n).n 0) (c 0)) (.slice (some ⟨g 1,0,none⟩) ((begF n).n 1) (c 1)) (begF n).a (begF n).n g c:=ShV.mk rfl rfl hsl;rw [en] at hz0 hz1 hsh;refine ⟨z0,z1,g,c,?_,hsh,hz0,hz1,hpt,hC4,hgg,hzb0,hzb1⟩
 show Ending.returned (.tuple #[.agg #[.slice (some ⟨g 0,0,none⟩) ((begF n).n 0) (c 0),.slice (some ⟨g 1,0,none⟩) ((begF n).n 1) (c 1)],z0,z1,.int .i64 0])=_
 rw [en]
theorem keep_new {W:World} {b:Nat} {y:Obj} (B:Obj) (h:W.heap[b]?=some y):(W.alloc B).heap[b]?=some y:=(((Chg.refl [] W).alloc B).block _ (zhl h) (by simp)).trans h
def R7 (w wX:World) (p t bc bk n xb:Nat) (z0 z1:Value) (g c:Nat->Nat):Prop :=
 wX.heap[xb]?=some (.cells #[.slice none 0 0,.slice none 0 0] 42 (0,0))/\w.heap.size<=xb/\(xb≠g 0/\xb≠g 1/\z0.ownBlock≠some xb/\z1.ownBlock≠some xb/\xb∉[p,t,bc,bk]) /\
 ShV wX (.slice (some ⟨g 0,0,none⟩) (nOf n 0) (c 0)) (.slice (some ⟨g 1,0,none⟩) (nOf n 1) (c 1)) (begF n).a (nOf n) g c/\SlI wX z0 (yesTo ((begF n).p 0) (nOf n 0))/\SlI wX z1 (yesTo ((begF n).p 1) (nOf n 1))/\PT wX p t bc bk (begF n).K (begF n).T/\Chg [p,t,bc,bk] w wX
section
variable {w w0 W wX:World} {p t bc bk n xb:Nat} {z0 z1:Value} {g c:Nat->Nat}
theorem r7_in (hs:w.heap.size<=xb) (hc:Chg [] w W) (hx:W.heap[xb]?=some (.cells #[.slice none 0 0,.slice none 0 0] 42 (0,0))) (q:P7 W p t bc bk n z0 z1 g c wX) (hp:∀ q,q∈[p,t,bc,bk]->w0.heap.size<=q/\q<w.heap.size):R7 w wX p t bc bk n xb z0 z1 g c:=by
 have hl:=zhl hx;have hg:xb∉[p,t,bc,bk]:=fun hm=>by have:=(hp _ hm).2;omega
 obtain ⟨q1,q2,q3,q4,q5,q6,q7,q8⟩:=q;exact ⟨(q5.block _ hl hg).trans hx,hs,⟨by have:=q6 0 (by omega);omega,by have:=q6 1 (by omega);omega,fun h=>by have:=q7 _ h;omega,fun h=>by have:=q8 _ h;omega,hg⟩,q1,q2,q3,q4,(hc.mono (by simp)).trans q5⟩
theorem r7_new (hc:Chg [] w W) (q:P7 W p t bc bk n z0 z1 g c wX) (hp:∀ q,q∈[p,t,bc,bk]->w0.heap.size<=q/\q<w.heap.size):R7 w (wX.alloc (.cells #[.slice none 0 0,.slice none 0 0] 42)) p t bc bk n wX.heap.size z0 z1 g c:=by
 have h1:=hc.size;have hx:=znb wX (.cells #[.slice none 0 0,.slice none 0 0] 42);have hk:Chg [] wX (wX.alloc (.cells #[.slice none 0 0,.slice none 0 0] 42)):=(Chg.refl [] wX).alloc _;obtain ⟨q1,q2,q3,q4,q5,q6,q7,q8⟩:=q;have h2:=q5.size
 exact ⟨hx,by omega,⟨by have:=(q1.rowF (k:=0) (by omega)).2.2.1;omega,by have:=(q1.rowF (k:=1) (by omega)).2.2.1;omega,fun h=>by have:=q2.lt_own _ h;omega,fun h=>by have:=q3.lt_own _ h;omega,fun hm=>by have:=(hp _ hm).2;omega⟩,
  q1.chg hk (by simp) (by simp),q2.chg hk (by simp),q3.chg hk (by simp),q4.chg hk (by simp) (by simp) (by simp) (by simp),((hc.mono (by simp)).trans q5).trans (hk.mono (by simp))⟩
theorem r7_end (h:R7 w wX p t bc bk n xb z0 z1 g c):Fm7 w p t bc bk n (.pointer (some ⟨xb,0,none⟩)) z0 z1 ((wX.setCell ⟨xb,0,none⟩ (.slice (some ⟨g 0,0,none⟩) (nOf n 0) (c 0))).setCell ⟨xb,1,none⟩ (.slice (some ⟨g 1,0,none⟩) (nOf n 1) (c 1))):=by
 obtain ⟨hx,hs,⟨n1,n2,n3,n4,n5⟩,q1,q2,q3,q4,q5⟩:=h;have hC:=((Chg.refl [xb] wX).setCell (p:=⟨xb,0,none⟩) (.inl (by simp)) (.slice (some ⟨g 0,0,none⟩) (nOf n 0) (c 0))).setCell (p:=⟨xb,1,none⟩) (.inl (by simp)) (.slice (some ⟨g 1,0,none⟩) (nOf n 1) (c 1));simp only [List.mem_cons,List.not_mem_nil,or_false,not_or] at n5
 exact ⟨xb,g,c,rfl,zsb (zsb hx 0 _) 1 _,q1.chg hC (by simp;exact fun e=>n1 e.symm) (by simp;exact fun e=>n2 e.symm),q2.chg hC (fun q hq hm=>by rw [zms] at hm;subst hm;exact n3 hq),q3.chg hC (fun q hq hm=>by rw [zms] at hm;subst hm;exact n4 hq),
  q4.chg hC (by simp;omega) (by simp;omega) (by simp;omega) (by simp;omega),(q5.setCell (.inr hs) _).setCell (.inr hs) _⟩
end
theorem baFormat_at {w:World} {d bb N:Nat} (hd:DiskAt w d bb (.slice none 0 0) ⟨N,fun _ _=>0,[]⟩) (hN:16<=N/\N<=4096) :
  Calls Tryz.prog 40 #[.pointer (some ⟨d,0,none⟩)] w fun e w'=>e = .returned (.int .i64 0)/\DiskAt w' d bb (.slice none 0 0) ⟨N,(Bs.fmt N).D,[]⟩/\Chg [d,bb] w w':=by
 have cl:=dLen_at hd;have HD:=zh hd;have i0:¬ ((N:Int)=0):=by omega
 clear hd;go_enter Tryz.func40,Tryz.ntmps40;go_wp2_with fail;refine (cl).mono ?_;rintro e w' ⟨rfl,rfl⟩;go_wp2_with fail;refine (tnew_ex N w (by omega) hN.2).mono ?_;rintro e w1 ⟨t,bc,bk,rfl,ht,hC1,l1,l2,l3⟩;have HT:=zh ht;have HC1:=zh hC1;have HL:=zh (zA l1 (zA l2 l3));clear ht hC1 l1 l2 l3 cl;go_wp2_with fail;refine (pnew_ex HT.out 2 (by omega)).mono ?_;rintro e w2 ⟨p,rfl,hp,hC2,lp⟩;have HP:=zh hp;have HC2:=zh (HC1.out.trans hC2)
 have HLP:=zh (show ∀ q,q∈[p,t,bc,bk]->w.heap.size<=q/\q<w2.heap.size from by
  have h1:=HL.out;have h2:=zLt HC1.out.size lp;have a0:=hp.hp.lt;have a1:=hp.ht.lt0;have a2:=hp.ht.lt1;have a3:=hp.ht.lt2;intro q hq;simp only [List.mem_cons,List.not_mem_nil,or_false] at hq;rcases hq with rfl | rfl | rfl | rfl
  ·exact ⟨h2,a0⟩
  ·exact ⟨h1.1,a1⟩
  ·exact ⟨h1.2.1,a2⟩
  ·exact ⟨h1.2.2,a3⟩)
 clear hp hC2 lp HT HC1 HL;have cg1:=pages_at (n:=N) w2 (by omega) hN.2;go_wp2_with fail;refine cg1.mono ?_;rintro e w' ⟨rfl,rfl⟩;have hpg:1<=pg N/\pg N<=4096:=by unfold pg;omega
 have hpp:pg (pg N)<=4096:=by have:=pgpg_le hN.2;omega
 have CG:=zh (fun W=>pages_at (n:=pg N) W hpg.1 hpg.2);have MKA:=zh (run_make1 (P:=Tryz.prog) 27 3 Tryz.underlying27 infoInt8 rfl .i64 .i64 (pg N) (by omega) (by omega));have MKB:=zh (run_make1 (P:=Tryz.prog) 27 3 Tryz.underlying27 infoInt8 rfl .i64 .i64 (pg (pg N)) (by omega) (by omega));clear cg1;go_upto_region 7 with fail;go_cut [9,10,11,12] (fun s9 z0 z1 e12 wx=>e12 = .int .i64 0/\Hid (Fm7 w2 p t bc bk N s9 z0 z1 wx))
 case first =>
  refine wp_region_held_drew (S:=AnyW) (by kernel_rfl) (by exact trivial) (fun hHeld=>?_);refine wV 0 ?_;refine wV 1 ?_;refine wV 2 ?_;refine wV 4 ?_;try simp only [Act.put,sA1,sA2,sA3]
  have HC:=zh ((Chg.refl [] w2).drew);generalize w2.drew=W0 at *;refine wR [3,5,14] ?_;refine wC (fun K hK=>?_) ?_
  (have mk:=MKA.out;go_simp;clear mk;have Ma1:=zh (znb W0 (.cells (zrow (pg N) (.int .i64 0)) 3));have HC1:=zh (HC.out.alloc (.cells (zrow (pg N) (.int .i64 0)) 3));generalize W0.alloc _=W1 at *)
  refine hK.out _ _ trivial (fun hHeld=>?_);clear hK K;try simp only [Act.put,sA1,sA2,sA3]
  refine wR [5,14] ?_;refine wC (fun K hK=>?_) ?_
  (go_simp;refine (CG.out _).mono ?_;rintro e w' ⟨rfl,rfl⟩)
  refine hK.out _ _ trivial (fun hHeld=>?_);clear hK K;try simp only [Act.put,sA1,sA2,sA3]
  refine wR [6,14] ?_;refine wC (fun K hK=>?_) ?_
  (have mk:=MKB.out;go_simp;clear mk;have Mb2:=zh (znb W1 (.cells (zrow (pg (pg N)) (.int .i64 0)) 3));have Ma2:=zh (keep_new (.cells (zrow (pg (pg N)) (.int .i64 0)) 3) Ma1.out);have HC2:=zh (HC1.out.alloc (.cells (zrow (pg (pg N)) (.int .i64 0)) 3));generalize W1.alloc _=W2 at *)
  refine hK.out _ _ trivial (fun hHeld=>?_);clear hK K;try simp only [Act.put,sA1,sA2,sA3]
  refine wV 7 ?_;try simp only [Act.put,sA1,sA2,sA3]
  refine wR [8,14] ?_;refine wC (fun K hK=>?_) ?_
  (go_simp;refine (fpl_at hN (HP.out.chg HC2.out (by simp) (by simp) (by simp) (by simp)) Ma2.out Mb2.out).mono ?_;rintro e wP ⟨z0,z1,g,c,rfl,q0⟩;have HXX:=zh (r7_new HC2.out q0 HLP.out);clear q0)
  refine hK.out _ _ trivial (fun hHeld=>?_);clear hK K;try simp only [Act.put,sA1,sA2,sA3]
  refine wV 9 ?_;refine wV 10 ?_;refine wV 11 ?_;refine wV 12 ?_;refine wV 13 ?_;try simp only [Act.put,sA1,sA2,sA3]
  refine wE 14 (fun K hK=>?_)
  (go_simp;generalize wP.alloc _=wX at HXX ⊢;generalize wP.heap.size=xb at HXX ⊢)
  refine hK.out _ _ trivial (fun hHeld=>?_);clear hK K;try simp only [Act.put,sA1,sA2,sA3]
  rotate_left 1
  refine wD (fun K hK=>?_)
  (go_simp;have HCX:=zh HC2.out.size;have Mx3:=zh (znb W2 (.cells #[.slice none 0 0,.slice none 0 0] 42));have Ma3:=zh (keep_new (.cells #[.slice none 0 0,.slice none 0 0] 42) Ma2.out);have Mb3:=zh (keep_new (.cells #[.slice none 0 0,.slice none 0 0] 42) Mb2.out);have HC3:=zh (HC2.out.alloc (.cells #[.slice none 0 0,.slice none 0 0] 42));generalize W2.alloc _=W3 at *)
  refine hK.out _ _ trivial (fun hHeld=>?_);clear hK K;try simp only [Act.put,sA1,sA2,sA3]
  refine wE 8 (fun K hK=>?_)
  (go_simp;refine (fpl_at hN (HP.out.chg HC3.out (by simp) (by simp) (by simp) (by simp)) Ma3.out Mb3.out).mono ?_;rintro e wX ⟨z0,z1,g,c,rfl,q0⟩;have HXX:=zh (r7_in HCX.out HC3.out Mx3.out q0 HLP.out);clear q0;generalize W2.heap.size=xb at HXX ⊢)
  refine hK.out _ _ trivial (fun hHeld=>?_);clear hK K;try simp only [Act.put,sA1,sA2,sA3]
  refine wV 9 ?_;refine wV 10 ?_;refine wV 11 ?_;refine wV 12 ?_;refine wV 13 ?_;try simp only [Act.put,sA1,sA2,sA3]
  rotate_left 1
  refine wD (fun K hK=>?_)
  (go_simp;have HCX:=zh HC1.out.size;have Mx2:=zh (znb W1 (.cells #[.slice none 0 0,.slice none 0 0] 42));have Ma2:=zh (keep_new (.cells #[.slice none 0 0,.slice none 0 0] 42) Ma1.out);have HC2:=zh (HC1.out.alloc (.cells #[.slice none 0 0,.slice none 0 0] 42));generalize W1.alloc _=W2 at *)
  refine hK.out _ _ trivial (fun hHeld=>?_);clear hK K;try simp only [Act.put,sA1,sA2,sA3]
  refine wE 6 (fun K hK=>?_)
  (have mk:=MKB.out;go_simp;clear mk;have Mb3:=zh (znb W2 (.cells (zrow (pg (pg N)) (.int .i64 0)) 3));have Ma3:=zh (keep_new (.cells (zrow (pg (pg N)) (.int .i64 0)) 3) Ma2.out);have Mx3:=zh (keep_new (.cells (zrow (pg (pg N)) (.int .i64 0)) 3) Mx2.out);have HC3:=zh (HC2.out.alloc (.cells (zrow (pg (pg N)) (.int .i64 0)) 3));generalize W2.alloc _=W3 at *)
  refine hK.out _ _ trivial (fun hHeld=>?_);clear hK K;try simp only [Act.put,sA1,sA2,sA3]
  refine wV 7 ?_;try simp only [Act.put,sA1,sA2,sA3]
  refine wE 8 (fun K hK=>?_)
  (go_simp;refine (fpl_at hN (HP.out.chg HC3.out (by simp) (by simp) (by simp) (by simp)) Ma3.out Mb3.out).mono ?_;rintro e wX ⟨z0,z1,g,c,rfl,q0⟩;have HXX:=zh (r7_in HCX.out HC3.out Mx3.out q0 HLP.out);clear q0;generalize W1.heap.size=xb at HXX ⊢)
  refine hK.out _ _ trivial (fun hHeld=>?_);clear hK K;try simp only [Act.put,sA1,sA2,sA3]
  refine wV 9 ?_;refine wV 10 ?_;refine wV 11 ?_;refine wV 12 ?_;refine wV 13 ?_;try simp only [Act.put,sA1,sA2,sA3]
  rotate_left 1
  refine wD (fun K hK=>?_)
  (go_simp;have HCX:=zh HC1.out.size;have Mx2:=zh (znb W1 (.cells #[.slice none 0 0,.slice none 0 0] 42));have Ma2:=zh (keep_new (.cells #[.slice none 0 0,.slice none 0 0] 42) Ma1.out);have HC2:=zh (HC1.out.alloc (.cells #[.slice none 0 0,.slice none 0 0] 42));generalize W1.alloc _=W2 at *)
  refine hK.out _ _ trivial (fun hHeld=>?_);clear hK K;try simp only [Act.put,sA1,sA2,sA3]
  refine wE 5 (fun K hK=>?_)
  (go_simp;refine (CG.out _).mono ?_;rintro e w' ⟨rfl,rfl⟩)
  refine hK.out _ _ trivial (fun hHeld=>?_);clear hK K;try simp only [Act.put,sA1,sA2,sA3]
  refine wE 6 (fun K hK=>?_)
  (have mk:=MKB.out;go_simp;clear mk;have Mb3:=zh (znb W2 (.cells (zrow (pg (pg N)) (.int .i64 0)) 3));have Ma3:=zh (keep_new (.cells (zrow (pg (pg N)) (.int .i64 0)) 3) Ma2.out);have Mx3:=zh (keep_new (.cells (zrow (pg (pg N)) (.int .i64 0)) 3) Mx2.out);have HC3:=zh (HC2.out.alloc (.cells (zrow (pg (pg N)) (.int .i64 0)) 3));generalize W2.alloc _=W3 at *)
  refine hK.out _ _ trivial (fun hHeld=>?_);clear hK K;try simp only [Act.put,sA1,sA2,sA3]
  refine wV 7 ?_;try simp only [Act.put,sA1,sA2,sA3]
  refine wE 8 (fun K hK=>?_)
  (go_simp;refine (fpl_at hN (HP.out.chg HC3.out (by simp) (by simp) (by simp) (by simp)) Ma3.out Mb3.out).mono ?_;rintro e wX ⟨z0,z1,g,c,rfl,q0⟩;have HXX:=zh (r7_in HCX.out HC3.out Mx3.out q0 HLP.out);clear q0;generalize W1.heap.size=xb at HXX ⊢)
  refine hK.out _ _ trivial (fun hHeld=>?_);clear hK K;try simp only [Act.put,sA1,sA2,sA3]
  refine wV 9 ?_;refine wV 10 ?_;refine wV 11 ?_;refine wV 12 ?_;refine wV 13 ?_;try simp only [Act.put,sA1,sA2,sA3]
  rotate_left 1
  refine wC (fun K hK=>?_) ?_
  (go_simp;refine (CG.out _).mono ?_;rintro e w' ⟨rfl,rfl⟩)
  refine hK.out _ _ trivial (fun hHeld=>?_);clear hK K;try simp only [Act.put,sA1,sA2,sA3]
  refine wR [3,6,14] ?_;refine wC (fun K hK=>?_) ?_
  (have mk:=MKA.out;go_simp;clear mk;have Ma1:=zh (znb W0 (.cells (zrow (pg N) (.int .i64 0)) 3));have HC1:=zh (HC.out.alloc (.cells (zrow (pg N) (.int .i64 0)) 3));generalize W0.alloc _=W1 at *)
  refine hK.out _ _ trivial (fun hHeld=>?_);clear hK K;try simp only [Act.put,sA1,sA2,sA3]
  refine wR [6,14] ?_;refine wC (fun K hK=>?_) ?_
  (have mk:=MKB.out;go_simp;clear mk;have Mb2:=zh (znb W1 (.cells (zrow (pg (pg N)) (.int .i64 0)) 3));have Ma2:=zh (keep_new (.cells (zrow (pg (pg N)) (.int .i64 0)) 3) Ma1.out);have HC2:=zh (HC1.out.alloc (.cells (zrow (pg (pg N)) (.int .i64 0)) 3));generalize W1.alloc _=W2 at *)
  refine hK.out _ _ trivial (fun hHeld=>?_);clear hK K;try simp only [Act.put,sA1,sA2,sA3]
  refine wV 7 ?_;try simp only [Act.put,sA1,sA2,sA3]
  refine wR [8,14] ?_;refine wC (fun K hK=>?_) ?_
  (go_simp;refine (fpl_at hN (HP.out.chg HC2.out (by simp) (by simp) (by simp) (by simp)) Ma2.out Mb2.out).mono ?_;rintro e wP ⟨z0,z1,g,c,rfl,q0⟩;have HXX:=zh (r7_new HC2.out q0 HLP.out);clear q0)
  refine hK.out _ _ trivial (fun hHeld=>?_);clear hK K;try simp only [Act.put,sA1,sA2,sA3]
  refine wV 9 ?_;refine wV 10 ?_;refine wV 11 ?_;refine wV 12 ?_;refine wV 13 ?_;try simp only [Act.put,sA1,sA2,sA3]
  refine wE 14 (fun K hK=>?_)
  (go_simp;generalize wP.alloc _=wX at HXX ⊢;generalize wP.heap.size=xb at HXX ⊢)
  refine hK.out _ _ trivial (fun hHeld=>?_);clear hK K;try simp only [Act.put,sA1,sA2,sA3]
  rotate_left 1
  refine wD (fun K hK=>?_)
  (go_simp;have HCX:=zh HC2.out.size;have Mx3:=zh (znb W2 (.cells #[.slice none 0 0,.slice none 0 0] 42));have Ma3:=zh (keep_new (.cells #[.slice none 0 0,.slice none 0 0] 42) Ma2.out);have Mb3:=zh (keep_new (.cells #[.slice none 0 0,.slice none 0 0] 42) Mb2.out);have HC3:=zh (HC2.out.alloc (.cells #[.slice none 0 0,.slice none 0 0] 42));generalize W2.alloc _=W3 at *)
  refine hK.out _ _ trivial (fun hHeld=>?_);clear hK K;try simp only [Act.put,sA1,sA2,sA3]
  refine wE 8 (fun K hK=>?_)
  (go_simp;refine (fpl_at hN (HP.out.chg HC3.out (by simp) (by simp) (by simp) (by simp)) Ma3.out Mb3.out).mono ?_;rintro e wX ⟨z0,z1,g,c,rfl,q0⟩;have HXX:=zh (r7_in HCX.out HC3.out Mx3.out q0 HLP.out);clear q0;generalize W2.heap.size=xb at HXX ⊢)
  refine hK.out _ _ trivial (fun hHeld=>?_);clear hK K;try simp only [Act.put,sA1,sA2,sA3]
  refine wV 9 ?_;refine wV 10 ?_;refine wV 11 ?_;refine wV 12 ?_;refine wV 13 ?_;try simp only [Act.put,sA1,sA2,sA3]
  rotate_left 1
  refine wD (fun K hK=>?_)
  (go_simp;have HCX:=zh HC1.out.size;have Mx2:=zh (znb W1 (.cells #[.slice none 0 0,.slice none 0 0] 42));have Ma2:=zh (keep_new (.cells #[.slice none 0 0,.slice none 0 0] 42) Ma1.out);have HC2:=zh (HC1.out.alloc (.cells #[.slice none 0 0,.slice none 0 0] 42));generalize W1.alloc _=W2 at *)
  refine hK.out _ _ trivial (fun hHeld=>?_);clear hK K;try simp only [Act.put,sA1,sA2,sA3]
  refine wE 6 (fun K hK=>?_)
  (have mk:=MKB.out;go_simp;clear mk;have Mb3:=zh (znb W2 (.cells (zrow (pg (pg N)) (.int .i64 0)) 3));have Ma3:=zh (keep_new (.cells (zrow (pg (pg N)) (.int .i64 0)) 3) Ma2.out);have Mx3:=zh (keep_new (.cells (zrow (pg (pg N)) (.int .i64 0)) 3) Mx2.out);have HC3:=zh (HC2.out.alloc (.cells (zrow (pg (pg N)) (.int .i64 0)) 3));generalize W2.alloc _=W3 at *)
  refine hK.out _ _ trivial (fun hHeld=>?_);clear hK K;try simp only [Act.put,sA1,sA2,sA3]
  refine wV 7 ?_;try simp only [Act.put,sA1,sA2,sA3]
  refine wE 8 (fun K hK=>?_)
  (go_simp;refine (fpl_at hN (HP.out.chg HC3.out (by simp) (by simp) (by simp) (by simp)) Ma3.out Mb3.out).mono ?_;rintro e wX ⟨z0,z1,g,c,rfl,q0⟩;have HXX:=zh (r7_in HCX.out HC3.out Mx3.out q0 HLP.out);clear q0;generalize W1.heap.size=xb at HXX ⊢)
  refine hK.out _ _ trivial (fun hHeld=>?_);clear hK K;try simp only [Act.put,sA1,sA2,sA3]
  refine wV 9 ?_;refine wV 10 ?_;refine wV 11 ?_;refine wV 12 ?_;refine wV 13 ?_;try simp only [Act.put,sA1,sA2,sA3]
  rotate_left 1
  refine wC (fun K hK=>?_) ?_
  (have mk:=MKB.out;go_simp;clear mk;have Mb1:=zh (znb W0 (.cells (zrow (pg (pg N)) (.int .i64 0)) 3));have HC1:=zh (HC.out.alloc (.cells (zrow (pg (pg N)) (.int .i64 0)) 3));generalize W0.alloc _=W1 at *)
  refine hK.out _ _ trivial (fun hHeld=>?_);clear hK K;try simp only [Act.put,sA1,sA2,sA3]
  refine wR [3,14] ?_;refine wC (fun K hK=>?_) ?_
  (have mk:=MKA.out;go_simp;clear mk;have Ma2:=zh (znb W1 (.cells (zrow (pg N) (.int .i64 0)) 3));have Mb2:=zh (keep_new (.cells (zrow (pg N) (.int .i64 0)) 3) Mb1.out);have HC2:=zh (HC1.out.alloc (.cells (zrow (pg N) (.int .i64 0)) 3));generalize W1.alloc _=W2 at *)
  refine hK.out _ _ trivial (fun hHeld=>?_);clear hK K;try simp only [Act.put,sA1,sA2,sA3]
  refine wV 7 ?_;try simp only [Act.put,sA1,sA2,sA3]
  refine wR [8,14] ?_;refine wC (fun K hK=>?_) ?_
  (go_simp;refine (fpl_at hN (HP.out.chg HC2.out (by simp) (by simp) (by simp) (by simp)) Ma2.out Mb2.out).mono ?_;rintro e wP ⟨z0,z1,g,c,rfl,q0⟩;have HXX:=zh (r7_new HC2.out q0 HLP.out);clear q0)
  refine hK.out _ _ trivial (fun hHeld=>?_);clear hK K;try simp only [Act.put,sA1,sA2,sA3]
  refine wV 9 ?_;refine wV 10 ?_;refine wV 11 ?_;refine wV 12 ?_;refine wV 13 ?_;try simp only [Act.put,sA1,sA2,sA3]
  refine wE 14 (fun K hK=>?_)
  (go_simp;generalize wP.alloc _=wX at HXX ⊢;generalize wP.heap.size=xb at HXX ⊢)
  refine hK.out _ _ trivial (fun hHeld=>?_);clear hK K;try simp only [Act.put,sA1,sA2,sA3]
  rotate_left 1
  refine wD (fun K hK=>?_)
  (go_simp;have HCX:=zh HC2.out.size;have Mx3:=zh (znb W2 (.cells #[.slice none 0 0,.slice none 0 0] 42));have Mb3:=zh (keep_new (.cells #[.slice none 0 0,.slice none 0 0] 42) Mb2.out);have Ma3:=zh (keep_new (.cells #[.slice none 0 0,.slice none 0 0] 42) Ma2.out);have HC3:=zh (HC2.out.alloc (.cells #[.slice none 0 0,.slice none 0 0] 42));generalize W2.alloc _=W3 at *)
  refine hK.out _ _ trivial (fun hHeld=>?_);clear hK K;try simp only [Act.put,sA1,sA2,sA3]
  refine wE 8 (fun K hK=>?_)
  (go_simp;refine (fpl_at hN (HP.out.chg HC3.out (by simp) (by simp) (by simp) (by simp)) Ma3.out Mb3.out).mono ?_;rintro e wX ⟨z0,z1,g,c,rfl,q0⟩;have HXX:=zh (r7_in HCX.out HC3.out Mx3.out q0 HLP.out);clear q0;generalize W2.heap.size=xb at HXX ⊢)
  refine hK.out _ _ trivial (fun hHeld=>?_);clear hK K;try simp only [Act.put,sA1,sA2,sA3]
  refine wV 9 ?_;refine wV 10 ?_;refine wV 11 ?_;refine wV 12 ?_;refine wV 13 ?_;try simp only [Act.put,sA1,sA2,sA3]
  rotate_left 1
  refine wD (fun K hK=>?_)
  (go_simp;have HCX:=zh HC1.out.size;have Mx2:=zh (znb W1 (.cells #[.slice none 0 0,.slice none 0 0] 42));have Mb2:=zh (keep_new (.cells #[.slice none 0 0,.slice none 0 0] 42) Mb1.out);have HC2:=zh (HC1.out.alloc (.cells #[.slice none 0 0,.slice none 0 0] 42));generalize W1.alloc _=W2 at *)
  refine hK.out _ _ trivial (fun hHeld=>?_);clear hK K;try simp only [Act.put,sA1,sA2,sA3]
  refine wE 3 (fun K hK=>?_)
  (have mk:=MKA.out;go_simp;clear mk;have Ma3:=zh (znb W2 (.cells (zrow (pg N) (.int .i64 0)) 3));have Mb3:=zh (keep_new (.cells (zrow (pg N) (.int .i64 0)) 3) Mb2.out);have Mx3:=zh (keep_new (.cells (zrow (pg N) (.int .i64 0)) 3) Mx2.out);have HC3:=zh (HC2.out.alloc (.cells (zrow (pg N) (.int .i64 0)) 3));generalize W2.alloc _=W3 at *)
  refine hK.out _ _ trivial (fun hHeld=>?_);clear hK K;try simp only [Act.put,sA1,sA2,sA3]
  refine wV 7 ?_;try simp only [Act.put,sA1,sA2,sA3]
  refine wE 8 (fun K hK=>?_)
  (go_simp;refine (fpl_at hN (HP.out.chg HC3.out (by simp) (by simp) (by simp) (by simp)) Ma3.out Mb3.out).mono ?_;rintro e wX ⟨z0,z1,g,c,rfl,q0⟩;have HXX:=zh (r7_in HCX.out HC3.out Mx3.out q0 HLP.out);clear q0;generalize W1.heap.size=xb at HXX ⊢)
  refine hK.out _ _ trivial (fun hHeld=>?_);clear hK K;try simp only [Act.put,sA1,sA2,sA3]
  refine wV 9 ?_;refine wV 10 ?_;refine wV 11 ?_;refine wV 12 ?_;refine wV 13 ?_;try simp only [Act.put,sA1,sA2,sA3]
  rotate_left 1
  refine wD (fun K hK=>?_)
  (go_simp;have HCX:=zh HC.out.size;have Mx1:=zh (znb W0 (.cells #[.slice none 0 0,.slice none 0 0] 42));have HC1:=zh (HC.out.alloc (.cells #[.slice none 0 0,.slice none 0 0] 42));generalize W0.alloc _=W1 at *)
  refine hK.out _ _ trivial (fun hHeld=>?_);clear hK K;try simp only [Act.put,sA1,sA2,sA3]
  refine wR [3,6] ?_;refine wC (fun K hK=>?_) ?_
  (have mk:=MKA.out;go_simp;clear mk;have Ma2:=zh (znb W1 (.cells (zrow (pg N) (.int .i64 0)) 3));have Mx2:=zh (keep_new (.cells (zrow (pg N) (.int .i64 0)) 3) Mx1.out);have HC2:=zh (HC1.out.alloc (.cells (zrow (pg N) (.int .i64 0)) 3));generalize W1.alloc _=W2 at *)
  refine hK.out _ _ trivial (fun hHeld=>?_);clear hK K;try simp only [Act.put,sA1,sA2,sA3]
  refine wE 6 (fun K hK=>?_)
  (have mk:=MKB.out;go_simp;clear mk;have Mb3:=zh (znb W2 (.cells (zrow (pg (pg N)) (.int .i64 0)) 3));have Mx3:=zh (keep_new (.cells (zrow (pg (pg N)) (.int .i64 0)) 3) Mx2.out);have Ma3:=zh (keep_new (.cells (zrow (pg (pg N)) (.int .i64 0)) 3) Ma2.out);have HC3:=zh (HC2.out.alloc (.cells (zrow (pg (pg N)) (.int .i64 0)) 3));generalize W2.alloc _=W3 at *)
  refine hK.out _ _ trivial (fun hHeld=>?_);clear hK K;try simp only [Act.put,sA1,sA2,sA3]
  refine wV 7 ?_;try simp only [Act.put,sA1,sA2,sA3]
  refine wE 8 (fun K hK=>?_)
  (go_simp;refine (fpl_at hN (HP.out.chg HC3.out (by simp) (by simp) (by simp) (by simp)) Ma3.out Mb3.out).mono ?_;rintro e wX ⟨z0,z1,g,c,rfl,q0⟩;have HXX:=zh (r7_in HCX.out HC3.out Mx3.out q0 HLP.out);clear q0;generalize W0.heap.size=xb at HXX ⊢)
  refine hK.out _ _ trivial (fun hHeld=>?_);clear hK K;try simp only [Act.put,sA1,sA2,sA3]
  refine wV 9 ?_;refine wV 10 ?_;refine wV 11 ?_;refine wV 12 ?_;refine wV 13 ?_;try simp only [Act.put,sA1,sA2,sA3]
  rotate_left 1
  refine wD (fun K hK=>?_)
  (have mk:=MKB.out;go_simp;clear mk;have Mb2:=zh (znb W1 (.cells (zrow (pg (pg N)) (.int .i64 0)) 3));have Mx2:=zh (keep_new (.cells (zrow (pg (pg N)) (.int .i64 0)) 3) Mx1.out);have HC2:=zh (HC1.out.alloc (.cells (zrow (pg (pg N)) (.int .i64 0)) 3));generalize W1.alloc _=W2 at *)
  refine hK.out _ _ trivial (fun hHeld=>?_);clear hK K;try simp only [Act.put,sA1,sA2,sA3]
  refine wE 3 (fun K hK=>?_)
  (have mk:=MKA.out;go_simp;clear mk;have Ma3:=zh (znb W2 (.cells (zrow (pg N) (.int .i64 0)) 3));have Mx3:=zh (keep_new (.cells (zrow (pg N) (.int .i64 0)) 3) Mx2.out);have Mb3:=zh (keep_new (.cells (zrow (pg N) (.int .i64 0)) 3) Mb2.out);have HC3:=zh (HC2.out.alloc (.cells (zrow (pg N) (.int .i64 0)) 3));generalize W2.alloc _=W3 at *)
  refine hK.out _ _ trivial (fun hHeld=>?_);clear hK K;try simp only [Act.put,sA1,sA2,sA3]
  refine wV 7 ?_;try simp only [Act.put,sA1,sA2,sA3]
  refine wE 8 (fun K hK=>?_)
  (go_simp;refine (fpl_at hN (HP.out.chg HC3.out (by simp) (by simp) (by simp) (by simp)) Ma3.out Mb3.out).mono ?_;rintro e wX ⟨z0,z1,g,c,rfl,q0⟩;have HXX:=zh (r7_in HCX.out HC3.out Mx3.out q0 HLP.out);clear q0;generalize W0.heap.size=xb at HXX ⊢)
  refine hK.out _ _ trivial (fun hHeld=>?_);clear hK K;try simp only [Act.put,sA1,sA2,sA3]
  refine wV 9 ?_;refine wV 10 ?_;refine wV 11 ?_;refine wV 12 ?_;refine wV 13 ?_;try simp only [Act.put,sA1,sA2,sA3]
  rotate_left 1
  refine wD (fun K hK=>?_)
  (go_simp;have HCX:=zh HC.out.size;have Mx1:=zh (znb W0 (.cells #[.slice none 0 0,.slice none 0 0] 42));have HC1:=zh (HC.out.alloc (.cells #[.slice none 0 0,.slice none 0 0] 42));generalize W0.alloc _=W1 at *)
  refine hK.out _ _ trivial (fun hHeld=>?_);clear hK K;try simp only [Act.put,sA1,sA2,sA3]
  refine wR [3,5] ?_;refine wC (fun K hK=>?_) ?_
  (have mk:=MKA.out;go_simp;clear mk;have Ma2:=zh (znb W1 (.cells (zrow (pg N) (.int .i64 0)) 3));have Mx2:=zh (keep_new (.cells (zrow (pg N) (.int .i64 0)) 3) Mx1.out);have HC2:=zh (HC1.out.alloc (.cells (zrow (pg N) (.int .i64 0)) 3));generalize W1.alloc _=W2 at *)
  refine hK.out _ _ trivial (fun hHeld=>?_);clear hK K;try simp only [Act.put,sA1,sA2,sA3]
  refine wE 5 (fun K hK=>?_)
  (go_simp;refine (CG.out _).mono ?_;rintro e w' ⟨rfl,rfl⟩)
  refine hK.out _ _ trivial (fun hHeld=>?_);clear hK K;try simp only [Act.put,sA1,sA2,sA3]
  refine wE 6 (fun K hK=>?_)
  (have mk:=MKB.out;go_simp;clear mk;have Mb3:=zh (znb W2 (.cells (zrow (pg (pg N)) (.int .i64 0)) 3));have Mx3:=zh (keep_new (.cells (zrow (pg (pg N)) (.int .i64 0)) 3) Mx2.out);have Ma3:=zh (keep_new (.cells (zrow (pg (pg N)) (.int .i64 0)) 3) Ma2.out);have HC3:=zh (HC2.out.alloc (.cells (zrow (pg (pg N)) (.int .i64 0)) 3));generalize W2.alloc _=W3 at *)
  refine hK.out _ _ trivial (fun hHeld=>?_);clear hK K;try simp only [Act.put,sA1,sA2,sA3]
  refine wV 7 ?_;try simp only [Act.put,sA1,sA2,sA3]
  refine wE 8 (fun K hK=>?_)
  (go_simp;refine (fpl_at hN (HP.out.chg HC3.out (by simp) (by simp) (by simp) (by simp)) Ma3.out Mb3.out).mono ?_;rintro e wX ⟨z0,z1,g,c,rfl,q0⟩;have HXX:=zh (r7_in HCX.out HC3.out Mx3.out q0 HLP.out);clear q0;generalize W0.heap.size=xb at HXX ⊢)
  refine hK.out _ _ trivial (fun hHeld=>?_);clear hK K;try simp only [Act.put,sA1,sA2,sA3]
  refine wV 9 ?_;refine wV 10 ?_;refine wV 11 ?_;refine wV 12 ?_;refine wV 13 ?_;try simp only [Act.put,sA1,sA2,sA3]
  rotate_left 1
  refine wD (fun K hK=>?_)
  (go_simp;refine (CG.out _).mono ?_;rintro e w' ⟨rfl,rfl⟩)
  refine hK.out _ _ trivial (fun hHeld=>?_);clear hK K;try simp only [Act.put,sA1,sA2,sA3]
  refine wR [3,6] ?_;refine wC (fun K hK=>?_) ?_
  (have mk:=MKA.out;go_simp;clear mk;have Ma2:=zh (znb W1 (.cells (zrow (pg N) (.int .i64 0)) 3));have Mx2:=zh (keep_new (.cells (zrow (pg N) (.int .i64 0)) 3) Mx1.out);have HC2:=zh (HC1.out.alloc (.cells (zrow (pg N) (.int .i64 0)) 3));generalize W1.alloc _=W2 at *)
  refine hK.out _ _ trivial (fun hHeld=>?_);clear hK K;try simp only [Act.put,sA1,sA2,sA3]
  refine wE 6 (fun K hK=>?_)
  (have mk:=MKB.out;go_simp;clear mk;have Mb3:=zh (znb W2 (.cells (zrow (pg (pg N)) (.int .i64 0)) 3));have Mx3:=zh (keep_new (.cells (zrow (pg (pg N)) (.int .i64 0)) 3) Mx2.out);have Ma3:=zh (keep_new (.cells (zrow (pg (pg N)) (.int .i64 0)) 3) Ma2.out);have HC3:=zh (HC2.out.alloc (.cells (zrow (pg (pg N)) (.int .i64 0)) 3));generalize W2.alloc _=W3 at *)
  refine hK.out _ _ trivial (fun hHeld=>?_);clear hK K;try simp only [Act.put,sA1,sA2,sA3]
  refine wV 7 ?_;try simp only [Act.put,sA1,sA2,sA3]
  refine wE 8 (fun K hK=>?_)
  (go_simp;refine (fpl_at hN (HP.out.chg HC3.out (by simp) (by simp) (by simp) (by simp)) Ma3.out Mb3.out).mono ?_;rintro e wX ⟨z0,z1,g,c,rfl,q0⟩;have HXX:=zh (r7_in HCX.out HC3.out Mx3.out q0 HLP.out);clear q0;generalize W0.heap.size=xb at HXX ⊢)
  refine hK.out _ _ trivial (fun hHeld=>?_);clear hK K;try simp only [Act.put,sA1,sA2,sA3]
  refine wV 9 ?_;refine wV 10 ?_;refine wV 11 ?_;refine wV 12 ?_;refine wV 13 ?_;try simp only [Act.put,sA1,sA2,sA3]
  rotate_left 1
  refine wD (fun K hK=>?_)
  (have mk:=MKB.out;go_simp;clear mk;have Mb2:=zh (znb W1 (.cells (zrow (pg (pg N)) (.int .i64 0)) 3));have Mx2:=zh (keep_new (.cells (zrow (pg (pg N)) (.int .i64 0)) 3) Mx1.out);have HC2:=zh (HC1.out.alloc (.cells (zrow (pg (pg N)) (.int .i64 0)) 3));generalize W1.alloc _=W2 at *)
  refine hK.out _ _ trivial (fun hHeld=>?_);clear hK K;try simp only [Act.put,sA1,sA2,sA3]
  refine wE 3 (fun K hK=>?_)
  (have mk:=MKA.out;go_simp;clear mk;have Ma3:=zh (znb W2 (.cells (zrow (pg N) (.int .i64 0)) 3));have Mx3:=zh (keep_new (.cells (zrow (pg N) (.int .i64 0)) 3) Mx2.out);have Mb3:=zh (keep_new (.cells (zrow (pg N) (.int .i64 0)) 3) Mb2.out);have HC3:=zh (HC2.out.alloc (.cells (zrow (pg N) (.int .i64 0)) 3));generalize W2.alloc _=W3 at *)
  refine hK.out _ _ trivial (fun hHeld=>?_);clear hK K;try simp only [Act.put,sA1,sA2,sA3]
  refine wV 7 ?_;try simp only [Act.put,sA1,sA2,sA3]
  refine wE 8 (fun K hK=>?_)
  (go_simp;refine (fpl_at hN (HP.out.chg HC3.out (by simp) (by simp) (by simp) (by simp)) Ma3.out Mb3.out).mono ?_;rintro e wX ⟨z0,z1,g,c,rfl,q0⟩;have HXX:=zh (r7_in HCX.out HC3.out Mx3.out q0 HLP.out);clear q0;generalize W0.heap.size=xb at HXX ⊢)
  refine hK.out _ _ trivial (fun hHeld=>?_);clear hK K;try simp only [Act.put,sA1,sA2,sA3]
  refine wV 9 ?_;refine wV 10 ?_;refine wV 11 ?_;refine wV 12 ?_;refine wV 13 ?_;try simp only [Act.put,sA1,sA2,sA3]
  rotate_left 1
  all_goals
   obtain ⟨hx,hr⟩:=HXX.out;have k0:=zcb hx 0;have k1:=zcb hx 1;have f0:=zfb hx 0;have f1:=zfb hx 1;have lx:=zhl hx;simp only [tA1,tA3,tA2] at k0 k1;clear hr hx;refine wE 15 (fun K hK=>?_)
   (go_simp)
   refine hK.out _ _ trivial (fun hHeld=>?_);clear hK K;try simp only [Act.put,sA1,sA2,sA3]
   refine wV 16 ?_;refine wV 17 ?_;refine wV 18 ?_;try simp only [Act.put,sA1,sA2,sA3]
   refine wpAnyH_done (by kernel_rfl) ?_ _;go_wp2_with fail;go_meet;exact ⟨rfl,zh (r7_end HXX.out)⟩
 case rest =>
  obtain ⟨w7,rfl⟩:∃ x,x=wc:=⟨_,rfl⟩;obtain ⟨rfl,HF⟩:=hcut;obtain ⟨xb,g,c,rfl,m1,m2,m3,m4,m5,m6⟩:=HF.out;have HL1:=zh (m2.rowF (k:=1) (by omega));have hn2:nOf N 1<=2:=pgpg_le hN.2;have HM:=zh (zA m1 (zA m2 (zA m3 (zA m4 (zA m5 m6)))));have BF:=beg_fmt hN.1
  have haN:∀ k i,k<2->i<nOf N k->(begF N).a k i<N:=fun k i hk hi=>by
   have h1:=(BF.own.ok.has k i hk hi (BF.own.nz k i hk hi)).1;rw [keep_n,BF.tn] at h1;exact h1
  have HBF:=zh (zA BF haN);have cR:=baRooted_at (w:=w7) (S:=⟨1,N,fun _=>0,fun _=>0⟩) (m:=nOf N 1) (cs:=c 1) (a:=some ⟨g 1,0,none⟩) (A:=(begF N).a 1) hn2 HL1.out.1 (fun i hi=>⟨g 1,rfl,HL1.out.2.2.1,HL1.out.2.2.2 i hi,by have:=haN 1 i (by omega) hi;omega⟩);have eR:rootK ⟨1,N,fun _=>0,fun _=>0⟩ (nOf N 1) ((begF N).a 1) 2=fmtS N:=rfl;rw [eR] at cR;have CR:=zh cR;have E1:IntKind.u32.wrap (N:Int)=(N:Int):=by rw [IntKind.wrap_u32];omega
  have HBD:=zh (show Tryz.prog.built 49 [(0,.int .u64 1),(1,.int .u32 (N:Int))]=some (Sup.row ⟨1,N,fun _=>0,fun _=>0⟩) from by kernel_rfl);have x1:=zcb m1 1;simp only [tA1,tA3,tA2] at x1;have lx7:=zhl m1;have hok:=(fmtS_of hN).ok;have HOK:=zh hok;clear m1 m2 m3 m4 m5 m6 BF haN cR eR hok CG MKA MKB
  go_wp2_with (first
   | (refine wpList_built rfl 49 _ rfl (ps:=_) ?hp HBD.out ?hk;case hp=>(simp [Act.eval,Act.put])))
  refine CR.out.mono ?_;clear CR x1 E1;rintro e w8 ⟨rfl,hc8⟩;have CE:=zh (suEncode_at (w:=w8) HOK.out);have HC8:=zh hc8;clear hc8;go_wp2_with fail;refine CE.out.mono ?_;clear CE;rintro e w9 ⟨gp,rfl,hgp,hgs,hc9⟩;have HG9:=zh (zA hgp (HC8.out.trans hc9));clear hgp hgs hc9;have hmk:∀ w:World,(Instr.makeSlice 22 (.int .i64 128) (.int .i64 128)).run Tryz.prog w = .ok (.slice (some ⟨w.heap.size,0,none⟩) 128 128) (w.alloc (.cells (zrow 128 (.int .u8 0)) 5)):=run_make1 (P:=Tryz.prog) 22 5 Tryz.underlying22 infoU8 rfl .i64 .i64 128 (by omega) (by omega);go_upto_region 10 with fail;clear hmk;have hz:=znb w9 (.cells (zrow 128 (.int .u8 0)) 5);have hzc:Chg [] w9 (w9.alloc (.cells (zrow 128 (.int .u8 0)) 5)):=(Chg.refl [] w9).alloc _;generalize w9.alloc (.cells (zrow 128 (.int .u8 0)) 5)=wz at *;obtain ⟨zb,hzb⟩:∃ zb,zb=w9.heap.size:=⟨_,rfl⟩;rw [<- hzb] at hz ⊢;have HZ:=zh (zA hz (zA (HG9.out.2.trans hzc) ((hzc.block gp (zhl HG9.out.1) (by simp)).trans HG9.out.1)));clear hz hzc hzb
  have CZ:Hid (∀ (W0:World) (k:Nat),k<2->W0.heap[zb]?=some (.cells (zrow 128 (.int .u8 0)) 5 (0,0))->Calls Tryz.prog 84 #[.pointer (some ⟨d,0,none⟩),.int .i64 (k:Int),.slice (some ⟨zb,0,none⟩) 128 128] W0 fun e w'=>∃ gf lb,e = .returned (.agg #[.func gf #[] lb])/\StepIs w' d N (.func gf #[] lb) (some (k,fun _=>0))/\Chg [] W0 w') :=
   zh fun W0 k hk hz=>baPut_at (w:=W0) (dp:=d) (n:=N) (at':=k) (k:=zb) (o:=0) (cap:=128) (f:=fun _=>0) (by omega) (zLr _) (fun i hi=>⟨by rw [Nat.zero_add,zcb hz];simp [zrow,hi],Nat.zero_le _⟩) ⟨_,_,hz⟩
  have c0:=CZ.out wz 0 (by omega) HZ.out.1
  change Calls _ _ #[_,.int .i64 0,_] wz _ at c0
  have C0:=zh c0;clear c0;go_wp2_with fail;refine C0.out.mono ?_;clear C0;rintro e wa ⟨gf0,lb0,rfl,st0,hca⟩;have HA:=zh (zA st0 (zA hca ((hca.block zb (zhl HZ.out.1) (by simp)).trans HZ.out.1)));clear st0 hca;have c1:=CZ.out wa 1 (by omega) HA.out.2.2
  change Calls _ _ #[_,.int .i64 1,_] wa _ at c1
  have C1:=zh c1;clear c1 CZ;go_wp2_with fail;refine C1.out.mono ?_;clear C1;rintro e wb ⟨gf1,lb1,rfl,st1,hcb⟩;have HB:=zh (zA (HA.out.1.on hcb) (zA st1 ((HZ.out.2.1.trans HA.out.2.1).trans hcb)));have HBg:=zh (((HA.out.2.1.trans hcb).block gp (zhl HZ.out.2.2) (by simp)).trans HZ.out.2.2);clear st1 hcb;go_upto_region 11 with fail;have hn3:=znb wb (.cells #[.func gf0 #[] lb0,.func gf1 #[] lb1,.func (.func 87) #[.pointer (some ⟨d,0,none⟩)] #[]] 142);have hc3:Chg [] wb (wb.alloc (.cells #[.func gf0 #[] lb0,.func gf1 #[] lb1,.func (.func 87) #[.pointer (some ⟨d,0,none⟩)] #[]] 142)):=(Chg.refl [] wb).alloc _;generalize wb.alloc (.cells #[.func gf0 #[] lb0,.func gf1 #[] lb1,.func (.func 87) #[.pointer (some ⟨d,0,none⟩)] #[]] 142)=wq at hn3 hc3 ⊢
  have hall0:∀ (i:Nat) (x:Option (Nat × (Nat->Nat))),[some (0,fun _=>0),some (1,fun _=>0),none][i]?=some x->∃ u:Value,[Value.func gf0 #[] lb0,.func gf1 #[] lb1,.func (.func 87) #[.pointer (some ⟨d,0,none⟩)] #[]][i]?=some u/\StepIs wq d N u x:=fun i x hx=>by
   match i with
   | 0=>injection hx with hx;subst hx;exact ⟨_,rfl,HB.out.1.on hc3⟩
   | 1=>injection hx with hx;subst hx;exact ⟨_,rfl,HB.out.2.1.on hc3⟩
   | 2=>injection hx with hx;subst hx;exact ⟨_,rfl,rfl⟩
   | n+3=>cases hx
  have hown0:wq.ownsRow wb.heap.size 142 1 (.slice (some ⟨wb.heap.size,0,none⟩) 3 3) 3 [Value.func gf0 #[] lb0,.func gf1 #[] lb1,.func (.func 87) #[.pointer (some ⟨d,0,none⟩)] #[]] :=
   ⟨rfl,.inr ⟨wb.heap.size,3,_,rfl,zLr _,hn3,zLr _,by unfold maxLen;omega,rfl,rfl⟩⟩
  have hltb:wb.heap.size<wq.heap.size:=zhl hn3;have hownb:∀ q,(Value.slice (some ⟨wb.heap.size,0,none⟩) 3 3).ownBlock=some q->q=wb.heap.size:=fun q hq=>by injection hq with hq;exact hq.symm
  obtain ⟨v0,hv0⟩:∃ v,v=Value.slice (some ⟨wb.heap.size,0,none⟩) 3 3:=⟨_,rfl⟩;rw [<- hv0] at hown0 hownb ⊢;have HOWNB:=zh hownb;clear hv0 hownb;obtain ⟨l0,hl0⟩:∃ l0,l0=yesTo ((begF N).p 0) (nOf N 0):=⟨_,rfl⟩;obtain ⟨l1,hl1⟩:∃ l1,l1=yesTo ((begF N).p 1) (nOf N 1):=⟨_,rfl⟩;have hN0:nOf N 0<=4096/\nOf N 1<=4096:=⟨hpg.2,hpp⟩;have hll0:l0.length<=4096:=by rw [hl0];exact zLt (yesTo_le _ _) hN0.1
  have hll1:l1.length<=4096:=by rw [hl1];exact zLt (yesTo_le _ _) hN0.2
  have hmem:∀ (q:Nat->Bool) (n:Nat) (l:List Nat),l=yesTo q n->∀ i,i<l.length->l.getD i 0<n:=fun q n l hl i hi=>by
   have:l.getD i 0∈l:=by rw [zgD,List.getElem?_eq_getElem hi];exact List.getElem_mem _
   have h2:l.getD i 0∈yesTo q n:=hl▸this;exact (mem_yesTo.1 h2).1
  obtain ⟨m1,m2,m3,m4,m5,m6⟩:=HM.out;rw [<- hl0] at m3;rw [<- hl1] at m4;have hle:∀ i,i<N->(begF N).T.now i<65536:=fun i hi=>Nat.lt_of_le_of_lt (HBF.out.1.le i) (by decide);have hcq:=HB.out.2.2.trans hc3;have cPg:=baPaged_at (w:=wq) (dp:=d) (N:=N) (T:=(begF N).T) (A:=(begF N).a) (m5.chg hcq (by simp) (by simp) (by simp) (by simp)).ht HBF.out.1.tn ⟨by omega,hN.2⟩ hle hll0 hll1 (m2.chg hcq (by simp) (by simp)) (m3.chg hcq (by simp)) (m4.chg hcq (by simp)) (hmem _ _ _ hl0) (hmem _ _ _ hl1) HBF.out.2;have CPG:=zh cPg;have hxq:=(hcq.block xb lx7 (by simp)).trans m1;have y0:=zcb hxq 0;have y1:=zcb hxq 1;simp only [tA1,tA3,tA2] at y0 y1;have ly:=zhl hxq;have hgq:=(hc3.block gp (zhl HBg.out) (by simp)).trans HBg.out;have HQ:=zh (zA hall0 (zA hown0 (zA hcq (zA hgq m6))));have HLL:=zh (zA hl0 hl1);clear hn3 hc3 hall0 hown0 hl0 hl1 hN0 hmem m1 m2 m3 m4 m5 m6 hle hcq cPg hxq hgq;go_wp2_with fail;refine CPG.out.mono ?_;clear CPG y0 y1;rintro e we ⟨v2,rfl,hst2,hc2⟩;obtain ⟨ops2,hops2⟩:∃ o,o=(l0.map fun i=>some ((begF N).a 0 i,rowP 5 N (begF N).T.now i))++(l1.map fun i=>some ((begF N).a 1 i,rowP 4 (pg N) ((begF N).a 0) i)):=⟨_,rfl⟩;rw [<- hops2] at hst2;obtain ⟨k2,hk2⟩:∃ m,m=ops2.length:=⟨_,rfl⟩;have hol2:k2<=8192:=by rw [hk2,hops2,List.length_append,List.length_map,List.length_map];omega
  obtain ⟨vs2,hrow2,hall2⟩:=hst2;have hrow3:=own_chgT HQ.out.2.1 hc2 (by simp);have hsrc:=AppSrc.own hrow2 (steps_one hrow2 hall2);rw [<- hk2] at hsrc;have hall3:∀ (i:Nat) (x:Option (Nat × (Nat->Nat))),[some (0,fun _=>0),some (1,fun _=>0),none][i]?=some x->∃ u:Value,[Value.func gf0 #[] lb0,.func gf1 #[] lb1,.func (.func 87) #[.pointer (some ⟨d,0,none⟩)] #[]][i]?=some u/\StepIs we d N u x:=fun i x hx=>by obtain ⟨u,q1,q2⟩:=HQ.out.1 i x hx;exact ⟨u,q1,q2.on hc2⟩
  have hszb:wb.heap.size<=we.heap.size:=zLt (Nat.le_of_lt hltb) hc2.size;have hge:=(hc2.block gp (zhl HQ.out.2.2.2.1) (by simp)).trans HQ.out.2.2.2.1;have H3:=zh (zA hrow3 (zA hsrc (zA hall3 (zA hall2 (zA hk2 (zA hge (zA (HQ.out.2.2.1.trans hc2) hops2)))))));clear hrow2 hall2 hrow3 hsrc hall3 hge hk2 hops2 hc2;go_wp2_with (at_builtin;refine wpList_app rfl _ _ 136 rfl rfl (base:=wb.heap.size) (size:=1) (n:=3) (m:=k2) (xs:=[Value.func gf0 #[] lb0,.func gf1 #[] lb1,.func (.func 87) #[.pointer (some ⟨d,0,none⟩)] #[]]) (news:=vs2) Tryz.underlying136 infoStp rfl (by omega) (by omega) rfl rfl H3.out.1 H3.out.2.1 (by omega) hszb ?_;intro v5 w5 hown5 hg5 hob5;have H5:=zh (zA (steps_app rfl H3.out.2.2.2.2.1.symm H3.out.1 H3.out.2.2.1 H3.out.2.2.2.1 hown5 hg5) (zA (hg5.block gp (zhl H3.out.2.2.2.2.2.1) (fun e=>by have h1:=zhl HBg.out;have h2:=HOWNB.out _ e.symm;omega)) (H3.out.2.2.2.2.2.2.1.grown hg5 (fun q hq => .inr (by rw [HOWNB.out q hq];exact HB.out.2.2.size)))));have H5s:=zh hg5.size;clear hown5 hg5 hob5);have hg5:=H5.out.2.1.trans H3.out.2.2.2.2.2.1;have cpt:=baPut_at (w:=w5) (dp:=d) (n:=N) (at':=1) (k:=gp) (o:=0) (cap:=128) (f:=pageS (fmtS N)) (by omega) (zLr _) (fun i hi=>⟨by rw [Nat.zero_add,zcb hg5,u8s_get hi],sealP_le (by omega) (fun i _=>supB_le _ i) i⟩) ⟨_,_,hg5⟩
  change Calls _ _ #[_,.int .i64 1,_] w5 _ at cpt
  refine cpt.mono ?_;clear cpt;rintro e w6 ⟨gf,lb,rfl,hst6,hc6⟩;have H6:=zh (zA hst6 (zA hc6 (H5.out.2.2.trans hc6)));clear hst6 hc6 hg5;have hn8:=znb w6 (.cells #[.func (.func 87) #[.pointer (some ⟨d,0,none⟩)] #[],.func gf #[] lb,.func (.func 87) #[.pointer (some ⟨d,0,none⟩)] #[]] 142);have hc8:Chg [] w6 (w6.alloc (.cells #[.func (.func 87) #[.pointer (some ⟨d,0,none⟩)] #[],.func gf #[] lb,.func (.func 87) #[.pointer (some ⟨d,0,none⟩)] #[]] 142)):=(Chg.refl [] w6).alloc _;obtain ⟨w8',hw8'⟩:∃ w8',w8'=w6.alloc (.cells #[.func (.func 87) #[.pointer (some ⟨d,0,none⟩)] #[],.func gf #[] lb,.func (.func 87) #[.pointer (some ⟨d,0,none⟩)] #[]] 142):=⟨_,rfl⟩;rw [<- hw8'] at hn8 hc8;have hst8:=H5.out.1.chg (H6.out.2.1.trans hc8);obtain ⟨vs5,hrow5,hall5⟩:=hst8;have hol:([some (0,fun _=>0),some (1,fun _=>0),none]++ops2).length=3+k2:=by rw [List.length_append,<- H3.out.2.2.2.2.1];rfl
  rw [hol] at hrow5
  have hall6:∀ (i:Nat) (x:Option (Nat × (Nat->Nat))),[none,some (1,pageS (fmtS N)),none][i]?=some x->∃ u:Value,[Value.func (.func 87) #[.pointer (some ⟨d,0,none⟩)] #[],.func gf #[] lb,.func (.func 87) #[.pointer (some ⟨d,0,none⟩)] #[]][i]?=some u/\StepIs w8' d N u x:=fun i x hx=>by
   match i with
   | 0=>injection hx with hx;subst hx;exact ⟨_,rfl,rfl⟩
   | 1=>injection hx with hx;subst hx;exact ⟨_,rfl,H6.out.1.on hc8⟩
   | 2=>injection hx with hx;subst hx;exact ⟨_,rfl,rfl⟩
   | n+3=>cases hx
  have HONE:=zh (show ∀ u,u∈(#[Value.func (.func 87) #[.pointer (some ⟨d,0,none⟩)] #[],.func gf #[] lb,.func (.func 87) #[.pointer (some ⟨d,0,none⟩)] #[]]:Array Value).toList->u.oneCell'=true from fun u hu=>by
   simp at hu;rcases hu with rfl | rfl | rfl <;> rfl)
  have hsz8:wb.heap.size<=w8'.heap.size:=zLt hszb (zLt H5s.out (H6.out.2.1.trans hc8).size);have H8:=zh (zA hrow5 (zA hall5 (zA hall6 (zA hn8 (zA hsz8 (zA (H6.out.2.2.trans hc8) hol))))));have HW8:=zh hw8';clear hrow5 hall5 hall6 hn8 hsz8 hc8 hol hw8';go_wp2_with (at_builtin;rw [<- HW8.out];refine wpList_app rfl _ _ 136 rfl rfl (base:=wb.heap.size) (size:=1) (n:=3+k2) (m:=3) (xs:=vs5) (news:=[Value.func (.func 87) #[.pointer (some ⟨d,0,none⟩)] #[],.func gf #[] lb,.func (.func 87) #[.pointer (some ⟨d,0,none⟩)] #[]]) Tryz.underlying136 infoStp rfl (by omega) (by omega) rfl rfl H8.out.1 (AppSrc.blk H8.out.2.2.2.1 rfl HONE.out) (by omega) H8.out.2.2.2.2.1 ?_;intro v9 w10 hown9 hg9 hob9;have H9:=zh (zA (steps_app H8.out.2.2.2.2.2.2 rfl H8.out.1 H8.out.2.1 H8.out.2.2.1 hown9 hg9) (H8.out.2.2.2.2.2.1.grown hg9 (fun q hq => .inr (zLt HB.out.2.2.size (H8.out.1.lt q hq).1))));clear hown9 hg9 hob9);have hcw:Chg [] w w10:=(HC2.out.then HQ.out.2.2.2.2 (fun q hq => .inr (HLP.out q hq).1)).trans H9.out.2;have hd10:=HD.out.chg hcw (by simp) (by simp) (by simp);obtain ⟨OPS,hOPS⟩:∃ O,O=[some (0,fun _=>0),some (1,fun _=>0),none]++ops2++[none,some (1,pageS (fmtS N)),none]:=⟨_,rfl⟩
  have hex:exec ⟨N,fun _ _=>0,[]⟩ OPS=⟨N,(Bs.fmt N).D,[]⟩:=by
   have e:ops2=(fmtW N).map some:=by
    rw [H3.out.2.2.2.2.2.2.2,HLL.out.1,HLL.out.2];unfold fmtW pagesW dirsW;simp only [List.map_append,List.map_map];rfl
   rw [hOPS,e,List.append_assoc,exec_format];rfl
  have hlast:OPS.getLast?=some none:=by rw [hOPS,List.getLast?_append];rfl
  have hlen:OPS.length<=20000:=by
   rw [hOPS,List.length_append,H8.out.2.2.2.2.2.2];simp only [List.length_cons,List.length_nil];omega
  rw [<- hOPS] at H9;obtain ⟨vs9,hrow9,hall9⟩:=H9.out.1;have cAll:=baAll_at hd10 hrow9 hall9 (by show 0+OPS.length<=800000;omega);rw [hex] at cAll;refine cAll.mono ?_;rintro e w11 ⟨rfl,wv',hdk,-,hc11,hwv⟩;obtain rfl:=hwv hlast;have HE:=zh (zA hdk (hcw.mono (L':=[d,bb]) (by simp)));have HE2:Hid (Chg [d,bb] w10 w11):=zh hc11;clear cAll hdk hcw hc11 hwv hall9 hrow9 hex hlen hlast hd10;go_wp2_with fail;go_ret;exact ⟨rfl,HE.out.1,HE.out.2.trans HE2.out⟩
end Go.Proofs.YtkhcaclndepgbaaGreat
