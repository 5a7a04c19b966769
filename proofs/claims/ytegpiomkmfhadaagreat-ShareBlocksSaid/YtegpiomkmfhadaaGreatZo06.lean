/- Package super: Decode of what is no sup -/
import Derived.Test.YtegpiomkmfhadaaGreatZo05
set_option linter.all false
set_option maxRecDepth 100000
set_option maxHeartbeats 20000000
namespace Go.Proofs.YtegpiomkmfhadaaGreat
open Go.RowKit Go.Shelf
attribute [local go_sem] Oper.semAt_some
variable {w:World} {b off cap k:Nat} {f:zF} {o:Nat->Option xj} {S:xj}
theorem fR (hb:zB w b off 128 f) (hcap:128<=cap) (F8:cap<=9223372036854775807) (hf:f 0≠6) :
  zC 152 #[.slice (some ⟨b,off,none⟩) 128 cap] w fun e w'=>e = .returned (.tuple #[.agg Xh.row,.int .i64 60])/\zv [] w w':=by
 obtain ⟨W0,D4⟩:=zE (w.alloc (.cells YA 56));have Ef:zv [] w W0:=by rw [D4];exact (zv.refl [] w).alloc _
 have k0:W0.heap[w.heap.size]?=some (.cells Xh.row 56 (0,0)):=by rw [D4,q9];exact xo w _
 have Kx:=hb.chg Ef;have KL:=zh (zA k0 Ef);have HBA:=zh Kx;unfold YA at D4;clear Ef k0 Kx hb;have:=zh hf;by_cases hp:qF f
 ·have co:=YM HBA hcap F8 hp
  have:((f 0:Int) != 6)=true:=by simp;omega
  have CO:=zh co;clear co;go_enter Tryz.func152,Tryz.ntmps152;go_wp2_with fail;rw [<- D4];refine CO.mono ?_;rintro e w1 ⟨g,c,rfl,q1,q2,q3,q4,q5,q6⟩;have Fj:=q6.kp KL.1;have Da:=(zv.refl [] w1).alloc (.cells #[zS g 123 c] 81);have hrA:=Da.kp Fj;have HR:=zh (zA hrA (KL.2.trans (q6.trans Da)));clear q1 q2 q3 q4 q5 q6 Fj Da hrA CO D4;go_upto_region 2 with fail;generalize w1.alloc (.cells #[zS g 123 c] 81)=W at *;go_wp2_with (refine xY (t:=56) (T:=56) (b:=w.heap.size) (o:=0) (n:=18) (N:=18) (V:=Xh.cellV) (U:=Xh.cellV) rfl (.tmp 2) (.tmp 32) rfl rfl (congrArg Value.agg q9.symm) HR.1 zo Yv (fun i _=>Xh.cell_one i) ?_;intro w9 EF FU;have H9:=zh (zA EF FU);clear EF FU);have EF:=H9.1;rw [YF] at EF;refine bodyPost_ret (qG (a:=2) (b:=3) zab rfl (QB (xj.cells EF))) rfl ⟨rfl,?_⟩;exact HR.2.tn H9.2 (xd _)
 ·have co:=aD HBA hcap F8 hp
  have CO:=zh co;clear co;go_enter Tryz.func152,Tryz.ntmps152;go_wp2_with fail;rw [<- D4];refine CO.mono ?_;rintro e w1 ⟨rfl,q6⟩;have Fj:=q6.kp KL.1;have Da:=(zv.refl [] w1).alloc (.cells #[.slice none 0 0] 81);have hrA:=Da.kp Fj;have HR:=zh (zA hrA (KL.2.trans (q6.trans Da)));clear q6 Fj Da hrA CO D4;go_upto_region 2 with fail;generalize w1.alloc (.cells #[.slice none 0 0] 81)=W at *;go_wp2_with (refine xY (t:=56) (T:=56) (b:=w.heap.size) (o:=0) (n:=18) (N:=18) (V:=Xh.cellV) (U:=Xh.cellV) rfl (.tmp 2) (.tmp 32) rfl rfl (congrArg Value.agg q9.symm) HR.1 zo Yv (fun i _=>Xh.cell_one i) ?_;intro w9 EF FU;have H9:=zh (zA EF FU);clear EF FU);have EF:=H9.1;rw [YF] at EF;refine bodyPost_ret (qG (a:=2) (b:=3) zab rfl (QB (xj.cells EF))) rfl ⟨rfl,?_⟩;exact HR.2.tn H9.2 (xd _)
theorem VV (w:World) (n:Nat) (hn:n<18446744073709551616):zC 153 #[.int .u64 (n:Int)] w fun e w'=>e = .returned (.int .i64 ((n % 2:Nat):Int))/\w=w':=by
 have E1:bits .and .u64 (n:Int) 1=((n % 2:Nat):Int):=by
  have:=u64_and_nat n 1 hn zo;rw [Nat.and_one_is_mod] at this;exact this
 have E2:wrap64 ((n % 2:Nat):Int)=((n % 2:Nat):Int):=by
  have:n % 2<2:=Nat.mod_lt _ zo;generalize n % 2=m at *;rw [show wrap64 (m:Int)=(m:Int) from by unfold wrap64;omega]
 go_enter Tryz.func153,Tryz.ntmps153;go_wp2_with fail;go_ret;exact ⟨zaa,rfl⟩
theorem Aa (a1 a2 b1 b2:Nat) (p q:Option Addr) (w:World):(Instr.index 261 (.agg #[.slice p a1 a2,.slice q b1 b2]) (.int .i64 0)).run Tryz.prog w = .ok (.slice p a1 a2) w:=by
 kernel_rfl
theorem Ab (a1 a2 b1 b2:Nat) (p q:Option Addr) (w:World):(Instr.index 261 (.agg #[.slice p a1 a2,.slice q b1 b2]) (.int .i64 1)).run Tryz.prog w = .ok (.slice q b1 b2) w:=by
 kernel_rfl
def OC (f:zF):Option xj->Prop
 | none=>f 0≠6
 | some S=>S.Ok/\∀ i,i<128->f i=Y8 S i
theorem J7 {o:Option xj} (hb:zB w b off 128 f) (hcap:128<=cap) (F8:cap<=9223372036854775807) (ho:OC f o) :
  zC 152 #[.slice (some ⟨b,off,none⟩) 128 cap] w fun e w'=>e = .returned (.tuple #[.agg (o.getD Xh).row,.int .i64 (if o.isSome then 0 else 60)])/\zv [] w w':=by
 cases o with
 | none=>exact fR hb hcap F8 ho
 | some S=>exact im ho.1 hb hcap F8 ho.2
def xR (o:Nat->Option xj):Nat->xj
 | 0=>Xh
 | k+1=>match o k with | some S=>if S.gen % 2=k/\(xR o k).gen<S.gen then S else xR o k | none=>xR o k
theorem XM (h:o k=none):xR o (k+1)=xR o k:=by unfold xR;rw [h];cases k <;> rfl
theorem Q5 (h:o k=some S) (h1:S.gen % 2=k) (h2:(xR o k).gen<S.gen):xR o (k+1)=S:=by
 show (match o k with | some S=>if S.gen % 2=k/\(xR o k).gen<S.gen then S else xR o k | none=>xR o k)=S
 rw [h];exact if_pos ⟨h1,h2⟩
theorem ZZ (h:o k=some S) (h1:¬ (S.gen % 2=k/\(xR o k).gen<S.gen)):xR o (k+1)=xR o k:=by
 show (match o k with | some S=>if S.gen % 2=k/\(xR o k).gen<S.gen then S else xR o k | none=>xR o k)=xR o k
 rw [h];exact if_neg h1
theorem iq {o:Nat->Option xj} (h:∀ k,k<2->∀ S,o k=some S->S.Ok):∀ k,k<=2->(xR o k).gen<18446744073709551616
 | 0,_=>by show 0<_;omega
 | k+1,hk=>by
  have ih:=iq h k zo
  cases ho:o k with
  | none=>rw [XM ho];exact ih
  | some S =>
   by_cases hc:S.gen % 2=k/\(xR o k).gen<S.gen
   ·rw [Q5 ho hc.1 hc.2];exact (h k zo S ho).gen.2
   ·rw [ZZ ho hc];exact ih
theorem oa {b0 b1 c0 c1:Nat} {f:Nat->Nat->Nat} (h0:zB w b0 0 128 (f 0)) (h1:zB w b1 0 128 (f 1)) (Ef:128<=c0) (B5:128<=c1) (KB:c0<=9223372036854775807) (EE:c1<=9223372036854775807)
  (d0:OC (f 0) (o 0)) (d1:OC (f 1) (o 1)) (hg:(xR o 2).gen≠0) :
  Calls Tryz.prog 96 #[.slice (some ⟨b0,0,none⟩) 128 c0,.slice (some ⟨b1,0,none⟩) 128 c1] w fun e w'=>e = .returned (.tuple #[.agg (xR o 2).row,.int .i64 (((xR o 2).gen % 2:Nat):Int),.int .i64 0])/\zv [] w w':=by
 have k0:=kC w (.cells YA 56) (.cells YA 56);have k1:=cZ w (.cells YA 56) (.cells YA 56);have hc:=((zv.refl [] w).alloc (.cells YA 56)).alloc (.cells YA 56);obtain ⟨W0,D4⟩:∃ W0,W0=(w.alloc (.cells YA 56)).alloc (.cells YA 56):=⟨_,rfl⟩;rw [<- D4] at k0 k1 hc;rw [<- q9] at k0 k1;have Dg:W0.heap.size=w.heap.size+2:=by rw [D4];simp
 have HK:=zh (zA k0 (zA k1 (zA hc Dg)));have HB:=zh (zA (h0.chg hc) (h1.chg hc));have Dm:∀ k,k<2->OC (f k) (o k):=fun k hk=>match k,hk with | 0,_=>d0 | 1,_=>d1
 have HD:=zh Dm;have TB:=zh (show b0<w.heap.size/\b1<w.heap.size from ⟨yc w ⟨b0,0+0,none⟩ (h0 0 (by omega)).1,yc w ⟨b1,0+0,none⟩ (h1 0 (by omega)).1⟩);have HG:=zh hg;unfold YA at D4;clear k0 k1 hc Dg h0 h1 d0 d1 Dm hg;go_enter Tryz.func96,Tryz.ntmps96;go_upto_region 2 with fail;rw [<- D4];clear D4;obtain ⟨r,hr⟩:∃ r,r=w.heap.size:=⟨_,rfl⟩;rw [<- hr];have HR:=zh hr;clear hr;go_wp2_with fail;go_loopg [15] 2 (fun gg s wr=>∃ k:Nat,gg=2 - k/\k<=2/\s = .int .i64 (k:Int)/\Hd (zv [r+1] W0 wr/\wr.heap[r+1]?=some (.cells (xR o k).row 56 (0,0))))
 case atStart=>exact ⟨0,rfl,yg _,by go_num,zh ⟨zv.refl _ _,by rw [HR.o];exact HK.o.2.1⟩⟩
 case round =>
  obtain ⟨k,DM,Cy,rfl,hX⟩:=hrel;by_cases hk:k<2
  ·rcases (show k=0∨k=1 by omega) with rfl | rfl
   ·have I6:=HB.o.1.chg hX.o.1 (by simp only [zms];have:=TB.o;have:=HR.o;omega)
    have K8:=Aa 128 c0 128 c1 (some ⟨b0,0,none⟩) (some ⟨b1,0,none⟩) wr;have cd:=J7 I6 Ef KB (HD.o 0 (by omega));have CD:=zh cd;have HX:=zh hX.o;have Dj:r+1<wr.heap.size:=zz hX.o.2;clear cd I6 hX;go_wp2_with fail;refine CD.o.mono ?_;rintro e w1 ⟨rfl,FS⟩;have kX:=xo w1 (.cells YA 56);have FG:=(zv.refl [] w1).alloc (.cells YA 56);rw [<- q9] at kX;have kb:=((FS.trans FG).bl Dj).trans HX.o.2;have Df:=zh (zA kX (zA kb (HX.o.1.trans ((FS.trans FG).mo))));have FE:r+1<w1.heap.size:=qe Dj FS.size;have hwl:wr.heap.size<=w1.heap.size:=FS.size;clear kX FG kb FS CD K8;have Ce:=zh (Df.o);rw [q9] at Ce;unfold YA at Ce;go_upto_region 6 with (refine xY (t:=56) (T:=56) (b:=w1.heap.size) (o:=0) (n:=18) (N:=18) (V:=Xh.cellV) (U:=((o 0).getD Xh).cellV) rfl (.tmp 10) (.tmp 22) rfl rfl rfl ?_ (by omega) Yv (fun i _=>xj.cell_one _ i) ?_;exact Df.o.1;intro W2 Fk BW;have H2:=zh (zA Fk BW);clear Fk BW)
    have M6:=H2.o.1;rw [YF] at M6;have HC:=zh (zA M6 (zA ((H2.o.2.block (r+1) (zz Df.o.2.1) (by simp only [zms];omega)).trans Df.o.2.1) (Df.o.2.2.then H2.o.2 (fun q hq=>by simp only [zms] at hq;subst hq;exact .inr (by have:=HX.o.1.size;omega)))));clear M6 H2 Df Ce;obtain ⟨xb,C5⟩:∃ xb,xb=w1.heap.size:=⟨_,rfl⟩;rw [<- C5] at HC ⊢;clear C5 HX Dj FE hwl
    cases ho:o 0 with
    | none =>
     simp only [ho,Option.isSome_none,Bool.false_eq_true,if_false];go_wp2_with fail;go_roundg (2 - (0+1))
     case measure=>omega
     case rel =>
      refine ⟨0+1,rfl,by omega,by go_num,zh ⟨HC.o.2.2,?_⟩⟩;rw [XM ho];exact HC.o.2.1
    | some S =>
     have D3:=zh (HD.o 0 (by omega));rw [ho] at D3 HC;have RQ:=zh D3.o.1;clear D3;simp only [ho,Option.isSome_some,if_true];have g1:=xj.cell HC.o.1 (i:=0) (by omega);have g2:=xj.cell HC.o.2.1 (i:=0) (by omega)
     change W2.cell? ⟨xb,0,none⟩=some (.int .u64 (S.gen:Int)) at g1
     change W2.cell? ⟨r+1,0,none⟩=some (.int .u64 ((xR o 0).gen:Int)) at g2
     have cs:=VV W2 S.gen RQ.o.gen.2;obtain ⟨m,hm⟩:∃ m,m=S.gen % 2:=⟨_,rfl⟩;rw [<- hm] at cs;have HM:=zh hm;clear hm;by_cases hp:m=0
     ·subst hp
      go_wp2_with fail;refine cs.mono ?_;rintro e w' ⟨rfl,rfl⟩;by_cases BY:(xR o 0).gen<S.gen
      ·have i1:((xR o 0).gen:Int)<(S.gen:Int):=by omega
       have DU:=zh BY;clear BY
       go_wp2_with (first
        | (refine YZ (S:=S) rfl (.tmp 10) rfl (k:=xb) (o:=0) rfl (xj.cells HC.o.1) ?_)
        | (refine xY (t:=56) (T:=56) (b:=r+1) (o:=0) (n:=18) (N:=18) (V:=(xR o 0).cellV) (U:=S.cellV) rfl (.tmp 7) (.tmp 40) rfl rfl rfl HC.o.2.1 (by omega) Yv (fun i _=>S.cell_one i) ?_;intro w9 EF FU;have H9:=zh (zA EF FU);clear EF FU))
       go_roundg (2 - (0+1))
       case measure=>omega
       case rel =>
        have h9:=H9.o.1;rw [YF] at h9;refine ⟨0+1,rfl,by omega,by go_num,zh ⟨HC.o.2.2.trans H9.o.2,?_⟩⟩;rw [Q5 ho HM.o.symm DU.o];exact h9
      ·have i1:¬ ((xR o 0).gen:Int)<(S.gen:Int):=by omega
       have DU:=zh BY;clear BY;go_wp2_with fail;go_roundg (2 - (0+1))
       case measure=>omega
       case rel =>
        refine ⟨0+1,rfl,by omega,by go_num,zh ⟨HC.o.2.2,?_⟩⟩;rw [ZZ ho (fun q=>DU.o q.2)];exact HC.o.2.1
     ·have i0:¬ ((m:Int)=0):=by omega
      have HP:=zh hp;clear hp;go_wp2_with fail;refine cs.mono ?_;rintro e w' ⟨rfl,rfl⟩;go_wp2_with fail;go_roundg (2 - (0+1))
      case measure=>omega
      case rel =>
       refine ⟨0+1,rfl,by omega,by go_num,zh ⟨HC.o.2.2,?_⟩⟩;rw [ZZ ho (fun q=>HP.o (HM.o.trans q.1))];exact HC.o.2.1
   ·have I6:=HB.o.2.chg hX.o.1 (by simp only [zms];have:=TB.o;have:=HR.o;omega)
    have K8:=Ab 128 c0 128 c1 (some ⟨b0,0,none⟩) (some ⟨b1,0,none⟩) wr;have cd:=J7 I6 B5 EE (HD.o 1 (by omega));have CD:=zh cd;have HX:=zh hX.o;have Dj:r+1<wr.heap.size:=zz hX.o.2;clear cd I6 hX;go_wp2_with fail;refine CD.o.mono ?_;rintro e w1 ⟨rfl,FS⟩;have kX:=xo w1 (.cells YA 56);have FG:=(zv.refl [] w1).alloc (.cells YA 56);rw [<- q9] at kX;have kb:=((FS.trans FG).bl Dj).trans HX.o.2;have Df:=zh (zA kX (zA kb (HX.o.1.trans ((FS.trans FG).mo))));have FE:r+1<w1.heap.size:=qe Dj FS.size;have hwl:wr.heap.size<=w1.heap.size:=FS.size;clear kX FG kb FS CD K8;have Ce:=zh (Df.o);rw [q9] at Ce;unfold YA at Ce;go_upto_region 6 with (refine xY (t:=56) (T:=56) (b:=w1.heap.size) (o:=0) (n:=18) (N:=18) (V:=Xh.cellV) (U:=((o 1).getD Xh).cellV) rfl (.tmp 10) (.tmp 22) rfl rfl rfl ?_ (by omega) Yv (fun i _=>xj.cell_one _ i) ?_;exact Df.o.1;intro W2 Fk BW;have H2:=zh (zA Fk BW);clear Fk BW)
    have M6:=H2.o.1;rw [YF] at M6;have HC:=zh (zA M6 (zA ((H2.o.2.block (r+1) (zz Df.o.2.1) (by simp only [zms];omega)).trans Df.o.2.1) (Df.o.2.2.then H2.o.2 (fun q hq=>by simp only [zms] at hq;subst hq;exact .inr (by have:=HX.o.1.size;omega)))));clear M6 H2 Df Ce;obtain ⟨xb,C5⟩:∃ xb,xb=w1.heap.size:=⟨_,rfl⟩;rw [<- C5] at HC ⊢;clear C5 HX Dj FE hwl
    cases ho:o 1 with
    | none =>
     simp only [ho,Option.isSome_none,Bool.false_eq_true,if_false];go_wp2_with fail;go_roundg (2 - (1+1))
     case measure=>omega
     case rel =>
      refine ⟨1+1,rfl,by omega,by go_num,zh ⟨HC.o.2.2,?_⟩⟩;rw [XM ho];exact HC.o.2.1
    | some S =>
     have D3:=zh (HD.o 1 (by omega));rw [ho] at D3 HC;have RQ:=zh D3.o.1;clear D3;simp only [ho,Option.isSome_some,if_true];have g1:=xj.cell HC.o.1 (i:=0) (by omega);have g2:=xj.cell HC.o.2.1 (i:=0) (by omega)
     change W2.cell? ⟨xb,0,none⟩=some (.int .u64 (S.gen:Int)) at g1
     change W2.cell? ⟨r+1,0,none⟩=some (.int .u64 ((xR o 1).gen:Int)) at g2
     have cs:=VV W2 S.gen RQ.o.gen.2;obtain ⟨m,hm⟩:∃ m,m=S.gen % 2:=⟨_,rfl⟩;rw [<- hm] at cs;have HM:=zh hm;clear hm;by_cases hp:m=1
     ·subst hp
      go_wp2_with fail;refine cs.mono ?_;rintro e w' ⟨rfl,rfl⟩;by_cases BY:(xR o 1).gen<S.gen
      ·have i1:((xR o 1).gen:Int)<(S.gen:Int):=by omega
       have DU:=zh BY;clear BY
       go_wp2_with (first
        | (refine YZ (S:=S) rfl (.tmp 10) rfl (k:=xb) (o:=0) rfl (xj.cells HC.o.1) ?_)
        | (refine xY (t:=56) (T:=56) (b:=r+1) (o:=0) (n:=18) (N:=18) (V:=(xR o 1).cellV) (U:=S.cellV) rfl (.tmp 7) (.tmp 40) rfl rfl rfl HC.o.2.1 (by omega) Yv (fun i _=>S.cell_one i) ?_;intro w9 EF FU;have H9:=zh (zA EF FU);clear EF FU))
       go_roundg (2 - (1+1))
       case measure=>omega
       case rel =>
        have h9:=H9.o.1;rw [YF] at h9;refine ⟨1+1,rfl,by omega,by go_num,zh ⟨HC.o.2.2.trans H9.o.2,?_⟩⟩;rw [Q5 ho HM.o.symm DU.o];exact h9
      ·have i1:¬ ((xR o 1).gen:Int)<(S.gen:Int):=by omega
       have DU:=zh BY;clear BY;go_wp2_with fail;go_roundg (2 - (1+1))
       case measure=>omega
       case rel =>
        refine ⟨1+1,rfl,by omega,by go_num,zh ⟨HC.o.2.2,?_⟩⟩;rw [ZZ ho (fun q=>DU.o q.2)];exact HC.o.2.1
     ·have i0:¬ ((m:Int)=1):=by omega
      have HP:=zh hp;clear hp;go_wp2_with fail;refine cs.mono ?_;rintro e w' ⟨rfl,rfl⟩;go_wp2_with fail;go_roundg (2 - (1+1))
      case measure=>omega
      case rel =>
       refine ⟨1+1,rfl,by omega,by go_num,zh ⟨HC.o.2.2,?_⟩⟩;rw [ZZ ho (fun q=>HP.o (HM.o.trans q.1))];exact HC.o.2.1
  ·obtain rfl:k=2:=by omega
   have krA:wr.heap[r]?=some (.cells Xh.row 56 (0,0)):=(hX.o.1.block r (by have:=HK.o;have:=HR.o;omega) (by simp)).trans (by rw [HR.o];exact HK.o.1);obtain ⟨B,hB⟩:∃ B,B=xR o 2:=⟨_,rfl⟩;have Wh:=hX.o.2;rw [<- hB] at Wh;have I0:=zh hB;have HX:=zh (zA Wh (zA krA hX.o.1));have HGB:=zh (show B.gen≠0 from by rw [hB];exact HG.o)
   have LV:=zh (show B.gen<18446744073709551616 from by
    rw [hB];refine iq (fun k hk S hS=>?_) 2 (by omega);have:=HD.o k hk;rw [hS] at this;exact this.1)
   have g2:wr.cell? ⟨r+1,0,none⟩=some (.int .u64 (B.gen:Int)):=(xj.cell Wh (i:=0) (by omega)).trans rfl;have i1:¬ ((B.gen:Int)=0):=by have:=HGB.o;omega
   have Dj:r+1<wr.heap.size:=zz Wh;clear Wh hX hB krA;have I8:wr.drew.heap[r]?=some (.cells (zK 18 Xh.cellV) 56 (0,0)):=HX.o.2.1;have Tu:=zh I8;clear I8;go_upto_region 11 with fail;refine wp_region_held_drew (S:=fun W'=>W'.cell? ⟨r+1,0,none⟩=some (.int .u64 (B.gen:Int))/\∀ j,j<18->W'.cell? ⟨r+1,0+j,none⟩=some (B.cellV j)) (by kernel_rfl) (by exact ⟨g2,xj.cells HX.o.1⟩) (fun BS=>?_);refine wpAnyH_take (i:=0) (oi:=?_) (v := .agg (zK 18 B.cellV)) ?_ (by kernel_rfl) (by kernel_rfl) (by kernel_rfl) ?_ (ZX (n:=18) (V:=B.cellV) Tryz.underlying56 rfl (by kernel_rfl) ?_ (.tmp 7) ?_ ?_ (fun w' hw=>hw.2)) BS ?_
   rotate_left 1
   ·(simp only [tA1,tA2,tA3];rfl)
   ·exact fun _ _ _ h=>h
   ·rfl
   ·rfl
   ·(first | rfl | simp [Act.eval,Act.put])
   try simp only [Act.put,sA1,sA2,sA3]
   refine XH 1 ?_;refine XH 2 ?_;try simp only [Act.put,sA1,sA2,sA3]
   refine wE 3 (fun K hK=>?_)
   (go_simp;refine (VV wr.drew B.gen LV.o).mono ?_;rintro e w' ⟨rfl,rfl⟩)
   refine hK.out _ _ (⟨g2,xj.cells HX.o.1⟩) (fun BS=>?_);clear hK K;try simp only [Act.put,sA1,sA2,sA3]
   have hrn:=JJ (P:=Tryz.prog) (U:=B.cellV) Tu.o (by omega) (fun i _=>B.cell_one i) (o:=0) (n:=18);have Pg:=ZT 18 B.cellV;have GH:=YE (o:=0) (n:=18) (U:=B.cellV) Tu.o;generalize wr.drew.setCells r 0 (zK 18 B.cellV).toList=w9 at hrn GH;have H9:=zh GH;clear GH;refine wE 4 (fun K hK=>?_)
   (go_simp)
   refine hK.out _ _ (⟨H9.o.2.ce g2 Dj,fun j hj=>(H9.o.2.cell (p:=⟨r+1,0+j,none⟩) Dj (by simp)).trans (xj.cells HX.o.1 j hj)⟩) (fun BS=>?_);clear hK K;try simp only [Act.put,sA1,sA2,sA3]
   refine XH 5 ?_;refine XH 6 ?_;try simp only [Act.put,sA1,sA2,sA3]
   refine wpAnyH_done (by kernel_rfl) ?_ _;go_wp2_with fail;have EF:=H9.o.1;rw [YF] at EF;rw [<- I0.o];refine bodyPost_ret (OB (a:=4) (b:=5) (c:=6) (by kernel_rfl) rfl (QB (xj.cells EF))) rfl ⟨rfl,?_⟩;have M8:zv [r+1,r] W0 w9:=(HX.o.2.2.mo).trans (zv.trans (b:=wr.drew) ((zv.refl _ _).drew) (H9.o.2.mo));exact HK.o.2.2.1.then M8 (fun q hq=>by simp only [ya,yk,or_false] at hq;have:=HR.o;rcases hq with e | e <;> exact .inr (by omega))
end Go.Proofs.YtegpiomkmfhadaaGreat
namespace Go.Proofs.YtegpiomkmfhadaaGreat
open Go.RowKit
open Go.Maps (Keyed)
variable {p:Nat->Bool} {b v k n i:Nat} {w':World}
def cnt:Nat->(Nat->Bool)->Nat
 | 0,_=>0
 | n+1,p=>cnt n p+(if p n then 1 else 0)
theorem Yj (p:Nat->Bool):∀ n,cnt n p<=n
 | 0=>xd _
 | n+1=>by have:=Yj p n;unfold cnt;split <;> omega
theorem zZ {p q:Nat->Bool} : ∀ {n:Nat},(∀ i,i<n->p i=q i)->cnt n p=cnt n q
 | 0,_=>rfl
 | n+1,h=>by unfold cnt;rw [zZ (fun i hi=>h i zo),h n zo]
theorem xN {p q:Nat->Bool} {k:Nat} : ∀ {n:Nat},k<n->(∀ i,i<n->i≠k->p i=q i) ->
  cnt n q+(if p k then 1 else 0)=cnt n p+(if q k then 1 else 0)
 | 0,h,_=>zo
 | n+1,h,hpq=>by
  unfold cnt;by_cases hk:k=n
  ·subst hk
   rw [zZ (p:=p) (q:=q) (fun i hi=>hpq i zo zo)];omega
  ·have:=xN (p:=p) (q:=q) (n:=n) (k:=k) zo (fun i hi=>hpq i zo)
   rw [hpq n zo (fun e=>hk e.symm)];omega
theorem dM (n:Nat):cnt n (fun _=>false)=0:=by
 induction n with
 | zero=>rfl
 | succ n ih=>unfold cnt;simp [ih]
theorem J8 (n:Nat):cnt n (fun _=>true)=n:=by
 induction n with
 | zero=>rfl
 | succ n ih=>unfold cnt;simp [ih]
theorem qM : ∀ {n:Nat},(∀ i,i<n->p i=false)->cnt n p=0:=fun {n} h=>by
 rw [zZ (q:=fun _=>false) h,dM]
theorem J9 : ∀ {n:Nat},(∀ i,i<n->p i=true)->cnt n p=n:=fun {n} h=>by
 rw [zZ (q:=fun _=>true) h,J8]
theorem ZU {p q r:Nat->Bool} : ∀ {n:Nat},(∀ i,i<n->(if p i then 1 else 0)=(if q i then 1 else 0)+(if r i then 1 else 0))->cnt n p=cnt n q+cnt n r
 | 0,_=>rfl
 | n+1,h=>by
  have:=ZU (p:=p) (q:=q) (r:=r) (n:=n) (fun i hi=>h i zo);have:=h n zo;unfold cnt;omega
structure zW where
 n:Nat
 now:Nat->Nat
 kept:Nat->Nat
def zW.free (T:zW) (b:Nat):Bool:=T.now b==0&&T.kept b==0
def zW.waitB (T:zW) (b:Nat):Bool:=T.now b==0&&T.kept b != 0
def zW.frees (T:zW):Nat:=cnt T.n T.free
def zW.waits (T:zW):Nat:=cnt T.n T.waitB
def zW.set (T:zW) (b v:Nat):zW := { T with now:=fun i=>if i=b then v else T.now i }
def zW.keep (T:zW):zW := { T with kept:=T.now }
def zW.back (T:zW):zW := { T with now:=T.kept }
def zW.changed (T:zW) (b:Nat):Bool:=T.now b != T.kept b
def zW.new (n:Nat):zW:=⟨n,fun _=>0,fun _=>0⟩
theorem Q6 (T:zW) (v:Nat) (h:b<T.n) :
  (T.set b v).frees+(if T.free b then 1 else 0)=T.frees+(if (T.set b v).free b then 1 else 0) :=
 xN (n:=T.n) h (fun i _ BU=>by simp [zW.free,zW.set,BU])
theorem Ze (T:zW) (v:Nat) (h:b<T.n) :
  (T.set b v).waits+(if T.waitB b then 1 else 0)=T.waits+(if (T.set b v).waitB b then 1 else 0) :=
 xN (n:=T.n) h (fun i _ BU=>by simp [zW.waitB,zW.set,BU])
theorem Ac (h:v<=65535):(Lit.int .u16 (v:Int)).wf=true:=by
 simp [Lit.wf,IntKind.min,IntKind.max,IntKind.signed,IntKind.bits];omega
def YG (P:Program) (kt et:TypeId) (w:World) (b n:Nat) (f:Nat->Option Nat):Prop :=
 ∃ D:DataW Unit,w.ownsMap P kt (plainElem P et) b (Maps.size D) D/\Maps.size D=cnt n (fun k=>(f k).isSome) /\
  (∀ l,Maps.has D l=true->∃ k,k<n/\l = .int .i64 (k:Int)/\(f k).isSome=true) /\
  (∀ k v,k<n->f k=some v->Maps.has D (.int .i64 (k:Int))=true/\∀ z,D.atKey (.int .i64 (k:Int)) z = .lit (.int .u16 (v:Int)))
section
variable {P:Program} {kt et t:TypeId} {w:World} {b n:Nat} {f:Nat->Option Nat}
theorem Xz {R:Value->Option (DataW Unit × List MemPlace)} {m:Nat} {D:DataW Unit} (h:w.ownsMap P kt R b m D):w.ownsMap P kt R b (Maps.size D) D:=by
 obtain ⟨es,Dn,hb,F,hs,rfl⟩:=h;exact ⟨es,Dn,hb,F,by simp [Maps.size,length_sorted],rfl⟩
theorem YG.lt (h:YG P kt et w b n f):b<w.heap.size:=by
 obtain ⟨D,h1,_⟩:=h;exact h1.lt
theorem YG.obj (h:YG P kt et w b n f):∃ es c,w.heap[b]?=some (.map es c):=by
 obtain ⟨D,⟨es,c,hb,_⟩,_⟩:=h;exact ⟨es,c,hb⟩
theorem YG.same (h:YG P kt et w b n f) (e:w'.heap[b]?=w.heap[b]?):YG P kt et w' b n f:=by
 obtain ⟨D,⟨es,c,hb,hr⟩,hh⟩:=h;exact ⟨D,⟨es,c,e.trans hb,hr⟩,hh⟩
theorem YG.congr {g:Nat->Option Nat} (h:YG P kt et w b n f) (e:∀ i,i<n->f i=g i):YG P kt et w b n g:=by
 obtain ⟨D,h1,h2,h3,h4⟩:=h;refine ⟨D,h1,h2.trans (zZ fun i hi=>by rw [e i hi]),fun l hl=>?_,fun k v hk hv=>h4 k v hk (by rw [e k hk];exact hv)⟩;obtain ⟨k,hk,hl',hs⟩:=h3 l hl;exact ⟨k,hk,hl',by rw [<- e k hk];exact hs⟩
theorem YG.has (_h:YG P kt et w b n f) {D:DataW Unit} (h3:∀ l,Maps.has D l=true->∃ k,k<n/\l = .int .i64 (k:Int)/\(f k).isSome=true)
  (h4:∀ k v,k<n->f k=some v->Maps.has D (.int .i64 (k:Int))=true/\∀ z,D.atKey (.int .i64 (k:Int)) z = .lit (.int .u16 (v:Int))) {k:Nat} (hk:k<n) :
  Maps.has D (.int .i64 (k:Int))=(f k).isSome:=by
 cases hf:f k with
 | some v=>exact (h4 k v hk hf).1
 | none =>
  cases hh:Maps.has D (.int .i64 (k:Int)) with
  | false=>rfl
  | true =>
   obtain ⟨k',De,e,hs⟩:=h3 _ hh;injection e with _ e;have:k=k':=zo
   subst this;rw [hf] at hs;cases hs
theorem YG.look (h:YG P kt et w b n f) (Dr:P.underlying kt=some (.int .i64)) (Mk:P.underlying et=some (.int .u16)) (ht:P.underlying t=some (.map kt et))
  (hz:(zeroValue et).run P w = .ok (.int .u16 0) w) (hk:k<n) (hn:n<=4096) :
  (Instr.lookup t (.map (some b)) (.int .i64 (k:Int)) true).run P w = .ok (.tuple #[.int .u16 (((f k).getD 0:Nat):Int),.bool (f k).isSome]) w /\
  (Instr.lookup t (.map (some b)) (.int .i64 (k:Int)) false).run P w = .ok (.int .u16 (((f k).getD 0:Nat):Int)) w:=by
 have hh:=h;obtain ⟨D,h1,h2,h3,h4⟩:=h;have Ch:keyOf P kt (.int .i64 (k:Int))=some (.int .i64 (k:Int)):=Maps.keyOf_int_mk Dr (WalkArith.wf_i64 zo);have K:=Maps.int_keyed Dr;obtain ⟨v,ps,B8,hv⟩:=h1.look_ok K ht hz (plainElem_int Mk zaf) Ch;obtain ⟨c,Es,DT,_⟩:=h1.lookup_int K ht Mk hz Ch;obtain ⟨a,rfl,ha,hw⟩:=plainElem_int_inv Mk hv;simp only [Prod.mk.injEq] at ha
 have hc:c=a:=by
  have:=DT.symm.trans ha.1;injection this with this;injection this
 subst hc;rw [hh.has h3 h4 hk] at B8
 have e:c=(((f k).getD 0:Nat):Int):=by
  cases hf:f k with
  | some v =>
   have:=((h4 k v hk hf).2 _).symm.trans DT;injection this with this;injection this with _ this;simpa using this.symm
  | none =>
   have hn:Maps.has D (.int .i64 (k:Int))=false:=by rw [hh.has h3 h4 hk,hf];rfl
   have:=(Maps.atKey_of_not_has hn (.lit (.int .u16 0))).symm.trans DT;injection this with this;injection this with _ this;simpa using this.symm
 subst e;exact ⟨B8,Es⟩
theorem YG.del (h:YG P kt et w b n f) (Dr:P.underlying kt=some (.int .i64)) (ht:P.underlying t=some (.map kt et)) {k:Nat} (hk:k<n) (hn:n<=4096) (ty:TypeId) :
  ∃ w',(Builtin.delete_ #[t,kt] ty #[.map (some b),.int .i64 (k:Int)]).run P w = .ok (.tuple #[]) w'/\YG P kt et w' b n (fun i=>if i=k then none else f i)/\w.mapTurned w' b:=by
 have hh:=h;obtain ⟨D,h1,h2,h3,h4⟩:=h;have Ch:keyOf P kt (.int .i64 (k:Int))=some (.int .i64 (k:Int)):=Maps.keyOf_int_mk Dr (WalkArith.wf_i64 zo);have K:=Maps.int_keyed Dr;obtain ⟨w',B8,BT,CQ⟩:=h1.drop K ht Ch ty;refine ⟨w',B8,⟨D.del (.int .i64 (k:Int)),Xz BT,?_,?_,?_⟩,CQ⟩
 ·have e1:=Maps.size_del (k := .int .i64 (k:Int)) (h1.tidy K)
  have e2:=xN (p:=fun i=>(f i).isSome) (q:=fun i=>(if i=k then none else f i).isSome) hk (fun i _ BU=>by simp [BU]);simp only [if_true,Option.isSome_none,Bool.false_eq_true,if_false,hh.has h3 h4 hk] at e1 e2
  show _=cnt n (fun i=>(if i=k then none else f i).isSome)
  omega
 ·intro l hl
  by_cases e:l = .int .i64 (k:Int)
  ·subst e;rw [Maps.has_del_same] at hl;cases hl
  ·rw [Maps.has_del_other e] at hl
   obtain ⟨k',De,rfl,hs⟩:=h3 l hl;have BU:k'≠k:=fun q=>e (by rw [q]);exact ⟨k',De,rfl,zay⟩
 ·intro i v hi hv
  by_cases e:i=k
  ·simp [e] at hv
  ·simp only [e,if_false] at hv
   have BU:Lit.int .i64 (i:Int) ≠ .int .i64 (k:Int):=fun q=>by injection q with _ q;omega
   obtain ⟨g1,g2⟩:=h4 i v hi hv;exact ⟨by rw [Maps.has_del_other BU];exact g1,fun z=>by rw [Maps.atKey_del_other BU];exact g2 z⟩
theorem YG.put (h:YG P kt et w b n f) (Dr:P.underlying kt=some (.int .i64)) (Mk:P.underlying et=some (.int .u16)) (ht:P.underlying t=some (.map kt et)) (hk:k<n) (hn:n<=4096) (hv:v<=65535) :
  ∃ w',(Instr.mapUpdate t (.map (some b)) (.int .i64 (k:Int)) (.int .u16 (v:Int))).run P w = .ok () w'/\YG P kt et w' b n (fun i=>if i=k then some v else f i)/\w.mapTurned w' b:=by
 have hh:=h;obtain ⟨D,h1,h2,h3,h4⟩:=h;have Ch:keyOf P kt (.int .i64 (k:Int))=some (.int .i64 (k:Int)):=Maps.keyOf_int_mk Dr (WalkArith.wf_i64 zo);have K:=Maps.int_keyed Dr;have Dl:=Yj (fun k=>(f k).isSome) n;have FV:WideAt.IsKeyLit (.int .i64 (k:Int)):=K.key Ch;obtain ⟨w',B8,BT,CQ⟩:=h1.store K ht zam Ch (plainElem_int Mk (Ac hv));refine ⟨w',B8,⟨_,Xz BT,?_,?_,?_⟩,CQ⟩
 ·have e1:=Maps.size_put (k := .int .i64 (k:Int)) (h1.tidy K) (.lit (.int .u16 (v:Int)))
  have e2:=xN (p:=fun i=>(f i).isSome) (q:=fun i=>(if i=k then some v else f i).isSome) hk (fun i _ BU=>by simp [BU]);rw [hh.has h3 h4 hk] at e1;simp only [if_true,Option.isSome_some] at e2;rw [e1]
  split at e2 <;> split <;> simp_all <;> omega
 ·intro l hl
  by_cases e:l = .int .i64 (k:Int)
  ·exact ⟨k,hk,e,zaa⟩
  ·rw [Maps.has_put_other e] at hl
   obtain ⟨k',De,rfl,hs⟩:=h3 l hl;have BU:k'≠k:=fun q=>e (by rw [q]);exact ⟨k',De,rfl,zay⟩
 ·intro i v' hi EH
  by_cases e:i=k
  ·subst e
   simp only [if_true,Option.some.injEq] at EH;subst EH;exact ⟨Maps.has_put_same h1.isMap FV _,fun z=>Maps.atKey_put_same h1.isMap FV _ z⟩
  ·simp only [e,if_false] at EH
   have BU:Lit.int .i64 (i:Int) ≠ .int .i64 (k:Int):=fun q=>by injection q with _ q;omega
   obtain ⟨g1,g2⟩:=h4 i v' hi EH;exact ⟨by rw [Maps.has_put_other BU];exact g1,fun z=>by rw [Maps.atKey_put_other BU];exact g2 z⟩
theorem YG.ofEmpty (h:w.ownsMap P kt (plainElem P et) b 0 (.map []:DataW Unit)) (n:Nat):YG P kt et w b n (fun _=>none):=by
 refine ⟨.map [],h,(qM fun _ _=>rfl).symm,?_,?_⟩
 ·intro l hl;cases hl
 ·intro k v _ hv;cases hv
theorem YG.made (w:World) (n:Nat):YG P kt et (w.alloc (.map #[] 0)) w.heap.size n (fun _=>none) :=
 YG.ofEmpty (World.ownsMap_made _ _ _ _) n
end
def zW.keptAt (T:zW) (b:Nat):Option Nat:=if T.now b=T.kept b then none else some (T.kept b)
def Jh (n:Nat) (f:zF):Array Value:=Array.ofFn (n:=n) fun i => .int .u16 ((f i:Nat):Int)
theorem aL {f:zF} (h:i<n):(Jh n f)[i]?=some (.int .u16 ((f i:Nat):Int)):=by
 simp [Jh,h]
theorem aM {f:zF} (h:i<n):(Jh n f).setIfInBounds i (.int .u16 (v:Int))=Jh n (fun j=>if j=i then v else f j):=by
 apply yM;intro j;by_cases hj:j<n
 ·rw [aL hj,yP]
  by_cases e:j=i
  ·subst e;simp [Jh,h]
  ·rw [if_neg (fun q=>e q.symm),aL hj];simp [e]
 ·simp [Jh,hj]
structure zJ (w:World) (t bc bk:Nat) (T:zW):Prop where
 n1:1<=T.n
 n2:T.n<=4096
 now:∀ i,i<T.n->T.now i<=65535
 kept:∀ i,i<T.n->T.kept i<=65535
 top:w.heap[t]?=some (.cells #[zS bc T.n T.n,.map (some bk),.int .i64 (T.frees:Int),.int .i64 (T.waits:Int)] 217 (0,0))
 cs:w.heap[bc]?=some (.cells (Jh T.n T.now) 98 (0,0))
 map:YG Tryz.prog 3 98 w bk T.n T.keptAt
 ne:t≠bc
namespace zJ
variable {w:World} {t bc bk:Nat} {T:zW}
theorem ne1 (h:zJ w t bc bk T):t≠bk:=fun e=>by
 obtain ⟨es,c,hb⟩:=h.map.obj;rw [<- e,h.top] at hb;cases hb
theorem ne2 (h:zJ w t bc bk T):bc≠bk:=fun e=>by
 obtain ⟨es,c,hb⟩:=h.map.obj;rw [<- e,h.cs] at hb;cases hb
theorem c0 (h:zJ w t bc bk T):w.cell? ⟨t,0,none⟩=some (zS bc T.n T.n):=zM h.top 0
theorem c1 (h:zJ w t bc bk T):w.cell? ⟨t,1,none⟩=some (.map (some bk)):=zM h.top 1
theorem c2 (h:zJ w t bc bk T):w.cell? ⟨t,2,none⟩=some (.int .i64 (T.frees:Int)):=zM h.top 2
theorem fz (h:zJ w t bc bk T) (i:Nat):w.frozen? ⟨t,i,none⟩=false:=xB h.top i
theorem cc (h:zJ w t bc bk T) (hi:i<T.n):w.cell? ⟨bc,i,none⟩=some (.int .u16 ((T.now i:Nat):Int)):=by
 rw [zM h.cs,aL hi]
theorem cfz (h:zJ w t bc bk T) (i:Nat):w.frozen? ⟨bc,i,none⟩=false:=xB h.cs i
theorem lt0 (h:zJ w t bc bk T):t<w.heap.size:=zz h.top
theorem lt1 (h:zJ w t bc bk T):bc<w.heap.size:=zz h.cs
theorem lt2 (h:zJ w t bc bk T):bk<w.heap.size:=h.map.lt
theorem chg {L:List Nat} (h:zJ w t bc bk T) (c:zv L w w') (h0:t∉L:=by simp) (h1:bc∉L:=by simp) (h2:bk∉L:=by simp):zJ w' t bc bk T :=
 ⟨h.n1,h.n2,h.now,h.kept,(c.block _ h.lt0 h0).trans h.top,(c.block _ h.lt1 h1).trans h.cs,h.map.same (c.block _ h.lt2 h2),h.ne⟩
theorem frees_le (h:zJ w t bc bk T):T.frees<=4096:=qh (Yj _ _) h.n2
theorem waits_le (h:zJ w t bc bk T):T.waits<=4096:=qh (Yj _ _) h.n2
end zJ
end Go.Proofs.YtegpiomkmfhadaaGreat
namespace Go.Proofs.YtegpiomkmfhadaaGreat
open Go.RowKit
variable {w:World} {t bc bk bw bx k:Nat} {f:Int}
theorem uE (w:World):(zeroValue 98).run Tryz.prog w = .ok (.int .u16 0) w:=zab
theorem xI {T:zW} (h:zJ w t bc bk T) :
  zC 69 #[zP t] w fun e w'=>e = .returned (.int .i64 T.n)/\w=w':=by
 have c0:=h.c0;go_enter Tryz.func69,Tryz.ntmps69
 go_wp2
 go_ret;exact ⟨rfl,rfl⟩
theorem rI {T:zW} (h:zJ w t bc bk T) :
  zC 104 #[zP t] w fun e w'=>e = .returned (.int .i64 T.frees)/\w=w':=by
 have:=h.c2;go_enter Tryz.func104,Tryz.ntmps104
 go_wp2
 go_ret;exact ⟨rfl,rfl⟩
def XA (T:zW) (b:Int):Bool:=decide (0<=b)&&decide (b<(T.n:Int))
theorem Z0 {T:zW} (h:zJ w t bc bk T) (b:Int) :
  zC 119 #[zP t,.int .i64 b] w fun e w'=>e = .returned (.bool (XA T b))/\w=w':=by
 by_cases h0:0<=b
 ·go_enter Tryz.func119,Tryz.ntmps119
  go_wp2_with (go_at_call 69;refine zm (xI h) ?_);go_ret;exact ⟨by simp [XA,h0],rfl⟩
 ·go_enter Tryz.func119,Tryz.ntmps119
  go_wp2_with fail;go_ret;exact ⟨by simp [XA];omega,rfl⟩
theorem kN {T:zW} (h:zJ w t bc bk T) (b:Nat) (hb:b<T.n) :
  zC 156 #[zP t,.int .i64 (b:Int)] w fun e w'=>e = .returned (.int .u16 (T.kept b:Nat))/\w=w':=by
 have c0:=h.c0;have c1:=h.c1;have cc:=h.cc hb;have n2:=h.n2;have hl:=(h.map.look (t:=215) Tryz.underlying3 Tryz.underlying98 Tryz.underlying215 (uE w) hb n2).1;by_cases hk:T.now b=T.kept b
 ·have e1:T.keptAt b=none:=by simp [zW.keptAt,hk]
  rw [e1] at hl;simp only [Option.getD_none,Option.isSome_none] at hl;go_enter Tryz.func156,Tryz.ntmps156;go_wp2_with fail;go_ret;exact ⟨rfl,rfl⟩
 ·have e1:T.keptAt b=some (T.kept b):=by simp [zW.keptAt,hk]
  rw [e1] at hl;simp only [Option.getD_some,Option.isSome_some] at hl;go_enter Tryz.func156,Tryz.ntmps156;go_wp2_with fail;go_ret;exact ⟨rfl,rfl⟩
theorem uF (count:Nat) (one:Int) (h0:0<count) :
  zC 168 #[.int .u16 (count:Int),.int .i64 one,zP bw,zP bx] w fun e w'=>e = .returned (.tuple #[])/\w=w':=by
 go_enter Tryz.func168,Tryz.ntmps168;go_wp2_with fail
 go_end0
 exact ⟨rfl,rfl⟩
theorem uG (one:Int) (hw:w.cell? ⟨bw,0,none⟩=some (.int .u16 (k:Int))) (hk:0<k) (hx:w.cell? ⟨bx,0,none⟩=some (zP t))
  (c3:w.cell? ⟨t,3,none⟩=some (.int .i64 f)) (fz:w.frozen? ⟨t,3,none⟩=false) (h1 : -1<=one) (h2:one<=1) (h3 : -5000<=f) (h4:f<=5000) :
  zC 168 #[.int .u16 0,.int .i64 one,zP bw,zP bx] w fun e w'=>e = .returned (.tuple #[])/\w.setCell ⟨t,3,none⟩ (.int .i64 (f+one))=w':=by
 go_enter Tryz.func168,Tryz.ntmps168;go_wp2_with fail
 go_end0
 exact ⟨rfl,rfl⟩
theorem uH (one:Int) (hw:w.cell? ⟨bw,0,none⟩=some (.int .u16 0)) (hx:w.cell? ⟨bx,0,none⟩=some (zP t))
  (c3:w.cell? ⟨t,2,none⟩=some (.int .i64 f)) (fz:w.frozen? ⟨t,2,none⟩=false) (h1 : -1<=one) (h2:one<=1) (h3 : -5000<=f) (h4:f<=5000) :
  zC 168 #[.int .u16 0,.int .i64 one,zP bw,zP bx] w fun e w'=>e = .returned (.tuple #[])/\w.setCell ⟨t,2,none⟩ (.int .i64 (f+one))=w':=by
 go_enter Tryz.func168,Tryz.ntmps168;go_wp2_with fail
 go_end0
 exact ⟨rfl,rfl⟩
theorem rJ {count:Nat} {g one:Int} {s m:Value} (hw:w.cell? ⟨bw,0,none⟩=some (.int .u16 (k:Int))) (hx:w.cell? ⟨bx,0,none⟩=some (zP t))
  (ht:w.heap[t]?=some (.cells #[s,m,.int .i64 f,.int .i64 g] 217 (0,0))) (h1 : -1<=one) (h2:one<=1) (h3 : -5000<=f) (h4:f<=5000) (h5 : -5000<=g) (h6:g<=5000) :
  zC 168 #[.int .u16 (count:Int),.int .i64 one,zP bw,zP bx] w fun e w'=>e = .returned (.tuple #[]) /\
   w'.heap[t]?=some (.cells #[s,m,.int .i64 (f+if count=0/\k=0 then one else 0),.int .i64 (g+if count=0/\k≠0 then one else 0)] 217 (0,0))/\zv [t] w w':=by
 by_cases hc:count=0
 ·subst hc
  by_cases hk:k=0
  ·subst hk
   have c2:=zM ht 2;have fz:=xB ht 2;refine zm (uH (f:=f) one hw hx c2 fz h1 h2 h3 h4) ?_;refine ⟨rfl,?_,(zv.refl _ _).setCell (.inl zaa) _⟩;rw [Yh ht];simp
  ·have c3:=zM ht 3
   have fz:=xB ht 3;refine zm (uG (f:=g) one hw zo hx c3 fz h1 h2 h5 h6) ?_;refine ⟨rfl,?_,(zv.refl _ _).setCell (.inl zaa) _⟩;rw [Yh ht];simp [hk]
 ·refine zm (uF count one zo) ?_;refine ⟨rfl,?_,zv.refl _ _⟩;rw [ht];simp [hc]
theorem dN {w1 w4:World} {T:zW} (h:zJ w t bc bk T) {b v:Nat} (hb:b<T.n) (hv:v<=65535) {L:List Nat}
  (B5:zv L w w1) (hL:∀ i,i∈L->i=t)
  (Cg:w1.heap[t]?=some (.cells #[zS bc T.n T.n,.map (some bk),.int .i64 ((T.frees:Int)+(if T.now b=0/\T.kept b=0 then -1 else 0)+(if v=0/\T.kept b=0 then 1 else 0)),.int .i64 ((T.waits:Int)+(if T.now b=0/\T.kept b≠0 then -1 else 0)+(if v=0/\T.kept b≠0 then 1 else 0))] 217 (0,0)))
  (hm:YG Tryz.prog 3 98 w4 bk T.n (T.set b v).keptAt) (hg:(w1.setCell ⟨bc,b,none⟩ (.int .u16 (v:Int))).grownBy w4 (some bk)) :
  zJ w4 t bc bk (T.set b v)/\zv [t,bc,bk] w w4:=by
 have lt0:=h.lt0;have lt1:=h.lt1;have lt2:=h.lt2;have n1:=h.ne;have n2:=h.ne1;have n3:=h.ne2;have DG:w1.heap[bc]?=some (.cells (Jh T.n T.now) 98 (0,0)):=(B5.block _ lt1 (fun hi=>n1 (hL _ hi).symm)).trans h.cs
 have e1:(T.frees:Int)+(if T.now b=0/\T.kept b=0 then -1 else 0)+(if v=0/\T.kept b=0 then 1 else 0)=((T.set b v).frees:Int):=by
  have:=Q6 T v hb;by_cases q1:T.now b=0 <;> by_cases q2:v=0 <;> by_cases q3:T.kept b=0 <;> simp [zW.free,zW.set,q1,q2,q3] at this ⊢ <;> omega
 have e2:(T.waits:Int)+(if T.now b=0/\T.kept b≠0 then -1 else 0)+(if v=0/\T.kept b≠0 then 1 else 0)=((T.set b v).waits:Int):=by
  have:=Ze T v hb;by_cases q1:T.now b=0 <;> by_cases q2:v=0 <;> by_cases q3:T.kept b=0 <;> simp [zW.waitB,zW.set,q1,q2,q3] at this ⊢ <;> omega
 rw [e1,e2] at Cg;have s0:t<w1.heap.size:=zz Cg;have s1:bc<w1.heap.size:=zz DG
 have b0:w4.heap[t]?=w1.heap[t]?:=by
  rw [hg.block t (by simpa [World.setCell] using s0) (by simp [n2]),ZS _ _ n1]
 have b1:w4.heap[bc]?=some (.cells ((Jh T.n T.now).setIfInBounds b (.int .u16 (v:Int))) 98 (0,0)):=by
  rw [hg.block bc (by simpa [World.setCell] using s1) (by simp [n3]),Yh DG]
 refine ⟨⟨h.n1,h.n2,?_,h.kept,b0.trans Cg,?_,hm,n1⟩,?_⟩
 ·intro i hi
  simp only [zW.set]
  split
  ·exact hv
  ·exact h.now i hi
 ·rw [b1,aM hb];rfl
 ·refine zv.then (L':=[bc,bk]) (B5.mono (fun i hi=>by rw [hL i hi];simp)) ?_ zaa
  exact zv.trans ((zv.refl _ _).setCell (.inl zaa) _) (zv.grown (zv.refl _ _) hg zaa)
theorem rK {T:zW} (h:zJ w t bc bk T) (b v:Nat) (hb:b<T.n) (hv:v<=65535) :
  zC 120 #[zP t,.int .i64 (b:Int),.int .u16 (v:Int)] w fun e w'=>e = .returned (.tuple #[])/\zJ w' t bc bk (T.set b v)/\zv [t,bc,bk] w w':=by
 have n2:=h.n2;have:=h.frees_le;have:=h.waits_le;have lt0:=h.lt0;have lt1:=h.lt1;have lt2:=h.lt2;have:=h.ne;have ne1:=h.ne1;have ne2:=h.ne2;have hkb:=h.kept b hb;have:=h.now b hb;have c0:=h.c0;have cc:=h.cc hb;have hA:zJ (w.alloc (.cells #[zP t] 47)) t bc bk T:=h.chg ((zv.refl [] w).alloc _);have M8:zv [] w ((w.alloc (.cells #[zP t] 47)).alloc (.cells #[.int .u16 (T.kept b:Int)] 98)):=((zv.refl [] w).alloc _).alloc _;have hB:=h.chg M8;have HB:=zh hB.top;have KB:=hB.map;clear hB;have x0:=kC w (.cells #[zP t] 47) (.cells #[.int .u16 (T.kept b:Int)] 98);have x1:=cZ w (.cells #[zP t] 47) (.cells #[.int .u16 (T.kept b:Int)] 98);have X0:=zh x0;have X1:=zh x1;clear x0 x1;by_cases hvk:v=T.kept b
 all_goals
  have Hvk:=zh hvk
  first
   | (have hd:((v:Int)==(T.kept b:Int))=true:=by simp [hvk])
   | (have hd:((v:Int)==(T.kept b:Int))=false:=by simp;omega)
  clear hvk;go_enter Tryz.func120,Tryz.ntmps120;go_wp2_with fail;refine zm (kN hA b hb) ?_;clear hA;go_wp2_with fail;refine (rJ (k:=T.kept b) (f:=T.frees) (g:=T.waits) (s := zS bc T.n T.n) (m := .map (some bk)) (zM X1 0) (zM X0 0) HB zo zo zo zo zo zo).mono ?_;rintro e w1 ⟨rfl,Ct,B5⟩;have X01:=zh ((B5.block _ zae zae).trans X0);have X11:=zh ((B5.block _ zaa zae).trans X1);have NB:=zh Ct;clear Ct;go_wp2_with fail;refine (rJ (k:=T.kept b) (s := zS bc T.n T.n) (m := .map (some bk)) (zM X11 0) (zM X01 0) NB zo zo zaA zaA zaA zaA).mono ?_;rintro e w2 ⟨rfl,Cg,BW⟩;have X02:=(BW.block _ (qe zae B5.size) zae).trans X01.o;have X12:=(BW.block _ (qe zaa B5.size) zae).trans X11.o;have hc:=((M8.mono (L':=[t]) zaa).trans B5).trans BW;clear B5 BW;have y0:=zM X02 0;have y1:=zM X12 0;have y2:=zM Cg 0;have y3:=zM Cg 1;have:=(hc.cell (p:=⟨bc,b,none⟩) lt1 zae).trans cc;have:=(hc.frozen (p:=⟨bc,b,none⟩) lt1 zae).trans (h.cfz b);simp only [tA1,tA3,tA2] at y0 y1 y2 y3;have:=zz X02;have:=zz X12;have Ht2:=zh Cg;have Hc:=zh hc;clear X02 X12 Cg hc M8 HB X0 X1 X01 X11 NB cc c0
  have Kh:YG Tryz.prog 3 98 (w2.setCell ⟨bc,b,none⟩ (.int .u16 (v:Int))) bk T.n T.keptAt :=
   h.map.same ((ZS _ _ ne2.symm).trans (Hc.block _ lt2 zae))
  clear KB
 ·obtain ⟨w4,B8,hK,CQ⟩:=Kh.del (t:=215) Tryz.underlying3 Tryz.underlying215 hb n2 0
  go_wp2_with fail
  go_end0
  refine ⟨rfl,dN h hb hv Hc zaa Ht2 (hK.congr fun i _=>?_) CQ.grown⟩;simp only [zW.keptAt,zW.set]
  split
  ·rename_i e;subst e;rw [if_pos Hvk.o]
  ·rfl
 ·obtain ⟨w4,B8,hK,CQ⟩:=YG.put (w:=(w2.setCell ⟨bc,b,none⟩ (.int .u16 (v:Int))).drew) (t:=215) Kh Tryz.underlying3 Tryz.underlying98 Tryz.underlying215 hb n2 hkb
  go_wp2_with fail
  go_region
  go_wp2_with fail
  go_end0
  have hg:=CQ.grown;refine ⟨rfl,dN h hb hv Hc zaa Ht2 (hK.congr fun i _=>?_) ⟨hg.os,hg.tape,hg.output,hg.size,hg.block⟩⟩;simp only [zW.keptAt,zW.set]
  split
  ·rename_i e;subst e;rw [if_neg Hvk.o]
  ·rfl
end Go.Proofs.YtegpiomkmfhadaaGreat
