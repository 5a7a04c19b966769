/- Package super: Decode of what is no super's page; Slot; Pick. · The tally as a plain structure (counts, kept counts), the map of kept counts as the model holds it, and how a tally lies in memory. -/
import Derived.Test.YtkhcaclndepgbaaGreatZn07
set_option linter.unusedVariables false
set_option linter.unusedSimpArgs false
set_option maxRecDepth 100000
set_option maxHeartbeats 20000000
namespace Go.Proofs.YtkhcaclndepgbaaGreat
open Go.RowKit Go.Shelf
attribute [local go_sem] Oper.semAt_some
theorem suDecode_bad {w:World} {b off cap:Nat} {f:Nat->Nat} (hb:BytesAt w b off 128 f) (hcap:128<=cap) (hcm:cap<=9223372036854775807) (hf:f 0≠6) :
  Calls Tryz.prog 150 #[.slice (some ⟨b,off,none⟩) 128 cap] w fun e w'=>e = .returned (.tuple #[.agg supZ.row,.int .i64 60])/\Chg [] w w':=by
 obtain ⟨W0,hW0⟩:∃ W0,W0=w.alloc (.cells zSup 49):=⟨_,rfl⟩;have hc0:Chg [] w W0:=by rw [hW0];exact (Chg.refl [] w).alloc _
 have k0:W0.heap[w.heap.size]?=some (.cells supZ.row 49 (0,0)):=by rw [hW0,supZ_row];exact znb w _
 have hbA:=hb.chg hc0 (by simp);have HK0:=zh (zA k0 hc0);have HBA:=zh hbA;unfold zSup at hW0;clear hc0 k0 hbA hb;have HF:=zh hf;by_cases hp:pageOK f
 ·have co:=open_right HBA.out hcap hcm hp
  have ik:((f 0:Int) != 6)=true:=by simp;omega
  have CO:=zh co;clear co;go_enter Tryz.func150,Tryz.ntmps150;go_wp2_with fail;rw [<- hW0];refine CO.out.mono ?_;rintro e w1 ⟨g,c,rfl,q1,q2,q3,q4,q5,q6⟩;have hr1:=(q6.block _ (zhl HK0.out.1) (by simp)).trans HK0.out.1;have hcA:=(Chg.refl [] w1).alloc (.cells #[.slice (some ⟨g,0,none⟩) 123 c] 22);have hrA:=(hcA.block _ (zhl hr1) (by simp)).trans hr1;have HR:=zh (zA hrA (HK0.out.2.trans (q6.trans hcA)));clear q1 q2 q3 q4 q5 q6 hr1 hcA hrA CO hW0;go_upto_region 2 with fail;generalize w1.alloc (.cells #[.slice (some ⟨g,0,none⟩) 123 c] 22)=W at *;go_wp2_with (refine wpList_storeRow (t:=49) (T:=49) (b:=w.heap.size) (o:=0) (n:=18) (N:=18) (V:=supZ.cellV) (U:=supZ.cellV) rfl (.tmp 2) (.tmp 32) rfl rfl (congrArg Value.agg supZ_row.symm) HR.out.1 (by omega) infoSup (fun i _=>supZ.cell_one i) ?_;intro w9 hr9 hc9;have H9:=zh (zA hr9 hc9);clear hr9 hc9);have hr9:=H9.out.1;rw [laid_sup] at hr9;refine bodyPost_ret (results_ct (a:=2) (b:=3) (by kernel_rfl) rfl (load_sup (Sup.cells hr9))) rfl ⟨rfl,?_⟩;exact HR.out.2.then H9.out.2 (fun q hq=>by simp only [zms] at hq;subst hq;exact .inr (zLr _))
 ·have co:=open_wrong HBA.out hcap hcm hp
  have CO:=zh co;clear co;go_enter Tryz.func150,Tryz.ntmps150;go_wp2_with fail;rw [<- hW0];refine CO.out.mono ?_;rintro e w1 ⟨rfl,q6⟩;have hr1:=(q6.block _ (zhl HK0.out.1) (by simp)).trans HK0.out.1;have hcA:=(Chg.refl [] w1).alloc (.cells #[.slice none 0 0] 22);have hrA:=(hcA.block _ (zhl hr1) (by simp)).trans hr1;have HR:=zh (zA hrA (HK0.out.2.trans (q6.trans hcA)));clear q6 hr1 hcA hrA CO hW0;go_upto_region 2 with fail;generalize w1.alloc (.cells #[.slice none 0 0] 22)=W at *;go_wp2_with (refine wpList_storeRow (t:=49) (T:=49) (b:=w.heap.size) (o:=0) (n:=18) (N:=18) (V:=supZ.cellV) (U:=supZ.cellV) rfl (.tmp 2) (.tmp 32) rfl rfl (congrArg Value.agg supZ_row.symm) HR.out.1 (by omega) infoSup (fun i _=>supZ.cell_one i) ?_;intro w9 hr9 hc9;have H9:=zh (zA hr9 hc9);clear hr9 hc9);have hr9:=H9.out.1;rw [laid_sup] at hr9;refine bodyPost_ret (results_ct (a:=2) (b:=3) (by kernel_rfl) rfl (load_sup (Sup.cells hr9))) rfl ⟨rfl,?_⟩;exact HR.out.2.then H9.out.2 (fun q hq=>by simp only [zms] at hq;subst hq;exact .inr (zLr _))
theorem suSlot_at (w:World) (n:Nat) (hn:n<18446744073709551616):Calls Tryz.prog 151 #[.int .u64 (n:Int)] w fun e w'=>e = .returned (.int .i64 ((n % 2:Nat):Int))/\w=w':=by
 have E1:bits .and .u64 (n:Int) 1=((n % 2:Nat):Int):=by
  have:=u64_and_nat n 1 hn (by omega);rw [Nat.and_one_is_mod] at this;exact this
 have E2:wrap64 ((n % 2:Nat):Int)=((n % 2:Nat):Int):=by
  have:n % 2<2:=Nat.mod_lt _ (by omega);generalize n % 2=m at *;rw [show wrap64 (m:Int)=(m:Int) from by unfold wrap64;omega]
 go_enter Tryz.func151,Tryz.ntmps151;go_wp2_with fail;go_ret;exact ⟨by simp,rfl⟩
theorem idx8_0 (a1 a2 b1 b2:Nat) (p q:Option Addr) (w:World):(Instr.index 242 (.agg #[.slice p a1 a2,.slice q b1 b2]) (.int .i64 0)).run Tryz.prog w = .ok (.slice p a1 a2) w:=by
 kernel_rfl
theorem idx8_1 (a1 a2 b1 b2:Nat) (p q:Option Addr) (w:World):(Instr.index 242 (.agg #[.slice p a1 a2,.slice q b1 b2]) (.int .i64 1)).run Tryz.prog w = .ok (.slice q b1 b2) w:=by
 kernel_rfl
def DecIs (f:Nat->Nat):Option Sup->Prop
 | none=>f 0≠6
 | some S=>S.Ok/\∀ i,i<128->f i=pageS S i
theorem suDecode_any {w:World} {b off cap:Nat} {f:Nat->Nat} {o:Option Sup} (hb:BytesAt w b off 128 f) (hcap:128<=cap) (hcm:cap<=9223372036854775807) (ho:DecIs f o) :
  Calls Tryz.prog 150 #[.slice (some ⟨b,off,none⟩) 128 cap] w fun e w'=>e = .returned (.tuple #[.agg (o.getD supZ).row,.int .i64 (if o.isSome then 0 else 60)])/\Chg [] w w':=by
 cases o with
 | none=>exact suDecode_bad hb hcap hcm ho
 | some S=>exact suDecode_ok ho.1 hb hcap hcm ho.2
def bestS (o:Nat->Option Sup):Nat->Sup
 | 0=>supZ
 | k+1=>match o k with | some S=>if S.gen % 2=k/\(bestS o k).gen<S.gen then S else bestS o k | none=>bestS o k
theorem best_none {o:Nat->Option Sup} {k:Nat} (h:o k=none):bestS o (k+1)=bestS o k:=by unfold bestS;rw [h];cases k <;> rfl
theorem best_in {o:Nat->Option Sup} {k:Nat} {S:Sup} (h:o k=some S) (h1:S.gen % 2=k) (h2:(bestS o k).gen<S.gen):bestS o (k+1)=S:=by
 show (match o k with | some S=>if S.gen % 2=k/\(bestS o k).gen<S.gen then S else bestS o k | none=>bestS o k)=S
 rw [h];exact if_pos ⟨h1,h2⟩
theorem best_out {o:Nat->Option Sup} {k:Nat} {S:Sup} (h:o k=some S) (h1:¬ (S.gen % 2=k/\(bestS o k).gen<S.gen)):bestS o (k+1)=bestS o k:=by
 show (match o k with | some S=>if S.gen % 2=k/\(bestS o k).gen<S.gen then S else bestS o k | none=>bestS o k)=bestS o k
 rw [h];exact if_neg h1
theorem best_lt2 {o:Nat->Option Sup} (h:∀ k,k<2->∀ S,o k=some S->S.Ok):∀ k,k<=2->(bestS o k).gen<18446744073709551616
 | 0,_=>by show 0<_;omega
 | k+1,hk=>by
  have ih:=best_lt2 h k (by omega)
  cases ho:o k with
  | none=>rw [best_none ho];exact ih
  | some S =>
   by_cases hc:S.gen % 2=k/\(bestS o k).gen<S.gen
   ·rw [best_in ho hc.1 hc.2];exact (h k (by omega) S ho).gen.2
   ·rw [best_out ho hc];exact ih
theorem suPick_at {w:World} {b0 b1 c0 c1:Nat} {f:Nat->Nat->Nat} {o:Nat->Option Sup} (h0:BytesAt w b0 0 128 (f 0)) (h1:BytesAt w b1 0 128 (f 1)) (hc0:128<=c0) (hc1:128<=c1) (hm0:c0<=9223372036854775807) (hm1:c1<=9223372036854775807)
  (d0:DecIs (f 0) (o 0)) (d1:DecIs (f 1) (o 1)) (hg:(bestS o 2).gen≠0) :
  Calls Tryz.prog 98 #[.slice (some ⟨b0,0,none⟩) 128 c0,.slice (some ⟨b1,0,none⟩) 128 c1] w fun e w'=>e = .returned (.tuple #[.agg (bestS o 2).row,.int .i64 (((bestS o 2).gen % 2:Nat):Int),.int .i64 0])/\Chg [] w w':=by
 have k0:=znd w (.cells zSup 49) (.cells zSup 49);have k1:=znc w (.cells zSup 49) (.cells zSup 49);have hc:=((Chg.refl [] w).alloc (.cells zSup 49)).alloc (.cells zSup 49);obtain ⟨W0,hW0⟩:∃ W0,W0=(w.alloc (.cells zSup 49)).alloc (.cells zSup 49):=⟨_,rfl⟩;rw [<- hW0] at k0 k1 hc;rw [<- supZ_row] at k0 k1;have hsz:W0.heap.size=w.heap.size+2:=by rw [hW0];simp
 have HK:=zh (zA k0 (zA k1 (zA hc hsz)));have HB:=zh (zA (h0.chg hc (by simp)) (h1.chg hc (by simp)));have hok:∀ k,k<2->DecIs (f k) (o k):=fun k hk=>match k,hk with | 0,_=>d0 | 1,_=>d1
 have HD:=zh hok;have HNE:=zh (show b0<w.heap.size/\b1<w.heap.size from ⟨World.block_lt_of_cell? w ⟨b0,0+0,none⟩ (h0 0 (by omega)).1,World.block_lt_of_cell? w ⟨b1,0+0,none⟩ (h1 0 (by omega)).1⟩);have HG:=zh hg;unfold zSup at hW0;clear k0 k1 hc hsz h0 h1 d0 d1 hok hg;go_enter Tryz.func98,Tryz.ntmps98;go_upto_region 2 with fail;rw [<- hW0];clear hW0;obtain ⟨r,hr⟩:∃ r,r=w.heap.size:=⟨_,rfl⟩;rw [<- hr];have HR:=zh hr;clear hr;go_wp2_with fail;go_loopg [15] 2 (fun gg s wr=>∃ k:Nat,gg=2 - k/\k<=2/\s = .int .i64 (k:Int)/\Hid (Chg [r+1] W0 wr/\wr.heap[r+1]?=some (.cells (bestS o k).row 49 (0,0))))
 case atStart=>exact ⟨0,rfl,Nat.zero_le _,by go_num,zh ⟨Chg.refl _ _,by rw [HR.out];exact HK.out.2.1⟩⟩
 case round =>
  obtain ⟨k,hgg,hk2,rfl,hX⟩:=hrel;by_cases hk:k<2
  ·rcases (show k=0∨k=1 by omega) with rfl | rfl
   ·have hbk:=HB.out.1.chg hX.out.1 (by simp only [zms];have:=HNE.out;have:=HR.out;omega)
    have hix:=idx8_0 128 c0 128 c1 (some ⟨b0,0,none⟩) (some ⟨b1,0,none⟩) wr;have cd:=suDecode_any hbk hc0 hm0 (HD.out 0 (by omega));have CD:=zh cd;have HX:=zh hX.out;have hl1:r+1<wr.heap.size:=zhl hX.out.2;clear cd hbk hX;go_wp2_with fail;refine CD.out.mono ?_;rintro e w1 ⟨rfl,hc1'⟩;have kX:=znb w1 (.cells zSup 49);have hcX:=(Chg.refl [] w1).alloc (.cells zSup 49);rw [<- supZ_row] at kX;have kb:=((hc1'.trans hcX).block _ hl1 (by simp)).trans HX.out.2;have HC0:=zh (zA kX (zA kb (HX.out.1.trans ((hc1'.trans hcX).mono (by simp)))));have hbl:r+1<w1.heap.size:=zLl hl1 hc1'.size;have hwl:wr.heap.size<=w1.heap.size:=hc1'.size;clear kX hcX kb hc1' CD hix;have HC1:=zh (HC0.out);rw [supZ_row] at HC1;unfold zSup at HC1;go_upto_region 6 with (refine wpList_storeRow (t:=49) (T:=49) (b:=w1.heap.size) (o:=0) (n:=18) (N:=18) (V:=supZ.cellV) (U:=((o 0).getD supZ).cellV) rfl (.tmp 10) (.tmp 22) rfl rfl rfl ?_ (by omega) infoSup (fun i _=>Sup.cell_one _ i) ?_;exact HC0.out.1;intro W2 hr2 hc2;have H2:=zh (zA hr2 hc2);clear hr2 hc2)
    have hX2:=H2.out.1;rw [laid_sup] at hX2;have HC:=zh (zA hX2 (zA ((H2.out.2.block (r+1) (zhl HC0.out.2.1) (by simp only [zms];omega)).trans HC0.out.2.1) (HC0.out.2.2.then H2.out.2 (fun q hq=>by simp only [zms] at hq;subst hq;exact .inr (by have:=HX.out.1.size;omega)))));clear hX2 H2 HC0 HC1;obtain ⟨xb,hxb⟩:∃ xb,xb=w1.heap.size:=⟨_,rfl⟩;rw [<- hxb] at HC ⊢;clear hxb HX hl1 hbl hwl
    cases ho:o 0 with
    | none =>
     simp only [ho,Option.isSome_none,Bool.false_eq_true,if_false];go_wp2_with fail;go_roundg (2 - (0+1))
     case measure=>omega
     case rel =>
      refine ⟨0+1,rfl,by omega,by go_num,zh ⟨HC.out.2.2,?_⟩⟩;rw [best_none ho];exact HC.out.2.1
    | some S =>
     have HOK:=zh (HD.out 0 (by omega));rw [ho] at HOK HC;have HSK:=zh HOK.out.1;clear HOK;simp only [ho,Option.isSome_some,if_true];have g1:=Sup.cell HC.out.1 (i:=0) (by omega);have g2:=Sup.cell HC.out.2.1 (i:=0) (by omega)
     change W2.cell? ⟨xb,0,none⟩=some (.int .u64 (S.gen:Int)) at g1
     change W2.cell? ⟨r+1,0,none⟩=some (.int .u64 ((bestS o 0).gen:Int)) at g2
     have cs:=suSlot_at W2 S.gen HSK.out.gen.2;obtain ⟨m,hm⟩:∃ m,m=S.gen % 2:=⟨_,rfl⟩;rw [<- hm] at cs;have HM:=zh hm;clear hm;by_cases hp:m=0
     ·subst hp
      go_wp2_with fail;refine cs.mono ?_;rintro e w' ⟨rfl,rfl⟩;by_cases hlt:(bestS o 0).gen<S.gen
      ·have i1:((bestS o 0).gen:Int)<(S.gen:Int):=by omega
       have HLT:=zh hlt;clear hlt
       go_wp2_with (first
        | (refine wpList_loadSup (S:=S) rfl (.tmp 10) rfl (k:=xb) (o:=0) rfl (Sup.cells HC.out.1) ?_)
        | (refine wpList_storeRow (t:=49) (T:=49) (b:=r+1) (o:=0) (n:=18) (N:=18) (V:=(bestS o 0).cellV) (U:=S.cellV) rfl (.tmp 7) (.tmp 40) rfl rfl rfl HC.out.2.1 (by omega) infoSup (fun i _=>S.cell_one i) ?_;intro w9 hr9 hc9;have H9:=zh (zA hr9 hc9);clear hr9 hc9))
       go_roundg (2 - (0+1))
       case measure=>omega
       case rel =>
        have h9:=H9.out.1;rw [laid_sup] at h9;refine ⟨0+1,rfl,by omega,by go_num,zh ⟨HC.out.2.2.trans H9.out.2,?_⟩⟩;rw [best_in ho HM.out.symm HLT.out];exact h9
      ·have i1:¬ ((bestS o 0).gen:Int)<(S.gen:Int):=by omega
       have HLT:=zh hlt;clear hlt;go_wp2_with fail;go_roundg (2 - (0+1))
       case measure=>omega
       case rel =>
        refine ⟨0+1,rfl,by omega,by go_num,zh ⟨HC.out.2.2,?_⟩⟩;rw [best_out ho (fun q=>HLT.out q.2)];exact HC.out.2.1
     ·have i0:¬ ((m:Int)=0):=by omega
      have HP:=zh hp;clear hp;go_wp2_with fail;refine cs.mono ?_;rintro e w' ⟨rfl,rfl⟩;go_wp2_with fail;go_roundg (2 - (0+1))
      case measure=>omega
      case rel =>
       refine ⟨0+1,rfl,by omega,by go_num,zh ⟨HC.out.2.2,?_⟩⟩;rw [best_out ho (fun q=>HP.out (HM.out.trans q.1))];exact HC.out.2.1
   ·have hbk:=HB.out.2.chg hX.out.1 (by simp only [zms];have:=HNE.out;have:=HR.out;omega)
    have hix:=idx8_1 128 c0 128 c1 (some ⟨b0,0,none⟩) (some ⟨b1,0,none⟩) wr;have cd:=suDecode_any hbk hc1 hm1 (HD.out 1 (by omega));have CD:=zh cd;have HX:=zh hX.out;have hl1:r+1<wr.heap.size:=zhl hX.out.2;clear cd hbk hX;go_wp2_with fail;refine CD.out.mono ?_;rintro e w1 ⟨rfl,hc1'⟩;have kX:=znb w1 (.cells zSup 49);have hcX:=(Chg.refl [] w1).alloc (.cells zSup 49);rw [<- supZ_row] at kX;have kb:=((hc1'.trans hcX).block _ hl1 (by simp)).trans HX.out.2;have HC0:=zh (zA kX (zA kb (HX.out.1.trans ((hc1'.trans hcX).mono (by simp)))));have hbl:r+1<w1.heap.size:=zLl hl1 hc1'.size;have hwl:wr.heap.size<=w1.heap.size:=hc1'.size;clear kX hcX kb hc1' CD hix;have HC1:=zh (HC0.out);rw [supZ_row] at HC1;unfold zSup at HC1;go_upto_region 6 with (refine wpList_storeRow (t:=49) (T:=49) (b:=w1.heap.size) (o:=0) (n:=18) (N:=18) (V:=supZ.cellV) (U:=((o 1).getD supZ).cellV) rfl (.tmp 10) (.tmp 22) rfl rfl rfl ?_ (by omega) infoSup (fun i _=>Sup.cell_one _ i) ?_;exact HC0.out.1;intro W2 hr2 hc2;have H2:=zh (zA hr2 hc2);clear hr2 hc2)
    have hX2:=H2.out.1;rw [laid_sup] at hX2;have HC:=zh (zA hX2 (zA ((H2.out.2.block (r+1) (zhl HC0.out.2.1) (by simp only [zms];omega)).trans HC0.out.2.1) (HC0.out.2.2.then H2.out.2 (fun q hq=>by simp only [zms] at hq;subst hq;exact .inr (by have:=HX.out.1.size;omega)))));clear hX2 H2 HC0 HC1;obtain ⟨xb,hxb⟩:∃ xb,xb=w1.heap.size:=⟨_,rfl⟩;rw [<- hxb] at HC ⊢;clear hxb HX hl1 hbl hwl
    cases ho:o 1 with
    | none =>
     simp only [ho,Option.isSome_none,Bool.false_eq_true,if_false];go_wp2_with fail;go_roundg (2 - (1+1))
     case measure=>omega
     case rel =>
      refine ⟨1+1,rfl,by omega,by go_num,zh ⟨HC.out.2.2,?_⟩⟩;rw [best_none ho];exact HC.out.2.1
    | some S =>
     have HOK:=zh (HD.out 1 (by omega));rw [ho] at HOK HC;have HSK:=zh HOK.out.1;clear HOK;simp only [ho,Option.isSome_some,if_true];have g1:=Sup.cell HC.out.1 (i:=0) (by omega);have g2:=Sup.cell HC.out.2.1 (i:=0) (by omega)
     change W2.cell? ⟨xb,0,none⟩=some (.int .u64 (S.gen:Int)) at g1
     change W2.cell? ⟨r+1,0,none⟩=some (.int .u64 ((bestS o 1).gen:Int)) at g2
     have cs:=suSlot_at W2 S.gen HSK.out.gen.2;obtain ⟨m,hm⟩:∃ m,m=S.gen % 2:=⟨_,rfl⟩;rw [<- hm] at cs;have HM:=zh hm;clear hm;by_cases hp:m=1
     ·subst hp
      go_wp2_with fail;refine cs.mono ?_;rintro e w' ⟨rfl,rfl⟩;by_cases hlt:(bestS o 1).gen<S.gen
      ·have i1:((bestS o 1).gen:Int)<(S.gen:Int):=by omega
       have HLT:=zh hlt;clear hlt
       go_wp2_with (first
        | (refine wpList_loadSup (S:=S) rfl (.tmp 10) rfl (k:=xb) (o:=0) rfl (Sup.cells HC.out.1) ?_)
        | (refine wpList_storeRow (t:=49) (T:=49) (b:=r+1) (o:=0) (n:=18) (N:=18) (V:=(bestS o 1).cellV) (U:=S.cellV) rfl (.tmp 7) (.tmp 40) rfl rfl rfl HC.out.2.1 (by omega) infoSup (fun i _=>S.cell_one i) ?_;intro w9 hr9 hc9;have H9:=zh (zA hr9 hc9);clear hr9 hc9))
       go_roundg (2 - (1+1))
       case measure=>omega
       case rel =>
        have h9:=H9.out.1;rw [laid_sup] at h9;refine ⟨1+1,rfl,by omega,by go_num,zh ⟨HC.out.2.2.trans H9.out.2,?_⟩⟩;rw [best_in ho HM.out.symm HLT.out];exact h9
      ·have i1:¬ ((bestS o 1).gen:Int)<(S.gen:Int):=by omega
       have HLT:=zh hlt;clear hlt;go_wp2_with fail;go_roundg (2 - (1+1))
       case measure=>omega
       case rel =>
        refine ⟨1+1,rfl,by omega,by go_num,zh ⟨HC.out.2.2,?_⟩⟩;rw [best_out ho (fun q=>HLT.out q.2)];exact HC.out.2.1
     ·have i0:¬ ((m:Int)=1):=by omega
      have HP:=zh hp;clear hp;go_wp2_with fail;refine cs.mono ?_;rintro e w' ⟨rfl,rfl⟩;go_wp2_with fail;go_roundg (2 - (1+1))
      case measure=>omega
      case rel =>
       refine ⟨1+1,rfl,by omega,by go_num,zh ⟨HC.out.2.2,?_⟩⟩;rw [best_out ho (fun q=>HP.out (HM.out.trans q.1))];exact HC.out.2.1
  ·obtain rfl:k=2:=by omega
   have krA:wr.heap[r]?=some (.cells supZ.row 49 (0,0)):=(hX.out.1.block r (by have:=HK.out;have:=HR.out;omega) (by simp)).trans (by rw [HR.out];exact HK.out.1);obtain ⟨B,hB⟩:∃ B,B=bestS o 2:=⟨_,rfl⟩;have hXb:=hX.out.2;rw [<- hB] at hXb;have HBB:=zh hB;have HX:=zh (zA hXb (zA krA hX.out.1));have HGB:=zh (show B.gen≠0 from by rw [hB];exact HG.out)
   have HGL:=zh (show B.gen<18446744073709551616 from by
    rw [hB];refine best_lt2 (fun k hk S hS=>?_) 2 (by omega);have:=HD.out k hk;rw [hS] at this;exact this.1)
   have g2:wr.cell? ⟨r+1,0,none⟩=some (.int .u64 (B.gen:Int)):=(Sup.cell hXb (i:=0) (by omega)).trans rfl;have i1:¬ ((B.gen:Int)=0):=by have:=HGB.out;omega
   have hl1:r+1<wr.heap.size:=zhl hXb;clear hXb hX hB krA;have hdr:wr.drew.heap[r]?=some (.cells (fnRow 18 supZ.cellV) 49 (0,0)):=HX.out.2.1;have HDR:=zh hdr;clear hdr;go_upto_region 11 with fail;refine wp_region_held_drew (S:=fun W'=>W'.cell? ⟨r+1,0,none⟩=some (.int .u64 (B.gen:Int))/\∀ j,j<18->W'.cell? ⟨r+1,0+j,none⟩=some (B.cellV j)) (by kernel_rfl) (by exact ⟨g2,Sup.cells HX.out.1⟩) (fun hHeld=>?_);refine wpAnyH_take (i:=0) (oi:=?_) (v := .agg (fnRow 18 B.cellV)) ?_ (by kernel_rfl) (by kernel_rfl) (by kernel_rfl) ?_ (yields_row (n:=18) (V:=B.cellV) Tryz.underlying49 rfl (by kernel_rfl) ?_ (.tmp 7) ?_ ?_ (fun w' hw=>hw.2)) hHeld ?_
   rotate_left 1
   ·(simp only [tA1,tA2,tA3];rfl)
   ·exact fun _ _ _ h=>h
   ·rfl
   ·rfl
   ·(first | rfl | simp [Act.eval,Act.put])
   try simp only [Act.put,sA1,sA2,sA3]
   refine wVc 1 ?_;refine wVc 2 ?_;try simp only [Act.put,sA1,sA2,sA3]
   refine wE 3 (fun K hK=>?_)
   (go_simp;refine (suSlot_at wr.drew B.gen HGL.out).mono ?_;rintro e w' ⟨rfl,rfl⟩)
   refine hK.out _ _ (⟨g2,Sup.cells HX.out.1⟩) (fun hHeld=>?_);clear hK K;try simp only [Act.put,sA1,sA2,sA3]
   have hrn:=run_storeCells_row (P:=Tryz.prog) (U:=B.cellV) HDR.out (by omega) (fun i _=>B.cell_one i) (o:=0) (n:=18);have hrs:=zfs 18 B.cellV;have hsl:=setCells_laid (o:=0) (n:=18) (U:=B.cellV) HDR.out;generalize wr.drew.setCells r 0 (fnRow 18 B.cellV).toList=w9 at hrn hsl;have H9:=zh hsl;clear hsl;refine wE 4 (fun K hK=>?_)
   (go_simp)
   refine hK.out _ _ (⟨(H9.out.2.cell (p:=⟨r+1,0,none⟩) hl1 (by simp)).trans g2,fun j hj=>(H9.out.2.cell (p:=⟨r+1,0+j,none⟩) hl1 (by simp)).trans (Sup.cells HX.out.1 j hj)⟩) (fun hHeld=>?_);clear hK K;try simp only [Act.put,sA1,sA2,sA3]
   refine wVc 5 ?_;refine wVc 6 ?_;try simp only [Act.put,sA1,sA2,sA3]
   refine wpAnyH_done (by kernel_rfl) ?_ _;go_wp2_with fail;have hr9:=H9.out.1;rw [laid_sup] at hr9;rw [<- HBB.out];refine bodyPost_ret (results_ctt (a:=4) (b:=5) (c:=6) (by kernel_rfl) rfl (load_sup (Sup.cells hr9))) rfl ⟨rfl,?_⟩;have hcW:Chg [r+1,r] W0 w9:=(HX.out.2.2.mono (by simp)).trans (Chg.trans (b:=wr.drew) ((Chg.refl _ _).drew) (H9.out.2.mono (by simp)));exact HK.out.2.2.1.then hcW (fun q hq=>by simp only [List.mem_cons,List.not_mem_nil,or_false] at hq;have:=HR.out;rcases hq with e | e <;> exact .inr (by omega))
end Go.Proofs.YtkhcaclndepgbaaGreat
namespace Go.Proofs.YtkhcaclndepgbaaGreat
open Go.RowKit
open Go.Maps (Keyed)
def cnt:Nat->(Nat->Bool)->Nat
 | 0,_=>0
 | n+1,p=>cnt n p+(if p n then 1 else 0)
theorem cnt_le (p:Nat->Bool):∀ n,cnt n p<=n
 | 0=>zLr _
 | n+1=>by have:=cnt_le p n;unfold cnt;split <;> omega
theorem cnt_congr {p q:Nat->Bool} : ∀ {n:Nat},(∀ i,i<n->p i=q i)->cnt n p=cnt n q
 | 0,_=>rfl
 | n+1,h=>by unfold cnt;rw [cnt_congr (fun i hi=>h i (by omega)),h n (by omega)]
theorem cnt_upd {p q:Nat->Bool} {k:Nat} : ∀ {n:Nat},k<n->(∀ i,i<n->i≠k->p i=q i) ->
  cnt n q+(if p k then 1 else 0)=cnt n p+(if q k then 1 else 0)
 | 0,h,_=>by omega
 | n+1,h,hpq=>by
  unfold cnt;by_cases hk:k=n
  ·subst hk
   rw [cnt_congr (p:=p) (q:=q) (fun i hi=>hpq i (by omega) (by omega))];omega
  ·have:=cnt_upd (p:=p) (q:=q) (n:=n) (k:=k) (by omega) (fun i hi=>hpq i (by omega))
   rw [hpq n (by omega) (fun e=>hk e.symm)];omega
theorem cnt_false (n:Nat):cnt n (fun _=>false)=0:=by
 induction n with
 | zero=>rfl
 | succ n ih=>unfold cnt;simp [ih]
theorem cnt_true (n:Nat):cnt n (fun _=>true)=n:=by
 induction n with
 | zero=>rfl
 | succ n ih=>unfold cnt;simp [ih]
theorem cnt_zero {p:Nat->Bool} : ∀ {n:Nat},(∀ i,i<n->p i=false)->cnt n p=0:=fun {n} h=>by
 rw [cnt_congr (q:=fun _=>false) h,cnt_false]
theorem cnt_all {p:Nat->Bool} : ∀ {n:Nat},(∀ i,i<n->p i=true)->cnt n p=n:=fun {n} h=>by
 rw [cnt_congr (q:=fun _=>true) h,cnt_true]
theorem cnt_split {p q r:Nat->Bool} : ∀ {n:Nat},(∀ i,i<n->(if p i then 1 else 0)=(if q i then 1 else 0)+(if r i then 1 else 0))->cnt n p=cnt n q+cnt n r
 | 0,_=>rfl
 | n+1,h=>by
  have h1:=cnt_split (p:=p) (q:=q) (r:=r) (n:=n) (fun i hi=>h i (by omega));have h2:=h n (by omega);unfold cnt;omega
structure Tal where
 n:Nat
 now:Nat->Nat
 kept:Nat->Nat
def Tal.free (T:Tal) (b:Nat):Bool:=T.now b==0&&T.kept b==0
def Tal.waitB (T:Tal) (b:Nat):Bool:=T.now b==0&&T.kept b != 0
def Tal.frees (T:Tal):Nat:=cnt T.n T.free
def Tal.waits (T:Tal):Nat:=cnt T.n T.waitB
def Tal.set (T:Tal) (b v:Nat):Tal := { T with now:=fun i=>if i=b then v else T.now i }
def Tal.keep (T:Tal):Tal := { T with kept:=T.now }
def Tal.back (T:Tal):Tal := { T with now:=T.kept }
def Tal.changed (T:Tal) (b:Nat):Bool:=T.now b != T.kept b
def Tal.new (n:Nat):Tal:=⟨n,fun _=>0,fun _=>0⟩
theorem frees_set (T:Tal) {b:Nat} (v:Nat) (h:b<T.n) :
  (T.set b v).frees+(if T.free b then 1 else 0)=T.frees+(if (T.set b v).free b then 1 else 0) :=
 cnt_upd (n:=T.n) h (fun i _ hne=>by simp [Tal.free,Tal.set,hne])
theorem waits_set (T:Tal) {b:Nat} (v:Nat) (h:b<T.n) :
  (T.set b v).waits+(if T.waitB b then 1 else 0)=T.waits+(if (T.set b v).waitB b then 1 else 0) :=
 cnt_upd (n:=T.n) h (fun i _ hne=>by simp [Tal.waitB,Tal.set,hne])
theorem u16_wf {v:Nat} (h:v<=65535):(Lit.int .u16 (v:Int)).wf=true:=by
 simp [Lit.wf,IntKind.min,IntKind.max,IntKind.signed,IntKind.bits];omega
def KMap (P:Program) (kt et:TypeId) (w:World) (b n:Nat) (f:Nat->Option Nat):Prop :=
 ∃ D:DataW Unit,w.ownsMap P kt (plainElem P et) b (Maps.size D) D/\Maps.size D=cnt n (fun k=>(f k).isSome) /\
  (∀ l,Maps.has D l=true->∃ k,k<n/\l = .int .i64 (k:Int)/\(f k).isSome=true) /\
  (∀ k v,k<n->f k=some v->Maps.has D (.int .i64 (k:Int))=true/\∀ z,D.atKey (.int .i64 (k:Int)) z = .lit (.int .u16 (v:Int)))
section
variable {P:Program} {kt et t:TypeId} {w:World} {b n:Nat} {f:Nat->Option Nat}
theorem ownsMap_tight {R:Value->Option (DataW Unit × List MemPlace)} {m:Nat} {D:DataW Unit} (h:w.ownsMap P kt R b m D):w.ownsMap P kt R b (Maps.size D) D:=by
 obtain ⟨es,clock,hb,F,hs,rfl⟩:=h;exact ⟨es,clock,hb,F,by simp [Maps.size,length_sorted],rfl⟩
theorem KMap.lt (h:KMap P kt et w b n f):b<w.heap.size:=by
 obtain ⟨D,h1,_⟩:=h;exact h1.lt
theorem KMap.obj (h:KMap P kt et w b n f):∃ es c,w.heap[b]?=some (.map es c):=by
 obtain ⟨D,⟨es,c,hb,_⟩,_⟩:=h;exact ⟨es,c,hb⟩
theorem KMap.same {w':World} (h:KMap P kt et w b n f) (e:w'.heap[b]?=w.heap[b]?):KMap P kt et w' b n f:=by
 obtain ⟨D,⟨es,c,hb,hr⟩,hh⟩:=h;exact ⟨D,⟨es,c,e.trans hb,hr⟩,hh⟩
theorem KMap.congr {g:Nat->Option Nat} (h:KMap P kt et w b n f) (e:∀ i,i<n->f i=g i):KMap P kt et w b n g:=by
 obtain ⟨D,h1,h2,h3,h4⟩:=h;refine ⟨D,h1,h2.trans (cnt_congr fun i hi=>by rw [e i hi]),fun l hl=>?_,fun k v hk hv=>h4 k v hk (by rw [e k hk];exact hv)⟩;obtain ⟨k,hk,hl',hs⟩:=h3 l hl;exact ⟨k,hk,hl',by rw [<- e k hk];exact hs⟩
theorem KMap.has (_h:KMap P kt et w b n f) {D:DataW Unit} (h3:∀ l,Maps.has D l=true->∃ k,k<n/\l = .int .i64 (k:Int)/\(f k).isSome=true)
  (h4:∀ k v,k<n->f k=some v->Maps.has D (.int .i64 (k:Int))=true/\∀ z,D.atKey (.int .i64 (k:Int)) z = .lit (.int .u16 (v:Int))) {k:Nat} (hk:k<n) :
  Maps.has D (.int .i64 (k:Int))=(f k).isSome:=by
 cases hf:f k with
 | some v=>exact (h4 k v hk hf).1
 | none =>
  cases hh:Maps.has D (.int .i64 (k:Int)) with
  | false=>rfl
  | true =>
   obtain ⟨k',hk',e,hs⟩:=h3 _ hh;injection e with _ e;have:k=k':=by omega
   subst this;rw [hf] at hs;cases hs
theorem KMap.look (h:KMap P kt et w b n f) (hkt:P.underlying kt=some (.int .i64)) (het:P.underlying et=some (.int .u16)) (ht:P.underlying t=some (.map kt et))
  (hz:(zeroValue et).run P w = .ok (.int .u16 0) w) {k:Nat} (hk:k<n) (hn:n<=4096) :
  (Instr.lookup t (.map (some b)) (.int .i64 (k:Int)) true).run P w = .ok (.tuple #[.int .u16 (((f k).getD 0:Nat):Int),.bool (f k).isSome]) w /\
  (Instr.lookup t (.map (some b)) (.int .i64 (k:Int)) false).run P w = .ok (.int .u16 (((f k).getD 0:Nat):Int)) w:=by
 have hh:=h;obtain ⟨D,h1,h2,h3,h4⟩:=h;have hkey:keyOf P kt (.int .i64 (k:Int))=some (.int .i64 (k:Int)):=Maps.keyOf_int_mk hkt (WalkArith.wf_i64 (by omega));have K:=Maps.int_keyed hkt;obtain ⟨v,ps,hrun,hv⟩:=h1.look_ok K ht hz (plainElem_int het (by decide)) hkey;obtain ⟨c,hrun',hat,_⟩:=h1.lookup_int K ht het hz hkey;obtain ⟨a,rfl,ha,hw⟩:=plainElem_int_inv het hv;simp only [Prod.mk.injEq] at ha
 have hc:c=a:=by
  have:=hat.symm.trans ha.1;injection this with this;injection this
 subst hc;rw [hh.has h3 h4 hk] at hrun
 have e:c=(((f k).getD 0:Nat):Int):=by
  cases hf:f k with
  | some v =>
   have:=((h4 k v hk hf).2 _).symm.trans hat;injection this with this;injection this with _ this;simpa using this.symm
  | none =>
   have hn:Maps.has D (.int .i64 (k:Int))=false:=by rw [hh.has h3 h4 hk,hf];rfl
   have:=(Maps.atKey_of_not_has hn (.lit (.int .u16 0))).symm.trans hat;injection this with this;injection this with _ this;simpa using this.symm
 subst e;exact ⟨hrun,hrun'⟩
theorem KMap.del (h:KMap P kt et w b n f) (hkt:P.underlying kt=some (.int .i64)) (ht:P.underlying t=some (.map kt et)) {k:Nat} (hk:k<n) (hn:n<=4096) (ty:TypeId) :
  ∃ w',(Builtin.delete_ #[t,kt] ty #[.map (some b),.int .i64 (k:Int)]).run P w = .ok (.tuple #[]) w'/\KMap P kt et w' b n (fun i=>if i=k then none else f i)/\w.mapTurned w' b:=by
 have hh:=h;obtain ⟨D,h1,h2,h3,h4⟩:=h;have hkey:keyOf P kt (.int .i64 (k:Int))=some (.int .i64 (k:Int)):=Maps.keyOf_int_mk hkt (WalkArith.wf_i64 (by omega));have K:=Maps.int_keyed hkt;obtain ⟨w',hrun,hown,hturn⟩:=h1.drop K ht hkey ty;refine ⟨w',hrun,⟨D.del (.int .i64 (k:Int)),ownsMap_tight hown,?_,?_,?_⟩,hturn⟩
 ·have e1:=Maps.size_del (k := .int .i64 (k:Int)) (h1.tidy K)
  have e2:=cnt_upd (p:=fun i=>(f i).isSome) (q:=fun i=>(if i=k then none else f i).isSome) hk (fun i _ hne=>by simp [hne]);simp only [if_true,Option.isSome_none,Bool.false_eq_true,if_false,hh.has h3 h4 hk] at e1 e2
  show _=cnt n (fun i=>(if i=k then none else f i).isSome)
  omega
 ·intro l hl
  by_cases e:l = .int .i64 (k:Int)
  ·subst e;rw [Maps.has_del_same] at hl;cases hl
  ·rw [Maps.has_del_other e] at hl
   obtain ⟨k',hk',rfl,hs⟩:=h3 l hl;have hne:k'≠k:=fun q=>e (by rw [q]);exact ⟨k',hk',rfl,by simp [hne,hs]⟩
 ·intro i v hi hv
  by_cases e:i=k
  ·simp [e] at hv
  ·simp only [e,if_false] at hv
   have hne:Lit.int .i64 (i:Int) ≠ .int .i64 (k:Int):=fun q=>by injection q with _ q;omega
   obtain ⟨g1,g2⟩:=h4 i v hi hv;exact ⟨by rw [Maps.has_del_other hne];exact g1,fun z=>by rw [Maps.atKey_del_other hne];exact g2 z⟩
theorem KMap.put (h:KMap P kt et w b n f) (hkt:P.underlying kt=some (.int .i64)) (het:P.underlying et=some (.int .u16)) (ht:P.underlying t=some (.map kt et)) {k v:Nat} (hk:k<n) (hn:n<=4096) (hv:v<=65535) :
  ∃ w',(Instr.mapUpdate t (.map (some b)) (.int .i64 (k:Int)) (.int .u16 (v:Int))).run P w = .ok () w'/\KMap P kt et w' b n (fun i=>if i=k then some v else f i)/\w.mapTurned w' b:=by
 have hh:=h;obtain ⟨D,h1,h2,h3,h4⟩:=h;have hkey:keyOf P kt (.int .i64 (k:Int))=some (.int .i64 (k:Int)):=Maps.keyOf_int_mk hkt (WalkArith.wf_i64 (by omega));have K:=Maps.int_keyed hkt;have hle:=cnt_le (fun k=>(f k).isSome) n;have hik:WideAt.IsKeyLit (.int .i64 (k:Int)):=K.key hkey;obtain ⟨w',hrun,hown,hturn⟩:=h1.store K ht (by unfold maxLen;omega) hkey (plainElem_int het (u16_wf hv));refine ⟨w',hrun,⟨_,ownsMap_tight hown,?_,?_,?_⟩,hturn⟩
 ·have e1:=Maps.size_put (k := .int .i64 (k:Int)) (h1.tidy K) (.lit (.int .u16 (v:Int)))
  have e2:=cnt_upd (p:=fun i=>(f i).isSome) (q:=fun i=>(if i=k then some v else f i).isSome) hk (fun i _ hne=>by simp [hne]);rw [hh.has h3 h4 hk] at e1;simp only [if_true,Option.isSome_some] at e2;rw [e1]
  split at e2 <;> split <;> simp_all <;> omega
 ·intro l hl
  by_cases e:l = .int .i64 (k:Int)
  ·exact ⟨k,hk,e,by simp⟩
  ·rw [Maps.has_put_other e] at hl
   obtain ⟨k',hk',rfl,hs⟩:=h3 l hl;have hne:k'≠k:=fun q=>e (by rw [q]);exact ⟨k',hk',rfl,by simp [hne,hs]⟩
 ·intro i v' hi hv'
  by_cases e:i=k
  ·subst e
   simp only [if_true,Option.some.injEq] at hv';subst hv';exact ⟨Maps.has_put_same h1.isMap hik _,fun z=>Maps.atKey_put_same h1.isMap hik _ z⟩
  ·simp only [e,if_false] at hv'
   have hne:Lit.int .i64 (i:Int) ≠ .int .i64 (k:Int):=fun q=>by injection q with _ q;omega
   obtain ⟨g1,g2⟩:=h4 i v' hi hv';exact ⟨by rw [Maps.has_put_other hne];exact g1,fun z=>by rw [Maps.atKey_put_other hne];exact g2 z⟩
theorem KMap.ofEmpty (h:w.ownsMap P kt (plainElem P et) b 0 (.map []:DataW Unit)) (n:Nat):KMap P kt et w b n (fun _=>none):=by
 refine ⟨.map [],h,(cnt_zero fun _ _=>rfl).symm,?_,?_⟩
 ·intro l hl;cases hl
 ·intro k v _ hv;cases hv
theorem KMap.made (w:World) (n:Nat):KMap P kt et (w.alloc (.map #[] 0)) w.heap.size n (fun _=>none) :=
 KMap.ofEmpty (World.ownsMap_made _ _ _ _) n
theorem KMap.clear (h:KMap P kt et w b n f) (ht:P.underlying t=some (.map kt et)) (ty:TypeId) :
  ∃ w',(Builtin.clear_ #[t] ty #[.map (some b)]).run P w = .ok (.tuple #[]) w'/\KMap P kt et w' b n (fun _=>none)/\w.mapTurned w' b:=by
 obtain ⟨D,⟨es,c,hb,F,hs,hD⟩,_⟩:=h;refine ⟨_,?_,KMap.ofEmpty ⟨#[],c,ChangeMaps.heap_setBlock_same hb (.map #[] c),⟨by simp,MapKept.stamped_empty c,by simp⟩,Nat.zero_le _,rfl⟩ n,⟨es,c,#[],c,hb,rfl⟩⟩;simp [Builtin.clear_,run_underlying ht,MapKept.run_getObj_map hb,MapKept.run_setObj_map _ hb,Result.andThen];rfl
end
def Tal.keptAt (T:Tal) (b:Nat):Option Nat:=if T.now b=T.kept b then none else some (T.kept b)
def u16s (n:Nat) (f:Nat->Nat):Array Value:=Array.ofFn (n:=n) fun i => .int .u16 ((f i:Nat):Int)
theorem u16s_get {n:Nat} {f:Nat->Nat} {i:Nat} (h:i<n):(u16s n f)[i]?=some (.int .u16 ((f i:Nat):Int)):=by
 simp [u16s,h]
theorem u16s_set {n:Nat} {f:Nat->Nat} {i v:Nat} (h:i<n):(u16s n f).setIfInBounds i (.int .u16 (v:Int))=u16s n (fun j=>if j=i then v else f j):=by
 apply Array.ext_getElem?;intro j;by_cases hj:j<n
 ·rw [u16s_get hj,Array.getElem?_setIfInBounds]
  by_cases e:j=i
  ·subst e;simp [u16s,h]
  ·rw [if_neg (fun q=>e q.symm),u16s_get hj];simp [e]
 ·simp [u16s,hj]
structure TallyAt (w:World) (t bc bk:Nat) (T:Tal):Prop where
 n1:1<=T.n
 n2:T.n<=4096
 now:∀ i,i<T.n->T.now i<=65535
 kept:∀ i,i<T.n->T.kept i<=65535
 top:w.heap[t]?=some (.cells #[.slice (some ⟨bc,0,none⟩) T.n T.n,.map (some bk),.int .i64 (T.frees:Int),.int .i64 (T.waits:Int)] 215 (0,0))
 cs:w.heap[bc]?=some (.cells (u16s T.n T.now) 33 (0,0))
 map:KMap Tryz.prog 3 33 w bk T.n T.keptAt
 ne:t≠bc
namespace TallyAt
variable {w:World} {t bc bk:Nat} {T:Tal}
theorem ne1 (h:TallyAt w t bc bk T):t≠bk:=fun e=>by
 obtain ⟨es,c,hb⟩:=h.map.obj;rw [<- e,h.top] at hb;cases hb
theorem ne2 (h:TallyAt w t bc bk T):bc≠bk:=fun e=>by
 obtain ⟨es,c,hb⟩:=h.map.obj;rw [<- e,h.cs] at hb;cases hb
theorem c0 (h:TallyAt w t bc bk T):w.cell? ⟨t,0,none⟩=some (.slice (some ⟨bc,0,none⟩) T.n T.n):=zcb h.top 0
theorem c1 (h:TallyAt w t bc bk T):w.cell? ⟨t,1,none⟩=some (.map (some bk)):=zcb h.top 1
theorem c2 (h:TallyAt w t bc bk T):w.cell? ⟨t,2,none⟩=some (.int .i64 (T.frees:Int)):=zcb h.top 2
theorem fz (h:TallyAt w t bc bk T) (i:Nat):w.frozen? ⟨t,i,none⟩=false:=zfb h.top i
theorem cc (h:TallyAt w t bc bk T) {i:Nat} (hi:i<T.n):w.cell? ⟨bc,i,none⟩=some (.int .u16 ((T.now i:Nat):Int)):=by
 rw [zcb h.cs,u16s_get hi]
theorem cfz (h:TallyAt w t bc bk T) (i:Nat):w.frozen? ⟨bc,i,none⟩=false:=zfb h.cs i
theorem lt0 (h:TallyAt w t bc bk T):t<w.heap.size:=zhl h.top
theorem lt1 (h:TallyAt w t bc bk T):bc<w.heap.size:=zhl h.cs
theorem lt2 (h:TallyAt w t bc bk T):bk<w.heap.size:=h.map.lt
theorem chg {w':World} {L:List Nat} (h:TallyAt w t bc bk T) (c:Chg L w w') (h0:t∉L) (h1:bc∉L) (h2:bk∉L):TallyAt w' t bc bk T :=
 ⟨h.n1,h.n2,h.now,h.kept,(c.block _ h.lt0 h0).trans h.top,(c.block _ h.lt1 h1).trans h.cs,h.map.same (c.block _ h.lt2 h2),h.ne⟩
theorem frees_le (h:TallyAt w t bc bk T):T.frees<=4096:=zLt (cnt_le _ _) h.n2
theorem waits_le (h:TallyAt w t bc bk T):T.waits<=4096:=zLt (cnt_le _ _) h.n2
end TallyAt
end Go.Proofs.YtkhcaclndepgbaaGreat
