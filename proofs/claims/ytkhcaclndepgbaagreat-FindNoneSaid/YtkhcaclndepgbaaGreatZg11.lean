/- Package super: Decode of what is no super's page; Slot; Pick. -/
import Derived.Test.YtkhcaclndepgbaaGreatZg10
import Derived.Laws.BitsAllLaws
set_option linter.unusedVariables false
set_option linter.unusedSimpArgs false
set_option maxRecDepth 100000
set_option maxHeartbeats 20000000
namespace Go.Proofs.YtkhcaclndepgbaaGreat
open Go.RowKit Go.Shelf
attribute [local go_sem] Oper.semAt_some
theorem suDecode_bad {w:World} {b off cap:Nat} {f:Nat→Nat} (hb:BytesAt w b off 128 f) (hcap:128≤cap) (hcm:cap≤9223372036854775807) (hf:f 0≠6) :
  Calls Tryz.prog 150 #[.slice (some ⟨b,off,none⟩) 128 cap] w fun e w'=>e = .returned (.tuple #[.agg supZ.row,.int .i64 60])∧Chg [] w w':=by
 obtain ⟨W0,hW0⟩:∃ W0,W0=w.alloc (.cells zSup 49):=⟨_,rfl⟩
 have hc0:Chg [] w W0:=by rw [hW0];exact (Chg.refl [] w).alloc _
 have k0:W0.heap[w.heap.size]?=some (.cells supZ.row 49 (0,0)):=by rw [hW0,supZ_row];exact znb w _
 have hbA:=hb.chg hc0 (by simp)
 have HK0:=Lib.hid (And.intro k0 hc0)
 have HBA:=Lib.hid hbA
 unfold zSup at hW0
 clear hc0 k0 hbA hb
 have HF:=Lib.hid hf
 by_cases hp:pageOK f
 ·have co:=open_right HBA.out hcap hcm hp
  have ik:((f 0:Int) != 6)=true:=by simp;omega
  have CO:=Lib.hid co
  clear co
  go_enter Tryz.func150,Tryz.ntmps150
  go_wp2_with fail
  rw [← hW0]
  refine CO.out.mono ?_
  rintro e w1 ⟨g,c,rfl,q1,q2,q3,q4,q5,q6⟩
  have hr1:=(q6.block _ (zhl HK0.out.1) (by simp)).trans HK0.out.1
  have hcA:=(Chg.refl [] w1).alloc (.cells #[.slice (some ⟨g,0,none⟩) 123 c] 22)
  have hrA:=(hcA.block _ (zhl hr1) (by simp)).trans hr1
  have HR:=Lib.hid (And.intro hrA (HK0.out.2.trans (q6.trans hcA)))
  clear q1 q2 q3 q4 q5 q6 hr1 hcA hrA CO hW0
  go_upto_region 2 with fail
  generalize w1.alloc (.cells #[.slice (some ⟨g,0,none⟩) 123 c] 22)=W at *
  go_wp2_with (refine wpList_storeRow (t:=49) (T:=49) (b:=w.heap.size) (o:=0) (n:=18) (N:=18) (V:=supZ.cellV) (U:=supZ.cellV) rfl (.tmp 2) (.tmp 32) rfl rfl (congrArg Value.agg supZ_row.symm) HR.out.1 (by omega) infoSup (fun i _=>supZ.cell_one i) ?_;intro w9 hr9 hc9;have H9:=Lib.hid (And.intro hr9 hc9);clear hr9 hc9)
  have hr9:=H9.out.1
  rw [laid_sup] at hr9
  refine bodyPost_ret (results_ct (a:=2) (b:=3) (by kernel_rfl) rfl (load_sup (Sup.cells hr9))) rfl ⟨rfl,?_⟩
  exact HR.out.2.then H9.out.2 (fun q hq=>by simp only [List.mem_singleton] at hq;subst hq;exact .inr (Nat.le_refl _))
 ·have co:=open_wrong HBA.out hcap hcm hp
  have CO:=Lib.hid co
  clear co
  go_enter Tryz.func150,Tryz.ntmps150
  go_wp2_with fail
  rw [← hW0]
  refine CO.out.mono ?_
  rintro e w1 ⟨rfl,q6⟩
  have hr1:=(q6.block _ (zhl HK0.out.1) (by simp)).trans HK0.out.1
  have hcA:=(Chg.refl [] w1).alloc (.cells #[.slice none 0 0] 22)
  have hrA:=(hcA.block _ (zhl hr1) (by simp)).trans hr1
  have HR:=Lib.hid (And.intro hrA (HK0.out.2.trans (q6.trans hcA)))
  clear q6 hr1 hcA hrA CO hW0
  go_upto_region 2 with fail
  generalize w1.alloc (.cells #[.slice none 0 0] 22)=W at *
  go_wp2_with (refine wpList_storeRow (t:=49) (T:=49) (b:=w.heap.size) (o:=0) (n:=18) (N:=18) (V:=supZ.cellV) (U:=supZ.cellV) rfl (.tmp 2) (.tmp 32) rfl rfl (congrArg Value.agg supZ_row.symm) HR.out.1 (by omega) infoSup (fun i _=>supZ.cell_one i) ?_;intro w9 hr9 hc9;have H9:=Lib.hid (And.intro hr9 hc9);clear hr9 hc9)
  have hr9:=H9.out.1
  rw [laid_sup] at hr9
  refine bodyPost_ret (results_ct (a:=2) (b:=3) (by kernel_rfl) rfl (load_sup (Sup.cells hr9))) rfl ⟨rfl,?_⟩
  exact HR.out.2.then H9.out.2 (fun q hq=>by simp only [List.mem_singleton] at hq;subst hq;exact .inr (Nat.le_refl _))
theorem suSlot_at (w:World) (n:Nat) (hn:n<18446744073709551616):Calls Tryz.prog 151 #[.int .u64 (n:Int)] w fun e w'=>e = .returned (.int .i64 ((n % 2:Nat):Int))∧w=w':=by
 have E1:bits .and .u64 (n:Int) 1=((n % 2:Nat):Int):=by
  have:=u64_and_nat n 1 hn (by omega)
  rw [Nat.and_one_is_mod] at this
  exact this
 have E2:wrap64 ((n % 2:Nat):Int)=((n % 2:Nat):Int):=by
  have:n % 2<2:=Nat.mod_lt _ (by omega)
  generalize n % 2=m at *
  rw [show wrap64 (m:Int)=(m:Int) from by unfold wrap64;omega]
 go_enter Tryz.func151,Tryz.ntmps151
 go_wp2_with fail
 go_ret
 exact ⟨by simp,rfl⟩
theorem idx8_0 (a1 a2 b1 b2:Nat) (p q:Option Addr) (w:World):(Instr.index 242 (.agg #[.slice p a1 a2,.slice q b1 b2]) (.int .i64 0)).run Tryz.prog w = .ok (.slice p a1 a2) w:=by
 kernel_rfl
theorem idx8_1 (a1 a2 b1 b2:Nat) (p q:Option Addr) (w:World):(Instr.index 242 (.agg #[.slice p a1 a2,.slice q b1 b2]) (.int .i64 1)).run Tryz.prog w = .ok (.slice q b1 b2) w:=by
 kernel_rfl
def DecIs (f:Nat→Nat):Option Sup→Prop
 | none=>f 0≠6
 | some S=>S.Ok∧∀ i,i<128→f i=pageS S i
theorem suDecode_any {w:World} {b off cap:Nat} {f:Nat→Nat} {o:Option Sup} (hb:BytesAt w b off 128 f) (hcap:128≤cap) (hcm:cap≤9223372036854775807) (ho:DecIs f o) :
  Calls Tryz.prog 150 #[.slice (some ⟨b,off,none⟩) 128 cap] w fun e w'=>e = .returned (.tuple #[.agg (o.getD supZ).row,.int .i64 (if o.isSome then 0 else 60)])∧Chg [] w w':=by
 cases o with
 | none=>exact suDecode_bad hb hcap hcm ho
 | some S=>exact suDecode_ok ho.1 hb hcap hcm ho.2
def bestS (o:Nat→Option Sup):Nat→Sup
 | 0=>supZ
 | k+1=>match o k with | some S=>if S.gen % 2=k∧(bestS o k).gen<S.gen then S else bestS o k | none=>bestS o k
theorem best_none {o:Nat→Option Sup} {k:Nat} (h:o k=none):bestS o (k+1)=bestS o k:=by unfold bestS;rw [h];cases k <;> rfl
theorem best_in {o:Nat→Option Sup} {k:Nat} {S:Sup} (h:o k=some S) (h1:S.gen % 2=k) (h2:(bestS o k).gen<S.gen):bestS o (k+1)=S:=by
 show (match o k with | some S=>if S.gen % 2=k∧(bestS o k).gen<S.gen then S else bestS o k | none=>bestS o k)=S
 rw [h]
 exact if_pos ⟨h1,h2⟩
theorem best_out {o:Nat→Option Sup} {k:Nat} {S:Sup} (h:o k=some S) (h1:¬ (S.gen % 2=k∧(bestS o k).gen<S.gen)):bestS o (k+1)=bestS o k:=by
 show (match o k with | some S=>if S.gen % 2=k∧(bestS o k).gen<S.gen then S else bestS o k | none=>bestS o k)=bestS o k
 rw [h]
 exact if_neg h1
theorem best_lt2 {o:Nat→Option Sup} (h:∀ k,k<2→∀ S,o k=some S→S.Ok):∀ k,k≤2→(bestS o k).gen<18446744073709551616
 | 0,_=>by show 0<_;omega
 | k+1,hk=>by
  have ih:=best_lt2 h k (by omega)
  cases ho:o k with
  | none=>rw [best_none ho];exact ih
  | some S =>
   by_cases hc:S.gen % 2=k∧(bestS o k).gen<S.gen
   ·rw [best_in ho hc.1 hc.2];exact (h k (by omega) S ho).gen.2
   ·rw [best_out ho hc];exact ih
theorem suPick_at {w:World} {b0 b1 c0 c1:Nat} {f:Nat→Nat→Nat} {o:Nat→Option Sup} (h0:BytesAt w b0 0 128 (f 0)) (h1:BytesAt w b1 0 128 (f 1)) (hc0:128≤c0) (hc1:128≤c1) (hm0:c0≤9223372036854775807) (hm1:c1≤9223372036854775807)
  (d0:DecIs (f 0) (o 0)) (d1:DecIs (f 1) (o 1)) (hg:(bestS o 2).gen≠0) :
  Calls Tryz.prog 98 #[.slice (some ⟨b0,0,none⟩) 128 c0,.slice (some ⟨b1,0,none⟩) 128 c1] w fun e w'=>e = .returned (.tuple #[.agg (bestS o 2).row,.int .i64 (((bestS o 2).gen % 2:Nat):Int),.int .i64 0])∧Chg [] w w':=by
 have k0:=znd w (.cells zSup 49) (.cells zSup 49)
 have k1:=znc w (.cells zSup 49) (.cells zSup 49)
 have hc:=((Chg.refl [] w).alloc (.cells zSup 49)).alloc (.cells zSup 49)
 obtain ⟨W0,hW0⟩:∃ W0,W0=(w.alloc (.cells zSup 49)).alloc (.cells zSup 49):=⟨_,rfl⟩
 rw [← hW0] at k0 k1 hc
 rw [← supZ_row] at k0 k1
 have hsz:W0.heap.size=w.heap.size+2:=by rw [hW0];simp
 have HK:=Lib.hid (And.intro k0 (And.intro k1 (And.intro hc hsz)))
 have HB:=Lib.hid (And.intro (h0.chg hc (by simp)) (h1.chg hc (by simp)))
 have hok:∀ k,k<2→DecIs (f k) (o k):=fun k hk=>match k,hk with | 0,_=>d0 | 1,_=>d1
 have HD:=Lib.hid hok
 have HNE:=Lib.hid (show b0<w.heap.size∧b1<w.heap.size from ⟨World.block_lt_of_cell? w ⟨b0,0+0,none⟩ (h0 0 (by omega)).1,World.block_lt_of_cell? w ⟨b1,0+0,none⟩ (h1 0 (by omega)).1⟩)
 have HG:=Lib.hid hg
 unfold zSup at hW0
 clear k0 k1 hc hsz h0 h1 d0 d1 hok hg
 go_enter Tryz.func98,Tryz.ntmps98
 go_upto_region 2 with fail
 rw [← hW0]
 clear hW0
 obtain ⟨r,hr⟩:∃ r,r=w.heap.size:=⟨_,rfl⟩
 rw [← hr]
 have HR:=Lib.hid hr
 clear hr
 go_wp2_with fail
 go_loopg [15] 2 (fun gg s wr=>∃ k:Nat,gg=2 - k∧k≤2∧s = .int .i64 (k:Int)∧Hid (Chg [r+1] W0 wr∧wr.heap[r+1]?=some (.cells (bestS o k).row 49 (0,0))))
 case atStart=>exact ⟨0,rfl,Nat.zero_le _,by go_num,Lib.hid ⟨Chg.refl _ _,by rw [HR.out];exact HK.out.2.1⟩⟩
 case round =>
  obtain ⟨k,hgg,hk2,rfl,hX⟩:=hrel
  by_cases hk:k<2
  ·rcases (show k=0∨k=1 by omega) with rfl | rfl
   ·have hbk:=HB.out.1.chg hX.out.1 (by simp only [List.mem_singleton];have:=HNE.out;have:=HR.out;omega)
    have hix:=idx8_0 128 c0 128 c1 (some ⟨b0,0,none⟩) (some ⟨b1,0,none⟩) wr
    have cd:=suDecode_any hbk hc0 hm0 (HD.out 0 (by omega))
    have CD:=Lib.hid cd
    have HX:=Lib.hid hX.out
    have hl1:r+1<wr.heap.size:=zhl hX.out.2
    clear cd hbk hX
    go_wp2_with fail
    refine CD.out.mono ?_
    rintro e w1 ⟨rfl,hc1'⟩
    have kX:=znb w1 (.cells zSup 49)
    have hcX:=(Chg.refl [] w1).alloc (.cells zSup 49)
    rw [← supZ_row] at kX
    have kb:=((hc1'.trans hcX).block _ hl1 (by simp)).trans HX.out.2
    have HC0:=Lib.hid (And.intro kX (And.intro kb (HX.out.1.trans ((hc1'.trans hcX).mono (by simp)))))
    have hbl:r+1<w1.heap.size:=Nat.lt_of_lt_of_le hl1 hc1'.size
    have hwl:wr.heap.size≤w1.heap.size:=hc1'.size
    clear kX hcX kb hc1' CD hix
    have HC1:=Lib.hid (HC0.out)
    rw [supZ_row] at HC1
    unfold zSup at HC1
    go_upto_region 6 with (refine wpList_storeRow (t:=49) (T:=49) (b:=w1.heap.size) (o:=0) (n:=18) (N:=18) (V:=supZ.cellV) (U:=((o 0).getD supZ).cellV) rfl (.tmp 10) (.tmp 22) rfl rfl rfl ?_ (by omega) infoSup (fun i _=>Sup.cell_one _ i) ?_;exact HC0.out.1;intro W2 hr2 hc2;have H2:=Lib.hid (And.intro hr2 hc2);clear hr2 hc2)
    have hX2:=H2.out.1
    rw [laid_sup] at hX2
    have HC:=Lib.hid (And.intro hX2 (And.intro ((H2.out.2.block (r+1) (zhl HC0.out.2.1) (by simp only [List.mem_singleton];omega)).trans HC0.out.2.1) (HC0.out.2.2.then H2.out.2 (fun q hq=>by simp only [List.mem_singleton] at hq;subst hq;exact .inr (by have:=HX.out.1.size;omega)))))
    clear hX2 H2 HC0 HC1
    obtain ⟨xb,hxb⟩:∃ xb,xb=w1.heap.size:=⟨_,rfl⟩
    rw [← hxb] at HC ⊢
    clear hxb HX hl1 hbl hwl
    cases ho:o 0 with
    | none =>
     simp only [ho,Option.isSome_none,Bool.false_eq_true,if_false]
     go_wp2_with fail
     go_roundg (2 - (0+1))
     case measure=>omega
     case rel =>
      refine ⟨0+1,rfl,by omega,by go_num,Lib.hid ⟨HC.out.2.2,?_⟩⟩
      rw [best_none ho]
      exact HC.out.2.1
    | some S =>
     have HOK:=Lib.hid (HD.out 0 (by omega))
     rw [ho] at HOK HC
     have HSK:=Lib.hid HOK.out.1
     clear HOK
     simp only [ho,Option.isSome_some,if_true]
     have g1:=Sup.cell HC.out.1 (i:=0) (by omega)
     have g2:=Sup.cell HC.out.2.1 (i:=0) (by omega)
     change W2.cell? ⟨xb,0,none⟩=some (.int .u64 (S.gen:Int)) at g1
     change W2.cell? ⟨r+1,0,none⟩=some (.int .u64 ((bestS o 0).gen:Int)) at g2
     have cs:=suSlot_at W2 S.gen HSK.out.gen.2
     obtain ⟨m,hm⟩:∃ m,m=S.gen % 2:=⟨_,rfl⟩
     rw [← hm] at cs
     have HM:=Lib.hid hm
     clear hm
     by_cases hp:m=0
     ·subst hp
      go_wp2_with fail
      refine cs.mono ?_
      rintro e w' ⟨rfl,rfl⟩
      by_cases hlt:(bestS o 0).gen<S.gen
      ·have i1:((bestS o 0).gen:Int)<(S.gen:Int):=by omega
       have HLT:=Lib.hid hlt
       clear hlt
       go_wp2_with (first
        | (refine wpList_loadSup (S:=S) rfl (.tmp 10) rfl (k:=xb) (o:=0) rfl (Sup.cells HC.out.1) ?_)
        | (refine wpList_storeRow (t:=49) (T:=49) (b:=r+1) (o:=0) (n:=18) (N:=18) (V:=(bestS o 0).cellV) (U:=S.cellV) rfl (.tmp 7) (.tmp 40) rfl rfl rfl HC.out.2.1 (by omega) infoSup (fun i _=>S.cell_one i) ?_;intro w9 hr9 hc9;have H9:=Lib.hid (And.intro hr9 hc9);clear hr9 hc9))
       go_roundg (2 - (0+1))
       case measure=>omega
       case rel =>
        have h9:=H9.out.1
        rw [laid_sup] at h9
        refine ⟨0+1,rfl,by omega,by go_num,Lib.hid ⟨HC.out.2.2.trans H9.out.2,?_⟩⟩
        rw [best_in ho HM.out.symm HLT.out]
        exact h9
      ·have i1:¬ ((bestS o 0).gen:Int)<(S.gen:Int):=by omega
       have HLT:=Lib.hid hlt
       clear hlt
       go_wp2_with fail
       go_roundg (2 - (0+1))
       case measure=>omega
       case rel =>
        refine ⟨0+1,rfl,by omega,by go_num,Lib.hid ⟨HC.out.2.2,?_⟩⟩
        rw [best_out ho (fun q=>HLT.out q.2)]
        exact HC.out.2.1
     ·have i0:¬ ((m:Int)=0):=by omega
      have HP:=Lib.hid hp
      clear hp
      go_wp2_with fail
      refine cs.mono ?_
      rintro e w' ⟨rfl,rfl⟩
      go_wp2_with fail
      go_roundg (2 - (0+1))
      case measure=>omega
      case rel =>
       refine ⟨0+1,rfl,by omega,by go_num,Lib.hid ⟨HC.out.2.2,?_⟩⟩
       rw [best_out ho (fun q=>HP.out (HM.out.trans q.1))]
       exact HC.out.2.1
   ·have hbk:=HB.out.2.chg hX.out.1 (by simp only [List.mem_singleton];have:=HNE.out;have:=HR.out;omega)
    have hix:=idx8_1 128 c0 128 c1 (some ⟨b0,0,none⟩) (some ⟨b1,0,none⟩) wr
    have cd:=suDecode_any hbk hc1 hm1 (HD.out 1 (by omega))
    have CD:=Lib.hid cd
    have HX:=Lib.hid hX.out
    have hl1:r+1<wr.heap.size:=zhl hX.out.2
    clear cd hbk hX
    go_wp2_with fail
    refine CD.out.mono ?_
    rintro e w1 ⟨rfl,hc1'⟩
    have kX:=znb w1 (.cells zSup 49)
    have hcX:=(Chg.refl [] w1).alloc (.cells zSup 49)
    rw [← supZ_row] at kX
    have kb:=((hc1'.trans hcX).block _ hl1 (by simp)).trans HX.out.2
    have HC0:=Lib.hid (And.intro kX (And.intro kb (HX.out.1.trans ((hc1'.trans hcX).mono (by simp)))))
    have hbl:r+1<w1.heap.size:=Nat.lt_of_lt_of_le hl1 hc1'.size
    have hwl:wr.heap.size≤w1.heap.size:=hc1'.size
    clear kX hcX kb hc1' CD hix
    have HC1:=Lib.hid (HC0.out)
    rw [supZ_row] at HC1
    unfold zSup at HC1
    go_upto_region 6 with (refine wpList_storeRow (t:=49) (T:=49) (b:=w1.heap.size) (o:=0) (n:=18) (N:=18) (V:=supZ.cellV) (U:=((o 1).getD supZ).cellV) rfl (.tmp 10) (.tmp 22) rfl rfl rfl ?_ (by omega) infoSup (fun i _=>Sup.cell_one _ i) ?_;exact HC0.out.1;intro W2 hr2 hc2;have H2:=Lib.hid (And.intro hr2 hc2);clear hr2 hc2)
    have hX2:=H2.out.1
    rw [laid_sup] at hX2
    have HC:=Lib.hid (And.intro hX2 (And.intro ((H2.out.2.block (r+1) (zhl HC0.out.2.1) (by simp only [List.mem_singleton];omega)).trans HC0.out.2.1) (HC0.out.2.2.then H2.out.2 (fun q hq=>by simp only [List.mem_singleton] at hq;subst hq;exact .inr (by have:=HX.out.1.size;omega)))))
    clear hX2 H2 HC0 HC1
    obtain ⟨xb,hxb⟩:∃ xb,xb=w1.heap.size:=⟨_,rfl⟩
    rw [← hxb] at HC ⊢
    clear hxb HX hl1 hbl hwl
    cases ho:o 1 with
    | none =>
     simp only [ho,Option.isSome_none,Bool.false_eq_true,if_false]
     go_wp2_with fail
     go_roundg (2 - (1+1))
     case measure=>omega
     case rel =>
      refine ⟨1+1,rfl,by omega,by go_num,Lib.hid ⟨HC.out.2.2,?_⟩⟩
      rw [best_none ho]
      exact HC.out.2.1
    | some S =>
     have HOK:=Lib.hid (HD.out 1 (by omega))
     rw [ho] at HOK HC
     have HSK:=Lib.hid HOK.out.1
     clear HOK
     simp only [ho,Option.isSome_some,if_true]
     have g1:=Sup.cell HC.out.1 (i:=0) (by omega)
     have g2:=Sup.cell HC.out.2.1 (i:=0) (by omega)
     change W2.cell? ⟨xb,0,none⟩=some (.int .u64 (S.gen:Int)) at g1
     change W2.cell? ⟨r+1,0,none⟩=some (.int .u64 ((bestS o 1).gen:Int)) at g2
     have cs:=suSlot_at W2 S.gen HSK.out.gen.2
     obtain ⟨m,hm⟩:∃ m,m=S.gen % 2:=⟨_,rfl⟩
     rw [← hm] at cs
     have HM:=Lib.hid hm
     clear hm
     by_cases hp:m=1
     ·subst hp
      go_wp2_with fail
      refine cs.mono ?_
      rintro e w' ⟨rfl,rfl⟩
      by_cases hlt:(bestS o 1).gen<S.gen
      ·have i1:((bestS o 1).gen:Int)<(S.gen:Int):=by omega
       have HLT:=Lib.hid hlt
       clear hlt
       go_wp2_with (first
        | (refine wpList_loadSup (S:=S) rfl (.tmp 10) rfl (k:=xb) (o:=0) rfl (Sup.cells HC.out.1) ?_)
        | (refine wpList_storeRow (t:=49) (T:=49) (b:=r+1) (o:=0) (n:=18) (N:=18) (V:=(bestS o 1).cellV) (U:=S.cellV) rfl (.tmp 7) (.tmp 40) rfl rfl rfl HC.out.2.1 (by omega) infoSup (fun i _=>S.cell_one i) ?_;intro w9 hr9 hc9;have H9:=Lib.hid (And.intro hr9 hc9);clear hr9 hc9))
       go_roundg (2 - (1+1))
       case measure=>omega
       case rel =>
        have h9:=H9.out.1
        rw [laid_sup] at h9
        refine ⟨1+1,rfl,by omega,by go_num,Lib.hid ⟨HC.out.2.2.trans H9.out.2,?_⟩⟩
        rw [best_in ho HM.out.symm HLT.out]
        exact h9
      ·have i1:¬ ((bestS o 1).gen:Int)<(S.gen:Int):=by omega
       have HLT:=Lib.hid hlt
       clear hlt
       go_wp2_with fail
       go_roundg (2 - (1+1))
       case measure=>omega
       case rel =>
        refine ⟨1+1,rfl,by omega,by go_num,Lib.hid ⟨HC.out.2.2,?_⟩⟩
        rw [best_out ho (fun q=>HLT.out q.2)]
        exact HC.out.2.1
     ·have i0:¬ ((m:Int)=1):=by omega
      have HP:=Lib.hid hp
      clear hp
      go_wp2_with fail
      refine cs.mono ?_
      rintro e w' ⟨rfl,rfl⟩
      go_wp2_with fail
      go_roundg (2 - (1+1))
      case measure=>omega
      case rel =>
       refine ⟨1+1,rfl,by omega,by go_num,Lib.hid ⟨HC.out.2.2,?_⟩⟩
       rw [best_out ho (fun q=>HP.out (HM.out.trans q.1))]
       exact HC.out.2.1
  ·obtain rfl:k=2:=by omega
   have krA:wr.heap[r]?=some (.cells supZ.row 49 (0,0)):=(hX.out.1.block r (by have:=HK.out;have:=HR.out;omega) (by simp)).trans (by rw [HR.out];exact HK.out.1)
   obtain ⟨B,hB⟩:∃ B,B=bestS o 2:=⟨_,rfl⟩
   have hXb:=hX.out.2
   rw [← hB] at hXb
   have HBB:=Lib.hid hB
   have HX:=Lib.hid (And.intro hXb (And.intro krA hX.out.1))
   have HGB:=Lib.hid (show B.gen≠0 from by rw [hB];exact HG.out)
   have HGL:=Lib.hid (show B.gen<18446744073709551616 from by
    rw [hB]
    refine best_lt2 (fun k hk S hS=>?_) 2 (by omega)
    have:=HD.out k hk
    rw [hS] at this
    exact this.1)
   have g2:wr.cell? ⟨r+1,0,none⟩=some (.int .u64 (B.gen:Int)):=(Sup.cell hXb (i:=0) (by omega)).trans rfl
   have i1:¬ ((B.gen:Int)=0):=by have:=HGB.out;omega
   have hl1:r+1<wr.heap.size:=zhl hXb
   clear hXb hX hB krA
   have hdr:wr.drew.heap[r]?=some (.cells (fnRow 18 supZ.cellV) 49 (0,0)):=HX.out.2.1
   have HDR:=Lib.hid hdr
   clear hdr
   go_upto_region 11 with fail
   refine wp_region_held_drew (S:=fun W'=>W'.cell? ⟨r+1,0,none⟩=some (.int .u64 (B.gen:Int))∧∀ j,j<18→W'.cell? ⟨r+1,0+j,none⟩=some (B.cellV j)) (by kernel_rfl) (by exact ⟨g2,Sup.cells HX.out.1⟩) (fun hHeld=>?_)
   refine wpAnyH_take (i:=0) (oi:=?_) (v := .agg (fnRow 18 B.cellV)) ?_ (by kernel_rfl) (by kernel_rfl) (by kernel_rfl) ?_ (yields_row (n:=18) (V:=B.cellV) Tryz.underlying49 rfl (by kernel_rfl) ?_ (.tmp 7) ?_ ?_ (fun w' hw=>hw.2)) hHeld ?_
   rotate_left 1
   ·(simp only [tA1,tA2,tA3];rfl)
   ·exact fun _ _ _ h=>h
   ·rfl
   ·rfl
   ·(first | rfl | simp [Act.eval,Act.put])
   try simp only [Act.put,sA1,sA2,sA3]
   refine wV 1 ?_ (hy:=by rintro W' ⟨s0,s1⟩;go_simp;first | done | with_reducible rfl)
   refine wV 2 ?_ (hy:=by rintro W' ⟨s0,s1⟩;go_simp;first | done | with_reducible rfl)
   try simp only [Act.put,sA1,sA2,sA3]
   refine wE 3 (fun K hK=>?_)
   (go_simp;refine (suSlot_at wr.drew B.gen HGL.out).mono ?_;rintro e w' ⟨rfl,rfl⟩)
   refine hK.out _ _ (⟨g2,Sup.cells HX.out.1⟩) (fun hHeld=>?_)
   clear hK K
   try simp only [Act.put,sA1,sA2,sA3]
   have hrn:=run_storeCells_row (P:=Tryz.prog) (U:=B.cellV) HDR.out (by omega) (fun i _=>B.cell_one i) (o:=0) (n:=18)
   have hrs:=zfs 18 B.cellV
   have hsl:=setCells_laid (o:=0) (n:=18) (U:=B.cellV) HDR.out
   generalize wr.drew.setCells r 0 (fnRow 18 B.cellV).toList=w9 at hrn hsl
   have H9:=Lib.hid hsl
   clear hsl
   refine wE 4 (fun K hK=>?_)
   (go_simp)
   refine hK.out _ _ (⟨(H9.out.2.cell (p:=⟨r+1,0,none⟩) hl1 (by simp)).trans g2,fun j hj=>(H9.out.2.cell (p:=⟨r+1,0+j,none⟩) hl1 (by simp)).trans (Sup.cells HX.out.1 j hj)⟩) (fun hHeld=>?_)
   clear hK K
   try simp only [Act.put,sA1,sA2,sA3]
   refine wV 5 ?_ (hy:=by rintro W' ⟨s0,s1⟩;go_simp;first | done | with_reducible rfl)
   refine wV 6 ?_ (hy:=by rintro W' ⟨s0,s1⟩;go_simp;first | done | with_reducible rfl)
   try simp only [Act.put,sA1,sA2,sA3]
   refine wpAnyH_done (by kernel_rfl) ?_ _
   go_wp2_with fail
   have hr9:=H9.out.1
   rw [laid_sup] at hr9
   rw [← HBB.out]
   refine bodyPost_ret (results_ctt (a:=4) (b:=5) (c:=6) (by kernel_rfl) rfl (load_sup (Sup.cells hr9))) rfl ⟨rfl,?_⟩
   have hcW:Chg [r+1,r] W0 w9:=(HX.out.2.2.mono (by simp)).trans (Chg.trans (b:=wr.drew) ((Chg.refl _ _).drew) (H9.out.2.mono (by simp)))
   exact HK.out.2.2.1.then hcW (fun q hq=>by simp only [List.mem_cons,List.not_mem_nil,or_false] at hq;have:=HR.out;rcases hq with e | e <;> exact .inr (by omega))
end Go.Proofs.YtkhcaclndepgbaaGreat
