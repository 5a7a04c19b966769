/- Layer 10: a page is placed; which one is next. · Layer 10 in plain words: there is a block for each page; what is left behind. -/
import Derived.Test.YtkhcaclndepgbaaGreatZn12
set_option linter.unusedVariables false
set_option linter.unusedSimpArgs false
set_option maxRecDepth 100000
set_option maxHeartbeats 20000000
namespace Go.Proofs.YtkhcaclndepgbaaGreat
open Go.RowKit
theorem ShAt.put {w w':World} {x p t bc bk:Nat} {g h c:Nat->Nat} {S:PS} {k i:Nat} (H:ShAt w x p t bc bk g h c S) (hk:k<2) (hi:i<S.n k) {T':Tal} {K':Pk} (hpt:PT w' p t bc bk K' T') (hn:T'.n=S.T.n)
  (C:Chg [p,t,bc,bk] w w') (v:Nat) :
  ShAt ((w'.setCell ⟨g k,i,none⟩ (.int .i64 (v:Int))).setCell ⟨h k,i,none⟩ (.bool true)) x p t bc bk g h c ⟨T',K',S.n,upd2 S.a k i v,upd2 S.p k i true⟩ /\
   Chg [g 0,g 1,h 0,h 1,p,t,bc,bk] w ((w'.setCell ⟨g k,i,none⟩ (.int .i64 (v:Int))).setCell ⟨h k,i,none⟩ (.bool true)):=by
 have hnd:=H.nd;simp only [List.nodup_cons,List.mem_cons,List.not_mem_nil,or_false,not_or,List.nodup_nil,and_true] at hnd;obtain ⟨⟨nx1,nx2,nx3,nx4,nx5,nx6,nx7,nx8⟩,⟨a1,a2,a3,a4,a5,a6,a7⟩,⟨b2,b3,b4,b5,b6,b7⟩,⟨c3,c4,c5,c6,c7⟩,⟨d4,d5,d6,d7⟩,_⟩:=hnd;have hk2:k=0∨k=1:=by omega
 have oc:∀ (j:Nat) (u:Value) (b:Nat) (W:World),b≠j->∀ q,(W.setCell ⟨j,q,none⟩ u).heap[b]?=W.heap[b]?:=fun j u b W hb q=>zso q u hb;have CC:Chg [g k,h k] w' ((w'.setCell ⟨g k,i,none⟩ (.int .i64 (v:Int))).setCell ⟨h k,i,none⟩ (.bool true)):=((Chg.refl _ _).setCell (.inl (by simp)) _).setCell (.inl (by simp)) _
 have mk:∀ b,b∈[g k,h k]->b=g 0∨b=g 1∨b=h 0∨b=h 1:=by
  rcases hk2 with rfl | rfl <;> intro b hb <;> simp at hb <;> rcases hb with rfl | rfl <;> simp
 have nn:∀ b,b≠g 0->b≠g 1->b≠h 0->b≠h 1->b∉[g k,h k]:=fun b e1 e2 e3 e4 hm=>by rcases mk b hm with q | q | q | q <;> contradiction
 refine ⟨⟨hpt.chg CC (nn p (Ne.symm a4) (Ne.symm b4) (Ne.symm c4) (Ne.symm d4)) (nn t (Ne.symm a5) (Ne.symm b5) (Ne.symm c5) (Ne.symm d5)) (nn bc (Ne.symm a6) (Ne.symm b6) (Ne.symm c6) (Ne.symm d6)) (nn bk (Ne.symm a7) (Ne.symm b7) (Ne.symm c7) (Ne.symm d7)),?_,?_,?_,H.nd,by rw [hn];exact H.n0,by rw [hn];exact H.n1⟩,?_⟩
 ·exact (CC.block x (zLl (zhl H.top) C.size) (nn x nx1 nx2 nx3 nx4)).trans ((C.block x (zhl H.top) (by simp only [List.mem_cons,List.not_mem_nil,or_false,not_or];exact ⟨nx5,nx6,nx7,nx8⟩)).trans H.top)
 ·intro k' hk'
  obtain ⟨cur,q1,q2,q3,q4,q5⟩:=H.ats k' hk'
  have hgk:g k'∉[p,t,bc,bk]:=by
   have hk2':k'=0∨k'=1:=by omega
   simp only [List.mem_cons,List.not_mem_nil,or_false,not_or];rcases hk2' with rfl | rfl
   ·exact ⟨a4,a5,a6,a7⟩
   ·exact ⟨b4,b5,b6,b7⟩
  have q1':=(C.block (g k') (zhl q1) hgk).trans q1
  have hgh:g k'≠h k:=by
   have hk2':k'=0∨k'=1:=by omega
   rcases hk2 with rfl | rfl <;> rcases hk2' with rfl | rfl <;> assumption
  by_cases e:k'=k
  ·subst e
   refine ⟨cur.setIfInBounds i (.int .i64 (v:Int)),by rw [oc _ _ _ _ hgh,zsb q1'],by simp [q2],q3,q4,fun j hj=>?_⟩;rw [Array.getElem?_setIfInBounds];by_cases ej:i=j
   ·subst ej
    rw [if_pos rfl,if_pos (by rw [q2];omega)];simp [upd2]
   ·rw [if_neg ej,q5 j hj]
    simp [upd2,Ne.symm ej]
  ·have hgg:g k'≠g k:=by
    have hk2':k'=0∨k'=1:=by omega
    rcases hk2 with rfl | rfl <;> rcases hk2' with rfl | rfl <;> first | exact absurd rfl e | exact a1 | exact Ne.symm a1
   refine ⟨cur,by rw [oc _ _ _ _ hgh,oc _ _ _ _ hgg,q1'],q2,q3,q4,fun j hj=>?_⟩;rw [q5 j hj];simp [upd2,e]
 ·intro k' hk'
  have q1:=H.pls k' hk'
  have hgk:h k'∉[p,t,bc,bk]:=by
   have hk2':k'=0∨k'=1:=by omega
   simp only [List.mem_cons,List.not_mem_nil,or_false,not_or];rcases hk2' with rfl | rfl
   ·exact ⟨c4,c5,c6,c7⟩
   ·exact ⟨d4,d5,d6,d7⟩
  have q1':=(C.block (h k') (zhl q1) hgk).trans q1
  have hgh:h k'≠g k:=by
   have hk2':k'=0∨k'=1:=by omega
   rcases hk2 with rfl | rfl <;> rcases hk2' with rfl | rfl <;> first | exact Ne.symm a2 | exact Ne.symm a3 | exact Ne.symm b2 | exact Ne.symm b3
  have q1'':(w'.setCell ⟨g k,i,none⟩ (.int .i64 (v:Int))).heap[h k']?=_:=(oc _ _ _ _ hgh _).trans q1';by_cases e:k'=k
  ·subst e
   show (World.setCell _ ⟨h k',i,none⟩ _).heap[h k']?=some (.cells (bools (S.n k') (upd2 S.p k' i true k')) 4 (0,0))
   rw [zsb q1'',bools_set hi];congr 2;congr 1;funext j
   simp [upd2]
  ·have hhh:h k'≠h k:=by
    have hk2':k'=0∨k'=1:=by omega
    rcases hk2 with rfl | rfl <;> rcases hk2' with rfl | rfl <;> first | exact absurd rfl e | exact c3 | exact Ne.symm c3
   show (World.setCell _ ⟨h k,i,none⟩ _).heap[h k']?=some (.cells (bools (S.n k') (upd2 S.p k i true k')) 4 (0,0))
   rw [oc _ _ _ _ hhh,q1''];congr 2;congr 1;funext j
   simp [upd2,e]
 ·refine (C.mono (by simp)).trans (CC.mono fun b hb=>?_)
  rcases mk b hb with rfl | rfl | rfl | rfl <;> simp
theorem takeB_new (S:PS) (k i:Nat):takeB (S.T1 k i) S.K=((S.new k i:Nat):Int):=by
 unfold takeB PS.new;cases takeR (S.T1 k i) S.K <;> rfl
theorem place_at {w:World} {x p t bc bk:Nat} {g h c:Nat->Nat} {S:PS} {k i:Nat} (H:ShAt w x p t bc bk g h c S) (hk:k<2) (hi:i<S.n k) :
  Calls Tryz.prog 135 #[.pointer (some ⟨x,0,none⟩),.int .i64 (k:Int),.int .i64 (i:Int)] w fun e w'=>e = .returned (.int .i64 (takeE (S.T1 k i) S.K))/\ShAt w' x p t bc bk g h c (S.step k i)/\Chg [g 0,g 1,h 0,h 1,p,t,bc,bk] w w':=by
 have top:=H.top;have ac:=H.atc hk hi;have ca:=H.atcap hk;have nl:=H.nle hk;have hx:=zhl top;have HX:=zh top;have hnd:=H.nd;simp only [List.nodup_cons,List.mem_cons,List.not_mem_nil,or_false,not_or,List.nodup_nil,and_true] at hnd;obtain ⟨⟨nx1,nx2,nx3,nx4,nx5,nx6,nx7,nx8⟩,⟨a1,a2,a3,a4,a5,a6,a7⟩,⟨b2,b3,b4,b5,b6,b7⟩,⟨c3,c4,c5,c6,c7⟩,⟨d4,d5,d6,d7⟩,_⟩:=hnd;have HNX:Hid (x∉[p,t,bc,bk]):=zh (by simp only [List.mem_cons,List.not_mem_nil,or_false,not_or];exact ⟨nx5,nx6,nx7,nx8⟩);have x0:=zcb top 0;have x1:=zcb top 1;have x2:=zcb top 2;have x3:=zcb top 3;have x4:=zcb top 4;have x5:=zcb top 5;simp only [tA1,tA3,tA2] at x0 x1 x2 x3 x4 x5;clear top;have i0:(0:Int)<=(i:Int):=by omega
 have i1:(i:Int)<(S.n k:Int):=by omega
 have H1:∃ w1,True:=⟨w,trivial⟩;have HP:=zh H.pt;have hcur:∃ cur,Hid (w.heap[g k]?=some (.cells cur 3 (0,0))):=by obtain ⟨cur,h1,_⟩:=H.ats k hk;exact ⟨cur,h1⟩
 obtain ⟨cur,HG⟩:=hcur;have HH:=zh (H.pls k hk)
 have HGN:Hid (g k∉[p,t,bc,bk]/\h k∉[p,t,bc,bk]/\h k≠g k):=zh (by
  have hk2:k=0∨k=1:=by omega
  simp only [List.mem_cons,List.not_mem_nil,or_false,not_or];rcases hk2 with rfl | rfl
  ·exact ⟨⟨a4,a5,a6,a7⟩,⟨c4,c5,c6,c7⟩,Ne.symm a2⟩
  ·exact ⟨⟨b4,b5,b6,b7⟩,⟨d4,d5,d6,d7⟩,Ne.symm b3⟩)
 clear H1 nx1 nx2 nx3 nx4 nx5 nx6 nx7 nx8 a1 a2 a3 a4 a5 a6 a7 b2 b3 b4 b5 b6 b7 c3 c4 c5 c6 c7 d4 d5 d6 d7;have HF:=zh (fun (w2:World) (hp:PT w2 p t bc bk (takeK (S.T1 k i) S.K) (takeT (S.T1 k i) S.K)) (hc:Chg [p,t,bc,bk] w w2)=>H.put hk hi hp (by rw [takeT_n,T1_n]) hc (S.new k i));have hk2:k=0∨k=1:=by omega
 by_cases ha:S.a k i=0
 ·have eT:S.T1 k i=S.T:=by unfold PS.T1;rw [if_pos ha]
  have HP1:=zh (show PT w p t bc bk S.K (S.T1 k i) by rw [eT];exact HP.out);clear eT;rw [ha] at ac;rw [show (((0:Nat)):Int)=0 from rfl] at ac;rcases hk2 with rfl | rfl
  all_goals
   go_enter Tryz.func135,Tryz.ntmps135;go_wp2_with fail;refine (PT.take HP1.out).mono ?_;rintro e w2 ⟨rfl,hP2,hC2⟩;rw [takeB_new];have HP2:=zh hP2;have HC2:=zh hC2;have y2:=(hC2.cell (p:=⟨x,2,none⟩) hx HNX.out).trans x2;have y3:=(hC2.cell (p:=⟨x,3,none⟩) hx HNX.out).trans x3;have y4:=(hC2.cell (p:=⟨x,4,none⟩) hx HNX.out).trans x4;have y5:=(hC2.cell (p:=⟨x,5,none⟩) hx HNX.out).trans x5;have hg2:=(hC2.block _ (zhl HG.out) HGN.out.1).trans HG.out;have hh2:=(hC2.block _ (zhl HH.out) HGN.out.2.1).trans HH.out;have z1:=zfb hg2 i;have z2:=zfb hh2 i;have z3:=(hC2.cell (p:=⟨g _,i,none⟩) (zhl HG.out) HGN.out.1).trans ac;have z4:=(hC2.cell (p:=⟨h _,i,none⟩) (zhl HH.out) HGN.out.2.1).trans (H.plc hk hi);have hne:=HGN.out.2.2;clear hP2 hC2 hg2 hh2 x0 x1 x2 x3 x4 x5 ac;go_wp2_with fail
   go_region
   go_wp2_with fail;go_ret;have hf:=HF.out _ HP2.out HC2.out;exact ⟨rfl,hf.1.chg ((Chg.refl [] _).drew) (by simp),hf.2.drew⟩
 ·have eT:S.T1 k i=down S.T (S.a k i:Int):=by unfold PS.T1;rw [if_neg ha]
  have HET:=zh eT;have ha':¬ (S.a k i:Int)=0:=by omega
  have ha2:((S.a k i:Int) != 0)=true:=by simp;exact ha
  clear eT;rcases hk2 with rfl | rfl
  all_goals
   go_enter Tryz.func135,Tryz.ntmps135;go_wp2_with fail;refine (PT.down HP.out (S.a _ i:Int)).mono ?_;rintro e w1 ⟨rfl,hP1,hC1⟩;rw [<- HET.out] at hP1;have HP1:=zh hP1;have HC1:=zh hC1;have v1:=(hC1.cell (p:=⟨x,1,none⟩) hx HNX.out).trans x1;clear hP1 hC1;go_wp2_with fail;refine (PT.take HP1.out).mono ?_;rintro e w2 ⟨rfl,hP2,hC2'⟩;have hC2:=HC1.out.trans hC2';clear hC2' v1;rw [takeB_new];have HP2:=zh hP2;have HC2:=zh hC2;have y2:=(hC2.cell (p:=⟨x,2,none⟩) hx HNX.out).trans x2;have y3:=(hC2.cell (p:=⟨x,3,none⟩) hx HNX.out).trans x3;have y4:=(hC2.cell (p:=⟨x,4,none⟩) hx HNX.out).trans x4;have y5:=(hC2.cell (p:=⟨x,5,none⟩) hx HNX.out).trans x5;have hg2:=(hC2.block _ (zhl HG.out) HGN.out.1).trans HG.out;have hh2:=(hC2.block _ (zhl HH.out) HGN.out.2.1).trans HH.out;have z1:=zfb hg2 i;have z2:=zfb hh2 i;have z3:=(hC2.cell (p:=⟨g _,i,none⟩) (zhl HG.out) HGN.out.1).trans ac;have z4:=(hC2.cell (p:=⟨h _,i,none⟩) (zhl HH.out) HGN.out.2.1).trans (H.plc hk hi);have hne:=HGN.out.2.2;clear hP2 hC2 hg2 hh2 x0 x1 x2 x3 x4 x5 ac;go_wp2_with fail
   go_region
   go_wp2_with fail;go_ret;have hf:=HF.out _ HP2.out HC2.out;exact ⟨rfl,hf.1.chg ((Chg.refl [] _).drew) (by simp),hf.2.drew⟩
theorem idx0 (a1 a2 b1 b2:Nat) (p q:Option Addr) (w:World):(Instr.index 218 (.agg #[.slice p a1 a2,.slice q b1 b2]) (.int .i64 0)).run Tryz.prog w = .ok (.slice p a1 a2) w:=by
 simp [Instr.index,run_underlying Tryz.underlying218,asIntOf,go_sem]
theorem idx1 (a1 a2 b1 b2:Nat) (p q:Option Addr) (w:World):(Instr.index 218 (.agg #[.slice p a1 a2,.slice q b1 b2]) (.int .i64 1)).run Tryz.prog w = .ok (.slice q b1 b2) w:=by
 simp [Instr.index,run_underlying Tryz.underlying218,asIntOf,go_sem]
def nextK (S:PS):Int:=match S.next with | some (k,_)=>k | none => -1
def nextI (S:PS):Int:=match S.next with | some (_,i)=>i | none => -1
def nNone (S:PS) (j:Nat):Prop:=∀ j',j'<j->zff (S.want j') 0 (S.n j')=none
theorem next_hit {S:PS} {j i:Nat} (hj:j<2) (hn:nNone S j) (h:zff (S.want j) 0 (S.n j)=some i):S.next=some (j,i):=by
 have hj2:j=0∨j=1:=by omega
 unfold PS.next;rcases hj2 with rfl | rfl
 ·rw [h]
 ·rw [hn 0 (by omega)];simp only;rw [h]
theorem next_miss {S:PS} (hn:nNone S 2):S.next=none:=by
 unfold PS.next;rw [hn 0 (by omega)];simp only;rw [hn 1 (by omega)]
theorem next_at {w:World} {x p t bc bk q:Nat} {g h c:Nat->Nat} {S:PS} (H:ShAt w x p t bc bk g h c S) (hq:w.heap[q]?=some (.cells #[.pointer (some ⟨x,0,none⟩)] 216 (0,0))) :
  Calls Tryz.prog 133 #[.pointer (some ⟨q,0,none⟩)] w fun e w'=>e = .returned (.tuple #[.int .i64 (nextK S),.int .i64 (nextI S)])/\Chg [] w w':=by
 have top:=H.top;have hx:=zhl top;have lq:=zhl hq;have HQ:=zh hq;have x0:=zcb top 0;have x1:=zcb top 1;have x2:=zcb top 2;have x3:=zcb top 3;have x4:=zcb top 4;have x5:=zcb top 5;simp only [tA1,tA3,tA2] at x0 x1 x2 x3 x4 x5;have q0:=zcb hq 0;simp only [tA1,tA3,tA2] at q0;clear top hq;have HH:=zh H;have n0:=H.nle (k:=0) (by omega);have n1:=H.nle (k:=1) (by omega);go_enter Tryz.func133,Tryz.ntmps133;go_wp2_with fail;clear x0 x1 x2 x3 x4 x5 q0
 go_loopw [10] (fun s wr=>∃ j:Nat,j<=2/\s = .int .i64 (j:Int)/\Hid (nNone S j/\Chg [] w wr)) (fun s _=>2 - (intOf s).toNat)
 case atStart=>exact ⟨0,by omega,rfl,⟨fun j hj=>by omega,Chg.refl _ _⟩⟩
 case round =>
  obtain ⟨j,hj,rfl,hH⟩:=hrel;have q0:=zcb HQ.out 0;simp only [tA1,tA3] at q0;have hj3:j=0∨j=1∨j=2:=by omega
  have ix0:=fun w=>idx0 (S.n 0) (c 0) (S.n 1) (c 1) (some ⟨g 0,0,none⟩) (some ⟨g 1,0,none⟩) w;have ix1:=fun w=>idx1 (S.n 0) (c 0) (S.n 1) (c 1) (some ⟨g 0,0,none⟩) (some ⟨g 1,0,none⟩) w;rcases hj3 with rfl | rfl | rfl
  ·rw [show (((0:Nat)):Int)=0 from rfl]
   go_wp2_with fail
   go_loopw [16] (fun s wr2=>∃ m:Nat,m<=S.n 0/\s = .int .i64 (m:Int)/\Hid (zff (S.want 0) 0 (S.n 0)=zff (S.want 0) m (S.n 0 - m)/\Chg [] w wr2)) (fun s _=>S.n 0 - (intOf s).toNat)
   case atStart=>exact ⟨0,Nat.zero_le _,rfl,⟨by rw [Nat.sub_zero],hH.out.2⟩⟩
   case round =>
    obtain ⟨m,hm,rfl,hM⟩:=hrel;have q1:=(hM.out.2.cell (p:=⟨q,0,none⟩) lq (by simp)).trans q0;have HR:=zh (HH.out.chg hM.out.2 (by simp));by_cases hlt:m<S.n 0
    ·have cW:=wants_at (k:=0) HR.out (by omega) hlt
     rw [show (((0:Nat)):Int)=0 from rfl] at cW;go_wp2_with fail;refine cW.mono ?_;clear cW;rintro e w2 ⟨rfl,hC2⟩;have HC2:=zh (hM.out.2.trans hC2);clear hC2 q1
     cases hwt:S.want 0 m with
     | true =>
      have HZ:=zh (next_hit (by omega) hH.out.1 (hM.out.1.trans (firstFree_hit hlt hwt)));go_wp2_with fail
      go_ret2
      exact ⟨by unfold nextK nextI;rw [HZ.out] <;> rfl,HC2.out⟩
     | false =>
      have HZ:=zh (hM.out.1.trans (firstFree_on hlt hwt));go_wp2_with fail
      go_roundw
      case rel=>exact ⟨m+1,by omega,by go_num,⟨HZ.out,HC2.out⟩⟩
      case measure=>simp [intOf];omega
    ·obtain rfl:m=S.n 0:=by omega
     go_wp2_with fail
     go_roundw
     case rel=>exact ⟨1,by omega,by go_num,⟨fun j' hj'=>by
      by_cases e:j'<0
      ·exact hH.out.1 j' e
      ·obtain rfl:j'=0:=by omega
       exact hM.out.1.trans firstFree_end,hM.out.2⟩⟩
     case measure=>simp [intOf]
  ·rw [show (((1:Nat)):Int)=1 from rfl]
   go_wp2_with fail
   go_loopw [16] (fun s wr2=>∃ m:Nat,m<=S.n 1/\s = .int .i64 (m:Int)/\Hid (zff (S.want 1) 0 (S.n 1)=zff (S.want 1) m (S.n 1 - m)/\Chg [] w wr2)) (fun s _=>S.n 1 - (intOf s).toNat)
   case atStart=>exact ⟨0,Nat.zero_le _,rfl,⟨by rw [Nat.sub_zero],hH.out.2⟩⟩
   case round =>
    obtain ⟨m,hm,rfl,hM⟩:=hrel;have q1:=(hM.out.2.cell (p:=⟨q,0,none⟩) lq (by simp)).trans q0;have HR:=zh (HH.out.chg hM.out.2 (by simp));by_cases hlt:m<S.n 1
    ·have cW:=wants_at (k:=1) HR.out (by omega) hlt
     rw [show (((1:Nat)):Int)=1 from rfl] at cW;go_wp2_with fail;refine cW.mono ?_;clear cW;rintro e w2 ⟨rfl,hC2⟩;have HC2:=zh (hM.out.2.trans hC2);clear hC2 q1
     cases hwt:S.want 1 m with
     | true =>
      have HZ:=zh (next_hit (by omega) hH.out.1 (hM.out.1.trans (firstFree_hit hlt hwt)));go_wp2_with fail
      go_ret2
      exact ⟨by unfold nextK nextI;rw [HZ.out] <;> rfl,HC2.out⟩
     | false =>
      have HZ:=zh (hM.out.1.trans (firstFree_on hlt hwt));go_wp2_with fail
      go_roundw
      case rel=>exact ⟨m+1,by omega,by go_num,⟨HZ.out,HC2.out⟩⟩
      case measure=>simp [intOf];omega
    ·obtain rfl:m=S.n 1:=by omega
     go_wp2_with fail
     go_roundw
     case rel=>exact ⟨2,by omega,by go_num,⟨fun j' hj'=>by
      by_cases e:j'<1
      ·exact hH.out.1 j' e
      ·obtain rfl:j'=1:=by omega
       exact hM.out.1.trans firstFree_end,hM.out.2⟩⟩
     case measure=>simp [intOf]
  ·go_wp2_with fail
   go_ret2
   exact ⟨by unfold nextK nextI;rw [next_miss hH.out.1] <;> rfl,hH.out.2⟩
theorem room_set_ge {T:Tal} {b v f:Nat} (hb:b<T.n) (h:T.free b=false):roomI T f<=roomI (T.set b v) f:=by
 have h1:=frees_set T v hb;rw [h] at h1;unfold roomI;by_cases hf:b<f
 ·have h2:=cnt_upd (p:=T.free) (q:=(T.set b v).free) (n:=f) hf (fun i _ hne=>by simp [Tal.free,Tal.set,hne])
  rw [h] at h2;simp only [Bool.false_eq_true,if_false] at h1 h2;omega
 ·have h2:cnt f (T.set b v).free=cnt f T.free:=cnt_congr fun i hi=>by
   have:i≠b:=by omega
   simp [Tal.free,Tal.set,this]
  rw [h2];simp only [Bool.false_eq_true,if_false] at h1;omega
structure PInv (S:PS):Prop where
 ok:ShOk S.T S.n S.a
 f:S.K.first<=S.K.next
 nx:S.K.next<=S.T.n
 room:(S.left:Int)<=roomI S.T S.K.first
theorem T1_room {S:PS} {k i:Nat} (h:ShOk S.T S.n S.a) (hk:k<2) (hi:i<S.n k) (f:Nat):roomI S.T f<=roomI (S.T1 k i) f:=by
 unfold PS.T1
 split
 ·exact Int.le_refl _
 ·rename_i h0
  have ⟨h1,h2⟩:=h.has k i hk hi h0;rw [down_now h1 h2];exact room_set_ge h1 (by simp [Tal.free,h2])
theorem PInv.block {S:PS} (H:PInv S) {k i:Nat} (hk:k<2) (hi:i<S.n k) (hw:S.want k i=true):∃ b,takeR (S.T1 k i) S.K=some b/\S.K.first<=b/\b<S.T.n/\(S.T1 k i).free b=true:=by
 have hl:=PS.left_pos hk hi hw;have hr:=T1_room H.ok hk hi S.K.first;have hrm:=H.room
 cases ht:takeR (S.T1 k i) S.K with
 | none =>
  have:=room_none H.f (by rw [T1_n];exact H.nx) ht;omega
 | some b =>
  obtain ⟨h1,h2,h3⟩:=takeR_spec H.f (by rw [T1_n];exact H.nx) ht;rw [T1_n] at h2;exact ⟨b,rfl,h1,h2,h3⟩
theorem PInv.err {S:PS} (H:PInv S) {k i:Nat} (hk:k<2) (hi:i<S.n k) (hw:S.want k i=true):takeE (S.T1 k i) S.K=0:=by
 obtain ⟨b,h,_⟩:=H.block hk hi hw;unfold takeE;rw [h]
theorem PInv.step {S:PS} (H:PInv S) {k i:Nat} (hk:k<2) (hi:i<S.n k) (hw:S.want k i=true):PInv (S.step k i):=by
 obtain ⟨b,ht,h1,h2,h3⟩:=H.block hk hi hw;have ⟨e1,e2⟩:=step_some ht;have hKb:=takeK_bd (T:=S.T1 k i) H.f (by rw [T1_n];exact H.nx);have hnow:=fun x=>T1_now H.ok hk hi x
 have hb0:(S.T1 k i).now b=0:=by
  simp only [Tal.free,Bool.and_eq_true,beq_iff_eq] at h3;exact h3.1
 have keep:∀ k' i',k'<2->i'<S.n k'->¬ (k'=k/\i'=i)->S.a k' i'≠0->(S.T1 k i).now (S.a k' i')≠0/\S.a k' i'≠b:=by
  intro k' i' hk' hi' hne h0;have hh:=(H.ok.has k' i' hk' hi' h0).2
  have e:(S.T1 k i).now (S.a k' i')=S.T.now (S.a k' i'):=by
   rw [hnow,if_neg];rintro ⟨e,_⟩;exact hne (H.ok.apart k' i' k i hk' hi' hk hi h0 e)
  refine ⟨by rw [e];exact hh,fun q=>?_⟩;rw [q] at e;rw [hb0,<- q] at e;exact hh e.symm
 have hn:(S.step k i).T.n=S.T.n:=by rw [e1];exact T1_n S k i
 refine ⟨⟨?_,?_,?_,?_⟩,hKb.1,?_,?_⟩
 ·rw [hn];exact H.ok.n0
 ·rw [hn];exact H.ok.n1
 ·intro k' i' hk' hi' h0
  rw [hn,e1]
  show _<S.T.n/\((S.T1 k i).set b 1).now _≠0
  by_cases e:k'=k/\i'=i
  ·obtain ⟨rfl,rfl⟩:=e
   have ea:(S.step k' i').a k' i'=b:=by show upd2 S.a k' i' _ k' i'=b;rw [upd2_same,e2]
   rw [ea,set_now,if_pos rfl];exact ⟨h2,by omega⟩
  ·have ea:(S.step k i).a k' i'=S.a k' i':=upd2_other _ _ e
   rw [ea] at h0 ⊢;have ⟨q1,q2⟩:=keep k' i' hk' hi' e h0;rw [set_now,if_neg q2];exact ⟨(H.ok.has k' i' hk' hi' h0).1,q1⟩
 ·intro k' i' k'' i'' hk' hi' hk'' hi'' h0 he
  by_cases e:k'=k/\i'=i
  ·obtain ⟨rfl,rfl⟩:=e
   have ea:(S.step k' i').a k' i'=b:=by show upd2 S.a k' i' _ k' i'=b;rw [upd2_same,e2]
   by_cases e':k''=k'/\i''=i'
   ·exact ⟨e'.1.symm,e'.2.symm⟩
   ·have ea':(S.step k' i').a k'' i''=S.a k'' i'':=upd2_other _ _ e'
    rw [ea'] at he;exact absurd (he.symm.trans ea) (keep k'' i'' hk'' hi'' e' (by rw [<- he];exact h0)).2
  ·have ea:(S.step k i).a k' i'=S.a k' i':=upd2_other _ _ e
   by_cases e':k''=k/\i''=i
   ·obtain ⟨rfl,rfl⟩:=e'
    have ea':(S.step k'' i'').a k'' i''=b:=by show upd2 S.a k'' i'' _ k'' i''=b;rw [upd2_same,e2]
    rw [ea] at he h0;exact absurd (he.trans ea') (keep k' i' hk' hi' e h0).2
   ·have ea':(S.step k i).a k'' i''=S.a k'' i'':=upd2_other _ _ e'
    rw [ea] at he h0;rw [ea'] at he;exact H.ok.apart k' i' k'' i'' hk' hi' hk'' hi'' h0 he
 ·have:=hKb.2.1
  rw [T1_n] at this;rw [hn];exact this
 ·have hl:=PS.left_step hk hi hw
  have hr:=T1_room H.ok hk hi S.K.first;have hrm:=H.room;have hs:=room_some (T:=S.T1 k i) h1 (by rw [T1_n];exact h2) h3;have ef:(S.step k i).K.first=S.K.first:=hKb.2.2.2;rw [ef,e1,hs];omega
theorem PInv.start {T:Tal} {K:Pk} {n:Nat->Nat} {a:Nat->Nat->Nat} (h:ShOk T n a) (hf:K.first<=K.next) (hn:K.next<=T.n) (hr:(needN T.n:Int)<=roomI T K.first):PInv ⟨T,K,n,a,fun _ _=>false⟩:=by
 refine ⟨h,hf,hn,?_⟩;have h0:cnt (n 0) (fun i=>true)=n 0:=cnt_true _;have h1:cnt (n 1) (fun i=>true)=n 1:=cnt_true _
 have:(PS.left ⟨T,K,n,a,fun _ _=>false⟩)=needN T.n:=by
  unfold PS.left needN;simp only [Bool.not_false];rw [h0,h1,h.n0,h.n1]
 rw [this];exact hr
end Go.Proofs.YtkhcaclndepgbaaGreat
