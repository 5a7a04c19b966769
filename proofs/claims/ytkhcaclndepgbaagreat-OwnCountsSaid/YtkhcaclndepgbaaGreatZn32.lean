/- Package base: Commit. -/
import Derived.Test.YtkhcaclndepgbaaGreatZn30
set_option linter.unusedVariables false
set_option linter.unusedSimpArgs false
set_option maxRecDepth 100000
set_option maxHeartbeats 20000000
namespace Go.Proofs.YtkhcaclndepgbaaGreat
open Go.RowKit
theorem bCommit_none {w:World} {M:Bm} {F:List Nat} {B:Bs} (h:BaseAt w M F B) (hc:chgs B.T=[]) (hS:B.S.row=B.Kp.row) :
  Calls Tryz.prog 19 #[.pointer (some ⟨M.b,0,none⟩)] w fun e w'=>e = .returned (.int .i64 0)/\BaseAt w' M F B/\Chg [] w w':=by
 have h':=h;obtain ⟨R,hB,hFF⟩:=h';have cm:=bMay_at hB.c;have c1:=hB.c.c1;have CC:=zh (changed_at (hB.c.pt.ht.chg (Chg.refl [] w).drew (by simp) (by simp) (by simp)));have hEq:∀ w,(Op.equalIn 10000 49 (.agg (fnRow 18 B.S.cellV)) (.agg (fnRow 18 B.Kp.cellV))).run Tryz.prog w = .ok true w:=fun w=>sup_same w hS;have HB:=zh (zA h (zA hB.c.sCell hB.c.kCell));have HC:=zh hc;have l1:=zhl hB.c.top;clear h hB hFF hc hS;go_enter Tryz.func19,Tryz.ntmps19;go_wp2_with fail;refine (cm).mono ?_;rintro e w' ⟨rfl,rfl⟩;go_upto_region 4 with fail;refine wp_region_held_drew (S:=fun W'=>W'.cell? ⟨M.b,1,none⟩=some (.pointer (some ⟨M.t,0,none⟩))/\(∀ j,j<18->W'.cell? ⟨M.b,6+j,none⟩=some (B.S.cellV j))/\∀ j,j<18->W'.cell? ⟨M.b,24+j,none⟩=some (B.Kp.cellV j)) (by kernel_rfl) (by exact ⟨c1,HB.out.2.1,HB.out.2.2⟩) (fun hHeld=>?_);refine wVb 0 ?_;refine wVb 1 ?_;refine wVb 2 ?_;try simp only [Act.put,sA1,sA2,sA3]
 refine wVb 3 ?_;try simp only [Act.put,sA1,sA2,sA3]
 refine wE 4 (fun K hK=>?_)
 (go_simp;refine CC.out.mono ?_;rintro e wRz ⟨v,rfl,hrow,hbl⟩;obtain ⟨va,vc,rfl,q1,q2⟩:=zos hrow;have hcR:Chg [] w wRz:=(Chg.refl [] w).drew.trans (Chg.of_below hbl);have HR:=zh hcR;rw [HC.out,List.length_nil];clear hrow hbl hcR q1 q2 CC)
 refine hK.out _ _ (⟨(HR.out.cell (p:=⟨M.b,1,none⟩) l1 (by simp)).trans c1,fun j hj=>(HR.out.cell (p:=⟨M.b,6+j,none⟩) l1 (by simp)).trans (HB.out.2.1 j hj),fun j hj=>(HR.out.cell (p:=⟨M.b,24+j,none⟩) l1 (by simp)).trans (HB.out.2.2 j hj)⟩) (fun hHeld=>?_);clear hK K;try simp only [Act.put,sA1,sA2,sA3]
 refine wVb 5 ?_;refine wVb 6 ?_;refine wVb 7 ?_;try simp only [Act.put,sA1,sA2,sA3]
 refine wVb 8 ?_;refine wVb 9 ?_;refine wVb 10 ?_;try simp only [Act.put,sA1,sA2,sA3]
 refine wpAnyH_take (i:=11) (oi:=?_) (v := .agg (fnRow 18 B.S.cellV)) ?_ (by kernel_rfl) (by kernel_rfl) (by kernel_rfl) ?_ (yields_row (n:=18) (V:=B.S.cellV) Tryz.underlying49 rfl (by kernel_rfl) ?_ (.tmp 30) ?_ ?_ (fun w' hw=>hw.2.1)) hHeld ?_
 rotate_left 1
 ·(simp only [tA1,tA2,tA3];rfl)
 ·exact fun _ _ _ h=>h
 ·rfl
 ·rfl
 ·(first | rfl | simp [Act.eval,Act.put])
 try simp only [Act.put,sA1,sA2,sA3]
 refine wVb 12 ?_;refine wVb 13 ?_;refine wVb 14 ?_;try simp only [Act.put,sA1,sA2,sA3]
 refine wpAnyH_take (i:=15) (oi:=?_) (v := .agg (fnRow 18 B.Kp.cellV)) ?_ (by kernel_rfl) (by kernel_rfl) (by kernel_rfl) ?_ (yields_row (n:=18) (V:=B.Kp.cellV) Tryz.underlying49 rfl (by kernel_rfl) ?_ (.tmp 34) ?_ ?_ (fun w' hw=>hw.2.2)) hHeld ?_
 rotate_left 1
 ·(simp only [tA1,tA2,tA3];rfl)
 ·exact fun _ _ _ h=>h
 ·rfl
 ·rfl
 ·(first | rfl | simp [Act.eval,Act.put])
 try simp only [Act.put,sA1,sA2,sA3]
 refine wV 16 ?_ (hy:=by rintro W' ⟨s0,s1,s2⟩;have hE1:=hEq W';go_simp;first | done | with_reducible rfl);refine wVb 17 ?_;try simp only [Act.put,sA1,sA2,sA3]
 refine wpAnyH_done (by kernel_rfl) ?_ _;clear hEq;go_wp2_with fail;go_ret;exact ⟨rfl,HB.out.1.chg HR.out (by simp),HR.out⟩
def Mid6 (w:World) (M:Bm) (B:Bs) (s4 z0 z1:Value) (wx:World):Prop :=
 ∃ (xb:Nat) (u0 u1:Value) (g c:Nat->Nat),s4 = .pointer (some ⟨xb,0,none⟩)/\wx.heap[xb]?=some (.cells #[u0,u1] 42 (0,0))/\ShV wx u0 u1 B.F.a B.F.n g c/\SlI wx z0 (yesTo (B.F.p 0) (B.F.n 0))/\SlI wx z1 (yesTo (B.F.p 1) (B.F.n 1)) /\
  PT wx M.p M.t M.bc M.bk B.F.K B.F.T/\Chg [M.p,M.t,M.bc,M.bk] w wx/\w.heap.size<=xb/\(∀ k,k<2->w.heap.size<=g k)/\g 0≠g 1/\(∀ b,z0.ownBlock=some b->w.heap.size<=b)/\(∀ b,z1.ownBlock=some b->w.heap.size<=b)
theorem mid6_end {wc wP W2:World} {M:Bm} {B:Bs} {xb:Nat} {u0 u1 z0 z1:Value} {g c:Nat->Nat} {L:List Nat} (h2:W2.heap[xb]?=some (.cells #[u0,u1] 42 (0,0))) (hC:Chg L wP W2) (hv:ShV wP u0 u1 B.F.a B.F.n g c) (s0:SlI wP z0 (yesTo (B.F.p 0) (B.F.n 0)))
  (s1:SlI wP z1 (yesTo (B.F.p 1) (B.F.n 1))) (hpt:PT wP M.p M.t M.bc M.bk B.F.K B.F.T) (hc:Chg [M.p,M.t,M.bc,M.bk] wc W2) (hx:wc.heap.size<=xb) (hg:∀ k,k<2->wc.heap.size<=g k) (hgg:g 0≠g 1)
  (o0:∀ b,z0.ownBlock=some b->wc.heap.size<=b) (o1:∀ b,z1.ownBlock=some b->wc.heap.size<=b) (hL:∀ q,q∈L->q≠g 0/\q≠g 1/\z0.ownBlock≠some q/\z1.ownBlock≠some q/\q∉[M.p,M.t,M.bc,M.bk]):Mid6 wc M B (.pointer (some ⟨xb,0,none⟩)) z0 z1 W2:=by
 refine ⟨xb,u0,u1,g,c,rfl,h2,hv.chg hC (fun h=>(hL _ h).1 rfl) (fun h=>(hL _ h).2.1 rfl),s0.chg hC (fun q hq h=>(hL _ h).2.2.1 hq),s1.chg hC (fun q hq h=>(hL _ h).2.2.2.1 hq),hpt.chg hC ?_ ?_ ?_ ?_,hc,hx,hg,hgg,o0,o1⟩
 ·exact fun h=>(hL _ h).2.2.2.2 (by simp)
 ·exact fun h=>(hL _ h).2.2.2.2 (by simp)
 ·exact fun h=>(hL _ h).2.2.2.2 (by simp)
 ·exact fun h=>(hL _ h).2.2.2.2 (by simp)
theorem ShV.row {w:World} {v0 v1:Value} {S:Nat->Nat->Nat} {n g c:Nat->Nat} (h:ShV w v0 v1 S n g c) {k:Nat} (hk:k<2):n k<=c k/\c k<=maxLen/\g k<w.heap.size/\∀ i,i<n k->w.cell? ⟨g k,i,none⟩=some (.int .i64 (S k i:Int)):=by
 rcases h.l k hk with ⟨e,_⟩ | ⟨gg,cap,e,q1,q2,q3,q4⟩
 ·cases e
 ·injection e with e e2 e3
  injection e with e;injection e with e;rw [atL_len] at q1 q4;subst e;subst e3;refine ⟨q1,q2,q3,fun i hi=>?_⟩;have:=q4 i hi;rw [atL_get _ _ hi] at this;exact this
theorem bCommit_at {w:World} {M:Bm} {F:List Nat} {B:Bs} (h:BaseAt w M F B) (hF:∀ q,q∈F->q<w.heap.size) (hr:(needN B.T.n:Int)<=roomI B.T 2) (hg:B.Kp.gen+1<18446744073709551616) (hc:chgs B.T≠[]∨B.S.row≠B.Kp.row) :
  Calls Tryz.prog 19 #[.pointer (some ⟨M.b,0,none⟩)] w fun e w'=>e = .returned (.int .i64 0)/\BaseAt w' M F B.done/\Chg M.L w w':=by
 obtain ⟨R,hB,hFF⟩:=h;have cm:=bMay_at hB.c;have c1:=hB.c.c1;have CC:=zh (changed_at (hB.c.pt.ht.chg (Chg.refl [] w).drew (by simp) (by simp) (by simp)));have HB:=zh (zA hB (zA hB.c.sCell hB.c.kCell));have HC:=zh hc;have HF:=zh (zA hFF (zA hF hr));have HG:=zh hg;have l1:=zhl hB.c.top;clear hB hFF hF hr hc hg;go_enter Tryz.func19,Tryz.ntmps19;go_wp2_with fail;refine (cm).mono ?_;rintro e w' ⟨rfl,rfl⟩;go_upto_region 4 with fail;go_cut [37] (fun s wx=>s = .bool false/\Hid (Chg [] w wx))
 case first =>
  by_cases hch:chgs B.T=[]
  ·obtain ⟨q,hq,hqi⟩:=sup_eq w B.S B.Kp
   have hEq:∀ w,(Op.equalIn 10000 49 (.agg (fnRow 18 B.S.cellV)) (.agg (fnRow 18 B.Kp.cellV))).run Tryz.prog w = .ok false w:=fun w=>by
    obtain ⟨q,hq,hqi⟩:=sup_eq w B.S B.Kp
    have:q=false:=by
     cases q with
     | false=>rfl
     | true=>exact absurd (hqi.1 rfl) (HC.out.resolve_left (fun h=>h hch))
    rw [this] at hq;exact hq
   have HCH:=zh hch;clear hq hqi hch;refine wp_region_held_drew (S:=fun W'=>W'.cell? ⟨M.b,1,none⟩=some (.pointer (some ⟨M.t,0,none⟩))/\(∀ j,j<18->W'.cell? ⟨M.b,6+j,none⟩=some (B.S.cellV j))/\∀ j,j<18->W'.cell? ⟨M.b,24+j,none⟩=some (B.Kp.cellV j)) (by kernel_rfl) (by exact ⟨c1,HB.out.2.1,HB.out.2.2⟩) (fun hHeld=>?_);refine wVb 0 ?_;refine wVb 1 ?_;refine wVb 2 ?_;try simp only [Act.put,sA1,sA2,sA3]
   refine wVb 3 ?_;try simp only [Act.put,sA1,sA2,sA3]
   refine wE 4 (fun K hK=>?_)
   (go_simp;refine CC.out.mono ?_;rintro e wRz ⟨v,rfl,hrow,hbl⟩;obtain ⟨va,vc,rfl,q1,q2⟩:=zos hrow;have hcR:Chg [] w wRz:=(Chg.refl [] w).drew.trans (Chg.of_below hbl);have HR:=zh hcR;rw [HCH.out,List.length_nil];clear hrow hbl hcR q1 q2 CC)
   refine hK.out _ _ (⟨(HR.out.cell (p:=⟨M.b,1,none⟩) l1 (by simp)).trans c1,fun j hj=>(HR.out.cell (p:=⟨M.b,6+j,none⟩) l1 (by simp)).trans (HB.out.2.1 j hj),fun j hj=>(HR.out.cell (p:=⟨M.b,24+j,none⟩) l1 (by simp)).trans (HB.out.2.2 j hj)⟩) (fun hHeld=>?_);clear hK K;try simp only [Act.put,sA1,sA2,sA3]
   refine wVb 5 ?_;refine wVb 6 ?_;refine wVb 7 ?_;try simp only [Act.put,sA1,sA2,sA3]
   refine wVb 8 ?_;refine wVb 9 ?_;refine wVb 10 ?_;try simp only [Act.put,sA1,sA2,sA3]
   refine wpAnyH_take (i:=11) (oi:=?_) (v := .agg (fnRow 18 B.S.cellV)) ?_ (by kernel_rfl) (by kernel_rfl) (by kernel_rfl) ?_ (yields_row (n:=18) (V:=B.S.cellV) Tryz.underlying49 rfl (by kernel_rfl) ?_ (.tmp 30) ?_ ?_ (fun w' hw=>hw.2.1)) hHeld ?_
   rotate_left 1
   ·(simp only [tA1,tA2,tA3];rfl)
   ·exact fun _ _ _ h=>h
   ·rfl
   ·rfl
   ·(first | rfl | simp [Act.eval,Act.put])
   try simp only [Act.put,sA1,sA2,sA3]
   refine wVb 12 ?_;refine wVb 13 ?_;refine wVb 14 ?_;try simp only [Act.put,sA1,sA2,sA3]
   refine wpAnyH_take (i:=15) (oi:=?_) (v := .agg (fnRow 18 B.Kp.cellV)) ?_ (by kernel_rfl) (by kernel_rfl) (by kernel_rfl) ?_ (yields_row (n:=18) (V:=B.Kp.cellV) Tryz.underlying49 rfl (by kernel_rfl) ?_ (.tmp 34) ?_ ?_ (fun w' hw=>hw.2.2)) hHeld ?_
   rotate_left 1
   ·(simp only [tA1,tA2,tA3];rfl)
   ·exact fun _ _ _ h=>h
   ·rfl
   ·rfl
   ·(first | rfl | simp [Act.eval,Act.put])
   try simp only [Act.put,sA1,sA2,sA3]
   refine wV 16 ?_ (hy:=by rintro W' ⟨s0,s1,s2⟩;have hE1:=hEq W';go_simp;first | done | with_reducible rfl);refine wVb 17 ?_;try simp only [Act.put,sA1,sA2,sA3]
   refine wpAnyH_done (by kernel_rfl) ?_ _;clear hEq;go_wp2_with fail;go_meet;exact ⟨rfl,HR⟩
  ·have HCH:=zh hch
   have hl0:¬ (chgs B.T).length=0:=fun e=>hch (List.eq_nil_of_length_eq_zero e);obtain ⟨nl,hnl⟩:∃ nl,nl=(chgs B.T).length:=⟨_,rfl⟩;rw [<- hnl] at hl0 CC;have hb0:((nl:Int)==0)=false:=by simp;omega
   clear hch hnl;refine wp_region_held_drew (S:=fun W'=>W'.cell? ⟨M.b,1,none⟩=some (.pointer (some ⟨M.t,0,none⟩))/\(∀ j,j<18->W'.cell? ⟨M.b,6+j,none⟩=some (B.S.cellV j))/\∀ j,j<18->W'.cell? ⟨M.b,24+j,none⟩=some (B.Kp.cellV j)) (by kernel_rfl) (by exact ⟨c1,HB.out.2.1,HB.out.2.2⟩) (fun hHeld=>?_);refine wVb 0 ?_;refine wVb 1 ?_;refine wVb 2 ?_;try simp only [Act.put,sA1,sA2,sA3]
   refine wVb 3 ?_;try simp only [Act.put,sA1,sA2,sA3]
   refine wE 4 (fun K hK=>?_)
   (go_simp;refine CC.out.mono ?_;rintro e wRz ⟨v,rfl,hrow,hbl⟩;obtain ⟨va,vc,rfl,q1,q2⟩:=zos hrow;have hcR:Chg [] w wRz:=(Chg.refl [] w).drew.trans (Chg.of_below hbl);have HR:=zh hcR;clear hrow hbl hcR q1 q2 CC)
   refine hK.out _ _ (⟨(HR.out.cell (p:=⟨M.b,1,none⟩) l1 (by simp)).trans c1,fun j hj=>(HR.out.cell (p:=⟨M.b,6+j,none⟩) l1 (by simp)).trans (HB.out.2.1 j hj),fun j hj=>(HR.out.cell (p:=⟨M.b,24+j,none⟩) l1 (by simp)).trans (HB.out.2.2 j hj)⟩) (fun hHeld=>?_);clear hK K;try simp only [Act.put,sA1,sA2,sA3]
   refine wVb 5 ?_;refine wVb 6 ?_;refine wVb 7 ?_;try simp only [Act.put,sA1,sA2,sA3]
   refine wN 8 ?_;refine wN 9 ?_;refine wN 10 ?_;try simp only [Act.put,sA1,sA2,sA3]
   refine wN 11 ?_;refine wN 12 ?_;refine wN 13 ?_;try simp only [Act.put,sA1,sA2,sA3]
   refine wN 14 ?_;refine wN 15 ?_;refine wN 16 ?_;try simp only [Act.put,sA1,sA2,sA3]
   refine wVb 17 ?_;try simp only [Act.put,sA1,sA2,sA3]
   refine wpAnyH_done (by kernel_rfl) ?_ _;go_wp2_with fail;go_meet;exact ⟨rfl,HR⟩
 case rest =>
  obtain ⟨wb,rfl⟩:∃ x,x=wc:=⟨_,rfl⟩;obtain ⟨rfl,HR⟩:=hcut;have hB1:=HB.out.1.chg HR.out (by simp);have d1:=hB1.c.c1;have d2:=hB1.c.c2;have d3:=hB1.c.c3;have d4:=hB1.c.c4;have hrf:(needN B.T.n:Int)<=roomI B.T B.K.first:=by rw [hB1.c.ok.first];exact HF.out.2.2
  obtain ⟨SV,hSV⟩:∃ SV:Nat->Value,SV=fun j=>baseV M R B (3+j):=⟨_,rfl⟩;have eSV:fnRow 2 SV=#[.slice (some ⟨R.g 0,0,none⟩) (nOf B.T.n 0) (R.c 0),.slice (some ⟨R.g 1,0,none⟩) (nOf B.T.n 1) (R.c 1)]:=by rw [hSV];rfl
  have cpl:=(place_ok (hB1.c.pt.chg (Chg.refl [] wb).drew (by simp) (by simp) (by simp) (by simp)) (hB1.c.sh.chg (Chg.refl [] wb).drew (by simp) (by simp)) hB1.c.ok.own.ok hrf);rw [<- eSV] at cpl;have CPa:=zh cpl
  have HPL:=zh (fun W0 (c0:Chg [] wb W0)=>show Calls Tryz.prog 80 #[.pointer (some ⟨M.t,0,none⟩),.pointer (some ⟨M.p,0,none⟩),.agg (fnRow 2 SV)] W0 (Placed W0 M.p M.t M.bc M.bk (PS.start B.T B.K (nOf B.T.n) B.a).fin) from by
   rw [eSV];exact place_ok (hB1.c.pt.chg c0 (by simp) (by simp) (by simp) (by simp)) (hB1.c.sh.chg c0 (by simp) (by simp)) hB1.c.ok.own.ok hrf)
  have HB1:=zh hB1;have l2:=zhl hB1.c.top;have hsc:∀ j,j<2->wb.cell? ⟨M.b,3+j,none⟩=some (SV j):=fun j hj=>by rw [hSV];exact hB1.c.cell (by omega)
  have HSC:=zh hsc
  have hnb:M.b∉[M.p,M.t,M.bc,M.bk]:=by
   have nd:=hB1.nodup;simp only [Bm.L,List.nodup_cons,List.mem_cons,List.not_mem_nil,or_false,not_or,List.nodup_nil,and_true] at nd;simp [nd]
  have HNB:=zh hnb;have HLT:Hid (∀ q,q∈[M.p,M.t,M.bc,M.bk]->q<wb.heap.size):=zh (fun q hq=>hB1.lt (.inl (by simp only [List.mem_cons,List.not_mem_nil,or_false] at hq;rcases hq with rfl | rfl | rfl | rfl <;> simp [Bm.L])));clear hB1 hrf hsc hnb CC cm c1 HC hSV eSV cpl;go_wp2_with fail;go_upto_region 6 with fail;go_cut [4,5,6,7] (fun s4 z0 z1 e7 wx=>e7 = .int .i64 0/\Hid (Mid6 wb M B s4 z0 z1 wx))
  case first =>
   refine wp_region_held_drew (S:=fun W'=>W'.cell? ⟨M.b,1,none⟩=some (.pointer (some ⟨M.t,0,none⟩))/\W'.cell? ⟨M.b,2,none⟩=some (.pointer (some ⟨M.p,0,none⟩))/\∀ j,j<2->W'.cell? ⟨M.b,3+j,none⟩=some (SV j)) (by kernel_rfl) (by exact ⟨d1,d2,HSC.out⟩) (fun hHeld=>?_);refine wVb 0 ?_;refine wVb 1 ?_;refine wVb 2 ?_;try simp only [Act.put,sA1,sA2,sA3]
   refine wVb 3 ?_;refine wVb 4 ?_;refine wVb 5 ?_;try simp only [Act.put,sA1,sA2,sA3]
   refine wVb 6 ?_;refine wVb 7 ?_;refine wVb 8 ?_;try simp only [Act.put,sA1,sA2,sA3]
   refine wVb 9 ?_;refine wVb 10 ?_;try simp only [Act.put,sA1,sA2,sA3]
   refine wpAnyH_take (i:=11) (oi:=?_) (v := .agg (fnRow 2 SV)) ?_ (by kernel_rfl) (by kernel_rfl) (by kernel_rfl) ?_ (yields_row (n:=2) (V:=SV) Tryz.underlying42 rfl (by kernel_rfl) ?_ (.tmp 49) ?_ ?_ (fun w' hw=>hw.2.2)) hHeld ?_
   rotate_left 1
   ·(simp only [tA1,tA2,tA3];rfl)
   ·exact fun _ _ _ h=>h
   ·rfl
   ·rfl
   ·(first | rfl | simp [Act.eval,Act.put])
   try simp only [Act.put,sA1,sA2,sA3]
   refine wR [12,18] ?_;refine wC (fun K hK=>?_) ?_
   ·(go_simp;refine CPa.out.mono ?_;rintro e wP ⟨u0,u1,z0,z1,g,c,rfl,p1,p2,p3,p4,p5,p6,p7,p8,p9⟩;have eu0:=p1.e0;have eu1:=p1.e1;subst eu0;subst eu1;have HP:=zh (zA p1 (zA p2 (zA p3 (zA p4 (zA ((Chg.refl _ wb).drew.trans p5) (zA p6 (zA p7 (zA p8 p9))))))));clear p1 p2 p3 p4 p5 p6 p7 p8 p9 CPa)
    refine hK.out _ _ (⟨(HP.out.2.2.2.2.1.cell (p:=⟨M.b,1,none⟩) l2 HNB.out).trans d1,(HP.out.2.2.2.2.1.cell (p:=⟨M.b,2,none⟩) l2 HNB.out).trans d2,fun j hj=>(HP.out.2.2.2.2.1.cell (p:=⟨M.b,3+j,none⟩) l2 HNB.out).trans (HSC.out j hj)⟩) (fun hHeld=>?_);clear hK K;try simp only [Act.put,sA1,sA2,sA3]
    refine wVb 13 ?_;refine wVb 14 ?_;refine wVb 15 ?_;try simp only [Act.put,sA1,sA2,sA3]
    refine wVb 16 ?_;refine wVb 17 ?_;try simp only [Act.put,sA1,sA2,sA3]
    have hxA:=znb wP (.cells #[.slice none 0 0,.slice none 0 0] 42);have cA:Chg [M.p,M.t,M.bc,M.bk] wb (wP.alloc (.cells #[.slice none 0 0,.slice none 0 0] 42)):=HP.out.2.2.2.2.1.alloc _;have CA:=zh (zA hxA cA);clear hxA cA;refine wE 18 (fun K hK=>?_)
    (go_simp)
    refine hK.out _ _ ((fun (wX:World) (CX:Chg [M.p,M.t,M.bc,M.bk] wb wX)=>(⟨(CX.cell (p:=⟨M.b,1,none⟩) l2 HNB.out).trans d1,(CX.cell (p:=⟨M.b,2,none⟩) l2 HNB.out).trans d2,fun j hj=>(CX.cell (p:=⟨M.b,3+j,none⟩) l2 HNB.out).trans (HSC.out j hj)⟩:wX.cell? ⟨M.b,1,none⟩=some (.pointer (some ⟨M.t,0,none⟩))/\wX.cell? ⟨M.b,2,none⟩=some (.pointer (some ⟨M.p,0,none⟩))/\∀ j,j<2->wX.cell? ⟨M.b,3+j,none⟩=some (SV j))) _ CA.out.2) (fun hHeld=>?_);clear hK K;try simp only [Act.put,sA1,sA2,sA3]
    have hxB:=znb wP (.cells #[.slice (some ⟨g 0,0,none⟩) ((PS.start B.T B.K (nOf B.T.n) B.a).fin.n 0) (c 0),.slice (some ⟨g 1,0,none⟩) ((PS.start B.T B.K (nOf B.T.n) B.a).fin.n 1) (c 1)] 42);have cB:Chg [] wP (wP.alloc (.cells #[.slice (some ⟨g 0,0,none⟩) ((PS.start B.T B.K (nOf B.T.n) B.a).fin.n 0) (c 0),.slice (some ⟨g 1,0,none⟩) ((PS.start B.T B.K (nOf B.T.n) B.a).fin.n 1) (c 1)] 42)):=(Chg.refl [] wP).alloc _;have CB:=zh (zA hxB (zA cB (HP.out.2.2.2.2.1.trans (cB.mono (by simp)))));clear hxB cB;have k0:=zcb CA.out.1 0;have k1:=zcb CA.out.1 1;have f0:=zfb CA.out.1 0;have f1:=zfb CA.out.1 1;have lx:=zhl CA.out.1;simp only [tA1,tA3,tA2] at k0 k1;refine wE 19 (fun K hK=>?_)
    (go_simp)
    refine hK.out _ _ ((fun (wX:World) (CX:Chg [M.p,M.t,M.bc,M.bk] wb wX)=>(⟨(CX.cell (p:=⟨M.b,1,none⟩) l2 HNB.out).trans d1,(CX.cell (p:=⟨M.b,2,none⟩) l2 HNB.out).trans d2,fun j hj=>(CX.cell (p:=⟨M.b,3+j,none⟩) l2 HNB.out).trans (HSC.out j hj)⟩:wX.cell? ⟨M.b,1,none⟩=some (.pointer (some ⟨M.t,0,none⟩))/\wX.cell? ⟨M.b,2,none⟩=some (.pointer (some ⟨M.p,0,none⟩))/\∀ j,j<2->wX.cell? ⟨M.b,3+j,none⟩=some (SV j))) _ CB.out.2.2) (fun hHeld=>?_);clear hK K;try simp only [Act.put,sA1,sA2,sA3]
    refine wVb 20 ?_;refine wVb 21 ?_;refine wVb 22 ?_;try simp only [Act.put,sA1,sA2,sA3]
    refine wpAnyH_done (by kernel_rfl) ?_ _;go_wp2_with fail;go_meet;have q:=HP.out;have hsz:wb.heap.size<=wP.heap.size:=q.2.2.2.2.1.size;exact ⟨rfl,zh (mid6_end (L:=[]) CB.out.1 CB.out.2.1 q.1 q.2.1 q.2.2.1 q.2.2.2.1 CB.out.2.2 hsz q.2.2.2.2.2.1 q.2.2.2.2.2.2.1 q.2.2.2.2.2.2.2.1 q.2.2.2.2.2.2.2.2 (fun q hq=>by simp at hq))⟩
   have hxA:((wb.alloc (.cells #[.slice none 0 0,.slice none 0 0] 42)).drew).heap[wb.heap.size]?=_:=znb wb (.cells #[.slice none 0 0,.slice none 0 0] 42);have cA:Chg [] wb ((wb.alloc (.cells #[.slice none 0 0,.slice none 0 0] 42)).drew):=((Chg.refl [] wb).alloc _).drew;have CPb:=zh (HPL.out _ cA);have CA:=zh (zA hxA (zA cA (cA.mono (L':=[M.p,M.t,M.bc,M.bk]) (by simp))));have hs0:wb.drew.heap.size=wb.heap.size:=rfl;clear hxA cA;refine wD (fun K hK=>?_)
   ·(go_simp)
    refine hK.out _ _ ((fun (wX:World) (CX:Chg [M.p,M.t,M.bc,M.bk] wb wX)=>(⟨(CX.cell (p:=⟨M.b,1,none⟩) l2 HNB.out).trans d1,(CX.cell (p:=⟨M.b,2,none⟩) l2 HNB.out).trans d2,fun j hj=>(CX.cell (p:=⟨M.b,3+j,none⟩) l2 HNB.out).trans (HSC.out j hj)⟩:wX.cell? ⟨M.b,1,none⟩=some (.pointer (some ⟨M.t,0,none⟩))/\wX.cell? ⟨M.b,2,none⟩=some (.pointer (some ⟨M.p,0,none⟩))/\∀ j,j<2->wX.cell? ⟨M.b,3+j,none⟩=some (SV j))) _ CA.out.2.2) (fun hHeld=>?_);clear hK K;try simp only [Act.put,sA1,sA2,sA3]
    obtain ⟨W0,hW0⟩:∃ W0,W0=(wb.alloc (.cells #[.slice none 0 0,.slice none 0 0] 42)).drew:=⟨_,rfl⟩;rw [<- hW0] at CA CPb;rw [<- hW0];have lx0:=zhl CA.out.1;clear hW0;refine wE 12 (fun K hK=>?_)
    (go_simp;refine CPb.out.mono ?_;rintro e wP ⟨u0,u1,z0,z1,g,c,rfl,p1,p2,p3,p4,p5,p6,p7,p8,p9⟩;have eu0:=p1.e0;have eu1:=p1.e1;subst eu0;subst eu1;have HP:=zh (zA p1 (zA p2 (zA p3 (zA p4 (zA p5 (zA p6 (zA p7 (zA p8 p9))))))));clear p1 p2 p3 p4 p5 p6 p7 p8 p9 CPb)
    refine hK.out _ _ ((fun (wX:World) (CX:Chg [M.p,M.t,M.bc,M.bk] wb wX)=>(⟨(CX.cell (p:=⟨M.b,1,none⟩) l2 HNB.out).trans d1,(CX.cell (p:=⟨M.b,2,none⟩) l2 HNB.out).trans d2,fun j hj=>(CX.cell (p:=⟨M.b,3+j,none⟩) l2 HNB.out).trans (HSC.out j hj)⟩:wX.cell? ⟨M.b,1,none⟩=some (.pointer (some ⟨M.t,0,none⟩))/\wX.cell? ⟨M.b,2,none⟩=some (.pointer (some ⟨M.p,0,none⟩))/\∀ j,j<2->wX.cell? ⟨M.b,3+j,none⟩=some (SV j))) _ (CA.out.2.2.trans HP.out.2.2.2.2.1)) (fun hHeld=>?_);clear hK K;try simp only [Act.put,sA1,sA2,sA3]
    have hx1:wb.heap.size∉[M.p,M.t,M.bc,M.bk]:=fun hm=>by
     have:=HLT.out _ hm;omega
    have hxb:=(HP.out.2.2.2.2.1.block _ lx0 hx1).trans CA.out.1;have hxB:=zsb (zsb hxb 0 (.slice (some ⟨g 0,0,none⟩) ((PS.start B.T B.K (nOf B.T.n) B.a).fin.n 0) (c 0))) 1 (.slice (some ⟨g 1,0,none⟩) ((PS.start B.T B.K (nOf B.T.n) B.a).fin.n 1) (c 1));have cB:Chg [wb.heap.size] wP ((wP.setCell ⟨wb.heap.size,0,none⟩ (.slice (some ⟨g 0,0,none⟩) ((PS.start B.T B.K (nOf B.T.n) B.a).fin.n 0) (c 0))).setCell ⟨wb.heap.size,1,none⟩ (.slice (some ⟨g 1,0,none⟩) ((PS.start B.T B.K (nOf B.T.n) B.a).fin.n 1) (c 1))):=((Chg.refl _ wP).setCell (.inl (by simp)) _).setCell (.inl (by simp)) _;have cC:Chg [M.p,M.t,M.bc,M.bk] wb ((wP.setCell ⟨wb.heap.size,0,none⟩ (.slice (some ⟨g 0,0,none⟩) ((PS.start B.T B.K (nOf B.T.n) B.a).fin.n 0) (c 0))).setCell ⟨wb.heap.size,1,none⟩ (.slice (some ⟨g 1,0,none⟩) ((PS.start B.T B.K (nOf B.T.n) B.a).fin.n 1) (c 1))):=((CA.out.2.2.trans HP.out.2.2.2.2.1).setCell (.inr (zLr _)) _).setCell (.inr (zLr _)) _;have CB:=zh (zA hxB (zA cB (zA cC hx1)));have k0:=zcb hxb 0;have k1:=zcb hxb 1;have f0:=zfb hxb 0;have f1:=zfb hxb 1;have lx:=zhl hxb;simp only [tA1,tA3,tA2] at k0 k1;clear hxB cB cC hx1 hxb;refine wVb 13 ?_;refine wVb 14 ?_;refine wVb 15 ?_;try simp only [Act.put,sA1,sA2,sA3]
    refine wVb 16 ?_;refine wVb 17 ?_;try simp only [Act.put,sA1,sA2,sA3]
    refine wE 19 (fun K hK=>?_)
    (go_simp)
    refine hK.out _ _ ((fun (wX:World) (CX:Chg [M.p,M.t,M.bc,M.bk] wb wX)=>(⟨(CX.cell (p:=⟨M.b,1,none⟩) l2 HNB.out).trans d1,(CX.cell (p:=⟨M.b,2,none⟩) l2 HNB.out).trans d2,fun j hj=>(CX.cell (p:=⟨M.b,3+j,none⟩) l2 HNB.out).trans (HSC.out j hj)⟩:wX.cell? ⟨M.b,1,none⟩=some (.pointer (some ⟨M.t,0,none⟩))/\wX.cell? ⟨M.b,2,none⟩=some (.pointer (some ⟨M.p,0,none⟩))/\∀ j,j<2->wX.cell? ⟨M.b,3+j,none⟩=some (SV j))) _ CB.out.2.2.1) (fun hHeld=>?_);clear hK K;try simp only [Act.put,sA1,sA2,sA3]
    refine wVb 20 ?_;refine wVb 21 ?_;refine wVb 22 ?_;try simp only [Act.put,sA1,sA2,sA3]
    refine wpAnyH_done (by kernel_rfl) ?_ _;go_wp2_with fail;go_meet;have q:=HP.out;have hsz:=lx0;have hg1:∀ k,k<2->W0.heap.size<=g k:=q.2.2.2.2.2.1;have g0:=hg1 0 (by omega);have g1:=hg1 1 (by omega)
    exact ⟨rfl,zh (mid6_end (L:=[wb.heap.size]) CB.out.1 CB.out.2.1 q.1 q.2.1 q.2.2.1 q.2.2.2.1 CB.out.2.2.1 (zLr _) (fun k hk=>by have:=hg1 k hk;omega) q.2.2.2.2.2.2.1 (fun b hb=>by have:=q.2.2.2.2.2.2.2.1 b hb;omega) (fun b hb=>by have:=q.2.2.2.2.2.2.2.2 b hb;omega) (fun q' hq'=>by
     simp only [zms] at hq';subst hq';exact ⟨by omega,by omega,fun h=>by have:=q.2.2.2.2.2.2.2.1 _ h;omega,fun h=>by have:=q.2.2.2.2.2.2.2.2 _ h;omega,CB.out.2.2.2⟩))⟩
  case rest =>
   obtain ⟨w6,rfl⟩:∃ x,x=wc:=⟨_,rfl⟩;obtain ⟨rfl,HM⟩:=hcut;obtain ⟨xb,v0,v1,g,c,rfl,m1,m2,m3,m4,m5,m6,m7,m8,m9,m10,m11⟩:=HM.out;have e0:=m2.e0;have e1:=m2.e1;subst e0;subst e1;obtain ⟨N,hN⟩:∃ N,N=B.T.n:=⟨_,rfl⟩;have FI:=HB1.out.c.ok.fins HF.out.2.2;have en:B.F.n=nOf N:=by rw [hN];exact FI.mid.sn
   rw [en] at m1 m2 m3 m4;have HQ:=zh (zA m1 (zA m2 (zA m3 (zA m4 (zA m5 (zA m6 (zA m7 (zA m8 (zA m9 (zA m10 m11))))))))));have n1:=HB1.out.c.ok.n;rw [<- hN] at n1;have top6:=(m6.block _ (zhl HB1.out.c.top) HNB.out).trans HB1.out.c.top;have HL0:=zh (m2.row (k:=0) (by omega));have HL1:=zh (m2.row (k:=1) (by omega));have hn2:nOf N 1<=2:=by show pg (pg N)<=2;exact pgpg_le n1.2
   have haN:∀ k i,k<2->i<nOf N k->B.F.a k i<N:=fun k i hk hi=>by
    have h1:=(FI.fin.own.ok.has k i hk (by rw [<- hN];exact hi) (FI.fin.own.nz k i hk (by rw [<- hN];exact hi))).1
    change B.F.a k i<B.F.T.n at h1
    have e:=FI.fin.tn;rw [hN];omega
   have CRa:=fun (W0:World) (C0:Chg [] w6 W0)=>baRooted_at (w:=W0) (S:=B.S) (m:=nOf N 1) (cs:=c 1) (a:=some ⟨g 1,0,none⟩) (A:=B.F.a 1) hn2 HL1.out.1 (fun i hi=>⟨g 1,rfl,zLl HL1.out.2.2.1 C0.size,(C0.cell (p:=⟨g 1,i,none⟩) HL1.out.2.2.1 (by simp)).trans (HL1.out.2.2.2 i hi),by have:=haN 1 i (by omega) hi;omega⟩);have CR:=zh CRa;obtain ⟨S1,hS1⟩:∃ S1,S1=rootK B.S (nOf N 1) (B.F.a 1) 2:=⟨_,rfl⟩;rw [<- hS1] at CR;have s6:∀ j,j<18->w6.cell? ⟨M.b,6+j,none⟩=some (B.S.cellV j):=fun j hj=>(cell_fn top6 (by omega)).trans (by rw [baseV_S _ _ _ hj]);have x1:=zcb m1 1;simp only [tA1,tA3,tA2] at x1;have lb6:=zhl top6;have lx6:=zhl m1;have HS6:=zh s6;have HTOP:=zh top6;have HFI:=zh FI;have HN:=zh (zA hN (zA en (zA hS1 haN)));clear CRa hS1 s6 hN en haN FI top6 m1 m2 m3 m4 m5 m6 m7 m8 m9 m10 m11;go_upto_region 9 with fail;go_cut [8] (fun s8 wx=>Hid (∃ ys,s8 = .pointer (some ⟨ys,0,none⟩)/\w6.heap.size<=ys/\wx.heap[ys]?=some (.cells S1.row 49 (0,0))/\Chg [] w6 wx))
   case first =>
    refine wp_region_held_drew (S:=fun W'=>(∀ j,j<18->W'.cell? ⟨M.b,6+j,none⟩=some (B.S.cellV j))/\W'.cell? ⟨xb,1,none⟩=some (.slice (some ⟨g 1,0,none⟩) (nOf N 1) (c 1))) (by kernel_rfl) (by exact ⟨HS6.out,x1⟩) (fun hHeld=>?_);refine wVc 0 ?_;refine wVc 1 ?_;refine wVc 2 ?_;try simp only [Act.put,sA1,sA2,sA3]
    refine wpAnyH_take (i:=3) (oi:=?_) (v := .agg (fnRow 18 B.S.cellV)) ?_ (by kernel_rfl) (by kernel_rfl) (by kernel_rfl) ?_ (yields_row (n:=18) (V:=B.S.cellV) Tryz.underlying49 rfl (by kernel_rfl) ?_ (.tmp 61) ?_ ?_ (fun w' hw=>hw.1)) hHeld ?_
    rotate_left 1
    ·(simp only [tA1,tA2,tA3];rfl)
    ·exact fun _ _ _ h=>h
    ·rfl
    ·rfl
    ·(first | rfl | simp [Act.eval,Act.put])
    try simp only [Act.put,sA1,sA2,sA3]
    refine wVc 4 ?_;refine wVc 5 ?_;try simp only [Act.put,sA1,sA2,sA3]
    refine wR [6,7] ?_;refine wC (fun K hK=>?_) ?_
    ·(go_simp;refine (CR.out _ ((Chg.refl [] w6).drew)).mono ?_;rintro e wRz ⟨rfl,hcR⟩;have HR9:=zh (((Chg.refl [] w6).drew).trans hcR);clear hcR)
     refine hK.out _ _ ((fun (wX:World) (CX:Chg [] w6 wX)=>(⟨fun j hj=>(CX.cell (p:=⟨M.b,6+j,none⟩) lb6 (by simp)).trans (HS6.out j hj),(CX.cell (p:=⟨xb,1,none⟩) lx6 (by simp)).trans x1⟩:(∀ j,j<18->wX.cell? ⟨M.b,6+j,none⟩=some (B.S.cellV j))/\wX.cell? ⟨xb,1,none⟩=some (.slice (some ⟨g 1,0,none⟩) (nOf N 1) (c 1)))) _ HR9.out) (fun hHeld=>?_);clear hK K;try simp only [Act.put,sA1,sA2,sA3]
     obtain ⟨wA,hwA⟩:∃ wA,wA=wRz.alloc (.cells zSup 49):=⟨_,rfl⟩;have hz:=znb wRz (.cells zSup 49);have hzc:Chg [] wRz (wRz.alloc (.cells zSup 49)):=(Chg.refl [] wRz).alloc _;rw [<- hwA] at hz hzc;rw [<- supZ_row] at hz;have HZ:=zh (zA hz (HR9.out.trans hzc));clear hz hzc;unfold zSup at hwA;refine wE 7 (fun K hK=>?_)
     (go_simp;rw [<- hwA];clear hwA)
     refine hK.out _ _ ((fun (wX:World) (CX:Chg [] w6 wX)=>(⟨fun j hj=>(CX.cell (p:=⟨M.b,6+j,none⟩) lb6 (by simp)).trans (HS6.out j hj),(CX.cell (p:=⟨xb,1,none⟩) lx6 (by simp)).trans x1⟩:(∀ j,j<18->wX.cell? ⟨M.b,6+j,none⟩=some (B.S.cellV j))/\wX.cell? ⟨xb,1,none⟩=some (.slice (some ⟨g 1,0,none⟩) (nOf N 1) (c 1)))) _ HZ.out.2) (fun hHeld=>?_);clear hK K;try simp only [Act.put,sA1,sA2,sA3]
     have hrn:(storeCells ⟨wRz.heap.size,0,none⟩ S1.row.toList).run Tryz.prog wA = .ok () (wA.setCells wRz.heap.size 0 S1.row.toList):=run_storeCells_row (P:=Tryz.prog) (U:=S1.cellV) (V:=supZ.cellV) (N:=18) (T:=49) HZ.out.1 (by omega) (fun i _=>S1.cell_one i) (o:=0) (n:=18);have hrs:=S1.row_size;have hsl:=setCells_laid (o:=0) (n:=18) (U:=S1.cellV) (V:=supZ.cellV) (N:=18) HZ.out.1;rw [laid_sup] at hsl
     change (wA.setCells wRz.heap.size 0 S1.row.toList).heap[wRz.heap.size]?=_/\Chg [wRz.heap.size] wA (wA.setCells wRz.heap.size 0 S1.row.toList) at hsl
     generalize wA.setCells wRz.heap.size 0 S1.row.toList=w9 at hrn hsl;have hc9:Chg [] w6 w9:=HZ.out.2.then hsl.2 (fun q hq=>by simp only [zms] at hq;subst hq;exact .inr HR9.out.size);have H9:=zh (zA hsl.1 hc9);clear hsl hc9;refine wE 8 (fun K hK=>?_)
     (go_simp)
     refine hK.out _ _ ((fun (wX:World) (CX:Chg [] w6 wX)=>(⟨fun j hj=>(CX.cell (p:=⟨M.b,6+j,none⟩) lb6 (by simp)).trans (HS6.out j hj),(CX.cell (p:=⟨xb,1,none⟩) lx6 (by simp)).trans x1⟩:(∀ j,j<18->wX.cell? ⟨M.b,6+j,none⟩=some (B.S.cellV j))/\wX.cell? ⟨xb,1,none⟩=some (.slice (some ⟨g 1,0,none⟩) (nOf N 1) (c 1)))) _ H9.out.2) (fun hHeld=>?_);clear hK K;try simp only [Act.put,sA1,sA2,sA3]
     refine wpAnyH_done (by kernel_rfl) ?_ _;go_wp2_with fail;go_meet;exact zh ⟨wRz.heap.size,rfl,HR9.out.size,H9.out.1,H9.out.2⟩
    obtain ⟨wA,hwA⟩:∃ wA,wA=(w6.alloc (.cells zSup 49)).drew:=⟨_,rfl⟩;have hz:((w6.alloc (.cells zSup 49)).drew).heap[w6.heap.size]?=_:=znb w6 (.cells zSup 49);have hzc:Chg [] w6 ((w6.alloc (.cells zSup 49)).drew):=((Chg.refl [] w6).alloc _).drew;rw [<- hwA] at hz hzc;rw [<- supZ_row] at hz;have HZ0:=zh (zA hz hzc);clear hz hzc;unfold zSup at hwA;refine wD (fun K hK=>?_)
    ·(go_simp;rw [<- hwA];clear hwA)
     refine hK.out _ _ ((fun (wX:World) (CX:Chg [] w6 wX)=>(⟨fun j hj=>(CX.cell (p:=⟨M.b,6+j,none⟩) lb6 (by simp)).trans (HS6.out j hj),(CX.cell (p:=⟨xb,1,none⟩) lx6 (by simp)).trans x1⟩:(∀ j,j<18->wX.cell? ⟨M.b,6+j,none⟩=some (B.S.cellV j))/\wX.cell? ⟨xb,1,none⟩=some (.slice (some ⟨g 1,0,none⟩) (nOf N 1) (c 1)))) _ HZ0.out.2) (fun hHeld=>?_);clear hK K;try simp only [Act.put,sA1,sA2,sA3]
     refine wE 6 (fun K hK=>?_)
     (go_simp;refine (CR.out _ HZ0.out.2).mono ?_;rintro e wRz ⟨rfl,hcR⟩;have HR9:=zh (zA (HZ0.out.2.trans hcR) hcR);clear hcR)
     refine hK.out _ _ ((fun (wX:World) (CX:Chg [] w6 wX)=>(⟨fun j hj=>(CX.cell (p:=⟨M.b,6+j,none⟩) lb6 (by simp)).trans (HS6.out j hj),(CX.cell (p:=⟨xb,1,none⟩) lx6 (by simp)).trans x1⟩:(∀ j,j<18->wX.cell? ⟨M.b,6+j,none⟩=some (B.S.cellV j))/\wX.cell? ⟨xb,1,none⟩=some (.slice (some ⟨g 1,0,none⟩) (nOf N 1) (c 1)))) _ HR9.out.1) (fun hHeld=>?_);clear hK K;try simp only [Act.put,sA1,sA2,sA3]
     have HZ:=zh (zA ((HR9.out.2.block _ (zhl HZ0.out.1) (by simp)).trans HZ0.out.1) HR9.out.1);have hrn:(storeCells ⟨w6.heap.size,0,none⟩ S1.row.toList).run Tryz.prog wRz = .ok () (wRz.setCells w6.heap.size 0 S1.row.toList):=run_storeCells_row (P:=Tryz.prog) (U:=S1.cellV) (V:=supZ.cellV) (N:=18) (T:=49) HZ.out.1 (by omega) (fun i _=>S1.cell_one i) (o:=0) (n:=18);have hrs:=S1.row_size;have hsl:=setCells_laid (o:=0) (n:=18) (U:=S1.cellV) (V:=supZ.cellV) (N:=18) HZ.out.1;rw [laid_sup] at hsl
     change (wRz.setCells w6.heap.size 0 S1.row.toList).heap[w6.heap.size]?=_/\Chg [w6.heap.size] wRz (wRz.setCells w6.heap.size 0 S1.row.toList) at hsl
     generalize wRz.setCells w6.heap.size 0 S1.row.toList=w9 at hrn hsl;have hc9:Chg [] w6 w9:=HZ.out.2.then hsl.2 (fun q hq=>by simp only [zms] at hq;subst hq;exact .inr (zLr _));have H9:=zh (zA hsl.1 hc9);clear hsl hc9;refine wE 8 (fun K hK=>?_)
     (go_simp)
     refine hK.out _ _ ((fun (wX:World) (CX:Chg [] w6 wX)=>(⟨fun j hj=>(CX.cell (p:=⟨M.b,6+j,none⟩) lb6 (by simp)).trans (HS6.out j hj),(CX.cell (p:=⟨xb,1,none⟩) lx6 (by simp)).trans x1⟩:(∀ j,j<18->wX.cell? ⟨M.b,6+j,none⟩=some (B.S.cellV j))/\wX.cell? ⟨xb,1,none⟩=some (.slice (some ⟨g 1,0,none⟩) (nOf N 1) (c 1)))) _ H9.out.2) (fun hHeld=>?_);clear hK K;try simp only [Act.put,sA1,sA2,sA3]
     refine wpAnyH_done (by kernel_rfl) ?_ _;go_wp2_with fail;go_meet;exact zh ⟨w6.heap.size,rfl,zLr _,H9.out.1,H9.out.2⟩
   case rest =>
    obtain ⟨w9,rfl⟩:∃ x,x=wc:=⟨_,rfl⟩;obtain ⟨ys,rfl,hys,hyb,hy9⟩:=hcut.out;have hgen:S1.gen=B.S.gen:=by rw [HN.out.2.2.1];rfl
    have hgb:B.S.gen+1<18446744073709551616:=by rw [HB1.out.c.ok.sg];exact HG.out
    have hnx:=next_row (B:=B) HN.out.1;rw [<- HN.out.2.2.1] at hnx;obtain ⟨gg,hgg⟩:∃ gg,gg=B.S.gen:=⟨_,rfl⟩;rw [<- hgg] at hgen hgb hnx;rw [show ((gg+1:Nat):Int)=(gg:Int)+1 from rfl] at hnx;have y0:w9.cell? ⟨ys,0,none⟩=some (.int .u64 (gg:Int)):=by rw [Sup.cell hyb (i:=0) (by omega),<- hgen];rfl
    have E1:IntKind.u64.wrap ((gg:Int)+1)=(gg:Int)+1:=by rw [IntKind.wrap_u64];omega
    have yf:=zfb hyb 0;have yl:=zhl hyb;have hyN:=zsb hyb 0 (.int .u64 ((gg:Int)+1));rw [hnx] at hyN;have hcN:Chg [] w6 (w9.setCell ⟨ys,0,none⟩ (.int .u64 ((gg:Int)+1))):=hy9.setCell (.inr hys) _;have H10:=zh (zA hyN (zA hcN hys));clear hyb hy9 hys hgen hgb hnx hgg hyN hcN CR HS6 x1;go_upto_region 11 with fail;generalize w9.setCell ⟨ys,0,none⟩ (.int .u64 ((gg:Int)+1))=wa at *;clear y0 yf yl E1;have nd:=HB1.out.nodup;simp only [Bm.L,List.nodup_cons,List.mem_cons,List.not_mem_nil,or_false,not_or,List.nodup_nil,and_true] at nd;obtain ⟨m1,m2,m3,m4,m5,m6,m7,m8,m9,m10,m11⟩:=HQ.out
    have hnm:M.mf∉[M.p,M.t,M.bc,M.bk]:=by
     simp only [List.mem_cons,List.not_mem_nil,or_false,not_or];exact ⟨fun e=>nd.2.2.2.1.2.2.2 e.symm,fun e=>nd.2.2.2.2.1.2.2 e.symm,fun e=>nd.2.2.2.2.2.1.2 e.symm,HB1.out.c.ne⟩
    have hnd:M.d∉[M.p,M.t,M.bc,M.bk]:=by simp [nd]
    have hnbb:M.bb∉[M.p,M.t,M.bc,M.bk]:=by simp [nd]
    have fm6:=HB1.out.c.fm.chg m6 hnm;have dk6:=HB1.out.d.chg m6 hnd hnbb (fun k hk=>by cases hk);have fd6:=fun (k:Nat) (f:Nat->Nat) (hk:k<B.T.n) (hf:B.fr k=some f)=>HB1.out.fd_keep (m6.mono (L':=M.L) (by simp [Bm.L])) hk hf;have HW:=zh (zA fm6 (zA dk6 fd6));have HA:=zh (zA H10.out.1 (zA H10.out.2.1 H10.out.2.2));have topa:=(HA.out.2.1.block _ lb6 (by simp)).trans HTOP.out;have a5:wa.cell? ⟨M.b,5,none⟩=some (.map (some M.mf)):=cell_fn topa (by omega);have fma:=fm6.chg HA.out.2.1 (by simp);rw [<- HN.out.1] at fma;have CS:=zh (sortedFresh_at fma (by omega));have HND:=zh nd;clear nd m1 m2 m3 m4 m5 m6 m7 m8 m9 m10 m11 hnm hnd hnbb fm6 dk6 fd6 topa fma H10;go_wp2_with fail;refine (keysFresh_at _ _).mono ?_;rintro e w' ⟨rfl,rfl⟩;go_wp2_with fail;refine CS.out.mono ?_;clear CS a5;rintro e wS ⟨vL,rfl,hrow,hbl⟩;obtain ⟨va,vc,rfl,q1,q2⟩:=zos hrow;obtain ⟨frs,hfrs⟩:∃ frs,frs=yesTo (fun k=>(frV R B k).isSome) N:=⟨_,rfl⟩;rw [<- hfrs] at hrow q1 ⊢;have hfl:frs.length<=4096:=by rw [hfrs];exact zLt (yesTo_le _ _) n1.2
    obtain ⟨nf,hnf⟩:∃ nf,nf=frs.length:=⟨_,rfl⟩;rw [<- hnf] at hrow q1 hfl ⊢;have hcS:Chg [] wa wS:=Chg.of_below hbl;have HS:=zh (zA hrow (zA hcS (zA hfrs hnf)));clear hrow hbl hcS hfrs hnf;go_wp2_with fail
    go_loopw [9,77] (fun v s wr=>∃ k:Nat,k<=nf/\s = .int .i64 (k:Int)/\Hid (StepsAt wr wS.heap.size M.d N v ((frs.take k).map fun b=>some (b,(B.fr b).getD fun _=>0))/\Chg [] wS wr)) (fun _ s _=>nf - (intOf s).toNat)
    case atStart=>exact ⟨0,Nat.zero_le _,by go_num,zh ⟨StepsAt.nil _ _ _ _,Chg.refl _ _⟩⟩
    case round =>
     obtain ⟨k,hk,rfl,hH⟩:=hrel;by_cases hlt:k<nf
     ·obtain ⟨x,hxe⟩:∃ x,x=frs.getD k 0:=⟨_,rfl⟩
      have hk':k<frs.length:=by have:=HS.out.2.2.2;omega
      have hxm:x<N/\(frV R B x).isSome=true:=by
       have:x∈frs:=by rw [hxe,zgD,List.getElem?_eq_getElem hk'];exact List.getElem_mem _
       rw [HS.out.2.2.1] at this;exact mem_yesTo.1 this
      obtain ⟨f,hf⟩:∃ f,B.fr x=some f:=by
       cases hq:B.fr x with
       | some f=>exact ⟨f,rfl⟩
       | none=>have:=hxm.2;unfold frV at this;rw [hq] at this;cases this
      have hC:=(HA.out.2.1.trans HS.out.2.1).trans hH.out.2;obtain ⟨gz,gzc,eg,z1,z2,z3,z4,z5⟩:=zol HS.out.1 (by omega);injection eg with eg _ _;subst eg;have hcz:wr.cell? ⟨gz,k,none⟩=some (.int .i64 (x:Int)):=(hH.out.2.cell (p:=⟨gz,k,none⟩) z4 (by simp)).trans (by rw [z5 k (by omega),hxe];simp [intVs,hk']);have t9:=(hC.block _ lb6 (by simp)).trans HTOP.out;have c0:wr.cell? ⟨M.b,0,none⟩=some (.pointer (some ⟨M.d,0,none⟩)):=cell_fn t9 (by omega);have c5:wr.cell? ⟨M.b,5,none⟩=some (.map (some M.mf)):=cell_fn t9 (by omega);have fmr:=HW.out.1.chg hC (by simp);have i1:(k:Int)<(nf:Int):=by omega
      have hfd:=HW.out.2.2 x f (by rw [<- HN.out.1];exact hxm.1) hf
      have HLK:=zh (fun (W':World) (s2:KMapV Tryz.prog 3 goodF W' M.mf B.T.n (frV R B))=>show (Instr.lookup 43 (.map (some M.mf)) (.int .i64 (x:Int)) false).run Tryz.prog W' = .ok (.slice (some ⟨R.fg x,0,none⟩) 128 (R.fc x)) W' from by
       have:=(s2.look (t:=43) Tryz.underlying3 Tryz.underlying43 (zeroSl8 W') goodF_zero (k:=x) (by rw [<- HN.out.1];exact hxm.1) (by rw [<- HN.out.1];exact n1.2)).2;rw [show frV R B x=some (.slice (some ⟨R.fg x,0,none⟩) 128 (R.fc x)) from by unfold frV;rw [hf];rfl] at this;exact this)
      have CP:=zh (fun (W0:World) (C0:Chg [] w6 W0)=>baPut_at (w:=W0) (dp:=M.d) (n:=N) (at':=x) (k:=R.fg x) (o:=0) (cap:=R.fc x) (f:=f) hxm.1 hfd.1 (hfd.2.2.1.chg C0 (by simp)) (by
       obtain ⟨cur,z,hz⟩:=hfd.2.2.2;exact ⟨cur,z,(C0.block _ (zhl hz) (by simp)).trans hz⟩))
      have HX:=zh (zA hxe (zA hf (zA hC hk')));clear hxe hf hC t9 hfd hk';go_upto_region 15 with fail;refine wp_region_held_drew (S:=fun W'=>W'.cell? ⟨M.b,0,none⟩=some (.pointer (some ⟨M.d,0,none⟩))/\W'.cell? ⟨M.b,5,none⟩=some (.map (some M.mf))/\KMapV Tryz.prog 3 goodF W' M.mf B.T.n (frV R B)) (by kernel_rfl) (by exact ⟨c0,c5,fmr⟩) (fun hHeld=>?_);refine wVg 0 ?_;refine wVg 1 ?_;refine wVg 2 ?_;try simp only [Act.put,sA1,sA2,sA3]
      refine wVg 3 ?_;refine wVg 4 ?_;refine wVg 5 ?_;try simp only [Act.put,sA1,sA2,sA3]
      refine wVg 6 ?_;refine wVg 7 ?_;refine wVg 8 ?_;try simp only [Act.put,sA1,sA2,sA3]
      refine wVg 9 ?_;refine wVg 10 ?_;refine wVg 11 ?_;try simp only [Act.put,sA1,sA2,sA3]
      clear fmr;refine wE 12 (fun K hK=>?_)
      (go_simp;refine (CP.out _ (HX.out.2.2.1.drew)).mono ?_;rintro e w3 ⟨gf,lb,rfl,hst,hc3⟩;have H3:=zh (zA hst (HX.out.2.2.1.drew.trans hc3));have H3r:=zh ((Chg.refl [] wr).drew.trans hc3);clear hst hc3)
      refine hK.out _ _ ((fun (wX:World) (CX:Chg [] w6 wX)=>(⟨cell_fn ((CX.block _ lb6 (by simp)).trans HTOP.out) (by omega),cell_fn ((CX.block _ lb6 (by simp)).trans HTOP.out) (by omega),HW.out.1.chg CX (by simp)⟩:wX.cell? ⟨M.b,0,none⟩=some (.pointer (some ⟨M.d,0,none⟩))/\wX.cell? ⟨M.b,5,none⟩=some (.map (some M.mf))/\KMapV Tryz.prog 3 goodF wX M.mf B.T.n (frV R B))) _ (H3.out.2)) (fun hHeld=>?_);clear hK K;try simp only [Act.put,sA1,sA2,sA3]
      refine wE 13 (fun K hK=>?_)
      (go_simp)
      refine hK.out _ _ ((fun (wX:World) (CX:Chg [] w6 wX)=>(⟨cell_fn ((CX.block _ lb6 (by simp)).trans HTOP.out) (by omega),cell_fn ((CX.block _ lb6 (by simp)).trans HTOP.out) (by omega),HW.out.1.chg CX (by simp)⟩:wX.cell? ⟨M.b,0,none⟩=some (.pointer (some ⟨M.d,0,none⟩))/\wX.cell? ⟨M.b,5,none⟩=some (.map (some M.mf))/\KMapV Tryz.prog 3 goodF wX M.mf B.T.n (frV R B))) _ (H3.out.2.alloc _)) (fun hHeld=>?_);clear hK K;try simp only [Act.put,sA1,sA2,sA3]
      obtain ⟨vs,hrow,hall⟩:=hH.out.1;have hn3:=znb w3 (.cells #[.func gf #[] lb] 142);have hc4:Chg [] wr (w3.alloc (.cells #[.func gf #[] lb] 142)):=H3r.out.alloc _;have hc6:Chg [] w6 (w3.alloc (.cells #[.func gf #[] lb] 142)):=H3.out.2.alloc _;have hsz:=hc4.size;have hsA:=hH.out.2.size;rw [show ((frs.take k).map fun b=>some (b,(B.fr b).getD fun _=>0)).length=k by rw [List.length_map,List.length_take];have:=HX.out.2.2.2;omega] at hrow;have HR:=zh (zA hrow (zA hall (zA hn3 (zA hc4 hc6))));clear hrow hall hn3 hc4 hc6;refine wE 14 (fun K hK=>?_)
      (refine step_app (base:=wS.heap.size) (size:=1) (m:=1) (n:=k) (xs:=vs) (news:=[.func gf #[] lb]) rfl (.tmp 81) (.tmp 94) 136 rfl rfl Tryz.underlying136 infoStp rfl (by omega) (by omega) rfl rfl (own_chgT HR.out.1 HR.out.2.2.2.1 (by simp)) (AppSrc.blk HR.out.2.2.1 rfl (fun u hu=>by simp at hu;subst hu;rfl)) (by omega) (zLt hsA hsz) ?_;intro v5 w5 hown5 hg5 hob5;have H5:=zh (zA hown5 hg5);have hc5:=HR.out.2.2.2.2.grown hg5 (fun q hq => .inr (zLt (HA.out.2.1.trans HS.out.2.1).size (HR.out.1.lt q hq).1));have H56:=zh hc5;clear hown5 hg5 hob5 hc5)
      refine hK.out _ _ ((fun (wX:World) (CX:Chg [] w6 wX)=>(⟨cell_fn ((CX.block _ lb6 (by simp)).trans HTOP.out) (by omega),cell_fn ((CX.block _ lb6 (by simp)).trans HTOP.out) (by omega),HW.out.1.chg CX (by simp)⟩:wX.cell? ⟨M.b,0,none⟩=some (.pointer (some ⟨M.d,0,none⟩))/\wX.cell? ⟨M.b,5,none⟩=some (.map (some M.mf))/\KMapV Tryz.prog 3 goodF wX M.mf B.T.n (frV R B))) _ (H56.out)) (fun hHeld=>?_);clear hK K;try simp only [Act.put,sA1,sA2,sA3]
      refine wVg 15 ?_;try simp only [Act.put,sA1,sA2,sA3]
      refine wpAnyH_done (by kernel_rfl) ?_ _;go_wp2_with fail
      go_roundw
      case rel =>
       refine ⟨v5,.int .i64 (x:Int),.int .i64 ((k:Int)+1),⟨k+1,by omega,by go_num,zh ⟨?_,(hH.out.2.trans HR.out.2.2.2.1).grown H5.out.2 (fun q hq => .inr (HR.out.1.lt q hq).1)⟩⟩,rfl,rfl,rfl⟩
       have e1:frs.take (k+1)=frs.take k++[x]:=by
        rw [List.take_add_one];congr 1;have hk':=HX.out.2.2.2;rw [HX.out.1,List.getElem?_eq_getElem hk',zgD,List.getElem?_eq_getElem hk'];rfl
       rw [<- List.map_take,e1,List.map_append];have:=steps_snoc (ops:=(frs.take k).map fun b=>some (b,(B.fr b).getD fun _=>0)) (x:=(x,f)) (by rw [List.length_map,List.length_take];have:=HX.out.2.2.2;omega) HR.out.1 HR.out.2.1 H3.out.1 ((Chg.refl [] w3).alloc _) HR.out.2.2.2.1 H5.out.1 H5.out.2;rw [show ([x].map fun b=>some (b,(B.fr b).getD fun _=>0))=[some (x,f)] from by simp [HX.out.2.1]];exact this
      case measure=>simp [intOf];omega
     ·obtain rfl:k=nf:=by omega
      have hT:(frs.take k).map (fun b=>some (b,(B.fr b).getD fun _=>0))=frs.map (fun b=>some (b,(B.fr b).getD fun _=>0)):=by rw [List.take_of_length_le (by have:=HS.out.2.2.2;omega)]
      have HD:=zh (zA (hT▸hH.out.1) hH.out.2);clear hT hH;have ysr:=((HS.out.2.1.trans HD.out.2).block ys (zhl HA.out.1) (by simp)).trans HA.out.1;have HYS:=zh ysr;have hokN:B.nextS.Ok:=(HB1.out.c.ok.done_ok HF.out.2.2 HG.out).s.ok;have CE:=zh (suEncode_at (w:=wr) hokN);have hC:=(HA.out.2.1.trans HS.out.2.1).trans HD.out.2;have HC:=zh hC;clear ysr hokN hC;go_wp2_with (refine wpList_loadSup (k:=ys) (o:=0) (S:=B.nextS) rfl (.tmp 8) rfl rfl (Sup.cells HYS.out) ?_);refine CE.out.mono ?_;clear CE;rintro e wEz ⟨gp,rfl,hgp,hgs,hcE⟩;have HE:=zh (zA hgp (zA hgs (zA hcE (HC.out.trans hcE))));clear hgp hgs hcE;go_upto_region 18 with fail;obtain ⟨SX,hSX⟩:∃ SX:Nat->Value,SX=fun j=>if j=0 then .slice (some ⟨g 0,0,none⟩) (nOf N 0) (c 0) else .slice (some ⟨g 1,0,none⟩) (nOf N 1) (c 1):=⟨_,rfl⟩
      have eSX:fnRow 2 SX=#[.slice (some ⟨g 0,0,none⟩) (nOf N 0) (c 0),.slice (some ⟨g 1,0,none⟩) (nOf N 1) (c 1)]:=by rw [hSX];rfl
      obtain ⟨sl,hsl⟩:∃ sl,sl=B.Kp.gen % 2:=⟨_,rfl⟩;obtain ⟨sm,hsm⟩:∃ sm,sm=1 - sl:=⟨_,rfl⟩;have E2:IntKind.i64.wrap ((1:Int) - (sl:Int))=(sm:Int):=by rw [show (1:Int) - (sl:Int)=(sm:Int) by omega];exact IntWalk.i64_in _ (by omega)
      obtain ⟨m1,m2,m3,m4,m5,m6,m7,m8,m9,m10,m11⟩:=HQ.out
      have HKP:=zh (fun (wX:World) (CX:Chg [] w6 wX)=>show wX.cell? ⟨M.b,0,none⟩=some (.pointer (some ⟨M.d,0,none⟩))/\wX.cell? ⟨M.b,1,none⟩=some (.pointer (some ⟨M.t,0,none⟩))/\wX.cell? ⟨M.b,42,none⟩=some (.int .i64 (sl:Int))/\∀ j,j<2->wX.cell? ⟨xb,0+j,none⟩=some (SX j) from
       ⟨cell_fn ((CX.block _ lb6 (by simp)).trans HTOP.out) (by omega),cell_fn ((CX.block _ lb6 (by simp)).trans HTOP.out) (by omega),(cell_fn ((CX.block _ lb6 (by simp)).trans HTOP.out) (by omega)).trans (by rw [hsl];rfl),fun j hj=>by
        have hb:=(CX.block _ lx6 (by simp)).trans m1;rw [<- eSX] at hb;rw [Nat.zero_add];exact cell_fn hb hj⟩)
      have hdn:=HB1.out.c.ok.done_ok HF.out.2.2 HG.out;have htn:B.F.T.n=N:=by rw [HN.out.1];exact HFI.out.fin.tn
      obtain ⟨l0,hl0⟩:∃ l0,l0=yesTo (B.F.p 0) (nOf N 0):=⟨_,rfl⟩;obtain ⟨l1,hl1⟩:∃ l1,l1=yesTo (B.F.p 1) (nOf N 1):=⟨_,rfl⟩;rw [<- hl0] at m3;rw [<- hl1] at m4;have hN0:nOf N 0<=4096/\nOf N 1<=4096:=by have:nOf N 0=pg N:=rfl;rw [this];unfold pg;omega
      have hll0:l0.length<=4096:=by rw [hl0];exact zLt (yesTo_le _ _) hN0.1
      have hll1:l1.length<=4096:=by rw [hl1];exact zLt (yesTo_le _ _) hN0.2
      have hmem:∀ (q:Nat->Bool) (n:Nat) (l:List Nat),l=yesTo q n->∀ i,i<l.length->l.getD i 0<n:=fun q n l hl i hi=>by
       have:l.getD i 0∈l:=by rw [zgD,List.getElem?_eq_getElem hi];exact List.getElem_mem _
       have h2:l.getD i 0∈yesTo q n:=hl▸this;exact (mem_yesTo.1 h2).1
      have CPg:=zh (fun (W0:World) (C0:Chg [] w6 W0)=>show Calls Tryz.prog 86 #[.pointer (some ⟨M.d,0,none⟩),.pointer (some ⟨M.t,0,none⟩),.agg (fnRow 2 SX),u5,u6] W0 fun e w'=>∃ v,e = .returned v /\
        StepsAt w' W0.heap.size M.d N v ((l0.map fun i=>some (B.F.a 0 i,rowP 5 N B.F.T.now i))++(l1.map fun i=>some (B.F.a 1 i,rowP 4 (pg N) (B.F.a 0) i)))/\Chg [] W0 w' from by
       rw [eSX];exact baPaged_at (m5.chg C0 (by simp) (by simp) (by simp) (by simp)).ht htn ⟨zLt (by decide) n1.1,n1.2⟩ (fun i hi=>done_now_le hdn (by rw [htn];exact hi)) hll0 hll1 (m2.chg C0 (by simp) (by simp)) (m3.chg C0 (by simp)) (m4.chg C0 (by simp)) (hmem _ _ _ hl0) (hmem _ _ _ hl1) HN.out.2.2.2)
      have CPt:=zh (fun (W0:World) (hb:W0.heap[gp]?=some (.cells (u8s 128 (pageS B.nextS)) 5 (0,0)))=>baPut_at (w:=W0) (dp:=M.d) (n:=N) (at':=sm) (k:=gp) (o:=0) (cap:=128) (f:=pageS B.nextS) (by omega) (zLr _)
       (fun i hi=>⟨by rw [Nat.zero_add,zcb hb,u8s_get hi],sealP_le (by omega) (fun i _=>supB_le _ i) i⟩) ⟨_,_,hb⟩)
      have HL:=zh (zA hl0 (zA hl1 (zA hsl (zA hsm (zA hdn htn)))));have E0:=HKP.out _ HE.out.2.2.2;obtain ⟨e00,e01,e02,e03⟩:=E0;have HSX:=zh hSX;clear hSX eSX m1 m2 m3 m4 m5 m6 m7 m8 m9 m10 m11 hdn htn hN0 hmem hl0 hl1 hsl hsm;refine wp_region_held_drew (S:=fun wX=>wX.cell? ⟨M.b,0,none⟩=some (.pointer (some ⟨M.d,0,none⟩))/\wX.cell? ⟨M.b,1,none⟩=some (.pointer (some ⟨M.t,0,none⟩))/\wX.cell? ⟨M.b,42,none⟩=some (.int .i64 (sl:Int))/\∀ j,j<2->wX.cell? ⟨xb,0+j,none⟩=some (SX j)) (by kernel_rfl) (by exact ⟨e00,e01,e02,e03⟩) (fun hHeld=>?_);refine wVe 0 ?_;refine wVe 1 ?_;refine wVe 2 ?_;try simp only [Act.put,sA1,sA2,sA3]
      refine wVe 3 ?_;refine wVe 4 ?_;refine wVe 5 ?_;try simp only [Act.put,sA1,sA2,sA3]
      refine wVe 6 ?_;refine wVe 7 ?_;refine wVe 8 ?_;try simp only [Act.put,sA1,sA2,sA3]
      refine wpAnyH_take (i:=9) (oi:=?_) (v := .agg (fnRow 2 SX)) ?_ (by kernel_rfl) (by kernel_rfl) (by kernel_rfl) ?_ (yields_row (n:=2) (V:=SX) Tryz.underlying42 rfl (by kernel_rfl) ?_ (.tmp 4) ?_ ?_ (fun w' hw=>hw.2.2.2)) hHeld ?_
      rotate_left 1
      ·(simp only [tA1,tA2,tA3];rfl)
      ·exact fun _ _ _ h=>h
      ·rfl
      ·rfl
      ·(first | rfl | simp [Act.eval,Act.put])
      try simp only [Act.put,sA1,sA2,sA3]
      refine wVe 10 ?_;refine wVe 11 ?_;refine wVe 14 ?_;try simp only [Act.put,sA1,sA2,sA3]
      refine wVe 15 ?_;refine wVe 16 ?_;refine wVe 17 ?_;try simp only [Act.put,sA1,sA2,sA3]
      refine wVe 18 ?_;refine wVe 19 ?_;refine wVe 20 ?_;try simp only [Act.put,sA1,sA2,sA3]
      refine wVe 21 ?_;refine wVe 22 ?_;refine wVe 23 ?_;try simp only [Act.put,sA1,sA2,sA3]
      refine wVe 24 ?_;refine wVe 25 ?_;refine wVe 26 ?_;try simp only [Act.put,sA1,sA2,sA3]
      refine wVe 27 ?_;refine wVe 28 ?_;refine wVe 29 ?_;try simp only [Act.put,sA1,sA2,sA3]
      refine wVe 31 ?_;refine wVe 32 ?_;refine wVe 33 ?_;try simp only [Act.put,sA1,sA2,sA3]
      refine wVe 34 ?_;refine wVe 35 ?_;refine wVe 36 ?_;try simp only [Act.put,sA1,sA2,sA3]
      clear e00 e01 e02 e03;refine wE 12 (fun K hK=>?_)
      (go_simp;refine (CPg.out _ HE.out.2.2.2.drew).mono ?_;rintro e w2 ⟨v2,rfl,hst2,hc2⟩;have H2:=zh (zA hst2 (zA (HE.out.2.2.2.drew.trans hc2) (HE.out.2.2.1.trans ((Chg.refl [] wEz).drew.trans hc2))));have H2s:=zh ((Chg.refl [] wEz).drew.trans hc2);clear hst2 hc2)
      refine hK.out _ _ ((fun (wX:World) (CX:Chg [] w6 wX)=>HKP.out wX CX) _ (H2.out.2.1)) (fun hHeld=>?_);clear hK K;try simp only [Act.put,sA1,sA2,sA3]
      obtain ⟨ops2,hops2⟩:∃ o,o=(l0.map fun i=>some (B.F.a 0 i,rowP 5 N B.F.T.now i))++(l1.map fun i=>some (B.F.a 1 i,rowP 4 (pg N) (B.F.a 0) i)):=⟨_,rfl⟩;rw [<- hops2] at H2;obtain ⟨ops0,hops0⟩:∃ o,o=frs.map (fun b=>some (b,(B.fr b).getD fun _=>0)):=⟨_,rfl⟩;rw [<- hops0] at HD;have hol0:ops0.length=k:=by rw [hops0,List.length_map];exact HS.out.2.2.2.symm
      have hol2:ops2.length<=8192:=by rw [hops2,List.length_append,List.length_map,List.length_map];omega
      obtain ⟨m2,hm2⟩:∃ m,m=ops2.length:=⟨_,rfl⟩;rw [<- hm2] at hol2;obtain ⟨vs,hrow,hall⟩:=HD.out.1;obtain ⟨vs2,hrow2,hall2⟩:=H2.out.1;rw [hol0] at hrow;have hrow3:=own_chgT hrow H2.out.2.2 (by simp);have hlq:∀ q,q∈ownL u9->q<wr.heap.size:=fun q hq=>(hrow.lt q (zml.1 hq)).2;have hsrc:=AppSrc.own hrow2 (steps_one hrow2 hall2);rw [<- hm2] at hsrc;have hall3:∀ (i:Nat) (x:Option (Nat × (Nat->Nat))),ops0[i]?=some x->∃ u:Value,vs[i]?=some u/\StepIs w2 M.d N u x:=fun i x hx=>by obtain ⟨u,q1,q2⟩:=hall i x hx;exact ⟨u,q1,q2.on H2.out.2.2⟩
      have hszS:wS.heap.size<=w2.heap.size:=(HD.out.2.trans H2.out.2.2).size;have hszA:w6.heap.size<=wS.heap.size:=(HA.out.2.1.trans HS.out.2.1).size;have H3:=zh (zA hrow3 (zA hsrc (zA hall3 (zA hall2 (zA hszS (zA hszA (zA hol0 (zA hm2 hlq))))))));have HOP:=zh (zA hops0 hops2);clear hrow hall hrow2 hall2 hrow3 hsrc hall3 hszS hszA hol0 hm2 hops0 hops2 hlq;refine wE 13 (fun K hK=>?_)
      (refine step_app (base:=wS.heap.size) (size:=1) (m:=m2) (n:=k) (xs:=vs) (news:=vs2) rfl (.tmp 102) (.tmp 114) 136 rfl rfl Tryz.underlying136 infoStp rfl (by omega) (by omega) rfl rfl H3.out.1 H3.out.2.1 (by omega) H3.out.2.2.2.2.1 ?_;intro v5 w5 hown5 hg5 hob5;have H5:=zh (zA (steps_app H3.out.2.2.2.2.2.2.1 H3.out.2.2.2.2.2.2.2.1.symm H3.out.1 H3.out.2.2.1 H3.out.2.2.2.1 hown5 hg5) (zA (H2.out.2.1.grown hg5 (fun q hq => .inr (zLt H3.out.2.2.2.2.2.1 (H3.out.1.lt q hq).1))) ((Chg.refl (ownL u9) w2).grown hg5 (fun q hq => .inl (zml.2 hq)))));clear hown5 hg5 hob5)
      refine hK.out _ _ ((fun (wX:World) (CX:Chg [] w6 wX)=>HKP.out wX CX) _ (H5.out.2.1)) (fun hHeld=>?_);clear hK K;try simp only [Act.put,sA1,sA2,sA3]
      have hg5:w5.heap[gp]?=some (.cells (u8s 128 (pageS B.nextS)) 5 (0,0)):=by
       have hg2:=(H2s.out.block gp (zhl HE.out.1) (by simp)).trans HE.out.1;exact (H5.out.2.2.block gp (zhl hg2) (fun hm=>by have h1:=H3.out.2.2.2.2.2.2.2.2 gp hm;have h2:=HE.out.2.1;omega)).trans hg2
      have hys5:ys<wS.heap.size:=zLl (zhl HA.out.1) HS.out.2.1.size;have hy2:=(H2.out.2.2.block ys (zhl HYS.out) (by simp)).trans HYS.out;have hy5:=(H5.out.2.2.block ys (zhl hy2) (fun hm=>by have h1:=(H3.out.1.lt ys (zml.1 hm)).1;omega)).trans hy2;have HY5:=zh (zA hy5 hys5);clear hy2 hy5 hys5;have HG5:=zh hg5;clear hg5 CPg;refine wE 30 (fun K hK=>?_)
      (go_simp;refine (CPt.out _ HG5.out).mono ?_;rintro e w7 ⟨gf,lb,rfl,hst7,hc7⟩;have H7:=zh (zA hst7 (zA hc7 (H5.out.2.1.trans hc7)));clear hst7 hc7)
      refine hK.out _ _ ((fun (wX:World) (CX:Chg [] w6 wX)=>HKP.out wX CX) _ (H7.out.2.2)) (fun hHeld=>?_);clear hK K;try simp only [Act.put,sA1,sA2,sA3]
      clear CPt;refine wE 37 (fun K hK=>?_)
      (go_simp)
      refine hK.out _ _ ((fun (wX:World) (CX:Chg [] w6 wX)=>HKP.out wX CX) _ (H7.out.2.2.alloc _)) (fun hHeld=>?_);clear hK K;try simp only [Act.put,sA1,sA2,sA3]
      obtain ⟨fv,hfv⟩:∃ v:Value,v = .func (.func 87) #[.pointer (some ⟨M.d,0,none⟩)] #[]:=⟨_,rfl⟩;have hn8:=znb w7 (.cells #[.func (.func 87) #[.pointer (some ⟨M.d,0,none⟩)] #[],.func gf #[] lb,.func (.func 87) #[.pointer (some ⟨M.d,0,none⟩)] #[]] 142);have hc8:Chg [] w7 (w7.alloc (.cells #[.func (.func 87) #[.pointer (some ⟨M.d,0,none⟩)] #[],.func gf #[] lb,.func (.func 87) #[.pointer (some ⟨M.d,0,none⟩)] #[]] 142)):=(Chg.refl [] w7).alloc _;generalize w7.alloc (.cells #[.func (.func 87) #[.pointer (some ⟨M.d,0,none⟩)] #[],.func gf #[] lb,.func (.func 87) #[.pointer (some ⟨M.d,0,none⟩)] #[]] 142)=w8 at hn8 hc8 ⊢;have hst8:=H5.out.1.chg (H7.out.2.1.trans hc8);obtain ⟨vs5,hrow5,hall5⟩:=hst8;have hol:(ops0++ops2).length=k+m2:=by rw [List.length_append,H3.out.2.2.2.2.2.2.1,<- H3.out.2.2.2.2.2.2.2.1]
      rw [hol] at hrow5
      have hall6:∀ (i:Nat) (x:Option (Nat × (Nat->Nat))),[none,some (sm,pageS B.nextS),none][i]?=some x->∃ u:Value,[Value.func (.func 87) #[.pointer (some ⟨M.d,0,none⟩)] #[],.func gf #[] lb,.func (.func 87) #[.pointer (some ⟨M.d,0,none⟩)] #[]][i]?=some u/\StepIs w8 M.d N u x:=fun i x hx=>by
       match i with
       | 0=>injection hx with hx;subst hx;exact ⟨_,rfl,rfl⟩
       | 1=>injection hx with hx;subst hx;exact ⟨_,rfl,H7.out.1.on hc8⟩
       | 2=>injection hx with hx;subst hx;exact ⟨_,rfl,rfl⟩
       | n+3=>cases hx
      have hy8:=((H7.out.2.1.trans hc8).block ys (zhl HY5.out.1) (by simp)).trans HY5.out.1;have HY8:=zh hy8;clear hy8
      have HONE:=zh (show ∀ u,u∈(#[Value.func (.func 87) #[.pointer (some ⟨M.d,0,none⟩)] #[],.func gf #[] lb,.func (.func 87) #[.pointer (some ⟨M.d,0,none⟩)] #[]]:Array Value).toList->u.oneCell'=true from fun u hu=>by
       simp at hu;rcases hu with rfl | rfl | rfl <;> rfl)
      have hsz8:wS.heap.size<=w8.heap.size:=zLt H3.out.2.2.2.2.1 (H5.out.2.2.trans ((H7.out.2.1.trans hc8).mono (by simp))).size;have H8:=zh (zA hrow5 (zA hall5 (zA hall6 (zA hn8 (zA hsz8 (zA (H7.out.2.2.trans hc8) hol))))));clear hrow5 hall5 hall6 hn8 hsz8 hc8 hol hfv;clear fv;refine wE 38 (fun K hK=>?_)
      (refine step_app (base:=wS.heap.size) (size:=1) (m:=3) (n:=k+m2) (xs:=vs5) (news:=[Value.func (.func 87) #[.pointer (some ⟨M.d,0,none⟩)] #[],.func gf #[] lb,.func (.func 87) #[.pointer (some ⟨M.d,0,none⟩)] #[]]) rfl (.tmp 115) (.tmp 139) 136 rfl rfl Tryz.underlying136 infoStp rfl (by omega) (by omega) rfl rfl H8.out.1 (AppSrc.blk H8.out.2.2.2.1 rfl HONE.out) (by omega) H8.out.2.2.2.2.1 ?_;intro v9 w10 hown9 hg9 hob9;have H9:=zh (zA (steps_app H8.out.2.2.2.2.2.2 rfl H8.out.1 H8.out.2.1 H8.out.2.2.1 hown9 hg9) (H8.out.2.2.2.2.2.1.grown hg9 (fun q hq => .inr (zLt H3.out.2.2.2.2.2.1 (H8.out.1.lt q hq).1))));have HY10:=zh ((hg9.block ys (zhl HY8.out) (fun e=>by have h1:=(H8.out.1.lt ys e.symm).1;have h2:=HY5.out.2;omega)).trans HY8.out);clear hown9 hg9 hob9)
      refine hK.out _ _ ((fun (wX:World) (CX:Chg [] w6 wX)=>HKP.out wX CX) _ (H9.out.2)) (fun hHeld=>?_);clear hK K;try simp only [Act.put,sA1,sA2,sA3]
      refine wVe 39 ?_;try simp only [Act.put,sA1,sA2,sA3]
      refine wpAnyH_done (by kernel_rfl) ?_ _;clear HG5 H8 H7 H5;obtain ⟨OPS,hOPS⟩:∃ O,O=ops0++ops2++[none,some (sm,pageS B.nextS),none]:=⟨_,rfl⟩
      have hop1:ops0++ops2=B.wr.map some:=by
       rw [HOP.out.1,HOP.out.2];exact ops_wr HN.out.1 HS.out.2.2.1 HL.out.1 HL.out.2.1
      have hex:exec ⟨B.T.n,B.D,[]⟩ OPS=⟨B.T.n,B.done.D,[]⟩:=by
       rw [hOPS,hop1,exec_commit,HL.out.2.2.2.1,HL.out.2.2.1];rfl
      have hlast:OPS.getLast?=some none:=by rw [hOPS];simp
      have hlen:OPS.length<=20000:=by
       rw [hOPS,List.length_append,List.length_append,H3.out.2.2.2.2.2.2.1,<- H3.out.2.2.2.2.2.2.2.1];simp only [List.length_cons,List.length_nil];omega
      rw [<- hOPS] at H9;obtain ⟨vs9,hrow9,hall9⟩:=H9.out.1;rw [HN.out.1] at hall9;have cAll:=baAll_at (HW.out.2.1.chg H9.out.2 (by simp) (by simp) (by simp)) hrow9 hall9 (by show 0+OPS.length<=800000;omega);rw [hex] at cAll;have CALL:=zh cAll;have HLA:=zh hlast;obtain ⟨n9,hn9⟩:∃ n,n=OPS.length:=⟨_,rfl⟩;clear hex hop1 hOPS hlen hrow9 hall9 cAll hlast hn9 HOP H3 H2 hol2;have t10:=(H9.out.2.block _ lb6 (by simp)).trans HTOP.out;have HT10:=zh t10;clear t10;go_wp2_with fail;refine CALL.out.mono ?_;clear CALL;rintro e w11 ⟨rfl,wv',hdk,-,hc11,hwv⟩;obtain rfl:=hwv HLA.out;have hc11:Chg [M.d,M.bb] w10 w11:=hc11;have nd:=HND.out;have t11:=(hc11.block M.b (zhl HT10.out) (by simp [nd])).trans HT10.out;have e11:w11.cell? ⟨M.b,1,none⟩=some (.pointer (some ⟨M.t,0,none⟩)):=cell_fn t11 (by omega);obtain ⟨m1,m2,m3,m4,m5,m6,m7,m8,m9,m10,m11⟩:=HQ.out;have pt11:=(m5.chg H9.out.2 (by simp) (by simp) (by simp) (by simp)).chg hc11 (by simp;exact ⟨fun e=>nd.2.1.2.1 e.symm,fun e=>nd.2.2.1.1 e.symm⟩) (by simp;exact ⟨fun e=>nd.2.1.2.2.1 e.symm,fun e=>nd.2.2.1.2.1 e.symm⟩) (by simp;exact ⟨fun e=>nd.2.1.2.2.2.1 e.symm,fun e=>nd.2.2.1.2.2.1 e.symm⟩) (by simp;exact ⟨fun e=>nd.2.1.2.2.2.2.1 e.symm,fun e=>nd.2.2.1.2.2.2.1 e.symm⟩);have CKP:=zh (PT.keep pt11);have H11:=zh (zA hdk (zA hc11 t11));clear hdk hc11 t11 pt11 m1 m2 m3 m4 m5 m6 m7 m8 m9 m10 m11 hwv HLA nd;go_wp2_with fail;refine CKP.out.mono ?_;clear CKP;rintro e w12 ⟨rfl,hpt,hc12⟩
      have t12:=(hc12.block M.b (zhl H11.out.2.2) HNB.out).trans H11.out.2.2;have e12:w12.cell? ⟨M.b,5,none⟩=some (.map (some M.mf)):=cell_fn t12 (by omega);have nd:=HND.out
      have hnm:M.mf∉[M.p,M.t,M.bc,M.bk]:=by
       simp only [List.mem_cons,List.not_mem_nil,or_false,not_or];exact ⟨fun e=>nd.2.2.2.1.2.2.2 e.symm,fun e=>nd.2.2.2.2.1.2.2 e.symm,fun e=>nd.2.2.2.2.2.1.2 e.symm,HB1.out.c.ne⟩
      have fm12:=((HW.out.1.chg H9.out.2 (by simp)).chg H11.out.2.1 (by simp;exact ⟨fun e=>nd.2.1.2.2.2.2.2 e.symm,fun e=>nd.2.2.1.2.2.2.2 e.symm⟩)).chg hc12 hnm;obtain ⟨w13,hrun,hm13,ht13⟩:=fm12.clear (t:=43) Tryz.underlying43 0;have hc13:=mapTurned_chg ht13;have t13:=(hc13.block M.b (zhl t12) (by simp [nd])).trans t12;have H13:=zh (zA hpt (zA hc12 (zA hm13 (zA hc13 t13))));clear hpt hc12 fm12 hm13 ht13 hc13 t13 nd hnm e11;go_upto_region 25 with fail;have hLlt:∀ q,q∈M.L->q<wb.heap.size:=fun q hq=>HB1.out.lt (.inl hq);obtain ⟨m1,m2,m3,m4,m5,m6,m7,m8,m9,m10,m11⟩:=HQ.out;have hL7:∀ q,q∈[M.d,M.bb,M.p,M.t,M.bc,M.bk,M.mf]->q∈M.L:=fun q hq=>by simp only [Bm.L,List.mem_cons,List.not_mem_nil,or_false] at hq ⊢;exact .inr hq
      have C10:Chg [M.d,M.bb,M.p,M.t,M.bc,M.bk,M.mf] w10 w13:=((H11.out.2.1.mono (by simp)).trans (H13.out.2.1.mono (by simp))).trans (H13.out.2.2.2.1.mono (by simp));have C13:Chg [M.d,M.bb,M.p,M.t,M.bc,M.bk,M.mf] w6 w13:=(H9.out.2.mono (by simp)).trans C10;have hnew:∀ q,wb.heap.size<=q->q∉M.L:=fun q hq hm=>by have:=hLlt q hm;omega
      have hxn:=hnew xb m7;have hyn:=hnew ys (zLt m6.size HA.out.2.2);have x13:=(C13.block xb lx6 (fun hm=>hxn (hL7 _ hm))).trans m1;have y13:=(C10.block ys (zhl HY10.out) (fun hm=>hyn (hL7 _ hm))).trans HY10.out;have c42:w13.cell? ⟨M.b,42,none⟩=some (.int .i64 (sl:Int)):=(cell_fn H13.out.2.2.2.2 (by omega)).trans (by rw [HL.out.2.2.1];rfl);have hMb:M.b∈M.L:=by simp [Bm.L]
      have HKS:=zh (fun (wX:World) (CX:Chg [M.b] w13 wX)=>show (∀ j,j<2->wX.cell? ⟨xb,0+j,none⟩=some (SX j))/\∀ j,j<18->wX.cell? ⟨ys,0+j,none⟩=some (B.nextS.cellV j) from
       ⟨fun j hj=>by
        have hb:=(CX.block xb (zhl x13) (by simp only [zms];rintro rfl;exact hxn hMb)).trans x13;rw [Nat.zero_add,zcb hb,HSX.out]
        rcases (show j=0∨j=1 by omega) with rfl | rfl <;> rfl,
       Sup.cells ((CX.block ys (zhl y13) (by simp only [zms];rintro rfl;exact hyn hMb)).trans y13)⟩)
      have hone2:∀ i,i<2->(SX i).oneCell'=true:=fun i hi=>by
       rw [HSX.out];rcases (show i=0∨i=1 by omega) with rfl | rfl <;> rfl
      have hsu:∀ i,i<18->(B.nextS.cellV i).oneCell'=true:=fun i _=>B.nextS.cell_one i;have HO2:=zh (zA hone2 hsu);have HC13:=zh (zA C13 (zA hnew hL7));have ht13:=H13.out.2.2.2.2;have hd13:w13.drew.heap[M.b]?=some (.cells (fnRow 44 (baseV M R B)) 51 (0,0)):=ht13;have HD13:=zh (zA hd13 ((Chg.refl [M.b] w13).drew));clear hLlt m1 m2 m3 m4 m5 m6 m7 m8 m9 m10 m11 hL7 C10 C13 hnew hxn hyn x13 y13 hMb hone2 hsu ht13 hd13 e12;refine wp_region_held_drew (S:=fun wX=>(∀ j,j<2->wX.cell? ⟨xb,0+j,none⟩=some (SX j))/\∀ j,j<18->wX.cell? ⟨ys,0+j,none⟩=some (B.nextS.cellV j)) (by kernel_rfl) (by exact HKS.out _ ((Chg.refl [M.b] w13).drew)) (fun hHeld=>?_);refine wVc 0 ?_;refine wVc 1 ?_;refine wVc 2 ?_;try simp only [Act.put,sA1,sA2,sA3]
      refine wVc 3 ?_;try simp only [Act.put,sA1,sA2,sA3]
      refine wpAnyH_take (i:=4) (oi:=?_) (v := .agg (fnRow 2 SX)) ?_ (by kernel_rfl) (by kernel_rfl) (by kernel_rfl) ?_ (yields_row (n:=2) (V:=SX) Tryz.underlying42 rfl (by kernel_rfl) ?_ (.tmp 4) ?_ ?_ (fun w' hw=>hw.1)) hHeld ?_
      rotate_left 1
      ·(simp only [tA1,tA2,tA3];rfl)
      ·exact fun _ _ _ h=>h
      ·rfl
      ·rfl
      ·(first | rfl | simp [Act.eval,Act.put])
      try simp only [Act.put,sA1,sA2,sA3]
      refine wpAnyH_take (i:=5) (oi:=?_) (v := .agg (fnRow 18 B.nextS.cellV)) ?_ (by kernel_rfl) (by kernel_rfl) (by kernel_rfl) ?_ (yields_row (n:=18) (V:=B.nextS.cellV) Tryz.underlying49 rfl (by kernel_rfl) ?_ (.tmp 8) ?_ ?_ (fun w' hw=>hw.2)) hHeld ?_
      rotate_left 1
      ·(simp only [tA1,tA2,tA3];rfl)
      ·exact fun _ _ _ h=>h
      ·rfl
      ·rfl
      ·(first | rfl | simp [Act.eval,Act.put])
      try simp only [Act.put,sA1,sA2,sA3]
      refine wpAnyH_take (i:=6) (oi:=?_) (v := .agg (fnRow 18 B.nextS.cellV)) ?_ (by kernel_rfl) (by kernel_rfl) (by kernel_rfl) ?_ (yields_row (n:=18) (V:=B.nextS.cellV) Tryz.underlying49 rfl (by kernel_rfl) ?_ (.tmp 8) ?_ ?_ (fun w' hw=>hw.2)) hHeld ?_
      rotate_left 1
      ·(simp only [tA1,tA2,tA3];rfl)
      ·exact fun _ _ _ h=>h
      ·rfl
      ·rfl
      ·(first | rfl | simp [Act.eval,Act.put])
      try simp only [Act.put,sA1,sA2,sA3]
      refine wVc 7 ?_;refine wVc 8 ?_;refine wVc 9 ?_;try simp only [Act.put,sA1,sA2,sA3]
      refine wE 10 (fun K hK=>?_)
      (go_simp)
      refine hK.out _ _ ((fun (wX:World) (CX:Chg [M.b] w13 wX)=>HKS.out wX CX) _ (HD13.out.2)) (fun hHeld=>?_);clear hK K;try simp only [Act.put,sA1,sA2,sA3]
      refine wVc 11 ?_;refine wVc 12 ?_;refine wVc 13 ?_;try simp only [Act.put,sA1,sA2,sA3]
      clear c42;have hrn:(storeCells ⟨M.b,3,none⟩ (fnRow 2 SX).toList).run Tryz.prog w13.drew = .ok () (w13.drew.setCells M.b 3 (fnRow 2 SX).toList):=run_storeCells_row (P:=Tryz.prog) (U:=SX) (V:=(baseV M R B)) (N:=44) (T:=51) HD13.out.1 (by omega) HO2.out.1 (o:=3) (n:=2);have hrs:=zfs 2 SX;have hsl:=setCells_laid (o:=3) (n:=2) (U:=SX) (V:=(baseV M R B)) (N:=44) (t:=51) HD13.out.1;generalize w13.drew.setCells M.b 3 (fnRow 2 SX).toList=w14 at hrn hsl;have Hw14:=zh (zA hsl.1 (HD13.out.2.trans hsl.2));clear hsl;refine wE 14 (fun K hK=>?_)
      (go_simp)
      refine hK.out _ _ ((fun (wX:World) (CX:Chg [M.b] w13 wX)=>HKS.out wX CX) _ (Hw14.out.2)) (fun hHeld=>?_);clear hK K;try simp only [Act.put,sA1,sA2,sA3]
      clear hrn hrs;refine wVc 15 ?_;refine wVc 16 ?_;try simp only [Act.put,sA1,sA2,sA3]
      have hrn:(storeCells ⟨M.b,6,none⟩ (fnRow 18 B.nextS.cellV).toList).run Tryz.prog w14 = .ok () (w14.setCells M.b 6 (fnRow 18 B.nextS.cellV).toList):=run_storeCells_row (P:=Tryz.prog) (U:=B.nextS.cellV) (V:=(laid (baseV M R B) SX 3 2)) (N:=44) (T:=51) Hw14.out.1 (by omega) HO2.out.2 (o:=6) (n:=18);have hrs:=zfs 18 B.nextS.cellV;have hsl:=setCells_laid (o:=6) (n:=18) (U:=B.nextS.cellV) (V:=(laid (baseV M R B) SX 3 2)) (N:=44) (t:=51) Hw14.out.1;generalize w14.setCells M.b 6 (fnRow 18 B.nextS.cellV).toList=w15 at hrn hsl;have Hw15:=zh (zA hsl.1 (Hw14.out.2.trans hsl.2));clear hsl;refine wE 17 (fun K hK=>?_)
      (go_simp)
      refine hK.out _ _ ((fun (wX:World) (CX:Chg [M.b] w13 wX)=>HKS.out wX CX) _ (Hw15.out.2)) (fun hHeld=>?_);clear hK K;try simp only [Act.put,sA1,sA2,sA3]
      clear hrn hrs;refine wVc 18 ?_;refine wVc 19 ?_;try simp only [Act.put,sA1,sA2,sA3]
      have hrn:(storeCells ⟨M.b,24,none⟩ (fnRow 18 B.nextS.cellV).toList).run Tryz.prog w15 = .ok () (w15.setCells M.b 24 (fnRow 18 B.nextS.cellV).toList):=run_storeCells_row (P:=Tryz.prog) (U:=B.nextS.cellV) (V:=(laid (laid (baseV M R B) SX 3 2) B.nextS.cellV 6 18)) (N:=44) (T:=51) Hw15.out.1 (by omega) HO2.out.2 (o:=24) (n:=18);have hrs:=zfs 18 B.nextS.cellV;have hsl:=setCells_laid (o:=24) (n:=18) (U:=B.nextS.cellV) (V:=(laid (laid (baseV M R B) SX 3 2) B.nextS.cellV 6 18)) (N:=44) (t:=51) Hw15.out.1;generalize w15.setCells M.b 24 (fnRow 18 B.nextS.cellV).toList=w16 at hrn hsl;have Hw16:=zh (zA hsl.1 (Hw15.out.2.trans hsl.2));clear hsl;refine wE 20 (fun K hK=>?_)
      (go_simp)
      refine hK.out _ _ ((fun (wX:World) (CX:Chg [M.b] w13 wX)=>HKS.out wX CX) _ (Hw16.out.2)) (fun hHeld=>?_);clear hK K;try simp only [Act.put,sA1,sA2,sA3]
      clear hrn hrs;refine wVc 21 ?_;refine wVc 22 ?_;try simp only [Act.put,sA1,sA2,sA3]
      have d42:=cell_fn Hw16.out.1 (i:=42) (by omega);have z42:=zfb Hw16.out.1 42;have l42:=zhl Hw16.out.1;refine wE 23 (fun K hK=>?_)
      (go_simp)
      refine hK.out _ _ ((fun (wX:World) (CX:Chg [M.b] w13 wX)=>HKS.out wX CX) _ (Hw16.out.2.setCell (.inl (by simp)) _)) (fun hHeld=>?_);clear hK K;try simp only [Act.put,sA1,sA2,sA3]
      refine wpAnyH_done (by kernel_rfl) ?_ _;clear d42 z42;go_wp2_with fail;have tp:=zsb Hw16.out.1 42 (.int .i64 (sm:Int));have hdn:=HL.out.2.2.2.2.1;have htn:=HL.out.2.2.2.2.2;have hsl:=HL.out.2.2.1;have hsm:=HL.out.2.2.2.1;obtain ⟨R2,hR2⟩:∃ R2:Br,R2=⟨g,c,R.fg,R.fc⟩:=⟨_,rfl⟩;have eT:B.done.T.n=N:=by rw [done_T,keep_n];exact htn
      rw [base_done (M:=M) (R:=R) (R':=R2) (B:=B) (B':=B.done) (S:=B.nextS) (by rw [eT];exact HN.out.1) (by rw [HSX.out,eT,hR2];rfl) (by rw [HSX.out,eT,hR2];rfl) rfl rfl (by
       rw [hsm,hsl];have e:B.done.Kp.gen=B.S.gen+1:=rfl;have e2:=HB1.out.c.ok.sg;rw [e,e2];congr 1;omega)] at tp
      have cF:Chg [M.b] w13 (w16.setCell ⟨M.b,42,none⟩ (.int .i64 (sm:Int))):=Hw16.out.2.setCell (.inl (by simp)) _;obtain ⟨wF,hwF⟩:∃ wF,wF=w16.setCell ⟨M.b,42,none⟩ (.int .i64 (sm:Int)):=⟨_,rfl⟩;rw [<- hwF] at tp cF ⊢;have HF2:=zh (zA tp cF);clear tp cF hwF;go_ret;have nd:=HND.out;obtain ⟨m1,m2,m3,m4,m5,m6,m7,m8,m9,m10,m11⟩:=HQ.out;have hMb:M.b∈M.L:=by simp [Bm.L]
      have c6F:Chg M.L w6 wF:=(HC13.out.1.mono HC13.out.2.2).trans (HF2.out.2.mono (fun q hq=>by simp only [zms] at hq;subst hq;exact hMb));have cwF:Chg M.L w wF:=((HR.out.mono (by simp)).trans (m6.mono (by simp [Bm.L]))).trans c6F;have hsw:w.heap.size<=wb.heap.size:=HR.out.size;have nb:∀ q,q≠M.b->q∉[M.b]:=fun q hq=>by simpa using hq
      have nm:∀ q,q≠M.mf->q∉[M.mf]:=fun q hq=>by simpa using hq
      have hg2:∀ k,k<2->g k∉M.L:=fun k hk=>HC13.out.2.1 _ (m8 k hk);refine ⟨rfl,⟨R2,⟨{ top:=HF2.out.1,pt:=?_,sh:=?_,fm:=?_,fd:=?_,ok:=hdn,ne:=HB1.out.c.ne,glt:=?_ },?_⟩,?_⟩,cwF⟩
      ·rw [done_K,done_T]
       exact (H13.out.1.chg H13.out.2.2.2.1 (nm _ nd.2.2.2.1.2.2.2) (nm _ nd.2.2.2.2.1.2.2) (nm _ nd.2.2.2.2.2.1.2) (nm _ nd.2.2.2.2.2.2.1)).chg HF2.out.2 (nb _ (fun e=>nd.1.2.2.1 e.symm)) (nb _ (fun e=>nd.1.2.2.2.1 e.symm)) (nb _ (fun e=>nd.1.2.2.2.2.1 e.symm)) (nb _ (fun e=>nd.1.2.2.2.2.2.1 e.symm))
      ·rw [eT,done_a,hR2]
       exact m2.chg c6F (hg2 0 (by omega)) (hg2 1 (by omega))
      ·rw [eT,HN.out.1]
       exact (H13.out.2.2.1.chg HF2.out.2 (nb _ (fun e=>nd.1.2.2.2.2.2.2 e.symm))).congr (fun i hi=>rfl)
      ·intro k f hk hf
       have h0:(none:Option (Nat->Nat))=some f:=hf;cases h0
      ·intro k hk
       rw [hR2];exact zLl (m2.row hk).2.2.1 c6F.size
      ·rw [eT,HN.out.1]
       exact ((H11.out.1.chg H13.out.2.1 (by simp [nd]) (by simp [nd]) (fun k hk=>by cases hk)).chg H13.out.2.2.2.1 (nm _ nd.2.1.2.2.2.2.2) (nm _ nd.2.2.1.2.2.2.2) (fun k hk=>by cases hk)).chg HF2.out.2 (nb _ (fun e=>nd.1.1 e.symm)) (nb _ (fun e=>nd.1.2.1 e.symm)) (fun k hk=>by cases hk)
      ·intro q hq hm
       rcases hq with hq | ⟨k,hk,rfl⟩ | ⟨k,hk,hf,rfl⟩
       ·exact HF.out.1 q (.inl hq) hm
       ·rw [hR2] at hm
        have h1:=HF.out.2.1 _ hm;have h2:=m8 k hk
        change g k<_ at h1
        exact absurd h1 (Nat.not_lt.2 (zLt hsw h2))
       ·have h0:(none:Option (Nat->Nat)).isSome=true:=hf
        cases h0
end Go.Proofs.YtkhcaclndepgbaaGreat
