/- Layer 10: pages under way in memory; has a page to be placed? · Layer 10: a page is placed; which one is next. -/
import Derived.Test.YtkhcaclndepgbaaGreatZg17
import Derived.RegionTactic
import Derived.Deep.DeepCutAuto
import Derived.Deep.CutBlock
set_option linter.unusedVariables false
set_option linter.unusedSimpArgs false
set_option maxRecDepth 100000
set_option maxHeartbeats 20000000
namespace Go.Proofs.YtkhcaclndepgbaaGreat
open Go.RowKit
structure ShAt (w:World) (x p t bc bk:Nat) (g h c:Nat→Nat) (S:PS):Prop where
 pt:PT w p t bc bk S.K S.T
 top:w.heap[x]?=some (.cells #[.pointer (some ⟨t,0,none⟩),.pointer (some ⟨p,0,none⟩),.slice (some ⟨g 0,0,none⟩) (S.n 0) (c 0),.slice (some ⟨g 1,0,none⟩) (S.n 1) (c 1),.slice (some ⟨h 0,0,none⟩) (S.n 0) (S.n 0),.slice (some ⟨h 1,0,none⟩) (S.n 1) (S.n 1)] 222 (0,0))
 ats:∀ k,k<2→∃ cur,w.heap[g k]?=some (.cells cur 3 (0,0))∧cur.size=c k∧S.n k≤c k∧c k≤maxLen∧∀ i,i<S.n k→cur[i]?=some (.int .i64 (S.a k i:Int))
 pls:∀ k,k<2→w.heap[h k]?=some (.cells (bools (S.n k) (S.p k)) 4 (0,0))
 nd:[x,g 0,g 1,h 0,h 1,p,t,bc,bk].Nodup
 n0:S.n 0=pg S.T.n
 n1:S.n 1=pg (pg S.T.n)
namespace ShAt
variable {w:World} {x p t bc bk:Nat} {g h c:Nat→Nat} {S:PS}
theorem chg {w':World} {L:List Nat} (H:ShAt w x p t bc bk g h c S) (C:Chg L w w') (hd:∀ b,b∈[x,g 0,g 1,h 0,h 1,p,t,bc,bk]→b∉L):ShAt w' x p t bc bk g h c S:=by
 have m:∀ b,b∈[x,g 0,g 1,h 0,h 1,p,t,bc,bk]→b∉L:=hd
 refine ⟨H.pt.chg C (m p (by simp)) (m t (by simp)) (m bc (by simp)) (m bk (by simp)),(C.block x (zhl H.top) (m x (by simp))).trans H.top,fun k hk=>?_,fun k hk=>?_,H.nd,H.n0,H.n1⟩
 ·obtain ⟨cur,h1,h2⟩:=H.ats k hk
  have hk2:k=0∨k=1:=by omega
  refine ⟨cur,(C.block (g k) (zhl h1) (m (g k) ?_)).trans h1,h2⟩
  rcases hk2 with rfl | rfl <;> simp
 ·have h1:=H.pls k hk
  have hk2:k=0∨k=1:=by omega
  refine (C.block (h k) (zhl h1) (m (h k) ?_)).trans h1
  rcases hk2 with rfl | rfl <;> simp
theorem atc (H:ShAt w x p t bc bk g h c S) {k i:Nat} (hk:k<2) (hi:i<S.n k):w.cell? ⟨g k,i,none⟩=some (.int .i64 (S.a k i:Int)):=by
 obtain ⟨cur,h1,h2,h3,h4,h5⟩:=H.ats k hk
 rw [zcb h1];exact h5 i hi
theorem atcap (H:ShAt w x p t bc bk g h c S) {k:Nat} (hk:k<2):S.n k≤c k∧c k≤maxLen:=by
 obtain ⟨cur,h1,h2,h3,h4,h5⟩:=H.ats k hk
 exact ⟨h3,h4⟩
theorem plc (H:ShAt w x p t bc bk g h c S) {k i:Nat} (hk:k<2) (hi:i<S.n k):w.cell? ⟨h k,i,none⟩=some (.bool (S.p k i)):=by
 rw [zcb (H.pls k hk)];exact bools_get hi
theorem nle (H:ShAt w x p t bc bk g h c S) {k:Nat} (hk:k<2):1≤S.n k∧S.n k≤4096:=by
 have a1:=H.pt.ht.n1
 have a2:=H.pt.ht.n2
 have p1:=pg_pos a1
 have p2:=pg_le (n:=S.T.n)
 have p3:=pg_pos p1
 have p4:=pg_le (n:=pg S.T.n)
 have hk2:k=0∨k=1:=by omega
 rcases hk2 with rfl | rfl
 ·rw [H.n0];omega
 ·rw [H.n1];omega
end ShAt
theorem chgs_get {T:Tal} {k:Nat} (hk:k<(chgs T).length):(chgs T).getD k 0∈chgs T:=by
 rw [List.getD_eq_getElem?_getD,List.getElem?_eq_getElem hk]
 exact List.getElem_mem _
theorem any_yes {T:Tal} {i k:Nat} (h1:k<(chgs T).length) (h2:(chgs T).getD k 0=61*i):anyIn T.changed T.n i=true:=by
 have hm:=mem_chgs.1 (chgs_get h1)
 rw [h2] at hm
 exact anyIn_iff.2 ⟨61*i,by omega,by omega,hm.1,hm.2⟩
theorem any_in {T:Tal} {i k:Nat} (h1:k<(chgs T).length) (h2:61*i≤(chgs T).getD k 0) (h3:(chgs T).getD k 0<61*i+61):anyIn T.changed T.n i=true:=by
 have hm:=mem_chgs.1 (chgs_get h1)
 exact anyIn_iff.2 ⟨_,h2,h3,hm.1,hm.2⟩
theorem any_not {T:Tal} {i k:Nat} (hlo:∀ j,j<k→(chgs T).getD j 0<61*i) (h:k<(chgs T).length→61*i+61≤(chgs T).getD k 0):anyIn T.changed T.n i=false:=by
 cases ha:anyIn T.changed T.n i with
 | false=>rfl
 | true =>
  obtain ⟨b,h1,h2,h3,h4⟩:=anyIn_iff.1 ha
  obtain ⟨j,hj,rfl⟩:=List.getElem_of_mem (mem_chgs.2 ⟨h3,h4⟩)
  have e:(chgs T).getD j 0=(chgs T)[j]:=by rw [List.getD_eq_getElem?_getD,List.getElem?_eq_getElem hj];rfl
  by_cases hjk:j<k
  ·have:=hlo j hjk;omega
  ·have h5:=h (by omega)
   have:(chgs T).getD k 0≤(chgs T).getD j 0:=by
    by_cases e2:k=j
    ·rw [e2];exact Nat.le_refl _
    ·have:=List.pairwise_iff_getElem.1 (chgs_pairwise T) k j (by omega) hj (by omega)
     rw [e,List.getD_eq_getElem?_getD,List.getElem?_eq_getElem (by omega)]
     exact Nat.le_of_lt this
   omega
theorem wants_p {w:World} {x p t bc bk:Nat} {g h c:Nat→Nat} {S:PS} {k i:Nat} (H:ShAt w x p t bc bk g h c S) (hk:k<2) (hi:i<S.n k) (hp:S.p k i=true∨S.a k i=0) :
  Calls Tryz.prog 134 #[.pointer (some ⟨x,0,none⟩),.int .i64 (k:Int),.int .i64 (i:Int)] w fun e w'=>e = .returned (.bool (S.want k i))∧w=w':=by
 have top:=H.top
 have ac:=H.atc hk hi
 have pc:=H.plc hk hi
 have ca:=H.atcap hk
 have nl:=H.nle hk
 have x0:=zcb top 0
 have x1:=zcb top 1
 have x2:=zcb top 2
 have x3:=zcb top 3
 have x4:=zcb top 4
 have x5:=zcb top 5
 simp only [List.getElem?_toArray,List.getElem?_cons_zero,List.getElem?_cons_succ] at x0 x1 x2 x3 x4 x5
 clear top
 have hw:S.want k i = !S.p k i:=by
  unfold PS.want
  rcases hp with hp | hp
  ·simp [hp]
  ·simp [hp]
 rw [hw]
 have i0:(0:Int)≤(i:Int):=by omega
 have i1:(i:Int)<(S.n k:Int):=by omega
 have hk2:k=0∨k=1:=by omega
 rcases hk2 with rfl | rfl
 all_goals
  cases hpp:S.p _ i with
  | true =>
   rw [hpp] at pc
   go_enter Tryz.func134,Tryz.ntmps134
   go_wp2_with fail
   go_ret
   exact ⟨rfl,rfl⟩
  | false =>
   rw [hpp] at pc
   have ha:=hp.resolve_left (by rw [hpp];decide)
   rw [ha] at ac
   rw [show (((0:Nat)):Int)=0 from rfl] at ac
   go_enter Tryz.func134,Tryz.ntmps134
   go_wp2_with fail
   go_ret
   exact ⟨rfl,rfl⟩
theorem wants_1 {w:World} {x p t bc bk:Nat} {g h c:Nat→Nat} {S:PS} {i:Nat} (H:ShAt w x p t bc bk g h c S) (hi:i<S.n 1) (hp:S.p 1 i=false) (ha:S.a 1 i≠0) :
  Calls Tryz.prog 134 #[.pointer (some ⟨x,0,none⟩),.int .i64 1,.int .i64 (i:Int)] w fun e w'=>e = .returned (.bool (S.want 1 i))∧Chg [] w w':=by
 have top:=H.top
 have ac:=H.atc (k:=1) (by omega) hi
 have pc:=H.plc (k:=1) (by omega) hi
 have ca:=H.atcap (k:=1) (by omega)
 have nl:=H.nle (k:=1) (by omega)
 have nl0:=H.nle (k:=0) (by omega)
 have x0:=zcb top 0
 have x1:=zcb top 1
 have x2:=zcb top 2
 have x3:=zcb top 3
 have x4:=zcb top 4
 have x5:=zcb top 5
 simp only [List.getElem?_toArray,List.getElem?_cons_zero,List.getElem?_cons_succ] at x0 x1 x2 x3 x4 x5
 clear top
 rw [hp] at pc
 have ha':¬ (S.a 1 i:Int)=0:=by omega
 have i0:(0:Int)≤(i:Int):=by omega
 have i1:(i:Int)<(S.n 1:Int):=by omega
 have hin:61*i<S.n 0:=by
  have:=H.n0
  have h2:=H.n1
  rw [← this] at h2
  unfold pg at h2
  omega
 have hc:=contains_at (w:=w) (b:=h 0) (o:=61*i) (n:=min (61*i+61) (S.n 0) - 61*i) (cap:=S.n 0 - 61*i) (p:=fun j=>S.p 0 (61*i+j)) (by omega) (by omega) (by unfold maxLen;omega) (fun j hj=>H.plc (k:=0) (by omega) (by omega))
 have HC:=Lib.hid hc
 clear hc
 have hw:∀ r:Bool,(r=true↔∃ j,j<min (61*i+61) (S.n 0) - 61*i∧S.p 0 (61*i+j)=true)→r=S.want 1 i:=by
  intro r hr
  have e:S.want 1 i=anyIn (S.p 0) (S.n 0) i:=by unfold PS.want;simp [hp,ha]
  rw [e,Bool.eq_iff_iff,hr,anyIn_iff]
  constructor
  ·rintro ⟨j,hj,h⟩;exact ⟨61*i+j,by omega,by omega,by omega,h⟩
  ·rintro ⟨b,h1,h2,h3,h4⟩;exact ⟨b - 61*i,by omega,by rw [show 61*i+(b - 61*i)=b by omega];exact h4⟩
 have HW:=Lib.hid hw
 clear hw
 have hmi:min (((i:Int)+1)*61) (S.n 0:Int)=((min (61*i+61) (S.n 0):Nat):Int):=by omega
 have e1:(i:Int)*61=((61*i:Nat):Int):=by omega
 go_enter Tryz.func134,Tryz.ntmps134
 go_wp2_with fail
 refine HC.out.mono ?_
 rintro e w' ⟨⟨r,rfl,hr⟩,rfl⟩
 obtain rfl:=HW.out r hr
 clear hr
 go_wp2_with fail
 go_ret
 exact ⟨rfl,Chg.refl _ _⟩
theorem wants_0 {w:World} {x p t bc bk:Nat} {g h c:Nat→Nat} {S:PS} {i:Nat} (H:ShAt w x p t bc bk g h c S) (hi:i<S.n 0) (hp:S.p 0 i=false) (ha:S.a 0 i≠0) :
  Calls Tryz.prog 134 #[.pointer (some ⟨x,0,none⟩),.int .i64 0,.int .i64 (i:Int)] w fun e w'=>e = .returned (.bool (S.want 0 i))∧Chg [] w w':=by
 have top:=H.top
 have ac:=H.atc (k:=0) (by omega) hi
 have pc:=H.plc (k:=0) (by omega) hi
 have ca:=H.atcap (k:=0) (by omega)
 have nl:=H.nle (k:=0) (by omega)
 have HT:=Lib.hid H.pt.ht
 have hx:=zhl top
 have HX:=Lib.hid top
 have x0:=zcb top 0
 have x1:=zcb top 1
 have x2:=zcb top 2
 have x3:=zcb top 3
 have x4:=zcb top 4
 have x5:=zcb top 5
 simp only [List.getElem?_toArray,List.getElem?_cons_zero,List.getElem?_cons_succ] at x0 x1 x2 x3 x4 x5
 clear top
 rw [hp] at pc
 have ha':¬ (S.a 0 i:Int)=0:=by omega
 have i0:(0:Int)≤(i:Int):=by omega
 have i1:(i:Int)<(S.n 0:Int):=by omega
 have e:S.want 0 i=anyIn S.T.changed S.T.n i:=by unfold PS.want;simp [hp,ha]
 rw [e]
 clear e
 have hcl:(chgs S.T).length≤4096:=Nat.le_trans (List.length_filter_le _ _) (by simp;exact H.pt.ht.n2)
 go_enter Tryz.func134,Tryz.ntmps134
 go_wp2_with fail
 refine (changed_at HT.out).mono ?_
 rintro e w1 ⟨v,rfl,hown,hB⟩
 have HS:=Lib.hid (SlI.of_own hown)
 have HC:=Lib.hid (Chg.of_below (L:=[]) hB)
 clear hown hB
 have cB:=bin_at HS.out (chgs_pairwise S.T) hcl (61*i) (by omega)
 rw [show ((61*i:Nat):Int)=(i:Int)*61 by omega] at cB
 have HT1:=Lib.hid (HT.out.chg HC.out (by simp) (by simp) (by simp))
 have y0:=(HC.out.cell (p:=⟨x,0,none⟩) hx (by simp)).trans x0
 clear x0 x1 x2 x3 x4 x5 ac pc
 go_wp2_with fail
 refine cB.mono ?_
 clear cB
 rintro e w2 ⟨k,b,rfl,hk,hlo,hhi,hb,rfl⟩
 have HLO:=Lib.hid hlo
 have HHI:=Lib.hid hhi
 have HBB:=Lib.hid hb
 clear hlo hhi hb
 cases b with
 | true =>
  have HZ:=Lib.hid (any_yes (HBB.out.1 rfl).1 (HBB.out.1 rfl).2)
  go_wp2_with fail
  go_ret
  exact ⟨by rw [HZ.out] <;> rfl,HC.out⟩
 | false =>
  go_wp2_with fail
  refine (changed_at HT1.out).mono ?_
  rintro e w3 ⟨v2,rfl,hown,hB⟩
  have hS2:=SlI.of_own hown
  have HC2:=Lib.hid (HC.out.trans (Chg.of_below (L:=[]) hB))
  clear hown hB
  obtain ⟨a,cp,rfl⟩:=hS2.len
  by_cases hkl:k<(chgs S.T).length
  ·have hcell:∃ gg,a=some ⟨gg,0,none⟩∧(chgs S.T).length≤cp∧w3.cell? ⟨gg,k,none⟩=some (.int .i64 (((chgs S.T).getD k 0:Nat):Int)):=by
    rcases hS2 with ⟨h1,h2⟩ | ⟨gg,cap,h1,h2,h3,h4,h5⟩
    ·rw [h2] at hkl;simp at hkl
    ·injection h1 with h1 _ h6
     exact ⟨gg,h1,by rw [h6];exact h2,h5 k hkl⟩
   obtain ⟨gg,rfl,hcp,hcell⟩:=hcell
   have h61:=HHI.out k (Nat.le_refl _) hkl
   obtain ⟨y,hy⟩:∃ y,y=(chgs S.T).getD k 0:=⟨_,rfl⟩
   rw [← hy] at hcell h61
   have HY:=Lib.hid hy
   clear hy hS2
   by_cases hlt:y<61*i+61
   ·have i2:(y:Int)<((i:Int)+1)*61:=by omega
    go_wp2_with fail
    go_ret
    exact ⟨by rw [any_in hkl (by rw [← HY.out];exact h61) (by rw [← HY.out];exact hlt)] <;> rfl,HC2.out⟩
   ·have i2:¬ (y:Int)<((i:Int)+1)*61:=by omega
    go_wp2_with fail
    go_ret
    exact ⟨by rw [any_not HLO.out (fun _=>by rw [← HY.out];omega)];simp;omega,HC2.out⟩
  ·obtain rfl:k=(chgs S.T).length:=by omega
   clear hS2
   go_wp2_with fail
   go_ret
   exact ⟨by rw [any_not HLO.out (fun h=>absurd h (Nat.lt_irrefl _))] <;> rfl,HC2.out⟩
theorem wants_at {w:World} {x p t bc bk:Nat} {g h c:Nat→Nat} {S:PS} {k i:Nat} (H:ShAt w x p t bc bk g h c S) (hk:k<2) (hi:i<S.n k) :
  Calls Tryz.prog 134 #[.pointer (some ⟨x,0,none⟩),.int .i64 (k:Int),.int .i64 (i:Int)] w fun e w'=>e = .returned (.bool (S.want k i))∧Chg [] w w':=by
 by_cases hq:S.p k i=true∨S.a k i=0
 ·exact (wants_p H hk hi hq).mono fun e w' ⟨h1,h2⟩=>⟨h1,by rw [← h2];exact Chg.refl _ _⟩
 ·have h1:S.p k i=false:=by cases hpp:S.p k i with | false=>rfl | true=>exact absurd (.inl hpp) hq
  have h2:S.a k i≠0:=fun h=>hq (.inr h)
  have hk2:k=0∨k=1:=by omega
  rcases hk2 with rfl | rfl
  ·exact wants_0 H hi h1 h2
  ·exact wants_1 H hi h1 h2
end Go.Proofs.YtkhcaclndepgbaaGreat
namespace Go.Proofs.YtkhcaclndepgbaaGreat
open Go.RowKit
theorem ShAt.put {w w':World} {x p t bc bk:Nat} {g h c:Nat→Nat} {S:PS} {k i:Nat} (H:ShAt w x p t bc bk g h c S) (hk:k<2) (hi:i<S.n k) {T':Tal} {K':Pk} (hpt:PT w' p t bc bk K' T') (hn:T'.n=S.T.n)
  (C:Chg [p,t,bc,bk] w w') (v:Nat) :
  ShAt ((w'.setCell ⟨g k,i,none⟩ (.int .i64 (v:Int))).setCell ⟨h k,i,none⟩ (.bool true)) x p t bc bk g h c ⟨T',K',S.n,upd2 S.a k i v,upd2 S.p k i true⟩ ∧
   Chg [g 0,g 1,h 0,h 1,p,t,bc,bk] w ((w'.setCell ⟨g k,i,none⟩ (.int .i64 (v:Int))).setCell ⟨h k,i,none⟩ (.bool true)):=by
 have hnd:=H.nd
 simp only [List.nodup_cons,List.mem_cons,List.not_mem_nil,or_false,not_or,List.nodup_nil,and_true] at hnd
 obtain ⟨⟨nx1,nx2,nx3,nx4,nx5,nx6,nx7,nx8⟩,⟨a1,a2,a3,a4,a5,a6,a7⟩,⟨b2,b3,b4,b5,b6,b7⟩,⟨c3,c4,c5,c6,c7⟩,⟨d4,d5,d6,d7⟩,_⟩:=hnd
 have hk2:k=0∨k=1:=by omega
 have oc:∀ (j:Nat) (u:Value) (b:Nat) (W:World),b≠j→∀ q,(W.setCell ⟨j,q,none⟩ u).heap[b]?=W.heap[b]?:=fun j u b W hb q=>zso q u hb
 have CC:Chg [g k,h k] w' ((w'.setCell ⟨g k,i,none⟩ (.int .i64 (v:Int))).setCell ⟨h k,i,none⟩ (.bool true)):=((Chg.refl _ _).setCell (.inl (by simp)) _).setCell (.inl (by simp)) _
 have mk:∀ b,b∈[g k,h k]→b=g 0∨b=g 1∨b=h 0∨b=h 1:=by
  rcases hk2 with rfl | rfl <;> intro b hb <;> simp at hb <;> rcases hb with rfl | rfl <;> simp
 have nn:∀ b,b≠g 0→b≠g 1→b≠h 0→b≠h 1→b∉[g k,h k]:=fun b e1 e2 e3 e4 hm=>by rcases mk b hm with q | q | q | q <;> contradiction
 refine ⟨⟨hpt.chg CC (nn p (Ne.symm a4) (Ne.symm b4) (Ne.symm c4) (Ne.symm d4)) (nn t (Ne.symm a5) (Ne.symm b5) (Ne.symm c5) (Ne.symm d5)) (nn bc (Ne.symm a6) (Ne.symm b6) (Ne.symm c6) (Ne.symm d6)) (nn bk (Ne.symm a7) (Ne.symm b7) (Ne.symm c7) (Ne.symm d7)),?_,?_,?_,H.nd,by rw [hn];exact H.n0,by rw [hn];exact H.n1⟩,?_⟩
 ·exact (CC.block x (Nat.lt_of_lt_of_le (zhl H.top) C.size) (nn x nx1 nx2 nx3 nx4)).trans ((C.block x (zhl H.top) (by simp only [List.mem_cons,List.not_mem_nil,or_false,not_or];exact ⟨nx5,nx6,nx7,nx8⟩)).trans H.top)
 ·intro k' hk'
  obtain ⟨cur,q1,q2,q3,q4,q5⟩:=H.ats k' hk'
  have hgk:g k'∉[p,t,bc,bk]:=by
   have hk2':k'=0∨k'=1:=by omega
   simp only [List.mem_cons,List.not_mem_nil,or_false,not_or]
   rcases hk2' with rfl | rfl
   ·exact ⟨a4,a5,a6,a7⟩
   ·exact ⟨b4,b5,b6,b7⟩
  have q1':=(C.block (g k') (zhl q1) hgk).trans q1
  have hgh:g k'≠h k:=by
   have hk2':k'=0∨k'=1:=by omega
   rcases hk2 with rfl | rfl <;> rcases hk2' with rfl | rfl <;> assumption
  by_cases e:k'=k
  ·subst e
   refine ⟨cur.setIfInBounds i (.int .i64 (v:Int)),by rw [oc _ _ _ _ hgh,zsb q1'],by simp [q2],q3,q4,fun j hj=>?_⟩
   rw [Array.getElem?_setIfInBounds]
   by_cases ej:i=j
   ·subst ej
    rw [if_pos rfl,if_pos (by rw [q2];omega)]
    simp [upd2]
   ·rw [if_neg ej,q5 j hj]
    simp [upd2,Ne.symm ej]
  ·have hgg:g k'≠g k:=by
    have hk2':k'=0∨k'=1:=by omega
    rcases hk2 with rfl | rfl <;> rcases hk2' with rfl | rfl <;> first | exact absurd rfl e | exact a1 | exact Ne.symm a1
   refine ⟨cur,by rw [oc _ _ _ _ hgh,oc _ _ _ _ hgg,q1'],q2,q3,q4,fun j hj=>?_⟩
   rw [q5 j hj]
   simp [upd2,e]
 ·intro k' hk'
  have q1:=H.pls k' hk'
  have hgk:h k'∉[p,t,bc,bk]:=by
   have hk2':k'=0∨k'=1:=by omega
   simp only [List.mem_cons,List.not_mem_nil,or_false,not_or]
   rcases hk2' with rfl | rfl
   ·exact ⟨c4,c5,c6,c7⟩
   ·exact ⟨d4,d5,d6,d7⟩
  have q1':=(C.block (h k') (zhl q1) hgk).trans q1
  have hgh:h k'≠g k:=by
   have hk2':k'=0∨k'=1:=by omega
   rcases hk2 with rfl | rfl <;> rcases hk2' with rfl | rfl <;> first | exact Ne.symm a2 | exact Ne.symm a3 | exact Ne.symm b2 | exact Ne.symm b3
  have q1'':(w'.setCell ⟨g k,i,none⟩ (.int .i64 (v:Int))).heap[h k']?=_:=(oc _ _ _ _ hgh _).trans q1'
  by_cases e:k'=k
  ·subst e
   show (World.setCell _ ⟨h k',i,none⟩ _).heap[h k']?=some (.cells (bools (S.n k') (upd2 S.p k' i true k')) 4 (0,0))
   rw [zsb q1'',bools_set hi]
   congr 2
   congr 1
   funext j
   simp [upd2]
  ·have hhh:h k'≠h k:=by
    have hk2':k'=0∨k'=1:=by omega
    rcases hk2 with rfl | rfl <;> rcases hk2' with rfl | rfl <;> first | exact absurd rfl e | exact c3 | exact Ne.symm c3
   show (World.setCell _ ⟨h k,i,none⟩ _).heap[h k']?=some (.cells (bools (S.n k') (upd2 S.p k i true k')) 4 (0,0))
   rw [oc _ _ _ _ hhh,q1'']
   congr 2
   congr 1
   funext j
   simp [upd2,e]
 ·refine (C.mono (by simp)).trans (CC.mono fun b hb=>?_)
  rcases mk b hb with rfl | rfl | rfl | rfl <;> simp
theorem takeB_new (S:PS) (k i:Nat):takeB (S.T1 k i) S.K=((S.new k i:Nat):Int):=by
 unfold takeB PS.new
 cases takeR (S.T1 k i) S.K <;> rfl
theorem place_at {w:World} {x p t bc bk:Nat} {g h c:Nat→Nat} {S:PS} {k i:Nat} (H:ShAt w x p t bc bk g h c S) (hk:k<2) (hi:i<S.n k) :
  Calls Tryz.prog 135 #[.pointer (some ⟨x,0,none⟩),.int .i64 (k:Int),.int .i64 (i:Int)] w fun e w'=>e = .returned (.int .i64 (takeE (S.T1 k i) S.K))∧ShAt w' x p t bc bk g h c (S.step k i)∧Chg [g 0,g 1,h 0,h 1,p,t,bc,bk] w w':=by
 have top:=H.top
 have ac:=H.atc hk hi
 have ca:=H.atcap hk
 have nl:=H.nle hk
 have hx:=zhl top
 have HX:=Lib.hid top
 have hnd:=H.nd
 simp only [List.nodup_cons,List.mem_cons,List.not_mem_nil,or_false,not_or,List.nodup_nil,and_true] at hnd
 obtain ⟨⟨nx1,nx2,nx3,nx4,nx5,nx6,nx7,nx8⟩,⟨a1,a2,a3,a4,a5,a6,a7⟩,⟨b2,b3,b4,b5,b6,b7⟩,⟨c3,c4,c5,c6,c7⟩,⟨d4,d5,d6,d7⟩,_⟩:=hnd
 have HNX:Hid (x∉[p,t,bc,bk]):=Lib.hid (by simp only [List.mem_cons,List.not_mem_nil,or_false,not_or];exact ⟨nx5,nx6,nx7,nx8⟩)
 have x0:=zcb top 0
 have x1:=zcb top 1
 have x2:=zcb top 2
 have x3:=zcb top 3
 have x4:=zcb top 4
 have x5:=zcb top 5
 simp only [List.getElem?_toArray,List.getElem?_cons_zero,List.getElem?_cons_succ] at x0 x1 x2 x3 x4 x5
 clear top
 have i0:(0:Int)≤(i:Int):=by omega
 have i1:(i:Int)<(S.n k:Int):=by omega
 have H1:∃ w1,True:=⟨w,trivial⟩
 have HP:=Lib.hid H.pt
 have hcur:∃ cur,Hid (w.heap[g k]?=some (.cells cur 3 (0,0))):=by obtain ⟨cur,h1,_⟩:=H.ats k hk;exact ⟨cur,h1⟩
 obtain ⟨cur,HG⟩:=hcur
 have HH:=Lib.hid (H.pls k hk)
 have HGN:Hid (g k∉[p,t,bc,bk]∧h k∉[p,t,bc,bk]∧h k≠g k):=Lib.hid (by
  have hk2:k=0∨k=1:=by omega
  simp only [List.mem_cons,List.not_mem_nil,or_false,not_or]
  rcases hk2 with rfl | rfl
  ·exact ⟨⟨a4,a5,a6,a7⟩,⟨c4,c5,c6,c7⟩,Ne.symm a2⟩
  ·exact ⟨⟨b4,b5,b6,b7⟩,⟨d4,d5,d6,d7⟩,Ne.symm b3⟩)
 clear H1 nx1 nx2 nx3 nx4 nx5 nx6 nx7 nx8 a1 a2 a3 a4 a5 a6 a7 b2 b3 b4 b5 b6 b7 c3 c4 c5 c6 c7 d4 d5 d6 d7
 have HF:=Lib.hid (fun (w2:World) (hp:PT w2 p t bc bk (takeK (S.T1 k i) S.K) (takeT (S.T1 k i) S.K)) (hc:Chg [p,t,bc,bk] w w2)=>H.put hk hi hp (by rw [takeT_n,T1_n]) hc (S.new k i))
 have hk2:k=0∨k=1:=by omega
 by_cases ha:S.a k i=0
 ·have eT:S.T1 k i=S.T:=by unfold PS.T1;rw [if_pos ha]
  have HP1:=Lib.hid (show PT w p t bc bk S.K (S.T1 k i) by rw [eT];exact HP.out)
  clear eT
  rw [ha] at ac
  rw [show (((0:Nat)):Int)=0 from rfl] at ac
  rcases hk2 with rfl | rfl
  all_goals
   go_enter Tryz.func135,Tryz.ntmps135
   go_wp2_with fail
   refine (PT.take HP1.out).mono ?_
   rintro e w2 ⟨rfl,hP2,hC2⟩
   rw [takeB_new]
   have HP2:=Lib.hid hP2
   have HC2:=Lib.hid hC2
   have y2:=(hC2.cell (p:=⟨x,2,none⟩) hx HNX.out).trans x2
   have y3:=(hC2.cell (p:=⟨x,3,none⟩) hx HNX.out).trans x3
   have y4:=(hC2.cell (p:=⟨x,4,none⟩) hx HNX.out).trans x4
   have y5:=(hC2.cell (p:=⟨x,5,none⟩) hx HNX.out).trans x5
   have hg2:=(hC2.block _ (zhl HG.out) HGN.out.1).trans HG.out
   have hh2:=(hC2.block _ (zhl HH.out) HGN.out.2.1).trans HH.out
   have z1:=zfb hg2 i
   have z2:=zfb hh2 i
   have z3:=(hC2.cell (p:=⟨g _,i,none⟩) (zhl HG.out) HGN.out.1).trans ac
   have z4:=(hC2.cell (p:=⟨h _,i,none⟩) (zhl HH.out) HGN.out.2.1).trans (H.plc hk hi)
   have hne:=HGN.out.2.2
   clear hP2 hC2 hg2 hh2 x0 x1 x2 x3 x4 x5 ac
   go_wp2_with fail
   go_region
   go_wp2_with fail
   go_ret
   have hf:=HF.out _ HP2.out HC2.out
   exact ⟨rfl,hf.1.chg ((Chg.refl [] _).drew) (by simp),hf.2.drew⟩
 ·have eT:S.T1 k i=down S.T (S.a k i:Int):=by unfold PS.T1;rw [if_neg ha]
  have HET:=Lib.hid eT
  have ha':¬ (S.a k i:Int)=0:=by omega
  have ha2:((S.a k i:Int) != 0)=true:=by simp;exact ha
  clear eT
  rcases hk2 with rfl | rfl
  all_goals
   go_enter Tryz.func135,Tryz.ntmps135
   go_wp2_with fail
   refine (PT.down HP.out (S.a _ i:Int)).mono ?_
   rintro e w1 ⟨rfl,hP1,hC1⟩
   rw [← HET.out] at hP1
   have HP1:=Lib.hid hP1
   have HC1:=Lib.hid hC1
   have v1:=(hC1.cell (p:=⟨x,1,none⟩) hx HNX.out).trans x1
   clear hP1 hC1
   go_wp2_with fail
   refine (PT.take HP1.out).mono ?_
   rintro e w2 ⟨rfl,hP2,hC2'⟩
   have hC2:=HC1.out.trans hC2'
   clear hC2' v1
   rw [takeB_new]
   have HP2:=Lib.hid hP2
   have HC2:=Lib.hid hC2
   have y2:=(hC2.cell (p:=⟨x,2,none⟩) hx HNX.out).trans x2
   have y3:=(hC2.cell (p:=⟨x,3,none⟩) hx HNX.out).trans x3
   have y4:=(hC2.cell (p:=⟨x,4,none⟩) hx HNX.out).trans x4
   have y5:=(hC2.cell (p:=⟨x,5,none⟩) hx HNX.out).trans x5
   have hg2:=(hC2.block _ (zhl HG.out) HGN.out.1).trans HG.out
   have hh2:=(hC2.block _ (zhl HH.out) HGN.out.2.1).trans HH.out
   have z1:=zfb hg2 i
   have z2:=zfb hh2 i
   have z3:=(hC2.cell (p:=⟨g _,i,none⟩) (zhl HG.out) HGN.out.1).trans ac
   have z4:=(hC2.cell (p:=⟨h _,i,none⟩) (zhl HH.out) HGN.out.2.1).trans (H.plc hk hi)
   have hne:=HGN.out.2.2
   clear hP2 hC2 hg2 hh2 x0 x1 x2 x3 x4 x5 ac
   go_wp2_with fail
   go_region
   go_wp2_with fail
   go_ret
   have hf:=HF.out _ HP2.out HC2.out
   exact ⟨rfl,hf.1.chg ((Chg.refl [] _).drew) (by simp),hf.2.drew⟩
theorem idx0 (a1 a2 b1 b2:Nat) (p q:Option Addr) (w:World):(Instr.index 218 (.agg #[.slice p a1 a2,.slice q b1 b2]) (.int .i64 0)).run Tryz.prog w = .ok (.slice p a1 a2) w:=by
 simp [Instr.index,run_underlying Tryz.underlying218,asIntOf,go_sem]
theorem idx1 (a1 a2 b1 b2:Nat) (p q:Option Addr) (w:World):(Instr.index 218 (.agg #[.slice p a1 a2,.slice q b1 b2]) (.int .i64 1)).run Tryz.prog w = .ok (.slice q b1 b2) w:=by
 simp [Instr.index,run_underlying Tryz.underlying218,asIntOf,go_sem]
def nextK (S:PS):Int:=match S.next with | some (k,_)=>k | none => -1
def nextI (S:PS):Int:=match S.next with | some (_,i)=>i | none => -1
def nNone (S:PS) (j:Nat):Prop:=∀ j',j'<j→zff (S.want j') 0 (S.n j')=none
theorem next_hit {S:PS} {j i:Nat} (hj:j<2) (hn:nNone S j) (h:zff (S.want j) 0 (S.n j)=some i):S.next=some (j,i):=by
 have hj2:j=0∨j=1:=by omega
 unfold PS.next
 rcases hj2 with rfl | rfl
 ·rw [h]
 ·rw [hn 0 (by omega)];simp only;rw [h]
theorem next_miss {S:PS} (hn:nNone S 2):S.next=none:=by
 unfold PS.next
 rw [hn 0 (by omega)];simp only;rw [hn 1 (by omega)]
theorem next_at {w:World} {x p t bc bk q:Nat} {g h c:Nat→Nat} {S:PS} (H:ShAt w x p t bc bk g h c S) (hq:w.heap[q]?=some (.cells #[.pointer (some ⟨x,0,none⟩)] 216 (0,0))) :
  Calls Tryz.prog 133 #[.pointer (some ⟨q,0,none⟩)] w fun e w'=>e = .returned (.tuple #[.int .i64 (nextK S),.int .i64 (nextI S)])∧Chg [] w w':=by
 have top:=H.top
 have hx:=zhl top
 have lq:=zhl hq
 have HQ:=Lib.hid hq
 have x0:=zcb top 0
 have x1:=zcb top 1
 have x2:=zcb top 2
 have x3:=zcb top 3
 have x4:=zcb top 4
 have x5:=zcb top 5
 simp only [List.getElem?_toArray,List.getElem?_cons_zero,List.getElem?_cons_succ] at x0 x1 x2 x3 x4 x5
 have q0:=zcb hq 0
 simp only [List.getElem?_toArray,List.getElem?_cons_zero,List.getElem?_cons_succ] at q0
 clear top hq
 have HH:=Lib.hid H
 have n0:=H.nle (k:=0) (by omega)
 have n1:=H.nle (k:=1) (by omega)
 go_enter Tryz.func133,Tryz.ntmps133
 go_wp2_with fail
 clear x0 x1 x2 x3 x4 x5 q0
 go_loopw [10] (fun s wr=>∃ j:Nat,j≤2∧s = .int .i64 (j:Int)∧Hid (nNone S j∧Chg [] w wr)) (fun s _=>2 - (intOf s).toNat)
 case atStart=>exact ⟨0,by omega,rfl,⟨fun j hj=>by omega,Chg.refl _ _⟩⟩
 case round =>
  obtain ⟨j,hj,rfl,hH⟩:=hrel
  have q0:=zcb HQ.out 0
  simp only [List.getElem?_toArray,List.getElem?_cons_zero] at q0
  have hj3:j=0∨j=1∨j=2:=by omega
  have ix0:=fun w=>idx0 (S.n 0) (c 0) (S.n 1) (c 1) (some ⟨g 0,0,none⟩) (some ⟨g 1,0,none⟩) w
  have ix1:=fun w=>idx1 (S.n 0) (c 0) (S.n 1) (c 1) (some ⟨g 0,0,none⟩) (some ⟨g 1,0,none⟩) w
  rcases hj3 with rfl | rfl | rfl
  ·rw [show (((0:Nat)):Int)=0 from rfl]
   go_wp2_with fail
   go_loopw [16] (fun s wr2=>∃ m:Nat,m≤S.n 0∧s = .int .i64 (m:Int)∧Hid (zff (S.want 0) 0 (S.n 0)=zff (S.want 0) m (S.n 0 - m)∧Chg [] w wr2)) (fun s _=>S.n 0 - (intOf s).toNat)
   case atStart=>exact ⟨0,Nat.zero_le _,rfl,⟨by rw [Nat.sub_zero],hH.out.2⟩⟩
   case round =>
    obtain ⟨m,hm,rfl,hM⟩:=hrel
    have q1:=(hM.out.2.cell (p:=⟨q,0,none⟩) lq (by simp)).trans q0
    have HR:=Lib.hid (HH.out.chg hM.out.2 (by simp))
    by_cases hlt:m<S.n 0
    ·have cW:=wants_at (k:=0) HR.out (by omega) hlt
     rw [show (((0:Nat)):Int)=0 from rfl] at cW
     go_wp2_with fail
     refine cW.mono ?_
     clear cW
     rintro e w2 ⟨rfl,hC2⟩
     have HC2:=Lib.hid (hM.out.2.trans hC2)
     clear hC2 q1
     cases hwt:S.want 0 m with
     | true =>
      have HZ:=Lib.hid (next_hit (by omega) hH.out.1 (hM.out.1.trans (firstFree_hit hlt hwt)))
      go_wp2_with fail
      go_ret2
      exact ⟨by unfold nextK nextI;rw [HZ.out] <;> rfl,HC2.out⟩
     | false =>
      have HZ:=Lib.hid (hM.out.1.trans (firstFree_on hlt hwt))
      go_wp2_with fail
      go_roundw
      case rel=>exact ⟨m+1,by omega,by go_num,⟨HZ.out,HC2.out⟩⟩
      case measure=>simp [intOf];omega
    ·obtain rfl:m=S.n 0:=by omega
     go_wp2_with fail
     go_roundw
     case rel=>exact ⟨1,by omega,by go_num,⟨fun j' hj'=>by
      by_cases e:j'<0
      ·exact hH.out.1 j' e
      ·obtain rfl:j'=0:=by omega
       exact hM.out.1.trans firstFree_end,hM.out.2⟩⟩
     case measure=>simp [intOf]
  ·rw [show (((1:Nat)):Int)=1 from rfl]
   go_wp2_with fail
   go_loopw [16] (fun s wr2=>∃ m:Nat,m≤S.n 1∧s = .int .i64 (m:Int)∧Hid (zff (S.want 1) 0 (S.n 1)=zff (S.want 1) m (S.n 1 - m)∧Chg [] w wr2)) (fun s _=>S.n 1 - (intOf s).toNat)
   case atStart=>exact ⟨0,Nat.zero_le _,rfl,⟨by rw [Nat.sub_zero],hH.out.2⟩⟩
   case round =>
    obtain ⟨m,hm,rfl,hM⟩:=hrel
    have q1:=(hM.out.2.cell (p:=⟨q,0,none⟩) lq (by simp)).trans q0
    have HR:=Lib.hid (HH.out.chg hM.out.2 (by simp))
    by_cases hlt:m<S.n 1
    ·have cW:=wants_at (k:=1) HR.out (by omega) hlt
     rw [show (((1:Nat)):Int)=1 from rfl] at cW
     go_wp2_with fail
     refine cW.mono ?_
     clear cW
     rintro e w2 ⟨rfl,hC2⟩
     have HC2:=Lib.hid (hM.out.2.trans hC2)
     clear hC2 q1
     cases hwt:S.want 1 m with
     | true =>
      have HZ:=Lib.hid (next_hit (by omega) hH.out.1 (hM.out.1.trans (firstFree_hit hlt hwt)))
      go_wp2_with fail
      go_ret2
      exact ⟨by unfold nextK nextI;rw [HZ.out] <;> rfl,HC2.out⟩
     | false =>
      have HZ:=Lib.hid (hM.out.1.trans (firstFree_on hlt hwt))
      go_wp2_with fail
      go_roundw
      case rel=>exact ⟨m+1,by omega,by go_num,⟨HZ.out,HC2.out⟩⟩
      case measure=>simp [intOf];omega
    ·obtain rfl:m=S.n 1:=by omega
     go_wp2_with fail
     go_roundw
     case rel=>exact ⟨2,by omega,by go_num,⟨fun j' hj'=>by
      by_cases e:j'<1
      ·exact hH.out.1 j' e
      ·obtain rfl:j'=1:=by omega
       exact hM.out.1.trans firstFree_end,hM.out.2⟩⟩
     case measure=>simp [intOf]
  ·go_wp2_with fail
   go_ret2
   exact ⟨by unfold nextK nextI;rw [next_miss hH.out.1] <;> rfl,hH.out.2⟩
end Go.Proofs.YtkhcaclndepgbaaGreat
