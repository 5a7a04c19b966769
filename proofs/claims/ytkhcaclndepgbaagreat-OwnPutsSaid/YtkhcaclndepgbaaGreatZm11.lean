/- Package pick: Take. · A pick and its tally together: one predicate, one contract for each call. · Plain facts on room, for PickAll. · Layer 10 in plain words: what is placed, one page after the other. No program in sight. · Which blocks have changed, as a list: plain facts. · tally.Changed: the changed blocks, rising, in a slice of its own. · One block's count up and down: contracts for TallyMost. -/
import Derived.Test.YtkhcaclndepgbaaGreatZm10
import Derived.Deep.RegionHeld3
import Derived.Deep.DeepCutAuto
import Derived.Deep.CutBlock
import Derived.Deep.LoopGhost
import Derived.Test.YtkhcaclndepgbaaGreatZm09
import Derived.Test.YtkhcaclndepgbaaGreatZm08
import Derived.Lib.SlKeysI
import Derived.Test.YtkhcaclndepgbaaGreatIt
set_option linter.unusedVariables false
set_option linter.unusedSimpArgs false
set_option maxRecDepth 100000
set_option maxHeartbeats 20000000
namespace Go.Proofs.YtkhcaclndepgbaaGreat
open Go.RowKit
def zff (p:Nat→Bool) (lo:Nat):Nat→Option Nat
 | 0=>none
 | c+1=>if p lo then some lo else zff p (lo+1) c
theorem firstFree_some {p:Nat→Bool} : ∀ {c lo b:Nat},zff p lo c=some b→lo≤b∧b<lo+c∧p b=true∧∀ i,lo≤i→i<b→p i=false
 | 0,_,_,h=>by cases h
 | c+1,lo,b,h=>by
  unfold zff at h
  by_cases hp:p lo=true
  ·rw [if_pos hp] at h;cases h
   exact ⟨Nat.le_refl _,by omega,hp,fun i _ _=>by omega⟩
  ·rw [if_neg hp] at h
   obtain ⟨h1,h2,h3,h4⟩:=firstFree_some h
   refine ⟨by omega,by omega,h3,fun i hi hb=>?_⟩
   by_cases e:i=lo
   ·subst e;simpa using hp
   ·exact h4 i (by omega) hb
theorem firstFree_none {p:Nat→Bool} : ∀ {c lo:Nat},zff p lo c=none→∀ i,lo≤i→i<lo+c→p i=false
 | 0,_,_=>fun i _ _=>by omega
 | c+1,lo,h=>fun i h1 h2=>by
  unfold zff at h
  by_cases hp:p lo=true
  ·rw [if_pos hp] at h;cases h
  ·rw [if_neg hp] at h
   by_cases e:i=lo
   ·subst e;simpa using hp
   ·exact firstFree_none h i (by omega) (by omega)
def takeR (T:Tal) (K:Pk):Option Nat :=
 match zff T.free K.next (T.n - K.next) with
 | some b=>some b
 | none=>zff T.free K.first (K.next - K.first)
def takeT (T:Tal) (K:Pk):Tal:=match takeR T K with | some b=>T.set b 1 | none=>T
def takeK (T:Tal) (K:Pk):Pk:=match takeR T K with | some b => { K with next:=if b+1=T.n then K.first else b+1 } | none=>K
def takeE (T:Tal) (K:Pk):Int:=match takeR T K with | some _=>0 | none=>90
def takeB (T:Tal) (K:Pk):Int:=match takeR T K with | some b=>b | none=>0
def takeF (T:Tal) (K:Pk):Int:=match takeR T K with | some b=>b | none => -1
def partLo (K:Pk):Nat→Nat | 0=>K.next | _=>K.first
def partHi (T:Tal) (K:Pk):Nat→Nat | 0=>T.n | _=>K.next
def noneYet (T:Tal) (K:Pk) (i:Nat):Prop:=∀ j,j<i→zff T.free (partLo K j) (partHi T K j - partLo K j)=none
theorem takeF_hit {T:Tal} {K:Pk} {i b:Nat} (hi:i<2) (hn:noneYet T K i) (hb:zff T.free (partLo K i) (partHi T K i - partLo K i)=some b):takeF T K=b:=by
 match i,hi with
 | 0,_=>unfold takeF takeR;simp only [partLo,partHi] at hb;rw [hb]
 | 1,_ =>
  have h0:=hn 0 (by omega)
  unfold takeF takeR
  simp only [partLo,partHi] at hb h0
  rw [h0,hb]
theorem takeF_miss {T:Tal} {K:Pk} (hn:noneYet T K 2):takeF T K = -1:=by
 have h0:=hn 0 (by omega)
 have h1:=hn 1 (by omega)
 unfold takeF takeR
 simp only [partLo,partHi] at h0 h1
 rw [h0,h1]
theorem noneYet_step {T:Tal} {K:Pk} {i:Nat} (hn:noneYet T K i) (hb:zff T.free (partLo K i) (partHi T K i - partLo K i)=none):noneYet T K (i+1):=by
 intro j hj
 by_cases e:j=i
 ·subst e;exact hb
 ·exact hn j (by omega)
theorem firstFree_hit {p:Nat→Bool} {k hi:Nat} (h:k<hi) (hp:p k=true):zff p k (hi - k)=some k:=by
 obtain ⟨c,hc⟩:∃ c,hi - k=c+1:=⟨hi - k - 1,by omega⟩
 rw [hc];simp [zff,hp]
theorem firstFree_on {p:Nat→Bool} {k hi:Nat} (h:k<hi) (hp:p k=false):zff p k (hi - k)=zff p (k+1) (hi - (k+1)):=by
 obtain ⟨c,hc⟩:∃ c,hi - k=c+1:=⟨hi - k - 1,by omega⟩
 rw [hc,show hi - (k+1)=c by omega];simp [zff,hp]
theorem firstFree_end {p:Nat→Bool} {k:Nat} : zff p k (k - k)=none:=by rw [Nat.sub_self];rfl
theorem pick_ne {w:World} {p t bc bk:Nat} {K:Pk} {T:Tal} (hp:PickAt w p t K) (h:TallyAt w t bc bk T):p∉[t,bc,bk]:=by
 intro hm
 simp only [List.mem_cons,List.not_mem_nil,or_false] at hm
 rcases hm with rfl | rfl | rfl
 ·have:=hp.top.symm.trans h.top
  simp at this
 ·have:=hp.top.symm.trans h.cs
  simp at this
 ·obtain ⟨es,c,hb⟩:=h.map.obj
  have:=hp.top.symm.trans hb
  simp at this
theorem takeR_spec {T:Tal} {K:Pk} (hf:K.first≤K.next) (hn:K.next≤T.n) {b:Nat} (h:takeR T K=some b):K.first≤b∧b<T.n∧T.free b=true:=by
 unfold takeR at h
 split at h
 ·rename_i b' hb
  cases h
  obtain ⟨h1,h2,h3,_⟩:=firstFree_some hb
  exact ⟨by omega,by omega,h3⟩
 ·obtain ⟨h1,h2,h3,_⟩:=firstFree_some h
  exact ⟨by omega,by omega,h3⟩
theorem up_free {T:Tal} {b:Nat} (hb:b<T.n) (h:T.free b=true):upE T b=0∧up T b=T.set b 1:=by
 have h0:T.now b=0:=by simp [Tal.free] at h;exact h.1
 have hh:hasB T b=true:=(hasB_iff T b).2 (by omega)
 have he:upE T b=0:=by simp [upE,hh,h0]
 exact ⟨he,by simp [up,he,h0]⟩
theorem take_at {w:World} {p t bc bk:Nat} {K:Pk} {T:Tal} (hp:PickAt w p t K) (h:TallyAt w t bc bk T) (hf:K.first≤K.next) (hn:K.next≤T.n) :
  Calls Tryz.prog 77 #[.pointer (some ⟨p,0,none⟩)] w fun e w'=>e = .returned (.tuple #[.int .i64 (takeB T K),.int .i64 (takeE T K)]) ∧
   PickAt w' p t (takeK T K)∧TallyAt w' t bc bk (takeT T K)∧Chg [p,t,bc,bk] w w':=by
 have c0:=hp.c0
 have c1:=hp.c1
 have c2:=hp.c2
 have n2:=h.n2
 have hT:TallyAt w.drew t bc bk T:=h.chg (Chg.drew (Chg.refl [] _)) (by simp) (by simp) (by simp)
 go_enter Tryz.func77,Tryz.ntmps77
 go_wp2_with (first | go_step3 | (go_at_call 128;refine (pnone_at hp).mono ?_;rintro e w' ⟨rfl,rfl⟩))
 go_region_held3 (fun w'=>w'.cell? ⟨p,0,none⟩=some (.pointer (some ⟨t,0,none⟩))∧w'.cell? ⟨p,1,none⟩=some (.int .i64 (K.first:Int))∧w'.cell? ⟨p,2,none⟩=some (.int .i64 (K.next:Int))) (go_keep)
  ((go_at_call 90;refine (blocks_at hT).mono ?_;rintro e w' ⟨rfl,rfl⟩))
 go_upto_block 0 with fail
 go_cut [4] (fun f wx=>f = .int .i64 (takeF T K)∧Chg [] w wx)
 case first =>
  have hb0:=znb w (.cells #[.int .i64 (K.next:Int),.int .i64 (T.n:Int),.int .i64 (K.first:Int),.int .i64 (K.next:Int)] 210)
  have hC0:Chg [] w (w.alloc (.cells #[.int .i64 (K.next:Int),.int .i64 (T.n:Int),.int .i64 (K.first:Int),.int .i64 (K.next:Int)] 210)).drew:=((Chg.refl _ _).alloc _).drew
  have Hb0:=Lib.hid hb0
  have HC0:=Lib.hid hC0
  clear hb0 hC0
  have lt0:=h.lt0
  have lt1:=h.lt1
  have lt2:=h.lt2
  go_wp2_with fail
  go_loopg [4,31] 2 (fun g f i wr=>∃ j:Nat,f = .int .i64 (-1)∧j≤2∧g=2 - j∧i = .int .i64 (j:Int)∧noneYet T K j∧Chg [] w wr ∧
   wr.heap[w.heap.size]?=some (.cells #[.int .i64 (K.next:Int),.int .i64 (T.n:Int),.int .i64 (K.first:Int),.int .i64 (K.next:Int)] 210 (0,0)))
  case atStart=>exact ⟨0,rfl,by omega,rfl,rfl,fun j hj=>by omega,HC0.out,Hb0.out⟩
  case round =>
   obtain ⟨j,rfl,hj,hg,hi,hno,hC,hB⟩:=hrel
   have Hi:=Lib.hid hi
   clear hi
   have Hno:=Lib.hid hno
   have HC:=Lib.hid hC
   have HB:=Lib.hid hB
   have hTr:=h.chg hC (by simp) (by simp) (by simp)
   have hPr:=hp.chg hC (by simp)
   have d0:=hPr.c0
   have ltp:=hPr.lt
   have e0:=zcb hB 0
   have e1:=zcb hB 1
   have e2:=zcb hB 2
   have e3:=zcb hB 3
   simp only [List.getElem?_toArray,List.getElem?_cons_zero,List.getElem?_cons_succ] at e0 e1 e2 e3
   clear hno hC hB
   have hj3:j=0∨j=1∨j=2:=by omega
   rcases hj3 with rfl | rfl | rfl
   ·have hi:=Hi.out.trans (show Value.int .i64 ((0:Nat):Int) = .int .i64 0 from rfl)
    clear Hi
    subst hi
    go_wp2_with fail
    have hTi:TallyAt (wr.alloc (.cells #[.int .i64 (K.next:Int),.int .i64 (T.n:Int)] 210)) t bc bk T:=hTr.chg ((Chg.refl [] _).alloc _) (by simp) (by simp) (by simp)
    go_loop [4,7] (fun f b=>∃ k:Nat,f = .int .i64 (-1)∧K.next≤k∧k≤T.n∧b = .int .i64 (k:Int)∧zff T.free (partLo K 0) (partHi T K 0 - partLo K 0)=zff T.free k (T.n - k)) (fun _ b=>T.n - (intOf b).toNat)
    case atStart=>exact ⟨K.next,rfl,Nat.le_refl _,hn,rfl,rfl⟩
    case round =>
     obtain ⟨k,rfl,hk1,hk2,rfl,hff⟩:=hrel
     have Hff:=Lib.hid hff
     clear hff
     by_cases hlt:k<T.n
     ·have Hfr:=Lib.hid (freeB_nat (T:=T) (k:=k) (by omega))
      go_wp2_with (go_at_call 130;refine (free_at hTi k).mono ?_;rintro e w' ⟨rfl,rfl⟩)
      ·have hh:freeB T (k:Int)=true:=by assumption
       have e:=takeF_hit (by omega) Hno.out (Hff.out.trans (firstFree_hit hlt (Hfr.out.symm.trans hh)))
       go_meet
       exact ⟨by rw [e],(HC.out.alloc _)⟩
      ·have hh:freeB T (k:Int)=false:=by assumption
       go_round
       case rel=>exact ⟨k+1,rfl,by omega,by omega,by go_num,Hff.out.trans (firstFree_on hlt (Hfr.out.symm.trans hh))⟩
       case measure=>simp [intOf];omega
     ·obtain rfl:k=T.n:=by omega
      go_wp2_with fail
      go_roundg 1
      case measure=>omega
      case rel=>exact ⟨1,rfl,by omega,by omega,rfl,noneYet_step Hno.out (Hff.out.trans firstFree_end),HC.out.alloc _,(Below.heap_alloc _ _ _ (zhl HB.out)).trans HB.out⟩
   ·have hi:=Hi.out.trans (show Value.int .i64 ((1:Nat):Int) = .int .i64 1 from rfl)
    clear Hi
    subst hi
    go_wp2_with fail
    have hTi:TallyAt (wr.alloc (.cells #[.int .i64 (K.first:Int),.int .i64 (K.next:Int)] 210)) t bc bk T:=hTr.chg ((Chg.refl [] _).alloc _) (by simp) (by simp) (by simp)
    go_loop [4,7] (fun f b=>∃ k:Nat,f = .int .i64 (-1)∧K.first≤k∧k≤K.next∧b = .int .i64 (k:Int)∧zff T.free (partLo K 1) (partHi T K 1 - partLo K 1)=zff T.free k (K.next - k)) (fun _ b=>K.next - (intOf b).toNat)
    case atStart=>exact ⟨K.first,rfl,Nat.le_refl _,hf,rfl,rfl⟩
    case round =>
     obtain ⟨k,rfl,hk1,hk2,rfl,hff⟩:=hrel
     have Hff:=Lib.hid hff
     clear hff
     by_cases hlt:k<K.next
     ·have Hfr:=Lib.hid (freeB_nat (T:=T) (k:=k) (by omega))
      go_wp2_with (go_at_call 130;refine (free_at hTi k).mono ?_;rintro e w' ⟨rfl,rfl⟩)
      ·have hh:freeB T (k:Int)=true:=by assumption
       have e:=takeF_hit (by omega) Hno.out (Hff.out.trans (firstFree_hit hlt (Hfr.out.symm.trans hh)))
       go_meet
       exact ⟨by rw [e],(HC.out.alloc _)⟩
      ·have hh:freeB T (k:Int)=false:=by assumption
       go_round
       case rel=>exact ⟨k+1,rfl,by omega,by omega,by go_num,Hff.out.trans (firstFree_on hlt (Hfr.out.symm.trans hh))⟩
       case measure=>simp [intOf];omega
     ·obtain rfl:k=K.next:=by omega
      go_wp2_with fail
      go_roundg 0
      case measure=>omega
      case rel=>exact ⟨2,rfl,by omega,by omega,rfl,noneYet_step Hno.out (Hff.out.trans firstFree_end),HC.out.alloc _,(Below.heap_alloc _ _ _ (zhl HB.out)).trans HB.out⟩
   ·have hi:=Hi.out.trans (show Value.int .i64 ((2:Nat):Int) = .int .i64 2 from rfl)
    clear Hi
    subst hi
    go_wp2_with fail
    go_meet
    exact ⟨by rw [takeF_miss Hno.out],HC.out⟩
 case rest =>
  obtain ⟨hf4,hC⟩:=hcut
  have hTx:=h.chg hC (by simp) (by simp) (by simp)
  have hPx:=hp.chg hC (by simp)
  have d0:=hPx.c0
  have HC:=Lib.hid hC
  clear hC
  cases hr:takeR T K with
  | none =>
   replace hf4:=hf4.trans (show Value.int .i64 (takeF T K) = .int .i64 (-1) by simp [takeF,hr])
   subst hf4
   have Hr:=Lib.hid hr
   clear hr
   go_wp2_with fail
   rw [Exit.noGoto_ret]
   go_ret2
   refine ⟨by simp [takeB,takeE,Hr.out],by simpa [takeK,Hr.out] using hPx,by simpa [takeT,Hr.out] using hTx,HC.out.mono (by simp)⟩
  | some b =>
   replace hf4:=hf4.trans (show Value.int .i64 (takeF T K) = .int .i64 (b:Int) by simp [takeF,hr])
   subst hf4
   obtain ⟨hb1,hb2,hb3⟩:=takeR_spec hf hn hr
   have Hr:=Lib.hid hr
   have Hu:=Lib.hid (up_free hb2 hb3)
   clear hr hb3
   go_wp2_with fail
   refine (up_at hTx (b:Int)).mono ?_
   rintro e w1 ⟨rfl,hT1,hC1⟩
   rw [Hu.out.2] at hT1
   have hP1:=hPx.chg hC1 (pick_ne hPx hTx)
   have f0:=hP1.c0
   have f1:=hP1.c1
   have f2:=hP1.c2
   have ff:=hP1.fz 2
   have hPs:=next_set hP1 (b+1)
   have hne:=pick_ne hP1 hT1
   have hTs:TallyAt (w1.setCell ⟨p,2,none⟩ (.int .i64 ((b+1:Nat):Int))) t bc bk (T.set b 1):=hT1.chg (L:=[p]) ((Chg.refl _ _).setCell (.inl (by simp)) _) (by simp at hne ⊢;exact fun e=>hne.1 e.symm) (by simp at hne ⊢;exact fun e=>hne.2.1 e.symm) (by simp at hne ⊢;exact fun e=>hne.2.2 e.symm)
   have hcc:Chg [p,t,bc,bk] w (w1.setCell ⟨p,2,none⟩ (.int .i64 ((b+1:Nat):Int))):=((HC.out.mono (L':=[p,t,bc,bk]) (by simp)).trans (hC1.mono (by simp))).setCell (.inl (by simp)) _
   rw [Int.natCast_add,Int.natCast_one] at hPs hTs hcc
   have HCC:=Lib.hid hcc
   clear hcc
   have hne:=Lib.hid hne
   have Hfin:Hid (takeB T K=b∧takeE T K=0∧takeT T K=T.set b 1∧takeK T K = { K with next:=if b+1=T.n then K.first else b+1 }) :=
    Lib.hid ⟨by simp [takeB,Hr.out],by simp [takeE,Hr.out],by simp [takeT,Hr.out],by simp [takeK,Hr.out]⟩
   have g0:=hPs.c0
   have g1:=hPs.c1
   have g2:=hPs.c2
   have gf:=hPs.fz 2
   go_wp2_with fail
   have Hn:=Lib.hid hne
   clear hne
   have ho:t∉[p]∧bc∉[p]∧bk∉[p]:=by
    have:=Hn.out
    simp only [Hid,List.mem_cons,List.not_mem_nil,or_false,not_or] at this ⊢
    exact ⟨fun e=>this.1 e.symm,fun e=>this.2.1 e.symm,fun e=>this.2.2 e.symm⟩
   have Ho:=Lib.hid ho
   clear ho
   by_cases hbn:b+1=T.n
   ·have hd:((b:Int)+1==((T.set b 1).n:Int))=true:=by simp [Tal.set];omega
    have Hbn:=Lib.hid hbn
    clear hbn
    go_quiet ((go_at_call 90;exact quiet_left (blocks_at (w:=World.drewN _ _) (hTs.chg (Chg.drewN (Chg.refl [] _) _) (by simp) (by simp) (by simp)))))
    go_wp2_with fail
    rw [Exit.noGoto_ret]
    go_ret2
    have hcE:Chg [p] (w1.setCell ⟨p,2,none⟩ (.int .i64 ((b:Int)+1))) (((w1.setCell ⟨p,2,none⟩ (.int .i64 ((b:Int)+1))).drewN nq).setCell ⟨p,2,none⟩ (.int .i64 (K.first:Int))) :=
     (Chg.drewN (Chg.refl _ _) _).setCell (.inl (by simp)) _
    obtain ⟨q1,q2,q3,q4⟩:=Hfin.out
    rw [if_pos Hbn.out] at q4
    refine ⟨by rw [q1,q2];rfl,?_,?_,?_⟩
    ·rw [q4]
     exact next_set (w:=World.drewN _ _) (K := { K with next:=b+1 }) ⟨hPs.top⟩ K.first
    ·rw [q3]
     exact hTs.chg hcE Ho.out.1 Ho.out.2.1 Ho.out.2.2
    ·exact HCC.out.trans (hcE.mono (by simp))
   ·have hd:((b:Int)+1==((T.set b 1).n:Int))=false:=by simp [Tal.set];omega
    have Hbn:=Lib.hid hbn
    clear hbn
    go_quiet ((go_at_call 90;exact quiet_left (blocks_at (w:=World.drewN _ _) (hTs.chg (Chg.drewN (Chg.refl [] _) _) (by simp) (by simp) (by simp)))))
    go_wp2_with fail
    rw [Exit.noGoto_ret]
    go_ret2
    have hcE:Chg [] (w1.setCell ⟨p,2,none⟩ (.int .i64 ((b:Int)+1))) ((w1.setCell ⟨p,2,none⟩ (.int .i64 ((b:Int)+1))).drewN nq) :=
     Chg.drewN (Chg.refl _ _) _
    obtain ⟨q1,q2,q3,q4⟩:=Hfin.out
    rw [if_neg Hbn.out] at q4
    refine ⟨by rw [q1,q2];rfl,?_,?_,?_⟩
    ·rw [q4]
     exact ⟨hPs.top⟩
    ·rw [q3]
     exact hTs.chg hcE (by simp) (by simp) (by simp)
    ·exact HCC.out.trans (hcE.mono (by simp))
structure PT (w:World) (p t bc bk:Nat) (K:Pk) (T:Tal):Prop where
 hp:PickAt w p t K
 ht:TallyAt w t bc bk T
 f:K.first≤K.next
 n:K.next≤T.n
 a:K.asked≤4096
theorem takeK_bd {T:Tal} {K:Pk} (hf:K.first≤K.next) (hn:K.next≤T.n):(takeK T K).first≤(takeK T K).next∧(takeK T K).next≤T.n∧(takeK T K).asked=K.asked∧(takeK T K).first=K.first:=by
 unfold takeK
 cases hr:takeR T K with
 | none=>exact ⟨hf,hn,rfl,rfl⟩
 | some b =>
  obtain ⟨h1,h2,_⟩:=takeR_spec hf hn hr
  by_cases e:b+1=T.n
  ·simp [e];omega
  ·simp [e];omega
theorem takeT_n (T:Tal) (K:Pk):(takeT T K).n=T.n:=by
 unfold takeT
 cases takeR T K <;> rfl
theorem up_n (T:Tal) (b:Int):(up T b).n=T.n:=by unfold up;split <;> rfl
theorem down_n (T:Tal) (b:Int):(down T b).n=T.n:=by unfold down;split <;> rfl
section
variable {w:World} {p t bc bk:Nat} {K:Pk} {T:Tal} (h:PT w p t bc bk K T)
include h
theorem PT.chg {w':World} {L:List Nat} (c:Chg L w w') (h0:p∉L) (h1:t∉L) (h2:bc∉L) (h3:bk∉L):PT w' p t bc bk K T :=
 ⟨h.hp.chg c h0,h.ht.chg c h1 h2 h3,h.f,h.n,h.a⟩
theorem PT.drew:PT w.drew p t bc bk K T:=⟨⟨h.hp.top⟩,h.ht.chg (Chg.drew (Chg.refl [] _)) (by simp) (by simp) (by simp),h.f,h.n,h.a⟩
theorem PT.drewN (n:Nat):PT (w.drewN n) p t bc bk K T:=⟨⟨h.hp.top⟩,h.ht.chg (Chg.drewN (Chg.refl [] _) n) (by simp) (by simp) (by simp),h.f,h.n,h.a⟩
theorem PT.room:Calls Tryz.prog 75 #[.pointer (some ⟨p,0,none⟩)] w fun e w'=>e = .returned (.int .i64 (roomI T K.first))∧w=w' :=
 room_at h.hp h.ht (Nat.le_trans h.f h.n)
theorem PT.take:Calls Tryz.prog 77 #[.pointer (some ⟨p,0,none⟩)] w fun e w'=>e = .returned (.tuple #[.int .i64 (takeB T K),.int .i64 (takeE T K)])∧PT w' p t bc bk (takeK T K) (takeT T K)∧Chg [p,t,bc,bk] w w':=by
 refine (take_at h.hp h.ht h.f h.n).mono fun e w' ⟨he,hp',ht',hc⟩=>⟨he,?_,hc⟩
 obtain ⟨b1,b2,b3,_⟩:=takeK_bd h.f h.n
 exact ⟨hp',ht',b1,by rw [takeT_n];exact b2,by rw [b3];exact h.a⟩
theorem PT.up (b:Int):Calls Tryz.prog 96 #[.pointer (some ⟨t,0,none⟩),.int .i64 b] w fun e w'=>e = .returned (.int .i64 (upE T b))∧PT w' p t bc bk K (up T b)∧Chg [p,t,bc,bk] w w' :=
 (up_at h.ht b).mono fun _ _ ⟨he,ht',hc⟩=>⟨he,⟨h.hp.chg hc (pick_ne h.hp h.ht),ht',h.f,by rw [up_n];exact h.n,h.a⟩,hc.mono (by simp)⟩
theorem PT.down (b:Int):Calls Tryz.prog 94 #[.pointer (some ⟨t,0,none⟩),.int .i64 b] w fun e w'=>e = .returned (.int .i64 (downE T b))∧PT w' p t bc bk K (down T b)∧Chg [p,t,bc,bk] w w' :=
 (down_at h.ht b).mono fun _ _ ⟨he,ht',hc⟩=>⟨he,⟨h.hp.chg hc (pick_ne h.hp h.ht),ht',h.f,by rw [down_n];exact h.n,h.a⟩,hc.mono (by simp)⟩
theorem PT.keep:Calls Tryz.prog 89 #[.pointer (some ⟨t,0,none⟩)] w fun e w'=>e = .returned (.tuple #[])∧PT w' p t bc bk K T.keep∧Chg [p,t,bc,bk] w w':=by
 have hne:=pick_ne h.hp h.ht
 refine (keep_at h.ht).mono fun _ _ ⟨he,ht',hc⟩=>⟨he,⟨h.hp.chg hc (by simp at hne ⊢;exact ⟨hne.1,hne.2.2⟩),ht',h.f,h.n,h.a⟩,hc.mono (by simp)⟩
end
theorem tnew_ex (n:Nat) (w:World) (h1:1≤n) (h2:n≤4096) :
  Calls Tryz.prog 106 #[.int .i64 (n:Int)] w fun e w'=>∃ t bc bk,e = .returned (.tuple #[.pointer (some ⟨t,0,none⟩),.int .i64 0]) ∧
   TallyAt w' t bc bk (Tal.new n)∧Chg [] w w'∧w.heap.size≤t∧w.heap.size≤bc∧w.heap.size≤bk :=
 (tnew_at n w h1 h2).mono fun _ _ ⟨he,ht,hc⟩=>⟨_,_,_,he,ht,hc,by omega,by omega,by omega⟩
theorem pnew_ex {w:World} {t bc bk m:Nat} (h:TallyAt w t bc bk (Tal.new m)) (n:Nat) (hn:n≤m) :
  Calls Tryz.prog 103 #[.pointer (some ⟨t,0,none⟩),.int .i64 (n:Int)] w fun e w'=>∃ p,e = .returned (.tuple #[.pointer (some ⟨p,0,none⟩),.int .i64 0]) ∧
   PT w' p t bc bk ⟨n,n,0⟩ (Tal.new m)∧Chg [] w w'∧w.heap.size≤p :=
 (pnew_at h n hn).mono fun _ _ ⟨he,hp,hc⟩=>⟨_,he,⟨hp,h.chg hc (by simp) (by simp) (by simp),Nat.le_refl _,hn,Nat.zero_le _⟩,hc,Nat.le_refl _⟩
theorem PT.made {w1 w2:World} {t p bc bk:Nat} {n first:Nat} (ht:TallyAt w1 t bc bk (Tal.new n)) (hp:PickAt w2 p t ⟨first,first,0⟩) (hc:Chg [] w1 w2) (hn:first≤n):PT w2 p t bc bk ⟨first,first,0⟩ (Tal.new n) :=
 ⟨hp,ht.chg hc (by simp) (by simp) (by simp),Nat.le_refl _,hn,Nat.zero_le _⟩
theorem cnt_flat {p:Nat→Bool} {a:Nat} : ∀ {b:Nat},a≤b→(∀ i,a≤i→i<b→p i=false)→cnt b p=cnt a p
  | 0, h, _ => by obtain rfl : a = 0 := by omega
                  rfl
  | b+1,h,hp=>by
    by_cases e:a=b+1
    · subst e;rfl
    · rw [cnt_step,hp b (by omega) (by omega),cnt_flat (b:=b) (by omega) (fun i h1 h2=>hp i h1 (by omega))]
      rfl
theorem takeR_none_free {T:Tal} {K:Pk} (hf:K.first≤K.next) (hn:K.next≤T.n) (h:takeR T K=none):∀ i,K.first≤i→i<T.n→T.free i=false:=by
 unfold takeR at h
 split at h
 ·cases h
 ·rename_i h0
  intro i h1 h2
  by_cases e:K.next≤i
  ·exact firstFree_none h0 i e (by omega)
  ·exact firstFree_none h i h1 (by omega)
theorem room_none {T:Tal} {K:Pk} (hf:K.first≤K.next) (hn:K.next≤T.n) (h:takeR T K=none):roomI T K.first=0:=by
 unfold roomI Tal.frees
 rw [cnt_flat (a:=K.first) (b:=T.n) (by omega) (takeR_none_free hf hn h)]
 omega
theorem room_some {T:Tal} {f b:Nat} (hf:f≤b) (hb:b<T.n) (h:T.free b=true):roomI (T.set b 1) f=roomI T f - 1:=by
 have h1:=frees_set T 1 hb
 have h2:(T.set b 1).free b=false:=by simp [Tal.free,Tal.set]
 rw [h,h2] at h1
 have h3:cnt f (T.set b 1).free=cnt f T.free:=cnt_congr fun i hi=>by
  have:i≠b:=by omega
  simp [Tal.free,Tal.set,this]
 unfold roomI
 rw [h3]
 simp at h1
 omega
def bools (n:Nat) (f:Nat→Bool):Array Value:=Array.ofFn (n:=n) fun i => .bool (f i)
theorem bools_get {n:Nat} {f:Nat→Bool} {i:Nat} (h:i<n):(bools n f)[i]?=some (.bool (f i)):=by
 simp [bools,h]
theorem bools_set {n:Nat} {f:Nat→Bool} {i:Nat} {v:Bool} (h:i<n):(bools n f).setIfInBounds i (.bool v)=bools n (fun j=>if j=i then v else f j):=by
 apply Array.ext_getElem?
 intro j
 by_cases hj:j<n
 ·rw [bools_get hj,Array.getElem?_setIfInBounds]
  by_cases e:j=i
  ·subst e;simp [bools,h]
  ·rw [if_neg (fun q=>e q.symm),bools_get hj];simp [e]
 ·simp [bools,hj]
theorem zrow_bools (n:Nat):zrow n (.bool false)=bools n (fun _=>false):=by
 apply Array.ext
 ·simp [zrow,bools]
 ·intro i h1 h2
  simp [zrow,bools]
def pg (n:Nat):Nat:=(n+60) / 61
def needN (n:Nat):Nat:=pg n+pg (pg n)
def anyIn (p:Nat→Bool) (n i:Nat):Bool:=(List.range 61).any fun j=>decide (61*i+j<n)&&p (61*i+j)
theorem anyIn_iff {p:Nat→Bool} {n i:Nat} : anyIn p n i=true↔∃ b,61*i≤b∧b<61*i+61∧b<n∧p b=true:=by
 unfold anyIn
 rw [List.any_eq_true]
 constructor
 ·rintro ⟨j,hj,h⟩
  simp only [List.mem_range,Bool.and_eq_true,decide_eq_true_eq] at hj h
  exact ⟨61*i+j,by omega,by omega,h.1,h.2⟩
 ·rintro ⟨b,h1,h2,h3,h4⟩
  refine ⟨b - 61*i,by simp;omega,?_⟩
  rw [show 61*i+(b - 61*i)=b by omega]
  simp [h3,h4]
theorem anyIn_false {p:Nat→Bool} {n i:Nat} : anyIn p n i=false↔∀ b,61*i≤b→b<61*i+61→b<n→p b=false:=by
 rw [← Bool.not_eq_true,anyIn_iff]
 constructor
 ·intro h b h1 h2 h3
  cases hp:p b with
  | false=>rfl
  | true=>exact absurd ⟨b,h1,h2,h3,hp⟩ h
 ·rintro h ⟨b,h1,h2,h3,h4⟩
  rw [h b h1 h2 h3] at h4
  cases h4
structure PS where
 T:Tal
 K:Pk
 n:Nat→Nat
 a:Nat→Nat→Nat
 p:Nat→Nat→Bool
def PS.want (S:PS) (k i:Nat):Bool := !S.p k i&&(S.a k i==0||(if k=1 then anyIn (S.p 0) (S.n 0) i else anyIn S.T.changed S.T.n i))
def upd2 {α:Type} (f:Nat→Nat→α) (k i:Nat) (v:α):Nat→Nat→α:=fun k' i'=>if k'=k∧i'=i then v else f k' i'
theorem upd2_same {α:Type} (f:Nat→Nat→α) (k i:Nat) (v:α):upd2 f k i v k i=v:=by simp [upd2]
theorem upd2_other {α:Type} (f:Nat→Nat→α) {k i k' i':Nat} (v:α) (h:¬ (k'=k∧i'=i)):upd2 f k i v k' i'=f k' i':=by unfold upd2;rw [if_neg h]
def PS.T1 (S:PS) (k i:Nat):Tal:=if S.a k i=0 then S.T else down S.T (S.a k i:Int)
def PS.new (S:PS) (k i:Nat):Nat:=(takeR (S.T1 k i) S.K).getD 0
def PS.step (S:PS) (k i:Nat):PS:=⟨takeT (S.T1 k i) S.K,takeK (S.T1 k i) S.K,S.n,upd2 S.a k i (S.new k i),upd2 S.p k i true⟩
def PS.next (S:PS):Option (Nat × Nat) :=
 match zff (S.want 0) 0 (S.n 0) with
 | some i=>some (0,i)
 | none=>match zff (S.want 1) 0 (S.n 1) with | some i=>some (1,i) | none=>none
def PS.run:Nat→PS→PS
 | 0,S=>S
 | f+1,S=>match S.next with | some (k,i)=>PS.run f (S.step k i) | none=>S
def PS.left (S:PS):Nat:=cnt (S.n 0) (fun i => !S.p 0 i)+cnt (S.n 1) (fun i => !S.p 1 i)
theorem PS.next_some {S:PS} {k i:Nat} (h:S.next=some (k,i)):k<2∧i<S.n k∧S.want k i=true:=by
 unfold PS.next at h
 cases h0:zff (S.want 0) 0 (S.n 0) with
 | some j =>
  rw [h0] at h
  simp only [Option.some.injEq,Prod.mk.injEq] at h
  obtain ⟨rfl,rfl⟩:=h
  have:=firstFree_some h0
  exact ⟨by omega,by omega,this.2.2.1⟩
 | none =>
  rw [h0] at h
  simp only at h
  cases h1:zff (S.want 1) 0 (S.n 1) with
  | some j =>
   rw [h1] at h
   simp only [Option.some.injEq,Prod.mk.injEq] at h
   obtain ⟨rfl,rfl⟩:=h
   have:=firstFree_some h1
   exact ⟨by omega,by omega,this.2.2.1⟩
  | none=>rw [h1] at h;cases h
theorem PS.next_none {S:PS} (h:S.next=none):∀ k i,k<2→i<S.n k→S.want k i=false:=by
 unfold PS.next at h
 cases h0:zff (S.want 0) 0 (S.n 0) with
 | some j=>rw [h0] at h;cases h
 | none =>
  rw [h0] at h
  simp only at h
  cases h1:zff (S.want 1) 0 (S.n 1) with
  | some j=>rw [h1] at h;cases h
  | none =>
   intro k i hk hi
   have hk2:k=0∨k=1:=by omega
   rcases hk2 with rfl | rfl
   ·exact firstFree_none h0 i (by omega) (by omega)
   ·exact firstFree_none h1 i (by omega) (by omega)
theorem want_p {S:PS} {k i:Nat} (h:S.want k i=true):S.p k i=false:=by
 unfold PS.want at h
 simp only [Bool.and_eq_true,Bool.not_eq_true'] at h
 exact h.1
theorem PS.left_step {S:PS} {k i:Nat} (hk:k<2) (hi:i<S.n k) (h:S.want k i=true):(S.step k i).left+1=S.left:=by
 have hp:=want_p h
 have hk2:k=0∨k=1:=by omega
 unfold PS.left PS.step
 dsimp only
 rcases hk2 with rfl | rfl
 ·have e1:cnt (S.n 1) (fun j => !upd2 S.p 0 i true 1 j)=cnt (S.n 1) (fun j => !S.p 1 j):=cnt_congr fun j _=>by rw [upd2_other _ _ (by omega)]
  have e0:=cnt_upd (p:=fun j => !S.p 0 j) (q:=fun j => !upd2 S.p 0 i true 0 j) hi (fun j _ hj=>by rw [upd2_other _ _ (by omega)])
  simp only [upd2_same,hp,Bool.not_true,Bool.not_false,if_true] at e0
  simp at e0
  omega
 ·have e1:cnt (S.n 0) (fun j => !upd2 S.p 1 i true 0 j)=cnt (S.n 0) (fun j => !S.p 0 j):=cnt_congr fun j _=>by rw [upd2_other _ _ (by omega)]
  have e0:=cnt_upd (p:=fun j => !S.p 1 j) (q:=fun j => !upd2 S.p 1 i true 1 j) hi (fun j _ hj=>by rw [upd2_other _ _ (by omega)])
  simp only [upd2_same,hp,Bool.not_true,Bool.not_false,if_true] at e0
  simp at e0
  omega
theorem PS.left_pos {S:PS} {k i:Nat} (hk:k<2) (hi:i<S.n k) (h:S.want k i=true):0<S.left:=by have:=PS.left_step hk hi h;omega
theorem PS.run_none {S:PS} (h:S.next=none):∀ f,S.run f=S
 | 0=>rfl
 | f+1=>by unfold PS.run;rw [h]
theorem PS.run_some {S:PS} {k i:Nat} (h:S.next=some (k,i)):S.run S.left=(S.step k i).run (S.step k i).left:=by
 have ⟨hk,hi,hw⟩:=PS.next_some h
 rw [← PS.left_step hk hi hw]
 show PS.run (_+1) S=_
 unfold PS.run
 rw [h]
 cases (S.step k i).left <;> rfl
def PS.fin (S:PS):PS:=S.run S.left
theorem PS.fin_none {S:PS} (h:S.next=none):S.fin=S:=PS.run_none h _
theorem PS.fin_some {S:PS} {k i:Nat} (h:S.next=some (k,i)):S.fin=(S.step k i).fin:=PS.run_some h
theorem PS.fin_ind {Q:PS→Prop} (hs:∀ S k i,Q S→k<2→i<S.n k→S.want k i=true→Q (S.step k i)):∀ (m:Nat) (S:PS),S.left≤m→Q S→Q S.fin∧S.fin.next=none:=by
 intro m
 induction m with
 | zero =>
  intro S hl hq
  cases h:S.next with
  | none=>rw [PS.fin_none h];exact ⟨hq,h⟩
  | some ki=>have ⟨a,b,c⟩:=PS.next_some h;have:=PS.left_pos a b c;omega
 | succ m ih =>
  intro S hl hq
  cases h:S.next with
  | none=>rw [PS.fin_none h];exact ⟨hq,h⟩
  | some ki =>
   obtain ⟨k,i⟩:=ki
   have ⟨a,b,c⟩:=PS.next_some h
   have:=PS.left_step a b c
   rw [PS.fin_some h]
   exact ih _ (by omega) (hs S k i hq a b c)
structure ShOk (T:Tal) (n:Nat→Nat) (a:Nat→Nat→Nat):Prop where
 n0:n 0=pg T.n
 n1:n 1=pg (pg T.n)
 has:∀ k i,k<2→i<n k→a k i≠0→a k i<T.n∧T.now (a k i)≠0
 apart:∀ k i k' i',k<2→i<n k→k'<2→i'<n k'→a k i≠0→a k i=a k' i'→k=k'∧i=i'
theorem down_now {T:Tal} {b:Nat} (hb:b<T.n) (h:T.now b≠0):down T (b:Int)=T.set b (T.now b - 1):=by
 have e:hasB T (b:Int)=true:=(hasB_iff T b).2 (by omega)
 unfold down downE
 simp [e,h]
theorem set_now (T:Tal) (b v i:Nat):(T.set b v).now i=if i=b then v else T.now i:=rfl
theorem step_some {S:PS} {k i b:Nat} (ht:takeR (S.T1 k i) S.K=some b):(S.step k i).T=(S.T1 k i).set b 1∧S.new k i=b:=by
 unfold PS.step PS.new takeT
 rw [ht]
 exact ⟨rfl,rfl⟩
theorem T1_n (S:PS) (k i:Nat):(S.T1 k i).n=S.T.n:=by
 unfold PS.T1;split
 ·rfl
 ·exact down_n _ _
theorem T1_now {S:PS} {k i:Nat} (h:ShOk S.T S.n S.a) (hk:k<2) (hi:i<S.n k) (x:Nat):(S.T1 k i).now x=if x=S.a k i∧S.a k i≠0 then S.T.now x - 1 else S.T.now x:=by
 unfold PS.T1
 by_cases h0:S.a k i=0
 ·rw [if_pos h0,if_neg (by rintro ⟨_,h⟩;exact h h0)]
 ·have ⟨h1,h2⟩:=h.has k i hk hi h0
  rw [if_neg h0,down_now h1 h2,set_now]
  by_cases hx:x=S.a k i
  ·rw [if_pos hx,if_pos ⟨hx,h0⟩,hx]
  ·rw [if_neg hx,if_neg (fun h=>hx h.1)]
theorem T1_kept {S:PS} {k i:Nat} (x:Nat):(S.T1 k i).kept x=S.T.kept x:=by
 unfold PS.T1 down
 split
 ·rfl
 ·split <;> rfl
theorem pg_pos {n:Nat} (h:1≤n):1≤pg n:=by unfold pg;omega
theorem pg_le {n:Nat} : pg n≤n:=by unfold pg;omega
open Go.RowKit Go.Maps
def chgs (T:Tal):List Nat:=(List.range T.n).filter T.changed
theorem mem_chgs {T:Tal} {b:Nat} : b∈chgs T↔b<T.n∧T.changed b=true:=by
 simp [chgs]
theorem chgs_pairwise (T:Tal):(chgs T).Pairwise (· < ·):=List.Pairwise.filter _ List.pairwise_lt_range
theorem chgs_perm {P:Program} {w:World} {kt et bk:Nat} {T:Tal} {D:DataW Unit} (hown:w.ownsMap P kt (plainElem P et) bk (Maps.size D) D) (hkt:P.underlying kt=some (.int .i64))
  (h3:∀ l,Maps.has D l=true→∃ k,k<T.n∧l = .int .i64 (k:Int)∧(T.keptAt k).isSome=true)
  (h4:∀ k v,k<T.n→T.keptAt k=some v→Maps.has D (.int .i64 (k:Int))=true∧∀ z,D.atKey (.int .i64 (k:Int)) z = .lit (.int .u16 (v:Int))) :
  ((chgs T).map (fun b:Nat=>(b:Int))).Perm (intKeys D):=by
 obtain ⟨es,rfl,hp,hkeys⟩:=hown.entries (int_keyed hkt)
 refine perm_intKeys hp ?_ ?_ ?_
 ·intro p hpm
  have hh:Maps.has (.map es) p.1=true:=by
   rw [has_eq,List.any_eq_true]
   exact ⟨p,hpm,WideAt.sameKey_self (hkeys p hpm)⟩
  obtain ⟨k,_,hl,_⟩:=h3 _ hh
  exact ⟨_,hl⟩
 ·rw [List.Nodup,List.pairwise_map]
  exact (chgs_pairwise T).imp (fun {a b} h e=>by omega)
 ·intro x
  constructor
  ·intro hx
   obtain ⟨b,hb,rfl⟩:=List.mem_map.1 hx
   obtain ⟨h1,h2⟩:=mem_chgs.1 hb
   have:T.keptAt b=some (T.kept b):=by
    simp [Tal.changed] at h2
    simp [Tal.keptAt,h2]
   exact (h4 b _ h1 this).1
  ·intro hx
   obtain ⟨k,hk,hl,hs⟩:=h3 _ hx
   injection hl with _ hl
   rw [hl]
   refine List.mem_map.2 ⟨k,mem_chgs.2 ⟨hk,?_⟩,rfl⟩
   unfold Tal.keptAt at hs
   unfold Tal.changed
   by_cases e:T.now k=T.kept k
   ·rw [if_pos e] at hs;cases hs
   ·simp [e]
theorem chgs_sorted (T:Tal) {ss:List Int} (h:ss.Perm ((chgs T).map (fun b:Nat=>(b:Int)))):ss.mergeSort (fun x y=>decide (x≤y))=(chgs T).map (fun b:Nat=>(b:Int)):=by
 have e:=mergeSort_of_perm_i h
 have s:((chgs T).map (fun b:Nat=>(b:Int))).mergeSort leI=(chgs T).map (fun b:Nat=>(b:Int)):=by
  refine List.mergeSort_of_pairwise ?_
  rw [List.pairwise_map]
  exact (chgs_pairwise T).imp (fun {a b} h=>by simp [leI];omega)
 exact e.trans s
end Go.Proofs.YtkhcaclndepgbaaGreat
namespace Go.Proofs.YtkhcaclndepgbaaGreat
open Go.RowKit Go.Maps Go.Sort Go.Shelf
theorem sortsA (m:Nat):AnyZI.SortsIn Tryz.prog Tryz.sortedA_ren Fence.wide m :=
  ⟨fun blk off cap ss W hH hblk hsz=>callsIn_wide.2 (AnyM.slices_Sort_int Tryz.sortA blk off cap ss W hH hblk hsz),
   fun p cap W=>callsIn_wide.2 (AnyM.slices_Sort_int_none Tryz.sortA p cap W)⟩
def intVs (l:List Nat):List Value:=l.map (fun b:Nat => .int .i64 (b:Int))
theorem changed_at {w:World} {t bc bk:Nat} {T:Tal} (h:TallyAt w t bc bk T) :
  Calls Tryz.prog 79 #[.pointer (some ⟨t,0,none⟩)] w fun e w'=>∃ v,e = .returned v ∧
   w'.ownsRow w.heap.size 3 1 v (chgs T).length (intVs (chgs T))∧Below w.heap.size w w':=by
 obtain ⟨D,hown,h2,h3,h4⟩:=h.map
 have hperm:=chgs_perm hown Tryz.underlying3 h3 h4
 have hsz:Maps.size D≤4096:=by rw [h2];exact Nat.le_trans (cnt_le _ _) h.n2
 have hmax:Maps.size D≤maxLen:=by unfold maxLen;omega
 have hbytes:Maps.size D*8≤140737488355328:=by omega
 have hbl:=hown.lt
 have c1:=h.c1
 have HP:=Lib.hid hperm
 clear hperm h3 h4 h2
 refine (callsIn_wide (n:=6)).1 ?_
 have hseq:SeqGives Fence.wide 2 Tryz.prog 167 #[.pointer (some ⟨w.heap.size,0,none⟩)] encZ (fun ss=>ss.Perm (intKeys D)) (Maps.size D) (w.alloc (.cells #[.map (some bk)] 213)) :=
  AnyZI.keys_gives (ρ:=Tryz.keysA_ren) { Tryz.keysA with } Fence.wide _ trivial rfl (by omega) w.heap.size bk (Maps.size D) D _ (by simp) (by simp) (by
   obtain ⟨es,clock,hb,Ft,hs,hD⟩:=hown
   exact ⟨es,clock,(Below.heap_alloc _ _ bk hbl).trans hb,Ft,hs,hD⟩)
 have cK:∀ mb W,CallsIn Fence.wide 5 Tryz.prog 131 #[.map mb] W fun e w'=>e = .returned (.func (.func 167) #[] #[.pointer (some ⟨W.heap.size,0,none⟩)])∧w'=W.alloc (.cells #[.map mb] 213):=fun mb W=>AnyZI.keys_in Tryz.keysA Fence.wide 5 trivial rfl mb W
 have cS:=AnyZI.sorted_in Tryz.sortedA Fence.wide 5 trivial trivial trivial trivial rfl (by omega) (sortsA _) (enters_of Tryz.func138 (by kernel_rfl) rfl) 167 #[.pointer (some ⟨w.heap.size,0,none⟩)] trivial (enters_of Tryz.func167 (by kernel_rfl) rfl) _ _ hmax hbytes _ hseq
 change CallsIn _ _ Tryz.prog 82 _ _ _ at cS
 have hfK:Fence.wide.fn 131:=trivial
 have hfS:Fence.wide.fn 82:=trivial
 refine callsIn_of_wp Tryz.func79 rfl trivial ?_ rfl
 simp only [Tryz.ntmps79,List.size_toArray,List.length_cons,List.length_nil,Nat.reduceAdd,Nat.reduceSub,Array.replicate_succ,Array.replicate_zero,List.push_toArray,List.append_toArray,List.nil_append,List.cons_append]
 gi_wp2_with (first
  | (gi_at_call 131;refine (cK _ _).mono ?_;rintro e w' ⟨rfl,rfl⟩)
  | (gi_at_call 82;refine cS.mono ?_;rintro e w' ⟨v,ss,rfl,hS,hrow,hnil,hb⟩))
 go_ret
 have hs:=chgs_sorted T (ss:=ss) (hS.trans HP.out.symm)
 have hl:ss.length=(chgs T).length:=by
  have:=(hS.trans HP.out.symm).length_eq
  simpa using this
 have hm:(ss.mergeSort (fun x y=>decide (x≤y))).map encZ=intVs (chgs T):=by
  rw [hs];simp [intVs,encZ]
 have hrow':=ownsRow_base_a (base':=w.heap.size) hrow (by simp)
 rw [hl] at hrow'
 refine ⟨v,rfl,?_,((Below.refl _ w).alloc (Nat.le_refl _) _).trans (hb.mono (by simp))⟩
 rw [← hm]
 exact hrow'
end Go.Proofs.YtkhcaclndepgbaaGreat
namespace Go.Proofs.YtkhcaclndepgbaaGreat
open Go.RowKit
end Go.Proofs.YtkhcaclndepgbaaGreat
