/- catchmentlaw13.FindNone: the walk. -/
import Derived.Test.YtkhcaclndepgbaaGreatZg48
import Derived.Test.YtkhcaclndepgbaaGreatZg24
import Derived.Deep.LoopGhost
set_option linter.unusedVariables false
set_option linter.unusedSimpArgs false
set_option maxRecDepth 100000
set_option maxHeartbeats 20000000
namespace Go.Proofs.YtkhcaclndepgbaaGreat
open Go.RowKit
noncomputable def zBase:Array Value:=(Tryz.prog.built 51 []).getD #[]
theorem zBase_is:Tryz.prog.built 51 []=some zBase:=by kernel_rfl
theorem zBase_1:zBase[1]?=some (.pointer none):=by kernel_rfl
theorem rightT_out {B:Bs} {x:Int} (h:B.inI x=false) (h0:x≠0):rightT B x=false:=by
 have hn:B.nodeI x=none:=by unfold Bs.nodeI;rw [h];rfl
 have hE:B.nodeE x=2:=by unfold Bs.nodeE;rw [h];rfl
 have hh:heightP B 8 x=(0,2):=by
  show (if x=0 then _ else match B.nodeI x with | none=>(0,B.nodeE x) | some d=>_)=_
  rw [if_neg h0,hn,hE]
 unfold rightT
 rw [hh]
 have:(x==0)=false:=by simpa using h0
 rw [this]
 rfl
theorem getP_zero {B:Bs} {key:Nat} : getP B key 8 0=(0,false,0):=rfl
theorem heightP_zero {B:Bs} : heightP B 8 0=(0,0):=rfl
theorem findNone_walk (a0 b0:Int) (w:World) (h0:(Lit.int .i64 a0).wf=true) (h1:(Lit.int .u64 b0).wf=true) :
  Calls Tryz.prog 9 #[.int .i64 a0,.int .u64 b0] w fun e w'=>e = .returned (.bool true)∧Below w.heap.size w w':=by
 obtain ⟨y,rfl,hy⟩:∃ y:Nat,b0=(y:Int)∧y<18446744073709551616:=by
  have:=bd_u64 h1
  exact ⟨b0.toNat,by omega,by omega⟩
 have HAW:=Lib.hid awake13_at
 have HA0:=Lib.hid h0
 clear h0 h1
 go_enter Tryz.func9,Tryz.ntmps9
 go_upto_region 1 with fail
 go_wp2_with (first
  | (refine wpList_built rfl 51 _ rfl (ps:=[]) (by simp) zBase_is ?_)
  | (refine wpList_boxAgg rfl 51 (.tmp 27) rfl (cells:=zBase) rfl ?_))
 have hA:=(Chg.refl [] w).alloc (.cells zBase 51)
 have hB:=hA.alloc (.cells #[.pointer none,.pointer (some ⟨w.heap.size,0,none⟩)] 24)
 have kA:=znd w (.cells zBase 51) (.cells #[.pointer none,.pointer (some ⟨w.heap.size,0,none⟩)] 24)
 have kB:=znc w (.cells zBase 51) (.cells #[.pointer none,.pointer (some ⟨w.heap.size,0,none⟩)] 24)
 obtain ⟨W,hW⟩:∃ W,W=(w.alloc (.cells zBase 51)).alloc (.cells #[.pointer none,.pointer (some ⟨w.heap.size,0,none⟩)] 24):=⟨_,rfl⟩
 have hWs:W.heap.size=w.heap.size+2:=by rw [hW];simp
 rw [← hW] at hB kA kB ⊢
 obtain ⟨pb,hpb⟩:∃ pb,pb=w.heap.size:=⟨_,rfl⟩
 obtain ⟨sb,hsb⟩:∃ sb,sb=pb+1:=⟨_,rfl⟩
 rw [← hpb] at kA kB ⊢
 rw [← hsb] at kB ⊢
 have cell:∀ wr k,Chg [] W wr→k<2→∃ p:Option Addr,wr.cell? ⟨sb,k,none⟩=some (.pointer p)∧NoB wr p:=fun wr k hc hk=>by
  have hb:=(hc.block sb (by omega) (by simp)).trans kB
  have ha:=(hc.block pb (by omega) (by simp)).trans kA
  rcases (show k=0∨k=1 by omega) with rfl | rfl
  ·exact ⟨none,(zcb hb 0).trans rfl,.inl rfl⟩
  ·exact ⟨some ⟨pb,0,none⟩,(zcb hb 1).trans rfl,.inr ⟨pb,rfl,(zcb ha 1).trans zBase_1⟩⟩
 have HCELL:=Lib.hid cell
 have HB:=Lib.hid (And.intro hB hWs)
 clear cell hA hB kA kB hW hWs hpb hsb
 go_loopw [31] (fun s wr=>∃ k:Nat,s = .int .i64 (k:Int)∧k≤2∧Hid (Chg [] W wr)) (fun s _=>2 - (intOf s).toNat)
 case atStart=>exact ⟨0,rfl,by omega,Lib.hid (Chg.refl _ _)⟩
 case round =>
  obtain ⟨k,rfl,hk,hC⟩:=hrel
  by_cases hk2:k<2
  ·obtain ⟨p,hcell,hno⟩:=HCELL.out wr k hC.out hk2
   have hpl:∀ b,p=some b→b.block∉([]:List Nat):=fun b _=>by simp
   have i1:(k:Int)<2:=by omega
   have c1:=fNode_none (x:=a0) hno
   go_wp2_with fail
   refine c1.mono ?_
   clear c1
   rintro e w1 ⟨rfl,hc1⟩
   go_upto_region 5 with fail
   have hn1:=(hno.chg hc1 hpl).chg ((Chg.refl [] w1).alloc (.cells #[.bool false,.slice none 0 0,.slice none 0 0] 107)) hpl
   have HC1:=Lib.hid ((hC.out.trans hc1).trans ((Chg.refl [] w1).alloc (.cells #[.bool false,.slice none 0 0,.slice none 0 0] 107)))
   generalize w1.alloc (.cells #[.bool false,.slice none 0 0,.slice none 0 0] 107)=w2 at hn1 HC1 ⊢
   clear hcell hc1 hno
   have c1:=fGet_none hn1 a0 (y:Int)
   go_wp2_with fail
   refine (c1).mono ?_
   rintro e w' ⟨rfl,rfl⟩
   clear c1
   have c1:=fWalk_none hn1 a0 0 (y:Int) 5
   go_wp2_with fail
   refine c1.mono ?_
   clear c1
   rintro e w3 ⟨rfl,hc3⟩
   have hn:=hn1.chg hc3 hpl
   have HC:=Lib.hid (HC1.out.trans hc3)
   clear hc3 hn1 HC1
   have c1:=fHeight_none hn a0
   go_wp2_with fail
   refine (c1).mono ?_
   rintro e w' ⟨rfl,rfl⟩
   clear c1
   have c1:=fRight_none hn a0
   go_wp2_with fail
   refine c1.mono ?_
   clear c1
   rintro e w4 ⟨rfl,rfl⟩
   go_wp2_with fail
   go_roundw
   case rel=>exact ⟨k+1,by go_num,by omega,HC⟩
   case measure=>simp [intOf];omega
  ·obtain rfl:k=2:=by omega
   have cb:=base13_at (N:=40) wr (by omega) (F:=[]) (fun q hq=>by cases hq)
   change Calls _ _ #[.int .i64 40] wr _ at cb
   have HS:=Lib.hid (show w.heap.size≤wr.heap.size from by have h1:=HB.out.2;have h2:=hC.out.size;omega)
   go_wp2_with fail
   refine cb.mono ?_
   clear cb
   rintro e w1 ⟨M,rfl,hb0,hc1,hM⟩
   have tn:(Bs.fmt 40).T.n=40:=(beg_fmt (by omega)).tn
   have H1:=Lib.hid (And.intro hb0 (And.intro ((HB.out.1.trans hC.out).trans hc1) tn))
   have cbl:=hb0.cBlocks
   rw [tn] at cbl
   change Calls _ _ _ w1 fun e w'=>e = .returned (.int .i64 40)∧w1=w' at cbl
   clear hb0 hc1 hM tn
   have HP:Hid (Chg [] w w1∧BaseAt w1 M [] (Bs.fmt 40)):=Lib.hid ⟨H1.out.2.1,H1.out.1⟩
   have hor:(a0<2∧a0=0)∨(a0<2∧a0≠0)∨(¬ a0<2∧40≤a0)∨(¬ a0<2∧¬ 40≤a0):=by omega
   have INI:Hid (a0<2∨40≤a0→(Bs.fmt 40).inI a0=false):=Lib.hid fun h=>by
    cases q:(Bs.fmt 40).inI a0 with
    | false=>rfl
    | true=>have:=inI_iff.1 q;rw [H1.out.2.2] at this;omega
   go_upto_region 14 with fail
   have STEP:Hid (∀ wx,Chg [] w1 wx→BaseAt wx M [] (Bs.fmt 40)∧Chg [] w wx):=Lib.hid fun wx hx=>⟨H1.out.1.chg hx (by simp),H1.out.2.1.trans hx⟩
   have cN:=H1.out.1.cNode a0
   have NE:Hid (a0<2∨40≤a0→(Bs.fmt 40).nodeI a0=none∧(Bs.fmt 40).nodeE a0=2):=Lib.hid fun h=>by
    unfold Bs.nodeI Bs.nodeE
    rw [INI.out h]
    exact ⟨rfl,rfl⟩
   rcases hor with ⟨i1,i3⟩ | ⟨i1,i3⟩ | ⟨i1,i2⟩ | ⟨i1,i2⟩
   case' inr.inr.inr =>
    clear cN
    go_upto_region 18 with (refine cbl.mono ?_;rintro e w' ⟨rfl,rfl⟩)
    have hq:=Chg.refl [] w1
    obtain ⟨wq,hwq⟩:∃ wq,wq=w1:=⟨_,rfl⟩
    rw [← hwq]
    have hq:Chg [] w1 wq:=by rw [hwq];exact hq
    clear hwq cbl
   case' inr.inr.inl =>
    go_upto_region 15 with (refine cbl.mono ?_;rintro e w' ⟨rfl,rfl⟩)
    have i3:a0≠0:=by omega
    have nee:=NE.out (.inr i2)
    have ini:=INI.out (.inr i2)
    clear cbl
   case' inr.inl =>
    go_upto_region 15 with fail
    have nee:=NE.out (.inl i1)
    have ini:=INI.out (.inl i1)
    clear cbl
   case' inl =>
    subst i3
    go_upto_region 15 with fail
    have nee:=NE.out (.inl i1)
    clear cbl
    go_wp2_with fail
    refine cN.mono ?_
    clear cN
    rintro e w2 (⟨d,kb,vb,hd,-⟩ | ⟨-,rfl,hc2⟩)
    ·rw [nee.1] at hd;cases hd
    rw [nee.2]
    clear nee
    go_upto_region 18 with fail
    have hq:Chg [] w1 (w2.alloc (.cells #[.bool false,.slice none 0 0,.slice none 0 0] 107)):=hc2.trans ((Chg.refl [] w2).alloc _)
    clear hc2
    generalize w2.alloc (.cells #[.bool false,.slice none 0 0,.slice none 0 0] 107)=wq at hq ⊢
   case' inr.inl =>
    go_wp2_with fail
    refine cN.mono ?_
    clear cN
    rintro e w2 (⟨d,kb,vb,hd,-⟩ | ⟨-,rfl,hc2⟩)
    ·rw [nee.1] at hd;cases hd
    rw [nee.2]
    clear nee
    go_upto_region 16 with fail
    have hq2:Chg [] w1 (w2.alloc (.cells #[.bool false,.slice none 0 0,.slice none 0 0] 107)):=hc2.trans ((Chg.refl [] w2).alloc _)
    clear hc2
    generalize w2.alloc (.cells #[.bool false,.slice none 0 0,.slice none 0 0] 107)=wp at hq2 ⊢
    have cR:=fdRight_at (H1.out.1.chg hq2 (by simp)) a0 HA0.out
    rw [rightT_out ini i3] at cR
    have HQ2:=Lib.hid hq2
    clear hq2 ini
    go_wp2_with fail
    refine cR.mono ?_
    clear cR
    rintro e wq ⟨rfl,hcq⟩
    have hq:=HQ2.out.trans hcq
    clear hcq HQ2
   case' inr.inr.inl =>
    go_wp2_with fail
    refine cN.mono ?_
    clear cN
    rintro e w2 (⟨d,kb,vb,hd,-⟩ | ⟨-,rfl,hc2⟩)
    ·rw [nee.1] at hd;cases hd
    rw [nee.2]
    clear nee
    go_upto_region 16 with fail
    have hq2:Chg [] w1 (w2.alloc (.cells #[.bool false,.slice none 0 0,.slice none 0 0] 107)):=hc2.trans ((Chg.refl [] w2).alloc _)
    clear hc2
    generalize w2.alloc (.cells #[.bool false,.slice none 0 0,.slice none 0 0] 107)=wp at hq2 ⊢
    have cR:=fdRight_at (H1.out.1.chg hq2 (by simp)) a0 HA0.out
    rw [rightT_out ini i3] at cR
    have HQ2:=Lib.hid hq2
    clear hq2 ini
    go_wp2_with fail
    refine cR.mono ?_
    clear cR
    rintro e wq ⟨rfl,hcq⟩
    have hq:=HQ2.out.trans hcq
    clear hcq HQ2
   all_goals
    have HQ:=Lib.hid hq
    have cG:=fGet_at (H1.out.1.chg hq (by simp)) 0 (by decide) y hy
    rw [getP_zero] at cG
    clear hq
    go_wp2_with fail
    refine cG.mono ?_
    clear cG
    rintro e w3 ⟨rfl,hc3⟩
    have H3:=Lib.hid (HQ.out.trans hc3)
    have cW:=fdWalk_at (H1.out.1.chg (HQ.out.trans hc3) (by simp)) (y:=0) (lo:=0) (hi:=y) (most:=5) (by omega) hy (by omega) (.inr (by omega)) (R:=([],0)) rfl
    clear hc3
    go_wp2_with fail
    refine cW.mono ?_
    clear cW
    rintro e w4 ⟨va,rfl,hown4,hc4⟩
    obtain ⟨aa,ca,rfl,_,_⟩:=zos hown4
    have H4:=Lib.hid (H3.out.trans hc4)
    have cH:=fHeight_at (H1.out.1.chg (H3.out.trans hc4) (by simp)) 0 (by decide)
    rw [heightP_zero] at cH
    clear hc4 hown4
    go_wp2_with fail
    refine cH.mono ?_
    clear cH
    rintro e w5 ⟨rfl,hc5⟩
    have H5:=Lib.hid (H4.out.trans hc5)
    clear hc5
    have cA:=HAW.out w5
    go_wp2_with fail
    refine cA.mono ?_
    clear cA
    rintro e w6 ⟨rfl,hc6⟩
    have H6:=Lib.hid (H5.out.trans hc6)
    clear hc6
    go_wp2_with fail
    go_ret
    exact ⟨rfl,(H1.out.2.1.trans H6.out).below (by simp)⟩
end Go.Proofs.YtkhcaclndepgbaaGreat
