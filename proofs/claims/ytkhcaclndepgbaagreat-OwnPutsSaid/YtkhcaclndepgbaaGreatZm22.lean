/- leaf.each, as Encode calls it. · leaf.Encode. · leaf.Decode: what is no node's page. -/
import Derived.Test.YtkhcaclndepgbaaGreatZm20
import Derived.Test.YtkhcaclndepgbaaGreatZm21
import Derived.Test.YtkhcaclndepgbaaGreatZm02
set_option linter.unusedVariables false
set_option linter.unusedSimpArgs false
set_option maxRecDepth 100000
set_option maxHeartbeats 20000000
namespace Go.Proofs.YtkhcaclndepgbaaGreat
open Go.RowKit
theorem each_enc {w:World} {bb g n:Nat} {leaf:Bool} {vk vv:Value} {keys vals:Nat→Nat} (hn:n≤7) (hk:NumsIn [g] w vk n keys) (hv:NumsIn [g] w vv n vals) (hbb:w.heap[bb]?=some (.cells #[.slice (some ⟨g,0,none⟩) 123 123] 22 (0,0)))
  (hb:w.heap[g]?=some (.cells (u8s 123 (bodyF n keys vals 0)) 5 (0,0))) (hne:bb≠g) :
  Calls Tryz.prog 118 #[.agg #[.bool leaf,vk,vv],.func (.func 119) #[] #[.pointer (some ⟨bb,0,none⟩)]] w fun e w' =>
   e = .returned (.tuple #[])∧w'.heap[g]?=some (.cells (u8s 123 (bodyF n keys vals n)) 5 (0,0))∧Chg [g] w w':=by
 obtain ⟨ak,ck,rfl⟩:=hk.len
 obtain ⟨av,cv,rfl⟩:=hv.len
 have hg:=zhl hb
 have hW:=(Chg.refl [] w).alloc (.cells #[.bool leaf,.slice ak n ck,.slice av n cv] 107)
 have HX:=Lib.hid (znb w (.cells #[.bool leaf,.slice ak n ck,.slice av n cv] 107))
 have HK:=Lib.hid (hk.chg hW (by simp))
 have HV:=Lib.hid (hv.chg hW (by simp))
 have HBB:=Lib.hid ((hW.block bb (zhl hbb) (by simp)).trans hbb)
 have HB:=Lib.hid ((hW.block g hg (by simp)).trans hb)
 have HW:=Lib.hid hW
 clear hk hv hbb hb hW
 go_enter Tryz.func118,Tryz.ntmps118
 go_wp2_with fail
 generalize w.alloc (.cells #[.bool leaf,.slice ak n ck,.slice av n cv] 107)=W at *
 go_loopw [8] (fun s wr=>∃ k:Nat,k≤n∧s = .int .i64 (k:Int)∧wr.heap[g]?=some (.cells (u8s 123 (bodyF n keys vals k)) 5 (0,0))∧Chg [g] W wr) (fun s _=>n - (intOf s).toNat)
 case atStart=>exact ⟨0,Nat.zero_le _,rfl,HB.out,Chg.refl _ _⟩
 case round =>
  obtain ⟨k,hk,rfl,hBk,hCk⟩:=hrel
  obtain ⟨wo,rfl⟩:∃ wo:World,wo=wr:=⟨_,rfl⟩
  have hX:=(hCk.block w.heap.size (zhl HX.out) (by simp;omega)).trans HX.out
  have hBB:=(hCk.block bb (zhl HBB.out) (by simp;omega)).trans HBB.out
  have hK:=HK.out.chg hCk (by simp)
  have hV:=HV.out.chg hCk (by simp)
  have x1:=zcb hX 1
  have x2:=zcb hX 2
  have z0:=zcb hBB 0
  simp only [List.getElem?_toArray,List.getElem?_cons_zero,List.getElem?_cons_succ] at x1 x2 z0
  have HXk:=Lib.hid hX
  have HBBk:=Lib.hid hBB
  have HBk:=Lib.hid hBk
  have HCk:=Lib.hid hCk
  clear hX hBB hBk hCk
  by_cases hlk:k<n
  ·rcases hK with ⟨_,h0⟩ | ⟨kb,ko,kc,hke,k1,k2,k3,k4,k5⟩
   ·omega
   ·rcases hV with ⟨_,h0⟩ | ⟨vb,vo,vc,hve,v1,v2,v3,v4,v5⟩
    ·omega
    ·injection hke with hke1 _ hke3
     injection hve with hve1 _ hve3
     subst hke1 hke3 hve1 hve3
     obtain ⟨kc1,kc2⟩:=k5 k hlk
     obtain ⟨vc1,vc2⟩:=v5 k hlk
     have c1:=enc1_at z0 HBk.out (1+16*k) (by omega) (by omega) kc1 kc2
     rw [show ((1+16*k:Nat):Int)=1+16*(k:Int) by omega] at c1
     have i0:(0:Int)≤(k:Int):=by omega
     have i1:(k:Int)<(n:Int):=by omega
     have hko:kb≠g:=by simpa using k4
     have hvo:vb≠g:=by simpa using v4
     have E:=Lib.hid (bodyF_step n keys vals k)
     unfold maxLen at k2 v2
     clear k5 v5 kc1 kc2
     go_wp2_with fail
     refine c1.mono ?_
     clear c1
     rintro e w3 ⟨rfl,hB3,hC3⟩
     have z3:=(hC3.cell (p:=⟨bb,0,none⟩) (zhl HBBk.out) (by simp;omega)).trans z0
     have y2:=(hC3.cell (p:=⟨w.heap.size,2,none⟩) (zhl HXk.out) (by simp;omega)).trans x2
     have vc3:=(hC3.cell (p:=⟨vb,vo+k,none⟩) v3 (by simp;omega)).trans vc1
     have c2:=enc1_at z3 hB3 (1+16*k+8) (by omega) (by omega) vc3 vc2
     rw [show ((1+16*k+8:Nat):Int)=1+16*(k:Int)+8 by omega,E.out] at c2
     have HC3:=Lib.hid (HCk.out.trans hC3)
     clear hB3 hC3 x1 x2 z0 vc1
     go_wp2_with fail
     refine c2.mono ?_
     clear c2
     rintro e w4 ⟨rfl,hB4,hC4⟩
     have HB4:=Lib.hid hB4
     have HC4:=Lib.hid (HC3.out.trans hC4)
     clear hB4 hC4
     go_wp2_with fail
     go_roundw
     case rel=>exact ⟨k+1,by omega,by go_num,HB4.out,HC4.out⟩
     case measure=>simp [intOf];omega
  ·obtain rfl:k=n:=by omega
   go_wp2_with fail
   go_end0
   exact ⟨rfl,HBk.out,(HW.out.mono (by simp)).trans HCk.out⟩
def kindL (leaf:Bool):Nat:=if leaf then 1 else 2
def pageF (leaf:Bool) (n:Nat) (keys vals:Nat→Nat):Nat→Nat:=sealP (kindL leaf) 123 (bodyF n keys vals n)
theorem enc_bad {A:List Nat} {w:World} {leaf:Bool} {vk vv:Value} {nk nv:Nat} {keys vals:Nat→Nat} (hk:NumsIn A w vk nk keys) (hv:NumsIn A w vv nv vals) (hb:rightB leaf nk nv keys vals=false) :
  Calls Tryz.prog 62 #[.agg #[.bool leaf,vk,vv]] w fun e w'=>e = .returned (.tuple #[.slice none 0 0,.int .i64 30])∧Chg [] w w':=by
 obtain ⟨ak,ck,rfl⟩:=hk.len
 obtain ⟨av,cv,rfl⟩:=hv.len
 have hW:=(Chg.refl [] w).alloc (.cells #[.bool leaf,.slice ak nk ck,.slice av nv cv] 107)
 have cR:=lfRight_at (leaf:=leaf) (hk.chg hW (by simp)) (hv.chg hW (by simp))
 rw [hb] at cR
 have HW:=Lib.hid hW
 clear hk hv hb hW
 go_enter Tryz.func62,Tryz.ntmps62
 go_wp2_with fail
 refine cR.mono ?_
 clear cR
 rintro e w1 ⟨rfl,hC1⟩
 have HC1:=Lib.hid (HW.out.trans hC1)
 clear hC1
 go_wp2_with fail
 go_ret2
 exact ⟨rfl,HC1.out⟩
theorem enc_ok {A:List Nat} {w:World} {leaf:Bool} {vk vv:Value} {nk nv:Nat} {keys vals:Nat→Nat} (hk:NumsIn A w vk nk keys) (hv:NumsIn A w vv nv vals) (hb:rightB leaf nk nv keys vals=true) :
  Calls Tryz.prog 62 #[.agg #[.bool leaf,vk,vv]] w fun e w'=>∃ g,e = .returned (.tuple #[.slice (some ⟨g,0,none⟩) 128 128,.int .i64 0])∧w.heap.size≤g∧w'.heap[g]?=some (.cells (u8s 128 (pageF leaf nk keys vals)) 5 (0,0))∧Chg [] w w':=by
 have hrt:nk≤7∧nv=nk:=by
  unfold rightB at hb
  simp only [Bool.and_eq_true,decide_eq_true_eq] at hb
  exact ⟨hb.1,hb.2.1⟩
 obtain ⟨h7,rfl⟩:=hrt
 obtain ⟨ak,ck,rfl⟩:=hk.len
 obtain ⟨av,cv,rfl⟩:=hv.len
 have hmk:∀ w:World,(Instr.makeSlice 22 (.int .i64 123) (.int .i64 123)).run Tryz.prog w = .ok (.slice (some ⟨w.heap.size,0,none⟩) 123 123) (w.alloc (.cells (zrow 123 (.int .u8 0)) 5)):=run_make1 (P:=Tryz.prog) 22 5 Tryz.underlying22 infoU8 rfl .i64 .i64 123 (by omega) (by omega)
 have z0:(zrow 123 (.int .u8 0))[0]?=some (.int .u8 0):=by simp [zrow]
 have hW:=(Chg.refl [] w).alloc (.cells #[.bool leaf,.slice ak nv ck,.slice av nv cv] 107)
 have HX:=Lib.hid (znb w (.cells #[.bool leaf,.slice ak nv ck,.slice av nv cv] 107))
 have hK:=hk.chg hW (by simp)
 have hV:=hv.chg hW (by simp)
 have cR:=lfRight_at (leaf:=leaf) hK hV
 rw [hb] at cR
 have HK:=Lib.hid hK
 have HV:=Lib.hid hV
 have HW:=Lib.hid hW
 clear hk hv hb hW hK hV
 go_enter Tryz.func62,Tryz.ntmps62
 go_wp2_with fail
 refine cR.mono ?_
 clear cR
 rintro e w1 ⟨rfl,hC1⟩
 have X1:=Lib.hid ((hC1.block w.heap.size (zhl HX.out) (by simp)).trans HX.out)
 have K1:=Lib.hid (HK.out.chg hC1 (by simp))
 have V1:=Lib.hid (HV.out.chg hC1 (by simp))
 have C1:=Lib.hid (HW.out.trans hC1)
 have x0:=zcb X1.out 0
 have x1:=zcb X1.out 1
 have x2:=zcb X1.out 2
 have lx:=zhl X1.out
 simp only [List.getElem?_toArray,List.getElem?_cons_zero,List.getElem?_cons_succ] at x0 x1 x2
 have hu:IntKind.u8.wrap (nv:Int)=(nv:Int):=by simp [IntKind.wrap,IntKind.signed,IntKind.bits];omega
 clear hC1 HX HK HV HW
 go_wp2_with fail
 have hA2:Chg [] w1 ((w1.alloc (.cells ((zrow 123 (.int .u8 0)).setIfInBounds 0 (.int .u8 (nv:Int))) 5)).alloc (.cells #[.slice (some ⟨w1.heap.size,0,none⟩) 123 123] 22)):=((Chg.refl _ _).alloc _).alloc _
 have hb0:bodyF nv keys vals 0=fun j=>if j=0 then nv else 0:=by
  funext j
  unfold bodyF
  by_cases e:j=0
  ·rw [if_pos e,if_pos e]
  ·rw [if_neg e,if_neg e,if_neg (by omega)]
 have hg:((w1.alloc (.cells ((zrow 123 (.int .u8 0)).setIfInBounds 0 (.int .u8 (nv:Int))) 5)).alloc (.cells #[.slice (some ⟨w1.heap.size,0,none⟩) 123 123] 22)).heap[w1.heap.size]?=some (.cells (u8s 123 (bodyF nv keys vals 0)) 5 (0,0)):=by
  rw [znd,zrow_u8s,hb0]
  have:=u8s_set (n:=123) (f:=fun _=>0) (i:=0) (v:=nv) (by omega)
  rw [this]
 have hbb:=znc w1 (.cells ((zrow 123 (.int .u8 0)).setIfInBounds 0 (.int .u8 (nv:Int))) 5) (.cells #[.slice (some ⟨w1.heap.size,0,none⟩) 123 123] 22)
 have K2:=(K1.out.more (B:=[w1.heap.size]) (by simp)).chg hA2 (by simp)
 have V2:=(V1.out.more (B:=[w1.heap.size]) (by simp)).chg hA2 (by simp)
 have X2:=Lib.hid ((hA2.block w.heap.size lx (by simp)).trans X1.out)
 have C2:=Lib.hid (C1.out.trans hA2)
 have HBB:=Lib.hid hbb
 have s1:=C1.out.size
 refine (each_enc (leaf:=leaf) h7 K2 V2 hbb hg (by omega)).mono ?_
 clear hA2 hb0 hg hbb K2 V2 x0 x1 x2 hmk z0
 rintro e w3 ⟨rfl,hB3,hC3⟩
 have X3:=(hC3.block w.heap.size (zhl X2.out) (by simp;omega)).trans X2.out
 have BB3:=(hC3.block (w1.heap.size+1) (zhl HBB.out) (by simp)).trans HBB.out
 have x0:=zcb X3 0
 have y0:=zcb BB3 0
 simp only [List.getElem?_toArray,List.getElem?_cons_zero,List.getElem?_cons_succ] at x0 y0
 have HB3:=Lib.hid hB3
 have C3:=Lib.hid (C2.out.then hC3 (by simp;exact s1))
 have hbytes:BytesIn w3 (some ⟨w1.heap.size,0,none⟩) 123 123 (bodyF nv keys vals nv):=by
  refine ⟨Nat.le_refl _,by unfold maxLen;omega,(fun h=>by cases h),fun b hb _=>?_⟩
  injection hb with hb
  subst hb
  refine ⟨w1.heap.size,0,rfl,?_⟩
  have:=BytesAt.of_block HB3.out (fun i _=>bodyF_le keys vals nv i (by omega)) (off:=0) (n:=123) (by omega)
  simp only [Nat.zero_add] at this
  exact this
 have HBy:=Lib.hid hbytes
 have s3:=C3.out.size
 clear hB3 hC3 X3 BB3 hbytes
 cases leaf with
 | true =>
  go_wp2_with fail
  refine (seal_at HBy.out (by omega) 1 (by omega)).mono ?_
  rintro e w4 ⟨rfl,hB4,hC4⟩
  have HE:=Lib.hid (And.intro hB4 (C3.out.trans hC4))
  clear hB4 hC4
  go_wp2_with fail
  go_ret2
  exact ⟨w3.heap.size,rfl,s3,HE.out.1,HE.out.2⟩
 | false =>
  go_wp2_with fail
  refine (seal_at HBy.out (by omega) 2 (by omega)).mono ?_
  rintro e w4 ⟨rfl,hB4,hC4⟩
  have HE:=Lib.hid (And.intro hB4 (C3.out.trans hC4))
  clear hB4 hC4
  go_wp2_with fail
  go_ret2
  exact ⟨w3.heap.size,rfl,s3,HE.out.1,HE.out.2⟩
def DecBad (w:World) (e:Ending) (w':World):Prop:=e = .returned (.tuple #[.agg #[.bool false,.slice none 0 0,.slice none 0 0],.int .i64 30])∧Chg [] w w'
theorem dbl {w:World} {o:Obj} {w1:World} (h:Chg [] (w.alloc o) w1):w.heap.size<w1.heap.size∧w1.heap[w.heap.size]?=some o :=
 ⟨by have:=h.size;rw [size_alloc'] at this;omega,(h.block _ (by simp) (by simp)).trans (znb w o)⟩
theorem chg3 {w w1:World} (h:Chg [] w w1) (a b c:Value):Chg [] w (((w1.setCell ⟨w.heap.size,0,none⟩ a).setCell ⟨w.heap.size,1,none⟩ b).setCell ⟨w.heap.size,2,none⟩ c) :=
 ((h.setCell (.inr (Nat.le_refl _)) _).setCell (.inr (Nat.le_refl _)) _).setCell (.inr (Nat.le_refl _)) _
theorem dec_len {w:World} {a:Option Addr} {n cap:Nat} (hn:n≠128):Calls Tryz.prog 116 #[.slice a n cap] w (DecBad w):=by
 have cO:=fun w:World=>open_len (w:=w) (a:=a) (cap:=cap) hn
 clear hn
 go_enter Tryz.func116,Tryz.ntmps116
 go_wp2_with fail
 refine (cO _).mono ?_
 rintro e w' ⟨rfl,rfl⟩
 clear cO
 go_wp2_with fail
 exact bodyPost_ret (v := .tuple #[.agg #[.bool false,.slice none 0 0,.slice none 0 0],.int .i64 30]) (by simp [results,Tryz.results116,go_sem]) rfl ⟨rfl,((Chg.refl _ _).alloc _).alloc _⟩
section
variable {w:World} {b off cap:Nat} {f:Nat→Nat} (h:BytesAt w b off 128 f) (hcap:128≤cap) (hN:cap≤9223372036854775807)
include h hcap hN
theorem dec_sum (hp:¬ pageOK f):Calls Tryz.prog 116 #[.slice (some ⟨b,off,none⟩) 128 cap] w (DecBad w):=by
 have hW:=(Chg.refl [] w).alloc (.cells #[.bool false,.slice none 0 0,.slice none 0 0] 107)
 have cO:=open_wrong (h.chg hW (by simp)) hcap hN hp
 have HW:=Lib.hid hW
 clear h hp hW
 go_enter Tryz.func116,Tryz.ntmps116
 go_wp2_with fail
 refine cO.mono ?_
 clear cO
 rintro e w1 ⟨rfl,hC1⟩
 obtain ⟨l1,hX⟩:=dbl hC1
 have HC1:=Lib.hid (HW.out.trans hC1)
 have x0:=zcb hX 0
 have x1:=zcb hX 1
 have x2:=zcb hX 2
 have y0:=zfb hX 0
 have y1:=zfb hX 1
 have y2:=zfb hX 2
 simp only [List.getElem?_toArray,List.getElem?_cons_zero,List.getElem?_cons_succ] at x0 x1 x2
 clear hX hC1
 go_wp2_with fail
 exact bodyPost_ret (v := .tuple #[.agg #[.bool false,.slice none 0 0,.slice none 0 0],.int .i64 30]) (by simp [results,Tryz.results116,go_sem,l1,x0,x1,x2]) rfl ⟨rfl,(chg3 HC1.out _ _ _).alloc _⟩
theorem dec_kind (hp:pageOK f) (hk:f 0≠1∧f 0≠2):Calls Tryz.prog 116 #[.slice (some ⟨b,off,none⟩) 128 cap] w (DecBad w):=by
 have hW:=(Chg.refl [] w).alloc (.cells #[.bool false,.slice none 0 0,.slice none 0 0] 107)
 have cO:=open_right (h.chg hW (by simp)) hcap hN hp
 have k1:((f 0:Int) != 1)=true:=by simp;omega
 have k2:((f 0:Int) != 2)=true:=by simp;omega
 have HW:=Lib.hid hW
 clear h hp hW hk
 go_enter Tryz.func116,Tryz.ntmps116
 go_wp2_with fail
 refine cO.mono ?_
 clear cO
 rintro e w1 ⟨g,c,rfl,r1,r2,r3,r4,r5,hC1⟩
 obtain ⟨l1,hX⟩:=dbl hC1
 have HC1:=Lib.hid (HW.out.trans hC1)
 have x0:=zcb hX 0
 have x1:=zcb hX 1
 have x2:=zcb hX 2
 have y0:=zfb hX 0
 have y1:=zfb hX 1
 have y2:=zfb hX 2
 simp only [List.getElem?_toArray,List.getElem?_cons_zero,List.getElem?_cons_succ] at x0 x1 x2
 clear hX hC1 r5
 go_wp2_with fail
 exact bodyPost_ret (v := .tuple #[.agg #[.bool false,.slice none 0 0,.slice none 0 0],.int .i64 30]) (by simp [results,Tryz.results116,go_sem,l1,x0,x1,x2]) rfl ⟨rfl,(chg3 HC1.out _ _ _).alloc _⟩
theorem dec_many (hp:pageOK f) (hk:f 0=1∨f 0=2) (hm:7<f 1):Calls Tryz.prog 116 #[.slice (some ⟨b,off,none⟩) 128 cap] w (DecBad w):=by
 have hW:=(Chg.refl [] w).alloc (.cells #[.bool false,.slice none 0 0,.slice none 0 0] 107)
 have cO:=open_right (h.chg hW (by simp)) hcap hN hp
 have HW:=Lib.hid hW
 have m1:(7:Int)<(f 1:Int):=by omega
 clear h hp hW hm
 rcases hk with hk | hk
 case' inl=>have k1:((f 0:Int) != 1)=false:=by simp;omega
 case' inr =>
  have k1:((f 0:Int) != 1)=true:=by simp;omega
  have k2:((f 0:Int) != 2)=false:=by simp;omega
 all_goals
  clear hk
  go_enter Tryz.func116,Tryz.ntmps116
  go_wp2_with fail
  refine cO.mono ?_
  clear cO
  rintro e w1 ⟨g,c,rfl,r1,r2,r3,r4,r5,hC1⟩
  obtain ⟨l1,hX⟩:=dbl hC1
  have HC1:=Lib.hid (HW.out.trans hC1)
  have x0:=zcb hX 0
  have x1:=zcb hX 1
  have x2:=zcb hX 2
  have y0:=zfb hX 0
  have y1:=zfb hX 1
  have y2:=zfb hX 2
  have z0:=(r5 0 (by omega)).1
  simp only [List.getElem?_toArray,List.getElem?_cons_zero,List.getElem?_cons_succ,Nat.add_zero] at x0 x1 x2 z0
  clear hX hC1 r5
  go_wp2_with fail
  exact bodyPost_ret (v := .tuple #[.agg #[.bool false,.slice none 0 0,.slice none 0 0],.int .i64 30]) (by simp [results,Tryz.results116,go_sem,l1,x0,x1,x2]) rfl ⟨rfl,(chg3 HC1.out _ _ _).alloc _⟩
end
end Go.Proofs.YtkhcaclndepgbaaGreat
