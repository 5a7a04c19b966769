/- leaf.Encode. · leaf.Decode: what is no node's page. · leaf.Decode: a page that is right so far. -/
import Derived.Test.YtkhcaclndepgbaaGreatZn20
set_option linter.unusedVariables false
set_option linter.unusedSimpArgs false
set_option maxRecDepth 100000
set_option maxHeartbeats 20000000
namespace Go.Proofs.YtkhcaclndepgbaaGreat
open Go.RowKit
def kindL (leaf:Bool):Nat:=if leaf then 1 else 2
def pageF (leaf:Bool) (n:Nat) (keys vals:Nat->Nat):Nat->Nat:=sealP (kindL leaf) 123 (bodyF n keys vals n)
theorem enc_bad {A:List Nat} {w:World} {leaf:Bool} {vk vv:Value} {nk nv:Nat} {keys vals:Nat->Nat} (hk:NumsIn A w vk nk keys) (hv:NumsIn A w vv nv vals) (hb:rightB leaf nk nv keys vals=false) :
  Calls Tryz.prog 62 #[.agg #[.bool leaf,vk,vv]] w fun e w'=>e = .returned (.tuple #[.slice none 0 0,.int .i64 30])/\Chg [] w w':=by
 obtain ⟨ak,ck,rfl⟩:=hk.len;obtain ⟨av,cv,rfl⟩:=hv.len;have hW:=(Chg.refl [] w).alloc (.cells #[.bool leaf,.slice ak nk ck,.slice av nv cv] 107);have cR:=lfRight_at (leaf:=leaf) (hk.chg hW (by simp)) (hv.chg hW (by simp));rw [hb] at cR;have HW:=zh hW;clear hk hv hb hW;go_enter Tryz.func62,Tryz.ntmps62;go_wp2_with fail;refine cR.mono ?_;clear cR;rintro e w1 ⟨rfl,hC1⟩;have HC1:=zh (HW.out.trans hC1);clear hC1;go_wp2_with fail
 go_ret2
 exact ⟨rfl,HC1.out⟩
theorem enc_ok {A:List Nat} {w:World} {leaf:Bool} {vk vv:Value} {nk nv:Nat} {keys vals:Nat->Nat} (hk:NumsIn A w vk nk keys) (hv:NumsIn A w vv nv vals) (hb:rightB leaf nk nv keys vals=true) :
  Calls Tryz.prog 62 #[.agg #[.bool leaf,vk,vv]] w fun e w'=>∃ g,e = .returned (.tuple #[.slice (some ⟨g,0,none⟩) 128 128,.int .i64 0])/\w.heap.size<=g/\w'.heap[g]?=some (.cells (u8s 128 (pageF leaf nk keys vals)) 5 (0,0))/\Chg [] w w':=by
 have hrt:nk<=7/\nv=nk:=by
  unfold rightB at hb;simp only [Bool.and_eq_true,decide_eq_true_eq] at hb;exact ⟨hb.1,hb.2.1⟩
 obtain ⟨h7,rfl⟩:=hrt;obtain ⟨ak,ck,rfl⟩:=hk.len;obtain ⟨av,cv,rfl⟩:=hv.len;have hmk:∀ w:World,(Instr.makeSlice 22 (.int .i64 123) (.int .i64 123)).run Tryz.prog w = .ok (.slice (some ⟨w.heap.size,0,none⟩) 123 123) (w.alloc (.cells (zrow 123 (.int .u8 0)) 5)):=run_make1 (P:=Tryz.prog) 22 5 Tryz.underlying22 infoU8 rfl .i64 .i64 123 (by omega) (by omega);have z0:(zrow 123 (.int .u8 0))[0]?=some (.int .u8 0):=by simp [zrow]
 have hW:=(Chg.refl [] w).alloc (.cells #[.bool leaf,.slice ak nv ck,.slice av nv cv] 107);have HX:=zh (znb w (.cells #[.bool leaf,.slice ak nv ck,.slice av nv cv] 107));have hK:=hk.chg hW (by simp);have hV:=hv.chg hW (by simp);have cR:=lfRight_at (leaf:=leaf) hK hV;rw [hb] at cR;have HK:=zh hK;have HV:=zh hV;have HW:=zh hW;clear hk hv hb hW hK hV;go_enter Tryz.func62,Tryz.ntmps62;go_wp2_with fail;refine cR.mono ?_;clear cR;rintro e w1 ⟨rfl,hC1⟩;have X1:=zh ((hC1.block w.heap.size (zhl HX.out) (by simp)).trans HX.out);have K1:=zh (HK.out.chg hC1 (by simp));have V1:=zh (HV.out.chg hC1 (by simp));have C1:=zh (HW.out.trans hC1);have x0:=zcb X1.out 0;have x1:=zcb X1.out 1;have x2:=zcb X1.out 2;have lx:=zhl X1.out;simp only [tA1,tA3,tA2] at x0 x1 x2;have hu:IntKind.u8.wrap (nv:Int)=(nv:Int):=by simp [IntKind.wrap,IntKind.signed,IntKind.bits];omega
 clear hC1 HX HK HV HW;go_wp2_with fail;have hA2:Chg [] w1 ((w1.alloc (.cells ((zrow 123 (.int .u8 0)).setIfInBounds 0 (.int .u8 (nv:Int))) 5)).alloc (.cells #[.slice (some ⟨w1.heap.size,0,none⟩) 123 123] 22)):=((Chg.refl _ _).alloc _).alloc _
 have hb0:bodyF nv keys vals 0=fun j=>if j=0 then nv else 0:=by
  funext j
  unfold bodyF;by_cases e:j=0
  ·rw [if_pos e,if_pos e]
  ·rw [if_neg e,if_neg e,if_neg (by omega)]
 have hg:((w1.alloc (.cells ((zrow 123 (.int .u8 0)).setIfInBounds 0 (.int .u8 (nv:Int))) 5)).alloc (.cells #[.slice (some ⟨w1.heap.size,0,none⟩) 123 123] 22)).heap[w1.heap.size]?=some (.cells (u8s 123 (bodyF nv keys vals 0)) 5 (0,0)):=by
  rw [znd,zrow_u8s,hb0];have:=u8s_set (n:=123) (f:=fun _=>0) (i:=0) (v:=nv) (by omega);rw [this]
 have hbb:=znc w1 (.cells ((zrow 123 (.int .u8 0)).setIfInBounds 0 (.int .u8 (nv:Int))) 5) (.cells #[.slice (some ⟨w1.heap.size,0,none⟩) 123 123] 22);have K2:=(K1.out.more (B:=[w1.heap.size]) (by simp)).chg hA2 (by simp);have V2:=(V1.out.more (B:=[w1.heap.size]) (by simp)).chg hA2 (by simp);have X2:=zh ((hA2.block w.heap.size lx (by simp)).trans X1.out);have C2:=zh (C1.out.trans hA2);have HBB:=zh hbb;have s1:=C1.out.size;refine (each_enc (leaf:=leaf) h7 K2 V2 hbb hg (by omega)).mono ?_;clear hA2 hb0 hg hbb K2 V2 x0 x1 x2 hmk z0;rintro e w3 ⟨rfl,hB3,hC3⟩;have X3:=(hC3.block w.heap.size (zhl X2.out) (by simp;omega)).trans X2.out;have BB3:=(hC3.block (w1.heap.size+1) (zhl HBB.out) (by simp)).trans HBB.out;have x0:=zcb X3 0;have y0:=zcb BB3 0;simp only [tA1,tA3,tA2] at x0 y0;have HB3:=zh hB3;have C3:=zh (C2.out.then hC3 (by simp;exact s1))
 have hbytes:BytesIn w3 (some ⟨w1.heap.size,0,none⟩) 123 123 (bodyF nv keys vals nv):=by
  refine ⟨zLr _,by unfold maxLen;omega,(fun h=>by cases h),fun b hb _=>?_⟩;injection hb with hb;subst hb;refine ⟨w1.heap.size,0,rfl,?_⟩;have:=BytesAt.of_block HB3.out (fun i _=>bodyF_le keys vals nv i (by omega)) (off:=0) (n:=123) (by omega);simp only [Nat.zero_add] at this;exact this
 have HBy:=zh hbytes;have s3:=C3.out.size;clear hB3 hC3 X3 BB3 hbytes
 cases leaf with
 | true =>
  go_wp2_with fail;refine (seal_at HBy.out (by omega) 1 (by omega)).mono ?_;rintro e w4 ⟨rfl,hB4,hC4⟩;have HE:=zh (zA hB4 (C3.out.trans hC4));clear hB4 hC4;go_wp2_with fail
  go_ret2
  exact ⟨w3.heap.size,rfl,s3,HE.out.1,HE.out.2⟩
 | false =>
  go_wp2_with fail;refine (seal_at HBy.out (by omega) 2 (by omega)).mono ?_;rintro e w4 ⟨rfl,hB4,hC4⟩;have HE:=zh (zA hB4 (C3.out.trans hC4));clear hB4 hC4;go_wp2_with fail
  go_ret2
  exact ⟨w3.heap.size,rfl,s3,HE.out.1,HE.out.2⟩
def DecBad (w:World) (e:Ending) (w':World):Prop:=e = .returned (.tuple #[.agg #[.bool false,.slice none 0 0,.slice none 0 0],.int .i64 30])/\Chg [] w w'
theorem dbl {w:World} {o:Obj} {w1:World} (h:Chg [] (w.alloc o) w1):w.heap.size<w1.heap.size/\w1.heap[w.heap.size]?=some o :=
 ⟨by have:=h.size;rw [size_alloc'] at this;omega,(h.block _ (by simp) (by simp)).trans (znb w o)⟩
theorem chg3 {w w1:World} (h:Chg [] w w1) (a b c:Value):Chg [] w (((w1.setCell ⟨w.heap.size,0,none⟩ a).setCell ⟨w.heap.size,1,none⟩ b).setCell ⟨w.heap.size,2,none⟩ c) :=
 ((h.setCell (.inr (zLr _)) _).setCell (.inr (zLr _)) _).setCell (.inr (zLr _)) _
theorem dec_len {w:World} {a:Option Addr} {n cap:Nat} (hn:n≠128):Calls Tryz.prog 116 #[.slice a n cap] w (DecBad w):=by
 have cO:=fun w:World=>open_len (w:=w) (a:=a) (cap:=cap) hn;clear hn;go_enter Tryz.func116,Tryz.ntmps116;go_wp2_with fail;refine (cO _).mono ?_;rintro e w' ⟨rfl,rfl⟩;clear cO;go_wp2_with fail;exact bodyPost_ret (v := .tuple #[.agg #[.bool false,.slice none 0 0,.slice none 0 0],.int .i64 30]) (by simp [results,Tryz.results116,go_sem]) rfl ⟨rfl,((Chg.refl _ _).alloc _).alloc _⟩
section
variable {w:World} {b off cap:Nat} {f:Nat->Nat} (h:BytesAt w b off 128 f) (hcap:128<=cap) (hN:cap<=9223372036854775807)
include h hcap hN
theorem dec_sum (hp:¬ pageOK f):Calls Tryz.prog 116 #[.slice (some ⟨b,off,none⟩) 128 cap] w (DecBad w):=by
 have hW:=(Chg.refl [] w).alloc (.cells #[.bool false,.slice none 0 0,.slice none 0 0] 107);have cO:=open_wrong (h.chg hW (by simp)) hcap hN hp;have HW:=zh hW;clear h hp hW;go_enter Tryz.func116,Tryz.ntmps116;go_wp2_with fail;refine cO.mono ?_;clear cO;rintro e w1 ⟨rfl,hC1⟩;obtain ⟨l1,hX⟩:=dbl hC1;have HC1:=zh (HW.out.trans hC1);have x0:=zcb hX 0;have x1:=zcb hX 1;have x2:=zcb hX 2;have y0:=zfb hX 0;have y1:=zfb hX 1;have y2:=zfb hX 2;simp only [tA1,tA3,tA2] at x0 x1 x2;clear hX hC1;go_wp2_with fail;exact bodyPost_ret (v := .tuple #[.agg #[.bool false,.slice none 0 0,.slice none 0 0],.int .i64 30]) (by simp [results,Tryz.results116,go_sem,l1,x0,x1,x2]) rfl ⟨rfl,(chg3 HC1.out _ _ _).alloc _⟩
theorem dec_kind (hp:pageOK f) (hk:f 0≠1/\f 0≠2):Calls Tryz.prog 116 #[.slice (some ⟨b,off,none⟩) 128 cap] w (DecBad w):=by
 have hW:=(Chg.refl [] w).alloc (.cells #[.bool false,.slice none 0 0,.slice none 0 0] 107);have cO:=open_right (h.chg hW (by simp)) hcap hN hp;have k1:((f 0:Int) != 1)=true:=by simp;omega
 have k2:((f 0:Int) != 2)=true:=by simp;omega
 have HW:=zh hW;clear h hp hW hk;go_enter Tryz.func116,Tryz.ntmps116;go_wp2_with fail;refine cO.mono ?_;clear cO;rintro e w1 ⟨g,c,rfl,r1,r2,r3,r4,r5,hC1⟩;obtain ⟨l1,hX⟩:=dbl hC1;have HC1:=zh (HW.out.trans hC1);have x0:=zcb hX 0;have x1:=zcb hX 1;have x2:=zcb hX 2;have y0:=zfb hX 0;have y1:=zfb hX 1;have y2:=zfb hX 2;simp only [tA1,tA3,tA2] at x0 x1 x2;clear hX hC1 r5;go_wp2_with fail;exact bodyPost_ret (v := .tuple #[.agg #[.bool false,.slice none 0 0,.slice none 0 0],.int .i64 30]) (by simp [results,Tryz.results116,go_sem,l1,x0,x1,x2]) rfl ⟨rfl,(chg3 HC1.out _ _ _).alloc _⟩
theorem dec_many (hp:pageOK f) (hk:f 0=1∨f 0=2) (hm:7<f 1):Calls Tryz.prog 116 #[.slice (some ⟨b,off,none⟩) 128 cap] w (DecBad w):=by
 have hW:=(Chg.refl [] w).alloc (.cells #[.bool false,.slice none 0 0,.slice none 0 0] 107);have cO:=open_right (h.chg hW (by simp)) hcap hN hp;have HW:=zh hW;have m1:(7:Int)<(f 1:Int):=by omega
 clear h hp hW hm;rcases hk with hk | hk
 case' inl=>have k1:((f 0:Int) != 1)=false:=by simp;omega
 case' inr =>
  have k1:((f 0:Int) != 1)=true:=by simp;omega
  have k2:((f 0:Int) != 2)=false:=by simp;omega
 all_goals
  clear hk;go_enter Tryz.func116,Tryz.ntmps116;go_wp2_with fail;refine cO.mono ?_;clear cO;rintro e w1 ⟨g,c,rfl,r1,r2,r3,r4,r5,hC1⟩;obtain ⟨l1,hX⟩:=dbl hC1;have HC1:=zh (HW.out.trans hC1);have x0:=zcb hX 0;have x1:=zcb hX 1;have x2:=zcb hX 2;have y0:=zfb hX 0;have y1:=zfb hX 1;have y2:=zfb hX 2;have z0:=(r5 0 (by omega)).1;simp only [tA1,tA3,tA2,Nat.add_zero] at x0 x1 x2 z0;clear hX hC1 r5;go_wp2_with fail;exact bodyPost_ret (v := .tuple #[.agg #[.bool false,.slice none 0 0,.slice none 0 0],.int .i64 30]) (by simp [results,Tryz.results116,go_sem,l1,x0,x1,x2]) rfl ⟨rfl,(chg3 HC1.out _ _ _).alloc _⟩
end
structure DecMid (w W:World) (leaf:Bool) (n g c:Nat) (f:Nat->Nat) (b off:Nat) (h:Nat->Nat) (kb vb nb bb:Nat):Prop where
 hX:W.heap[w.heap.size]?=some (.cells #[.bool false,.slice none 0 0,.slice none 0 0] 107 (0,0))
 hB:W.heap[bb]?=some (.cells #[.slice (some ⟨g,0,none⟩) 123 c] 22 (0,0))
 hN:W.heap[nb]?=some (.cells #[.bool leaf,.slice (some ⟨kb,0,none⟩) n n,.slice (some ⟨vb,0,none⟩) n n] 107 (0,0))
 hK:Row64 W kb n (fun _=>0)
 hV:Row64 W vb n (fun _=>0)
 hG:BytesAt W g 0 123 f
 hP:BytesAt W b off 128 h
 C:Chg [] w W
 dX:w.heap.size<kb/\w.heap.size<vb/\w.heap.size<nb/\w.heap.size<bb/\w.heap.size<g
 d1:kb≠vb
 d2:kb≠bb
 d3:vb≠bb
 d4:kb≠g
 d5:vb≠g
 d6:kb≠nb
 d7:vb≠nb
 d8:b<w.heap.size
 lg:g<W.heap.size
theorem row_zeroL {w:World} {n g:Nat} (h:w.heap[g]?=some (.cells (zrow n (.int .u64 0)) 44 (0,0))):Row64 w g n (fun _=>0) :=
 ⟨fun i hi=>⟨by rw [zcb h];simp [zrow,hi],by omega⟩,_,h⟩
theorem alloc4 (w:World) (a b c d:Obj):((((w.alloc a).alloc b).alloc c).alloc d).heap[w.heap.size]?=some a/\((((w.alloc a).alloc b).alloc c).alloc d).heap[w.heap.size+1]?=some b /\
  ((((w.alloc a).alloc b).alloc c).alloc d).heap[w.heap.size+1+1]?=some c/\((((w.alloc a).alloc b).alloc c).alloc d).heap[w.heap.size+1+1+1]?=some d:=by
 refine ⟨?_,?_,?_,?_⟩
 ·rw [Below.heap_alloc _ _ _ (by simp only [size_alloc'];omega),Below.heap_alloc _ _ _ (by simp only [size_alloc'];omega),znd]
 ·rw [Below.heap_alloc _ _ _ (by simp only [size_alloc'];omega),Below.heap_alloc _ _ _ (by simp only [size_alloc'];omega),znc]
 ·rw [Below.heap_alloc _ _ _ (by simp only [size_alloc'];omega)]
  have:=znc (w.alloc a) b c;simpa only [size_alloc'] using this
 ·have:=znb (((w.alloc a).alloc b).alloc c) d
  simpa only [size_alloc'] using this
theorem ord123 (s:Nat):s<s+1/\s<s+1+1/\s<s+1+1+1/\s+1≠s+1+1/\s+1≠s+1+1+1/\s+1+1≠s+1+1+1:=by omega
theorem ord132 (s:Nat):s<s+1/\s<s+1+1+1/\s<s+1+1/\s+1≠s+1+1+1/\s+1≠s+1+1/\s+1+1+1≠s+1+1:=by omega
theorem ord213 (s:Nat):s<s+1+1/\s<s+1/\s<s+1+1+1/\s+1+1≠s+1/\s+1+1≠s+1+1+1/\s+1≠s+1+1+1:=by omega
theorem ord231 (s:Nat):s<s+1+1/\s<s+1+1+1/\s<s+1/\s+1+1≠s+1+1+1/\s+1+1≠s+1/\s+1+1+1≠s+1:=by omega
theorem ord312 (s:Nat):s<s+1+1+1/\s<s+1/\s<s+1+1/\s+1+1+1≠s+1/\s+1+1+1≠s+1+1/\s+1≠s+1+1:=by omega
theorem ord321 (s:Nat):s<s+1+1+1/\s<s+1+1/\s<s+1/\s+1+1+1≠s+1+1/\s+1+1+1≠s+1/\s+1+1≠s+1:=by omega
theorem dec_mid {w w1 W:World} {leaf:Bool} {n g c:Nat} {f h:Nat->Nat} {b off:Nat} (C:Chg [] w w1) (hX:w1.heap[w.heap.size]?=some (.cells #[.bool false,.slice none 0 0,.slice none 0 0] 107 (0,0)))
  (hG:BytesAt w1 g 0 123 f) (lg:g<w1.heap.size) (lg2:w.heap.size+1<=g) (hP:BytesAt w1 b off 128 h) (d8:b<w.heap.size) (hc:Chg [] w1 W) (kb vb nb:Nat)
  (hB:W.heap[w1.heap.size]?=some (.cells #[.slice (some ⟨g,0,none⟩) 123 c] 22 (0,0)))
  (hK:W.heap[kb]?=some (.cells (zrow n (.int .u64 0)) 44 (0,0))) (hV:W.heap[vb]?=some (.cells (zrow n (.int .u64 0)) 44 (0,0)))
  (hN:W.heap[nb]?=some (.cells #[.bool leaf,.slice (some ⟨kb,0,none⟩) n n,.slice (some ⟨vb,0,none⟩) n n] 107 (0,0)))
  (hs:w1.heap.size<kb/\w1.heap.size<vb/\w1.heap.size<nb/\kb≠vb/\kb≠nb/\vb≠nb) :
  DecMid w W leaf n g c f b off h kb vb nb w1.heap.size:=by
 have l1:=zhl hX;exact ⟨(hc.block _ l1 (by simp)).trans hX,hB,hN,row_zeroL hK,row_zeroL hV,hG.chg hc (by simp),hP.chg hc (by simp),C.trans hc,by omega,by omega,by omega,by omega,by omega,by omega,by omega,by omega,d8,zLl lg hc.size⟩
theorem DecMid.drew {w W:World} {leaf:Bool} {n g c:Nat} {f:Nat->Nat} {b off:Nat} {h:Nat->Nat} {kb vb nb bb:Nat} (M:DecMid w W leaf n g c f b off h kb vb nb bb):DecMid w W.drew leaf n g c f b off h kb vb nb bb :=
 ⟨M.hX,M.hB,M.hN,M.hK.chg (Chg.drew (Chg.refl [] _)) (by simp),M.hV.chg (Chg.drew (Chg.refl [] _)) (by simp),M.hG.chg (Chg.drew (Chg.refl [] _)) (by simp),M.hP.chg (Chg.drew (Chg.refl [] _)) (by simp),M.C.drew,M.dX,M.d1,M.d2,M.d3,M.d4,M.d5,M.d6,M.d7,M.d8,M.lg⟩
def pkey (f:Nat->Nat):Nat->Nat:=keyF (fun i=>f (1+i)) (f 1)
def pval (f:Nat->Nat):Nat->Nat:=valF (fun i=>f (1+i)) (f 1)
def DecOk (w:World) (leaf:Bool) (f:Nat->Nat) (e:Ending) (w':World):Prop :=
 ∃ kb vb,e = .returned (.tuple #[.agg #[.bool leaf,.slice (some ⟨kb,0,none⟩) (f 1) (f 1),.slice (some ⟨vb,0,none⟩) (f 1) (f 1)],.int .i64 0]) /\
  w.heap.size<=kb/\w.heap.size<=vb/\kb≠vb/\Row64 w' kb (f 1) (pkey f)/\Row64 w' vb (f 1) (pval f)/\Chg [] w w'
def DecEnd (w:World) (leaf:Bool) (f:Nat->Nat) (b:Bool) (e:Ending) (w':World):Prop:=if b then DecOk w leaf f e w' else DecBad w e w'
theorem dec_neg {w w':World} {leaf:Bool} {f:Nat->Nat} {b:Bool} {e:Ending} (h:b=false) (k:DecBad w e w'):DecEnd w leaf f b e w':=by subst h;exact k
theorem dec_pos {w w':World} {leaf:Bool} {f:Nat->Nat} {b:Bool} {e:Ending} (h:b=true) (k:DecOk w leaf f e w'):DecEnd w leaf f b e w':=by subst h;exact k
theorem keyF_zero (f:Nat->Nat):keyF f 0=fun _=>0:=by funext j;simp [keyF]
theorem valF_zero (f:Nat->Nat):valF f 0=fun _=>0:=by funext j;simp [valF]
theorem of_block_in {w:World} {g n:Nat} {f:Nat->Nat} (h:w.heap[g]?=some (.cells (u8s n f) 5 (0,0))) (hf:∀ i,i<n->f i<=255) (hn:n<=maxLen:=by unfold maxLen;omega):BytesIn w (some ⟨g,0,none⟩) n n f :=
 ⟨zLr _,hn,(fun h=>by cases h),fun q hq _=>by
  injection hq with hq;subst hq;refine ⟨g,0,rfl,?_⟩;have:=BytesAt.of_block h hf (off:=0) (n:=n) (by omega);simp only [Nat.zero_add] at this;exact this⟩
theorem putF_leL {f:Nat->Nat} {p s v:Nat} {i:Nat} (h:f i<=255):putF f p s v i<=255:=by
 unfold putF
 split
 ·exact byteAt_leL _ _
 ·exact h
theorem sealP_leL {kind n:Nat} {f:Nat->Nat} (hk:kind<=255) (hf:∀ i,f i<=255) (i:Nat):sealP kind n f i<=255:=by
 refine putF_leL ?_;unfold preP
 split
 ·exact hk
 ·split
  ·exact hf _
  ·omega
theorem pageF_le (leaf:Bool) {n:Nat} (hn:n<=255) (keys vals:Nat->Nat) (i:Nat):pageF leaf n keys vals i<=255 :=
 sealP_leL (by unfold kindL;split <;> omega) (fun i=>bodyF_le keys vals n i hn) i
theorem chg3b (w w1:World) (a b c:Value):Chg [w.heap.size] w1 (((w1.setCell ⟨w.heap.size,0,none⟩ a).setCell ⟨w.heap.size,1,none⟩ b).setCell ⟨w.heap.size,2,none⟩ c) :=
 (((Chg.refl _ _).setCell (.inl (by simp)) _).setCell (.inl (by simp)) _).setCell (.inl (by simp)) _
section
variable {w:World} {b off cap:Nat} {f:Nat->Nat} (h:BytesAt w b off 128 f) (hcap:128<=cap) (hN:cap<=9223372036854775807)
include h hcap hN
theorem dec_leaf (hp:pageOK f) (hk:f 0=kindL true) (hm:f 1<=7):Calls Tryz.prog 116 #[.slice (some ⟨b,off,none⟩) 128 cap] w (DecEnd w true f (rightB true (f 1) (f 1) (pkey f) (pval f)&&eqF 128 128 (pageF true (f 1) (pkey f) (pval f)) f)):=by
 have hW:=(Chg.refl [] w).alloc (.cells #[.bool false,.slice none 0 0,.slice none 0 0] 107);have hPb:=h.chg hW (by simp);have lb:b<w.heap.size:=World.block_lt_of_cell? _ _ (h 0 (by omega)).1;have cO:=open_right hPb hcap hN hp;have HPb:=zh hPb;have HW:=zh hW;have m1:¬ (7:Int)<(f 1:Int):=by omega
 have hmk:=run_make1 (P:=Tryz.prog) 84 44 Tryz.underlying84 infoU64 rfl .i64 .i64 (f 1) (by omega) (by omega);clear h hp hW hPb;have k1:((f 0:Int) != 1)=false:=by simp;unfold kindL at hk;simp at hk;omega
 have k3:((f 0:Int)==1)=true:=by simp;unfold kindL at hk;simp at hk;omega
 clear hk;go_enter Tryz.func116,Tryz.ntmps116;go_wp2_with fail;refine cO.mono ?_;clear cO;rintro e w1 ⟨g,c,rfl,r1,r2,r3,r4,r5,hC1⟩;obtain ⟨l1,hX⟩:=dbl hC1;have HX:=zh hX;have HG:=zh r5;have HP:=zh (HPb.out.chg hC1 (by simp));have HC1:=zh (HW.out.trans hC1);have z0:=(r5 0 (by omega)).1;rw [size_alloc'] at r3;simp only [Nat.add_zero] at z0;clear hX hC1 r5;go_upto_region 5 with fail;go_cut [8] (fun s wx=>∃ kb vb nb bb,s = .pointer (some ⟨nb,0,none⟩)/\bb=w1.heap.size/\DecMid w wx true (f 1) g c (fun i=>f (1+i)) b off f kb vb nb bb)
 case first =>
  go_region
  all_goals
   go_wp2_with fail;go_meet
   first
   | (with_reducible exact ⟨w1.heap.size+1,w1.heap.size+1+1,w1.heap.size+1+1+1,_,rfl,rfl,(dec_mid HC1.out HX.out HG.out r4 r3 HP.out lb (((((Chg.refl _ _).alloc _).alloc _).alloc _).alloc _) _ _ _ (alloc4 _ _ _ _ _).1 (alloc4 _ _ _ _ _).2.1 (alloc4 _ _ _ _ _).2.2.1 (alloc4 _ _ _ _ _).2.2.2 (ord123 _)).drew⟩)
   | (with_reducible exact ⟨w1.heap.size+1,w1.heap.size+1+1+1,w1.heap.size+1+1,_,rfl,rfl,(dec_mid HC1.out HX.out HG.out r4 r3 HP.out lb (((((Chg.refl _ _).alloc _).alloc _).alloc _).alloc _) _ _ _ (alloc4 _ _ _ _ _).1 (alloc4 _ _ _ _ _).2.1 (alloc4 _ _ _ _ _).2.2.2 (alloc4 _ _ _ _ _).2.2.1 (ord132 _)).drew⟩)
   | (with_reducible exact ⟨w1.heap.size+1+1,w1.heap.size+1,w1.heap.size+1+1+1,_,rfl,rfl,(dec_mid HC1.out HX.out HG.out r4 r3 HP.out lb (((((Chg.refl _ _).alloc _).alloc _).alloc _).alloc _) _ _ _ (alloc4 _ _ _ _ _).1 (alloc4 _ _ _ _ _).2.2.1 (alloc4 _ _ _ _ _).2.1 (alloc4 _ _ _ _ _).2.2.2 (ord213 _)).drew⟩)
   | (with_reducible exact ⟨w1.heap.size+1+1,w1.heap.size+1+1+1,w1.heap.size+1,_,rfl,rfl,(dec_mid HC1.out HX.out HG.out r4 r3 HP.out lb (((((Chg.refl _ _).alloc _).alloc _).alloc _).alloc _) _ _ _ (alloc4 _ _ _ _ _).1 (alloc4 _ _ _ _ _).2.2.1 (alloc4 _ _ _ _ _).2.2.2 (alloc4 _ _ _ _ _).2.1 (ord231 _)).drew⟩)
   | (with_reducible exact ⟨w1.heap.size+1+1+1,w1.heap.size+1,w1.heap.size+1+1,_,rfl,rfl,(dec_mid HC1.out HX.out HG.out r4 r3 HP.out lb (((((Chg.refl _ _).alloc _).alloc _).alloc _).alloc _) _ _ _ (alloc4 _ _ _ _ _).1 (alloc4 _ _ _ _ _).2.2.2 (alloc4 _ _ _ _ _).2.1 (alloc4 _ _ _ _ _).2.2.1 (ord312 _)).drew⟩)
   | (with_reducible exact ⟨w1.heap.size+1+1+1,w1.heap.size+1+1,w1.heap.size+1,_,rfl,rfl,(dec_mid HC1.out HX.out HG.out r4 r3 HP.out lb (((((Chg.refl _ _).alloc _).alloc _).alloc _).alloc _) _ _ _ (alloc4 _ _ _ _ _).1 (alloc4 _ _ _ _ _).2.2.2 (alloc4 _ _ _ _ _).2.2.1 (alloc4 _ _ _ _ _).2.1 (ord321 _)).drew⟩)
 case rest =>
  obtain ⟨kb,vb,nb,bb,rfl,rfl,M⟩:=hcut;obtain ⟨X1,X2,X3,X4,X5⟩:=M.dX;have D1:=M.d1;have D6:=M.d6;have D7:=M.d7;have D8:=M.d8;have n0:=zcb M.hN 0;have n1:=zcb M.hN 1;have n2:=zcb M.hN 2;simp only [tA1,tA3,tA2] at n0 n1 n2;have hN7:=zhl M.hN;have cE:=each_dec (leaf:=true) hm (f:=fun i=>f (1+i)) (kb:=kb) (vb:=vb) (by rw [keyF_zero];exact M.hK) (by rw [valF_zero];exact M.hV) M.hB M.hG M.lg r1 (by unfold maxLen at r2;omega) M.d1 M.d2 M.d3 M.d4 M.d5;have HM:=zh M;clear M z0 HX HG HP HC1 hmk;go_wp2_with fail;refine cE.mono ?_;clear cE;rintro e w3 ⟨rfl,hK3,hV3,hC3⟩;have N3:=(hC3.block nb (zhl HM.out.hN) (by simp;omega)).trans HM.out.hN;have X3':=zh ((hC3.block w.heap.size (zhl HM.out.hX) (by simp;omega)).trans HM.out.hX);have P3:=zh (HM.out.hP.chg hC3 (by simp;omega));have C3:=zh (HM.out.C.then hC3 (by simp;omega));have n0:=zcb N3 0;have n1:=zcb N3 1;have n2:=zcb N3 2;simp only [tA1,tA3,tA2] at n0 n1 n2;have K3:=zh hK3;have V3:=zh hV3;have NK:=zh (show NumsIn [] w3 (.slice (some ⟨kb,0,none⟩) (f 1) (f 1)) (f 1) (pkey f) from .inr ⟨kb,0,f 1,rfl,zLr _,by unfold maxLen;omega,hK3.lt,by simp,hK3.nums⟩);have NV:=zh (show NumsIn [] w3 (.slice (some ⟨vb,0,none⟩) (f 1) (f 1)) (f 1) (pval f) from .inr ⟨vb,0,f 1,rfl,zLr _,by unfold maxLen;omega,hV3.lt,by simp,hV3.nums⟩);have N3':=zh N3;clear hK3 hV3 hC3 N3
  cases hr:rightB true (f 1) (f 1) (pkey f) (pval f) with
  | false =>
   have cB:=enc_bad NK.out NV.out hr;have Hr:=zh hr;clear hr;go_wp2_with fail;refine cB.mono ?_;clear cB;rintro e w4 ⟨rfl,hC4⟩;have X4':=(hC4.block w.heap.size (zhl X3'.out) (by simp)).trans X3'.out;have x0:=zcb X4' 0;have x1:=zcb X4' 1;have x2:=zcb X4' 2;have y0:=zfb X4' 0;have y1:=zfb X4' 1;have y2:=zfb X4' 2;simp only [tA1,tA3,tA2] at x0 x1 x2;have l4:=zhl X4';have HC4:=zh (C3.out.trans hC4);clear X4' hC4 n0 n1 n2;go_wp2_with fail;exact bodyPost_ret (v := .tuple #[.agg #[.bool false,.slice none 0 0,.slice none 0 0],.int .i64 30]) (by simp [results,Tryz.results116,go_sem,l4,x0,x1,x2]) rfl (dec_neg (by rw [Hr.out];rfl) ⟨rfl,chg3 HC4.out _ _ _⟩)
  | true =>
   have cB:=enc_ok NK.out NV.out hr;have Hr:=zh hr;clear hr;go_wp2_with fail;refine cB.mono ?_;clear cB;rintro e w4 ⟨g4,rfl,hg4,hB4,hC4⟩;have X4':=(hC4.block w.heap.size (zhl X3'.out) (by simp)).trans X3'.out;have x0:=zcb X4' 0;have x1:=zcb X4' 1;have x2:=zcb X4' 2;have y0:=zfb X4' 0;have y1:=zfb X4' 1;have y2:=zfb X4' 2;simp only [tA1,tA3,tA2] at x0 x1 x2;have l4:=zhl X4';have N4:=(hC4.block nb (zhl N3'.out) (by simp)).trans N3'.out;have m0:=zcb N4 0;have m1:=zcb N4 1;have m2:=zcb N4 2;simp only [tA1,tA3,tA2] at m0 m1 m2;have l5:=zhl N4;have hpl:∀ i,i<128->pageF true (f 1) (pkey f) (pval f) i<=255:=fun i _=>pageF_le true (by omega) _ _ _;have i1:BytesIn w4 (some ⟨g4,0,none⟩) 128 128 (pageF true (f 1) (pkey f) (pval f)):=of_block_in hB4 hpl;have i2:BytesIn w4 (some ⟨b,off,none⟩) 128 cap f:=⟨hcap,by unfold maxLen;omega,(fun h=>by cases h),fun q hq _=>by injection hq with hq;subst hq;exact ⟨b,off,rfl,P3.out.chg hC4 (by simp)⟩⟩;have v1:=conv_at i1;have v2:=conv_at i2;have E:=bstr_beq i1.le i2.le;have HC4:=zh (C3.out.trans hC4);have K4:=zh (K3.out.chg hC4 (by simp));have V4:=zh (V3.out.chg hC4 (by simp));clear X4' hC4 n0 n1 n2 N4 i1 i2 hpl hB4
   cases he:eqF 128 128 (pageF true (f 1) (pkey f) (pval f)) f with
   | false =>
    rw [he] at E;have He:=zh he;clear he;go_wp2_with fail;exact bodyPost_ret (v := .tuple #[.agg #[.bool false,.slice none 0 0,.slice none 0 0],.int .i64 30]) (by simp [results,Tryz.results116,go_sem,l4,x0,x1,x2]) rfl (dec_neg (by rw [Hr.out,He.out];rfl) ⟨rfl,chg3 HC4.out _ _ _⟩)
   | true =>
    rw [he] at E;have He:=zh he;clear he;go_wp2_with fail;refine bodyPost_ret (v := .tuple #[.agg #[.bool true,.slice (some ⟨kb,0,none⟩) (f 1) (f 1),.slice (some ⟨vb,0,none⟩) (f 1) (f 1)],.int .i64 0]) (by simp [results,Tryz.results116,go_sem,l4,x0,x1,x2]) rfl (dec_pos (by rw [Hr.out,He.out];rfl) ⟨kb,vb,rfl,by omega,by omega,D1,?_,?_,chg3 HC4.out _ _ _⟩)
    ·exact K4.out.chg (chg3b w w4 _ _ _) (by simp;omega)
    ·exact V4.out.chg (chg3b w w4 _ _ _) (by simp;omega)
theorem dec_inner (hp:pageOK f) (hk:f 0=kindL false) (hm:f 1<=7):Calls Tryz.prog 116 #[.slice (some ⟨b,off,none⟩) 128 cap] w (DecEnd w false f (rightB false (f 1) (f 1) (pkey f) (pval f)&&eqF 128 128 (pageF false (f 1) (pkey f) (pval f)) f)):=by
 have hW:=(Chg.refl [] w).alloc (.cells #[.bool false,.slice none 0 0,.slice none 0 0] 107);have hPb:=h.chg hW (by simp);have lb:b<w.heap.size:=World.block_lt_of_cell? _ _ (h 0 (by omega)).1;have cO:=open_right hPb hcap hN hp;have HPb:=zh hPb;have HW:=zh hW;have m1:¬ (7:Int)<(f 1:Int):=by omega
 have hmk:=run_make1 (P:=Tryz.prog) 84 44 Tryz.underlying84 infoU64 rfl .i64 .i64 (f 1) (by omega) (by omega);clear h hp hW hPb;have k1:((f 0:Int) != 1)=true:=by simp;unfold kindL at hk;simp at hk;omega
 have k2:((f 0:Int) != 2)=false:=by simp;unfold kindL at hk;simp at hk;omega
 have k3:((f 0:Int)==1)=false:=by simp;unfold kindL at hk;simp at hk;omega
 clear hk;go_enter Tryz.func116,Tryz.ntmps116;go_wp2_with fail;refine cO.mono ?_;clear cO;rintro e w1 ⟨g,c,rfl,r1,r2,r3,r4,r5,hC1⟩;obtain ⟨l1,hX⟩:=dbl hC1;have HX:=zh hX;have HG:=zh r5;have HP:=zh (HPb.out.chg hC1 (by simp));have HC1:=zh (HW.out.trans hC1);have z0:=(r5 0 (by omega)).1;rw [size_alloc'] at r3;simp only [Nat.add_zero] at z0;clear hX hC1 r5;go_upto_region 5 with fail;go_cut [8] (fun s wx=>∃ kb vb nb bb,s = .pointer (some ⟨nb,0,none⟩)/\bb=w1.heap.size/\DecMid w wx false (f 1) g c (fun i=>f (1+i)) b off f kb vb nb bb)
 case first =>
  go_region
  all_goals
   go_wp2_with fail;go_meet
   first
   | (with_reducible exact ⟨w1.heap.size+1,w1.heap.size+1+1,w1.heap.size+1+1+1,_,rfl,rfl,(dec_mid HC1.out HX.out HG.out r4 r3 HP.out lb (((((Chg.refl _ _).alloc _).alloc _).alloc _).alloc _) _ _ _ (alloc4 _ _ _ _ _).1 (alloc4 _ _ _ _ _).2.1 (alloc4 _ _ _ _ _).2.2.1 (alloc4 _ _ _ _ _).2.2.2 (ord123 _)).drew⟩)
   | (with_reducible exact ⟨w1.heap.size+1,w1.heap.size+1+1+1,w1.heap.size+1+1,_,rfl,rfl,(dec_mid HC1.out HX.out HG.out r4 r3 HP.out lb (((((Chg.refl _ _).alloc _).alloc _).alloc _).alloc _) _ _ _ (alloc4 _ _ _ _ _).1 (alloc4 _ _ _ _ _).2.1 (alloc4 _ _ _ _ _).2.2.2 (alloc4 _ _ _ _ _).2.2.1 (ord132 _)).drew⟩)
   | (with_reducible exact ⟨w1.heap.size+1+1,w1.heap.size+1,w1.heap.size+1+1+1,_,rfl,rfl,(dec_mid HC1.out HX.out HG.out r4 r3 HP.out lb (((((Chg.refl _ _).alloc _).alloc _).alloc _).alloc _) _ _ _ (alloc4 _ _ _ _ _).1 (alloc4 _ _ _ _ _).2.2.1 (alloc4 _ _ _ _ _).2.1 (alloc4 _ _ _ _ _).2.2.2 (ord213 _)).drew⟩)
   | (with_reducible exact ⟨w1.heap.size+1+1,w1.heap.size+1+1+1,w1.heap.size+1,_,rfl,rfl,(dec_mid HC1.out HX.out HG.out r4 r3 HP.out lb (((((Chg.refl _ _).alloc _).alloc _).alloc _).alloc _) _ _ _ (alloc4 _ _ _ _ _).1 (alloc4 _ _ _ _ _).2.2.1 (alloc4 _ _ _ _ _).2.2.2 (alloc4 _ _ _ _ _).2.1 (ord231 _)).drew⟩)
   | (with_reducible exact ⟨w1.heap.size+1+1+1,w1.heap.size+1,w1.heap.size+1+1,_,rfl,rfl,(dec_mid HC1.out HX.out HG.out r4 r3 HP.out lb (((((Chg.refl _ _).alloc _).alloc _).alloc _).alloc _) _ _ _ (alloc4 _ _ _ _ _).1 (alloc4 _ _ _ _ _).2.2.2 (alloc4 _ _ _ _ _).2.1 (alloc4 _ _ _ _ _).2.2.1 (ord312 _)).drew⟩)
   | (with_reducible exact ⟨w1.heap.size+1+1+1,w1.heap.size+1+1,w1.heap.size+1,_,rfl,rfl,(dec_mid HC1.out HX.out HG.out r4 r3 HP.out lb (((((Chg.refl _ _).alloc _).alloc _).alloc _).alloc _) _ _ _ (alloc4 _ _ _ _ _).1 (alloc4 _ _ _ _ _).2.2.2 (alloc4 _ _ _ _ _).2.2.1 (alloc4 _ _ _ _ _).2.1 (ord321 _)).drew⟩)
 case rest =>
  obtain ⟨kb,vb,nb,bb,rfl,rfl,M⟩:=hcut;obtain ⟨X1,X2,X3,X4,X5⟩:=M.dX;have D1:=M.d1;have D6:=M.d6;have D7:=M.d7;have D8:=M.d8;have n0:=zcb M.hN 0;have n1:=zcb M.hN 1;have n2:=zcb M.hN 2;simp only [tA1,tA3,tA2] at n0 n1 n2;have hN7:=zhl M.hN;have cE:=each_dec (leaf:=false) hm (f:=fun i=>f (1+i)) (kb:=kb) (vb:=vb) (by rw [keyF_zero];exact M.hK) (by rw [valF_zero];exact M.hV) M.hB M.hG M.lg r1 (by unfold maxLen at r2;omega) M.d1 M.d2 M.d3 M.d4 M.d5;have HM:=zh M;clear M z0 HX HG HP HC1 hmk;go_wp2_with fail;refine cE.mono ?_;clear cE;rintro e w3 ⟨rfl,hK3,hV3,hC3⟩;have N3:=(hC3.block nb (zhl HM.out.hN) (by simp;omega)).trans HM.out.hN;have X3':=zh ((hC3.block w.heap.size (zhl HM.out.hX) (by simp;omega)).trans HM.out.hX);have P3:=zh (HM.out.hP.chg hC3 (by simp;omega));have C3:=zh (HM.out.C.then hC3 (by simp;omega));have n0:=zcb N3 0;have n1:=zcb N3 1;have n2:=zcb N3 2;simp only [tA1,tA3,tA2] at n0 n1 n2;have K3:=zh hK3;have V3:=zh hV3;have NK:=zh (show NumsIn [] w3 (.slice (some ⟨kb,0,none⟩) (f 1) (f 1)) (f 1) (pkey f) from .inr ⟨kb,0,f 1,rfl,zLr _,by unfold maxLen;omega,hK3.lt,by simp,hK3.nums⟩);have NV:=zh (show NumsIn [] w3 (.slice (some ⟨vb,0,none⟩) (f 1) (f 1)) (f 1) (pval f) from .inr ⟨vb,0,f 1,rfl,zLr _,by unfold maxLen;omega,hV3.lt,by simp,hV3.nums⟩);have N3':=zh N3;clear hK3 hV3 hC3 N3
  cases hr:rightB false (f 1) (f 1) (pkey f) (pval f) with
  | false =>
   have cB:=enc_bad NK.out NV.out hr;have Hr:=zh hr;clear hr;go_wp2_with fail;refine cB.mono ?_;clear cB;rintro e w4 ⟨rfl,hC4⟩;have X4':=(hC4.block w.heap.size (zhl X3'.out) (by simp)).trans X3'.out;have x0:=zcb X4' 0;have x1:=zcb X4' 1;have x2:=zcb X4' 2;have y0:=zfb X4' 0;have y1:=zfb X4' 1;have y2:=zfb X4' 2;simp only [tA1,tA3,tA2] at x0 x1 x2;have l4:=zhl X4';have HC4:=zh (C3.out.trans hC4);clear X4' hC4 n0 n1 n2;go_wp2_with fail;exact bodyPost_ret (v := .tuple #[.agg #[.bool false,.slice none 0 0,.slice none 0 0],.int .i64 30]) (by simp [results,Tryz.results116,go_sem,l4,x0,x1,x2]) rfl (dec_neg (by rw [Hr.out];rfl) ⟨rfl,chg3 HC4.out _ _ _⟩)
  | true =>
   have cB:=enc_ok NK.out NV.out hr;have Hr:=zh hr;clear hr;go_wp2_with fail;refine cB.mono ?_;clear cB;rintro e w4 ⟨g4,rfl,hg4,hB4,hC4⟩;have X4':=(hC4.block w.heap.size (zhl X3'.out) (by simp)).trans X3'.out;have x0:=zcb X4' 0;have x1:=zcb X4' 1;have x2:=zcb X4' 2;have y0:=zfb X4' 0;have y1:=zfb X4' 1;have y2:=zfb X4' 2;simp only [tA1,tA3,tA2] at x0 x1 x2;have l4:=zhl X4';have N4:=(hC4.block nb (zhl N3'.out) (by simp)).trans N3'.out;have m0:=zcb N4 0;have m1:=zcb N4 1;have m2:=zcb N4 2;simp only [tA1,tA3,tA2] at m0 m1 m2;have l5:=zhl N4;have hpl:∀ i,i<128->pageF false (f 1) (pkey f) (pval f) i<=255:=fun i _=>pageF_le false (by omega) _ _ _;have i1:BytesIn w4 (some ⟨g4,0,none⟩) 128 128 (pageF false (f 1) (pkey f) (pval f)):=of_block_in hB4 hpl;have i2:BytesIn w4 (some ⟨b,off,none⟩) 128 cap f:=⟨hcap,by unfold maxLen;omega,(fun h=>by cases h),fun q hq _=>by injection hq with hq;subst hq;exact ⟨b,off,rfl,P3.out.chg hC4 (by simp)⟩⟩;have v1:=conv_at i1;have v2:=conv_at i2;have E:=bstr_beq i1.le i2.le;have HC4:=zh (C3.out.trans hC4);have K4:=zh (K3.out.chg hC4 (by simp));have V4:=zh (V3.out.chg hC4 (by simp));clear X4' hC4 n0 n1 n2 N4 i1 i2 hpl hB4
   cases he:eqF 128 128 (pageF false (f 1) (pkey f) (pval f)) f with
   | false =>
    rw [he] at E;have He:=zh he;clear he;go_wp2_with fail;exact bodyPost_ret (v := .tuple #[.agg #[.bool false,.slice none 0 0,.slice none 0 0],.int .i64 30]) (by simp [results,Tryz.results116,go_sem,l4,x0,x1,x2]) rfl (dec_neg (by rw [Hr.out,He.out];rfl) ⟨rfl,chg3 HC4.out _ _ _⟩)
   | true =>
    rw [he] at E;have He:=zh he;clear he;go_wp2_with fail;refine bodyPost_ret (v := .tuple #[.agg #[.bool false,.slice (some ⟨kb,0,none⟩) (f 1) (f 1),.slice (some ⟨vb,0,none⟩) (f 1) (f 1)],.int .i64 0]) (by simp [results,Tryz.results116,go_sem,l4,x0,x1,x2]) rfl (dec_pos (by rw [Hr.out,He.out];rfl) ⟨kb,vb,rfl,by omega,by omega,D1,?_,?_,chg3 HC4.out _ _ _⟩)
    ·exact K4.out.chg (chg3b w w4 _ _ _) (by simp;omega)
    ·exact V4.out.chg (chg3b w w4 _ _ _) (by simp;omega)
end
end Go.Proofs.YtkhcaclndepgbaaGreat
