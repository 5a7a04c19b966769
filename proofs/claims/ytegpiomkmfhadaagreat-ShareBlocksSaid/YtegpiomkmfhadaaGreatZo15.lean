/- leaf.Decode: a page that is right so fa -/
import Derived.Test.YtegpiomkmfhadaaGreatZo14
set_option linter.all false
set_option maxRecDepth 100000
set_option maxHeartbeats 20000000
namespace Go.Proofs.YtegpiomkmfhadaaGreat
open Go.RowKit
variable {w w':World} {n g b p s v i j m r:Nat} {leaf:Bool} {e:Ending} {Fm Fo:zF} {B:Bs} {x:Int} {M:Bm} {R:Br}
structure V8 (w W:World) (leaf:Bool) (n g c:Nat) (f:zF) (b off:Nat) (h:zF) (kb vb nb bb:Nat):Prop where
 hX:W.heap[w.heap.size]?=some (.cells #[.bool false,.slice none 0 0,.slice none 0 0] 42 (0,0))
 hB:W.heap[bb]?=some (.cells #[zS g 123 c] 81 (0,0))
 hN:W.heap[nb]?=some (.cells #[.bool leaf,zS kb n n,zS vb n n] 42 (0,0))
 hK:zQ W kb n (fun _=>0)
 hV:zQ W vb n (fun _=>0)
 hG:zB W g 0 123 f
 hP:zB W b off 128 h
 C:zv [] w W
 dX:w.heap.size<kb/\w.heap.size<vb/\w.heap.size<nb/\w.heap.size<bb/\w.heap.size<g
 d1:kb≠vb
 d2:kb≠bb
 d3:vb≠bb
 d4:kb≠g
 d5:vb≠g
 d6:kb≠nb
 d7:vb≠nb
 d8:b<w.heap.size
 lg:g<W.heap.size
theorem dZ (h:w.heap[g]?=some (.cells (zO n (.int .u64 0)) 23 (0,0))):zQ w g n (fun _=>0) :=
 ⟨fun i hi=>⟨by rw [zM h];simp [zO,hi],zo⟩,_,h⟩
theorem xe (w:World) (a b c d:Obj):((((w.alloc a).alloc b).alloc c).alloc d).heap[w.heap.size]?=some a/\((((w.alloc a).alloc b).alloc c).alloc d).heap[w.heap.size+1]?=some b /\
  ((((w.alloc a).alloc b).alloc c).alloc d).heap[w.heap.size+1+1]?=some c/\((((w.alloc a).alloc b).alloc c).alloc d).heap[w.heap.size+1+1+1]?=some d:=by
 refine ⟨?_,?_,?_,?_⟩
 ·rw [Below.heap_alloc _ _ _ (by simp only [zD];omega),Below.heap_alloc _ _ _ (by simp only [zD];omega),kC]
 ·rw [Below.heap_alloc _ _ _ (by simp only [zD];omega),Below.heap_alloc _ _ _ (by simp only [zD];omega),cZ]
 ·rw [Below.heap_alloc _ _ _ (by simp only [zD];omega)]
  have:=cZ (w.alloc a) b c;simpa only [zD] using this
 ·have:=xo (((w.alloc a).alloc b).alloc c) d
  simpa only [zD] using this
theorem sD (s:Nat):s<s+1/\s<s+1+1/\s<s+1+1+1/\s+1≠s+1+1/\s+1≠s+1+1+1/\s+1+1≠s+1+1+1:=zo
theorem sE (s:Nat):s<s+1/\s<s+1+1+1/\s<s+1+1/\s+1≠s+1+1+1/\s+1≠s+1+1/\s+1+1+1≠s+1+1:=zo
theorem sF (s:Nat):s<s+1+1/\s<s+1/\s<s+1+1+1/\s+1+1≠s+1/\s+1+1≠s+1+1+1/\s+1≠s+1+1+1:=zo
theorem sG (s:Nat):s<s+1+1/\s<s+1+1+1/\s<s+1/\s+1+1≠s+1+1+1/\s+1+1≠s+1/\s+1+1+1≠s+1:=zo
theorem sH (s:Nat):s<s+1+1+1/\s<s+1/\s<s+1+1/\s+1+1+1≠s+1/\s+1+1+1≠s+1+1/\s+1≠s+1+1:=zo
theorem sI (s:Nat):s<s+1+1+1/\s<s+1+1/\s<s+1/\s+1+1+1≠s+1+1/\s+1+1+1≠s+1/\s+1+1≠s+1:=zo
theorem YL {w1 W:World} {c:Nat} {f h:zF} {off:Nat} (C:zv [] w w1) (hX:w1.heap[w.heap.size]?=some (.cells #[.bool false,.slice none 0 0,.slice none 0 0] 42 (0,0)))
  (hG:zB w1 g 0 123 f) (lg:g<w1.heap.size) (lg2:w.heap.size+1<=g) (hP:zB w1 b off 128 h) (d8:b<w.heap.size) (hc:zv [] w1 W) (kb vb nb:Nat)
  (hB:W.heap[w1.heap.size]?=some (.cells #[zS g 123 c] 81 (0,0)))
  (hK:W.heap[kb]?=some (.cells (zO n (.int .u64 0)) 23 (0,0))) (hV:W.heap[vb]?=some (.cells (zO n (.int .u64 0)) 23 (0,0)))
  (hN:W.heap[nb]?=some (.cells #[.bool leaf,zS kb n n,zS vb n n] 42 (0,0)))
  (hs:w1.heap.size<kb/\w1.heap.size<vb/\w1.heap.size<nb/\kb≠vb/\kb≠nb/\vb≠nb) :
  V8 w W leaf n g c f b off h kb vb nb w1.heap.size:=by
 have l1:=zz hX;exact ⟨(hc.bl l1).trans hX,hB,hN,dZ hK,dZ hV,hG.chg hc,hP.chg hc,C.trans hc,zo,zo,zo,zo,zo,zo,zo,zo,d8,qe lg hc.size⟩
theorem V8.drew {w W:World} {leaf:Bool} {n g c:Nat} {f:zF} {b off:Nat} {h:zF} {kb vb nb bb:Nat} (M:V8 w W leaf n g c f b off h kb vb nb bb):V8 w W.drew leaf n g c f b off h kb vb nb bb :=
 ⟨M.hX,M.hB,M.hN,M.hK.chg (zv.drew (zv.refl [] _)),M.hV.chg (zv.drew (zv.refl [] _)),M.hG.chg (zv.drew (zv.refl [] _)),M.hP.chg (zv.drew (zv.refl [] _)),M.C.drew,M.dX,M.d1,M.d2,M.d3,M.d4,M.d5,M.d6,M.d7,M.d8,M.lg⟩
def Zj (f:zF):Nat->Nat:=V5 (fun i=>f (1+i)) (f 1)
def Zk (f:zF):Nat->Nat:=V6 (fun i=>f (1+i)) (f 1)
def wH (w:World) (leaf:Bool) (f:zF) (e:Ending) (w':World):Prop :=
 ∃ kb vb,e = .returned (.tuple #[.agg #[.bool leaf,zS kb (f 1) (f 1),zS vb (f 1) (f 1)],.int .i64 0]) /\
  w.heap.size<=kb/\w.heap.size<=vb/\kb≠vb/\zQ w' kb (f 1) (Zj f)/\zQ w' vb (f 1) (Zk f)/\zv [] w w'
def V9 (w:World) (leaf:Bool) (f:zF) (b:Bool) (e:Ending) (w':World):Prop:=if b then wH w leaf f e w' else V7 w e w'
theorem Xs {f:zF} {b:Bool} (h:b=false) (k:V7 w e w'):V9 w leaf f b e w':=by subst h;exact k
theorem mR {f:zF} {b:Bool} (h:b=true) (k:wH w leaf f e w'):V9 w leaf f b e w':=by subst h;exact k
theorem ed (f:zF):V5 f 0=fun _=>0:=by funext j;simp [V5]
theorem ee (f:zF):V6 f 0=fun _=>0:=by funext j;simp [V6]
theorem OG {f:zF} (h:w.heap[g]?=some (.cells (Y7 n f) 5 (0,0))) (hf:∀ i,i<n->f i<=255) (hn:n<=maxLen:=by unfold maxLen;omega):Yc w (some ⟨g,0,none⟩) n n f :=
 ⟨xd _,hn,(fun h=>by cases h),fun q hq _=>by
  injection hq with hq;subst hq;refine ⟨g,0,rfl,?_⟩;have:=zB.of_block h hf (off:=0) (n:=n) zo;simp only [yn] at this;exact this⟩
theorem sJ {f:zF} (h:f i<=255):YC f p s v i<=255:=by
 unfold YC
 split
 ·exact a9 _ _
 ·exact h
theorem oO {kind:Nat} {f:zF} (hk:kind<=255) (hf:∀ i,f i<=255) (i:Nat):ZM kind n f i<=255:=by
 refine sJ ?_;unfold Zw
 split
 ·exact hk
 ·split
  ·exact hf _
  ·omega
theorem XU (leaf:Bool) (hn:n<=255) (keys vals:zF) (i:Nat):xg leaf n keys vals i<=255 :=
 oO (by unfold XT;split <;> omega) (fun i=>Zy keys vals n i hn) i
theorem mS (w w1:World) (a b c:Value):zv [w.heap.size] w1 (((w1.setCell ⟨w.heap.size,0,none⟩ a).setCell ⟨w.heap.size,1,none⟩ b).setCell ⟨w.heap.size,2,none⟩ c) :=
 (((zv.refl _ _).setCell (.inl zaa) _).setCell (.inl zaa) _).setCell (.inl zaa) _
section
variable {w:World} {b off cap:Nat} {f:Nat->Nat} (h:zB w b off 128 f) (hcap:128<=cap) (hN:cap<=9223372036854775807)
include h hcap hN
theorem sK (hp:qF f) (hk:f 0=XT true) (hm:f 1<=7):zC 43 #[.slice (some ⟨b,off,none⟩) 128 cap] w (V9 w true f (zV true (f 1) (f 1) (Zj f) (Zk f)&&um 128 128 (xg true (f 1) (Zj f) (Zk f)) f)):=by
 have hW:=(zv.refl [] w).alloc (.cells #[.bool false,.slice none 0 0,.slice none 0 0] 42);have Se:=h.chg hW;have lb:b<w.heap.size:=yc _ _ (h 0 zo).1;have cO:=YM Se hcap hN hp;have HPb:=zh Se;have HW:=zh hW;have m1:¬ (7:Int)<(f 1:Int):=zo
 have EA:=xW (P:=Tryz.prog) 40 23 Tryz.underlying40 Qc rfl .i64 .i64 (f 1) zo zo;clear h hp hW Se;have:((f 0:Int) != 1)=false:=by simp;unfold XT at hk;simp at hk;omega
 have:((f 0:Int)==1)=true:=by simp;unfold XT at hk;simp at hk;omega
 clear hk;go_enter Tryz.func43,Tryz.ntmps43;go_wp2_with fail;refine cO.mono ?_;clear cO;rintro e w1 ⟨g,c,rfl,r1,r2,r3,r4,r5,Cz⟩;obtain ⟨l1,hX⟩:=AX Cz;have HX:=zh hX;have HG:=zh r5;have HP:=zh (HPb.o.chg Cz);have Ce:=zh (HW.o.trans Cz);have z0:=(r5 0 zo).1;rw [zD] at r3;simp only [Nat.add_zero] at z0;clear hX Cz r5;go_upto_region 5 with fail;go_cut [8] (fun s wx=>∃ kb vb nb bb,s = zP nb/\bb=w1.heap.size/\V8 w wx true (f 1) g c (fun i=>f (1+i)) b off f kb vb nb bb)
 case first =>
  go_region
  all_goals
   go_wp2_with fail;go_meet
   first
   | (with_reducible exact ⟨w1.heap.size+1,w1.heap.size+1+1,w1.heap.size+1+1+1,_,rfl,rfl,(YL Ce.o HX.o HG.o r4 r3 HP.o lb (((((zv.refl _ _).alloc _).alloc _).alloc _).alloc _) _ _ _ (xe _ _ _ _ _).1 (xe _ _ _ _ _).2.1 (xe _ _ _ _ _).2.2.1 (xe _ _ _ _ _).2.2.2 (sD _)).drew⟩)
   | (with_reducible exact ⟨w1.heap.size+1,w1.heap.size+1+1+1,w1.heap.size+1+1,_,rfl,rfl,(YL Ce.o HX.o HG.o r4 r3 HP.o lb (((((zv.refl _ _).alloc _).alloc _).alloc _).alloc _) _ _ _ (xe _ _ _ _ _).1 (xe _ _ _ _ _).2.1 (xe _ _ _ _ _).2.2.2 (xe _ _ _ _ _).2.2.1 (sE _)).drew⟩)
   | (with_reducible exact ⟨w1.heap.size+1+1,w1.heap.size+1,w1.heap.size+1+1+1,_,rfl,rfl,(YL Ce.o HX.o HG.o r4 r3 HP.o lb (((((zv.refl _ _).alloc _).alloc _).alloc _).alloc _) _ _ _ (xe _ _ _ _ _).1 (xe _ _ _ _ _).2.2.1 (xe _ _ _ _ _).2.1 (xe _ _ _ _ _).2.2.2 (sF _)).drew⟩)
   | (with_reducible exact ⟨w1.heap.size+1+1,w1.heap.size+1+1+1,w1.heap.size+1,_,rfl,rfl,(YL Ce.o HX.o HG.o r4 r3 HP.o lb (((((zv.refl _ _).alloc _).alloc _).alloc _).alloc _) _ _ _ (xe _ _ _ _ _).1 (xe _ _ _ _ _).2.2.1 (xe _ _ _ _ _).2.2.2 (xe _ _ _ _ _).2.1 (sG _)).drew⟩)
   | (with_reducible exact ⟨w1.heap.size+1+1+1,w1.heap.size+1,w1.heap.size+1+1,_,rfl,rfl,(YL Ce.o HX.o HG.o r4 r3 HP.o lb (((((zv.refl _ _).alloc _).alloc _).alloc _).alloc _) _ _ _ (xe _ _ _ _ _).1 (xe _ _ _ _ _).2.2.2 (xe _ _ _ _ _).2.1 (xe _ _ _ _ _).2.2.1 (sH _)).drew⟩)
   | (with_reducible exact ⟨w1.heap.size+1+1+1,w1.heap.size+1+1,w1.heap.size+1,_,rfl,rfl,(YL Ce.o HX.o HG.o r4 r3 HP.o lb (((((zv.refl _ _).alloc _).alloc _).alloc _).alloc _) _ _ _ (xe _ _ _ _ _).1 (xe _ _ _ _ _).2.2.2 (xe _ _ _ _ _).2.2.1 (xe _ _ _ _ _).2.1 (sI _)).drew⟩)
 case rest =>
  obtain ⟨kb,vb,nb,bb,rfl,rfl,M⟩:=hcut;obtain ⟨X1,X2,X3,X4,X5⟩:=M.dX;have D1:=M.d1;have:=M.d6;have:=M.d7;have:=M.d8;obtain ⟨n0,n1,n2⟩:=Za M.hN;have:=zz M.hN;have cE:=iT (leaf:=true) hm (f:=fun i=>f (1+i)) (kb:=kb) (vb:=vb) (by rw [ed];exact M.hK) (by rw [ee];exact M.hV) M.hB M.hG M.lg r1 (by unfold maxLen at r2;omega) M.d1 M.d2 M.d3 M.d4 M.d5;have HM:=zh M;clear M z0 HX HG HP Ce EA;go_wp2_with fail;refine cE.mono ?_;clear cE;rintro e w3 ⟨rfl,G3,NJ,El⟩;have N3:=(El.block nb (zz HM.o.hN) zae).trans HM.o.hN;have ND:=zh ((El.block w.heap.size (zz HM.o.hX) zae).trans HM.o.hX);have P3:=zh (HM.o.hP.chg El zae);have C3:=zh (HM.o.C.then El zae);obtain ⟨n0,n1,n2⟩:=Za N3;have K3:=zh G3;have V3:=zh NJ;have NK:=zh (show zT [] w3 (zS kb (f 1) (f 1)) (f 1) (Zj f) from .inr ⟨kb,0,f 1,rfl,xd _,by unfold maxLen;omega,G3.lt,zaa,G3.nums⟩);have NV:=zh (show zT [] w3 (zS vb (f 1) (f 1)) (f 1) (Zk f) from .inr ⟨vb,0,f 1,rfl,xd _,by unfold maxLen;omega,NJ.lt,zaa,NJ.nums⟩);have UF:=zh N3;clear G3 NJ El N3
  cases hr:zV true (f 1) (f 1) (Zj f) (Zk f) with
  | false =>
   have cB:=mQ NK.o NV.o hr;have Hr:=zh hr;clear hr;go_wp2_with fail;refine cB.mono ?_;clear cB;rintro e w4 ⟨rfl,Ds⟩;have Ek:=(Ds.block w.heap.size (zz ND.o) zaa).trans ND.o;have x0:=zM Ek 0;have x1:=zM Ek 1;have x2:=zM Ek 2;have y0:=xB Ek 0;have y1:=xB Ek 1;have y2:=xB Ek 2;simp only [tA1,tA3,tA2] at x0 x1 x2;have l4:=zz Ek;have C6:=zh (C3.o.trans Ds);clear Ek Ds n0 n1 n2;go_wp2_with fail;exact bodyPost_ret (v := .tuple #[.agg #[.bool false,.slice none 0 0,.slice none 0 0],.int .i64 30]) zai rfl (Xs (by rw [Hr.o];rfl) ⟨rfl,f9 C6.o _ _ _⟩)
  | true =>
   have cB:=bf NK.o NV.o hr;have Hr:=zh hr;clear hr;go_wp2_with fail;refine cB.mono ?_;clear cB;rintro e w4 ⟨g4,rfl,Fe,G2,Ds⟩;have Ek:=(Ds.block w.heap.size (zz ND.o) zaa).trans ND.o;have x0:=zM Ek 0;have x1:=zM Ek 1;have x2:=zM Ek 2;have y0:=xB Ek 0;have y1:=xB Ek 1;have y2:=xB Ek 2;simp only [tA1,tA3,tA2] at x0 x1 x2;have l4:=zz Ek;have N4:=(Ds.block nb (zz UF.o) zaa).trans UF.o;obtain ⟨m0,m1,m2⟩:=Za N4;have:=zz N4;have F0:∀ i,i<128->xg true (f 1) (Zj f) (Zk f) i<=255:=fun i _=>XU true zo _ _ _;have i1:Yc w4 (some ⟨g4,0,none⟩) 128 128 (xg true (f 1) (Zj f) (Zk f)):=OG G2 F0;have i2:Yc w4 (some ⟨b,off,none⟩) 128 cap f:=⟨hcap,by unfold maxLen;omega,(fun h=>by cases h),fun q hq _=>by injection hq with hq;subst hq;exact ⟨b,off,rfl,P3.o.chg Ds⟩⟩;have:=ag i1;have:=ag i2;have E:=gW i1.le i2.le;have C6:=zh (C3.o.trans Ds);have K4:=zh (K3.o.chg Ds);have V4:=zh (V3.o.chg Ds);clear Ek Ds n0 n1 n2 N4 i1 i2 F0 G2
   cases he:um 128 128 (xg true (f 1) (Zj f) (Zk f)) f with
   | false =>
    rw [he] at E;have He:=zh he;clear he;go_wp2_with fail;exact bodyPost_ret (v := .tuple #[.agg #[.bool false,.slice none 0 0,.slice none 0 0],.int .i64 30]) zai rfl (Xs (by rw [Hr.o,He.o];rfl) ⟨rfl,f9 C6.o _ _ _⟩)
   | true =>
    rw [he] at E;have He:=zh he;clear he;go_wp2_with fail;refine bodyPost_ret (v := .tuple #[.agg #[.bool true,zS kb (f 1) (f 1),zS vb (f 1) (f 1)],.int .i64 0]) zai rfl (mR (by rw [Hr.o,He.o];rfl) ⟨kb,vb,rfl,zo,zo,D1,?_,?_,f9 C6.o _ _ _⟩)
    ·exact K4.o.chg (mS w w4 _ _ _) zae
    ·exact V4.o.chg (mS w w4 _ _ _) zae
theorem oP (hp:qF f) (hk:f 0=XT false) (hm:f 1<=7):zC 43 #[.slice (some ⟨b,off,none⟩) 128 cap] w (V9 w false f (zV false (f 1) (f 1) (Zj f) (Zk f)&&um 128 128 (xg false (f 1) (Zj f) (Zk f)) f)):=by
 have hW:=(zv.refl [] w).alloc (.cells #[.bool false,.slice none 0 0,.slice none 0 0] 42);have Se:=h.chg hW;have lb:b<w.heap.size:=yc _ _ (h 0 zo).1;have cO:=YM Se hcap hN hp;have HPb:=zh Se;have HW:=zh hW;have m1:¬ (7:Int)<(f 1:Int):=zo
 have EA:=xW (P:=Tryz.prog) 40 23 Tryz.underlying40 Qc rfl .i64 .i64 (f 1) zo zo;clear h hp hW Se;have:((f 0:Int) != 1)=true:=by simp;unfold XT at hk;simp at hk;omega
 have:((f 0:Int) != 2)=false:=by simp;unfold XT at hk;simp at hk;omega
 have:((f 0:Int)==1)=false:=by simp;unfold XT at hk;simp at hk;omega
 clear hk;go_enter Tryz.func43,Tryz.ntmps43;go_wp2_with fail;refine cO.mono ?_;clear cO;rintro e w1 ⟨g,c,rfl,r1,r2,r3,r4,r5,Cz⟩;obtain ⟨l1,hX⟩:=AX Cz;have HX:=zh hX;have HG:=zh r5;have HP:=zh (HPb.o.chg Cz);have Ce:=zh (HW.o.trans Cz);have z0:=(r5 0 zo).1;rw [zD] at r3;simp only [Nat.add_zero] at z0;clear hX Cz r5;go_upto_region 5 with fail;go_cut [8] (fun s wx=>∃ kb vb nb bb,s = zP nb/\bb=w1.heap.size/\V8 w wx false (f 1) g c (fun i=>f (1+i)) b off f kb vb nb bb)
 case first =>
  go_region
  all_goals
   go_wp2_with fail;go_meet
   first
   | (with_reducible exact ⟨w1.heap.size+1,w1.heap.size+1+1,w1.heap.size+1+1+1,_,rfl,rfl,(YL Ce.o HX.o HG.o r4 r3 HP.o lb (((((zv.refl _ _).alloc _).alloc _).alloc _).alloc _) _ _ _ (xe _ _ _ _ _).1 (xe _ _ _ _ _).2.1 (xe _ _ _ _ _).2.2.1 (xe _ _ _ _ _).2.2.2 (sD _)).drew⟩)
   | (with_reducible exact ⟨w1.heap.size+1,w1.heap.size+1+1+1,w1.heap.size+1+1,_,rfl,rfl,(YL Ce.o HX.o HG.o r4 r3 HP.o lb (((((zv.refl _ _).alloc _).alloc _).alloc _).alloc _) _ _ _ (xe _ _ _ _ _).1 (xe _ _ _ _ _).2.1 (xe _ _ _ _ _).2.2.2 (xe _ _ _ _ _).2.2.1 (sE _)).drew⟩)
   | (with_reducible exact ⟨w1.heap.size+1+1,w1.heap.size+1,w1.heap.size+1+1+1,_,rfl,rfl,(YL Ce.o HX.o HG.o r4 r3 HP.o lb (((((zv.refl _ _).alloc _).alloc _).alloc _).alloc _) _ _ _ (xe _ _ _ _ _).1 (xe _ _ _ _ _).2.2.1 (xe _ _ _ _ _).2.1 (xe _ _ _ _ _).2.2.2 (sF _)).drew⟩)
   | (with_reducible exact ⟨w1.heap.size+1+1,w1.heap.size+1+1+1,w1.heap.size+1,_,rfl,rfl,(YL Ce.o HX.o HG.o r4 r3 HP.o lb (((((zv.refl _ _).alloc _).alloc _).alloc _).alloc _) _ _ _ (xe _ _ _ _ _).1 (xe _ _ _ _ _).2.2.1 (xe _ _ _ _ _).2.2.2 (xe _ _ _ _ _).2.1 (sG _)).drew⟩)
   | (with_reducible exact ⟨w1.heap.size+1+1+1,w1.heap.size+1,w1.heap.size+1+1,_,rfl,rfl,(YL Ce.o HX.o HG.o r4 r3 HP.o lb (((((zv.refl _ _).alloc _).alloc _).alloc _).alloc _) _ _ _ (xe _ _ _ _ _).1 (xe _ _ _ _ _).2.2.2 (xe _ _ _ _ _).2.1 (xe _ _ _ _ _).2.2.1 (sH _)).drew⟩)
   | (with_reducible exact ⟨w1.heap.size+1+1+1,w1.heap.size+1+1,w1.heap.size+1,_,rfl,rfl,(YL Ce.o HX.o HG.o r4 r3 HP.o lb (((((zv.refl _ _).alloc _).alloc _).alloc _).alloc _) _ _ _ (xe _ _ _ _ _).1 (xe _ _ _ _ _).2.2.2 (xe _ _ _ _ _).2.2.1 (xe _ _ _ _ _).2.1 (sI _)).drew⟩)
 case rest =>
  obtain ⟨kb,vb,nb,bb,rfl,rfl,M⟩:=hcut;obtain ⟨X1,X2,X3,X4,X5⟩:=M.dX;have D1:=M.d1;have:=M.d6;have:=M.d7;have:=M.d8;obtain ⟨n0,n1,n2⟩:=Za M.hN;have:=zz M.hN;have cE:=iT (leaf:=false) hm (f:=fun i=>f (1+i)) (kb:=kb) (vb:=vb) (by rw [ed];exact M.hK) (by rw [ee];exact M.hV) M.hB M.hG M.lg r1 (by unfold maxLen at r2;omega) M.d1 M.d2 M.d3 M.d4 M.d5;have HM:=zh M;clear M z0 HX HG HP Ce EA;go_wp2_with fail;refine cE.mono ?_;clear cE;rintro e w3 ⟨rfl,G3,NJ,El⟩;have N3:=(El.block nb (zz HM.o.hN) zae).trans HM.o.hN;have ND:=zh ((El.block w.heap.size (zz HM.o.hX) zae).trans HM.o.hX);have P3:=zh (HM.o.hP.chg El zae);have C3:=zh (HM.o.C.then El zae);obtain ⟨n0,n1,n2⟩:=Za N3;have K3:=zh G3;have V3:=zh NJ;have NK:=zh (show zT [] w3 (zS kb (f 1) (f 1)) (f 1) (Zj f) from .inr ⟨kb,0,f 1,rfl,xd _,by unfold maxLen;omega,G3.lt,zaa,G3.nums⟩);have NV:=zh (show zT [] w3 (zS vb (f 1) (f 1)) (f 1) (Zk f) from .inr ⟨vb,0,f 1,rfl,xd _,by unfold maxLen;omega,NJ.lt,zaa,NJ.nums⟩);have UF:=zh N3;clear G3 NJ El N3
  cases hr:zV false (f 1) (f 1) (Zj f) (Zk f) with
  | false =>
   have cB:=mQ NK.o NV.o hr;have Hr:=zh hr;clear hr;go_wp2_with fail;refine cB.mono ?_;clear cB;rintro e w4 ⟨rfl,Ds⟩;have Ek:=(Ds.block w.heap.size (zz ND.o) zaa).trans ND.o;have x0:=zM Ek 0;have x1:=zM Ek 1;have x2:=zM Ek 2;have y0:=xB Ek 0;have y1:=xB Ek 1;have y2:=xB Ek 2;simp only [tA1,tA3,tA2] at x0 x1 x2;have l4:=zz Ek;have C6:=zh (C3.o.trans Ds);clear Ek Ds n0 n1 n2;go_wp2_with fail;exact bodyPost_ret (v := .tuple #[.agg #[.bool false,.slice none 0 0,.slice none 0 0],.int .i64 30]) zai rfl (Xs (by rw [Hr.o];rfl) ⟨rfl,f9 C6.o _ _ _⟩)
  | true =>
   have cB:=bf NK.o NV.o hr;have Hr:=zh hr;clear hr;go_wp2_with fail;refine cB.mono ?_;clear cB;rintro e w4 ⟨g4,rfl,Fe,G2,Ds⟩;have Ek:=(Ds.block w.heap.size (zz ND.o) zaa).trans ND.o;have x0:=zM Ek 0;have x1:=zM Ek 1;have x2:=zM Ek 2;have y0:=xB Ek 0;have y1:=xB Ek 1;have y2:=xB Ek 2;simp only [tA1,tA3,tA2] at x0 x1 x2;have l4:=zz Ek;have N4:=(Ds.block nb (zz UF.o) zaa).trans UF.o;obtain ⟨m0,m1,m2⟩:=Za N4;have:=zz N4;have F0:∀ i,i<128->xg false (f 1) (Zj f) (Zk f) i<=255:=fun i _=>XU false zo _ _ _;have i1:Yc w4 (some ⟨g4,0,none⟩) 128 128 (xg false (f 1) (Zj f) (Zk f)):=OG G2 F0;have i2:Yc w4 (some ⟨b,off,none⟩) 128 cap f:=⟨hcap,by unfold maxLen;omega,(fun h=>by cases h),fun q hq _=>by injection hq with hq;subst hq;exact ⟨b,off,rfl,P3.o.chg Ds⟩⟩;have:=ag i1;have:=ag i2;have E:=gW i1.le i2.le;have C6:=zh (C3.o.trans Ds);have K4:=zh (K3.o.chg Ds);have V4:=zh (V3.o.chg Ds);clear Ek Ds n0 n1 n2 N4 i1 i2 F0 G2
   cases he:um 128 128 (xg false (f 1) (Zj f) (Zk f)) f with
   | false =>
    rw [he] at E;have He:=zh he;clear he;go_wp2_with fail;exact bodyPost_ret (v := .tuple #[.agg #[.bool false,.slice none 0 0,.slice none 0 0],.int .i64 30]) zai rfl (Xs (by rw [Hr.o,He.o];rfl) ⟨rfl,f9 C6.o _ _ _⟩)
   | true =>
    rw [he] at E;have He:=zh he;clear he;go_wp2_with fail;refine bodyPost_ret (v := .tuple #[.agg #[.bool false,zS kb (f 1) (f 1),zS vb (f 1) (f 1)],.int .i64 0]) zai rfl (mR (by rw [Hr.o,He.o];rfl) ⟨kb,vb,rfl,zo,zo,D1,?_,?_,f9 C6.o _ _ _⟩)
    ·exact K4.o.chg (mS w w4 _ _ _) zae
    ·exact V4.o.chg (mS w w4 _ _ _) zae
end
theorem ei {g:zF} {p v:Nat} : ∀ {k:Nat} (s:Nat),k<=s->(∀ i,i<s->g (p+i)=qt v (s - 1 - i))->v<256 ^ s->Zu g p k=v / 256 ^ (s - k)
 | 0,s,_,_,hv=>by
  unfold Zu;rw [Nat.sub_zero,Nat.div_eq_of_lt hv]
 | k+1,s,hk,hg,hv=>by
  unfold Zu;rw [ei s zo hg hv,hg k zo];unfold qt;have e:s - k=(s - (k+1))+1:=zo;have e2:s - 1 - k=s - (k+1):=zo;rw [e,e2,Nat.pow_succ,<- Nat.div_div_eq_div_mul];omega
theorem ge {g:zF} (hg:∀ i,i<s->g (p+i)=qt v (s - 1 - i)) (hv:v<256 ^ s):Zu g p s=v:=by
 rw [ei s (xd _) hg hv,Nat.sub_self,Nat.pow_zero,Nat.div_one]
theorem OH {f g:zF} : ∀ {k:Nat},(∀ i,i<k->f i=g i)->Zv f k=Zv g k
 | 0,_=>rfl
 | k+1,h=>by unfold Zv;rw [OH (k:=k) fun i hi=>h i zo,h k zo]
theorem Oa (kind n:Nat) (f:zF) (h:i<124):ZM kind n f i=Zw kind n f i:=by
 unfold ZM YC;rw [if_neg zo]
theorem sL (kind n:Nat) (f:zF):qF (ZM kind n f):=by
 unfold qF;rw [show Zv (ZM kind n f) 124=Zv (Zw kind n f) 124 from OH fun i hi=>Oa kind n f zo];have:=Q1 (Zw kind n f) 124;refine ge (fun i hi=>?_) (by rw [show (256:Nat) ^ 4=4294967296 by decide];omega);unfold ZM YC;rw [if_pos zo];congr 1 <;> omega
theorem bm (leaf:Bool) (n:Nat) (keys vals:zF) (h:i<123):xg leaf n keys vals (1+i)=Ym n keys vals n i:=by
 unfold xg;rw [Oa _ _ _ zo];unfold Zw;rw [if_neg zo,if_pos zo];congr 1 <;> omega
theorem ep (leaf:Bool) (n:Nat) (keys vals:zF):xg leaf n keys vals 0=XT leaf:=by
 unfold xg;rw [Oa _ _ _ zo];unfold Zw;rw [if_pos rfl]
theorem Q9 (leaf:Bool) (n:Nat) (keys vals:zF):xg leaf n keys vals 1=n:=by
 have:=bm leaf n keys vals (i:=0) zo;rw [this];unfold Ym;rw [if_pos rfl]
theorem iX (leaf:Bool):decide (XT leaf=1)=leaf:=by cases leaf <;> rfl
section
variable {leaf:Bool} {n:Nat} {keys vals:Nat->Nat} (hn:n<=7)
include hn
theorem ey (hk:∀ i,i<n->keys i<18446744073709551616) (hj:j<n):Zj (xg leaf n keys vals) j=keys j:=by
 unfold Zj V5;rw [Q9,if_pos hj];refine ge (fun i hi=>?_) (by rw [show (256:Nat) ^ 8=18446744073709551616 by decide];exact hk j hj);rw [bm _ _ _ _ zo];unfold Ym;rw [if_neg zo,if_pos zo,show (1+16*j+i - 1) / 16=j by omega,show (1+16*j+i - 1) % 16=i by omega,if_pos zo]
theorem eA (hv:∀ i,i<n->vals i<18446744073709551616) (hj:j<n):Zk (xg leaf n keys vals) j=vals j:=by
 unfold Zk V6;rw [Q9,if_pos hj];refine ge (fun i hi=>?_) (by rw [show (256:Nat) ^ 8=18446744073709551616 by decide];exact hv j hj);rw [bm _ _ _ _ zo];unfold Ym;rw [if_neg zo,if_pos zo,show (1+16*j+8+i - 1) / 16=j by omega,show (1+16*j+8+i - 1) % 16=8+i by omega,if_neg zo];congr 1 <;> omega
end
theorem iY {f g:zF} (h:∀ i,i<n->f i=g i):ZN f n=ZN g n:=by
 refine XS ?_;rw [qs];unfold YI;constructor
 ·rintro ⟨a,b,c⟩
  exact ⟨a,fun i hi=>by rw [<- h i hi];exact b i hi,fun i j DP hj=>by rw [<- h i zo,<- h j hj];exact c i j DP hj⟩
 ·rintro ⟨a,b,c⟩
  exact ⟨a,fun i hi=>by rw [h i hi];exact b i hi,fun i j DP hj=>by rw [h i zo,h j hj];exact c i j DP hj⟩
theorem lm {f g:zF} (h:∀ i,i<n->f i=g i):iW f n=iW g n:=by
 rw [Bool.eq_iff_iff,Ya,Ya];unfold ZA;constructor
 ·intro a i h1 h2
  rw [<- h i h2,<- h (i - 1) zo];exact a i h1 h2
 ·intro a i h1 h2
  rw [h i h2,h (i - 1) zo];exact a i h1 h2
theorem gh {keys vals:zF} (hk:∀ i,i<n->keys i=Fm i) (hv:∀ i,i<m->vals i=Fo i):zV leaf n m keys vals=zV leaf n m Fm Fo:=by
 unfold zV;rw [iY hv,lm hk]
theorem iZ {keys vals:zF} (hk:∀ i,i<n->keys i=Fm i) (hv:∀ i,i<n->vals i=Fo i):Ym n keys vals n=Ym n Fm Fo n:=by
 funext i
 unfold Ym;by_cases h0:i=0
 ·rw [if_pos h0,if_pos h0]
 ·rw [if_neg h0,if_neg h0]
  by_cases h1:i<1+16*n
  ·rw [if_pos h1,if_pos h1,hk _ zo,hv _ zo]
  ·rw [if_neg h1,if_neg h1]
theorem i8 {keys vals:zF} (hk:∀ i,i<n->keys i=Fm i) (hv:∀ i,i<n->vals i=Fo i):xg leaf n keys vals=xg leaf n Fm Fo:=by
 unfold xg;rw [iZ hk hv]
theorem XV {keys vals:zF} (h:zV leaf n m keys vals=true):n<=7/\m=n:=by
 unfold zV at h;simp only [Bool.and_eq_true,decide_eq_true_eq] at h;exact ⟨h.1,h.2.1⟩
def Ob (n:Nat) (f:zF):Bool :=
 decide (n=128/\Zu f 124 4=Zv f 124/\(f 0=1∨f 0=2)/\f 1<=7)&&(zV (decide (f 0=1)) (f 1) (f 1) (Zj f) (Zk f)&&um 128 128 (xg (decide (f 0=1)) (f 1) (Zj f) (Zk f)) f)
theorem oQ {keys vals:zF} (h:zV leaf n n keys vals=true) (hk:∀ i,i<n->keys i<18446744073709551616) (hv:∀ i,i<n->vals i<18446744073709551616) :
  Ob 128 (xg leaf n keys vals)=true:=by
 have hn:=(XV h).1;unfold Ob;rw [Q9,ep,iX];have e1:∀ i,i<n->Zj (xg leaf n keys vals) i=keys i:=fun i hi=>ey hn hk hi;have e2:∀ i,i<n->Zk (xg leaf n keys vals) i=vals i:=fun i hi=>eA hn hv hi;rw [gh e1 e2,h,i8 e1 e2];have hs:=sL (XT leaf) 123 (Ym n keys vals n);have e:um 128 128 (xg leaf n keys vals) (xg leaf n keys vals)=true:=mr.2 ⟨rfl,fun _ _=>rfl⟩;rw [e];simp only [Bool.and_true,decide_eq_true_eq];exact ⟨trivial,hs,by cases leaf <;> simp [XT],hn⟩
theorem Aq {a:Option Addr} {cap:Nat} {f:zF} (h:Yc w a n cap f):zC 43 #[.slice a n cap] w (V9 w (decide (f 0=1)) f (Ob n f)):=by
 by_cases hn:n=128
 ·subst hn
  obtain ⟨h1,h2,h3,h4⟩:=h
  cases a with
  | none=>have:=(h3 rfl).1;omega
  | some q =>
   obtain ⟨b,off,rfl,hb⟩:=h4 q rfl zo;have hN:cap<=9223372036854775807:=by unfold maxLen at h2;omega
   by_cases hp:qF f
   ·by_cases hk:f 0=1∨f 0=2
    ·by_cases hm:f 1<=7
     ·have e:decide (128=128/\Zu f 124 4=Zv f 124/\(f 0=1∨f 0=2)/\f 1<=7)=true:=by simp only [decide_eq_true_eq];exact ⟨trivial,hp,hk,hm⟩
      unfold Ob;rw [e,Bool.true_and];rcases hk with hk | hk
      ·have e2:decide (f 0=1)=true:=by simp [hk]
       rw [e2];exact sK hb h1 hN hp (by rw [hk];rfl) hm
      ·have e2:decide (f 0=1)=false:=by simp [hk]
       rw [e2];exact oP hb h1 hN hp (by rw [hk];rfl) hm
     ·exact (sC hb h1 hN hp hk zo).mono fun _ _ r=>Xs (by unfold Ob;simp [hm]) r
    ·exact (sB hb h1 hN hp zo).mono fun _ _ r=>Xs (by unfold Ob;simp [hk]) r
   ·exact (vu hb h1 hN hp).mono fun _ _ r=>Xs (by unfold Ob;unfold qF at hp;simp [hp]) r
 ·exact (vt hn).mono fun _ _ r=>Xs (by unfold Ob;simp [hn]) r
structure Nd where
 leaf:Bool
 n:Nat
 k:Nat->Nat
 v:Nat->Nat
def Y2 (f:zF):Option Nd:=if Ob 128 f then some ⟨decide (f 0=1),f 1,Zj f,Zk f⟩ else none
structure Nd.Ok (d:Nd):Prop where
 n:d.n<=7
 k:∀ i,i<d.n->d.k i<18446744073709551616
 v:∀ i,i<d.n->d.v i<18446744073709551616
 asc:ZA d.k d.n
 kids:d.leaf=false->ZN d.v d.n=true
def Bs.inI (B:Bs) (x:Int):Bool:=decide (2<=x)&&decide (x<(B.T.n:Int))
def Bs.nodeI (B:Bs) (x:Int):Option Nd:=if B.inI x then Y2 (B.read x.toNat) else none
def Bs.nodeE (B:Bs) (x:Int):Int:=if B.inI x then 130 else 2
theorem mT {f:zF} (h:∀ i,i<8->f (p+i)<=255):Zu f p 8<18446744073709551616:=by
 have:=VP (f:=f) (p:=p) (k:=8) h;rwa [show (256:Nat) ^ 8=18446744073709551616 by decide] at this
theorem Oc {f:zF} {d:Nd} (h:Y2 f=some d):Ob 128 f=true/\d=⟨decide (f 0=1),f 1,Zj f,Zk f⟩:=by
 unfold Y2 at h
 split at h
 ·rename_i e;injection h with h;exact ⟨e,h.symm⟩
 ·cases h
theorem mU {f:zF} {d:Nd} (h:Y2 f=some d) (hf:∀ i,i<128->f i<=255):d.Ok:=by
 obtain ⟨e,rfl⟩:=Oc h;unfold Ob at e;simp only [Bool.and_eq_true,decide_eq_true_eq] at e;obtain ⟨⟨_,_,_,h7⟩,hr,_⟩:=e;have DA:=hr;unfold zV at DA;simp only [Bool.and_eq_true,decide_eq_true_eq,Bool.or_eq_true] at DA;refine ⟨h7,fun i hi=>?_,fun i hi=>?_,(Ya _ _).1 DA.2.2.2,fun hl=>?_⟩
 ·change i<f 1 at hi
  show Zj f i<_
  unfold Zj V5;rw [if_pos hi];exact mT fun j hj=>hf _ zo
 ·change i<f 1 at hi
  show Zk f i<_
  unfold Zk V6;rw [if_pos hi];exact mT fun j hj=>hf _ zo
 ·rcases DA.2.2.1 with q | q
  ·rw [yq q] at hl;cases hl
  ·exact q
theorem Bs.Ok.read_le (h:B.Ok) (hb:b<B.T.n):∀ i,i<128->B.read b i<=255:=by
 intro i hi;unfold Bs.read
 cases hf:B.fr b with
 | none=>exact h.dle b hb i hi
 | some f=>exact h.fle b f hb hf i hi
theorem Qd : B.inI x=true↔2<=x/\x<(B.T.n:Int):=by unfold Bs.inI;simp
theorem Bs.Ok.node_ok (h:B.Ok) {d:Nd} (hd:B.nodeI x=some d):d.Ok/\2<=x/\x<(B.T.n:Int):=by
 unfold Bs.nodeI at hd
 split at hd
 ·rename_i e
  have e:=Qd.1 e;exact ⟨mU hd (h.read_le zo),e⟩
 ·cases hd
def ZQ (w:World) (o:Option Nd) (E:Int) (e:Ending) (w':World):Prop :=
 (∃ d kb vb,o=some d/\e = .returned (.tuple #[.agg #[.bool d.leaf,zS kb d.n d.n,zS vb d.n d.n],.int .i64 0])/\w.heap.size<=kb/\w.heap.size<=vb/\kb≠vb/\zQ w' kb d.n d.k/\zQ w' vb d.n d.v/\zv [] w w') ∨
 (o=none/\e = .returned (.tuple #[.agg #[.bool false,.slice none 0 0,.slice none 0 0],.int .i64 E])/\zv [] w w')
theorem oR (h:qQ w M R B) (hx:x<0∨(B.T.n:Int)<=x) :
  zC 42 #[zP M.b,.int .i64 x] w fun e w'=>e = .returned (.tuple #[.slice none 0 0,.int .i64 2])/\w=w':=by
 have cn:=Z6 h;have cb:=qH h;by_cases i0:x<0
 ·go_enter Tryz.func42,Tryz.ntmps42
  go_wp2_with fail;refine zm (cn) ?_;go_wp2_with fail
  go_ret2
  exact ⟨rfl,rfl⟩
 ·have:(B.T.n:Int)<=x:=zo
  go_enter Tryz.func42,Tryz.ntmps42;go_wp2_with fail;refine zm (cn) ?_;go_wp2_with fail;refine zm (cb) ?_;go_wp2_with fail
  go_ret2
  exact ⟨rfl,rfl⟩
theorem JP {x y z:Value} {T:TypeId} (h:w.heap[r]?=some (.cells #[x,y,z] T (0,0))) (a b c:Value) :
  (((w.setCell ⟨r,0,none⟩ a).setCell ⟨r,1,none⟩ b).setCell ⟨r,2,none⟩ c).heap[r]?=some (.cells #[a,b,c] T (0,0)):=by
 have h3:=Yh (Yh (Yh h 0 a) 1 b) 2 c;simpa using h3
theorem xn (w:World) (r:Nat) (a b c:Value):zv [r] w (((w.setCell ⟨r,0,none⟩ a).setCell ⟨r,1,none⟩ b).setCell ⟨r,2,none⟩ c) :=
 (((zv.refl _ _).setCell (.inl zaa) _).setCell (.inl zaa) _).setCell (.inl zaa) _
theorem sM:(Tryz.prog.info? 42).map (·.size)=some 3:=zab
theorem Ju {a b c:Value} (h:w.heap[r]?=some (.cells #[a,b,c] 42 (0,0))):(loadVar 42 ⟨r,0,none⟩).run Tryz.prog w = .ok (.agg #[a,b,c]) w:=by
 have hr:=run_loadVar_mid (P:=Tryz.prog) w r 0 42 [a,b,c] _ (fun j v hv=>by
  rw [yn,zM h,<- hv,<- yB]) Tryz.underlying42 rfl sM
 exact hr
section
variable {w:World} {x:Int}
theorem sN (h:x6 w M R B):zC 15 #[zP M.b,.int .i64 x] w (ZQ w (B.nodeI x) (B.nodeE x)):=by
 have hX:=xo w (.cells #[.bool false,.slice none 0 0,.slice none 0 0] 42);have hW:=(zv.refl [] w).alloc (.cells #[.bool false,.slice none 0 0,.slice none 0 0] 42);have hs:=zz hX;have h:=h.chg hW (fun _ _=>by simp);have HX:=zh (zA hX hW);have:=h.c.ok.n;have cb:=qH h.c;have:¬ B.T.n=0:=zo
 have f0:=xB hX 0;have f1:=xB hX 1;have f2:=xB hX 2;obtain ⟨x0,x1,x2⟩:=Za hX;clear hX hW;have bad:∀ W2,zv [w.heap.size] (w.alloc (.cells #[.bool false,.slice none 0 0,.slice none 0 0] 42)) W2->zv [] w W2:=fun W2 c=>HX.2.tn c (xd _);by_cases i1:x<2
 ·have hI:B.inI x=false:=by unfold Bs.inI;rw [yC zo];rfl
  unfold Bs.nodeI Bs.nodeE;rw [hI];clear h;go_enter Tryz.func15,Tryz.ntmps15;go_upto_region 1 with fail;generalize w.alloc (.cells #[.bool false,.slice none 0 0,.slice none 0 0] 42)=W at *;go_wp2_with fail;refine zm (cb) ?_;go_wp2_with fail;exact bodyPost_ret (qG (a:=4) (b:=5) zab rfl (Ju (JP HX.1 _ _ _))) rfl (.inr ⟨rfl,rfl,bad _ (xn _ _ _ _ _)⟩)
 by_cases i2:(B.T.n:Int)<=x
 ·have hI:B.inI x=false:=by unfold Bs.inI;rw [yq zo,yC zo];rfl
  unfold Bs.nodeI Bs.nodeE;rw [hI];have cr:=oR h.c (.inr i2);clear h;go_enter Tryz.func15,Tryz.ntmps15;go_upto_region 1 with fail;generalize w.alloc (.cells #[.bool false,.slice none 0 0,.slice none 0 0] 42)=W at *;go_wp2_with fail;refine zm (cb) ?_;go_wp2_with fail;refine zm (cr) ?_;go_wp2_with fail;exact bodyPost_ret (qG (a:=4) (b:=5) zab rfl (Ju (JP HX.1 _ _ _))) rfl (.inr ⟨rfl,rfl,bad _ (xn _ _ _ _ _)⟩)
 ·obtain ⟨a,rfl⟩:=Int.eq_ofNat_of_zero_le (show 0<=x by omega)
  have hI:B.inI (a:Int)=true:=Qd.2 zo;unfold Bs.nodeI Bs.nodeE;rw [hI,if_pos rfl,if_pos rfl,yz];have cr:=si h (a:=a) zo;have CR:=zh cr;clear cr h hI;go_enter Tryz.func15,Tryz.ntmps15;go_upto_region 1 with fail;generalize w.alloc (.cells #[.bool false,.slice none 0 0,.slice none 0 0] 42)=W at *;go_wp2_with fail;refine zm (cb) ?_;go_wp2_with fail;refine CR.mono ?_;rintro e w1 ⟨g,c,rfl,q1,q2,q3,q4,q5,q6⟩;have Cm:Yc w1 (some ⟨g,0,none⟩) 128 c (B.read a):=⟨q1,q2,(fun e=>by cases e),(fun b hb _=>by injection hb with hb;exact ⟨g,0,hb.symm,q5⟩)⟩;have cd:=zh (Aq Cm);have Mb:=(q6.bl hs).trans HX.1;have HC:=zh q6;have Gd:=zz Mb;clear q1 q2 q3 q4 q5 q6 Cm CR x0 x1 x2 f0 f1 f2;go_wp2_with fail;refine cd.mono ?_;intro e w2 hd;unfold V9 at hd
  cases hb:Ob 128 (B.read a) with
  | false =>
   rw [hb,if_neg zaf] at hd;obtain ⟨rfl,BW⟩:=hd;have hx3:=(BW.bl Gd).trans Mb;have hy:=BW.alloc (.cells #[.bool false,.slice none 0 0,.slice none 0 0] 42);have IJ:=(hy.bl Gd).trans Mb;have SZ:=zz IJ;have BZ:=zh (zA IJ (HC.trans hy));have f0:=xB IJ 0;have f1:=xB IJ 1;have f2:=xB IJ 2;obtain ⟨x0,x1,x2⟩:=Za IJ;clear BW cd hx3 hy IJ;go_wp2_with fail;exact bodyPost_ret (qG (a:=4) (b:=5) zab rfl (Ju (JP BZ.1 _ _ _))) rfl (.inr ⟨by unfold Y2;rw [hb];rfl,rfl,bad _ ((BZ.2.mo).trans (xn _ _ _ _ _))⟩)
  | true =>
   rw [hb,if_pos rfl] at hd;obtain ⟨kb,vb,rfl,k1,k2,k3,k4,k5,BW⟩:=hd;have hy:=BW.alloc (.cells #[.bool (decide (B.read a 0=1)),zS kb (B.read a 1) (B.read a 1),zS vb (B.read a 1) (B.read a 1)] 42);have IJ:=(hy.bl Gd).trans Mb;have SZ:=zz IJ;have:=BW.size;have:=HC.size;have HK:=zh (zA k1 (zA k2 (zA k3 (zA k4 k5))));have BZ:=zh (zA IJ (HC.trans hy));have f0:=xB IJ 0;have f1:=xB IJ 1;have f2:=xB IJ 2;have hz:=xo w2 (.cells #[.bool (decide (B.read a 0=1)),zS kb (B.read a 1) (B.read a 1),zS vb (B.read a 1) (B.read a 1)] 42);obtain ⟨x0,x1,x2⟩:=Za IJ;obtain ⟨z0,z1,z2⟩:=Za hz;have:=zh (BW.alloc (.cells #[.bool (decide (B.read a 0=1)),zS kb (B.read a 1) (B.read a 1),zS vb (B.read a 1) (B.read a 1)] 42));have HZ2:Hd (zv [] w2 (w2.alloc (.cells #[.bool (decide (B.read a 0=1)),zS kb (B.read a 1) (B.read a 1),zS vb (B.read a 1) (B.read a 1)] 42))):=zh ((zv.refl _ _).alloc _);clear BW cd hy IJ hz k1 k2 k3 k4 k5;go_upto_region 9 with fail;generalize w2.alloc (.cells #[.bool (decide (B.read a 0=1)),zS kb (B.read a 1) (B.read a 1),zS vb (B.read a 1) (B.read a 1)] 42)=w3 at *;go_wp2_with fail
   have SM:kb∉[w.heap.size]:=by have:=HK.1;simp only [zms];omega
   have KC:vb∉[w.heap.size]:=by have:=HK.2.1;simp only [zms];omega
   have Fj:=(HK.2.2.2.1.chg HZ2).chg (xn w3 w.heap.size (.bool (decide (B.read a 0=1))) (zS kb (B.read a 1) (B.read a 1)) (zS vb (B.read a 1) (B.read a 1))) SM;have Fk:=(HK.2.2.2.2.chg HZ2).chg (xn w3 w.heap.size (.bool (decide (B.read a 0=1))) (zS kb (B.read a 1) (B.read a 1)) (zS vb (B.read a 1) (B.read a 1))) KC
   exact bodyPost_ret (qG (a:=4) (b:=5) zab rfl (Ju (JP BZ.1 _ _ _))) rfl
    (.inl ⟨⟨decide (B.read a 0=1),B.read a 1,Zj (B.read a),Zk (B.read a)⟩,kb,vb,by unfold Y2;rw [hb];rfl,rfl,by have:=HK.1;omega,by have:=HK.2.1;omega,HK.2.2.1,Fj,Fk,bad _ ((BZ.2.mo).trans (xn _ _ _ _ _))⟩)
end
theorem zx.cNode {F:List Nat} (h:zx w M F B) (x:Int):zC 15 #[zP M.b,.int .i64 x] w (ZQ w (B.nodeI x) (B.nodeE x)):=by
 obtain ⟨R,hi,_⟩:=h;exact sN hi
end Go.Proofs.YtegpiomkmfhadaaGreat
