/- The walks of package tally: what each method does to a tally in memory. · tally.set, Up, Down, Free, Keep. · tally.Up, Down, Get, Free, Keep, New. · tally.New. -/
import Derived.Test.YtkhcaclndepgbaaGreatZn08
import Derived.Carry
set_option linter.unusedVariables false
set_option linter.unusedSimpArgs false
set_option maxRecDepth 100000
set_option maxHeartbeats 20000000
namespace Go.Proofs.YtkhcaclndepgbaaGreat
open Go.RowKit
theorem zeroU16 (w:World):(zeroValue 33).run Tryz.prog w = .ok (.int .u16 0) w:=by kernel_rfl
theorem blocks_at {w:World} {t bc bk:Nat} {T:Tal} (h:TallyAt w t bc bk T) :
  Calls Tryz.prog 90 #[.pointer (some ⟨t,0,none⟩)] w fun e w'=>e = .returned (.int .i64 T.n)/\w=w':=by
 have c0:=h.c0;go_enter Tryz.func90,Tryz.ntmps90
 go_wp2
 go_ret;exact ⟨rfl,rfl⟩
theorem frees_at {w:World} {t bc bk:Nat} {T:Tal} (h:TallyAt w t bc bk T) :
  Calls Tryz.prog 129 #[.pointer (some ⟨t,0,none⟩)] w fun e w'=>e = .returned (.int .i64 T.frees)/\w=w':=by
 have c0:=h.c2;go_enter Tryz.func129,Tryz.ntmps129
 go_wp2
 go_ret;exact ⟨rfl,rfl⟩
def hasB (T:Tal) (b:Int):Bool:=decide (0<=b)&&decide (b<(T.n:Int))
theorem has_at {w:World} {t bc bk:Nat} {T:Tal} (h:TallyAt w t bc bk T) (b:Int) :
  Calls Tryz.prog 147 #[.pointer (some ⟨t,0,none⟩),.int .i64 b] w fun e w'=>e = .returned (.bool (hasB T b))/\w=w':=by
 by_cases h0:0<=b
 ·go_enter Tryz.func147,Tryz.ntmps147
  go_wp2_with (go_at_call 90;refine (blocks_at h).mono ?_;rintro e w' ⟨rfl,rfl⟩);go_ret;exact ⟨by simp [hasB,h0],rfl⟩
 ·go_enter Tryz.func147,Tryz.ntmps147
  go_wp2_with fail;go_ret;exact ⟨by simp [hasB];omega,rfl⟩
theorem was_at {w:World} {t bc bk:Nat} {T:Tal} (h:TallyAt w t bc bk T) (b:Nat) (hb:b<T.n) :
  Calls Tryz.prog 166 #[.pointer (some ⟨t,0,none⟩),.int .i64 (b:Int)] w fun e w'=>e = .returned (.int .u16 (T.kept b:Nat))/\w=w':=by
 have c0:=h.c0;have c1:=h.c1;have cc:=h.cc hb;have n2:=h.n2;have hl:=(h.map.look (t:=213) Tryz.underlying3 Tryz.underlying33 Tryz.underlying213 (zeroU16 w) hb n2).1;by_cases hk:T.now b=T.kept b
 ·have e1:T.keptAt b=none:=by simp [Tal.keptAt,hk]
  rw [e1] at hl;simp only [Option.getD_none,Option.isSome_none] at hl;go_enter Tryz.func166,Tryz.ntmps166;go_wp2_with fail;go_ret;exact ⟨rfl,rfl⟩
 ·have e1:T.keptAt b=some (T.kept b):=by simp [Tal.keptAt,hk]
  rw [e1] at hl;simp only [Option.getD_some,Option.isSome_some] at hl;go_enter Tryz.func166,Tryz.ntmps166;go_wp2_with fail;go_ret;exact ⟨rfl,rfl⟩
theorem by_skip {w:World} {bw bx:Nat} (count:Nat) (one:Int) (h0:0<count) :
  Calls Tryz.prog 183 #[.int .u16 (count:Int),.int .i64 one,.pointer (some ⟨bw,0,none⟩),.pointer (some ⟨bx,0,none⟩)] w fun e w'=>e = .returned (.tuple #[])/\w=w':=by
 go_enter Tryz.func183,Tryz.ntmps183;go_wp2_with fail
 go_end0
 exact ⟨rfl,rfl⟩
theorem by_wait {w:World} {bw bx t:Nat} {k:Nat} {f:Int} (one:Int) (hw:w.cell? ⟨bw,0,none⟩=some (.int .u16 (k:Int))) (hk:0<k) (hx:w.cell? ⟨bx,0,none⟩=some (.pointer (some ⟨t,0,none⟩)))
  (c3:w.cell? ⟨t,3,none⟩=some (.int .i64 f)) (fz:w.frozen? ⟨t,3,none⟩=false) (h1 : -1<=one) (h2:one<=1) (h3 : -5000<=f) (h4:f<=5000) :
  Calls Tryz.prog 183 #[.int .u16 0,.int .i64 one,.pointer (some ⟨bw,0,none⟩),.pointer (some ⟨bx,0,none⟩)] w fun e w'=>e = .returned (.tuple #[])/\w.setCell ⟨t,3,none⟩ (.int .i64 (f+one))=w':=by
 go_enter Tryz.func183,Tryz.ntmps183;go_wp2_with fail
 go_end0
 exact ⟨rfl,rfl⟩
theorem by_free {w:World} {bw bx t:Nat} {f:Int} (one:Int) (hw:w.cell? ⟨bw,0,none⟩=some (.int .u16 0)) (hx:w.cell? ⟨bx,0,none⟩=some (.pointer (some ⟨t,0,none⟩)))
  (c3:w.cell? ⟨t,2,none⟩=some (.int .i64 f)) (fz:w.frozen? ⟨t,2,none⟩=false) (h1 : -1<=one) (h2:one<=1) (h3 : -5000<=f) (h4:f<=5000) :
  Calls Tryz.prog 183 #[.int .u16 0,.int .i64 one,.pointer (some ⟨bw,0,none⟩),.pointer (some ⟨bx,0,none⟩)] w fun e w'=>e = .returned (.tuple #[])/\w.setCell ⟨t,2,none⟩ (.int .i64 (f+one))=w':=by
 go_enter Tryz.func183,Tryz.ntmps183;go_wp2_with fail
 go_end0
 exact ⟨rfl,rfl⟩
theorem by_any {w:World} {bw bx t k count:Nat} {f g one:Int} {s m:Value} (hw:w.cell? ⟨bw,0,none⟩=some (.int .u16 (k:Int))) (hx:w.cell? ⟨bx,0,none⟩=some (.pointer (some ⟨t,0,none⟩)))
  (ht:w.heap[t]?=some (.cells #[s,m,.int .i64 f,.int .i64 g] 215 (0,0))) (h1 : -1<=one) (h2:one<=1) (h3 : -5000<=f) (h4:f<=5000) (h5 : -5000<=g) (h6:g<=5000) :
  Calls Tryz.prog 183 #[.int .u16 (count:Int),.int .i64 one,.pointer (some ⟨bw,0,none⟩),.pointer (some ⟨bx,0,none⟩)] w fun e w'=>e = .returned (.tuple #[]) /\
   w'.heap[t]?=some (.cells #[s,m,.int .i64 (f+if count=0/\k=0 then one else 0),.int .i64 (g+if count=0/\k≠0 then one else 0)] 215 (0,0))/\Chg [t] w w':=by
 by_cases hc:count=0
 ·subst hc
  by_cases hk:k=0
  ·subst hk
   have c2:=zcb ht 2;have fz:=zfb ht 2;refine (by_free (f:=f) one hw hx c2 fz h1 h2 h3 h4).mono ?_;rintro e w' ⟨rfl,rfl⟩;refine ⟨rfl,?_,(Chg.refl _ _).setCell (.inl (by simp)) _⟩;rw [zsb ht];simp
  ·have c3:=zcb ht 3
   have fz:=zfb ht 3;refine (by_wait (f:=g) one hw (by omega) hx c3 fz h1 h2 h5 h6).mono ?_;rintro e w' ⟨rfl,rfl⟩;refine ⟨rfl,?_,(Chg.refl _ _).setCell (.inl (by simp)) _⟩;rw [zsb ht];simp [hk]
 ·refine (by_skip count one (by omega)).mono ?_
  rintro e w' ⟨rfl,rfl⟩;refine ⟨rfl,?_,Chg.refl _ _⟩;rw [ht];simp [hc]
theorem set_close {w w1 w4:World} {t bc bk:Nat} {T:Tal} (h:TallyAt w t bc bk T) {b v:Nat} (hb:b<T.n) (hv:v<=65535) {L:List Nat}
  (hc1:Chg L w w1) (hL:∀ i,i∈L->i=t)
  (ht2:w1.heap[t]?=some (.cells #[.slice (some ⟨bc,0,none⟩) T.n T.n,.map (some bk),.int .i64 ((T.frees:Int)+(if T.now b=0/\T.kept b=0 then -1 else 0)+(if v=0/\T.kept b=0 then 1 else 0)),.int .i64 ((T.waits:Int)+(if T.now b=0/\T.kept b≠0 then -1 else 0)+(if v=0/\T.kept b≠0 then 1 else 0))] 215 (0,0)))
  (hm:KMap Tryz.prog 3 33 w4 bk T.n (T.set b v).keptAt) (hg:(w1.setCell ⟨bc,b,none⟩ (.int .u16 (v:Int))).grownBy w4 (some bk)) :
  TallyAt w4 t bc bk (T.set b v)/\Chg [t,bc,bk] w w4:=by
 have lt0:=h.lt0;have lt1:=h.lt1;have lt2:=h.lt2;have n1:=h.ne;have n2:=h.ne1;have n3:=h.ne2;have hcs:w1.heap[bc]?=some (.cells (u16s T.n T.now) 33 (0,0)):=(hc1.block _ lt1 (fun hi=>n1 (hL _ hi).symm)).trans h.cs
 have e1:(T.frees:Int)+(if T.now b=0/\T.kept b=0 then -1 else 0)+(if v=0/\T.kept b=0 then 1 else 0)=((T.set b v).frees:Int):=by
  have:=frees_set T v hb;by_cases q1:T.now b=0 <;> by_cases q2:v=0 <;> by_cases q3:T.kept b=0 <;> simp [Tal.free,Tal.set,q1,q2,q3] at this ⊢ <;> omega
 have e2:(T.waits:Int)+(if T.now b=0/\T.kept b≠0 then -1 else 0)+(if v=0/\T.kept b≠0 then 1 else 0)=((T.set b v).waits:Int):=by
  have:=waits_set T v hb;by_cases q1:T.now b=0 <;> by_cases q2:v=0 <;> by_cases q3:T.kept b=0 <;> simp [Tal.waitB,Tal.set,q1,q2,q3] at this ⊢ <;> omega
 rw [e1,e2] at ht2;have s0:t<w1.heap.size:=zhl ht2;have s1:bc<w1.heap.size:=zhl hcs
 have b0:w4.heap[t]?=w1.heap[t]?:=by
  rw [hg.block t (by simpa [World.setCell] using s0) (by simp [n2]),zso _ _ n1]
 have b1:w4.heap[bc]?=some (.cells ((u16s T.n T.now).setIfInBounds b (.int .u16 (v:Int))) 33 (0,0)):=by
  rw [hg.block bc (by simpa [World.setCell] using s1) (by simp [n3]),zsb hcs]
 refine ⟨⟨h.n1,h.n2,?_,h.kept,b0.trans ht2,?_,hm,n1⟩,?_⟩
 ·intro i hi
  simp only [Tal.set]
  split
  ·exact hv
  ·exact h.now i hi
 ·rw [b1,u16s_set hb];rfl
 ·refine Chg.then (L':=[bc,bk]) (hc1.mono (fun i hi=>by rw [hL i hi];simp)) ?_ (by simp)
  exact Chg.trans ((Chg.refl _ _).setCell (.inl (by simp)) _) (Chg.grown (Chg.refl _ _) hg (by simp))
theorem set_at {w:World} {t bc bk:Nat} {T:Tal} (h:TallyAt w t bc bk T) (b v:Nat) (hb:b<T.n) (hv:v<=65535) :
  Calls Tryz.prog 149 #[.pointer (some ⟨t,0,none⟩),.int .i64 (b:Int),.int .u16 (v:Int)] w fun e w'=>e = .returned (.tuple #[])/\TallyAt w' t bc bk (T.set b v)/\Chg [t,bc,bk] w w':=by
 have n2:=h.n2;have fl:=h.frees_le;have wl:=h.waits_le;have lt0:=h.lt0;have lt1:=h.lt1;have lt2:=h.lt2;have ne0:=h.ne;have ne1:=h.ne1;have ne2:=h.ne2;have hkb:=h.kept b hb;have hnb:=h.now b hb;have c0:=h.c0;have cc:=h.cc hb;have hA:TallyAt (w.alloc (.cells #[.pointer (some ⟨t,0,none⟩)] 39)) t bc bk T:=h.chg ((Chg.refl [] w).alloc _) (by simp) (by simp) (by simp);have hcW:Chg [] w ((w.alloc (.cells #[.pointer (some ⟨t,0,none⟩)] 39)).alloc (.cells #[.int .u16 (T.kept b:Int)] 33)):=((Chg.refl [] w).alloc _).alloc _;have hB:=h.chg hcW (by simp) (by simp) (by simp);have HB:=zh hB.top;have hm0:=hB.map;clear hB;have x0:=znd w (.cells #[.pointer (some ⟨t,0,none⟩)] 39) (.cells #[.int .u16 (T.kept b:Int)] 33);have x1:=znc w (.cells #[.pointer (some ⟨t,0,none⟩)] 39) (.cells #[.int .u16 (T.kept b:Int)] 33);have X0:=zh x0;have X1:=zh x1;clear x0 x1;by_cases hvk:v=T.kept b
 all_goals
  have Hvk:=zh hvk
  first
   | (have hd:((v:Int)==(T.kept b:Int))=true:=by simp [hvk])
   | (have hd:((v:Int)==(T.kept b:Int))=false:=by simp;omega)
  clear hvk;go_enter Tryz.func149,Tryz.ntmps149;go_wp2_with fail;refine (was_at hA b hb).mono ?_;rintro e w' ⟨rfl,rfl⟩;clear hA;go_wp2_with fail;refine (by_any (k:=T.kept b) (f:=T.frees) (g:=T.waits) (s := .slice (some ⟨bc,0,none⟩) T.n T.n) (m := .map (some bk)) (zcb X1.out 0) (zcb X0.out 0) HB.out (by omega) (by omega) (by omega) (by omega) (by omega) (by omega)).mono ?_;rintro e w1 ⟨rfl,ht1,hc1⟩;have X01:=zh ((hc1.block _ (by simp;omega) (by simp;omega)).trans X0.out);have X11:=zh ((hc1.block _ (by simp) (by simp;omega)).trans X1.out);have HT1:=zh ht1;clear ht1;go_wp2_with fail;refine (by_any (k:=T.kept b) (s := .slice (some ⟨bc,0,none⟩) T.n T.n) (m := .map (some bk)) (zcb X11.out 0) (zcb X01.out 0) HT1.out (by omega) (by omega) (by split <;> omega) (by split <;> omega) (by split <;> omega) (by split <;> omega)).mono ?_;rintro e w2 ⟨rfl,ht2,hc2⟩;have X02:=(hc2.block _ (zLl (by simp;omega) hc1.size) (by simp;omega)).trans X01.out;have X12:=(hc2.block _ (zLl (by simp) hc1.size) (by simp;omega)).trans X11.out;have hc:=((hcW.mono (L':=[t]) (by simp)).trans hc1).trans hc2;clear hc1 hc2;have y0:=zcb X02 0;have y1:=zcb X12 0;have y2:=zcb ht2 0;have y3:=zcb ht2 1;have y4:=(hc.cell (p:=⟨bc,b,none⟩) lt1 (by simp;omega)).trans cc;have y5:=(hc.frozen (p:=⟨bc,b,none⟩) lt1 (by simp;omega)).trans (h.cfz b);simp only [tA1,tA3,tA2] at y0 y1 y2 y3;have b0:=zhl X02;have b1:=zhl X12;have Ht2:=zh ht2;have Hc:=zh hc;clear X02 X12 ht2 hc hcW HB X0 X1 X01 X11 HT1 cc c0
  have hm3:KMap Tryz.prog 3 33 (w2.setCell ⟨bc,b,none⟩ (.int .u16 (v:Int))) bk T.n T.keptAt :=
   h.map.same ((zso _ _ ne2.symm).trans (Hc.out.block _ lt2 (by simp;omega)))
  clear hm0
 ·obtain ⟨w4,hrun,hK,hturn⟩:=hm3.del (t:=213) Tryz.underlying3 Tryz.underlying213 hb n2 0
  go_wp2_with fail
  go_end0
  refine ⟨rfl,set_close h hb hv Hc.out (by simp) Ht2.out (hK.congr fun i _=>?_) hturn.grown⟩;simp only [Tal.keptAt,Tal.set]
  split
  ·rename_i e;subst e;rw [if_pos Hvk.out]
  ·rfl
 ·obtain ⟨w4,hrun,hK,hturn⟩:=KMap.put (w:=(w2.setCell ⟨bc,b,none⟩ (.int .u16 (v:Int))).drew) (t:=213) hm3 Tryz.underlying3 Tryz.underlying33 Tryz.underlying213 hb n2 hkb
  go_wp2_with fail
  go_region
  go_wp2_with fail
  go_end0
  have hg:=hturn.grown;refine ⟨rfl,set_close h hb hv Hc.out (by simp) Ht2.out (hK.congr fun i _=>?_) ⟨hg.os,hg.tape,hg.output,hg.size,hg.block⟩⟩;simp only [Tal.keptAt,Tal.set]
  split
  ·rename_i e;subst e;rw [if_neg Hvk.out]
  ·rfl
def upE (T:Tal) (b:Int):Int:=if hasB T b then (if T.now b.toNat=65535 then 81 else 0) else 80
def up (T:Tal) (b:Int):Tal:=if upE T b=0 then T.set b.toNat (T.now b.toNat+1) else T
def downE (T:Tal) (b:Int):Int:=if hasB T b then (if T.now b.toNat=0 then 82 else 0) else 80
def down (T:Tal) (b:Int):Tal:=if downE T b=0 then T.set b.toNat (T.now b.toNat - 1) else T
theorem hasB_iff (T:Tal) (b:Int):hasB T b=true↔0<=b/\b<T.n:=by simp [hasB]
def getV (T:Tal) (b:Int):Int:=if hasB T b then (T.now b.toNat:Int) else 0
theorem keep_frees (T:Tal):T.keep.frees=T.frees+T.waits:=by
 refine cnt_split fun i _=>?_;simp only [Tal.free,Tal.waitB,Tal.keep];by_cases q1:T.now i=0 <;> by_cases q2:T.kept i=0 <;> simp [q1,q2]
theorem keep_waits (T:Tal):T.keep.waits=0:=cnt_zero fun i _=>by
 simp only [Tal.waitB,Tal.keep];by_cases q1:T.now i=0 <;> simp [q1]
section
variable {w:World} {t bc bk:Nat} {T:Tal} (h:TallyAt w t bc bk T)
include h
theorem up_at (b:Int) :
  Calls Tryz.prog 96 #[.pointer (some ⟨t,0,none⟩),.int .i64 b] w fun e w'=>e = .returned (.int .i64 (upE T b))/\TallyAt w' t bc bk (up T b)/\Chg [t,bc,bk] w w':=by
 have n1:=h.n1;have c0:=h.c0;have hz:((T.n:Int)==0)=false:=by simp;omega
 by_cases hh:hasB T b=true
 ·obtain ⟨h0,h1⟩:=(hasB_iff T b).1 hh
  obtain ⟨b,rfl⟩:=Int.eq_ofNat_of_zero_le h0;have hb:b<T.n:=by omega
  have cc:=h.cc hb;have hnb:=h.now b hb;by_cases hm:T.now b=65535
  ·have hd:((T.now b:Int)==65535)=true:=by simp [hm]
   have He:upE T b=81:=by simp [upE,hh,hm]
   clear hm;go_enter Tryz.func96,Tryz.ntmps96;go_wp2_with (first | (go_at_call 90;refine (blocks_at h).mono ?_;rintro e w' ⟨rfl,rfl⟩) | (go_at_call 147;refine (has_at h _).mono ?_;rintro e w' ⟨rfl,rfl⟩));go_ret;exact ⟨by rw [He];rfl,by simpa [up,He] using h,Chg.refl _ _⟩
  ·have hd:((T.now b:Int)==65535)=false:=by simp;omega
   have He:upE T b=0:=by simp [upE,hh,hm]
   have Hu:up T b=T.set b (T.now b+1):=by simp [up,He]
   have hlt:T.now b+1<=65535:=by omega
   have hw:IntKind.u16.wrap ((T.now b:Int)+1)=((T.now b+1:Nat):Int):=by
    rw [IntWalk.u16_in ((T.now b:Int)+1) ⟨by omega,by omega⟩];omega
   clear hm;go_enter Tryz.func96,Tryz.ntmps96;go_wp2_with (first | (go_at_call 90;refine (blocks_at h).mono ?_;rintro e w' ⟨rfl,rfl⟩) | (go_at_call 147;refine (has_at h _).mono ?_;rintro e w' ⟨rfl,rfl⟩));refine (set_at h b (T.now b+1) hb hlt).mono ?_;rintro e w1 ⟨rfl,hT,hC⟩;go_wp2_with fail;go_ret;exact ⟨by rw [He];rfl,by rw [Hu];exact hT,hC⟩
 ·have hh':hasB T b=false:=by simpa using hh
  have He:upE T b=80:=by simp [upE,hh']
  clear hh;go_enter Tryz.func96,Tryz.ntmps96;go_wp2_with (first | (go_at_call 90;refine (blocks_at h).mono ?_;rintro e w' ⟨rfl,rfl⟩) | (go_at_call 147;refine (has_at h _).mono ?_;rintro e w' ⟨rfl,rfl⟩));go_ret;exact ⟨by rw [He];rfl,by simpa [up,He] using h,Chg.refl _ _⟩
theorem down_at (b:Int) :
  Calls Tryz.prog 94 #[.pointer (some ⟨t,0,none⟩),.int .i64 b] w fun e w'=>e = .returned (.int .i64 (downE T b))/\TallyAt w' t bc bk (down T b)/\Chg [t,bc,bk] w w':=by
 have n1:=h.n1;have c0:=h.c0;have hz:((T.n:Int)==0)=false:=by simp;omega
 by_cases hh:hasB T b=true
 ·obtain ⟨h0,h1⟩:=(hasB_iff T b).1 hh
  obtain ⟨b,rfl⟩:=Int.eq_ofNat_of_zero_le h0;have hb:b<T.n:=by omega
  have cc:=h.cc hb;have hnb:=h.now b hb;by_cases hm:T.now b=0
  ·have hd:((T.now b:Int)==0)=true:=by simp [hm]
   have He:downE T b=82:=by simp [downE,hh,hm]
   clear hm;go_enter Tryz.func94,Tryz.ntmps94;go_wp2_with (first | (go_at_call 90;refine (blocks_at h).mono ?_;rintro e w' ⟨rfl,rfl⟩) | (go_at_call 147;refine (has_at h _).mono ?_;rintro e w' ⟨rfl,rfl⟩));go_ret;exact ⟨by rw [He];rfl,by simpa [down,He] using h,Chg.refl _ _⟩
  ·have hd:((T.now b:Int)==0)=false:=by simp;omega
   have He:downE T b=0:=by simp [downE,hh,hm]
   have Hu:down T b=T.set b (T.now b - 1):=by simp [down,He]
   have hlt:T.now b - 1<=65535:=by omega
   have hw:IntKind.u16.wrap ((T.now b:Int) - 1)=((T.now b - 1:Nat):Int):=by
    rw [IntWalk.u16_in ((T.now b:Int) - 1) ⟨by omega,by omega⟩];omega
   clear hm;go_enter Tryz.func94,Tryz.ntmps94;go_wp2_with (first | (go_at_call 90;refine (blocks_at h).mono ?_;rintro e w' ⟨rfl,rfl⟩) | (go_at_call 147;refine (has_at h _).mono ?_;rintro e w' ⟨rfl,rfl⟩));refine (set_at h b (T.now b - 1) hb hlt).mono ?_;rintro e w1 ⟨rfl,hT,hC⟩;go_wp2_with fail;go_ret;exact ⟨by rw [He];rfl,by rw [Hu];exact hT,hC⟩
 ·have hh':hasB T b=false:=by simpa using hh
  have He:downE T b=80:=by simp [downE,hh']
  clear hh;go_enter Tryz.func94,Tryz.ntmps94;go_wp2_with (first | (go_at_call 90;refine (blocks_at h).mono ?_;rintro e w' ⟨rfl,rfl⟩) | (go_at_call 147;refine (has_at h _).mono ?_;rintro e w' ⟨rfl,rfl⟩));go_ret;exact ⟨by rw [He];rfl,by simpa [down,He] using h,Chg.refl _ _⟩
theorem get_at (b:Int) :
  Calls Tryz.prog 92 #[.pointer (some ⟨t,0,none⟩),.int .i64 b] w fun e w'=>e = .returned (.int .i64 (getV T b))/\w=w':=by
 have n1:=h.n1;have c0:=h.c0;by_cases hh:hasB T b=true
 ·obtain ⟨h0,h1⟩:=(hasB_iff T b).1 hh
  obtain ⟨b,rfl⟩:=Int.eq_ofNat_of_zero_le h0;have hb:b<T.n:=by omega
  have cc:=h.cc hb;have hnb:=h.now b hb;have He:getV T b=(T.now b:Int):=by simp [getV,hh]
  go_enter Tryz.func92,Tryz.ntmps92;go_wp2_with (first | (go_at_call 147;refine (has_at h _).mono ?_;rintro e w' ⟨rfl,rfl⟩));go_ret;exact ⟨by rw [He];rfl,rfl⟩
 ·have hh':hasB T b=false:=by simpa using hh
  have He:getV T b=0:=by simp [getV,hh']
  clear hh;go_enter Tryz.func92,Tryz.ntmps92;go_wp2_with (first | (go_at_call 147;refine (has_at h _).mono ?_;rintro e w' ⟨rfl,rfl⟩));go_ret;exact ⟨by rw [He];rfl,rfl⟩
def freeB (T:Tal) (b:Int):Bool:=hasB T b&&T.free b.toNat
theorem free_at (b:Int) :
  Calls Tryz.prog 130 #[.pointer (some ⟨t,0,none⟩),.int .i64 b] w fun e w'=>e = .returned (.bool (freeB T b))/\w=w':=by
 have n1:=h.n1;have c0:=h.c0;by_cases hh:hasB T b=true
 ·obtain ⟨h0,h1⟩:=(hasB_iff T b).1 hh
  obtain ⟨b,rfl⟩:=Int.eq_ofNat_of_zero_le h0;have hb:b<T.n:=by omega
  have cc:=h.cc hb;have hnb:=h.now b hb;by_cases hm:T.now b=0
  ·have hd:((T.now b:Int)==0)=true:=by simp [hm]
   have He:freeB T b=((T.kept b:Int)==0):=by simp [freeB,Tal.free,hh,hm];rw [Bool.eq_iff_iff];simp
   clear hm;go_enter Tryz.func130,Tryz.ntmps130;go_wp2_with (first | (go_at_call 147;refine (has_at h _).mono ?_;rintro e w' ⟨rfl,rfl⟩) | (go_at_call 166;refine (was_at h _ hb).mono ?_;rintro e w' ⟨rfl,rfl⟩));go_ret;exact ⟨by rw [He];rfl,rfl⟩
  ·have hd:((T.now b:Int)==0)=false:=by simp;omega
   have He:freeB T b=false:=by simp [freeB,Tal.free,hm]
   clear hm;go_enter Tryz.func130,Tryz.ntmps130;go_wp2_with (first | (go_at_call 147;refine (has_at h _).mono ?_;rintro e w' ⟨rfl,rfl⟩) | (go_at_call 166;refine (was_at h _ hb).mono ?_;rintro e w' ⟨rfl,rfl⟩));go_ret;exact ⟨by rw [He];rfl,rfl⟩
 ·have hh':hasB T b=false:=by simpa using hh
  have He:freeB T b=false:=by simp [freeB,hh']
  clear hh;go_enter Tryz.func130,Tryz.ntmps130;go_wp2_with (first | (go_at_call 147;refine (has_at h _).mono ?_;rintro e w' ⟨rfl,rfl⟩));go_ret;exact ⟨by rw [He];rfl,rfl⟩
theorem keep_at :
  Calls Tryz.prog 89 #[.pointer (some ⟨t,0,none⟩)] w fun e w'=>e = .returned (.tuple #[])/\TallyAt w' t bc bk T.keep/\Chg [t,bk] w w':=by
 have n1:=h.n1;have c1:=h.c1;have fl:=h.frees_le;have wl:=h.waits_le;obtain ⟨w1,hrun,hK,hturn⟩:=h.map.clear (t:=213) Tryz.underlying213 0;have hg:=hturn.grown;have ht:=(hg.block t h.lt0 (by simp [h.ne1])).trans h.top;have c2:=zcb ht 2;have c3:=zcb ht 3;have f2:=zfb ht 2;have f3:=zfb ht 3;simp only [tA1,tA3,tA2] at c2 c3;go_enter Tryz.func89,Tryz.ntmps89;go_wp2_with (go_at_call 90;refine (blocks_at h).mono ?_;rintro e w' ⟨rfl,rfl⟩)
 go_region
 go_wp2_with fail
 go_end0
 have hc:Chg [t,bk] w w1:=(Chg.refl _ _).grown hg (by simp)
 have hc2:Chg [t,bk] w ((w1.setCell ⟨t,2,none⟩ (.int .i64 (T.frees+T.waits))).setCell ⟨t,3,none⟩ (.int .i64 0)).drew :=
  ((hc.setCell (.inl (by simp)) _).setCell (.inl (by simp)) _).drew
 refine ⟨rfl,⟨h.n1,h.n2,h.now,h.now,?_,?_,?_,h.ne⟩,hc2⟩
 ·show ((w1.setCell ⟨t,2,none⟩ (.int .i64 (T.frees+T.waits))).setCell ⟨t,3,none⟩ (.int .i64 0)).heap[t]?=_
  rw [zsb (zsb ht 2 _),keep_frees,keep_waits];simp [Tal.keep]
 ·refine (hc2.block bc h.lt1 (by simp;exact ⟨h.ne.symm,h.ne2⟩)).trans h.cs
 ·have e:((w1.setCell ⟨t,2,none⟩ (.int .i64 (T.frees+T.waits))).setCell ⟨t,3,none⟩ (.int .i64 0)).drew.heap[bk]?=w1.heap[bk]?:=by
   show ((w1.setCell ⟨t,2,none⟩ (.int .i64 (T.frees+T.waits))).setCell ⟨t,3,none⟩ (.int .i64 0)).heap[bk]?=_
   rw [zso _ _ h.ne1.symm,zso _ _ h.ne1.symm]
  exact (hK.congr fun i _=>by simp [Tal.keptAt,Tal.keep]).same e
end
theorem info16:(Tryz.prog.info? 33).map (fun i=>(i.zero,i.size,i.bytes))=some (some (.int .u16 0),1,2):=by kernel_rfl
theorem zrow_u16s (n:Nat):zrow n (.int .u16 0)=u16s n (fun _=>0):=by
 apply Array.ext
 ·simp [zrow,u16s]
 ·intro i h1 h2
  simp [zrow,u16s]
theorem new_frees (n:Nat):(Tal.new n).frees=n:=cnt_all fun i _=>by simp [Tal.free,Tal.new]
theorem new_waits (n:Nat):(Tal.new n).waits=0:=cnt_zero fun i _=>by simp [Tal.waitB,Tal.new]
theorem tnew_at (n:Nat) (w:World) (h1:1<=n) (h2:n<=4096) :
  Calls Tryz.prog 106 #[.int .i64 (n:Int)] w fun e w'=>e = .returned (.tuple #[.pointer (some ⟨w.heap.size+2,0,none⟩),.int .i64 0]) /\
   TallyAt w' (w.heap.size+2) w.heap.size (w.heap.size+1) (Tal.new n)/\Chg [] w w':=by
 have hmk:=run_make1 (P:=Tryz.prog) 163 33 Tryz.underlying163 info16 rfl .i64 .i64 n (by omega) (by omega);have hmm := @run_makeMap Tryz.prog;go_enter Tryz.func106,Tryz.ntmps106
 go_wp2
 go_ret2
 have hc:Chg [] w (((w.alloc (.cells (zrow n (.int .u16 0)) 33)).alloc (.map #[] 0)).alloc (.cells #[.slice (some ⟨w.heap.size,0,none⟩) n n,.map (some (w.heap.size+1)),.int .i64 (n:Int),.int .i64 0] 215)) :=
  (((Chg.refl _ _).alloc _).alloc _).alloc _
 refine ⟨rfl,⟨h1,h2,fun _ _=>Nat.zero_le _,fun _ _=>Nat.zero_le _,?_,?_,?_,by omega⟩,hc⟩
 ·have:=znb ((w.alloc (.cells (zrow n (.int .u16 0)) 33)).alloc (.map #[] 0)) (.cells #[.slice (some ⟨w.heap.size,0,none⟩) n n,.map (some (w.heap.size+1)),.int .i64 (n:Int),.int .i64 0] 215)
  simp only [size_alloc'] at this;rw [new_frees,new_waits];exact this
 ·rw [Below.heap_alloc _ _ _ (by simp;omega),Below.heap_alloc _ _ _ (by simp),znb,zrow_u16s];rfl
 ·have hm:=KMap.made (P:=Tryz.prog) (kt:=3) (et:=33) (w.alloc (.cells (zrow n (.int .u16 0)) 33)) n
  simp only [size_alloc'] at hm;refine KMap.same (KMap.congr hm fun i _=>?_) (Below.heap_alloc _ _ _ (by simp));simp [Tal.keptAt,Tal.new]
end Go.Proofs.YtkhcaclndepgbaaGreat
