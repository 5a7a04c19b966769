/- tally.Up, Down, Get, Free, Keep, New. · -/
import Derived.Test.YtegpiomkmfhadaaGreatZo06
import Derived.Carry
import Derived.Deep.DeepCutAuto
import Derived.Deep.CutBlock
set_option linter.all false
set_option maxRecDepth 100000
set_option maxHeartbeats 20000000
namespace Go.Proofs.YtegpiomkmfhadaaGreat
open Go.RowKit
def upE (T:zW) (b:Int):Int:=if XA T b then (if T.now b.toNat=65535 then 81 else 0) else 80
def up (T:zW) (b:Int):zW:=if upE T b=0 then T.set b.toNat (T.now b.toNat+1) else T
def downE (T:zW) (b:Int):Int:=if XA T b then (if T.now b.toNat=0 then 82 else 0) else 80
def down (T:zW) (b:Int):zW:=if downE T b=0 then T.set b.toNat (T.now b.toNat - 1) else T
theorem x7 (T:zW) (b:Int):XA T b=true↔0<=b/\b<T.n:=by simp [XA]
def getV (T:zW) (b:Int):Int:=if XA T b then (T.now b.toNat:Int) else 0
section
variable {w:World} {t bc bk:Nat} {T:zW} (h:zJ w t bc bk T)
include h
theorem wB (b:Int) :
  zC 66 #[zP t,.int .i64 b] w fun e w'=>e = .returned (.int .i64 (upE T b))/\zJ w' t bc bk (up T b)/\zv [t,bc,bk] w w':=by
 have n1:=h.n1;have c0:=h.c0;have:((T.n:Int)==0)=false:=by simp;omega
 by_cases hh:XA T b=true
 ·obtain ⟨h0,h1⟩:=(x7 T b).1 hh
  obtain ⟨b,rfl⟩:=Int.eq_ofNat_of_zero_le h0;have hb:b<T.n:=zo;have cc:=h.cc hb;have:=h.now b hb;by_cases hm:T.now b=65535
  ·have hd:((T.now b:Int)==65535)=true:=by simp [hm]
   have He:upE T b=81:=by simp [upE,hh,hm]
   clear hm;go_enter Tryz.func66,Tryz.ntmps66;go_wp2_with (first | (go_at_call 69;refine zm (xI h) ?_) | (go_at_call 119;refine zm (Z0 h _) ?_));go_ret;exact ⟨by rw [He];rfl,by simpa [up,He] using h,zv.refl _ _⟩
  ·have hd:((T.now b:Int)==65535)=false:=by simp;omega
   have He:upE T b=0:=by simp [upE,hh,hm]
   have Hu:up T b=T.set b (T.now b+1):=by simp [up,He]
   have BY:T.now b+1<=65535:=zo
   have:IntKind.u16.wrap ((T.now b:Int)+1)=((T.now b+1:Nat):Int):=by
    rw [IntWalk.u16_in ((T.now b:Int)+1) ⟨zo,zo⟩];omega
   clear hm;go_enter Tryz.func66,Tryz.ntmps66;go_wp2_with (first | (go_at_call 69;refine zm (xI h) ?_) | (go_at_call 119;refine zm (Z0 h _) ?_));refine (rK h b (T.now b+1) hb BY).mono ?_;rintro e w1 ⟨rfl,hT,hC⟩;go_wp2_with fail;go_ret;exact ⟨by rw [He];rfl,by rw [Hu];exact hT,hC⟩
 ·have SE:XA T b=false:=by simpa using hh
  have He:upE T b=80:=by simp [upE,SE]
  clear hh;go_enter Tryz.func66,Tryz.ntmps66;go_wp2_with (first | (go_at_call 69;refine zm (xI h) ?_) | (go_at_call 119;refine zm (Z0 h _) ?_));go_ret;exact ⟨by rw [He];rfl,by simpa [up,He] using h,zv.refl _ _⟩
theorem uI (b:Int) :
  zC 74 #[zP t,.int .i64 b] w fun e w'=>e = .returned (.int .i64 (downE T b))/\zJ w' t bc bk (down T b)/\zv [t,bc,bk] w w':=by
 have n1:=h.n1;have c0:=h.c0;have:((T.n:Int)==0)=false:=by simp;omega
 by_cases hh:XA T b=true
 ·obtain ⟨h0,h1⟩:=(x7 T b).1 hh
  obtain ⟨b,rfl⟩:=Int.eq_ofNat_of_zero_le h0;have hb:b<T.n:=zo;have cc:=h.cc hb;have:=h.now b hb;by_cases hm:T.now b=0
  ·have hd:((T.now b:Int)==0)=true:=by simp [hm]
   have He:downE T b=82:=by simp [downE,hh,hm]
   clear hm;go_enter Tryz.func74,Tryz.ntmps74;go_wp2_with (first | (go_at_call 69;refine zm (xI h) ?_) | (go_at_call 119;refine zm (Z0 h _) ?_));go_ret;exact ⟨by rw [He];rfl,by simpa [down,He] using h,zv.refl _ _⟩
  ·have hd:((T.now b:Int)==0)=false:=by simp;omega
   have He:downE T b=0:=by simp [downE,hh,hm]
   have Hu:down T b=T.set b (T.now b - 1):=by simp [down,He]
   have BY:T.now b - 1<=65535:=zo
   have:IntKind.u16.wrap ((T.now b:Int) - 1)=((T.now b - 1:Nat):Int):=by
    rw [IntWalk.u16_in ((T.now b:Int) - 1) ⟨zo,zo⟩];omega
   clear hm;go_enter Tryz.func74,Tryz.ntmps74;go_wp2_with (first | (go_at_call 69;refine zm (xI h) ?_) | (go_at_call 119;refine zm (Z0 h _) ?_));refine (rK h b (T.now b - 1) hb BY).mono ?_;rintro e w1 ⟨rfl,hT,hC⟩;go_wp2_with fail;go_ret;exact ⟨by rw [He];rfl,by rw [Hu];exact hT,hC⟩
 ·have SE:XA T b=false:=by simpa using hh
  have He:downE T b=80:=by simp [downE,SE]
  clear hh;go_enter Tryz.func74,Tryz.ntmps74;go_wp2_with (first | (go_at_call 69;refine zm (xI h) ?_) | (go_at_call 119;refine zm (Z0 h _) ?_));go_ret;exact ⟨by rw [He];rfl,by simpa [down,He] using h,zv.refl _ _⟩
theorem QD (b:Int) :
  zC 68 #[zP t,.int .i64 b] w fun e w'=>e = .returned (.int .i64 (getV T b))/\w=w':=by
 have n1:=h.n1;have c0:=h.c0;by_cases hh:XA T b=true
 ·obtain ⟨h0,h1⟩:=(x7 T b).1 hh
  obtain ⟨b,rfl⟩:=Int.eq_ofNat_of_zero_le h0;have hb:b<T.n:=zo;have cc:=h.cc hb;have:=h.now b hb;have He:getV T b=(T.now b:Int):=by simp [getV,hh]
  go_enter Tryz.func68,Tryz.ntmps68;go_wp2_with (first | (go_at_call 119;refine zm (Z0 h _) ?_));go_ret;exact ⟨by rw [He];rfl,rfl⟩
 ·have SE:XA T b=false:=by simpa using hh
  have He:getV T b=0:=by simp [getV,SE]
  clear hh;go_enter Tryz.func68,Tryz.ntmps68;go_wp2_with (first | (go_at_call 119;refine zm (Z0 h _) ?_));go_ret;exact ⟨by rw [He];rfl,rfl⟩
def Z1 (T:zW) (b:Int):Bool:=XA T b&&T.free b.toNat
theorem fS (b:Int) :
  zC 105 #[zP t,.int .i64 b] w fun e w'=>e = .returned (.bool (Z1 T b))/\w=w':=by
 have n1:=h.n1;have c0:=h.c0;by_cases hh:XA T b=true
 ·obtain ⟨h0,h1⟩:=(x7 T b).1 hh
  obtain ⟨b,rfl⟩:=Int.eq_ofNat_of_zero_le h0;have hb:b<T.n:=zo;have cc:=h.cc hb;have:=h.now b hb;by_cases hm:T.now b=0
  ·have hd:((T.now b:Int)==0)=true:=by simp [hm]
   have He:Z1 T b=((T.kept b:Int)==0):=by simp [Z1,zW.free,hh,hm];rw [Bool.eq_iff_iff];simp
   clear hm;go_enter Tryz.func105,Tryz.ntmps105;go_wp2_with (first | (go_at_call 119;refine zm (Z0 h _) ?_) | (go_at_call 156;refine zm (kN h _ hb) ?_));go_ret;exact ⟨by rw [He];rfl,rfl⟩
  ·have hd:((T.now b:Int)==0)=false:=by simp;omega
   have He:Z1 T b=false:=by simp [Z1,zW.free,hm]
   clear hm;go_enter Tryz.func105,Tryz.ntmps105;go_wp2_with (first | (go_at_call 119;refine zm (Z0 h _) ?_) | (go_at_call 156;refine zm (kN h _ hb) ?_));go_ret;exact ⟨by rw [He];rfl,rfl⟩
 ·have SE:XA T b=false:=by simpa using hh
  have He:Z1 T b=false:=by simp [Z1,SE]
  clear hh;go_enter Tryz.func105,Tryz.ntmps105;go_wp2_with (first | (go_at_call 119;refine zm (Z0 h _) ?_));go_ret;exact ⟨by rw [He];rfl,rfl⟩
end
theorem kO:(Tryz.prog.info? 98).map (fun i=>(i.zero,i.size,i.bytes))=some (some (.int .u16 0),1,2):=zab
theorem od (n:Nat):zO n (.int .u16 0)=Jh n (fun _=>0):=by
 apply Array.ext
 ·simp [zO,Jh]
 ·intro i h1 h2
  simp [zO,Jh]
theorem dO (n:Nat):(zW.new n).frees=n:=J9 fun i _=>by simp [zW.free,zW.new]
theorem oe (n:Nat):(zW.new n).waits=0:=qM fun i _=>by simp [zW.waitB,zW.new]
theorem uJ (n:Nat) (w:World) (h1:1<=n) (h2:n<=4096) :
  zC 86 #[.int .i64 (n:Int)] w fun e w'=>e = .returned (.tuple #[zP (w.heap.size+2),.int .i64 0]) /\
   zJ w' (w.heap.size+2) w.heap.size (w.heap.size+1) (zW.new n)/\zv [] w w':=by
 have EA:=xW (P:=Tryz.prog) 190 98 Tryz.underlying190 kO rfl .i64 .i64 n zo zo;have hmm := @run_makeMap Tryz.prog;go_enter Tryz.func86,Tryz.ntmps86
 go_wp2
 go_ret2
 have hc:zv [] w (((w.alloc (.cells (zO n (.int .u16 0)) 98)).alloc (.map #[] 0)).alloc (.cells #[zS w.heap.size n n,.map (some (w.heap.size+1)),.int .i64 (n:Int),.int .i64 0] 217)) :=
  (((zv.refl _ _).alloc _).alloc _).alloc _
 refine ⟨rfl,⟨h1,h2,fun _ _=>yg _,fun _ _=>yg _,?_,?_,?_,zo⟩,hc⟩
 ·have:=xo ((w.alloc (.cells (zO n (.int .u16 0)) 98)).alloc (.map #[] 0)) (.cells #[zS w.heap.size n n,.map (some (w.heap.size+1)),.int .i64 (n:Int),.int .i64 0] 217)
  simp only [zD] at this;rw [dO,oe];exact this
 ·rw [Below.heap_alloc _ _ _ zae,Below.heap_alloc _ _ _ zaa,xo,od];rfl
 ·have hm:=YG.made (P:=Tryz.prog) (kt:=3) (et:=98) (w.alloc (.cells (zO n (.int .u16 0)) 98)) n
  simp only [zD] at hm;refine YG.same (YG.congr hm fun i _=>?_) (Below.heap_alloc _ _ _ zaa);simp [zW.keptAt,zW.new]
open Go.RowKit Go.Shelf
attribute [local go_sem] Oper.semAt_some
theorem uK {f:zF} {p:Nat} (h:∀ i,i<2->f (p+i)<=255):Zu f p 2<65536:=VP (k:=2) h
def kP (f:zF) (k:Nat):Array Value:=#[.int .i64 (k:Int),.int .u16 (Zu f (1+2*k) 2:Int)]
theorem fT (n:Nat) (a:Option Addr) (len cap:Nat) (w:World):CallsIn Fence.wide n Tryz.prog 228 #[.slice a len cap] w fun e w'=>e = .returned (.func (.func 234) #[] #[zP w.heap.size])/\w.alloc (.cells #[.slice a len cap] 81)=w':=by
 refine callsIn_of_wp Tryz.func228 rfl trivial ?_ rfl;simp only [Tryz.ntmps228,List.size_toArray,yu,List.length_nil,Nat.reduceAdd,Nat.reduceSub,Array.replicate_succ,Array.replicate_zero,List.push_toArray,yE,yy,yK]
 gi_wp2
 go_ret;exact ⟨rfl,rfl⟩
theorem aN (n:Nat) (hn:2<=n) (B0 g cap:Nat) (f:zF) (Lw:List Nat) (w:World) (hB:w.cell? ⟨B0,0,none⟩=some (zS g 123 cap)) (hb:zB w g 0 123 f) (hc:123<=cap) (F8:cap<=9223372036854775807) (h1:B0∉Lw) (h2:g∉Lw) (hg:g<w.heap.size) :
  gZ Fence.wide n Tryz.prog 234 #[zP B0] (kP f) 61 Lw w:=by
 intro l J Jx W hW Dt hl hJ U3 hY L7;have KV:B0<w.heap.size:=yc w ⟨B0,0,none⟩ hB;have R9:=(hW.cell (p:=⟨B0,0,none⟩) KV).trans hB;have LC:zB W g 0 123 f:=fun i hi=>⟨(hW.cell (p:=⟨g,0+i,none⟩) hg).trans (hb i hi).1,(hb i hi).2⟩;have HBW:=zh LC;clear hB hb LC;refine callsIn_of_wp Tryz.func234 rfl trivial ?_ rfl;simp only [Tryz.ntmps234,List.size_toArray,yu,List.length_nil,Nat.reduceAdd,Nat.reduceSub,Array.replicate_succ,Array.replicate_zero,List.push_toArray,yE,yy,yK]
 gi_wp2
 gi_loopw [6] (fun i wr=>∃ k:Nat,k<=61/\i = .int .i64 (k:Int)/\J k wr/\zv (l::Lw) W wr) (fun i _=>(61 - intOf i).toNat)
 case atStart=>exact ⟨0,yg _,zaa,L7,zv.refl _ _⟩
 case round =>
  obtain ⟨k,hk,rfl,PL,IT⟩:=hrel;have hBr:=(IT.cell (p:=⟨B0,0,none⟩) (qe KV hW.size) (by simp only [ya,not_or];exact ⟨zo,h1⟩)).trans R9;by_cases BY:k<61
  ·obtain ⟨fn,tmps,assign,body,hy,hR⟩:=hY k wr PL BY
   have TQ:zB wr g 0 123 f:=HBW.chg IT (by simp only [ya,not_or];exact ⟨zo,h2⟩);have cg:=Q0 TQ hc F8 zo (1+2*k) 2 zo zo zo;have hv:=uK (f:=f) (p:=1+2*k) (fun i hi=>(by have:=(HBW (1+2*k+i) zo).2;exact this));unfold kP at hy;obtain ⟨v,Rs⟩:=zE (Zu f (1+2*k) 2);rw [<- Rs] at cg hv hy;rw [show ((1+2*k:Nat):Int)=1+2*(k:Int) from by omega,show ((2:Nat):Int)=2 from rfl] at cg;have E1:IntKind.u16.wrap (v:Int)=(v:Int):=by rw [IntKind.wrap_u16];omega
   have CG:=zh (callsIn_wide (n:=n - 1).2 cg);have i1:(k:Int)<61:=zo
   clear Rs TQ cg
   gi_wp2
   refine ⟨trivial,fun _=>zo,CG.mono ?_⟩;rintro e w' ⟨rfl,rfl⟩
   gi_wp2
   refine ⟨fun _=>zo,hR.mono ?_⟩;rintro e W3 (⟨rfl,U2,Eu⟩ | ⟨rfl,Sa,Eu⟩)
   ·gi_wp2
    go_roundw
    case rel=>exact ⟨k+1,zo,zac,U2,IT.trans Eu⟩
    case measure=>simp [intOf];omega
   ·gi_wp2
    refine bodyPost_ret (results_none rfl _ _ _) rfl ?_;exact ⟨⟨_,rfl⟩,.inr ⟨k+1,zo,Sa⟩⟩
  ·obtain rfl:k=61:=zo
   gi_wp2
   go_end0
   exact ⟨⟨_,rfl⟩,.inl PL⟩
theorem ir {w:World} {kind n b off cap:Nat} {f l:zF} (hk:kind=4∨kind=5) (hn:n<=61) (hl:∀ i,i<n->l i<65536) (hb:zB w b off 128 f) (hcap:128<=cap) (F8:cap<=9223372036854775807) (hf:∀ i,i<128->f i=Qy kind n l i) :
  zC 203 #[.int .u8 (kind:Int),.slice (some ⟨b,off,none⟩) 128 cap] w fun e w'=>∃ g c,e = .returned (.tuple #[zS g n c,.int .i64 0])/\n<=c/\c<=maxLen/\w.heap.size<=g/\ii w' (some ⟨g,0,none⟩) n l/\zv [] w w':=by
 refine (callsIn_wide (n:=8)).1 ?_;refine callsIn_of_wp_marks Tryz.func203 rfl trivial ?_ rfl;simp only [Tryz.ntmps203,List.size_toArray,yu,List.length_nil,Nat.reduceAdd,Nat.reduceSub,Array.replicate_succ,Array.replicate_zero,List.push_toArray,yE,yy,yK];have hp:qF f:=J3 (fun i hi=>(hf i hi).symm) (mv _ _ _);have Fv:f 0=kind:=by rw [hf 0 zo];exact kJ _ _ _
 have Im:∀ i,i<123->f (1+i)=dg n l i:=fun i hi=>by rw [hf (1+i) zo];exact ru _ _ _ hi
 have cr:=fun w=>aI (w:=w) (kind:=kind) hk
 gi_wp2
 obtain ⟨W0,D4⟩:=zE ((w.alloc (.cells #[.slice none 0 0] 190)).alloc (.cells #[.int .i64 0] 29));have Ef:zv [] w W0:=by rw [D4];exact ((zv.refl [] w).alloc _).alloc _
 have k0:W0.heap[w.heap.size]?=some (.cells #[.slice none 0 0] 190 (0,0)):=by rw [D4];exact kC _ _ _
 have k1:W0.heap[w.heap.size+1]?=some (.cells #[.int .i64 0] 29 (0,0)):=by rw [D4];exact cZ _ _ _
 rw [<- D4];have F6:W0.heap.size=w.heap.size+2:=by rw [D4];simp
 obtain ⟨s,hs⟩:=zE w.heap.size;rw [<- hs] at k0 k1 F6 ⊢;have HS:=zh (zA hs F6);have Df:=zh Ef;have HK:=zh (zA k0 k1);have co:=YM (hb.chg Ef) hcap F8 hp;have CO:=zh co;have IQ:=zh (zA Fv Im);have HL:=zh hl;clear D4 Ef k0 k1 hs F6 co hp Im hf hb hl;refine ⟨trivial,(callsIn_wide.2 CO).mono ?_⟩;rintro e w1 ⟨g,c,rfl,q1,q2,q3,q4,q5,q6⟩;rw [IQ.1];have HO:=zh (zA q1 (zA q2 (zA q3 (zA q4 (zA q5 q6)))));clear q1 q2 q3 q4 q5 q6 CO Fv;have i0:((kind:Int)==(kind:Int))=true:=zaa
 gi_wp2
 refine ⟨trivial,(callsIn_wide.2 (cr _)).mono ?_⟩;rintro e w' ⟨rfl,rfl⟩;have B5:zv [] W0 (w1.alloc (.cells #[zS g 123 c] 81)):=HO.2.2.2.2.2.alloc _;have kb:=xo w1 (.cells #[zS g 123 c] 81);obtain ⟨B1,EI⟩:=zE w1.heap.size;have EQ:g<w1.heap.size:=HO.2.2.2.1;have hBD:zB (w1.alloc (.cells #[zS g 123 c] 81)) g 0 123 (fun i=>f (1+i)):=HO.2.2.2.2.1.chg ((zv.refl [] w1).alloc _);rw [<- EI] at kb ⊢;generalize w1.alloc (.cells #[zS g 123 c] 81)=W1 at *;have d0:W1.cell? ⟨B1,0,none⟩=some (zS g 123 c):=(zM kb 0).trans rfl
 have d1:W1.cell? ⟨g,0,none⟩=some (.int .u8 (n:Int)):=by
  have h:W1.cell? ⟨g,0,none⟩=some (.int .u8 (f (1+0):Int)):=(hBD 0 zo).1;rw [IQ.2 0 zo] at h;exact h
 have EA:(Instr.makeSlice 190 (.int .i64 0) (.int .u8 (n:Int))).run Tryz.prog W1 = .ok (zS W1.heap.size 0 n) (W1.alloc (.cells (madeCells #[.int .u16 0] (n*1)) 98)):=by
  obtain ⟨i,e1,e2,e3,e4⟩:=info_parts kO;have hr:=run_make (P:=Tryz.prog) W1 190 98 i _ Tryz.underlying190 e1 e2 .i64 .u8 0 n zo zo (by rw [e4];omega) zo;rw [yz,e3] at hr;exact hr
 have i61:¬ (61:Int)<(n:Int):=zo;have HD:=zh (zA kb hBD);have Ce:=zh B5;have LV:=zh (zA EQ EI);have gl1:=zz kb;have gl2:g<W1.heap.size:=yc W1 ⟨g,0,none⟩ d1;clear cr kb hBD B5 EQ EI
 gi_wp2
 rw [Nat.mul_one] at EA;have BW:zv [] W1 ((W1.alloc (.cells (madeCells #[.int .u16 0] n) 98)).alloc (.cells #[zS W1.heap.size 0 n] 190)):=((zv.refl [] W1).alloc _).alloc _;have ka:=kC W1 (.cells (madeCells #[.int .u16 0] n) 98) (.cells #[zS W1.heap.size 0 n] 190);have ko:=cZ W1 (.cells (madeCells #[.int .u16 0] n) 98) (.cells #[zS W1.heap.size 0 n] 190);refine ⟨trivial,(fT 7 (some ⟨g,0,none⟩) 123 c _).mono ?_⟩;rintro e w' ⟨rfl,rfl⟩;have LH:((W1.alloc (.cells (madeCells #[.int .u16 0] n) 98)).alloc (.cells #[zS W1.heap.size 0 n] 190)).heap.size=W1.heap.size+2:=zaa
 generalize (W1.alloc (.cells (madeCells #[.int .u16 0] n) 98)).alloc (.cells #[zS W1.heap.size 0 n] 190)=W2 at *;have Ci:=(zv.refl [] W2).alloc (.cells #[zS g 123 c] 81);have kn:=xo W2 (.cells #[zS g 123 c] 81);have Hj:(W2.alloc (.cells #[zS g 123 c] 81)).heap.size=W2.heap.size+1:=zaa
 obtain ⟨bg,hbg⟩:=zE W1.heap.size;rw [<- hbg] at ka ko LH ⊢;have LQ:=(Ci.block bg (zz ka) zaa).trans ka;have ko3:=(Ci.block (bg+1) (zz ko) zaa).trans ko;rw [LH] at kn Hj ⊢;have hD3:=(HD.2.chg BW).chg Ci;have L4:=(Ci.block B1 zo zaa).trans ((BW.block B1 gl1 zaa).trans HD.1);generalize W2.alloc (.cells #[zS g 123 c] 81)=W3 at *;have DN:=aN 7 zo (bg+2) g c (fun i=>f (1+i)) [bg+1,bg] W3 ((zM kn 0).trans rfl) hD3 HO.1 (by have:=HO.2.1;unfold maxLen at this;exact this) zaa zao zo;have Cj:=zh ((Ce.trans BW).trans Ci);have ML:W3.ownsRow bg 98 1 (zS bg 0 n) 0 []:=⟨zaa,.inr ⟨bg,n,_,rfl,xd _,LQ,yg _,by unfold maxLen;omega,by simp [size_madeCells],zaa⟩⟩;have HI:=zh DN;have HD3:=zh hD3;have gl3:g<bg:=zo
 have gl4:B1<bg:=zo;have gl5:bg+2<W3.heap.size:=zo;clear BW ka ko Ci kn hD3 EA d0 d1 DN hbg LH Hj gl1 gl2
 gi_wp2
 refine ZY rfl zo (gf:=234) (lb:=#[zP (bg+2)]) rfl trivial (enters_of Tryz.func234 zab rfl) HI (by intro x hx;simp only [ya,yk,or_false] at hx;omega) (fun _=>rfl)
  (fun k W=>zv [bg+1,bg] W3 W/\W.heap[bg+1]?=some (.cells #[zS bg (min k n) n] 190 (0,0))/\W.ownsRow bg 98 1 (zS bg (min k n) n) (min k n) ((List.range (min k n)).map fun i => .int .u16 (l i:Int)))
  (fun c k W=>False)
  (fun k A B h Cq=>⟨h.1.afar Cq,(Cq.block _ zo).trans h.2.1,Yu h.2.2 (fun q hq=>Cq.block q (by simp [Value.ownBlock] at hq;omega))⟩)
  (fun c k A B h Cq=>h)
  ⟨zv.refl _ _,by rw [Nat.zero_min];exact ko3,by rw [Nat.zero_min];exact ML⟩ ?round ?done (fun D c k W hD hk h hK=>h.elim)
 case round =>
  intro l' k W Dj DI hI hk;obtain ⟨ET,ho,hr⟩:=hI
  have Cv:Zu (fun i=>f (1+i)) (1+2*k) 2=if k<n then l k else 0:=by
   rw [<- rx HL.o (n:=n) (k:=k)];exact Zc 2 fun i hi=>IQ.2 _ zo
  unfold kP;rw [Cv];have HX:=zh (zA ET (zA ho hr));obtain ⟨m,hm⟩:=zE (min k n);obtain ⟨v,hv⟩:=zE (if k<n then l k else 0);rw [<- hv];have HV:=zh hv;have HM:=zh hm;clear Cv ET ho hr hv hm
  gi_wp2
  refine ⟨zv.refl _ _,fun W4 Cd=>?_⟩;have nl:∀ q,q<W3.heap.size->q∉[l']:=fun q hq=>by simp only [zms];omega
  have Ex:=(Cd.block B1 (zq HX.1.size) (nl _ zo)).trans ((HX.1.block B1 zo zao).trans L4);have d0:W4.cell? ⟨B1,0,none⟩=some (zS g 123 c):=(zM Ex 0).trans rfl;have KD:=(Cd.block (bg+1) (zq HX.1.size) (nl _ zo)).trans HX.2.1;rw [<- HM.o] at KD;have d2:W4.cell? ⟨bg+1,0,none⟩=some (zS bg m n):=(zM KD 0).trans rfl;have f2:=xB KD 0;have SV:=Xg HX.2.2 Cd (fun q hq=>by simp [Value.ownBlock] at hq;subst hq;exact nl _ zo);rw [<- HM.o] at SV;have Ww:zB W4 g 0 123 (fun i=>f (1+i)):=(HD3.chg HX.1 zao).chg Cd (nl _ zo)
  have d1:W4.cell? ⟨g,0,none⟩=some (.int .u8 (n:Int)):=by
   have h:W4.cell? ⟨g,0,none⟩=some (.int .u8 (f (1+0):Int)):=(Ww 0 zo).1;rw [IQ.2 0 zo] at h;exact h
  have C6:=zh (zv.trans (HX.1.mono (L':=[bg+1,bg,l']) zax) (Cd.mo));have Fp:Hd (zv [bg+1,bg] W3 W4):=zh (HX.1.tn Cd Dj);have HO4:=zh (zA KD SV);have lw4:bg+1<W4.heap.size:=zz KD;have lg4:g<W4.heap.size:=zo
  have lb4:B1<W4.heap.size:=zo;clear Ww Cd KD SV Ex LQ ko3 ML nl;by_cases DH:k<n
  ·have i1:(k:Int)<(n:Int):=zo
   have Tz:Hd (m=k/\v=l k):=zh ⟨by rw [HM.o];omega,by rw [HV.o,if_pos DH]⟩;obtain ⟨ti,t1,t2,t3,t4⟩:=info_parts kO
   gi_wp2_with (gi_at_builtin;refine wpListIn_append_fits _ rfl (.tmp 51) (.tmp 53) 190 rfl bg 98 ti 1 Tryz.underlying190 t1 t3 bg m n _ rfl (Xg HO4.2 ((zv.refl [] W4).alloc _) zaa) ⟨W4.heap.size,0,none⟩ 1 1 [.int .u16 (v:Int)] rfl rfl (cell_one_new _ _ _) zaC (zq Tz.1) ?_;intro w5 Ec Dd;have P6:=(Dd.block (bg+1) zae zaa).trans (((zv.refl [] W4).alloc (.cells #[.int .u16 (v:Int)] 98)).block (bg+1) lw4 zaa |>.trans HO4.1);have Pf:=(zM P6 0);simp only [tA1,tA3] at Pf;have Le:=xB P6 0;have MI:=zz P6;have Nx:=zh P6)
   have Da:zv [bg+1,bg] W4 (w5.setCell ⟨bg+1,0,none⟩ (zS bg (m+1) n)):=(((zv.refl [bg+1,bg] W4).alloc _).grown Dd (fun q e => .inl (by injection e with e;subst e;simp))).setCell (.inl zaa) _;have em:min (k+1) n=m+1:=zq Tz.1
   refine ⟨Da,Fp.trans Da,?_,?_⟩
   ·rw [em];exact Yh Nx 0 _
   ·rw [em]
    have hl:(List.range (m+1)).map (fun i=>Value.int .u16 (l i:Int))=(List.range m).map (fun i=>Value.int .u16 (l i:Int))++[.int .u16 (v:Int)]:=by
     rw [zn,List.map_append,Tz.2,Tz.1];rfl
    rw [hl];exact Yu Ec (fun q hq=>ZS 0 _ (by simp [Value.ownBlock] at hq;omega))
  ·have i1:¬ (k:Int)<(n:Int):=zo
   have Tz:Hd (m=n):=zh (by rw [HM.o];omega);obtain rfl:v=0:=by rw [HV.o,if_neg DH]
   gi_wp2
   have em:min (k+1) n=m:=zq Tz.o;exact ⟨zv.refl _ _,Fp.o,by rw [em];exact HO4.1,by rw [em];exact HO4.2⟩
 case done =>
  rintro D W hD ⟨hc,ho,hr⟩ hK;rw [Nat.min_eq_right hn] at ho hr;have d2:W.cell? ⟨bg+1,0,none⟩=some (zS bg n n):=(zM ho 0).trans rfl;have Hj:s+1<bg:=by have:=HS.2;have:=HO.2.2.1;have:=gl3;omega
  have DG:zv [bg+1,bg] W0 W:=(Cj.mo).trans hc;have ks0:=(DG.block s (by have:=HS.2;have:=HS.1;omega) zao).trans HK.1;have ks1:=(DG.block (s+1) (by have:=HS.2;have:=HS.1;omega) zao).trans HK.2;have x0:=(zM ks0 0);have x1:=(zM ks1 0);simp only [tA1,tA3] at x0 x1;have y0:=xB ks0 0;have y1:=xB ks1 0;have z0:=zz ks0;have z1:=zz ks1;have HKS:=zh (zA ks0 ks1);have HR:=zh hr;have Nw:=zh DG;clear ks0 ks1 hr DG LQ ko3 L4 ML
  gi_wp2
  have U4:((W.setCell ⟨s,0,none⟩ (zS bg n n)).setCell ⟨s+1,0,none⟩ (.int .i64 0)).heap[D]?=some (.deferred (some [])):=(ZS 0 _ zo).trans ((ZS 0 _ zo).trans hK);have r0:=(World.putObj_heap_other (w:=(W.setCell ⟨s,0,none⟩ (zS bg n n)).setCell ⟨s+1,0,none⟩ (.int .i64 0)) (o := .deferred none) (show s≠D by omega)).trans ((ZS 0 _ zo).trans (Yh HKS.1 0 (zS bg n n)));have r1:=(World.putObj_heap_other (w:=(W.setCell ⟨s,0,none⟩ (zS bg n n)).setCell ⟨s+1,0,none⟩ (.int .i64 0)) (o := .deferred none) (show s+1≠D by omega)).trans (Yh ((ZS 0 _ zo).trans HKS.2) 0 (.int .i64 0));refine ⟨zaa,.inl ⟨_,_,rfl,run_takeDeferred U4,?_⟩⟩;have cR0:=(zM r0 0).trans (rfl:_=some (Value.slice (some ⟨bg,0,none⟩) n n));have cR1:=(zM r1 0).trans (rfl:_=some (Value.int .i64 0))
  have FF:zv [s,s+1,bg+1,bg] W0 (((W.setCell ⟨s,0,none⟩ (zS bg n n)).setCell ⟨s+1,0,none⟩ (.int .i64 0)).putObj D (.deferred none)) :=
   (((Nw.mono zax).setCell (.inl zaa) _).setCell (.inl zaa) _).tn (Yd _) (zq Cj.size)
  refine ⟨.tuple #[zS bg n n,.int .i64 0],by simp [results,Tryz.results203,go_sem,cR0,cR1],bg,n,rfl,xd _,by unfold maxLen;omega,by have:=HS.1;omega,⟨HL.o,fun h0=>⟨bg,0,rfl,?_,fun i hi=>?_⟩⟩,?_⟩
  ·have:=FF.size;have:=Cj.size;have:=HR.lt bg rfl;show bg<(World.putObj _ _ _).heap.size;rw [World.putObj_size];simp;omega
  ·have n1:bg≠D:=zo
   have n2:bg≠s+1:=zo;have n3:bg≠s:=zo;obtain ⟨g',c',e1,_,_,_,_,BX⟩:=aE HR h0;injection e1 with LY UQ UR;injection LY with LY;injection LY with LY;subst LY;rw [yn];refine (yW ((World.putObj_heap_other n1).trans ((ZS 0 _ n2).trans (ZS 0 _ n3)))).trans ((BX i zo).trans ?_);simp [hi]
  ·exact Df.then FF (fun q hq=>by have:=HS.o;simp only [ya,yk,or_false] at hq;omega)
end Go.Proofs.YtegpiomkmfhadaaGreat
namespace Go.Proofs.YtegpiomkmfhadaaGreat
open Go.RowKit
structure Pk where
 first:Nat
 next:Nat
 asked:Nat
structure Yb (w:World) (p t:Nat) (K:Pk):Prop where
 top:w.heap[p]?=some (.cells #[zP t,.int .i64 (K.first:Int),.int .i64 (K.next:Int),.int .i64 (K.asked:Int)] 197 (0,0))
namespace Yb
variable {w:World} {p t:Nat} {K:Pk}
theorem c0 (h:Yb w p t K):w.cell? ⟨p,0,none⟩=some (zP t):=zM h.top 0
theorem c1 (h:Yb w p t K):w.cell? ⟨p,1,none⟩=some (.int .i64 (K.first:Int)):=zM h.top 1
theorem c2 (h:Yb w p t K):w.cell? ⟨p,2,none⟩=some (.int .i64 (K.next:Int)):=zM h.top 2
theorem fz (h:Yb w p t K) (i:Nat):w.frozen? ⟨p,i,none⟩=false:=xB h.top i
theorem lt (h:Yb w p t K):p<w.heap.size:=zz h.top
theorem chg {w':World} {L:List Nat} (h:Yb w p t K) (c:zv L w w') (h0:p∉L:=by simp):Yb w' p t K:=⟨(c.block _ h.lt h0).trans h.top⟩
end Yb
theorem mA {w:World} {t bc bk:Nat} {T:zW} (h:zJ w t bc bk T) (n:Nat) (hn:n<=T.n) :
  zC 87 #[zP t,.int .i64 (n:Int)] w fun e w'=>e = .returned (.tuple #[zP w.heap.size,.int .i64 0]) /\
   Yb w' w.heap.size t ⟨n,n,0⟩/\zv [] w w':=by
 have:=h.n1;have:((T.n:Int)==0)=false:=by simp;omega
 have:¬ (T.n:Int)<n:=zo;go_enter Tryz.func87,Tryz.ntmps87;go_wp2_with (go_at_call 69;refine zm (xI h) ?_)
 go_ret2
 exact ⟨rfl,⟨xo _ _⟩,(zv.refl _ _).alloc _⟩
section
variable {w:World} {p t:Nat} {K:Pk} (h:Yb w p t K)
include h
theorem iu:zC 103 #[zP p] w fun e w'=>e = .returned (.bool false)/\w=w':=by
 have c0:=h.c0;go_enter Tryz.func103,Tryz.ntmps103
 go_wp2
 go_ret;exact ⟨rfl,rfl⟩
end
end Go.Proofs.YtegpiomkmfhadaaGreat
namespace Go.Proofs.YtegpiomkmfhadaaGreat
open Go.RowKit
variable {w:World} {T:zW} {k p t bc bk b i hi:Nat}
theorem X9 {P:Program} {f:FuncId} {args:Array Value} {n:Nat} {v:Value}
  (h:Calls P f args (w.drewN n) fun e w'=>e = .returned v/\w.drewN n=w'):Calls P f args (w.drewN n) fun e KI=>e = .returned v/\∃ m,KI=w.drewN m :=
 h.mono fun _ _ ⟨he,hm⟩=>⟨he,n,hm.symm⟩
def xO (T:zW) (first:Nat):Int:=(T.frees:Int) - (cnt first T.free:Int)
theorem qO (k:Nat) (p:Nat->Bool):cnt (k+1) p=cnt k p+(if p k then 1 else 0):=rfl
theorem VW (h:k<T.n):Z1 T (k:Int)=T.free k:=by
 have:XA T (k:Int)=true:=(x7 T k).2 zo;simp [Z1,this]
theorem uL {K:Pk} (hp:Yb w p t K) (h:zJ w t bc bk T) (hf:K.first<=T.n) :
  zC 52 #[zP p] w fun e w'=>e = .returned (.int .i64 (xO T K.first))/\w=w':=by
 have c0:=hp.c0;have c1:=hp.c1;have fl:=h.frees_le;have n2:=h.n2;go_enter Tryz.func52,Tryz.ntmps52;go_wp2_with (first | (go_at_call 103;refine zm (iu hp) ?_) | (go_at_call 104;refine zm (rI h) ?_))
 go_loop [3,16] (fun n i=>∃ k:Nat,k<=K.first/\i = .int .i64 k/\n = .int .i64 ((T.frees:Int) - (cnt k T.free:Int))) (fun _ i=>K.first - (intOf i).toNat)
 case atStart=>exact ⟨0,yg _,rfl,by simp [cnt]⟩
 case round =>
  obtain ⟨k,hk,rfl,rfl⟩:=hrel;have Eo:=Yj T.free k;by_cases BY:k<K.first
  ·have Fa:=VW (T:=T) (k:=k) zo
   have Hst:=zh (qO k T.free);have PG:=zh Fa;clear Fa;go_wp2_with (first | (go_at_call 105;refine zm (fS h k) ?_))
   ·have hh:Z1 T (k:Int)=true:=zau
    have e:cnt (k+1) T.free=cnt k T.free+1:=by rw [Hst.o,<- PG.o,hh];rfl
    refine ⟨⟨k+1,zo,zac,?_⟩,by simp [intOf];omega⟩;rw [e];congr 1;omega
   ·have hh:Z1 T (k:Int)=false:=zau
    have e:cnt (k+1) T.free=cnt k T.free:=by rw [Hst.o,<- PG.o,hh];rfl
    refine ⟨⟨k+1,zo,zac,?_⟩,by simp [intOf];omega⟩;rw [e]
  ·go_wp2_with fail
   go_ret;obtain rfl:k=K.first:=zo;exact ⟨rfl,rfl⟩
theorem rL (p:Nat->Bool) {a:Nat} (h:a<=b):cnt a p<=cnt b p:=by
  induction b with
  | zero => obtain rfl : a = 0 := by omega
            exact xd _
  | succ b ih =>
    by_cases e:a=b+1
    · subst e;exact xd _
    · have:=ih zo
      rw [qO];omega
theorem rM {f:Nat} (hf:f<=T.n):0<=xO T f/\xO T f<=T.n:=by
 have:=rL T.free hf;have:=Yj T.free T.n;unfold xO zW.frees;omega
section
variable {w:World} {p t bc bk:Nat} {K:Pk} {T:zW} (hp:Yb w p t K) (h:zJ w t bc bk T)
include hp
theorem iv (v:Nat):Yb (w.setCell ⟨p,2,none⟩ (.int .i64 (v:Int))) p t { K with next:=v } :=
 ⟨by rw [Yh hp.top];rfl⟩
end
def Jo (p:Nat->Bool) (lo:Nat):Nat->Option Nat
 | 0=>none
 | c+1=>if p lo then some lo else Jo p (lo+1) c
theorem Yk {p:Nat->Bool} : ∀ {c lo b:Nat},Jo p lo c=some b->lo<=b/\b<lo+c/\p b=true/\∀ i,lo<=i->i<b->p i=false
 | 0,_,_,h=>by cases h
 | c+1,lo,b,h=>by
  unfold Jo at h;by_cases hp:p lo=true
  ·rw [if_pos hp] at h;cases h
   exact ⟨xd _,zo,hp,fun i _ _=>zo⟩
  ·rw [if_neg hp] at h
   obtain ⟨h1,h2,h3,h4⟩:=Yk h;refine ⟨zo,zo,h3,fun i hi hb=>?_⟩;by_cases e:i=lo
   ·subst e;simpa using hp
   ·exact h4 i zo hb
theorem Yl {p:Nat->Bool} : ∀ {c lo:Nat},Jo p lo c=none->∀ i,lo<=i->i<lo+c->p i=false
 | 0,_,_=>fun i _ _=>zo
 | c+1,lo,h=>fun i h1 h2=>by
  unfold Jo at h;by_cases hp:p lo=true
  ·rw [if_pos hp] at h;cases h
  ·rw [if_neg hp] at h
   by_cases e:i=lo
   ·subst e;simpa using hp
   ·exact Yl h i zo zo
def Ye (T:zW) (K:Pk):Option Nat :=
 match Jo T.free K.next (T.n - K.next) with
 | some b=>some b
 | none=>Jo T.free K.first (K.next - K.first)
def Qo (T:zW) (K:Pk):zW:=match Ye T K with | some b=>T.set b 1 | none=>T
def Z2 (T:zW) (K:Pk):Pk:=match Ye T K with | some b => { K with next:=if b+1=T.n then K.first else b+1 } | none=>K
def Jp (T:zW) (K:Pk):Int:=match Ye T K with | some _=>0 | none=>90
def Va (T:zW) (K:Pk):Int:=match Ye T K with | some b=>b | none=>0
def Jq (T:zW) (K:Pk):Int:=match Ye T K with | some b=>b | none => -1
def Zg (K:Pk):Nat->Nat | 0=>K.next | _=>K.first
def QE (T:zW) (K:Pk):Nat->Nat | 0=>T.n | _=>K.next
def Vb (T:zW) (K:Pk) (i:Nat):Prop:=∀ j,j<i->Jo T.free (Zg K j) (QE T K j - Zg K j)=none
theorem dP {K:Pk} (hi:i<2) (hn:Vb T K i) (hb:Jo T.free (Zg K i) (QE T K i - Zg K i)=some b):Jq T K=b:=by
 match i,hi with
 | 0,_=>unfold Jq Ye;simp only [Zg,QE] at hb;rw [hb]
 | 1,_ =>
  have h0:=hn 0 zo;unfold Jq Ye;simp only [Zg,QE] at hb h0;rw [h0,hb]
theorem kQ {K:Pk} (hn:Vb T K 2):Jq T K = -1:=by
 have h0:=hn 0 zo;have h1:=hn 1 zo;unfold Jq Ye;simp only [Zg,QE] at h0 h1;rw [h0,h1]
theorem Vc {K:Pk} (hn:Vb T K i) (hb:Jo T.free (Zg K i) (QE T K i - Zg K i)=none):Vb T K (i+1):=by
 intro j hj;by_cases e:j=i
 ·subst e;exact hb
 ·exact hn j zo
theorem Zr {p:Nat->Bool} (h:k<hi) (hp:p k=true):Jo p k (hi - k)=some k:=by
 obtain ⟨c,hc⟩:∃ c,hi - k=c+1:=⟨hi - k - 1,zo⟩;rw [hc];simp [Jo,hp]
theorem ZO {p:Nat->Bool} (h:k<hi) (hp:p k=false):Jo p k (hi - k)=Jo p (k+1) (hi - (k+1)):=by
 obtain ⟨c,hc⟩:∃ c,hi - k=c+1:=⟨hi - k - 1,zo⟩;rw [hc,show hi - (k+1)=c by omega];simp [Jo,hp]
theorem Zs {p:Nat->Bool} : Jo p k (k - k)=none:=by rw [Nat.sub_self];rfl
theorem Vd {K:Pk} (hp:Yb w p t K) (h:zJ w t bc bk T):p∉[t,bc,bk]:=by
 intro hm;simp only [ya,yk,or_false] at hm;rcases hm with rfl | rfl | rfl
 ·have:=hp.top.symm.trans h.top
  simp at this
 ·have:=hp.top.symm.trans h.cs
  simp at this
 ·obtain ⟨es,c,hb⟩:=h.map.obj
  have:=hp.top.symm.trans hb;simp at this
theorem Qa {K:Pk} (hf:K.first<=K.next) (hn:K.next<=T.n) (h:Ye T K=some b):K.first<=b/\b<T.n/\T.free b=true:=by
 unfold Ye at h
 split at h
 ·rename_i b' hb
  cases h
  obtain ⟨h1,h2,h3,_⟩:=Yk hb;exact ⟨zo,zo,h3⟩
 ·obtain ⟨h1,h2,h3,_⟩:=Yk h
  exact ⟨zo,zo,h3⟩
theorem uM (hb:b<T.n) (h:T.free b=true):upE T b=0/\up T b=T.set b 1:=by
 have h0:T.now b=0:=by simp [zW.free] at h;exact h.1
 have hh:XA T b=true:=(x7 T b).2 zo;have he:upE T b=0:=by simp [upE,hh,h0]
 exact ⟨he,by simp [up,he,h0]⟩
theorem uO {K:Pk} (hp:Yb w p t K) (h:zJ w t bc bk T) (hf:K.first<=K.next) (hn:K.next<=T.n) :
  zC 57 #[zP p] w fun e w'=>e = .returned (.tuple #[.int .i64 (Va T K),.int .i64 (Jp T K)]) /\
   Yb w' p t (Z2 T K)/\zJ w' t bc bk (Qo T K)/\zv [p,t,bc,bk] w w':=by
 have c0:=hp.c0;have c1:=hp.c1;have c2:=hp.c2;have n2:=h.n2;have hT:zJ w.drew t bc bk T:=h.chg (zv.drew (zv.refl [] _));go_enter Tryz.func57,Tryz.ntmps57;go_wp2_with (first | go_step3 | (go_at_call 103;refine zm (iu hp) ?_))
 go_region_held3 (fun w'=>w'.cell? ⟨p,0,none⟩=some (zP t)/\w'.cell? ⟨p,1,none⟩=some (zI K.first)/\w'.cell? ⟨p,2,none⟩=some (zI K.next)) (go_keep)
  ((go_at_call 69;refine zm (xI hT) ?_))
 go_upto_block 0 with fail;go_cut [4] (fun f wx=>f = .int .i64 (Jq T K)/\zv [] w wx)
 case first =>
  have DW:=xo w (.cells #[zI K.next,zI T.n,zI K.first,zI K.next] 200);have hC0:zv [] w (w.alloc (.cells #[zI K.next,zI T.n,zI K.first,zI K.next] 200)).drew:=((zv.refl _ _).alloc _).drew;have Hb0:=zh DW;have Df:=zh hC0;clear DW hC0;have lt0:=h.lt0;have lt1:=h.lt1;have lt2:=h.lt2;go_wp2_with fail
  go_loopg [4,31] 2 (fun g f i wr=>∃ j:Nat,f = .int .i64 (-1)/\j<=2/\g=2 - j/\i = zI j/\Vb T K j/\zv [] w wr /\
   wr.heap[w.heap.size]?=some (.cells #[zI K.next,zI T.n,zI K.first,zI K.next] 200 (0,0)))
  case atStart=>exact ⟨0,rfl,zo,rfl,rfl,fun j hj=>zo,Df.o,Hb0⟩
  case round =>
   obtain ⟨j,rfl,hj,hg,hi,hno,hC,hB⟩:=hrel;have Hi:=zh hi;clear hi;have UE:=zh hno;have HC:=zh hC;have HB:=zh hB;have Wc:=h.chg hC;have hPr:=hp.chg hC;have d0:=hPr.c0;have ltp:=hPr.lt;obtain ⟨e0,e1,e2,e3⟩:=pW hB;clear hno hC hB;have hj3:j=0∨j=1∨j=2:=zo
   rcases hj3 with rfl | rfl | rfl
   ·have hi:=Hi.trans (show Value.int .i64 ((0:Nat):Int) = .int .i64 0 from rfl)
    clear Hi;subst hi;go_wp2_with fail;have hTi:zJ (wr.alloc (.cells #[zI K.next,zI T.n] 200)) t bc bk T:=Wc.chg ((zv.refl [] _).alloc _)
    go_loop [4,7] (fun f b=>∃ k:Nat,f = .int .i64 (-1)/\K.next<=k/\k<=T.n/\b = zI k/\Jo T.free (Zg K 0) (QE T K 0 - Zg K 0)=Jo T.free k (T.n - k)) (fun _ b=>T.n - (intOf b).toNat)
    case atStart=>exact ⟨K.next,rfl,xd _,hn,rfl,rfl⟩
    case round =>
     obtain ⟨k,rfl,Gs,Cy,rfl,Sz⟩:=hrel;have RT:=zh Sz;clear Sz;by_cases BY:k<T.n
     ·have PG:=zh (VW (T:=T) (k:=k) zo)
      go_wp2_with (go_at_call 105;refine zm (fS hTi k) ?_)
      ·have hh:Z1 T (k:Int)=true:=zau
       have e:=dP zo UE (RT.trans (Zr BY (PG.symm.trans hh)));go_meet;exact ⟨by rw [e],(HC.alloc _)⟩
      ·have hh:Z1 T (k:Int)=false:=zau
       go_round
       case rel=>exact ⟨k+1,rfl,zo,zo,zac,RT.trans (ZO BY (PG.symm.trans hh))⟩
       case measure=>simp [intOf];omega
     ·obtain rfl:k=T.n:=zo
      go_wp2_with fail;go_roundg 1
      case measure=>omega
      case rel=>exact ⟨1,rfl,zo,zo,rfl,Vc UE (RT.trans Zs),HC.alloc _,(Below.heap_alloc _ _ _ (zz HB)).trans HB⟩
   ·have hi:=Hi.trans (show Value.int .i64 ((1:Nat):Int) = .int .i64 1 from rfl)
    clear Hi;subst hi;go_wp2_with fail;have hTi:zJ (wr.alloc (.cells #[zI K.first,zI K.next] 200)) t bc bk T:=Wc.chg ((zv.refl [] _).alloc _)
    go_loop [4,7] (fun f b=>∃ k:Nat,f = .int .i64 (-1)/\K.first<=k/\k<=K.next/\b = zI k/\Jo T.free (Zg K 1) (QE T K 1 - Zg K 1)=Jo T.free k (K.next - k)) (fun _ b=>K.next - (intOf b).toNat)
    case atStart=>exact ⟨K.first,rfl,xd _,hf,rfl,rfl⟩
    case round =>
     obtain ⟨k,rfl,Gs,Cy,rfl,Sz⟩:=hrel;have RT:=zh Sz;clear Sz;by_cases BY:k<K.next
     ·have PG:=zh (VW (T:=T) (k:=k) zo)
      go_wp2_with (go_at_call 105;refine zm (fS hTi k) ?_)
      ·have hh:Z1 T (k:Int)=true:=zau
       have e:=dP zo UE (RT.trans (Zr BY (PG.symm.trans hh)));go_meet;exact ⟨by rw [e],(HC.alloc _)⟩
      ·have hh:Z1 T (k:Int)=false:=zau
       go_round
       case rel=>exact ⟨k+1,rfl,zo,zo,zac,RT.trans (ZO BY (PG.symm.trans hh))⟩
       case measure=>simp [intOf];omega
     ·obtain rfl:k=K.next:=zo
      go_wp2_with fail;go_roundg 0
      case measure=>omega
      case rel=>exact ⟨2,rfl,zo,zo,rfl,Vc UE (RT.trans Zs),HC.alloc _,(Below.heap_alloc _ _ _ (zz HB)).trans HB⟩
   ·have hi:=Hi.trans (show Value.int .i64 ((2:Nat):Int) = .int .i64 2 from rfl)
    clear Hi;subst hi;go_wp2_with fail;go_meet;exact ⟨by rw [kQ UE.o],HC⟩
 case rest =>
  obtain ⟨TV,hC⟩:=hcut;have hTx:=h.chg hC;have hPx:=hp.chg hC;have d0:=hPx.c0;have HC:=zh hC;clear hC
  cases hr:Ye T K with
  | none =>
   replace TV:=TV.trans (show Value.int .i64 (Jq T K) = .int .i64 (-1) by simp [Jq,hr]);subst TV;have Hr:=zh hr;clear hr;go_wp2_with fail;rw [Exit.noGoto_ret]
   go_ret2
   refine ⟨by simp [Va,Jp,Hr.o],by simpa [Z2,Hr.o] using hPx,by simpa [Qo,Hr.o] using hTx,HC.mo⟩
  | some b =>
   replace TV:=TV.trans (show Value.int .i64 (Jq T K) = zI b by simp [Jq,hr]);subst TV;obtain ⟨al,Cr,Du⟩:=Qa hf hn hr;have Hr:=zh hr;have Hu:=zh (uM Cr Du);clear hr Du;go_wp2_with fail;refine (wB hTx (b:Int)).mono ?_;rintro e w1 ⟨rfl,TO,Cz⟩;rw [Hu.2] at TO;have Lu:=hPx.chg Cz (Vd hPx hTx);have f0:=Lu.c0;have f1:=Lu.c1;have f2:=Lu.c2;have ff:=Lu.fz 2;have Sg:=iv Lu (b+1);have BU:=Vd Lu TO;have We:zJ (w1.setCell ⟨p,2,none⟩ (.int .i64 ((b+1:Nat):Int))) t bc bk (T.set b 1):=TO.chg (L:=[p]) ((zv.refl _ _).setCell (.inl zaa) _) (by simp at BU ⊢;exact fun e=>BU.1 e.symm) (by simp at BU ⊢;exact fun e=>BU.2.1 e.symm) (by simp at BU ⊢;exact fun e=>BU.2.2 e.symm);have Gj:zv [p,t,bc,bk] w (w1.setCell ⟨p,2,none⟩ (.int .i64 ((b+1:Nat):Int))):=((HC.mono (L':=[p,t,bc,bk]) zaa).trans (Cz.mo)).setCell (.inl zaa) _;rw [Int.natCast_add,Int.natCast_one] at Sg We Gj;have RE:=zh Gj;clear Gj;have BU:=zh BU
   have UC:Hd (Va T K=b/\Jp T K=0/\Qo T K=T.set b 1/\Z2 T K = { K with next:=if b+1=T.n then K.first else b+1 }) :=
    zh ⟨by simp [Va,Hr.o],by simp [Jp,Hr.o],by simp [Qo,Hr.o],by simp [Z2,Hr.o]⟩
   have g0:=Sg.c0;have g1:=Sg.c1;have g2:=Sg.c2;have gf:=Sg.fz 2;go_wp2_with fail;have Hn:=zh BU;clear BU
   have ho:t∉[p]/\bc∉[p]/\bk∉[p]:=by
    have:=Hn.o;simp only [Hd,ya,yk,or_false,not_or] at this ⊢;exact ⟨fun e=>this.1 e.symm,fun e=>this.2.1 e.symm,fun e=>this.2.2 e.symm⟩
   have Ho:=zh ho;clear ho;by_cases G6:b+1=T.n
   ·have hd:((b:Int)+1==((T.set b 1).n:Int))=true:=by simp [zW.set];omega
    have Hbn:=zh G6;clear G6
    go_quiet ((go_at_call 69;exact X9 (xI (w:=World.drewN _ _) (We.chg (zv.drewN (zv.refl [] _) _)))))
    go_wp2_with fail;rw [Exit.noGoto_ret]
    go_ret2
    have Wx:zv [p] (w1.setCell ⟨p,2,none⟩ (.int .i64 ((b:Int)+1))) (((w1.setCell ⟨p,2,none⟩ (.int .i64 ((b:Int)+1))).drewN nq).setCell ⟨p,2,none⟩ (zI K.first)) :=
     (zv.drewN (zv.refl _ _) _).setCell (.inl zaa) _
    obtain ⟨q1,q2,q3,q4⟩:=UC.o;rw [if_pos Hbn.o] at q4;refine ⟨by rw [q1,q2];rfl,?_,?_,?_⟩
    ·rw [q4]
     exact iv (w:=World.drewN _ _) (K := { K with next:=b+1 }) ⟨Sg.top⟩ K.first
    ·rw [q3]
     exact We.chg Wx Ho.1 Ho.2.1 Ho.2.2
    ·exact RE.trans (Wx.mo)
   ·have hd:((b:Int)+1==((T.set b 1).n:Int))=false:=by simp [zW.set];omega
    have Hbn:=zh G6;clear G6
    go_quiet ((go_at_call 69;exact X9 (xI (w:=World.drewN _ _) (We.chg (zv.drewN (zv.refl [] _) _)))))
    go_wp2_with fail;rw [Exit.noGoto_ret]
    go_ret2
    have Wx:zv [] (w1.setCell ⟨p,2,none⟩ (.int .i64 ((b:Int)+1))) ((w1.setCell ⟨p,2,none⟩ (.int .i64 ((b:Int)+1))).drewN nq) :=
     zv.drewN (zv.refl _ _) _
    obtain ⟨q1,q2,q3,q4⟩:=UC.o;rw [if_neg Hbn.o] at q4;refine ⟨by rw [q1,q2];rfl,?_,?_,?_⟩
    ·rw [q4]
     exact ⟨Sg.top⟩
    ·rw [q3]
     exact We.chg Wx
    ·exact RE.trans (Wx.mo)
end Go.Proofs.YtegpiomkmfhadaaGreat
