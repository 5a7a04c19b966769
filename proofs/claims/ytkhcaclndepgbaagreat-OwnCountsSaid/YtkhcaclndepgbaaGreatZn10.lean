/- Package index: numbers, Decode of a page that Encode has made. · Package pick: how a pick lies in memory; New, none, Next, Asked, Done, Room, Ask. · Quiet regions: contracts that leave the world alone, in the form that go_quiet asks for. · Package pick: Room, Done, Ask. · Package pick: Take. -/
import Derived.Test.YtkhcaclndepgbaaGreatZn09
import Derived.Deep.DeepCutAuto
import Derived.Deep.CutBlock
set_option linter.unusedVariables false
set_option linter.unusedSimpArgs false
set_option maxRecDepth 100000
set_option maxHeartbeats 20000000
namespace Go.Proofs.YtkhcaclndepgbaaGreat
open Go.RowKit Go.Shelf
attribute [local go_sem] Oper.semAt_some
theorem num2_lt {f:Nat->Nat} {p:Nat} (h:∀ i,i<2->f (p+i)<=255):num f p 2<65536:=num_lt (k:=2) h
def nbArgs (f:Nat->Nat) (k:Nat):Array Value:=#[.int .i64 (k:Int),.int .u16 (num f (1+2*k) 2:Int)]
theorem ixNumbers_at (n:Nat) (a:Option Addr) (len cap:Nat) (w:World):CallsIn Fence.wide n Tryz.prog 208 #[.slice a len cap] w fun e w'=>e = .returned (.func (.func 217) #[] #[.pointer (some ⟨w.heap.size,0,none⟩)])/\w.alloc (.cells #[.slice a len cap] 22)=w':=by
 refine callsIn_of_wp Tryz.func208 rfl trivial ?_ rfl;simp only [Tryz.ntmps208,List.size_toArray,List.length_cons,List.length_nil,Nat.reduceAdd,Nat.reduceSub,Array.replicate_succ,Array.replicate_zero,List.push_toArray,List.append_toArray,List.nil_append,List.cons_append]
 gi_wp2
 go_ret;exact ⟨rfl,rfl⟩
theorem ixNumbers_iter (n:Nat) (hn:2<=n) (B0 g cap:Nat) (f:Nat->Nat) (Lw:List Nat) (w:World) (hB:w.cell? ⟨B0,0,none⟩=some (.slice (some ⟨g,0,none⟩) 123 cap)) (hb:BytesAt w g 0 123 f) (hc:123<=cap) (hcm:cap<=9223372036854775807) (h1:B0∉Lw) (h2:g∉Lw) (hg:g<w.heap.size) :
  IterN Fence.wide n Tryz.prog 217 #[.pointer (some ⟨B0,0,none⟩)] (nbArgs f) 61 Lw w:=by
 intro l J Jx W hW hl0 hl hJ hJx hY hJ0;have hBl:B0<w.heap.size:=World.block_lt_of_cell? w ⟨B0,0,none⟩ hB;have hBW:=(hW.cell (p:=⟨B0,0,none⟩) hBl).trans hB;have hbW:BytesAt W g 0 123 f:=fun i hi=>⟨(hW.cell (p:=⟨g,0+i,none⟩) hg).trans (hb i hi).1,(hb i hi).2⟩;have HBW:=zh hbW;clear hB hb hbW;refine callsIn_of_wp Tryz.func217 rfl trivial ?_ rfl;simp only [Tryz.ntmps217,List.size_toArray,List.length_cons,List.length_nil,Nat.reduceAdd,Nat.reduceSub,Array.replicate_succ,Array.replicate_zero,List.push_toArray,List.append_toArray,List.nil_append,List.cons_append]
 gi_wp2
 gi_loopw [6] (fun i wr=>∃ k:Nat,k<=61/\i = .int .i64 (k:Int)/\J k wr/\Chg (l::Lw) W wr) (fun i _=>(61 - intOf i).toNat)
 case atStart=>exact ⟨0,Nat.zero_le _,by simp,hJ0,Chg.refl _ _⟩
 case round =>
  obtain ⟨k,hk,rfl,hJs,hch⟩:=hrel;have hBr:=(hch.cell (p:=⟨B0,0,none⟩) (zLl hBl hW.size) (by simp only [List.mem_cons,not_or];exact ⟨by omega,h1⟩)).trans hBW;by_cases hlt:k<61
  ·obtain ⟨fn,tmps,assign,body,hy,hR⟩:=hY k wr hJs hlt
   have hbr:BytesAt wr g 0 123 f:=HBW.out.chg hch (by simp only [List.mem_cons,not_or];exact ⟨by omega,h2⟩);have cg:=get_num hbr hc hcm (by omega) (1+2*k) 2 (by omega) (by omega) (by omega);have hv:=num2_lt (f:=f) (p:=1+2*k) (fun i hi=>(by have:=(HBW.out (1+2*k+i) (by omega)).2;exact this));unfold nbArgs at hy;obtain ⟨v,hvv⟩:∃ v,v=num f (1+2*k) 2:=⟨_,rfl⟩;rw [<- hvv] at cg hv hy;rw [show ((1+2*k:Nat):Int)=1+2*(k:Int) from by omega,show ((2:Nat):Int)=2 from rfl] at cg;have E1:IntKind.u16.wrap (v:Int)=(v:Int):=by rw [IntKind.wrap_u16];omega
   have CG:=zh (callsIn_wide (n:=n - 1).2 cg);have i1:(k:Int)<61:=by omega
   clear hvv hbr cg
   gi_wp2
   refine ⟨trivial,fun _=>by omega,CG.out.mono ?_⟩;rintro e w' ⟨rfl,rfl⟩
   gi_wp2
   refine ⟨fun _=>by omega,hR.mono ?_⟩;rintro e W3 (⟨rfl,hJ3,hk3⟩ | ⟨rfl,hJx3,hk3⟩)
   ·gi_wp2
    go_roundw
    case rel=>exact ⟨k+1,by omega,by go_num,hJ3,hch.trans hk3⟩
    case measure=>simp [intOf];omega
   ·gi_wp2
    refine bodyPost_ret (results_none rfl _ _ _) rfl ?_;exact ⟨⟨_,rfl⟩,.inr ⟨k+1,by omega,hJx3⟩⟩
  ·obtain rfl:k=61:=by omega
   gi_wp2
   go_end0
   exact ⟨⟨_,rfl⟩,.inl hJs⟩
theorem ixDecode_at {w:World} {kind n b off cap:Nat} {f l:Nat->Nat} (hk:kind=4∨kind=5) (hn:n<=61) (hl:∀ i,i<n->l i<65536) (hb:BytesAt w b off 128 f) (hcap:128<=cap) (hcm:cap<=9223372036854775807) (hf:∀ i,i<128->f i=pageI kind n l i) :
  Calls Tryz.prog 185 #[.int .u8 (kind:Int),.slice (some ⟨b,off,none⟩) 128 cap] w fun e w'=>∃ g c,e = .returned (.tuple #[.slice (some ⟨g,0,none⟩) n c,.int .i64 0])/\n<=c/\c<=maxLen/\w.heap.size<=g/\U16In w' (some ⟨g,0,none⟩) n l/\Chg [] w w':=by
 refine (callsIn_wide (n:=8)).1 ?_;refine callsIn_of_wp_marks Tryz.func185 rfl trivial ?_ rfl;simp only [Tryz.ntmps185,List.size_toArray,List.length_cons,List.length_nil,Nat.reduceAdd,Nat.reduceSub,Array.replicate_succ,Array.replicate_zero,List.push_toArray,List.append_toArray,List.nil_append,List.cons_append];have hp:pageOK f:=pageOK_congr (fun i hi=>(hf i hi).symm) (seal_ok _ _ _);have hk0:f 0=kind:=by rw [hf 0 (by omega)];exact pageI_kind _ _ _
 have hbody:∀ i,i<123->f (1+i)=idxB n l i:=fun i hi=>by rw [hf (1+i) (by omega)];exact pageI_at _ _ _ hi
 have cr:=fun w=>ixRight_at (w:=w) (kind:=kind) hk
 gi_wp2
 obtain ⟨W0,hW0⟩:∃ W0,W0=(w.alloc (.cells #[.slice none 0 0] 163)).alloc (.cells #[.int .i64 0] 29):=⟨_,rfl⟩;have hc0:Chg [] w W0:=by rw [hW0];exact ((Chg.refl [] w).alloc _).alloc _
 have k0:W0.heap[w.heap.size]?=some (.cells #[.slice none 0 0] 163 (0,0)):=by rw [hW0];exact znd _ _ _
 have k1:W0.heap[w.heap.size+1]?=some (.cells #[.int .i64 0] 29 (0,0)):=by rw [hW0];exact znc _ _ _
 rw [<- hW0];have hs0:W0.heap.size=w.heap.size+2:=by rw [hW0];simp
 obtain ⟨s,hs⟩:∃ s,s=w.heap.size:=⟨_,rfl⟩;rw [<- hs] at k0 k1 hs0 ⊢;have HS:=zh (zA hs hs0);have HC0:=zh hc0;have HK:=zh (zA k0 k1);have co:=open_right (hb.chg hc0 (by simp)) hcap hcm hp;have CO:=zh co;have HBD:=zh (zA hk0 hbody);have HL:=zh hl;clear hW0 hc0 k0 k1 hs hs0 co hp hbody hf hb hl;refine ⟨trivial,(callsIn_wide.2 CO.out).mono ?_⟩;rintro e w1 ⟨g,c,rfl,q1,q2,q3,q4,q5,q6⟩;rw [HBD.out.1];have HO:=zh (zA q1 (zA q2 (zA q3 (zA q4 (zA q5 q6)))));clear q1 q2 q3 q4 q5 q6 CO hk0;have i0:((kind:Int)==(kind:Int))=true:=by simp
 gi_wp2
 refine ⟨trivial,(callsIn_wide.2 (cr _)).mono ?_⟩;rintro e w' ⟨rfl,rfl⟩;have hc1:Chg [] W0 (w1.alloc (.cells #[.slice (some ⟨g,0,none⟩) 123 c] 22)):=HO.out.2.2.2.2.2.alloc _;have kb:=znb w1 (.cells #[.slice (some ⟨g,0,none⟩) 123 c] 22);obtain ⟨B1,hB1⟩:∃ B1,B1=w1.heap.size:=⟨_,rfl⟩;have hgl:g<w1.heap.size:=HO.out.2.2.2.1;have hBD:BytesAt (w1.alloc (.cells #[.slice (some ⟨g,0,none⟩) 123 c] 22)) g 0 123 (fun i=>f (1+i)):=HO.out.2.2.2.2.1.chg ((Chg.refl [] w1).alloc _) (by simp);rw [<- hB1] at kb ⊢;generalize w1.alloc (.cells #[.slice (some ⟨g,0,none⟩) 123 c] 22)=W1 at *;have d0:W1.cell? ⟨B1,0,none⟩=some (.slice (some ⟨g,0,none⟩) 123 c):=(zcb kb 0).trans rfl
 have d1:W1.cell? ⟨g,0,none⟩=some (.int .u8 (n:Int)):=by
  have h:W1.cell? ⟨g,0,none⟩=some (.int .u8 (f (1+0):Int)):=(hBD 0 (by omega)).1;rw [HBD.out.2 0 (by omega)] at h;exact h
 have hmk:(Instr.makeSlice 163 (.int .i64 0) (.int .u8 (n:Int))).run Tryz.prog W1 = .ok (.slice (some ⟨W1.heap.size,0,none⟩) 0 n) (W1.alloc (.cells (madeCells #[.int .u16 0] (n*1)) 33)):=by
  obtain ⟨i,e1,e2,e3,e4⟩:=info_parts info16;have hr:=run_make (P:=Tryz.prog) W1 163 33 i _ Tryz.underlying163 e1 e2 .i64 .u8 0 n (by omega) (by omega) (by rw [e4];omega) (by omega);rw [Int.toNat_natCast,e3] at hr;exact hr
 have i61:¬ (61:Int)<(n:Int):=by omega
 have HD:=zh (zA kb hBD);have HC1:=zh hc1;have HGL:=zh (zA hgl hB1);have gl1:=zhl kb;have gl2:g<W1.heap.size:=World.block_lt_of_cell? W1 ⟨g,0,none⟩ d1;clear cr kb hBD hc1 hgl hB1
 gi_wp2
 rw [Nat.mul_one] at hmk;have hc2:Chg [] W1 ((W1.alloc (.cells (madeCells #[.int .u16 0] n) 33)).alloc (.cells #[.slice (some ⟨W1.heap.size,0,none⟩) 0 n] 163)):=((Chg.refl [] W1).alloc _).alloc _;have ka:=znd W1 (.cells (madeCells #[.int .u16 0] n) 33) (.cells #[.slice (some ⟨W1.heap.size,0,none⟩) 0 n] 163);have ko:=znc W1 (.cells (madeCells #[.int .u16 0] n) 33) (.cells #[.slice (some ⟨W1.heap.size,0,none⟩) 0 n] 163);refine ⟨trivial,(ixNumbers_at 7 (some ⟨g,0,none⟩) 123 c _).mono ?_⟩;rintro e w' ⟨rfl,rfl⟩;have hs2:((W1.alloc (.cells (madeCells #[.int .u16 0] n) 33)).alloc (.cells #[.slice (some ⟨W1.heap.size,0,none⟩) 0 n] 163)).heap.size=W1.heap.size+2:=by simp
 generalize (W1.alloc (.cells (madeCells #[.int .u16 0] n) 33)).alloc (.cells #[.slice (some ⟨W1.heap.size,0,none⟩) 0 n] 163)=W2 at *;have hc3:=(Chg.refl [] W2).alloc (.cells #[.slice (some ⟨g,0,none⟩) 123 c] 22);have kn:=znb W2 (.cells #[.slice (some ⟨g,0,none⟩) 123 c] 22);have hs3:(W2.alloc (.cells #[.slice (some ⟨g,0,none⟩) 123 c] 22)).heap.size=W2.heap.size+1:=by simp
 obtain ⟨bg,hbg⟩:∃ bg,bg=W1.heap.size:=⟨_,rfl⟩;rw [<- hbg] at ka ko hs2 ⊢;have ka3:=(hc3.block bg (zhl ka) (by simp)).trans ka;have ko3:=(hc3.block (bg+1) (zhl ko) (by simp)).trans ko;rw [hs2] at kn hs3 ⊢;have hD3:=(HD.out.2.chg hc2 (by simp)).chg hc3 (by simp);have hB3:=(hc3.block B1 (by omega) (by simp)).trans ((hc2.block B1 gl1 (by simp)).trans HD.out.1);generalize W2.alloc (.cells #[.slice (some ⟨g,0,none⟩) 123 c] 22)=W3 at *;have hit:=ixNumbers_iter 7 (by omega) (bg+2) g c (fun i=>f (1+i)) [bg+1,bg] W3 ((zcb kn 0).trans rfl) hD3 HO.out.1 (by have:=HO.out.2.1;unfold maxLen at this;exact this) (by simp) (by simp only [List.mem_cons,List.not_mem_nil,or_false,not_or];omega) (by omega);have HC3:=zh ((HC1.out.trans hc2).trans hc3);have hrow0:W3.ownsRow bg 33 1 (.slice (some ⟨bg,0,none⟩) 0 n) 0 []:=⟨by simp,.inr ⟨bg,n,_,rfl,zLr _,ka3,Nat.zero_le _,by unfold maxLen;omega,by simp [size_madeCells],by simp⟩⟩;have HI:=zh hit;have HD3:=zh hD3;have gl3:g<bg:=by omega
 have gl4:B1<bg:=by omega
 have gl5:bg+2<W3.heap.size:=by omega
 clear hc2 ka ko hc3 kn hD3 hmk d0 d1 hit hbg hs2 hs3 gl1 gl2
 gi_wp2
 refine wpIn_rangeFunc_idx rfl (by omega) (gf:=217) (lb:=#[.pointer (some ⟨bg+2,0,none⟩)]) rfl trivial (enters_of Tryz.func217 (by kernel_rfl) rfl) HI.out (by intro x hx;simp only [List.mem_cons,List.not_mem_nil,or_false] at hx;omega) (fun _=>rfl)
  (fun k W=>Chg [bg+1,bg] W3 W/\W.heap[bg+1]?=some (.cells #[.slice (some ⟨bg,0,none⟩) (min k n) n] 163 (0,0))/\W.ownsRow bg 33 1 (.slice (some ⟨bg,0,none⟩) (min k n) n) (min k n) ((List.range (min k n)).map fun i => .int .u16 (l i:Int)))
  (fun c k W=>False)
  (fun k A B h hab=>⟨h.1.afar hab,(hab.block _ (by omega)).trans h.2.1,ownRow_block h.2.2 (fun q hq=>hab.block q (by simp [Value.ownBlock] at hq;omega))⟩)
  (fun c k A B h hab=>h)
  ⟨Chg.refl _ _,by rw [Nat.zero_min];exact ko3,by rw [Nat.zero_min];exact hrow0⟩ ?round ?done (fun D c k W hD hk h hK=>h.elim)
 case round =>
  intro l' k W hl1 hl2 hI hk;obtain ⟨hcI,ho,hr⟩:=hI
  have hnb:num (fun i=>f (1+i)) (1+2*k) 2=if k<n then l k else 0:=by
   rw [<- idxB_num HL.out (n:=n) (k:=k)];exact num_congr 2 fun i hi=>HBD.out.2 _ (by omega)
  unfold nbArgs;rw [hnb];have HX:=zh (zA hcI (zA ho hr));obtain ⟨m,hm⟩:∃ m,m=min k n:=⟨_,rfl⟩;obtain ⟨v,hv⟩:∃ v,v=if k<n then l k else 0:=⟨_,rfl⟩
  rw [<- hv];have HV:=zh hv;have HM:=zh hm;clear hnb hcI ho hr hv hm
  gi_wp2
  refine ⟨Chg.refl _ _,fun W4 hc4=>?_⟩;have nl:∀ q,q<W3.heap.size->q∉[l']:=fun q hq=>by simp only [zms];omega
  have hb4:=(hc4.block B1 (by have:=HX.out.1.size;omega) (nl _ (by omega))).trans ((HX.out.1.block B1 (by omega) (by simp only [List.mem_cons,List.not_mem_nil,or_false,not_or];omega)).trans hB3);have d0:W4.cell? ⟨B1,0,none⟩=some (.slice (some ⟨g,0,none⟩) 123 c):=(zcb hb4 0).trans rfl;have ho4:=(hc4.block (bg+1) (by have:=HX.out.1.size;omega) (nl _ (by omega))).trans HX.out.2.1;rw [<- HM.out] at ho4;have d2:W4.cell? ⟨bg+1,0,none⟩=some (.slice (some ⟨bg,0,none⟩) m n):=(zcb ho4 0).trans rfl;have f2:=zfb ho4 0;have hr4:=zoc HX.out.2.2 hc4 (fun q hq=>by simp [Value.ownBlock] at hq;subst hq;exact nl _ (by omega));rw [<- HM.out] at hr4;have hbr4:BytesAt W4 g 0 123 (fun i=>f (1+i)):=(HD3.out.chg HX.out.1 (by simp only [List.mem_cons,List.not_mem_nil,or_false,not_or];omega)).chg hc4 (nl _ (by omega))
  have d1:W4.cell? ⟨g,0,none⟩=some (.int .u8 (n:Int)):=by
   have h:W4.cell? ⟨g,0,none⟩=some (.int .u8 (f (1+0):Int)):=(hbr4 0 (by omega)).1;rw [HBD.out.2 0 (by omega)] at h;exact h
  have HC4:=zh (Chg.trans (HX.out.1.mono (L':=[bg+1,bg,l']) (by simp +contextual)) (hc4.mono (by simp)));have HC5:Hid (Chg [bg+1,bg] W3 W4):=zh (HX.out.1.then hc4 (fun q hq=>by simp only [zms] at hq;subst hq;exact .inr hl1));have HO4:=zh (zA ho4 hr4);have lw4:bg+1<W4.heap.size:=zhl ho4;have lg4:g<W4.heap.size:=by omega
  have lb4:B1<W4.heap.size:=by omega
  clear hbr4 hc4 ho4 hr4 hb4 ka3 ko3 hrow0 nl;by_cases hkn:k<n
  ·have i1:(k:Int)<(n:Int):=by omega
   have HMK:Hid (m=k/\v=l k):=zh ⟨by rw [HM.out];omega,by rw [HV.out,if_pos hkn]⟩;obtain ⟨ti,t1,t2,t3,t4⟩:=info_parts info16
   gi_wp2_with (gi_at_builtin;refine wpListIn_append_fits _ rfl (.tmp 51) (.tmp 53) 163 rfl bg 33 ti 1 Tryz.underlying163 t1 t3 bg m n _ rfl (zoc HO4.out.2 ((Chg.refl [] W4).alloc _) (by simp)) ⟨W4.heap.size,0,none⟩ 1 1 [.int .u16 (v:Int)] rfl rfl (cell_one_new _ _ _) (by simp [Value.oneCell']) (by have:=HMK.out.1;omega) ?_;intro w5 ho5 hg5;have hk5:=(hg5.block (bg+1) (by simp;omega) (by simp)).trans (((Chg.refl [] W4).alloc (.cells #[.int .u16 (v:Int)] 33)).block (bg+1) lw4 (by simp) |>.trans HO4.out.1);have hq0:=(zcb hk5 0);simp only [tA1,tA3] at hq0;have hq1:=zfb hk5 0;have hq2:=zhl hk5;have HK5:=zh hk5)
   have hcA:Chg [bg+1,bg] W4 (w5.setCell ⟨bg+1,0,none⟩ (.slice (some ⟨bg,0,none⟩) (m+1) n)):=(((Chg.refl [bg+1,bg] W4).alloc _).grown hg5 (fun q e => .inl (by injection e with e;subst e;simp))).setCell (.inl (by simp)) _;have em:min (k+1) n=m+1:=by have:=HMK.out.1;omega
   refine ⟨hcA,HC5.out.trans hcA,?_,?_⟩
   ·rw [em];exact zsb HK5.out 0 _
   ·rw [em]
    have hl:(List.range (m+1)).map (fun i=>Value.int .u16 (l i:Int))=(List.range m).map (fun i=>Value.int .u16 (l i:Int))++[.int .u16 (v:Int)]:=by
     rw [List.range_succ,List.map_append,HMK.out.2,HMK.out.1];rfl
    rw [hl];exact ownRow_block ho5 (fun q hq=>zso 0 _ (by simp [Value.ownBlock] at hq;omega))
  ·have i1:¬ (k:Int)<(n:Int):=by omega
   have HMK:Hid (m=n):=zh (by rw [HM.out];omega);obtain rfl:v=0:=by rw [HV.out,if_neg hkn]
   gi_wp2
   have em:min (k+1) n=m:=by have:=HMK.out;omega
   exact ⟨Chg.refl _ _,HC5.out,by rw [em];exact HO4.out.1,by rw [em];exact HO4.out.2⟩
 case done =>
  rintro D W hD ⟨hc,ho,hr⟩ hK;rw [Nat.min_eq_right hn] at ho hr;have d2:W.cell? ⟨bg+1,0,none⟩=some (.slice (some ⟨bg,0,none⟩) n n):=(zcb ho 0).trans rfl;have hs3:s+1<bg:=by have:=HS.out.2;have:=HO.out.2.2.1;have:=gl3;omega
  have hcs:Chg [bg+1,bg] W0 W:=(HC3.out.mono (by simp)).trans hc;have ks0:=(hcs.block s (by have:=HS.out.2;have:=HS.out.1;omega) (by simp only [List.mem_cons,List.not_mem_nil,or_false,not_or];omega)).trans HK.out.1;have ks1:=(hcs.block (s+1) (by have:=HS.out.2;have:=HS.out.1;omega) (by simp only [List.mem_cons,List.not_mem_nil,or_false,not_or];omega)).trans HK.out.2;have x0:=(zcb ks0 0);have x1:=(zcb ks1 0);simp only [tA1,tA3] at x0 x1;have y0:=zfb ks0 0;have y1:=zfb ks1 0;have z0:=zhl ks0;have z1:=zhl ks1;have HKS:=zh (zA ks0 ks1);have HR:=zh hr;have HCS:=zh hcs;clear ks0 ks1 hr hcs ka3 ko3 hB3 hrow0
  gi_wp2
  have hK5:((W.setCell ⟨s,0,none⟩ (.slice (some ⟨bg,0,none⟩) n n)).setCell ⟨s+1,0,none⟩ (.int .i64 0)).heap[D]?=some (.deferred (some [])):=(zso 0 _ (by omega)).trans ((zso 0 _ (by omega)).trans hK);have r0:=(World.putObj_heap_other (w:=(W.setCell ⟨s,0,none⟩ (.slice (some ⟨bg,0,none⟩) n n)).setCell ⟨s+1,0,none⟩ (.int .i64 0)) (o := .deferred none) (show s≠D by omega)).trans ((zso 0 _ (by omega)).trans (zsb HKS.out.1 0 (.slice (some ⟨bg,0,none⟩) n n)));have r1:=(World.putObj_heap_other (w:=(W.setCell ⟨s,0,none⟩ (.slice (some ⟨bg,0,none⟩) n n)).setCell ⟨s+1,0,none⟩ (.int .i64 0)) (o := .deferred none) (show s+1≠D by omega)).trans (zsb ((zso 0 _ (by omega)).trans HKS.out.2) 0 (.int .i64 0));refine ⟨by simp,.inl ⟨_,_,rfl,run_takeDeferred hK5,?_⟩⟩;have cR0:=(zcb r0 0).trans (rfl:_=some (Value.slice (some ⟨bg,0,none⟩) n n));have cR1:=(zcb r1 0).trans (rfl:_=some (Value.int .i64 0))
  have hcF:Chg [s,s+1,bg+1,bg] W0 (((W.setCell ⟨s,0,none⟩ (.slice (some ⟨bg,0,none⟩) n n)).setCell ⟨s+1,0,none⟩ (.int .i64 0)).putObj D (.deferred none)) :=
   (((HCS.out.mono (by simp +contextual)).setCell (.inl (by simp)) _).setCell (.inl (by simp)) _).then (chg_put _) (fun q hq=>by simp only [zms] at hq;subst hq;exact .inr (by have:=HC3.out.size;omega))
  refine ⟨.tuple #[.slice (some ⟨bg,0,none⟩) n n,.int .i64 0],by simp [results,Tryz.results185,go_sem,cR0,cR1],bg,n,rfl,zLr _,by unfold maxLen;omega,by have:=HS.out.1;omega,⟨HL.out,fun h0=>⟨bg,0,rfl,?_,fun i hi=>?_⟩⟩,?_⟩
  ·have:=hcF.size;have:=HC3.out.size;have:=HR.out.lt bg rfl;show bg<(World.putObj _ _ _).heap.size;rw [World.putObj_size];simp;omega
  ·have n1:bg≠D:=by omega
   have n2:bg≠s+1:=by omega
   have n3:bg≠s:=by omega
   obtain ⟨g',c',e1,_,_,_,_,hcell⟩:=zol HR.out h0;injection e1 with e1a e1b e1c;injection e1a with e1a;injection e1a with e1a;subst e1a;rw [Nat.zero_add];refine (World.cell?_of_block ((World.putObj_heap_other n1).trans ((zso 0 _ n2).trans (zso 0 _ n3)))).trans ((hcell i (by omega)).trans ?_);simp [hi]
  ·exact HC0.out.then hcF (fun q hq=>by have:=HS.out;simp only [List.mem_cons,List.not_mem_nil,or_false] at hq;omega)
end Go.Proofs.YtkhcaclndepgbaaGreat
namespace Go.Proofs.YtkhcaclndepgbaaGreat
open Go.RowKit
structure Pk where
 first:Nat
 next:Nat
 asked:Nat
structure PickAt (w:World) (p t:Nat) (K:Pk):Prop where
 top:w.heap[p]?=some (.cells #[.pointer (some ⟨t,0,none⟩),.int .i64 (K.first:Int),.int .i64 (K.next:Int),.int .i64 (K.asked:Int)] 209 (0,0))
namespace PickAt
variable {w:World} {p t:Nat} {K:Pk}
theorem c0 (h:PickAt w p t K):w.cell? ⟨p,0,none⟩=some (.pointer (some ⟨t,0,none⟩)):=zcb h.top 0
theorem c1 (h:PickAt w p t K):w.cell? ⟨p,1,none⟩=some (.int .i64 (K.first:Int)):=zcb h.top 1
theorem c2 (h:PickAt w p t K):w.cell? ⟨p,2,none⟩=some (.int .i64 (K.next:Int)):=zcb h.top 2
theorem fz (h:PickAt w p t K) (i:Nat):w.frozen? ⟨p,i,none⟩=false:=zfb h.top i
theorem lt (h:PickAt w p t K):p<w.heap.size:=zhl h.top
theorem chg {w':World} {L:List Nat} (h:PickAt w p t K) (c:Chg L w w') (h0:p∉L):PickAt w' p t K:=⟨(c.block _ h.lt h0).trans h.top⟩
end PickAt
theorem pnew_at {w:World} {t bc bk:Nat} {T:Tal} (h:TallyAt w t bc bk T) (n:Nat) (hn:n<=T.n) :
  Calls Tryz.prog 103 #[.pointer (some ⟨t,0,none⟩),.int .i64 (n:Int)] w fun e w'=>e = .returned (.tuple #[.pointer (some ⟨w.heap.size,0,none⟩),.int .i64 0]) /\
   PickAt w' w.heap.size t ⟨n,n,0⟩/\Chg [] w w':=by
 have h1:=h.n1;have hz:((T.n:Int)==0)=false:=by simp;omega
 have hn':¬ (T.n:Int)<n:=by omega
 go_enter Tryz.func103,Tryz.ntmps103;go_wp2_with (go_at_call 90;refine (blocks_at h).mono ?_;rintro e w' ⟨rfl,rfl⟩)
 go_ret2
 exact ⟨rfl,⟨znb _ _⟩,(Chg.refl _ _).alloc _⟩
section
variable {w:World} {p t:Nat} {K:Pk} (h:PickAt w p t K)
include h
theorem pnone_at:Calls Tryz.prog 128 #[.pointer (some ⟨p,0,none⟩)] w fun e w'=>e = .returned (.bool false)/\w=w':=by
 have c0:=h.c0;go_enter Tryz.func128,Tryz.ntmps128
 go_wp2
 go_ret;exact ⟨rfl,rfl⟩
end
end Go.Proofs.YtkhcaclndepgbaaGreat
namespace Go.Proofs.YtkhcaclndepgbaaGreat
open Go.RowKit
theorem quiet_left {P:Program} {f:FuncId} {args:Array Value} {w:World} {n:Nat} {v:Value}
  (h:Calls P f args (w.drewN n) fun e w'=>e = .returned v/\w.drewN n=w'):Calls P f args (w.drewN n) fun e w''=>e = .returned v/\∃ m,w''=w.drewN m :=
 h.mono fun _ _ ⟨he,hm⟩=>⟨he,n,hm.symm⟩
def roomI (T:Tal) (first:Nat):Int:=(T.frees:Int) - (cnt first T.free:Int)
theorem cnt_step (k:Nat) (p:Nat->Bool):cnt (k+1) p=cnt k p+(if p k then 1 else 0):=rfl
theorem freeB_nat {T:Tal} {k:Nat} (h:k<T.n):freeB T (k:Int)=T.free k:=by
 have:hasB T (k:Int)=true:=(hasB_iff T k).2 (by omega);simp [freeB,this]
theorem room_at {w:World} {p t bc bk:Nat} {K:Pk} {T:Tal} (hp:PickAt w p t K) (h:TallyAt w t bc bk T) (hf:K.first<=T.n) :
  Calls Tryz.prog 75 #[.pointer (some ⟨p,0,none⟩)] w fun e w'=>e = .returned (.int .i64 (roomI T K.first))/\w=w':=by
 have c0:=hp.c0;have c1:=hp.c1;have fl:=h.frees_le;have n2:=h.n2;go_enter Tryz.func75,Tryz.ntmps75;go_wp2_with (first | (go_at_call 128;refine (pnone_at hp).mono ?_;rintro e w' ⟨rfl,rfl⟩) | (go_at_call 129;refine (frees_at h).mono ?_;rintro e w' ⟨rfl,rfl⟩))
 go_loop [3,16] (fun n i=>∃ k:Nat,k<=K.first/\i = .int .i64 k/\n = .int .i64 ((T.frees:Int) - (cnt k T.free:Int))) (fun _ i=>K.first - (intOf i).toNat)
 case atStart=>exact ⟨0,Nat.zero_le _,rfl,by simp [cnt]⟩
 case round =>
  obtain ⟨k,hk,rfl,rfl⟩:=hrel;have hcl:=cnt_le T.free k;by_cases hlt:k<K.first
  ·have hfr:=freeB_nat (T:=T) (k:=k) (by omega)
   have Hst:=zh (cnt_step k T.free);have Hfr:=zh hfr;clear hfr;go_wp2_with (first | (go_at_call 130;refine (free_at h k).mono ?_;rintro e w' ⟨rfl,rfl⟩))
   ·have hh:freeB T (k:Int)=true:=by assumption
    have e:cnt (k+1) T.free=cnt k T.free+1:=by rw [Hst.out,<- Hfr.out,hh];rfl
    refine ⟨⟨k+1,by omega,by go_num,?_⟩,by simp [intOf];omega⟩;rw [e];congr 1;omega
   ·have hh:freeB T (k:Int)=false:=by assumption
    have e:cnt (k+1) T.free=cnt k T.free:=by rw [Hst.out,<- Hfr.out,hh];rfl
    refine ⟨⟨k+1,by omega,by go_num,?_⟩,by simp [intOf];omega⟩;rw [e]
  ·go_wp2_with fail
   go_ret;obtain rfl:k=K.first:=by omega
   exact ⟨rfl,rfl⟩
theorem cnt_mono (p:Nat->Bool) {a b:Nat} (h:a<=b):cnt a p<=cnt b p:=by
  induction b with
  | zero => obtain rfl : a = 0 := by omega
            exact zLr _
  | succ b ih =>
    by_cases e:a=b+1
    · subst e;exact zLr _
    · have:=ih (by omega)
      rw [cnt_step];omega
theorem roomI_bd {T:Tal} {f:Nat} (hf:f<=T.n):0<=roomI T f/\roomI T f<=T.n:=by
 have h1:=cnt_mono T.free hf;have h2:=cnt_le T.free T.n;unfold roomI Tal.frees;omega
section
variable {w:World} {p t bc bk:Nat} {K:Pk} {T:Tal} (hp:PickAt w p t K) (h:TallyAt w t bc bk T)
include hp
theorem next_set (v:Nat):PickAt (w.setCell ⟨p,2,none⟩ (.int .i64 (v:Int))) p t { K with next:=v } :=
 ⟨by rw [zsb hp.top];rfl⟩
end
def zff (p:Nat->Bool) (lo:Nat):Nat->Option Nat
 | 0=>none
 | c+1=>if p lo then some lo else zff p (lo+1) c
theorem firstFree_some {p:Nat->Bool} : ∀ {c lo b:Nat},zff p lo c=some b->lo<=b/\b<lo+c/\p b=true/\∀ i,lo<=i->i<b->p i=false
 | 0,_,_,h=>by cases h
 | c+1,lo,b,h=>by
  unfold zff at h;by_cases hp:p lo=true
  ·rw [if_pos hp] at h;cases h
   exact ⟨zLr _,by omega,hp,fun i _ _=>by omega⟩
  ·rw [if_neg hp] at h
   obtain ⟨h1,h2,h3,h4⟩:=firstFree_some h;refine ⟨by omega,by omega,h3,fun i hi hb=>?_⟩;by_cases e:i=lo
   ·subst e;simpa using hp
   ·exact h4 i (by omega) hb
theorem firstFree_none {p:Nat->Bool} : ∀ {c lo:Nat},zff p lo c=none->∀ i,lo<=i->i<lo+c->p i=false
 | 0,_,_=>fun i _ _=>by omega
 | c+1,lo,h=>fun i h1 h2=>by
  unfold zff at h;by_cases hp:p lo=true
  ·rw [if_pos hp] at h;cases h
  ·rw [if_neg hp] at h
   by_cases e:i=lo
   ·subst e;simpa using hp
   ·exact firstFree_none h i (by omega) (by omega)
def takeR (T:Tal) (K:Pk):Option Nat :=
 match zff T.free K.next (T.n - K.next) with
 | some b=>some b
 | none=>zff T.free K.first (K.next - K.first)
def takeT (T:Tal) (K:Pk):Tal:=match takeR T K with | some b=>T.set b 1 | none=>T
def takeK (T:Tal) (K:Pk):Pk:=match takeR T K with | some b => { K with next:=if b+1=T.n then K.first else b+1 } | none=>K
def takeE (T:Tal) (K:Pk):Int:=match takeR T K with | some _=>0 | none=>90
def takeB (T:Tal) (K:Pk):Int:=match takeR T K with | some b=>b | none=>0
def takeF (T:Tal) (K:Pk):Int:=match takeR T K with | some b=>b | none => -1
def partLo (K:Pk):Nat->Nat | 0=>K.next | _=>K.first
def partHi (T:Tal) (K:Pk):Nat->Nat | 0=>T.n | _=>K.next
def noneYet (T:Tal) (K:Pk) (i:Nat):Prop:=∀ j,j<i->zff T.free (partLo K j) (partHi T K j - partLo K j)=none
theorem takeF_hit {T:Tal} {K:Pk} {i b:Nat} (hi:i<2) (hn:noneYet T K i) (hb:zff T.free (partLo K i) (partHi T K i - partLo K i)=some b):takeF T K=b:=by
 match i,hi with
 | 0,_=>unfold takeF takeR;simp only [partLo,partHi] at hb;rw [hb]
 | 1,_ =>
  have h0:=hn 0 (by omega);unfold takeF takeR;simp only [partLo,partHi] at hb h0;rw [h0,hb]
theorem takeF_miss {T:Tal} {K:Pk} (hn:noneYet T K 2):takeF T K = -1:=by
 have h0:=hn 0 (by omega);have h1:=hn 1 (by omega);unfold takeF takeR;simp only [partLo,partHi] at h0 h1;rw [h0,h1]
theorem noneYet_step {T:Tal} {K:Pk} {i:Nat} (hn:noneYet T K i) (hb:zff T.free (partLo K i) (partHi T K i - partLo K i)=none):noneYet T K (i+1):=by
 intro j hj;by_cases e:j=i
 ·subst e;exact hb
 ·exact hn j (by omega)
theorem firstFree_hit {p:Nat->Bool} {k hi:Nat} (h:k<hi) (hp:p k=true):zff p k (hi - k)=some k:=by
 obtain ⟨c,hc⟩:∃ c,hi - k=c+1:=⟨hi - k - 1,by omega⟩;rw [hc];simp [zff,hp]
theorem firstFree_on {p:Nat->Bool} {k hi:Nat} (h:k<hi) (hp:p k=false):zff p k (hi - k)=zff p (k+1) (hi - (k+1)):=by
 obtain ⟨c,hc⟩:∃ c,hi - k=c+1:=⟨hi - k - 1,by omega⟩;rw [hc,show hi - (k+1)=c by omega];simp [zff,hp]
theorem firstFree_end {p:Nat->Bool} {k:Nat} : zff p k (k - k)=none:=by rw [Nat.sub_self];rfl
theorem pick_ne {w:World} {p t bc bk:Nat} {K:Pk} {T:Tal} (hp:PickAt w p t K) (h:TallyAt w t bc bk T):p∉[t,bc,bk]:=by
 intro hm;simp only [List.mem_cons,List.not_mem_nil,or_false] at hm;rcases hm with rfl | rfl | rfl
 ·have:=hp.top.symm.trans h.top
  simp at this
 ·have:=hp.top.symm.trans h.cs
  simp at this
 ·obtain ⟨es,c,hb⟩:=h.map.obj
  have:=hp.top.symm.trans hb;simp at this
theorem takeR_spec {T:Tal} {K:Pk} (hf:K.first<=K.next) (hn:K.next<=T.n) {b:Nat} (h:takeR T K=some b):K.first<=b/\b<T.n/\T.free b=true:=by
 unfold takeR at h
 split at h
 ·rename_i b' hb
  cases h
  obtain ⟨h1,h2,h3,_⟩:=firstFree_some hb;exact ⟨by omega,by omega,h3⟩
 ·obtain ⟨h1,h2,h3,_⟩:=firstFree_some h
  exact ⟨by omega,by omega,h3⟩
theorem up_free {T:Tal} {b:Nat} (hb:b<T.n) (h:T.free b=true):upE T b=0/\up T b=T.set b 1:=by
 have h0:T.now b=0:=by simp [Tal.free] at h;exact h.1
 have hh:hasB T b=true:=(hasB_iff T b).2 (by omega);have he:upE T b=0:=by simp [upE,hh,h0]
 exact ⟨he,by simp [up,he,h0]⟩
theorem take_at {w:World} {p t bc bk:Nat} {K:Pk} {T:Tal} (hp:PickAt w p t K) (h:TallyAt w t bc bk T) (hf:K.first<=K.next) (hn:K.next<=T.n) :
  Calls Tryz.prog 77 #[.pointer (some ⟨p,0,none⟩)] w fun e w'=>e = .returned (.tuple #[.int .i64 (takeB T K),.int .i64 (takeE T K)]) /\
   PickAt w' p t (takeK T K)/\TallyAt w' t bc bk (takeT T K)/\Chg [p,t,bc,bk] w w':=by
 have c0:=hp.c0;have c1:=hp.c1;have c2:=hp.c2;have n2:=h.n2;have hT:TallyAt w.drew t bc bk T:=h.chg (Chg.drew (Chg.refl [] _)) (by simp) (by simp) (by simp);go_enter Tryz.func77,Tryz.ntmps77;go_wp2_with (first | go_step3 | (go_at_call 128;refine (pnone_at hp).mono ?_;rintro e w' ⟨rfl,rfl⟩))
 go_region_held3 (fun w'=>w'.cell? ⟨p,0,none⟩=some (.pointer (some ⟨t,0,none⟩))/\w'.cell? ⟨p,1,none⟩=some (.int .i64 (K.first:Int))/\w'.cell? ⟨p,2,none⟩=some (.int .i64 (K.next:Int))) (go_keep)
  ((go_at_call 90;refine (blocks_at hT).mono ?_;rintro e w' ⟨rfl,rfl⟩))
 go_upto_block 0 with fail;go_cut [4] (fun f wx=>f = .int .i64 (takeF T K)/\Chg [] w wx)
 case first =>
  have hb0:=znb w (.cells #[.int .i64 (K.next:Int),.int .i64 (T.n:Int),.int .i64 (K.first:Int),.int .i64 (K.next:Int)] 210);have hC0:Chg [] w (w.alloc (.cells #[.int .i64 (K.next:Int),.int .i64 (T.n:Int),.int .i64 (K.first:Int),.int .i64 (K.next:Int)] 210)).drew:=((Chg.refl _ _).alloc _).drew;have Hb0:=zh hb0;have HC0:=zh hC0;clear hb0 hC0;have lt0:=h.lt0;have lt1:=h.lt1;have lt2:=h.lt2;go_wp2_with fail
  go_loopg [4,31] 2 (fun g f i wr=>∃ j:Nat,f = .int .i64 (-1)/\j<=2/\g=2 - j/\i = .int .i64 (j:Int)/\noneYet T K j/\Chg [] w wr /\
   wr.heap[w.heap.size]?=some (.cells #[.int .i64 (K.next:Int),.int .i64 (T.n:Int),.int .i64 (K.first:Int),.int .i64 (K.next:Int)] 210 (0,0)))
  case atStart=>exact ⟨0,rfl,by omega,rfl,rfl,fun j hj=>by omega,HC0.out,Hb0.out⟩
  case round =>
   obtain ⟨j,rfl,hj,hg,hi,hno,hC,hB⟩:=hrel;have Hi:=zh hi;clear hi;have Hno:=zh hno;have HC:=zh hC;have HB:=zh hB;have hTr:=h.chg hC (by simp) (by simp) (by simp);have hPr:=hp.chg hC (by simp);have d0:=hPr.c0;have ltp:=hPr.lt;have e0:=zcb hB 0;have e1:=zcb hB 1;have e2:=zcb hB 2;have e3:=zcb hB 3;simp only [tA1,tA3,tA2] at e0 e1 e2 e3;clear hno hC hB;have hj3:j=0∨j=1∨j=2:=by omega
   rcases hj3 with rfl | rfl | rfl
   ·have hi:=Hi.out.trans (show Value.int .i64 ((0:Nat):Int) = .int .i64 0 from rfl)
    clear Hi;subst hi;go_wp2_with fail;have hTi:TallyAt (wr.alloc (.cells #[.int .i64 (K.next:Int),.int .i64 (T.n:Int)] 210)) t bc bk T:=hTr.chg ((Chg.refl [] _).alloc _) (by simp) (by simp) (by simp)
    go_loop [4,7] (fun f b=>∃ k:Nat,f = .int .i64 (-1)/\K.next<=k/\k<=T.n/\b = .int .i64 (k:Int)/\zff T.free (partLo K 0) (partHi T K 0 - partLo K 0)=zff T.free k (T.n - k)) (fun _ b=>T.n - (intOf b).toNat)
    case atStart=>exact ⟨K.next,rfl,zLr _,hn,rfl,rfl⟩
    case round =>
     obtain ⟨k,rfl,hk1,hk2,rfl,hff⟩:=hrel;have Hff:=zh hff;clear hff;by_cases hlt:k<T.n
     ·have Hfr:=zh (freeB_nat (T:=T) (k:=k) (by omega))
      go_wp2_with (go_at_call 130;refine (free_at hTi k).mono ?_;rintro e w' ⟨rfl,rfl⟩)
      ·have hh:freeB T (k:Int)=true:=by assumption
       have e:=takeF_hit (by omega) Hno.out (Hff.out.trans (firstFree_hit hlt (Hfr.out.symm.trans hh)));go_meet;exact ⟨by rw [e],(HC.out.alloc _)⟩
      ·have hh:freeB T (k:Int)=false:=by assumption
       go_round
       case rel=>exact ⟨k+1,rfl,by omega,by omega,by go_num,Hff.out.trans (firstFree_on hlt (Hfr.out.symm.trans hh))⟩
       case measure=>simp [intOf];omega
     ·obtain rfl:k=T.n:=by omega
      go_wp2_with fail;go_roundg 1
      case measure=>omega
      case rel=>exact ⟨1,rfl,by omega,by omega,rfl,noneYet_step Hno.out (Hff.out.trans firstFree_end),HC.out.alloc _,(Below.heap_alloc _ _ _ (zhl HB.out)).trans HB.out⟩
   ·have hi:=Hi.out.trans (show Value.int .i64 ((1:Nat):Int) = .int .i64 1 from rfl)
    clear Hi;subst hi;go_wp2_with fail;have hTi:TallyAt (wr.alloc (.cells #[.int .i64 (K.first:Int),.int .i64 (K.next:Int)] 210)) t bc bk T:=hTr.chg ((Chg.refl [] _).alloc _) (by simp) (by simp) (by simp)
    go_loop [4,7] (fun f b=>∃ k:Nat,f = .int .i64 (-1)/\K.first<=k/\k<=K.next/\b = .int .i64 (k:Int)/\zff T.free (partLo K 1) (partHi T K 1 - partLo K 1)=zff T.free k (K.next - k)) (fun _ b=>K.next - (intOf b).toNat)
    case atStart=>exact ⟨K.first,rfl,zLr _,hf,rfl,rfl⟩
    case round =>
     obtain ⟨k,rfl,hk1,hk2,rfl,hff⟩:=hrel;have Hff:=zh hff;clear hff;by_cases hlt:k<K.next
     ·have Hfr:=zh (freeB_nat (T:=T) (k:=k) (by omega))
      go_wp2_with (go_at_call 130;refine (free_at hTi k).mono ?_;rintro e w' ⟨rfl,rfl⟩)
      ·have hh:freeB T (k:Int)=true:=by assumption
       have e:=takeF_hit (by omega) Hno.out (Hff.out.trans (firstFree_hit hlt (Hfr.out.symm.trans hh)));go_meet;exact ⟨by rw [e],(HC.out.alloc _)⟩
      ·have hh:freeB T (k:Int)=false:=by assumption
       go_round
       case rel=>exact ⟨k+1,rfl,by omega,by omega,by go_num,Hff.out.trans (firstFree_on hlt (Hfr.out.symm.trans hh))⟩
       case measure=>simp [intOf];omega
     ·obtain rfl:k=K.next:=by omega
      go_wp2_with fail;go_roundg 0
      case measure=>omega
      case rel=>exact ⟨2,rfl,by omega,by omega,rfl,noneYet_step Hno.out (Hff.out.trans firstFree_end),HC.out.alloc _,(Below.heap_alloc _ _ _ (zhl HB.out)).trans HB.out⟩
   ·have hi:=Hi.out.trans (show Value.int .i64 ((2:Nat):Int) = .int .i64 2 from rfl)
    clear Hi;subst hi;go_wp2_with fail;go_meet;exact ⟨by rw [takeF_miss Hno.out],HC.out⟩
 case rest =>
  obtain ⟨hf4,hC⟩:=hcut;have hTx:=h.chg hC (by simp) (by simp) (by simp);have hPx:=hp.chg hC (by simp);have d0:=hPx.c0;have HC:=zh hC;clear hC
  cases hr:takeR T K with
  | none =>
   replace hf4:=hf4.trans (show Value.int .i64 (takeF T K) = .int .i64 (-1) by simp [takeF,hr]);subst hf4;have Hr:=zh hr;clear hr;go_wp2_with fail;rw [Exit.noGoto_ret]
   go_ret2
   refine ⟨by simp [takeB,takeE,Hr.out],by simpa [takeK,Hr.out] using hPx,by simpa [takeT,Hr.out] using hTx,HC.out.mono (by simp)⟩
  | some b =>
   replace hf4:=hf4.trans (show Value.int .i64 (takeF T K) = .int .i64 (b:Int) by simp [takeF,hr]);subst hf4;obtain ⟨hb1,hb2,hb3⟩:=takeR_spec hf hn hr;have Hr:=zh hr;have Hu:=zh (up_free hb2 hb3);clear hr hb3;go_wp2_with fail;refine (up_at hTx (b:Int)).mono ?_;rintro e w1 ⟨rfl,hT1,hC1⟩;rw [Hu.out.2] at hT1;have hP1:=hPx.chg hC1 (pick_ne hPx hTx);have f0:=hP1.c0;have f1:=hP1.c1;have f2:=hP1.c2;have ff:=hP1.fz 2;have hPs:=next_set hP1 (b+1);have hne:=pick_ne hP1 hT1;have hTs:TallyAt (w1.setCell ⟨p,2,none⟩ (.int .i64 ((b+1:Nat):Int))) t bc bk (T.set b 1):=hT1.chg (L:=[p]) ((Chg.refl _ _).setCell (.inl (by simp)) _) (by simp at hne ⊢;exact fun e=>hne.1 e.symm) (by simp at hne ⊢;exact fun e=>hne.2.1 e.symm) (by simp at hne ⊢;exact fun e=>hne.2.2 e.symm);have hcc:Chg [p,t,bc,bk] w (w1.setCell ⟨p,2,none⟩ (.int .i64 ((b+1:Nat):Int))):=((HC.out.mono (L':=[p,t,bc,bk]) (by simp)).trans (hC1.mono (by simp))).setCell (.inl (by simp)) _;rw [Int.natCast_add,Int.natCast_one] at hPs hTs hcc;have HCC:=zh hcc;clear hcc;have hne:=zh hne
   have Hfin:Hid (takeB T K=b/\takeE T K=0/\takeT T K=T.set b 1/\takeK T K = { K with next:=if b+1=T.n then K.first else b+1 }) :=
    zh ⟨by simp [takeB,Hr.out],by simp [takeE,Hr.out],by simp [takeT,Hr.out],by simp [takeK,Hr.out]⟩
   have g0:=hPs.c0;have g1:=hPs.c1;have g2:=hPs.c2;have gf:=hPs.fz 2;go_wp2_with fail;have Hn:=zh hne;clear hne
   have ho:t∉[p]/\bc∉[p]/\bk∉[p]:=by
    have:=Hn.out;simp only [Hid,List.mem_cons,List.not_mem_nil,or_false,not_or] at this ⊢;exact ⟨fun e=>this.1 e.symm,fun e=>this.2.1 e.symm,fun e=>this.2.2 e.symm⟩
   have Ho:=zh ho;clear ho;by_cases hbn:b+1=T.n
   ·have hd:((b:Int)+1==((T.set b 1).n:Int))=true:=by simp [Tal.set];omega
    have Hbn:=zh hbn;clear hbn
    go_quiet ((go_at_call 90;exact quiet_left (blocks_at (w:=World.drewN _ _) (hTs.chg (Chg.drewN (Chg.refl [] _) _) (by simp) (by simp) (by simp)))))
    go_wp2_with fail;rw [Exit.noGoto_ret]
    go_ret2
    have hcE:Chg [p] (w1.setCell ⟨p,2,none⟩ (.int .i64 ((b:Int)+1))) (((w1.setCell ⟨p,2,none⟩ (.int .i64 ((b:Int)+1))).drewN nq).setCell ⟨p,2,none⟩ (.int .i64 (K.first:Int))) :=
     (Chg.drewN (Chg.refl _ _) _).setCell (.inl (by simp)) _
    obtain ⟨q1,q2,q3,q4⟩:=Hfin.out;rw [if_pos Hbn.out] at q4;refine ⟨by rw [q1,q2];rfl,?_,?_,?_⟩
    ·rw [q4]
     exact next_set (w:=World.drewN _ _) (K := { K with next:=b+1 }) ⟨hPs.top⟩ K.first
    ·rw [q3]
     exact hTs.chg hcE Ho.out.1 Ho.out.2.1 Ho.out.2.2
    ·exact HCC.out.trans (hcE.mono (by simp))
   ·have hd:((b:Int)+1==((T.set b 1).n:Int))=false:=by simp [Tal.set];omega
    have Hbn:=zh hbn;clear hbn
    go_quiet ((go_at_call 90;exact quiet_left (blocks_at (w:=World.drewN _ _) (hTs.chg (Chg.drewN (Chg.refl [] _) _) (by simp) (by simp) (by simp)))))
    go_wp2_with fail;rw [Exit.noGoto_ret]
    go_ret2
    have hcE:Chg [] (w1.setCell ⟨p,2,none⟩ (.int .i64 ((b:Int)+1))) ((w1.setCell ⟨p,2,none⟩ (.int .i64 ((b:Int)+1))).drewN nq) :=
     Chg.drewN (Chg.refl _ _) _
    obtain ⟨q1,q2,q3,q4⟩:=Hfin.out;rw [if_neg Hbn.out] at q4;refine ⟨by rw [q1,q2];rfl,?_,?_,?_⟩
    ·rw [q4]
     exact ⟨hPs.top⟩
    ·rw [q3]
     exact hTs.chg hcE (by simp) (by simp) (by simp)
    ·exact HCC.out.trans (hcE.mono (by simp))
end Go.Proofs.YtkhcaclndepgbaaGreat
