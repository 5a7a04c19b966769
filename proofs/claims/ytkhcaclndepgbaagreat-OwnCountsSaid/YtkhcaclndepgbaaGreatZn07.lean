/- Package super: Decode of a page that Encode has made, and of what is none. -/
import Derived.Test.YtkhcaclndepgbaaGreatZn06
set_option linter.unusedVariables false
set_option linter.unusedSimpArgs false
set_option maxRecDepth 100000
set_option maxHeartbeats 20000000
namespace Go.Proofs.YtkhcaclndepgbaaGreat
open Go.RowKit Go.Shelf
attribute [local go_sem] Oper.semAt_some
theorem slMax_zero {w:World} {b off n cap:Nat} (hn:1<=n) (hn2:n<=1000) (hb:∀ i,i<n->w.cell? ⟨b,off+i,none⟩=some (.int .u8 0)) :
  Calls Tryz.prog 184 #[.slice (some ⟨b,off,none⟩) n cap] w fun e w'=>e = .returned (.int .u8 0)/\w=w':=by
 have c0:=hb 0 (by omega);rw [Nat.add_zero] at c0;have HB:=zh hb;have i0:¬ (n:Int)<1:=by omega
 have i1:(0:Int)<(n:Int):=by omega
 clear hb;go_enter Tryz.func184,Tryz.ntmps184;go_wp2_with fail;go_loopg [3,4] (n - 1) (fun gg m s wr=>∃ k:Nat,gg=n - k/\1<=k/\k<=n/\m = .int .u8 0/\s = .int .i64 (k:Int)/\w=wr)
 case atStart=>exact ⟨1,rfl,zLr _,hn,rfl,by go_num,rfl⟩
 case round =>
  obtain ⟨k,hgg,hk1,hkn,rfl,rfl,rfl⟩:=hrel;by_cases hk:k<n
  ·have c1:=HB.out k hk
   have i2:(k:Int)<(n:Int):=by omega
   go_wp2_with fail;go_roundg (n - (k+1))
   case measure=>omega
   case rel=>exact ⟨k+1,rfl,by omega,by omega,by simp,by go_num,rfl⟩
  ·obtain rfl:k=n:=by omega
   go_wp2_with fail;go_ret;exact ⟨rfl,rfl⟩
def supZ:Sup:=Sup.ofV fun _=>0
def zSup:Array Value:=#[.int .u64 0,.int .u32 0,.int .u32 0,.int .u32 0,.int .u32 0,.int .u32 0,.int .u32 0,.int .u32 0,.int .u32 0,.int .u32 0,.int .u64 0,.int .u64 0,.int .u64 0,.int .u64 0,.int .u64 0,.int .u64 0,.int .u64 0,.int .u64 0]
theorem supZ_row:supZ.row=zSup:=by
 apply Array.ext_getElem?;intro i;by_cases hi:i<18
 ·rw [Sup.row,zfg hi,cellV_mk _ hi,supZ,ofV_val]
  match i,hi with
  | 0,_=>rfl
  | 1,_=>rfl
  | 2,_=>rfl
  | 3,_=>rfl
  | 4,_=>rfl
  | 5,_=>rfl
  | 6,_=>rfl
  | 7,_=>rfl
  | 8,_=>rfl
  | 9,_=>rfl
  | 10,_=>rfl
  | 11,_=>rfl
  | 12,_=>rfl
  | 13,_=>rfl
  | 14,_=>rfl
  | 15,_=>rfl
  | 16,_=>rfl
  | 17,_=>rfl
  | n+18,h=>exact absurd h (by omega)
 ·rw [Array.getElem?_eq_none (by rw [Sup.row_size];omega),Array.getElem?_eq_none (by show 18<=i;omega)]
def supK (S:Sup) (k:Nat):Sup:=Sup.ofV fun i=>if i<k then S.valS i else 0
theorem supK_val (S:Sup) (k i:Nat):(supK S k).valS i=if i<k then S.valS i else 0:=ofV_val _
theorem supK_self (S:Sup) {k:Nat} (hk:k<18):(supK S (k+1)).valS k=S.valS k:=by rw [supK_val,if_pos (by omega)]
theorem supK_other (S:Sup) {k:Nat} : ∀ i,i<18->i≠k->(supK S (k+1)).valS i=(supK S k).valS i:=fun i hi h=>by
 rw [supK_val,supK_val];by_cases h2:i<k
 ·rw [if_pos h2,if_pos (by omega)]
 ·rw [if_neg h2,if_neg (by omega)]
theorem supK_wf {S:Sup} (h:S.Ok) (k:Nat):(supK S k).Wf:=⟨fun i hi=>by
 rw [supK_val]
 split
 ·exact h.wf.v i hi
 ·exact Nat.pow_pos (by omega)⟩
theorem supK_all (S:Sup):(supK S 18).row=S.row:=row_congr fun i hi=>by rw [supK_val,if_pos hi]
theorem suDecode_ok {w:World} {b off cap:Nat} {f:Nat->Nat} {S:Sup} (hok:S.Ok) (hb:BytesAt w b off 128 f) (hcap:128<=cap) (hcm:cap<=9223372036854775807) (hf:∀ i,i<128->f i=pageS S i) :
  Calls Tryz.prog 150 #[.slice (some ⟨b,off,none⟩) 128 cap] w fun e w'=>e = .returned (.tuple #[.agg S.row,.int .i64 0])/\Chg [] w w':=by
 refine (callsIn_wide (n:=8)).1 ?_;refine callsIn_of_wp_marks Tryz.func150 rfl trivial ?_ rfl;simp only [Tryz.ntmps150,List.size_toArray,List.length_cons,List.length_nil,Nat.reduceAdd,Nat.reduceSub,Array.replicate_succ,Array.replicate_zero,List.push_toArray,List.append_toArray,List.nil_append,List.cons_append];have hp:pageOK f:=pageOK_congr (fun i hi=>(hf i hi).symm) (pageS_ok S);have hk0:f 0=6:=by rw [hf 0 (by omega)];exact pageS_kind _
 have hbody:∀ i,i<123->f (1+i)=supB S i:=fun i hi=>by rw [hf (1+i) (by omega)];exact pageS_body _ hi
 have hc0:=(Chg.refl [] w).alloc (.cells zSup 49);have k0:=znb w (.cells zSup 49);have co:=open_right (hb.chg hc0 (by simp)) hcap hcm hp;rw [hk0] at co;have CO:=zh co;have HB:=zh hbody;have HOK:=zh hok;have HK0:=zh (zA k0 hc0);clear hc0 k0 co hp hk0 hbody hb hf hok;unfold zSup at CO HK0
 gi_wp2
 refine ⟨trivial,(callsIn_wide.2 CO.out).mono ?_⟩;clear CO;rintro e w1 ⟨g,c,rfl,q1,q2,q3,q4,q5,q6⟩;have HO:=zh (zA q1 (zA q2 (zA q3 (zA q4 (zA q5 q6)))));have hcA:=(Chg.refl [] w1).alloc (.cells #[.slice (some ⟨g,0,none⟩) 123 c] 22);have kA:=znb w1 (.cells #[.slice (some ⟨g,0,none⟩) 123 c] 22);have dA:=zcb kA 0;simp only [tA1,tA3] at dA;have hbA:=q5.chg hcA (by simp)
 have cM:=slMax_zero (b:=g) (off:=108) (n:=7) (cap:=c - 108) (by omega) (by omega) (w:=w1.alloc (.cells #[.slice (some ⟨g,0,none⟩) 123 c] 22)) (fun i hi=>by
  have:=(hbA (108+i) (by omega)).1;rw [Nat.zero_add] at this;rw [this]
  show some (Value.int .u8 ((f (1+(108+i)):Nat):Int))=_
  rw [HB.out _ (by omega),supB_mid S (by omega) (by omega)];rfl)
 have CM:=zh cM;have HA:=zh (zA hcA (zA kA hbA));have ic:¬ ((c:Int)<115):=by omega
 clear q1 q2 q3 q4 q5 q6 cM hcA kA hbA
 gi_wp2
 generalize w1.alloc (.cells #[.slice (some ⟨g,0,none⟩) 123 c] 22)=W at *;refine ⟨trivial,(callsIn_wide.2 CM.out).mono ?_⟩;clear CM;rintro e w' ⟨rfl,rfl⟩;have hcB:=(Chg.refl [] W).alloc (.cells zSup 49);have kB:=znb W (.cells zSup 49);have HB2:=zh (zA hcB kB);have sW:W.heap.size<(W.alloc (.cells zSup 49)).heap.size:=by simp
 unfold zSup at HB2;clear hcB kB sW
 gi_wp2
 obtain ⟨W2,hW2⟩:∃ W2,W2=W.alloc (.cells #[.int .u64 0,.int .u32 0,.int .u32 0,.int .u32 0,.int .u32 0,.int .u32 0,.int .u32 0,.int .u32 0,.int .u32 0,.int .u32 0,.int .u64 0,.int .u64 0,.int .u64 0,.int .u64 0,.int .u64 0,.int .u64 0,.int .u64 0,.int .u64 0] 49):=⟨_,rfl⟩;rw [<- hW2] at HB2 ⊢;have hs2:W2.heap.size=W.heap.size+1:=by rw [hW2];simp
 clear hW2;refine ⟨trivial,(callsIn_wide.2 (suFields_at (w:=W2) (sb:=W.heap.size))).mono ?_⟩;rintro e w' ⟨rfl,rfl⟩;have hc3:Chg [] W2 (W2.alloc (.cells #[.pointer (some ⟨W.heap.size,0,none⟩)] 232)):=(Chg.refl _ _).alloc _;have kp:=znb W2 (.cells #[.pointer (some ⟨W.heap.size,0,none⟩)] 232);have hs3:(W2.alloc (.cells #[.pointer (some ⟨W.heap.size,0,none⟩)] 232)).heap.size=W2.heap.size+1:=by simp
 have zeq:(#[.int .u64 0,.int .u32 0,.int .u32 0,.int .u32 0,.int .u32 0,.int .u32 0,.int .u32 0,.int .u32 0,.int .u32 0,.int .u32 0,.int .u64 0,.int .u64 0,.int .u64 0,.int .u64 0,.int .u64 0,.int .u64 0,.int .u64 0,.int .u64 0]:Array Value)=supZ.row:=supZ_row.symm;rw [zeq] at HB2 HK0 HO;have ks3:=(hc3.block _ (zhl HB2.out.2) (by simp)).trans HB2.out.2;have hcW3:=HB2.out.1.trans hc3;have kA3:=(hcW3.block _ (zhl HA.out.2.1) (by simp)).trans HA.out.2.1;have hbA3:=HA.out.2.2.chg hcW3 (by simp);have hc13:=HA.out.1.trans hcW3;have kr3:=((HO.out.2.2.2.2.2.trans hc13).block _ (zhl HK0.out.1) (by simp)).trans HK0.out.1;have hcw3:=HK0.out.2.trans (HO.out.2.2.2.2.2.trans hc13);have hsg:=HO.out.2.2.2.1;have hsr:w.heap.size+1<=g:=by have:=HO.out.2.2.1;simpa using this
 have hsW:w1.heap.size+1<=W.heap.size:=zhl HA.out.2.1;generalize W2.alloc (.cells #[.pointer (some ⟨W.heap.size,0,none⟩)] 232)=W3 at *;obtain ⟨r,hr⟩:∃ r,r=w.heap.size:=⟨_,rfl⟩;obtain ⟨bc,hbc⟩:∃ bc,bc=w1.heap.size:=⟨_,rfl⟩;obtain ⟨sb,hsb⟩:∃ sb,sb=W.heap.size:=⟨_,rfl⟩;obtain ⟨pb,hpb⟩:∃ pb,pb=W2.heap.size:=⟨_,rfl⟩;rw [<- hsb] at kp ks3 hs2 hsW;rw [<- hpb] at kp hs2 hs3;rw [<- hbc] at kA3 hsg hsW;rw [<- hr] at kr3 hsr;have it:=suFields_iter 7 pb sb [sb] W3 ((zcb kp 0).trans rfl) (by simp;omega) (zhl ks3) (by omega) (by intro x hx;simp only [zms] at hx;subst hx;exact zhl ks3);have HL:=zh (show r<g/\g<bc/\bc<sb/\sb<pb/\pb<W3.heap.size from ⟨by omega,by omega,by omega,by omega,by omega⟩);have HC3:=zh hcw3;have H3:=zh (zA ks3 (zA kA3 (zA hbA3 (zA kr3 kp))));have HR:=zh hr;have HI:=zh it;have e1:=hr.symm;have e2:=hbc.symm;have e3:=hsb.symm;have e4:=hpb.symm;have HQ:=zh (zA HO.out.1 HO.out.2.1);clear hc3 kp hs3 zeq ks3 hcW3 kA3 hbA3 hc13 kr3 hcw3 hsg hsr hsW hr hbc hsb hpb it hs2 HB2 HA HO HK0 dA
 gi_wp2
 clear e1 e2 e3 e4;have wfK:=fun k=>supK_wf HOK.out k
 refine wpIn_rangeFunc_av rfl (by omega) (gf:=175) (lb:=#[.pointer (some ⟨pb,0,none⟩)]) rfl trivial (enters_of Tryz.func175 (by kernel_rfl) rfl) HI.out (by intro x hx;simp only [zms] at hx;have:=HL.out;omega) (by rintro k W av ⟨S',ib,_,_,rfl,_⟩;rfl)
  (fun k W=>Chg [sb] W3 W/\W.heap[sb]?=some (.cells (supK S k).row 49 (0,0)))
  (fun c k W=>False)
  (fun k A B h hab=>⟨h.1.afar hab,(hab.block _ (by have:=HL.out;omega)).trans h.2⟩)
  (fun c k A B h hab=>h)
  ⟨Chg.refl _ _,H3.out.1⟩ (fun k A h=>⟨supK S k,wfK k,h.2⟩) ?round ?done (fun D c k W hD hk h hK=>h.elim)
 case round =>
  intro l' k W' av hl1 hl2 hI hk hav hlp;obtain ⟨S',ib,hS',hs',rfl,hib⟩:=hav;obtain ⟨hcI,hsI⟩:=hI;obtain ⟨rl,hlp⟩:=hlp;obtain ⟨fv,hfv⟩:∃ fv,fv=setFn k pb ib:=⟨_,rfl⟩;have hf1:fv.oneCell'=true:=by rw [hfv];exact setFn_one _ _ _
  rw [<- hfv];have nb:∀ q,q<W3.heap.size->q≠sb->q∉[sb]:=fun q _ h=>by simpa using h
  have kcI:=(hcI.block bc (by have:=HL.out;omega) (nb _ (by have:=HL.out;omega) (by have:=HL.out;omega))).trans H3.out.2.1;have hbI:=H3.out.2.2.1.chg hcI (nb _ (by have:=HL.out;omega) (by have:=HL.out;omega));have kpI:=(hcI.block pb (by have:=HL.out;omega) (nb _ (by have:=HL.out;omega) (by have:=HL.out;omega))).trans H3.out.2.2.2.2;have HX:=zh (zA hcI (zA hsI (zA kcI (zA hbI kpI))));have HIB:=zh hib;have HFV:=zh hfv;have HLP:=zh hlp;clear hcI hsI kcI hbI kpI hs' hfv hS' hib nb hlp
  gi_wp2_with (refine wpListIn_storeNew rfl 235 (.tmp 9) (.tmp 35) rfl #[.int .i64 0,.int .u64 0,.nilFunc] #[.int .i64 (sizS k:Int),.int .u64 (S'.valS k:Int),fv] W'.heap.size 3 rfl rfl rfl infoField rfl rfl (three_one hf1) ?_)
  have hfb:=znb W' (.cells #[.int .i64 (sizS k:Int),.int .u64 (S'.valS k:Int),fv] 235);have hcF:=(Chg.refl [] W').alloc (.cells #[.int .i64 (sizS k:Int),.int .u64 (S'.valS k:Int),fv] 235);refine ⟨hcF.mono (by simp),fun W5 hc5=>?_⟩;have hl2':l'<W'.heap.size:=hl2;have hfb5:=(hc5.block W'.heap.size (zhl hfb) (by simp only [zms];omega)).trans hfb;have up:∀ {q:Nat} {o:Obj},q≠l'->W'.heap[q]?=some o->W5.heap[q]?=some o:=fun {q o} hne h=>(hc5.block q (zLl (zhl h) hcF.size) (by simpa using hne)).trans ((hcF.block q (zhl h) (by simp)).trans h);have hcb5:=up (by have:=HL.out;omega) HX.out.2.2.1;have hpb5:=up (by have:=HL.out;omega) HX.out.2.2.2.2;have hsb5:=up (by have:=HL.out;omega) HX.out.2.1;have hbg5:BytesAt W5 g 0 123 (fun i=>f (1+i)):=(HX.out.2.2.2.1.chg hcF (by simp)).chg hc5 (by simp only [zms];have:=HL.out;omega)
  have hib5:2<=k->W5.heap[ib]?=some (.cells #[.int .i64 (if k<10 then ((k - 2:Nat):Int) else ((k - 10:Nat):Int))] 3 (0,0)):=fun h2=>up (fun e=>by
   have:=(HIB.out h2).1;rw [e,HLP.out] at this;cases this) (HIB.out h2).1
  have enum:num (fun i=>f (1+i)) (offS k) (sizS k)=S.valS k:=by
   rw [<- supB_num HOK.out hk];exact num_congr _ fun i hi=>HB.out _ (by have:=off_end hk;omega)
  have cg:=get_num hbg5 HQ.out.1 (by have:=HQ.out.2;unfold maxLen at this;omega) (by omega) (offS k) (sizS k) (siz_bd k).1 (siz_bd k).2 (by have:=off_end hk;omega);rw [enum] at cg;have CG:=zh cg;have c0:=zcb hcb5 0;have d0:=zcb hfb5 0;have d2:=zcb hfb5 2;have p0:=zcb hpb5 0;simp only [tA1,tA3,tA2] at c0 d0 d2 p0;have HX7:=zh (zA ((HX.out.1.then (hcF.mono (L':=[]) (by simp)) (by simp)).then hc5 (fun q hq=>by simp only [zms] at hq;subst hq;exact .inr hl1):Chg [sb] W3 W5) (zA hsb5 (zA hib5 p0)));clear cg hcb5 hfb5 hfb hcF hc5 up hpb5 hsb5 hbg5 hib5 enum HX HIB HLP hf1
  gi_wp2
  refine ⟨trivial,(callsIn_wide.2 CG.out).mono ?_⟩;rintro e W7 ⟨rfl,rfl⟩;clear CG c0 d0;by_cases h0:k=0
  ·subst h0
   have efv:fv = .func (.func 177) #[] #[.pointer (some ⟨pb,0,none⟩)]:=HFV.out;rw [efv] at d2;have cS:=set2_at (w:=W5) (x:=S.valS 0) HX7.out.2.2.2 HX7.out.2.1
   skip
   have CS:=zh cS;clear cS
   gi_wp2
   refine ⟨trivial,(callsIn_wide.2 CS.out).mono ?_⟩;rintro e w8 ⟨⟨v8,rfl⟩,hb8,hc8⟩;have HE:=zh (zA hb8 hc8);clear hb8 hc8 CS
   gi_wp2
   refine ⟨HE.out.2,HX7.out.1.trans HE.out.2,?_⟩;refine HE.out.1.trans ?_;have e:=row_set (S:=supK S 0) (S':=supK S (0+1)) (k:=0) (by omega) (supK_other S);rw [supK_self S (by omega)] at e;unfold mkV at e;rw [if_pos rfl] at e;exact congrArg (fun r=>some (Obj.cells r 49 (0,0))) e
  ·by_cases h1:k=1
   ·subst h1
    have efv:fv = .func (.func 178) #[] #[.pointer (some ⟨pb,0,none⟩)]:=HFV.out;rw [efv] at d2;have cS:=set3_at (w:=W5) (x:=S.valS 1) HX7.out.2.2.2 HX7.out.2.1 (by have:=HOK.out.wf.v 1 (by omega);change S.valS 1<256 ^ 4 at this;omega)
    skip
    have CS:=zh cS;clear cS
    gi_wp2
    refine ⟨trivial,(callsIn_wide.2 CS.out).mono ?_⟩;rintro e w8 ⟨⟨v8,rfl⟩,hb8,hc8⟩;have HE:=zh (zA hb8 hc8);clear hb8 hc8 CS
    gi_wp2
    refine ⟨HE.out.2,HX7.out.1.trans HE.out.2,?_⟩;refine HE.out.1.trans ?_;have e:=row_set (S:=supK S 1) (S':=supK S (1+1)) (k:=1) (by omega) (supK_other S);rw [supK_self S (by omega)] at e;unfold mkV at e;rw [if_neg (by omega),if_pos (by omega)] at e;exact congrArg (fun r=>some (Obj.cells r 49 (0,0))) e
   ·by_cases h2:k<10
    ·have kib:=HX7.out.2.2.1 (by omega)
     rw [if_pos h2] at kib;have ci:=zcb kib 0;simp only [tA1,tA3] at ci;have efv:fv = .func (.func 179) #[] #[.pointer (some ⟨pb,0,none⟩),.pointer (some ⟨ib,0,none⟩)]:=by rw [HFV.out];unfold setFn;rw [if_neg h0,if_neg h1,if_pos h2]
     rw [efv] at d2;have e2k:2+(k - 2)=k:=by omega
     have cS:=set4_at (j:=k - 2) (by omega) (w:=W5) (x:=S.valS k) HX7.out.2.2.2 ci HX7.out.2.1 (by have:=HOK.out.wf.v k hk;rw [show sizS k=4 from by unfold sizS;rw [if_neg h0,if_pos h2]] at this;change S.valS k<256 ^ 4 at this;omega);rw [e2k] at cS;clear ci kib e2k;have CS:=zh cS;clear cS
     gi_wp2
     refine ⟨trivial,(callsIn_wide.2 CS.out).mono ?_⟩;rintro e w8 ⟨⟨v8,rfl⟩,hb8,hc8⟩;have HE:=zh (zA hb8 hc8);clear hb8 hc8 CS
     gi_wp2
     refine ⟨HE.out.2,HX7.out.1.trans HE.out.2,?_⟩;refine HE.out.1.trans ?_;have e:=row_set (S:=supK S k) (S':=supK S (k+1)) (k:=k) hk (supK_other S);rw [supK_self S hk] at e;unfold mkV at e;rw [if_neg h0,if_pos h2] at e;exact congrArg (fun r=>some (Obj.cells r 49 (0,0))) e
    ·have kib:=HX7.out.2.2.1 (by omega)
     rw [if_neg h2] at kib;have ci:=zcb kib 0;simp only [tA1,tA3] at ci;have efv:fv = .func (.func 180) #[] #[.pointer (some ⟨pb,0,none⟩),.pointer (some ⟨ib,0,none⟩)]:=by rw [HFV.out];unfold setFn;rw [if_neg h0,if_neg h1,if_neg h2]
     rw [efv] at d2;have e2k:10+(k - 10)=k:=by omega
     have cS:=set5_at (j:=k - 10) (by omega) (w:=W5) (x:=S.valS k) HX7.out.2.2.2 ci HX7.out.2.1;rw [e2k] at cS;clear ci kib e2k;have CS:=zh cS;clear cS
     gi_wp2
     refine ⟨trivial,(callsIn_wide.2 CS.out).mono ?_⟩;rintro e w8 ⟨⟨v8,rfl⟩,hb8,hc8⟩;have HE:=zh (zA hb8 hc8);clear hb8 hc8 CS
     gi_wp2
     refine ⟨HE.out.2,HX7.out.1.trans HE.out.2,?_⟩;refine HE.out.1.trans ?_;have e:=row_set (S:=supK S k) (S':=supK S (k+1)) (k:=k) hk (supK_other S);rw [supK_self S hk] at e;unfold mkV at e;rw [if_neg h0,if_neg h2] at e;exact congrArg (fun r=>some (Obj.cells r 49 (0,0))) e
 case done =>
  rintro D W' hD ⟨hcI,hsI⟩ hK;rw [supK_all] at hsI;have nb:∀ q,q<W3.heap.size->q≠sb->q∉[sb]:=fun q _ h=>by simpa using h
  have kcI:=(hcI.block bc (by have:=HL.out;omega) (nb _ (by have:=HL.out;omega) (by have:=HL.out;omega))).trans H3.out.2.1;have krI:=(hcI.block r (by have:=HL.out;omega) (nb _ (by have:=HL.out;omega) (by have:=HL.out;omega))).trans H3.out.2.2.2.1;have hbI:=H3.out.2.2.1.chg hcI (nb _ (by have:=HL.out;omega) (by have:=HL.out;omega))
  have enum:num (fun i=>f (1+i)) 115 8=S.gen:=by
   rw [<- supB_last HOK.out];exact num_congr _ fun i hi=>HB.out _ (by omega)
  have cg:=get_num hbI HQ.out.1 (by have:=HQ.out.2;unfold maxLen at this;omega) (by omega) 115 8 (by omega) (by omega) (by omega);rw [enum] at cg
  change Calls _ _ #[_,.int .i64 115,.int .i64 8] W' _ at cg
  have CG:=zh cg;have c0:=zcb kcI 0;simp only [tA1,tA3] at c0;have g0:=Sup.cell hsI (i:=0) (by omega)
  change W'.cell? ⟨sb,0,none⟩=some (.int .u64 (S.gen:Int)) at g0
  have cR:=suRight_at (w:=W') HOK.out;have HS:=zh (zA hsI (zA krI (zA hcI (zA hK cR))));have ig:((S.gen:Int) != (S.gen:Int))=false:=by simp
  clear hsI krI hcI hK cR cg enum hbI kcI nb H3 HI wfK
  gi_wp2
  refine ⟨trivial,(callsIn_wide.2 CG.out).mono ?_⟩;rintro e W7 ⟨rfl,rfl⟩;clear CG c0
  gi_wp2_with (refine wpListIn_loadSup_w (S:=S) (.tmp 7) rfl (by kernel_rfl) (k:=sb) (o:=0) rfl (Sup.cells HS.out.1) ?_)
  refine ⟨trivial,(callsIn_wide.2 HS.out.2.2.2.2).mono ?_⟩;rintro e w' ⟨rfl,rfl⟩;have hc8:Chg [] W' (W'.alloc (.cells S.row 49)):=(Chg.refl _ _).alloc _;have hs8:=(hc8.block sb (zhl HS.out.1) (by simp)).trans HS.out.1;have hr8:=(hc8.block r (zhl HS.out.2.1) (by simp)).trans HS.out.2.1;have hD8:=(hc8.block D (zhl HS.out.2.2.2.1) (by simp)).trans HS.out.2.2.2.1;have H8:=zh (zA hs8 (zA hr8 (zA hD8 hc8)));clear g0 hs8 hr8 hD8 hc8;generalize W'.alloc (.cells S.row 49)=W8 at *
  gi_wp2_with (first
   | (refine wpListIn_loadSup (S:=S) rfl (.tmp 7) rfl (k:=sb) (o:=0) rfl (Sup.cells H8.out.1) ?_)
   | (refine wpListIn_storeRow (t:=49) (T:=49) (b:=r) (o:=0) (n:=18) (N:=18) (V:=supZ.cellV) (U:=S.cellV) rfl (.tmp 2) (.tmp 63) rfl rfl rfl H8.out.2.1 (by omega) infoSup (fun i _=>S.cell_one i) ?_;intro w9 hr9 hc9;have H9:=zh (zA hr9 hc9);clear hr9 hc9))
  have hr9:=H9.out.1;rw [laid_sup] at hr9;have hD9:=(H9.out.2.block D (zhl H8.out.2.2.1) (by simp only [zms];have:=HL.out;omega)).trans H8.out.2.2.1;have hrZ:=(World.putObj_heap_other (w:=w9) (o := .deferred none) (show r≠D by have:=HL.out;omega)).trans hr9;refine ⟨by simp,.inl ⟨_,_,rfl,run_takeDeferred hD9,?_⟩⟩;have hld:=load_sup (Sup.cells hrZ);refine ⟨.tuple #[.agg S.row,.int .i64 0],results_ct (a:=2) (b:=3) (by kernel_rfl) rfl hld,rfl,?_⟩;have hcA:Chg [r,sb] W3 w9:=(HS.out.2.2.1.mono (by simp +contextual)).trans ((H8.out.2.2.2.mono (by simp)).trans (H9.out.2.mono (by simp +contextual)));exact (HC3.out.then hcA (fun q hq=>by simp only [List.mem_cons,List.not_mem_nil,or_false] at hq;have:=HL.out;have:=HR.out;rcases hq with e | e <;> exact .inr (by omega))).then (chg_put (l:=D) _) (fun q hq=>by simp only [zms] at hq;subst hq;exact .inr (by have:=HC3.out.size;omega))
end Go.Proofs.YtkhcaclndepgbaaGreat
