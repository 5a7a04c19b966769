/- Package share: nodes. · A map whose key -/
import Derived.Test.YtegpiomkmfhadaaGreatZo35
import Derived.Test.YtegpiomkmfhadaaGreatItN
set_option linter.all false
set_option maxRecDepth 100000
set_option maxHeartbeats 20000000
namespace Go.Proofs.YtegpiomkmfhadaaGreat
open Go.RowKit Go.Maps
variable {x h:Nat} {d:Nd}
def Ba (k v:Nat) (d:Nd):Value := .agg #[.bool d.leaf,zS k d.n d.n,zS v d.n d.n]
def XE:Value->Bool:=fun _=>true
def cz (L0:Nat) (w:World) (v:Value) (d:Nd):Prop:=∃ kb vb,v=Ba kb vb d/\L0<=kb/\L0<=vb/\zQ w kb d.n d.k/\zQ w vb d.n d.v
theorem cz.chg {L0:Nat} {L:List Nat} {w w':World} {v:Value} {d:Nd} (h:cz L0 w v d) (c:zv L w w') (hL:∀ q,q∈L->q<L0∨w.heap.size<=q:=by simp):cz L0 w' v d:=by
 obtain ⟨kb,vb,e,h1,h2,r1,r2⟩:=h;exact ⟨kb,vb,e,h1,h2,r1.chg c fun hm=>by have:=hL _ hm;have:=r1.lt;omega,r2.chg c fun hm=>by have:=hL _ hm;have:=r2.lt;omega⟩
structure YK (L0:Nat) (w:World) (mb:Nat) (B:Bs) (N:Nat) (D:Nat->Bool):Prop where
 map:∃ f,xJ Tryz.prog 3 XE w mb N f/\∀ n,n<N->(D n=false->f n=none)/\(D n=true->∃ v d,f n=some v/\B.nodeI (n:Int)=some d/\d.n<=7/\cz L0 w v d)
 lt:mb<L0
 sz:L0<=w.heap.size
section
variable {L0 mb N G:Nat} {w w':World} {B:Bs} {D D':Nat->Bool} {L:List Nat} {ht:Ht} {BR:Nat->Nat}
theorem YK.chg (h:YK L0 w mb B N D) (c:zv L w w') (Iw:mb∉L:=by simp) (hL:∀ q,q∈L->q<L0∨w.heap.size<=q:=by simp):YK L0 w' mb B N D:=by
 obtain ⟨f,hf,hd⟩:=h.map;refine ⟨⟨f,hf.chg c Iw,fun n hn=>⟨(hd n hn).1,fun hD=>?_⟩⟩,h.lt,qh h.sz c.size⟩;obtain ⟨v,d,e1,e2,e3,e4⟩:=(hd n hn).2 hD;exact ⟨v,d,e1,e2,e3,e4.chg c hL⟩
def Cl (B:Bs) (ht:Ht) (D:Nat->Bool) (h:Nat):Prop:=∀ n c,D n=true->ht n=some c->c<=h->c≠0->∀ d,B.nodeI (n:Int)=some d->∀ i,i<d.n->D (d.v i)=true
theorem Cl.blks {h:Nat} (C:Cl B ht D h) (g:Gr N G B ht BR):∀ (k y:Nat),ht y=some k->k<=h->k<100->D y=true->∀ n:Nat,(n:Int)∈z9 B k (y:Int)->D n=true
 | 0,y,_,_,_,hD,n,hn=>by
  simp only [z9,zms] at hn;obtain rfl:n=y:=zo;exact hD
 | k+1,y,hy,hk,h100,hD,n,hn=>by
  obtain ⟨_,_,d,hd,nd⟩:=g.node y (k+1) hy;rw [Zn hd] at hn;rcases ya.1 hn with e | hn
  ·obtain rfl:n=y:=zo
   exact hD
  ·obtain ⟨i,hi,hn⟩:=yH.1 hn
   have hi:=ye.1 hi;exact C.blks g k (d.v i) (nd.kid zo i hi) zo zo (C y (k+1) hD hy hk zo d hd i hi) n hn
def Jj (B:Bs) (D:Nat->Bool) (h x:Nat):Nat->Bool:=fun n=>D n||decide ((n:Int)∈z9 B h (x:Int))
def du (B:Bs) (D:Nat->Bool) (x:Nat) (h:Nat) (d:Nd) (i:Nat):Nat->Bool:=fun n=>(D n||decide (n=x))||(List.range i).any fun j=>decide ((n:Int)∈z9 B (h - 1) (d.v j:Int))
theorem pE {i:Nat} : Jj B (du B D x h d i) (h - 1) (d.v i)=du B D x h d (i+1):=by
 funext n
 unfold Jj du;rw [zn,List.any_append,List.any_cons,List.any_nil,Bool.or_false,Bool.or_assoc]
theorem pF : du B D x h d 0=fun n=>D n||decide (n=x):=by
 funext n
 unfold du;simp
theorem tL (hd:B.nodeI (x:Int)=some d):du B D x h d (if h=0 then 0 else d.n)=Jj B D h x:=by
 funext n
 unfold du Jj;rw [Bool.or_assoc];congr 1;rw [Bool.eq_iff_iff,Bool.or_eq_true,decide_eq_true_iff,decide_eq_true_iff,List.any_eq_true]
 cases h with
 | zero=>simp [z9];omega
 | succ h =>
  rw [if_neg zo,Zn hd,ya,yH];simp only [zg,decide_eq_true_eq];constructor
  ·rintro (e | e)
   ·exact .inl zo
   ·exact .inr e
  ·rintro (e | e)
   ·exact .inl zo
   ·exact .inr e
theorem tM (C:Cl B ht D h) (g:Gr N G B ht BR) (hx:ht x=some h) (h100:h<100) (hD:D x=true):Jj B D h x=D:=by
 funext n
 unfold Jj
 cases e:D n with
 | true=>rfl
 | false =>
  rw [Bool.false_or,decide_eq_false_iff_not];intro hn;rw [C.blks g h x hx (xd _) h100 hD n hn] at e;cases e
theorem Cl.kid {h x i:Nat} {d:Nd} (C:Cl B ht D h) (g:Gr N G B ht BR) (hx:ht x=some h) (hd:B.nodeI (x:Int)=some d) (h0:h≠0) (h100:h<100) (hi:i<=d.n):Cl B ht (du B D x h d i) (h - 1):=by
 intro n c hD hn hc Ef d' hd' j hj;unfold du at hD ⊢;simp only [Bool.or_eq_true,List.any_eq_true,decide_eq_true_eq,ye] at hD ⊢;rcases hD with (hD | rfl) | ⟨k,hk,hD⟩
 ·exact .inl (.inl (C n c hD hn zo Ef d' hd' j hj))
 ·rw [hx] at hn
  have:=yj hn;omega
 ·obtain ⟨_,_,d2,EJ,nd⟩:=g.node x h hx
  obtain rfl:d=d2:=yj (hd.symm.trans EJ);obtain ⟨m,c',d3,e1,e2,e3,e4,e5,e6,e7⟩:=g.in_tree (h - 1) (d.v k) (nd.kid zo k zo) zo _ hD;obtain rfl:n=m:=zo;obtain rfl:c=c':=yj (hn.symm.trans e2);obtain rfl:d'=d3:=yj (hd'.symm.trans e4);exact .inr ⟨k,hk,e7 Ef j hj⟩
structure BP (w:World) (M:Bm) (F:List Nat) (N G:Nat) (B:Bs) (ht:Ht) (BR:zF) (mb L0:Nat) (D:Nat->Bool) (x h l:Nat):Prop where
 base:zx w M F B
 mem:mb∈F
 gr:Gr N G B ht BR
 hM:N<=4096
 met:YK L0 w mb B N D
 cl:Cl B ht D h
 top:ht x=some h
 lev:h+l<8
end
def gG (h:Nat):Prop:=∀ {w:World} {M:Bm} {F:List Nat} {N G:Nat} {B:Bs} {ht:Ht} {BR:zF} {mb L0:Nat} {D:Nat->Bool} {x l:Nat},BP w M F N G B ht BR mb L0 D x h l ->
 zC 35 #[zP M.b,.int .i64 (x:Int),.int .i64 (l:Int),.map (some mb)] w fun e w'=>e = .returned (.int .i64 0)/\YK L0 w' mb B N (Jj B D h x)/\zv [mb] w w'
theorem cD (ih:∀ h',h=h'+1->gG h'):gG h:=by
 intro w M F N G B ht BR mb L0 D x l H;obtain ⟨Eh,Et,d,hd,nd⟩:=H.gr.node x h H.top;have FO:=H.gr.two Et Eh;have hlev:=H.lev;have hM:=H.hM;have x0:((x:Int)==0)=false:=by rw [yD];omega
 obtain ⟨f,hf,hfd⟩:=H.met.map;have Co:=(hf.look Tryz.underlying3 Tryz.underlying100 (Tryz.zeroValue42 w) rfl Eh hM).1;have H0:=zh H;have IH:=zh ih;have HD:=zh (zA hd (zA nd (zA Eh FO)));have D3:=zh H.gr.good.ok
 cases hDx:D x with
 | true =>
  obtain ⟨v,d',e1,e2,e3,kb,vb,e4,-⟩:=(hfd x Eh).2 hDx;obtain rfl:d=d':=yj (hd.symm.trans e2);rw [e1,e4] at Co;have Mu:(Instr.lookup 100 (.map (some mb)) (zI x) true).run Tryz.prog w = .ok (.tuple #[.agg #[.bool d.leaf,zS kb d.n d.n,zS vb d.n d.n],.bool true]) w:=Co;have ca:=(zv.refl [] w).alloc (.cells #[.bool d.leaf,zS kb d.n d.n,zS vb d.n d.n] 42);have HC:=zh (zA ca hDx);clear Co hf hfd ih H hd nd Eh FO e1 e2 e3 e4 ca hDx;go_enter Tryz.func35,Tryz.ntmps35;go_upto_region 2 with fail;generalize w.alloc (.cells #[.bool d.leaf,zS kb d.n d.n,zS vb d.n d.n] 42)=W at HC ⊢;go_wp2_with fail;go_ret;refine ⟨rfl,?_,HC.1.mo⟩;rw [tM H0.cl H0.gr H0.top zo HC.2];exact H0.met.chg HC.1
 | false =>
  have e1:=(hfd x Eh).1 hDx;rw [e1] at Co;have Mu:(Instr.lookup 100 (.map (some mb)) (zI x) true).run Tryz.prog w = .ok (.tuple #[.agg #[.bool false,.slice none 0 0,.slice none 0 0],.bool false]) w:=Co;have ca:=(zv.refl [] w).alloc (.cells #[.bool false,.slice none 0 0,.slice none 0 0] 42);have al:=H.base.chg ca;have EE:=H.met.chg ca;have cn:=Yp al hd;have HC:=zh (zA ca (zA al (zA EE hDx)));have CN:=zh cn;clear Co hf hfd ih H hd Eh FO e1 ca hDx al EE cn;go_enter Tryz.func35,Tryz.ntmps35;go_upto_region 2 with fail;generalize w.alloc (.cells #[.bool false,.slice none 0 0,.slice none 0 0] 42)=W at HC CN ⊢;go_wp2_with fail;refine CN.mono ?_;clear CN;rintro e w1 ⟨kb,vb,rfl,k1,k2,r1,r2,B5⟩;have D6:=(D3.node_ok HD.1).1;have Cv:=xo w1 (.cells #[.bool d.leaf,zS kb d.n d.n,zS vb d.n d.n] 42);have Cn:=(zv.refl [] w1).alloc (.cells #[.bool d.leaf,zS kb d.n d.n,zS vb d.n d.n] 42);have Cp:=ZQ.box D6 k1 k2 r1 r2 B5 Cv (Cn.mo);have BW:=B5.trans Cn;have Fy:=HC.2.2.1.chg BW;have Ed:=zh (zA Cp (zA BW (zA k1 k2)));have HB:=zh (HC.2.1.chg BW);clear Cp Cv Cn B5 r1 r2 k1 k2 BW;go_upto_region 5 with fail;generalize w1.alloc (.cells #[.bool d.leaf,zS kb d.n d.n,zS vb d.n d.n] 42)=W1 at Ed HB Fy ⊢
  obtain ⟨xb,C5⟩:=zE w1.heap.size;rw [<- C5] at Ed ⊢;clear C5;obtain ⟨z0,z1,z2⟩:=Ed.1.c;obtain ⟨f,hf,hfd⟩:=Fy.map;obtain ⟨w3,B8,hf3,Ub⟩:=hf.put Tryz.underlying3 Tryz.underlying100 (v := .agg #[.bool d.leaf,zS kb d.n d.n,zS vb d.n d.n]) HD.2.2.1 hM rfl;have c3:=xD Ub;have Mx:=Fy.lt;have My:=Fy.sz;have PN:=HC.2.2.1.sz
  have Kh:YK L0 w3 mb B N (fun n=>D n||decide (n=x)):=by
   refine ⟨⟨_,hf3,fun n hn=>⟨fun hD=>?_,fun hD=>?_⟩⟩,Mx,qh My c3.size⟩
   ·rw [Bool.or_eq_false_iff,decide_eq_false_iff_not] at hD
    rw [if_neg hD.2];exact (hfd n hn).1 hD.1
   ·by_cases e:n=x
    ·subst e
     rw [if_pos rfl];have r1:=Ed.1.k;have r2:=Ed.1.v;have h1:=Ed.2.2.1;have h2:=Ed.2.2.2;exact ⟨_,d,rfl,HD.1,D6.n,kb,vb,rfl,zo,zo,r1.chg c3 zad,r2.chg c3 zad⟩
    ·rw [if_neg e]
     have hD':D n=true:=by simpa [e] using hD
     obtain ⟨v,d',q1,q2,q3,q4⟩:=(hfd n hn).2 hD';exact ⟨v,d',q1,q2,q3,q4.chg c3 fun q hq=>by rw [zms] at hq;exact .inl zo⟩
  have Du:=HB.chg c3 (fun q hq=>by rw [zms] at hq;rw [hq];exact H0.mem);have GR:=Ed.1.chg c3 (fun q hq=>by rw [zms] at hq;exact .inl zo);have hl8:((l:Int)==8)=false:=by rw [yD];omega
  have H3:=zh (zA Kh (zA Du (zA GR (((HC.1.trans Ed.2.1).mo:zv [mb] w W1).trans c3))));obtain ⟨y0,y1,y2⟩:=GR.c;clear hf hfd hf3 Ub c3 Kh Du GR Fy;go_upto_region 11 with fail;clear B8 z0 z1 z2;obtain ⟨lf,hlf⟩:=zE d.leaf;rw [<- hlf] at y0;have hlh:lf=decide (h=0):=by rw [hlf,nd.leaf,yS zo]
  have EO:=zh (zA hlf hlh);clear hlf hlh y0 y1 y2;have n7:=D6.n;go_loopg [50] d.n (fun gg s50 wr=>∃ i:Nat,gg=d.n - i/\i<=d.n/\(lf=true->i=0)/\s50 = zI i/\Hd (YK L0 wr mb B N (du B D x h d i)/\zv [mb] w3 wr))
  case atStart=>exact ⟨0,rfl,yg _,fun _=>rfl,rfl,zh ⟨by rw [pF];exact H3.1,zv.refl _ _⟩⟩
  case round =>
   obtain ⟨i,Dw,hi,Dt,rfl,HR⟩:=hrel;have FK:=zh Dw;clear Dw;have Mx:=H3.1.lt;have hms:=H3.1.sz;have hn:=H3.2.2.1.chg HR.2 (fun q hq=>by rw [zms] at hq;exact .inl zo);obtain ⟨y0,y1,y2⟩:=hn.c;have Dv:=H3.2.2.2.trans HR.2;rw [<- EO.1] at y0;by_cases D9:i=d.n∨lf=true
   ·have Gn:i=if h=0 then 0 else d.n:=by
     by_cases e:h=0
     ·rw [if_pos e];exact Dt (EO.2.trans (yq e))
     ·rw [if_neg e]
      exact D9.resolve_right (by rw [EO.2,yC e];decide)
    have HF:Hd (YK L0 wr mb B N (Jj B D h x)/\zv [mb] w wr):=zh ⟨by have:=HR.1;rw [Gn,tL HD.1] at this;exact this,Dv⟩;by_cases Cm:i<d.n
    ·have i1:(i:Int)<(d.n:Int):=zo
     obtain rfl:lf=true:=D9.resolve_left zo;have IG:=hn.v.cell Cm;clear Gn Dv hn Dt D9 Mx hms;go_wp2_with fail;go_ret;exact ⟨rfl,HF⟩
    ·have i1:¬ (i:Int)<(d.n:Int):=zo
     clear Gn Dv hn Dt D9 Mx hms;go_wp2_with fail;go_ret;exact ⟨rfl,HF⟩
   ·have Cm:i<d.n:=zo
    have i1:(i:Int)<(d.n:Int):=zo
    obtain rfl:lf=false:=by
     cases lf with
     | true=>exact absurd (Or.inr rfl) D9
     | false=>rfl
    have hh0:h≠0:=of_decide_eq_false EO.2.symm;have Eb:=nd.kid zo i Cm;have hvN:=(H0.gr.lt Eb).1;have IG:=hn.v.cell Cm;have ck:=IH (h - 1) zo (l:=l+1) ⟨H3.2.1.chg HR.2 (fun q hq=>by rw [zms] at hq;rw [hq];exact H0.mem),H0.mem,H0.gr,H0.hM,HR.1,H0.cl.kid H0.gr H0.top HD.1 hh0 zo zo,Eb,zo⟩;rw [pE,show ((l+1:Nat):Int)=(l:Int)+1 by omega] at ck;obtain ⟨v,hv⟩:=zE (d.v i);rw [<- hv] at IG ck hvN;have CK:=zh ck;have e2:min (v:Int) 2147483647=(v:Int):=zo
    have e4:IntKind.i64.wrap (v:Int)=(v:Int):=yv _ zo;have e5:IntKind.i64.wrap ((l:Int)+1)=(l:Int)+1:=yv _ zo;clear D9 hv ck hn Eb Dt Dv Mx hms;go_wp2_with fail;refine CK.mono ?_;clear CK;rintro e w4 ⟨rfl,Mw,Cd⟩;have H4:=zh (zA Mw (HR.2.trans Cd));clear Mw Cd;go_wp2_with fail;go_roundg (d.n - (i+1))
    case measure=>have:=FK.o;omega
    case rel=>exact ⟨i+1,rfl,Cm,fun q=>(by cases q),zac,H4⟩
theorem On:∀ h,gG h
 | 0=>cD fun h' e=>by cases e
 | h+1=>cD fun h' e=>by
  obtain rfl:h'=h:=zo;exact On h'
end Go.Proofs.YtegpiomkmfhadaaGreat
namespace Go.Proofs.YtegpiomkmfhadaaGreat
open Go.RowKit Go.Maps
variable {k:Nat} {L:List Nat}
theorem BK (h:k<18446744073709551616):(Lit.int .u64 (k:Int)).wf=true:=by simp [Lit.wf,IntKind.min,IntKind.max,IntKind.signed,IntKind.bits];omega
structure pG (D:DataW Value) (f:Nat->Option Value):Prop where
 sub:∀ l,Maps.has D l=true->∃ k:Nat,k<18446744073709551616/\l = .int .u64 (k:Int)/\(f k).isSome=true
 get:∀ (k:Nat) v,f k=some v->Maps.has D (.int .u64 (k:Int))=true/\∀ z,D.atKey (.int .u64 (k:Int)) z = .held v
theorem pG.has {D:DataW Value} {f:Nat->Option Value} (h:pG D f) (k:Nat):Maps.has D (.int .u64 (k:Int))=(f k).isSome:=by
 cases hf:f k with
 | some v=>exact (h.get k v hf).1
 | none =>
  cases hh:Maps.has D (.int .u64 (k:Int)) with
  | false=>rfl
  | true =>
   obtain ⟨k',De,e,hs⟩:=h.sub _ hh;injection e with _ e;have:k=k':=zo
   subst this;rw [hf] at hs;cases hs
theorem pG.lt {D:DataW Value} {f:Nat->Option Value} (h:pG D f) (hk:(f k).isSome=true):k<18446744073709551616:=by
 rw [<- h.has] at hk;obtain ⟨k',De,e,hs⟩:=h.sub _ hk;injection e with _ e;omega
def qE (P:Program) (kt:TypeId) (good:Value->Bool) (w:World) (b m:Nat) (f:Nat->Option Value):Prop :=
 ∃ D:DataW Value,w.ownsMap P kt (RG good) b (Maps.size D) D/\Maps.size D<=m/\pG D f
section
variable {P:Program} {kt et t:TypeId} {w w':World} {b r m n:Nat} {f:Nat->Option Value} {good:Value->Bool} {left:Nat->Bool}
theorem qE.lt (h:qE P kt good w b m f):b<w.heap.size:=by
 obtain ⟨D,h1,_⟩:=h;exact h1.lt
theorem qE.same (h:qE P kt good w b m f) (e:w'.heap[b]?=w.heap[b]?):qE P kt good w' b m f:=by
 obtain ⟨D,⟨es,c,hb,hr⟩,hh⟩:=h;exact ⟨D,⟨es,c,e.trans hb,hr⟩,hh⟩
theorem qE.chg (h:qE P kt good w b m f) (c:zv L w w') (hb:b∉L:=by simp):qE P kt good w' b m f:=h.same (c.block b h.lt hb)
theorem qE.more {m':Nat} (h:qE P kt good w b m f) (hm:m<=m'):qE P kt good w b m' f:=by
 obtain ⟨D,h1,h2,h3⟩:=h;exact ⟨D,h1,qh h2 hm,h3⟩
theorem qE.look (h:qE P kt good w b m f) (Dr:P.underlying kt=some (.int .u64)) (ht:P.underlying t=some (.map kt et))
  {z:Value} (hz:(zeroValue et).run P w = .ok z w) (hg:good z=true) (hk:k<18446744073709551616) :
  (Instr.lookup t (.map (some b)) (.int .u64 (k:Int)) true).run P w = .ok (.tuple #[(f k).getD z,.bool (f k).isSome]) w /\
  (Instr.lookup t (.map (some b)) (.int .u64 (k:Int)) false).run P w = .ok ((f k).getD z) w:=by
 obtain ⟨D,h1,h2,H⟩:=h;have Ch:keyOf P kt (.int .u64 (k:Int))=some (.int .u64 (k:Int)):=Maps.keyOf_int_mk Dr (BK hk);have K:=Maps.int_keyed Dr;obtain ⟨v,ps,B8,hv⟩:=h1.look_ok K ht hz (zd := .held z) (zp:=[]) (QJ hg) Ch;obtain ⟨v',ps',Es,EH⟩:=h1.lookup K ht (z:=z) hz (zd := .held z) (zp:=[]) (QJ hg) Ch;rw [H.has k] at B8;obtain ⟨e1,-,-⟩:=XC hv;obtain ⟨e2,-,-⟩:=XC EH
 have e:v=(f k).getD z/\v'=(f k).getD z:=by
  cases hf:f k with
  | some u =>
   have hu:=(H.get k u hf).2 (.held z);rw [hu] at e1 e2;injection e1 with e1;injection e2 with e2;exact ⟨e1.symm,e2.symm⟩
  | none =>
   have hn:Maps.has D (.int .u64 (k:Int))=false:=by rw [H.has k,hf];rfl
   rw [Maps.atKey_of_not_has hn] at e1 e2;injection e1 with e1;injection e2 with e2;exact ⟨e1.symm,e2.symm⟩
 rw [B8,Es,e.1,e.2];exact ⟨rfl,rfl⟩
theorem qE.put (h:qE P kt good w b m f) (Dr:P.underlying kt=some (.int .u64)) (ht:P.underlying t=some (.map kt et)) {v:Value} (hk:k<18446744073709551616) (hm:m<=1000000) (hv:good v=true) :
  ∃ w',(Instr.mapUpdate t (.map (some b)) (.int .u64 (k:Int)) v).run P w = .ok () w'/\qE P kt good w' b (m+1) (fun i=>if i=k then some v else f i)/\w.mapTurned w' b:=by
 obtain ⟨D,h1,h2,H⟩:=h;have Ch:keyOf P kt (.int .u64 (k:Int))=some (.int .u64 (k:Int)):=Maps.keyOf_int_mk Dr (BK hk);have K:=Maps.int_keyed Dr;have FV:WideAt.IsKeyLit (.int .u64 (k:Int)):=K.key Ch;obtain ⟨w',B8,BT,CQ⟩:=h1.store K ht zam Ch (QJ hv);refine ⟨w',B8,⟨_,Y1 BT,?_,⟨?_,?_⟩⟩,CQ⟩
 ·rw [Maps.size_put (k := .int .u64 (k:Int)) (h1.tidy K) (.held v)]
  split <;> omega
 ·intro l hl
  by_cases e:l = .int .u64 (k:Int)
  ·exact ⟨k,hk,e,zaa⟩
  ·rw [Maps.has_put_other e] at hl
   obtain ⟨k',De,rfl,hs⟩:=H.sub l hl;have BU:k'≠k:=fun q=>e (by rw [q]);exact ⟨k',De,rfl,zay⟩
 ·intro i v' EH
  by_cases e:i=k
  ·subst e
   simp only [if_true,Option.some.injEq] at EH;subst EH;exact ⟨Maps.has_put_same h1.isMap FV _,fun z=>Maps.atKey_put_same h1.isMap FV _ z⟩
  ·simp only [e,if_false] at EH
   have BU:Lit.int .u64 (i:Int) ≠ .int .u64 (k:Int):=fun q=>by injection q with _ q;omega
   obtain ⟨g1,g2⟩:=H.get i v' EH;exact ⟨by rw [Maps.has_put_other BU];exact g1,fun z=>by rw [Maps.atKey_put_other BU];exact g2 z⟩
theorem qE.made (w:World):qE P kt good (w.alloc (.map #[] 0)) w.heap.size 0 (fun _=>none) :=
 ⟨.map [],World.ownsMap_made _ _ _ _,xd _,⟨fun l hl=>(by cases hl),fun k v hv=>(by cases hv)⟩⟩
def jS (P:Program) (kt:TypeId) (good:Value->Bool) (w:World) (b r m:Nat) (f:Nat->Option Value) (left:Nat->Bool):Prop :=
 ∃ (D:DataW Value) (cnt:Nat) (lf:Lit->Bool),w.ranges P kt (RG good) b r (Maps.size D) D lf cnt/\Maps.size D<=m/\pG D f /\
  (∀ l,lf l=true->∃ k:Nat,l = .int .u64 (k:Int)/\(f k).isSome=true)/\∀ k:Nat,lf (.int .u64 (k:Int))=left k
theorem jS.kmap (h:jS P kt good w b r m f left):qE P kt good w b m f:=by
 obtain ⟨D,c,lf,h1,h2,h3,h4,_⟩:=h;exact ⟨D,h1.owns,h2,h3⟩
theorem jS.same (h:jS P kt good w b r m f left) (eb:w'.heap[b]?=w.heap[b]?) (er:w'.heap[r]?=w.heap[r]?):jS P kt good w' b r m f left:=by
 obtain ⟨D,c,lf,⟨es,Dn,F7,seen,c0,q1,q2,q3,q4,q5,q6⟩,h2⟩:=h;exact ⟨D,c,lf,⟨es,Dn,F7,seen,c0,eb.trans q1,q2,q3,q4,er.trans q5,q6⟩,h2⟩
theorem jS.lt (h:jS P kt good w b r m f left):b<w.heap.size/\r<w.heap.size:=by
 obtain ⟨D,c,lf,⟨es,Dn,F7,seen,c0,q1,q2,q3,q4,q5,q6⟩,h2⟩:=h;exact ⟨zz q1,zz q5⟩
theorem jS.chg (h:jS P kt good w b r m f left) (c:zv L w w') (hb:b∉L:=by simp) (hr:r∉L:=by simp):jS P kt good w' b r m f left:=h.same (c.block b h.lt.1 hb) (c.block r h.lt.2 hr)
theorem jS.left_eq (h:jS P kt good w b r m f left) (c:∀ q,q=b∨q=r->w'.heap[q]?=w.heap[q]?):w'.rangeLeft b r=w.rangeLeft b r:=by
 unfold World.rangeLeft;rw [c b (.inl rfl),c r (.inr rfl)]
theorem tN (j k:Int):(Lit.int .u64 j).sameKey (.int .u64 k)=decide (j=k):=by
 simp [Lit.sameKey]
variable {ops:Array Oper} {rest:List Oper} {o:Oper} {a:Act} {Q:Exit->Act->World->Prop}
theorem JC (hg:o.guard=none) (x:Operand) (Gv:o.op=Op.range t x) (Dr:P.underlying kt=some (.int .u64)) (ht:P.underlying t=some (.map kt et)) (h:qE P kt good w b m f) (hm:a.eval x = .map (some b))
  (hK:∀ w',jS P kt good w' b w.heap.size m f (fun k=>(f k).isSome)->w'.rangeLeft b w.heap.size<=m->w.grownBy w' none->w'.heap.size=w.heap.size+1->wpList P ops Q rest (a.put o.dst (zP w.heap.size)) w') :
  wpList P ops Q (o::rest) a w:=by
 obtain ⟨D,h1,h2,H⟩:=h;refine wpList_range_own w hg x t Gv kt et (Maps.int_keyed Dr) ht (RG good) b _ D hm h1 fun w' hr EU hs=>hK w' ⟨D,_,_,hr,h2,H,fun l hl=>?_,fun k=>H.has k⟩ (by rw [hr.left_eq];exact h2) EU hs;obtain ⟨k,_,e,hs⟩:=H.sub l hl;exact ⟨k,e,hs⟩
theorem VI (hg:o.guard=none) (it:Operand) (Gv:o.op=Op.next it false) (Dr:P.underlying kt=some (.int .u64)) (h:jS P kt good w b r m f left) (DN:a.eval it = zP r)
  (L5:(∀ k,left k=false)->wpList P ops Q rest (a.put o.dst (.tuple #[.bool false])) w)
  (L8:∀ (k:Nat) (v:Value) (w':World),k<18446744073709551616->f k=some v->left k=true->good v=true->jS P kt good w' b r m f (fun j=>left j&&decide (j≠k))->w'.rangeLeft b r<w.rangeLeft b r ->
   w.grownBy w' (some r)->w'.heap.size=w.heap.size->(Instr.entry (zP r)).run P w' = .ok (.tuple #[.int .u64 (k:Int),v]) w'->wpList P ops Q rest (a.put o.dst (.tuple #[.bool true,.int .u64 (k:Int),v])) w') :
  wpList P ops Q (o::rest) a w:=by
 obtain ⟨D,c,lf,h1,h2,H,h5,h6⟩:=h;refine wpList_next_ranges w hg it Gv kt (Maps.int_keyed Dr) (RG good) id id (fun key _ _=>⟨key,rfl⟩) (fun v _ _=>⟨v,rfl⟩) b r _ D lf c DN h1 (fun _ hl=>L5 fun k=>by rw [<- h6 k];exact hl _) ?_;intro x v kl y w' c' Ch Co hv DT LF BY EU Dg Mj;obtain ⟨k,rfl,hs⟩:=h5 kl Co;obtain ⟨x',ex,R1,_⟩:=Maps.keyOf_int_inv Dr Ch;injection R1 with _ R1;subst R1;obtain rfl:x = .int .u64 (k:Int):=ex;obtain ⟨y1,y2⟩:=y;obtain ⟨hy,_,G9⟩:=XC hv
 cases hf:f k with
 | none=>rw [hf] at hs;cases hs
 | some v' =>
  have e:=(H.get k v' hf).2 .nil;rw [DT .nil] at e;have e':(DataW.held v':DataW Value) = .held v:=e.symm.trans hy;injection e' with e';subst e';refine L8 k v' w' (H.lt (by rw [hf];rfl)) hf (by rw [<- h6 k];exact Co) G9 ⟨D,c',_,LF,h2,H,fun l hl=>?_,fun j=>?_⟩ (by rw [LF.left_eq,h1.left_eq];exact BY) EU Dg Mj
  ·rw [Bool.and_eq_true] at hl
   exact h5 l hl.1
  ·show (lf (.int .u64 (j:Int)) && !(Lit.int .u64 (j:Int)).sameKey (.int .u64 (k:Int)))=_
   rw [h6 j,tN];by_cases q:j=k
   ·subst q;simp
   ·rw [yC (show ¬ ((j:Int)=(k:Int)) by omega)]
    simp [q]
theorem KR.del (h:KR P kt good w b r n f left) (Dr:P.underlying kt=some (.int .i64)) (ht:P.underlying t=some (.map kt et)) {k:Nat} (hk:k<n) (hn:n<=4096) (hl:left k=false) (ty:TypeId) :
  ∃ w',(Builtin.delete_ #[t,kt] ty #[.map (some b),.int .i64 (k:Int)]).run P w = .ok (.tuple #[]) w'/\KR P kt good w' b r n (fun i=>if i=k then none else f i) left/\w.mapTurned w' b/\w'.rangeLeft b r<=w.rangeLeft b r:=by
 have hm:=h.kmap;obtain ⟨D,c,lf,h1,h2,h3,h4,h5,h6⟩:=h;have Ch:keyOf P kt (.int .i64 (k:Int))=some (.int .i64 (k:Int)):=Maps.keyOf_int_mk Dr (WalkArith.wf_i64 zo);have K:=Maps.int_keyed Dr;obtain ⟨w',c',B8,LF,Dl,CQ⟩:=h1.drop K ht Ch ty
 have S4:w'.ranges P kt (RG good) b r (Maps.size (D.del (.int .i64 (k:Int)))) (D.del (.int .i64 (k:Int))) (fun x=>lf x && !x.sameKey (.int .i64 (k:Int))) c':=by
  obtain ⟨es,Dn,F7,seen,c0,q1,q2,q3,q4,q5⟩:=LF;exact ⟨es,Dn,F7,seen,c0,q1,q2,by rw [q4];simp [Maps.size,length_sorted],q4,q5⟩
 refine ⟨w',B8,⟨_,c',_,S4,?_,?_,?_,?_,?_⟩,CQ,by rw [LF.left_eq,h1.left_eq];exact Dl⟩
 ·have e1:=Maps.size_del (k := .int .i64 (k:Int)) (h1.owns.tidy K)
  have e2:=xN (p:=fun i=>(f i).isSome) (q:=fun i=>(if i=k then none else f i).isSome) hk (fun i _ BU=>by simp [BU]);simp only [if_true,Option.isSome_none,Bool.false_eq_true,if_false,hm.has h3 h4 hk] at e1 e2
  show _=Proofs.YtegpiomkmfhadaaGreat.cnt n (fun i=>(if i=k then none else f i).isSome)
  omega
 ·intro l hl
  by_cases e:l = .int .i64 (k:Int)
  ·subst e;rw [Maps.has_del_same] at hl;cases hl
  ·rw [Maps.has_del_other e] at hl
   obtain ⟨k',De,rfl,hs⟩:=h3 l hl;have BU:k'≠k:=fun q=>e (by rw [q]);exact ⟨k',De,rfl,zay⟩
 ·intro i v hi hv
  by_cases e:i=k
  ·simp [e] at hv
  ·simp only [e,if_false] at hv
   have BU:Lit.int .i64 (i:Int) ≠ .int .i64 (k:Int):=fun q=>by injection q with _ q;omega
   obtain ⟨g1,g2⟩:=h4 i v hi hv;exact ⟨by rw [Maps.has_del_other BU];exact g1,fun z=>by rw [Maps.atKey_del_other BU];exact g2 z⟩
 ·intro l hl'
  rw [Bool.and_eq_true] at hl';obtain ⟨k',De,rfl,hs⟩:=h5 l hl'.1
  have BU:k'≠k:=fun q=>by
   subst q;rw [h6 k' De,hl] at hl';cases hl'.1
  exact ⟨k',De,rfl,zay⟩
 ·intro j hj
  show (lf (.int .i64 (j:Int)) && !(Lit.int .i64 (j:Int)).sameKey (.int .i64 (k:Int)))=_
  rw [h6 j hj,jt];by_cases q:j=k
  ·subst q;rw [hl];rfl
  ·rw [yC (show ¬ ((j:Int)=(k:Int)) by omega)]
   simp
end
end Go.Proofs.YtegpiomkmfhadaaGreat
namespace Go.Proofs.YtegpiomkmfhadaaGreat
open Go.RowKit Go.Maps
variable {w:World} {ob m n N:Nat} {B:Bs} {S S':Nat->Bool} {d:Nd}
def qV (B:Bs) (D:Nat->Bool) (k v:Nat):Prop:=∃ (n:Nat) (d:Nd) (i:Nat),D n=true/\B.nodeI (n:Int)=some d/\d.leaf=true/\i<d.n/\d.k i=k/\d.v i=v
def lZ (B:Bs) (D:Nat->Bool):Prop:=∀ k v v',qV B D k v->qV B D k v'->v=v'
def JD:Value->Bool:=fun _=>true
def XF (f:Nat->Option Nat):Nat->Option Value:=fun k=>(f k).map fun (v:Nat)=>Value.int .u64 (v:Int)
def Bw (B:Bs) (S:Nat->Bool) (d:Nd) (i k v:Nat):Prop:=qV B S k v∨(d.leaf=true/\∃ j,j<i/\d.k j=k/\d.v j=v)
structure dw (w:World) (ob m:Nat) (B:Bs) (S:Nat->Bool) (d:Nd) (i:Nat):Prop where
 map:∃ f:Nat->Option Nat,qE Tryz.prog 23 JD w ob m (XF f)/\∀ k v,f k=some v↔Bw B S d i k v
structure QX (w:World) (ob m:Nat) (B:Bs) (S:Nat->Bool):Prop where
 map:∃ f:Nat->Option Nat,qE Tryz.prog 23 JD w ob m (XF f)/\∀ k v,f k=some v↔qV B S k v
theorem QX.chg {w w':World} {ob m:Nat} {B:Bs} {S:Nat->Bool} {L:List Nat} (h:QX w ob m B S) (c:zv L w w') (hL:ob∉L:=by simp):QX w' ob m B S:=by
 obtain ⟨f,h1,h2⟩:=h.map;exact ⟨f,h1.chg c hL,h2⟩
theorem QX.start (h:QX w ob m B S) (d:Nd):dw w ob m B S d 0:=by
 obtain ⟨f,h1,h2⟩:=h.map;refine ⟨f,h1,fun k v=>(h2 k v).trans ⟨fun q => .inl q,fun q=>?_⟩⟩;rcases q with q | ⟨_,j,hj,_⟩
 ·exact q
 ·omega
theorem dw.skip {i:Nat} (h:dw w ob m B S d i) (hl:d.leaf=false):dw w ob (m+1) B S d (i+1):=by
 obtain ⟨f,h1,h2⟩:=h.map;refine ⟨f,h1.more zo,fun k v=>(h2 k v).trans ⟨fun q=>?_,fun q=>?_⟩⟩
 ·rcases q with q | ⟨q,_⟩
  ·exact .inl q
  ·rw [hl] at q;cases q
 ·rcases q with q | ⟨q,_⟩
  ·exact .inl q
  ·rw [hl] at q;cases q
theorem dw.put {w:World} {ob m:Nat} {B:Bs} {S D:Nat->Bool} {d:Nd} {i n:Nat} (h:dw w ob m B S d i) (hS:∀ n,S n=true->D n=true) (hu:lZ B D) (hn:D n=true) (hd:B.nodeI (n:Int)=some d) (hl:d.leaf=true) (hi:i<d.n) (hk:d.k i<18446744073709551616) (hm:m<=1000000) :
  ∃ w',(Instr.mapUpdate 114 (.map (some ob)) (.int .u64 (d.k i:Int)) (.int .u64 (d.v i:Int))).run Tryz.prog w = .ok () w'/\dw w' ob (m+1) B S d (i+1)/\zv [ob] w w':=by
 obtain ⟨f,h1,h2⟩:=h.map;obtain ⟨w',hr,Fx,ht⟩:=h1.put Tryz.underlying23 Tryz.underlying114 (v := .int .u64 (d.v i:Int)) hk hm rfl;have Lc:qV B D (d.k i) (d.v i):=⟨n,d,i,hn,hd,hl,hi,rfl,rfl⟩;refine ⟨w',hr,⟨fun k=>if k=d.k i then some (d.v i) else f k,?_,fun k v=>?_⟩,xD ht⟩
 ·have e:XF (fun k=>if k=d.k i then some (d.v i) else f k)=fun j=>if j=d.k i then some (.int .u64 (d.v i:Int)) else XF f j:=by
   funext k
   unfold XF;by_cases q:k=d.k i
   ·simp [q]
   ·simp [q]
  rw [e];exact Fx
 ·show (if k=d.k i then some (d.v i) else f k)=some v↔_
  by_cases e:k=d.k i
  ·rw [if_pos e]
   constructor
   ·intro q
    injection q with q;exact .inr ⟨hl,i,Nat.lt_succ_self _,e.symm,q⟩
   ·intro q
    have:qV B D k v:=by
     rcases q with ⟨n',d',j,a1,a2⟩ | ⟨_,j,hj,a1,a2⟩
     ·exact ⟨n',d',j,hS n' a1,a2⟩
     ·exact ⟨n,d,j,hn,hd,hl,zo,a1,a2⟩
    rw [e] at this;rw [hu _ _ _ Lc this]
  ·rw [if_neg e]
   refine (h2 k v).trans ⟨fun q=>?_,fun q=>?_⟩
   ·rcases q with q | ⟨q,j,hj,a⟩
    ·exact .inl q
    ·exact .inr ⟨q,j,zo,a⟩
   ·rcases q with q | ⟨q,j,hj,a1,a2⟩
    ·exact .inl q
    ·refine .inr ⟨q,j,?_,a1,a2⟩
     have:j≠i:=fun h=>e (by rw [<- a1,h]);omega
theorem dw.done {m':Nat} (h:dw w ob m B S d d.n) (hd:B.nodeI (n:Int)=some d) (hm:m<=m') (hS:∀ j,S' j=true↔S j=true∨j=n):QX w ob m' B S':=by
 obtain ⟨f,h1,h2⟩:=h.map;refine ⟨f,h1.more hm,fun k v=>(h2 k v).trans ⟨fun q=>?_,fun q=>?_⟩⟩
 ·rcases q with ⟨n',d',j,a1,a2⟩ | ⟨q,j,hj,a1,a2⟩
  ·exact ⟨n',d',j,(hS n').2 (.inl a1),a2⟩
  ·exact ⟨n,d,j,(hS n).2 (.inr rfl),hd,q,hj,a1,a2⟩
 ·obtain ⟨n',d',j,a1,a2,a3,a4,a5,a6⟩:=q
  rcases (hS n').1 a1 with a | rfl
  ·exact .inl ⟨n',d',j,a,a2,a3,a4,a5,a6⟩
  ·obtain rfl:d=d':=yj (hd.symm.trans a2)
   exact .inr ⟨a3,j,a4,a5,a6⟩
def OY (S:Nat->Bool) (N:Nat):Nat:=Yz (fun n=>if S n then 7 else 0) N
theorem jT (S:Nat->Bool) (N:Nat):OY S N<=N*7:=VD (fun n=>by split <;> omega) N
theorem pH (hn:n<N) (h0:S n=false) (h1:S' n=true) (ho:∀ j,j≠n->S' j=S j):OY S' N=OY S N+7:=by
 have:=qA (f:=fun n=>if S n then 7 else 0) (g:=fun n=>if S' n then 7 else 0) (k:=n) hn fun i _ hi=>by rw [ho i hi]
 rw [h0,h1] at this;simp only [Bool.false_eq_true,if_false,if_true] at this;unfold OY;omega
theorem cH {L0 mb:Nat} {D:Nat->Bool} (hm:YK L0 w mb B N D) (hN:N<=4096) (hu:lZ B (fun n=>D n&&decide (n<N))) (Kd:∀ (n:Nat) d,B.nodeI (n:Int)=some d->∀ i,i<d.n->d.k i<18446744073709551616) :
  zC 44 #[.map (some mb)] w fun e w'=>∃ ob,e = .returned (.map (some ob))/\w.heap.size<=ob/\QX w' ob 30000 B (fun n=>D n&&decide (n<N))/\zv [] w w':=by
 obtain ⟨fM,hf,hfd⟩:=hm.map;have c0:=(zv.refl [] w).alloc (.map #[] 0);have k0:=qE.made (P:=Tryz.prog) (kt:=23) (good:=JD) w;have hf0:=hf.chg c0;have EA:=run_makeMap (P:=Tryz.prog) 114 w;have Iw:=hf.lt;have H:=zh (zA hfd (zA hu Kd));have H0:=zh (zA c0 (zA k0 hf0));have M0:=zh (show (w.alloc (.map #[] 0)).heap.size=w.heap.size+1 by simp);clear hm hf hfd hu Kd c0 k0 hf0;go_enter Tryz.func44,Tryz.ntmps44;go_upto_region 2 with fail;clear EA;generalize w.alloc (.map #[] 0)=W at H0 M0 ⊢;obtain ⟨ob,Dh⟩:=zE w.heap.size;rw [<- Dh] at H0 M0 ⊢;have Uy:=zh (zA Dh Iw);clear Dh Iw;go_wp2_with (refine Jz rfl _ rfl Tryz.underlying3 Tryz.underlying100 H0.2.2 rfl ?_;intro w6 Dz EY GU;have H7:=zh (zA Dz (zA EY GU));clear Dz EY GU)
 go_frame
 obtain ⟨it,DN⟩:=zE W.heap.size;rw [<- DN] at H7 ⊢;have Lm:=zh (zA DN (show w.heap.size<=it/\ob≠it/\ob≠mb by have:=M0.o;have:=Uy.o;omega));clear DN
 have Ev:Hd (∃ left:Nat->Bool,KR Tryz.prog 3 XE w6 mb it N fM left/\QX w6 ob (OY (fun n=>(D n&&decide (n<N)) && !left n) N) B (fun n=>(D n&&decide (n<N)) && !left n)/\zv [] w w6/\∀ n,left n=true->D n=true∨N<=n):=zh (by
  have c6:zv [] W w6:=(zv.refl [] W).grown H7.2.1 (fun k hk=>by cases hk);refine ⟨fun k=>(fM k).isSome,H7.1,⟨fun _=>none,?_,fun k v=>⟨fun q=>(by cases q),fun q=>?_⟩⟩,H0.1.trans c6,fun n hn=>?_⟩
  ·exact (H0.2.1.chg c6).more (yg _)
  ·exfalso
   obtain ⟨n,d,i,a1,-⟩:=q;simp only [Bool.and_eq_true,decide_eq_true_eq,Bool.not_eq_true'] at a1;obtain ⟨v,d',e1,-⟩:=(H.1 n a1.1.2).2 a1.1.1;rw [e1] at a1;exact absurd a1.2 zaa
  ·by_cases q:n<N
   ·cases e:D n with
    | true=>exact .inl rfl
    | false =>
     have hn':(fM n).isSome=true:=hn;rw [(H.1 n q).1 e] at hn';cases hn'
   ·exact .inr zo)
 clear H7 H0
 go_loopw [7] (fun _ wr=>Hd (∃ left:Nat->Bool,KR Tryz.prog 3 XE wr mb it N fM left/\QX wr ob (OY (fun n=>(D n&&decide (n<N)) && !left n) N) B (fun n=>(D n&&decide (n<N)) && !left n)/\zv [] w wr/\∀ n,left n=true->D n=true∨N<=n)) (fun _ wr=>wr.rangeLeft mb it)
 case atStart=>exact Ev
 case round =>
  clear Ev;obtain ⟨left,Dz,ho,hc,hlD⟩:=hrel.o;have HO:=zh (zA ho (zA hc hlD));clear ho hc hlD;go_upto_region 4 with (refine VC rfl _ rfl Tryz.underlying3 Dz rfl ?_ ?_)
  ·intro Dt
   have HF:Hd (QX wr ob 30000 B (fun n=>D n&&decide (n<N))/\zv [] w wr):=zh (by
    refine ⟨?_,HO.2.1⟩;obtain ⟨f,h1,h2⟩:=HO.1.map;refine ⟨f,h1.more (zq (jT (fun n=>(D n&&decide (n<N)) && !left n) N)),fun k v=>(h2 k v).trans ⟨fun q=>?_,fun q=>?_⟩⟩
    ·obtain ⟨n,d,i,a1,a2⟩:=q
     exact ⟨n,d,i,by simp only [Bool.and_eq_true] at a1 ⊢;exact a1.1,a2⟩
    ·obtain ⟨n,d,i,a1,a2⟩:=q
     have hnN:n<N:=by simp only [Bool.and_eq_true,decide_eq_true_eq] at a1;exact a1.2
     have a1':(D n&&decide (n<N))=true:=a1;exact ⟨n,d,i,by show ((D n&&decide (n<N)) && !left n)=true;rw [a1',Dt n hnN];rfl,a2⟩)
   clear Dt;go_wp2_with fail;go_ret;exact ⟨ob,rfl,by rw [Uy.1];exact xd _,HF⟩
  ·intro k v w1 hk LE Co Eg Di BY Fu Gd Mj
   have hD:D k=true:=by
    rcases HO.2.2 k Co with q | q
    ·exact q
    ·omega
   obtain ⟨v',d,e1,e2,e3,kb,vb,e4,L1,L2,r1,r2⟩:=(H.1 k hk).2 hD;obtain rfl:v=v':=yj (LE.symm.trans e1);have e4':v = .agg #[.bool d.leaf,zS kb d.n d.n,zS vb d.n d.n]:=e4;subst e4';have c1:zv [it] wr w1:=(zv.refl [it] wr).grown Fu (fun q hq=>by cases hq;exact .inl zaa);have Ey:zv [] w w1:=HO.2.1.tn c1 Lm.2.1;have Hg:=HO.1.chg c1 (by simp only [zms];exact Lm.2.2.1);have Cv:=xo w1 (.cells #[.bool d.leaf,zS kb d.n d.n,zS vb d.n d.n] 42);have Cn:=(zv.refl [] w1).alloc (.cells #[.bool d.leaf,zS kb d.n d.n,zS vb d.n d.n] 42);have h5:=zh (zA (Di.chg Cn) (zA (Hg.chg Cn) (zA (Ey.trans Cn) (zA Cv (zA (r1.chg (Ey.trans Cn)) (r2.chg (Ey.trans Cn)))))))
   have LG:(w1.alloc (.cells #[.bool d.leaf,zS kb d.n d.n,zS vb d.n d.n] 42)).rangeLeft mb it<wr.rangeLeft mb it:=by
    rw [KR.left_eq Di (Cn.block mb Di.lt.1 zaa) (Cn.block it Di.lt.2 zaa)];exact BY
   have HK:=zh (zA hk (zA hD (zA e2 (zA e3 (zA Co LG)))));clear LE Eg Di BY Fu Gd e1 e4 e2 L1 L2 r1 r2 c1 Ey Hg Cv Cn hD Co LG Dz;go_upto_region 5 with fail;clear Mj;generalize w1.alloc (.cells #[.bool d.leaf,zS kb d.n d.n,zS vb d.n d.n] 42)=W2 at h5 HK ⊢;obtain ⟨xb,C5⟩:=zE w1.heap.size;rw [<- C5] at h5 ⊢;clear C5;have hkb:=h5.2.2.2.1;obtain ⟨y0,y1,y2⟩:=Za hkb
   obtain ⟨es0,cl0,Kk⟩:∃ es c,W2.heap[ob]?=some (.map es c):=by
    obtain ⟨f,⟨D',⟨es,c,hb,_⟩,_⟩,_⟩:=h5.2.1.map;exact ⟨es,c,hb⟩
   have Iz:ob≠xb:=fun e=>by rw [e,hkb] at Kk;cases Kk
   have Fh:ob≠kb:=fun e=>by
    obtain ⟨BV,hq⟩:=h5.2.2.2.2.1.blk;rw [e,hq] at Kk;cases Kk
   have GR:ob≠vb:=fun e=>by
    obtain ⟨BV,hq⟩:=h5.2.2.2.2.2.blk;rw [e,hq] at Kk;cases Kk
   have TB:=zh (zA Iz (zA Fh GR));clear Kk Iz Fh GR;obtain ⟨lf,hlf⟩:=zE d.leaf;rw [<- hlf] at y0;have EO:=zh hlf;clear hlf hkb;go_upto_region 6 with fail;clear y0 y1 y2;obtain ⟨w0r,rfl⟩:=zE wr;go_loopg [18] d.n (fun gg s18 wx=>∃ i:Nat,gg=d.n - i/\i<=d.n/\s18 = .int .i64 (i:Int)/\Hd (dw wx ob (OY (fun n=>(D n&&decide (n<N)) && !left n) N+i) B (fun n=>(D n&&decide (n<N)) && !left n) d i/\zv [ob] W2 wx))
   case atStart=>exact ⟨0,rfl,yg _,rfl,zh ⟨h5.2.1.start d,zv.refl _ _⟩⟩
   case round =>
    obtain ⟨i,Dw,hi,rfl,HI⟩:=hrel;have FK:=zh Dw;clear Dw;have hkb:=(HI.2.block xb (zz h5.2.2.2.1) (by simp only [zms];exact fun e=>TB.1 e.symm)).trans h5.2.2.2.1;obtain ⟨z0,z1,z2⟩:=Za hkb;rw [<- EO.o] at z0;clear hkb;by_cases Cm:i<d.n
    ·have i1:(i:Int)<(d.n:Int):=zo
     have M9:=(h5.2.2.2.2.1.chg HI.2 (by simp only [zms];exact fun e=>TB.2.1 e.symm)).cell Cm;have TT:=(h5.2.2.2.2.2.chg HI.2 (by simp only [zms];exact fun e=>TB.2.2 e.symm)).cell Cm;have Dl:=jT (fun n=>(D n&&decide (n<N)) && !left n) N
     cases lf with
     | true =>
      obtain ⟨w7,B8,ho7,E9⟩:=HI.1.put (D:=fun n=>D n&&decide (n<N)) (n:=k) (fun n hn=>by simp only [Bool.and_eq_true] at hn ⊢;exact hn.1) H.2.1 (by rw [HK.2.1,yq hk];rfl) HK.2.2.1 EO.symm Cm (H.2.2 k d HK.2.2.1 i Cm) zo;have H7:=zh (zA ho7 (HI.2.trans E9));obtain ⟨ky,hky⟩:=zE (d.k i);obtain ⟨vl,II⟩:=zE (d.v i);rw [<- hky] at M9 B8;rw [<- II] at TT B8;clear ho7 E9 hky II Dl;go_wp2_with fail;go_roundg (d.n - (i+1))
      case measure=>have:=FK.o;omega
      case rel=>exact ⟨i+1,rfl,Cm,zac,H7⟩
     | false =>
      have H7:=zh (zA (HI.1.skip EO.symm) HI.2);obtain ⟨ky,hky⟩:=zE (d.k i);rw [<- hky] at M9;clear TT hky Dl;go_wp2_with fail;go_roundg (d.n - (i+1))
      case measure=>have:=FK.o;omega
      case rel=>exact ⟨i+1,rfl,Cm,zac,H7⟩
    ·obtain rfl:i=d.n:=zo
     have i1:¬ (d.n:Int)<(d.n:Int):=zo
     have HE:Hd ((∃ left:Nat->Bool,KR Tryz.prog 3 XE wr mb it N fM left/\QX wr ob (OY (fun n=>(D n&&decide (n<N)) && !left n) N) B (fun n=>(D n&&decide (n<N)) && !left n)/\zv [] w wr/\∀ n,left n=true->D n=true∨N<=n)/\wr.rangeLeft mb it<w0r.rangeLeft mb it):=zh (by
      have BU:mb∉[ob]/\it∉[ob]:=by
       have:=Lm.2.2;simp only [zms];omega
      have hl:=h5.1.lt;refine ⟨⟨fun j=>left j && !decide (j=k),h5.1.chg HI.2 BU.1 BU.2,HI.1.done HK.2.2.1 ?_ (fun j=>?_),h5.2.2.1.then HI.2 (fun q hq=>by rw [zms] at hq;rw [hq,Uy.1];exact .inr (xd _)),fun n hn=>HO.2.2 n (by rw [Bool.and_eq_true] at hn;exact hn.1)⟩,?_⟩
      ·rw [pH (n:=k) hk (S:=fun n=>(D n&&decide (n<N)) && !left n) (S':=fun n=>(D n&&decide (n<N)) && !(left n && !decide (n=k))) (by show ((D k&&decide (k<N)) && !left k)=false;rw [HK.2.2.2.2.1];simp) (by show ((D k&&decide (k<N)) && !(left k && !decide (k=k)))=true;rw [HK.2.1,yq hk];simp) (fun j hj=>by simp [hj])]
       have:=HK.2.2.2.1;omega
      ·show ((D j&&decide (j<N)) && !(left j && !decide (j=k)))=true↔((D j&&decide (j<N)) && !left j)=true∨j=k
       by_cases e:j=k
       ·rw [e,HK.2.1,yq hk];simp
       ·simp [e]
      ·rw [KR.left_eq h5.1 (HI.2.block mb hl.1 BU.1) (HI.2.block it hl.2 BU.2)]
       exact HK.2.2.2.2.2)
     clear HI h5 HO;go_wp2_with fail
     go_roundw
     case rel=>exact zh HE.1
     case measure=>exact HE.2
end Go.Proofs.YtegpiomkmfhadaaGreat
namespace Go.Proofs.YtegpiomkmfhadaaGreat
open Go.RowKit Go.Maps Go.Sort Go.Shelf
theorem tO (w:World) (mb:Option Nat):zC 37 #[.map mb] w fun e w'=>e = .returned (.func (.func 72) #[] #[zP w.heap.size])/\w'=w.alloc (.cells #[.map mb] 100) :=
 (callsIn_wide (n:=5)).1 (AnyZI.keys_in Tryz.keysF Fence.wide 5 trivial rfl mb w)
theorem l6 {w:World} {b n:Nat} {f:Nat->Option Value} (h:xJ Tryz.prog 3 XE w b n f) (hn:n<=4096) :
  Calls Tryz.prog 36 #[.func (.func 72) #[] #[.pointer (some ⟨w.heap.size,0,none⟩)]] (w.alloc (.cells #[.map (some b)] 100)) fun e w'=>∃ v,e = .returned v /\
   w'.ownsRow w.heap.size 3 1 v (xm (fun k=>(f k).isSome) n).length (xC (xm (fun k=>(f k).isSome) n))/\Below w.heap.size w w':=by
 have FE:=h.lt;obtain ⟨D,BT,h2,h3,h4⟩:=h;have IB:=lI BT Tryz.underlying3 h3 h4;have Dg:Maps.size D<=4096:=by rw [h2];exact qh (Yj _ _) hn
 have N8:Maps.size D<=maxLen:=by unfold maxLen;omega
 have Em:Maps.size D*8<=140737488355328:=by omega
 have EM:SeqGives Fence.wide 2 Tryz.prog 72 #[.pointer (some ⟨w.heap.size,0,none⟩)] encZ (fun ss=>ss.Perm (intKeys D)) (Maps.size D) (w.alloc (.cells #[.map (some b)] 100)) :=
  AnyZI.keys_gives (ρ:=Tryz.keysF_ren) { Tryz.keysF with } Fence.wide _ trivial rfl (by omega) w.heap.size b (Maps.size D) D _ (by simp) (by simp) (by
   obtain ⟨es,Dn,hb,Ft,hs,hD⟩:=BT;exact ⟨es,Dn,(Below.heap_alloc _ _ b FE).trans hb,Ft,hs,hD⟩)
 have cS:=AnyZI.sorted_in Tryz.sortedA Fence.wide 5 trivial trivial trivial trivial rfl (by omega) (rO _) (enters_of Tryz.func71 (by kernel_rfl) rfl) 72 #[.pointer (some ⟨w.heap.size,0,none⟩)] trivial (enters_of Tryz.func72 (by kernel_rfl) rfl) _ _ N8 Em _ EM;refine ((callsIn_wide (n:=_)).1 cS).mono ?_;rintro e w' ⟨v,ss,rfl,hS,Cc,Ep,hb⟩;have hs:=gm _ n (ss:=ss) (hS.trans IB.symm)
 have hl:ss.length=(xm (fun k=>(f k).isSome) n).length:=by
  have:=(hS.trans IB.symm).length_eq;simpa using this
 have hm:(ss.mergeSort (fun x y=>decide (x<=y))).map encZ=xC (xm (fun k=>(f k).isSome) n):=by
  rw [hs];simp [xC,encZ]
 have EG:=ownsRow_base_a (base':=w.heap.size) Cc (by simp);rw [hl] at EG;refine ⟨v,rfl,?_,((Below.refl _ w).alloc (xd _) _).trans (hb.mono (by simp))⟩;rw [<- hm];exact EG
end Go.Proofs.YtegpiomkmfhadaaGreat
namespace Go.Proofs.YtegpiomkmfhadaaGreat
open Go.RowKit
variable {w:World} {r:Nat}
def Jk (A:List Nat) (w:World) (B:Bs):Nat->Nat->List Value->Prop
 | 0,_,_=>False
 | f+1,x,V=>∃ (d:Nd) (vk vv:Value) (a:Option Addr) (n c:Nat),V=[.int .i64 (x:Int),.bool d.leaf,vk,vv,.slice a n c]/\B.nodeI (x:Int)=some d/\d.Ok/\zT A w vk d.n d.k/\zT A w vv d.n d.v/\n<=c/\c<=maxLen/\n=(if d.leaf then 0 else d.n) /\
   (0<n->∃ g,a=some ⟨g,0,none⟩/\g<w.heap.size/\g∉A/\∀ i,i<n->∃ U,Jk A w B f (d.v i) U/\∀ j,j<5->w.cell? ⟨g,i*5+j,none⟩=U[j]?)
theorem Jk.chg {A A' L:List Nat} {w w':World} {B:Bs} (c:zv L w w') (hL:∀ k,k∈L->k∈A∨w.heap.size<=k:=by simp) (hA:∀ k,k∈A'->k∈A∨w.heap.size<=k:=by simp):∀ (f x:Nat) (V:List Value),Jk A w B f x V->Jk A' w' B f x V
 | 0,_,_,h=>h
 | f+1,x,V,h=>by
  obtain ⟨d,vk,vv,a,n,cc,rfl,h1,h2,h3,h4,h5,h6,h7,h8⟩:=h
  have nm:∀ {v:Value} {m:Nat} {q:zF},zT A w v m q->zT A' w' v m q:=fun h=>((h.more (B:=A'++A) (fun k hk=>by
   rcases yx.1 hk with hk | hk
   ·exact hA k hk
   ·exact .inl hk)).chg c (fun k hk=>by
   rcases hL k hk with q | q
   ·exact .inl (zar _ q)
   ·exact .inr q)).more (fun k hk => .inl (zal _ hk))
  refine ⟨d,vk,vv,a,n,cc,rfl,h1,h2,nm h3,nm h4,h5,h6,h7,fun hn=>?_⟩;obtain ⟨g,rfl,hg,ro,hk⟩:=h8 hn
  have hgL:g∉L:=fun hm=>by
   rcases hL g hm with q | q
   ·exact ro q
   ·omega
  refine ⟨g,rfl,qe hg c.size,fun hm=>?_,fun i hi=>?_⟩
  ·rcases hA g hm with q | q
   ·exact ro q
   ·omega
  ·obtain ⟨U,hU,hc⟩:=hk i hi
   exact ⟨U,Jk.chg c hL hA f _ _ hU,fun j hj=>(c.cell (p:=⟨g,i*5+j,none⟩) hg hgL).trans (hc j hj)⟩
theorem AL {x0 x1 x2 x3 x4:Value} {T:TypeId} (h:w.heap[r]?=some (.cells #[x0,x1,x2,x3,x4] T (0,0))) (a b c d e:Value) :
  (((((w.setCell ⟨r,0,none⟩ a).setCell ⟨r,1,none⟩ b).setCell ⟨r,2,none⟩ c).setCell ⟨r,3,none⟩ d).setCell ⟨r,4,none⟩ e).heap[r]?=some (.cells #[a,b,c,d,e] T (0,0)):=by
 simpa using Yh (Yh (Yh (Yh (Yh h 0 a) 1 b) 2 c) 3 d) 4 e
theorem cI (w:World) (r:Nat) (a b c d e:Value):zv [r] w (((((w.setCell ⟨r,0,none⟩ a).setCell ⟨r,1,none⟩ b).setCell ⟨r,2,none⟩ c).setCell ⟨r,3,none⟩ d).setCell ⟨r,4,none⟩ e) :=
 (((((zv.refl [r] w).setCell (.inl zaa) _).setCell (.inl zaa) _).setCell (.inl zaa) _).setCell (.inl zaa) _).setCell (.inl zaa) _
theorem tP:(Tryz.prog.info? 129).map (·.size)=some 5:=zab
theorem tQ {a b c d e:Value} (h:w.heap[r]?=some (.cells #[a,b,c,d,e] 129 (0,0))):(loadVar 129 ⟨r,0,none⟩).run Tryz.prog w = .ok (.agg #[a,b,c,d,e]) w:=by
 have hr:=run_loadVar_mid (P:=Tryz.prog) w r 0 129 [a,b,c,d,e] _ (fun j v hv=>by
  rw [yn,zM h,<- hv,<- yB]) Tryz.underlying129 rfl tP
 exact hr
end Go.Proofs.YtegpiomkmfhadaaGreat
