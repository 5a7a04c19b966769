/- Package share: Cut. · A map from bytes -/
import Derived.Test.YtegpiomkmfhadaaGreatZo40
set_option linter.all false
set_option maxRecDepth 100000
set_option maxHeartbeats 20000000
namespace Go.Proofs.YtegpiomkmfhadaaGreat
open Go.RowKit
variable {N G x lo hi k:Nat} {B:Bs} {ht:Ht} {BR:zF} {items its:zL} {w':World}
def AO (w:World) (M:Bm) (F:List Nat) (N G:Nat) (B:Bs) (ht:Ht) (BR:zF) (x lo hi:Nat) (items:zL) (e:Ending) (w':World):Prop :=
 ∃ (z many:Nat) (e0:Int) (B':Bs) (B6:Ht) (Cw:Nat) (its gone:zL),e = .returned (.tuple #[.int .i64 (z:Int),.int .i64 (many:Int),.int .i64 e0])/\zx w' M F B'/\QW N G B ht BR x lo hi items z B' B6 Cw its gone/\many=gone.length/\zv M.L w w' /\
  ((e0=0/\its.filter (Xn lo hi)=[])∨(e0=90/\its.filter (Xn lo hi)≠[]/\B'.room<((2*Cw+2:Nat):Int)))
theorem QW.few {B':Bs} {B6:Ht} {z Cw:Nat} {gone:zL} (C:QW N G B ht BR x lo hi items z B' B6 Cw its gone):gone.length<=items.length:=by
 have:=congrArg List.length C.in_;rw [ym] at this;have:=List.length_filter_le (Xn lo hi) items;omega
theorem fG {q:Nat × Nat} {r:zL} (hq:its.filter (Xn lo hi)=q::r):((its.filter fun p=>decide (p.1≠q.1)).filter (Xn lo hi)).length<=r.length:=by
 have e1:(its.filter fun p=>decide (p.1≠q.1)).filter (Xn lo hi)=(its.filter (Xn lo hi)).filter fun p=>decide (p.1≠q.1):=by
  rw [List.filter_filter,List.filter_filter];exact List.filter_congr fun p _=>Bool.and_comm _ _
 rw [e1,hq,List.filter_cons,if_neg zaa];exact List.length_filter_le _ _
theorem ud {w:World} {M:Bm} {F:List Nat} {Cb bx:Nat} (hb:zx w M F B) (hF:∀ q,q∈F->q<w.heap.size) (g:Gr N G B ht BR) (hM:N<=4096) (hm:∀ b,BR b<=10000) (t:Xl B ht x Cb items) (hp:x≠0->1<=BR x)
  (ED:lo<18446744073709551616) (FH:hi<18446744073709551616) (B9:items.length<=100000) (NM:OT w M bx) :
  zC 13 #[zP M.b,.int .i64 (x:Int),.int .u64 (lo:Int),.int .u64 (hi:Int),vG bx] w (AO w M F N G B ht BR x lo hi items):=by
 have cb:=hb.cBlocks;have hz:=hb.nz.1;have hC:=QW.start (lo:=lo) (hi:=hi) g t hp;have H0:=zh (zA hb (zA hC (zv.refl M.L w)));have HF:=zh hF;have HM:=zh hm;have HB:=zh NM;unfold vG;have hnf:(binOp BinOp.eql 37 (.func (.func 39) #[] #[zP bx]) Value.nilFunc).run Tryz.prog w = .ok (.bool false) w:=zab
 clear hb hF g hm t hp NM hC;go_enter Tryz.func13,Tryz.ntmps13;go_wp2_with fail;refine zm (cb) ?_;go_upto_region 7 with fail;clear hnf hz cb;go_loopg [1,13] (items.filter (Xn lo hi)).length (fun gg s1 Tm wr=>∃ (z many:Nat) (B1:Bs) (Ct:Ht) (KA:Nat) (its gone:zL),gg=(its.filter (Xn lo hi)).length/\s1 = .int .i64 (z:Int)/\Tm = .int .i64 (many:Int)/\many=gone.length/\Hd (zx wr M F B1/\QW N G B ht BR x lo hi items z B1 Ct KA its gone/\zv M.L w wr))
 case atStart=>exact ⟨x,0,B,ht,Cb,items,[],rfl,rfl,rfl,rfl,H0⟩
 case round =>
  obtain ⟨z,many,B1,Ct,KA,its,gone,DM,rfl,rfl,Rb,H⟩:=hrel;have WR:=H.2.1.few;have:many<=100000:=zo
  have ok:=H.2.1.gr.good.ok
  have:z<4096:=by
   rcases H.2.1.tr with ⟨e,-⟩ | ⟨h,-,-,tt⟩
   ·omega
   ·have:=(H.2.1.gr.lt tt.top).1;omega
  have cW:=oV H.1 (y:=(z:Int)) ED FH (most:=1) zo (.inr zo) (R:=((its.filter (Xn lo hi)).take 1,0)) (by rw [if_neg zo,H.2.1.tr.walk H.2.1.gr,jr];rfl);have HG:=zh (zA DM (zA Rb (zA WR ok)));have CW:=zh cW;have hFr:∀ q,q∈F->q<wr.heap.size:=fun q hq=>qe (HF q hq) H.2.2.size;have HFR:=zh hFr;have:=zh (HB.chg H.2.2 (fun q hq=>hq));clear DM Rb WR ok cW hFr
  cases hq:its.filter (Xn lo hi) with
  | nil =>
   rw [hq] at CW;have HQ:=zh hq;clear hq;go_wp2_with fail;refine CW.mono ?_;clear CW;rintro e w1 ⟨v,rfl,BT,c1⟩;obtain ⟨s,c,rfl,_,_⟩:=XI BT;have H1:=zh (zA (H.1.chg c1) (H.2.2.trans (c1.mo:zv M.L _ _)));clear BT c1;go_wp2_with fail
   go_ret3
   exact ⟨z,many,0,B1,Ct,KA,its,gone,rfl,H1.1,H.2.1,HG.2.1,H1.2,.inl ⟨rfl,HQ⟩⟩
  | cons q r =>
   rw [hq] at CW;have T6:q∈its:=(yG.1 (by rw [hq];exact yJ:q∈its.filter (Xn lo hi))).1;have Kd:=H.2.1.tr.key_le HG.2.2.2 T6;have Ia:=H.2.1.tr.ne0 H.2.1.gr T6;have HQ:=zh (zA hq T6);clear hq T6;go_wp2_with fail;refine CW.mono ?_;clear CW;rintro e w1 ⟨v,rfl,BT,c1⟩;obtain ⟨g,c,e,g1,g2,g3,g4,g5⟩:=aE BT zaa;subst e;have Ef:=(g5 0 zaa).trans (show (qp ((q::r).take 1))[0]?=some (.int .u64 (q.1:Int)) from rfl);have al:=H.1.chg c1
   have ct:=pQ al (fun u hu=>qe (HFR u hu) c1.size) H.2.1.gr hM (fun b=>by
    have:=HM b;unfold Xm;rw [if_neg Ia];unfold xA xt
    split <;> split <;> omega) H.2.1.tr (fun _=>by
    unfold Xm;rw [if_neg Ia];unfold xA;rw [if_pos rfl];omega) Kd
   have CT:=zh ct;have H1:=zh (zA al (H.2.2.trans (c1.mo:zv M.L _ _)));obtain ⟨key,Ch⟩:=zE q.1;rw [<- Ch] at Ef CT;have HK:=zh Ch;have:=zh c1;clear ct al g1 g2 g3 g5 Ch BT c1;go_wp2_with fail;refine CT.mono ?_;clear CT;rintro e w2 (⟨D7,rfl,c2⟩ | ⟨D7,hno,rfl,c2⟩ | ⟨D7,z2,u,B2,Cg,Fg,rfl,Cr,T,c2⟩)
   ·have H2:=zh (zA (H1.1.chg c2) (H1.2.trans (c2.mo:zv M.L _ _)))
    have HR:=zh D7;clear c2 D7;go_wp2_with fail
    go_ret3
    exact ⟨z,many,90,B1,Ct,KA,its,gone,rfl,H2.1,H.2.1,HG.2.1,H2.2,.inr ⟨rfl,by rw [HQ.1];simp,HR⟩⟩
   ·exact absurd HQ.2 (by rw [HK.o] at hno;exact hno q.2)
   ·have H2:=zh (zA Cr (H1.2.trans c2))
    rw [HK.o] at T;have HT:=zh T;clear Cr c2 D7 T;by_cases hu0:u=0
    ·subst hu0
     have hn:=H.2.1.next0 HQ.1 HT.o;have HN:=zh hn;clear hn;go_wp2_with fail;go_roundg ((its.filter fun p=>decide (p.1≠q.1)).filter (Xn lo hi)).length
     case measure =>
      have:=fG HQ.1;have h2:=HG.1;rw [HQ.1,yu] at h2;omega
     case rel=>exact ⟨z2,many+1,B2,Cg,Fg,_,_,rfl,rfl,zac,by rw [ym,HG.2.1];rfl,zh ⟨H2.1,HN.o,H2.2⟩⟩
    ·obtain ⟨uN,e1,hn⟩:=H.2.1.next HQ.1 HT hu0
     have cl:=ph H2.1 (fun k hk=>qe (HF k hk) H2.2.size) (HB.chg H2.2 (fun q hq=>hq)) (v:=u) zo;rw [e1] at cl;have CL:=zh cl;have HN:=zh hn;have:((u:Int)==0)=false:=by rw [yD];omega
     clear cl e1 hn uN;go_wp2_with fail;refine CL.mono ?_;clear CL;rintro e w3 ⟨rfl,Du,c3⟩;have H3:=zh (zA Du (H2.2.trans c3));clear Du c3;go_wp2_with fail;go_roundg ((its.filter fun p=>decide (p.1≠q.1)).filter (Xn lo hi)).length
     case measure =>
      have:=fG HQ.1;have h2:=HG.1;rw [HQ.1,yu] at h2;omega
     case rel=>exact ⟨z2,many+1,_,Cg,Fg,_,_,rfl,rfl,zac,by rw [ym,HG.2.1];rfl,zh ⟨H3.1,HN.o,H3.2⟩⟩
open Go.RowKit Go.Maps
def qK (P:Program) (kt:TypeId) (good:Value->Bool) (w:World) (b n:Nat) (f:Nat->Option Value):Prop :=
 ∃ D:DataW Value,w.ownsMap P kt (RG good) b (Maps.size D) D/\Maps.size D=cnt n (fun k=>(f k).isSome) /\
  (∀ l,Maps.has D l=true->∃ k,k<n/\l = .int .u8 (k:Int)/\(f k).isSome=true) /\
  (∀ k v,k<n->f k=some v->Maps.has D (.int .u8 (k:Int))=true/\∀ z,D.atKey (.int .u8 (k:Int)) z = .held v)
section
variable {P:Program} {kt et t:TypeId} {w:World} {b n:Nat} {f:Nat->Option Value} {good:Value->Bool}
theorem qK.lt (h:qK P kt good w b n f):b<w.heap.size:=by
 obtain ⟨D,h1,_⟩:=h;exact h1.lt
theorem qK.same (h:qK P kt good w b n f) (e:w'.heap[b]?=w.heap[b]?):qK P kt good w' b n f:=by
 obtain ⟨D,⟨es,c,hb,hr⟩,hh⟩:=h;exact ⟨D,⟨es,c,e.trans hb,hr⟩,hh⟩
theorem qK.chg {L:List Nat} (h:qK P kt good w b n f) (c:zv L w w') (hb:b∉L:=by simp):qK P kt good w' b n f:=h.same (c.block b h.lt hb)
theorem qK.congr {g:Nat->Option Value} (h:qK P kt good w b n f) (e:∀ i,i<n->f i=g i):qK P kt good w b n g:=by
 obtain ⟨D,h1,h2,h3,h4⟩:=h;refine ⟨D,h1,h2.trans (zZ fun i hi=>by rw [e i hi]),fun l hl=>?_,fun k v hk hv=>h4 k v hk (by rw [e k hk];exact hv)⟩;obtain ⟨k,hk,hl',hs⟩:=h3 l hl;exact ⟨k,hk,hl',by rw [<- e k hk];exact hs⟩
theorem qK.has (_h:qK P kt good w b n f) {D:DataW Value} (h3:∀ l,Maps.has D l=true->∃ k,k<n/\l = .int .u8 (k:Int)/\(f k).isSome=true)
  (h4:∀ k v,k<n->f k=some v->Maps.has D (.int .u8 (k:Int))=true/\∀ z,D.atKey (.int .u8 (k:Int)) z = .held v) {k:Nat} (hk:k<n) :
  Maps.has D (.int .u8 (k:Int))=(f k).isSome:=by
 cases hf:f k with
 | some v=>exact (h4 k v hk hf).1
 | none =>
  cases hh:Maps.has D (.int .u8 (k:Int)) with
  | false=>rfl
  | true =>
   obtain ⟨k',De,e,hs⟩:=h3 _ hh;injection e with _ e;have:k=k':=zo
   subst this;rw [hf] at hs;cases hs
theorem qK.look (h:qK P kt good w b n f) (Dr:P.underlying kt=some (.int .u8)) (ht:P.underlying t=some (.map kt et))
  {z:Value} (hz:(zeroValue et).run P w = .ok z w) (hg:good z=true) (hk:k<n) (hn:n<=256) :
  (Instr.lookup t (.map (some b)) (.int .u8 (k:Int)) true).run P w = .ok (.tuple #[(f k).getD z,.bool (f k).isSome]) w /\
  (Instr.lookup t (.map (some b)) (.int .u8 (k:Int)) false).run P w = .ok ((f k).getD z) w:=by
 have hh:=h;obtain ⟨D,h1,h2,h3,h4⟩:=h;have Ch:keyOf P kt (.int .u8 (k:Int))=some (.int .u8 (k:Int)):=Maps.keyOf_int_mk Dr (WalkArith.wf_u8 zo);have K:=Maps.int_keyed Dr;obtain ⟨v,ps,B8,hv⟩:=h1.look_ok K ht hz (zd := .held z) (zp:=[]) (QJ hg) Ch;obtain ⟨v',ps',Es,EH⟩:=h1.lookup K ht (z:=z) hz (zd := .held z) (zp:=[]) (QJ hg) Ch;rw [hh.has h3 h4 hk] at B8;obtain ⟨e1,-,-⟩:=XC hv;obtain ⟨e2,-,-⟩:=XC EH
 have e:v=(f k).getD z/\v'=(f k).getD z:=by
  cases hf:f k with
  | some u =>
   have hu:=(h4 k u hk hf).2 (.held z);rw [hu] at e1 e2;injection e1 with e1;injection e2 with e2;exact ⟨e1.symm,e2.symm⟩
  | none =>
   have hn:Maps.has D (.int .u8 (k:Int))=false:=by rw [hh.has h3 h4 hk,hf];rfl
   rw [Maps.atKey_of_not_has hn] at e1 e2;injection e1 with e1;injection e2 with e2;exact ⟨e1.symm,e2.symm⟩
 rw [B8,Es,e.1,e.2];exact ⟨rfl,rfl⟩
theorem qK.put (h:qK P kt good w b n f) (Dr:P.underlying kt=some (.int .u8)) (ht:P.underlying t=some (.map kt et)) {v:Value} (hk:k<n) (hn:n<=256) (hv:good v=true) :
  ∃ w',(Instr.mapUpdate t (.map (some b)) (.int .u8 (k:Int)) v).run P w = .ok () w'/\qK P kt good w' b n (fun i=>if i=k then some v else f i)/\w.mapTurned w' b:=by
 have hh:=h;obtain ⟨D,h1,h2,h3,h4⟩:=h;have Ch:keyOf P kt (.int .u8 (k:Int))=some (.int .u8 (k:Int)):=Maps.keyOf_int_mk Dr (WalkArith.wf_u8 zo);have K:=Maps.int_keyed Dr;have Dl:=Yj (fun k=>(f k).isSome) n;have FV:WideAt.IsKeyLit (.int .u8 (k:Int)):=K.key Ch;obtain ⟨w',B8,BT,CQ⟩:=h1.store K ht zam Ch (QJ hv);refine ⟨w',B8,⟨_,Y1 BT,?_,?_,?_⟩,CQ⟩
 ·have e1:=Maps.size_put (k := .int .u8 (k:Int)) (h1.tidy K) (.held v)
  have e2:=xN (p:=fun i=>(f i).isSome) (q:=fun i=>(if i=k then some v else f i).isSome) hk (fun i _ BU=>by simp [BU]);rw [hh.has h3 h4 hk] at e1;simp only [if_true,Option.isSome_some] at e2;rw [e1]
  split at e2 <;> split <;> simp_all <;> omega
 ·intro l hl
  by_cases e:l = .int .u8 (k:Int)
  ·exact ⟨k,hk,e,zaa⟩
  ·rw [Maps.has_put_other e] at hl
   obtain ⟨k',De,rfl,hs⟩:=h3 l hl;have BU:k'≠k:=fun q=>e (by rw [q]);exact ⟨k',De,rfl,zay⟩
 ·intro i v' hi EH
  by_cases e:i=k
  ·subst e
   simp only [if_true,Option.some.injEq] at EH;subst EH;exact ⟨Maps.has_put_same h1.isMap FV _,fun z=>Maps.atKey_put_same h1.isMap FV _ z⟩
  ·simp only [e,if_false] at EH
   have BU:Lit.int .u8 (i:Int) ≠ .int .u8 (k:Int):=fun q=>by injection q with _ q;omega
   obtain ⟨g1,g2⟩:=h4 i v' hi EH;exact ⟨by rw [Maps.has_put_other BU];exact g1,fun z=>by rw [Maps.atKey_put_other BU];exact g2 z⟩
theorem qK.ofEmpty (h:w.ownsMap P kt (RG good) b 0 (.map []:DataW Value)) (n:Nat):qK P kt good w b n (fun _=>none):=by
 refine ⟨.map [],h,(qM fun _ _=>rfl).symm,?_,?_⟩
 ·intro l hl;cases hl
 ·intro k v _ hv;cases hv
theorem qK.made (w:World) (n:Nat):qK P kt good (w.alloc (.map #[] 0)) w.heap.size n (fun _=>none) :=
 qK.ofEmpty (World.ownsMap_made _ _ _ _) n
end
end Go.Proofs.YtegpiomkmfhadaaGreat
namespace Go.Proofs.YtegpiomkmfhadaaGreat
open Go.RowKit
variable {A:List Nat} {w:World} {v:Value} {l:zL} {a:Option Addr} {n c i N x k m:Nat} {B:Bs}
structure XG (A:List Nat) (w:World) (v:Value) (l:zL):Prop where
 e:∃ a c,v = .slice a l.length c/\l.length<=c/\c<=maxLen/\(0<l.length->∃ b o,a=some ⟨b,o,none⟩/\b<w.heap.size/\b∉A/\∀ i,i<l.length->w.cell? ⟨b,o+i*2,none⟩=some (.int .u64 ((l.getD i (0,0)).1:Int))/\w.cell? ⟨b,o+i*2+1,none⟩=some (.int .u8 ((l.getD i (0,0)).2:Int)))
 u:∀ p,p∈l->p.1<18446744073709551616/\p.2<256
theorem XG.chg {L:List Nat} {w':World} (h:XG A w v l) (c:zv L w w') (hL:∀ k,k∈L->k∈A∨w.heap.size<=k:=by simp):XG A w' v l:=by
 obtain ⟨⟨a,cp,rfl,h1,h2,h3⟩,hu⟩:=h;refine ⟨⟨a,cp,rfl,h1,h2,fun h0=>?_⟩,hu⟩;obtain ⟨b,o,rfl,hb,hA,hc⟩:=h3 h0
 have hn:b∉L:=fun hm=>by
  rcases hL b hm with q | q
  ·exact hA q
  ·omega
 exact ⟨b,o,rfl,qe hb c.size,hA,fun i hi=>⟨(c.cell (p:=⟨b,o+i*2,none⟩) hb hn).trans (hc i hi).1,(c.cell (p:=⟨b,o+i*2+1,none⟩) hb hn).trans (hc i hi).2⟩⟩
theorem XG.len (h:XG A w v l):∃ a c,v = .slice a l.length c/\l.length<=c/\c<=9223372036854775807:=by
 obtain ⟨⟨a,c,e,h1,h2,_⟩,_⟩:=h;exact ⟨a,c,e,h1,by unfold maxLen at h2;omega⟩
theorem XG.get (h:XG A w (.slice a n c) l) (hi:i<l.length) :
  ∃ b o,a=some ⟨b,o,none⟩/\b<w.heap.size/\b∉A/\w.cell? ⟨b,o+i*2,none⟩=some (.int .u64 ((l.getD i (0,0)).1:Int))/\w.cell? ⟨b,o+i*2+1,none⟩=some (.int .u8 ((l.getD i (0,0)).2:Int)):=by
 obtain ⟨⟨a',cp,e,h1,h2,h3⟩,hu⟩:=h;injection e with e _ _;obtain ⟨b,o,e',hb,hA,hc⟩:=h3 zo;exact ⟨b,o,e.trans e',hb,hA,(hc i hi).1,(hc i hi).2⟩
def qT (l:zL):List (Nat × Nat):=l.map fun p=>(p.1,p.2 % 16)
theorem wj (h:XG A w v l):Y4 (qT l):=fun p hp=>by
 obtain ⟨q,hq,rfl⟩:=yw.1 hp;exact ⟨(h.u q hq).1,by show q.2 % 16<_;omega⟩
theorem mi (hi:i<l.length):qT (l.take (i+1))=qT (l.take i)++[((l.getD i (0,0)).1,(l.getD i (0,0)).2 % 16)]:=by
 unfold qT;rw [List.take_succ_eq_append_getElem hi,List.map_append,qi hi];rfl
structure AS (w:World) (M:Bm) (N mb bs:Nat) (va:Option Addr) (kk vc:Nat) (r:zL) (R0:Bs × List (Nat × Nat)) (c0:Int) (i:Nat) (wx:World) (B:Bs) (f:Nat->Option Nat) (out:zL):Prop where
 n:out.length=i
 base:zx wx M (qm (.slice va kk vc)++[mb]) B
 map:qK Tryz.prog 5 (fun _=>true) wx mb 256 (fun d=>(f d).map fun (b:Nat)=>Value.int .i64 (b:Int))
 gi:GI N B f out (kk - i) c0
 own:wx.ownsRow bs 78 2 (.slice va kk vc) kk (qp (out++r.drop i))
 res:R0=((Zo (r.drop i) B f).1,out++(Zo (r.drop i) B f).2)
 chg:zv [] w wx
theorem ue (out r:zL) (p:Nat × Nat) (b:Nat):(qp (out++p::r)).set (out.length*2+1) (.int .u64 (b:Int))=qp ((out++[(p.1,b)])++r):=by
 rw [ZC,XX,zf,ZC,List.singleton_append,XX,<- ZB out,List.set_append_right _ _ zo];congr 1;rw [show (qp out).length+1 - (qp out).length=1 by omega];rfl
theorem AS.next {w3:World} {M:Bm} {mb bs kk vc g:Nat} {r:zL} {R0:Bs × List (Nat × Nat)} {c0:Int} {B':Bs} {f':Nat->Option Nat} {out:zL} {b:Nat} (hi:i<kk) (GP:kk=r.length) (hw:w.heap.size<=bs) (Iw:mb<bs)
  (hn:out.length=i) (Dp:zx w3 M (qm (zS g kk vc)++[mb]) B') (hmap:qK Tryz.prog 5 (fun _=>true) w3 mb 256 (fun d=>(f' d).map fun (b:Nat)=>Value.int .i64 (b:Int))) (Dw:GI N B' f' (out++[((r.getD i (0,0)).1,b)]) (kk - (i+1)) c0)
  (BT:w3.ownsRow bs 78 2 (zS g kk vc) kk (qp (out++r.drop i))) (F4:R0=((Zo (r.drop (i+1)) B' f').1,(out++[((r.getD i (0,0)).1,b)])++(Zo (r.drop (i+1)) B' f').2)) (hchg:zv [] w w3) :
  AS w M N mb bs (some ⟨g,0,none⟩) kk vc r R0 c0 (i+1) (w3.setCell ⟨g,i*2+1,none⟩ (.int .u64 (b:Int))) B' f' (out++[((r.getD i (0,0)).1,b)]):=by
 have:=(BT.lt g rfl).1;have hc:zv [g] w3 (w3.setCell ⟨g,i*2+1,none⟩ (.int .u64 (b:Int))):=(zv.refl _ w3).setCell (.inl zaa) _;have hr:r.drop i=r.getD i (0,0)::r.drop (i+1):=by rw [List.drop_eq_getElem_cons zo,qi zo]
 have ho:=JV (v := .int .u64 (b:Int)) BT (i:=i*2+1) zo;rw [hr,<- hn,ue,hn] at ho;exact ⟨by simp [hn],Dp.chg hc (fun x hx=>by rw [zms] at hx;subst hx;exact zal _ (by unfold qm;simp [Value.ownBlock])),hmap.chg hc zad,Dw,ho,F4,hchg.then hc (fun x hx => .inr (by rw [zms] at hx;omega))⟩
theorem uf (hN:16<=N/\N<=4096) (DN:XG A w v l) (E8:l.length<=200) (hr:2*(l.length:Int)+2<=(Bs.fmt N).room) :
  zC 9 #[.int .i64 (N:Int),v] w fun e w'=>∃ (M:Bm) (x:Nat) (B:Bs) (vi:Value),e = .returned (.tuple #[zP M.b,.int .i64 (x:Int),vi,.bool true]) /\
   zx w' M [] B/\AG N (qT l) (xh N (qT l)).2 B x/\xU M.L w' vi (xh N (qT l)).2/\zv [] w w'/\(∀ q,q∈M.L->w.heap.size<=q)/\((xh N (qT l)).2≠[]->(B,x)=ZJ 8 0 (xh N (qT l)).2 (xh N (qT l)).1):=by
 obtain ⟨a,c,rfl,B5,BW⟩:=DN.len;have H:=zh DN;have cB:=o8 w hN (F:=[]) (fun q hq=>by cases hq);obtain ⟨n,hn⟩:=zE l.length;rw [<- hn] at E8 B5 ⊢;replace H:Hd (XG A w (.slice a n c) l):=by rw [hn];exact H
 obtain ⟨R0,L9⟩:=zE (xh N (qT l));rw [<- L9];have HR:=zh L9;clear L9;have HN:=zh (zA hn (zA hN hr));clear DN hn hr;go_enter Tryz.func9,Tryz.ntmps9;go_wp2_with fail;refine cB.mono ?_;clear cB;rintro e w1 ⟨M,rfl,al,Ey,hM⟩;have H1:=zh (zA al (zA Ey hM));clear al Ey hM;have EA:=run_makeMap (P:=Tryz.prog) 93 w1;go_upto_region 7 with fail;have DW:=(H1.1.new (xd _)).chg ((zv.refl [] w1).alloc (.map #[] 0));have Ef:=H1.2.1.alloc (.map #[] 0);have Fv:qK Tryz.prog 5 (fun _=>true) (w1.alloc (.map #[] 0)) w1.heap.size 256 (fun _=>none):=qK.made w1 256;have F6:w1.heap.size<(w1.alloc (.map #[] 0)).heap.size:=Fv.lt;generalize w1.alloc (.map #[] 0)=W0 at DW Ef Fv F6 ⊢;obtain ⟨mb,Iw⟩:=zE w1.heap.size;rw [<- Iw] at DW Fv F6 ⊢;have hmM:mb∉M.L:=fun hm=>by have:=H1.1.ltL hm;omega
 have H2:=zh (zA DW (zA Ef (zA Fv (zA F6 (zA hmM Iw)))));clear DW Ef Fv F6 Iw hmM EA;go_loopg [11,32] n (fun gg s11 s32 wr=>∃ i:Nat,gg=n - i/\i<=n/\s32 = .int .i64 (i:Int)/\Hd (wr.ownsRow W0.heap.size 78 2 s11 i (qp (qT (l.take i)))/\zv [] W0 wr))
 case atStart=>exact ⟨0,rfl,yg _,rfl,zh ⟨yO _ _ _ _,zv.refl _ _⟩⟩
 case round =>
  obtain ⟨i,DM,hi,rfl,HX⟩:=hrel;have IP:=zh DM;clear DM;by_cases Cm:i<n
  ·have i1:(i:Int)<(n:Int):=zo
   obtain ⟨b,o,rfl,hb,Kx,q0,q1⟩:=((H.chg H2.2.1).chg HX.2).get (i:=i) (by rw [<- HN.1];exact Cm);have hu:=H.u (l.getD i (0,0)) (by rw [qi (by rw [<- HN.1];exact Cm)];exact zt _);have Li:=mi (l:=l) (i:=i) (by rw [<- HN.1];exact Cm);obtain ⟨x,hx⟩:=zE (l.getD i (0,0));rw [<- hx] at q0 q1 hu Li;obtain ⟨k,d⟩:=x;simp only at q0 q1 hu Li;have HT:=zh Li;clear hx Li;obtain ⟨ua,uc,rfl,u1,u2⟩:=XI HX.1;have e1:Int.tmod (d:Int) 16=((d % 16:Nat):Int):=by rw [Int.tmod_eq_emod_of_nonneg zo];rfl
   have e2:IntKind.u64.wrap ((d % 16:Nat):Int)=((d % 16:Nat):Int):=IntWalk.u64_in _ zo;go_upto_region 9 with fail;have EI:=(zv.refl [] wr).alloc (.cells #[.int .u64 (k:Int),.int .u8 (d:Int)] 95);have GL:=xo wr (.cells #[.int .u64 (k:Int),.int .u8 (d:Int)] 95);generalize wr.alloc (.cells #[.int .u64 (k:Int),.int .u8 (d:Int)] 95)=w2 at EI GL ⊢;have:w2.cell? ⟨wr.heap.size,0,none⟩=some (.int .u64 (k:Int)):=(zM GL 0).trans rfl;have y1:w2.cell? ⟨wr.heap.size,1,none⟩=some (.int .u8 (d:Int)):=(zM GL 1).trans rfl;obtain ⟨m,hm⟩:=zE (d % 16);rw [<- hm] at e1 e2 HT;have FY:=xo w2 (.cells #[.int .u64 (k:Int),.int .u64 (m:Int)] 78);have Cd:zv [] w2 (w2.alloc (.cells #[.int .u64 (k:Int),.int .u64 (m:Int)] 78)):=(zv.refl [] w2).alloc _;have Ko:=Xg (Xg HX.1 EI zaa) Cd zaa;have H4:=zh (zA Ko (zA FY (zA (HX.2.trans (EI.trans Cd)) (qh HX.2.size (qh EI.size Cd.size)))));clear FY Cd Ko EI GL hm q0 q1 hb Kx hu;go_wp2_with (at_builtin;refine x9 rfl _ _ 25 rfl rfl (base:=W0.heap.size) (size:=2) (n:=i) (m:=1) (xs:=qp (qT (l.take i))) (news:=[.int .u64 (k:Int),.int .u64 (m:Int)]) Tryz.underlying25 Vt rfl zo zo rfl rfl H4.1 (xQ.blk H4.2.1 rfl (fun u hu=>by simp at hu;rcases hu with rfl | rfl <;> rfl)) zo H4.2.2.2 ?_;intro v' w5 Cf Dd Ec;have H5:=zh (zA Cf (zA Dd Ec));clear Cf Dd Ec);go_roundg (n - (i+1))
   case measure=>have:=IP.o;omega
   case rel =>
    refine ⟨i+1,rfl,Cm,zac,zh ⟨?_,H4.2.2.1.grown H5.2.1 (fun z hz => .inr (H4.1.lt z hz).1)⟩⟩;rw [HT.o,ZC];exact H5.1
  ·obtain rfl:i=n:=zo
   have i1:¬ (i:Int)<(i:Int):=zo;obtain ⟨ua,uc,rfl,u1,u2⟩:=XI HX.1;have Ir:l.take i=l:=by rw [HN.1];exact List.take_length
   have Mb:=HX.1;rw [Ir] at Mb;have MJ:(qT l).length=i:=by unfold qT;rw [yX];exact HN.1.symm
   have IF:=wj H.o
   have WJ:zC 31 #[.slice ua i uc] wr fun e w'=>∃ u,e = .returned u/\w'.ownsRow wr.heap.size 78 2 u (Yg (qT l)).length (qp (Yg (qT l)))/\zv [] wr w' :=
    jE (A:=[]) (xU.of_own (by rw [MJ];exact Mb) IF (fun g hg=>by simp)) zo
   have Id:=zh WJ;have HU:=zh (zA IF MJ);clear Mb MJ IF WJ Ir;go_wp2_with fail;refine Id.mono ?_;clear Id;rintro e w2 ⟨u,rfl,BT,BW⟩
   have Cr:zx w2 M (qm u++[mb]) (Bs.fmt N):=by
    have h1:=H2.1.chg HX.2
    cases hq:u.ownBlock with
    | none=>rw [show qm u=[] by unfold qm;rw [hq]];exact h1.chg BW
    | some q =>
     rw [show qm u=[q] by unfold qm;rw [hq]];exact (h1.new (BT.lt q hq).1).chg BW
   have Dw:=jJ HN.2.1 HU.1 (by rw [HU.2];exact E8) (by rw [HU.2,HN.1];exact HN.2.2);have Cy:=(H2.2.2.1.chg HX.2).chg BW;have LG:=(aw HU.1).2.2.1;rw [HU.2] at Dw LG;obtain ⟨r,Gc⟩:=zE (Yg (qT l));rw [<- Gc] at BT Dw LG;obtain ⟨c0,Gj⟩:=zE ((Bs.fmt N).room - (i:Int));rw [<- Gj] at Dw;have hR1:R0=Zo r (Bs.fmt N) (fun _=>none):=by rw [HR.o,Gc];rfl
   have WL:∀ p,p∈r->p.1<18446744073709551616/\p.2<16:=fun p hp=>by
    have h1:=(aw HU.1).2.2.2.1 p (by rw [<- Gc];exact hp);obtain ⟨q,hq,rfl⟩:=yw.1 h1;exact ⟨(H.u q hq).1,Nat.mod_lt _ zo⟩
   obtain ⟨kk,GP⟩:=zE r.length;rw [<- GP] at BT Dw LG;obtain ⟨va,vc,rfl,v1,v2⟩:=XI BT;have H3:=zh (zA BT (zA ((H2.2.1.trans HX.2).trans BW) (zA Cr (zA Dw (zA Cy (zA Gc (zA hR1 (zA WL GP))))))));clear BT BW Cr Dw Cy Gc Gj hR1 WL GP;go_upto_region 13 with fail;have My:mb<wr.heap.size:=qe H2.2.2.2.1 HX.2.size;have Tb:w.heap.size<=wr.heap.size:=(H2.2.1.trans HX.2).size;obtain ⟨bs,hbs⟩:=zE wr.heap.size;rw [<- hbs] at H3 My Tb;clear hbs
   have H4:AS w M N mb bs va kk vc r R0 c0 0 w2 (Bs.fmt N) (fun _=>none) [] :=
    { n:=rfl,base:=H3.2.2.1,map:=H3.2.2.2.2.1,gi:=H3.2.2.2.1,own:=by rw [yy,List.drop_zero];exact H3.1,res:=by rw [List.drop_zero,yy];exact H3.2.2.2.2.2.2.1,chg:=H3.2.1 }
   go_loopg [51] kk (fun gg s51 wx=>∃ i:Nat,gg=kk - i/\i<=kk/\s51 = .int .i64 (i:Int)/\Hd (∃ B f out,AS w M N mb bs va kk vc r R0 c0 i wx B f out))
   case atStart=>exact ⟨0,rfl,yg _,rfl,zh ⟨Bs.fmt N,fun _=>none,[],H4⟩⟩
   case round =>
    obtain ⟨j,DM,hj,rfl,HG⟩:=hrel;have IP:=zh DM;clear DM;by_cases K9:j<kk
    ·have i2:(j:Int)<(kk:Int):=zo
     obtain ⟨B,f,out,G⟩:=HG.o;have Dz:=H3.2.2.2.2.2.2.2.2;obtain ⟨g,c',e,g1,g2,g3,g4,g5⟩:=aE G.own zo;injection e with e _ e';subst e;subst e';have B9:(out++r.drop j).length=kk:=by rw [ym,G.n,List.length_drop,<- Dz];omega
     have kD:=QM (out++r.drop j) j zo
     have Hw:(out++r.drop j).getD j (0,0)=r.getD j (0,0):=by
      rw [zgD,zgD,yF (by rw [G.n];omega),List.getElem?_drop,G.n];congr 2;omega
     rw [Hw] at kD;have q0:=(g5 (j*2) zo).trans kD.1;have q1:=(g5 (j*2+1) zo).trans kD.2;have hp:=H3.2.2.2.2.2.2.2.1 (r.getD j (0,0)) (by rw [qi zo];exact zt _);obtain ⟨p,T4⟩:=zE (r.getD j (0,0));rw [<- T4] at q0 q1 hp;have UA:=zh T4;obtain ⟨k,d⟩:=p;simp only at q0 q1 hp;have e1:IntKind.u8.wrap (d:Int)=(d:Int):=IntWalk.u8_in _ zo;have e2:IntKind.u16.wrap (d:Int)=(d:Int):=IntWalk.u16_in _ zo;have EI:=(zv.refl [] wr).alloc (.cells #[.int .u64 (k:Int),.int .u64 (d:Int)] 78);have GL:=xo wr (.cells #[.int .u64 (k:Int),.int .u64 (d:Int)] 78);have GG:=zh G;have HK:=zh (zA g3 (zA g4 Dz));clear G kD Hw B9 g1 g2 g3 g4 g5 T4 Dz;go_upto_region 15 with fail;generalize wr.alloc (.cells #[.int .u64 (k:Int),.int .u64 (d:Int)] 78)=w3 at EI GL ⊢;have y1:w3.cell? ⟨wr.heap.size,1,none⟩=some (.int .u64 (d:Int)):=(zM GL 1).trans rfl;have Kh:=GG.map.chg EI;have Co:=(Kh.look (t:=93) (et:=3) Tryz.underlying5 Tryz.underlying93 (z := .int .i64 0) (Tryz.zeroValue3 w3) rfl (k:=d) zo zo).1;have HB:=zh (zA EI Kh);clear EI GL Kh
     have Kg:∀ q,q∈qm (zS g kk vc)++[mb]->q<w3.heap.size:=fun q hq=>by
      have h1:=HB.1.size;have h2:=GG.chg.size;rcases yx.1 hq with hq | hq
      ·have:=(GG.own.lt q (Xj.1 hq)).2;omega
      ·rw [zms] at hq
       have:=GG.map.lt;omega
     have Du:=GG.base.chg HB.1;have Dw:=GG.gi;rw [show kk - j=(kk - (j+1))+1 by omega] at Dw
     have Lf:r.drop j=(k,d)::r.drop (j+1):=by
      rw [UA.o,qi (by rw [<- HK.2.2];exact K9),List.drop_eq_getElem_cons (by rw [<- HK.2.2];exact K9)]
     have F4:=GG.res;rw [Lf] at F4
     have SC:∀ q,bs<=q->q∉M.L:=fun q hq hm=>by
      have:=H1.1.ltL hm;have:=H2.2.2.2.2.2;omega
     cases hfd:f d with
     | some b =>
      rw [hfd] at Co;have Mu:(Instr.lookup 93 (.map (some mb)) (.int .u8 (d:Int)) true).run Tryz.prog w3 = .ok (.tuple #[.int .i64 (b:Int),.bool true]) w3:=Co;have Ml:=Dw.up (k:=k) hfd;have hbN:=Dw.has d b hfd;have cu:=lE Du Kg (b:Int);have e3:IntKind.u64.wrap (b:Int)=(b:Int):=IntWalk.u64_in _ (zq Dw.hM);have CU:=zh cu;have HS:=zh (zA Ml (zA (F4.trans (by rw [VH.1 b hfd])) (zA SC Lf)));clear cu Co Dw Ml hbN Du F4 SC Lf Kg;go_wp2_with fail;refine CU.mono ?_;clear CU;rintro e w4 ⟨rfl,Ex,Cd⟩;have KD:=Xg (Xg GG.own HB.1 zaa) Cd (fun q hq hm=>HS.2.2.1 q (GG.own.lt q hq).1 hm);have Mw:=HB.2.chg Cd H2.2.2.2.2.1;have WC:zv [] w w4:=(GG.chg.trans HB.1).then Cd (fun q hq => .inr (H1.2.2 q hq));have Fi:=AS.next (R0:=R0) (b:=b) K9 HK.2.2 Tb My GG.n Ex Mw (by rw [<- UA.o];exact HS.1) KD (by rw [<- UA.o,zf];exact HS.2.1) WC;have EQ:g<w4.heap.size:=(KD.lt g rfl).2
      have TX:w4.frozen? ⟨g,j*2+1,none⟩=false:=by
       rcases KD.2 with ⟨q,_⟩ | ⟨g',cc,BV,q,_,I6,_⟩
       ·cases q
       ·injection q with q _ _
        injection q with q;injection q with q _ _;subst q;exact xB I6 _
      have F9:g<w3.heap.size:=qe HK.2.1 HB.1.size;have Eo:w4.cell? ⟨g,j*2+1,none⟩=some (.int .u64 (d:Int)):=(Cd.cell (p:=⟨g,j*2+1,none⟩) F9 (HS.2.2.1 g HK.1)).trans (HB.1.ce q1 HK.2.1);have Gg:=zh Fi;clear Ex Cd KD Mw WC Fi q0 q1 y1 Mu;go_wp2_with fail;go_roundg (kk - (j+1))
      case measure=>have:=IP.o;omega
      case rel=>exact ⟨j+1,rfl,K9,zac,zh ⟨_,_,_,Gg⟩⟩
     | none =>
      rw [hfd] at Co;have Mu:(Instr.lookup 93 (.map (some mb)) (.int .u8 (d:Int)) true).run Tryz.prog w3 = .ok (.tuple #[.int .i64 0,.bool false]) w3:=Co;obtain ⟨n1,n2,n3,Ml⟩:=Dw.new (k:=k) hfd;have UL:=zh (lL (n:=d) w3 zo);obtain ⟨Ls,DT⟩:=zE B.at_;have e3:IntKind.u64.wrap (Ls:Int)=(Ls:Int):=IntWalk.u64_in _ (zq Dw.hM);have HS:=zh (zA Ml (zA (F4.trans (by rw [VH.2 hfd])) (zA SC (zA Lf (zA n1 (zA Du (zA Kg DT)))))));clear Co Dw Ml Du F4 SC Lf Kg n1 n2 n3 DT;go_wp2_with fail;refine UL.mono ?_;clear UL;rintro e w4 ⟨g2,rfl,C8,hbt,Cd⟩;have cp:=f6 (c:=128) (HS.2.2.2.2.2.1.chg Cd) (fun q hq=>qe (HS.2.2.2.2.2.2.1 q hq) Cd.size) hbt (fun hm=>by have h1:=H1.1.ltL hm;have h2:=H2.2.2.2.2.2;have:=GG.map.lt;have:=HB.1.size;omega) HS.2.2.2.2.1;rw [<- HS.2.2.2.2.2.2.2] at cp;have CP:=zh cp;have C6:=zh Cd;clear cp hbt Cd C8;go_wp2_with fail;refine CP.mono ?_;clear CP;rintro e w5 ⟨rfl,Fr,DF⟩;have hm5:=(HB.2.chg C6).chg DF H2.2.2.2.2.1;obtain ⟨w6,B8,hm6,ht6⟩:=hm5.put (t:=93) (et:=3) Tryz.underlying5 Tryz.underlying93 (k:=d) (v := .int .i64 (Ls:Int)) zo zo rfl;have EP:=xD ht6;have su:g≠mb:=zq HK.1
      have Ec:=Xg (Xg (Xg GG.own HB.1 zaa) C6 zaa) DF (fun q hq hm=>HS.2.2.1 q (GG.own.lt q hq).1 hm);have ho6:=Xg Ec EP (fun q hq hm=>by injection hq with hq;subst hq;rw [zms] at hm;exact su hm);have FD:=Fr.chg EP (fun q hq=>zar _ hq);have WD:zv [] w w5:=((GG.chg.trans HB.1).trans C6).then DF (fun q hq => .inr (H1.2.2 q hq));have WE:zv [] w w6:=WD.then EP (fun q hq => .inr (by rw [zms] at hq;subst hq;rw [H2.2.2.2.2.2];exact H1.2.1.size))
      have hm6':qK Tryz.prog 5 (fun _=>true) w6 mb 256 (fun i=>(gC f d Ls i).map fun (b:Nat)=>Value.int .i64 (b:Int)):=hm6.congr fun i _=>by
       unfold gC;by_cases e:i=d
       ·rw [if_pos e,if_pos e];rfl
       ·rw [if_neg e,if_neg e]
      have Fi:=AS.next (R0:=R0) (b:=Ls) K9 HK.2.2 Tb My GG.n FD hm6' (by rw [<- UA.o,HS.2.2.2.2.2.2.2];exact HS.1) ho6 (by rw [<- UA.o,zf,HS.2.2.2.2.2.2.2];exact HS.2.1) WE
      have TX:w6.frozen? ⟨g,j*2+1,none⟩=false:=by
       rcases ho6.2 with ⟨q,_⟩ | ⟨g',cc,BV,q,_,I6,_⟩
       ·cases q
       ·injection q with q _ _
        injection q with q;injection q with q _ _;subst q;exact xB I6 _
      have F9:g<w3.heap.size:=qe HK.2.1 HB.1.size;have Fe:g<w4.heap.size:=qe F9 C6.size;have WH:w5.cell? ⟨g,j*2+1,none⟩=some (.int .u64 (d:Int)):=(DF.cell (p:=⟨g,j*2+1,none⟩) Fe (HS.2.2.1 g HK.1)).trans ((C6.cell (p:=⟨g,j*2+1,none⟩) F9 zaa).trans (HB.1.ce q1 HK.2.1));have Eo:w6.cell? ⟨g,j*2+1,none⟩=some (.int .u64 (d:Int)):=(EP.cell (p:=⟨g,j*2+1,none⟩) (qe Fe DF.size) (by simpa using su)).trans WH;have EQ:g<w6.heap.size:=(ho6.lt g rfl).2;have Gg:=zh Fi;clear Fr DF hm5 hm6 ht6 EP Ec ho6 FD WD WE hm6' Fi q0 q1 y1 Mu WH;go_wp2_with fail;go_roundg (kk - (j+1))
      case measure=>have:=IP.o;omega
      case rel=>exact ⟨j+1,rfl,K9,zac,zh ⟨_,_,_,Gg⟩⟩
    ·obtain rfl:j=kk:=zo
     have i2:¬ (j:Int)<(j:Int):=zo;obtain ⟨B,f,out,G⟩:=HG.o;have I8:r.drop j=[]:=List.drop_eq_nil_of_le (zq H3.2.2.2.2.2.2.2.2);have F4:=G.res;have BT:=G.own;rw [I8] at F4 BT;rw [yY] at BT;have Rg:R0=(B,out):=by rw [F4];unfold Zo;rw [yY]
     obtain ⟨w1',w2',MS,w4',w5',w6'⟩:=A3 HN.2.1 HU.1 (by rw [HU.2];exact E8) (by rw [HU.2,HN.1];exact HN.2.2);rw [<- HR.o,Rg] at w1' w2' MS w4' w5' w6';simp only at w1' w2' MS w4' w5' w6';subst Rg
     have Kg:∀ q,q∈qm (.slice va j vc)++[mb]->q<wr.heap.size:=fun q hq=>by
      rcases yx.1 hq with hq | hq
      ·exact (G.own.lt q (Xj.1 hq)).2
      ·rw [zms] at hq
       have:=G.map.lt;omega
     have SC:∀ g,(Value.slice va j vc).ownBlock=some g->g∉M.L:=fun g hg hm=>by
      have:=(G.own.lt g hg).1;have:=H1.1.ltL hm;have:=H2.2.2.2.2.2;omega
     have SH:xU M.L wr (.slice va j vc) out:=xU.of_own (by rw [G.n];exact BT) w2' (fun g hg=>SC g hg);have cB:=jF (items:=out) G.base Kg w4' w5' HN.2.1.2 w1' w2' SH (by rw [G.n];omega);have CB:=zh cB;have HE:=zh (zA SH (zA w6' (zA G.chg w4')));clear SH cB w1' w2' MS w4' w5' w6' F4 BT Kg SC G I8;go_wp2_with fail;refine CB.mono ?_;clear CB;rintro e w7 ⟨x,B7,rfl,t1,t2,t3,t4,t5,t6,t7⟩
     have HF:Hd (zx w7 M [] B7/\AG N (qT l) out B7 x/\xU M.L w7 (.slice va j vc) out/\zv [] w w7/\(∀ q,q∈M.L->w.heap.size<=q)/\(out≠[]->(B7,x)=ZJ 8 0 out B)) :=
      zh ⟨t1.sub (fun q hq=>by cases hq),HE.2.1 B7 x t6 t7,HE.1.chg t5 (fun q hq => .inl hq),HE.2.2.1.then t5 (fun q hq => .inr (H1.2.2 q hq)),H1.2.2,t6⟩
     clear t1 t2 t3 t4 t5 t6 t7;go_wp2_with fail;refine bodyPost_ret (v := .tuple #[zP M.b,.int .i64 (x:Int),.slice va j vc,.bool true]) (by simp [results,Tryz.results9,go_sem]) rfl ⟨M,x,B7,_,rfl,HF⟩
def dy (B B':Bs):Prop:=B'.T.kept=B.T.kept/\B'.a=B.a/\B'.T.n=B.T.n
theorem dy.refl (B:Bs):dy B B:=⟨rfl,rfl,rfl⟩
theorem dy.trans {A B C:Bs} (h:dy A B) (k:dy B C):dy A C:=⟨k.1.trans h.1,k.2.1.trans h.2.1,k.2.2.trans h.2.2⟩
theorem dy.put (B:Bs) (f:zF):dy B (B.put f):=⟨rfl,rfl,rfl⟩
theorem dy.up (B:Bs) (x:Int):dy B (B.up x):=by
 unfold Bs.up
 split
 ·refine ⟨?_,rfl,?_⟩
  ·show (Proofs.YtegpiomkmfhadaaGreat.up B.T x).kept=B.T.kept
   unfold Proofs.YtegpiomkmfhadaaGreat.up
   repeat' split
   all_goals rfl
  ·show (Proofs.YtegpiomkmfhadaaGreat.up B.T x).n=B.T.n
   unfold Proofs.YtegpiomkmfhadaaGreat.up
   repeat' split
   all_goals rfl
 ·exact dy.refl B
theorem gM {leaf:Bool} {l:zL} {B:Bs} : ∀ i,dy B (xp leaf l B i).1
 | 0=>dy.refl B
 | i+1=>by rw [eP];exact (gM i).trans (dy.put _ _)
theorem nL:∀ (f k:Nat) (l:zL) (B:Bs),dy B (ZJ f k l B).1/\((ZJ f k l B).2≠0->(ZJ f k l B).1.T.now (ZJ f k l B).2=1)
 | 0,k,l,B=>⟨dy.refl B,fun h=>absurd rfl h⟩
 | f+1,k,l,B=>by
  unfold ZJ
  split
  ·refine ⟨gM 1,fun _=>?_⟩
   show (if B.at_=B.at_ then 1 else B.T.now B.at_)=1
   rw [if_pos rfl]
  ·obtain ⟨h1,h2⟩:=nL f (k+1) (xp (decide (k=0)) l B (zw l.length)).2 (xp (decide (k=0)) l B (zw l.length)).1
   exact ⟨(gM _).trans h1,h2⟩
theorem gN:∀ (r:zL) (B:Bs) (f:Nat->Option Nat),dy B (Zo r B f).1
 | [],B,f=>dy.refl B
 | p::r,B,f=>by
  cases h:f p.2 with
  | some b=>rw [VH.1 b h];exact (dy.up B _).trans (gN r _ f)
  | none=>rw [VH.2 h];exact (dy.put B _).trans (gN r _ _)
theorem mj {G:Nat} (hN:16<=N/\N<=4096) (g:qy N G B) (k:dy (Bs.fmt N) B) (hx:x<N) (hl:B.live x=true):(B.fr x).isSome=true:=by
 obtain ⟨h1,h2⟩:=Vv.1 hl;refine (g.ok.fr x (by rw [g.n];exact hx)).2 ⟨?_,h1⟩;rw [k.1];have hf:=(Vw hN).2.1 x
 have h0:(Bs.fmt N).T.now x=0:=by
  cases hz:decide ((Bs.fmt N).T.now x=0) with
  | true=>exact of_decide_eq_true hz
  | false =>
   have:=Vv.2 ⟨of_decide_eq_false hz,fun hp=>h2 ?_⟩
   ·rw [hf] at this;cases this
   ·obtain ⟨a,i,ha,hi,e⟩:=hp
    exact ⟨a,i,ha,by rw [k.2.2];exact hi,by rw [k.2.1];exact e⟩
 exact h0
theorem pR (hN:16<=N/\N<=4096) {Dq:zL} {ht:Ht} {p:zF} (g:Gr N 1 B ht p) (hx:ht x=some c) (e:(B,x)=ZJ 8 0 (xh N Dq).2 (xh N Dq).1):B.isI (x:Int)=true:=by
 obtain ⟨NH,hl,d,hd,-⟩:=g.node x c hx;have:=g.two hl NH;obtain ⟨k1,k2⟩:=nL 8 0 (xh N Dq).2 (xh N Dq).1;rw [<- e] at k1 k2;exact g.isI_of NH (mj hN g.good ((gN _ _ _).trans k1) NH hl) (k2 (show x≠0 by omega)) hd
theorem XG.first (h:XG A w (.slice a n c) l) (hk:k<=n):XG A w (.slice a k c) (l.take k):=by
 obtain ⟨⟨a',c',e,h1,h2,h3⟩,hu⟩:=h;injection e with e1 e2 e3;subst e1;subst e3;have hl:(l.take k).length=k:=by rw [yV];omega
 refine ⟨⟨a,c,by rw [hl],zo,h2,fun h0=>?_⟩,fun p hp=>hu p (List.mem_of_mem_take hp)⟩;obtain ⟨b,o,rfl,hb,hA,hc⟩:=h3 zo;refine ⟨b,o,rfl,hb,hA,fun i hi=>?_⟩;rw [hl] at hi;have e:(l.take k).getD i (0,0)=l.getD i (0,0):=by rw [zgD,zgD,List.getElem?_take_of_lt hi]
 rw [e];exact hc i zo
structure wm (w:World) (N m:Nat) (M:Bm) (x:Nat) (B:Bs) (vi:Value) (items:zL) (w':World):Prop where
 base:zx w' M [] B
 nil:x=0->items=[]/\Gr N 1 B jI (fun _=>0)
 rts:x≠0->∃ ht,Bh N 1 B [x] items ht
 its:xU M.L w' vi items
 asc:Jw items
 u:Y4 items
 len:items.length<=m
 val:∀ p,p∈items->2<=p.2/\p.2<N
 room:(Bs.fmt N).room - 2*m<=B.room
 chg:zv [] w w'
 far:∀ q,q∈M.L->w.heap.size<=q
 lt:x<N
 own:x≠0->B.isI (x:Int)=true
 kk:KK (Bs.fmt N) B
def wt (w:World) (N m:Nat) (e:Ending) (w':World):Prop:=∃ (M:Bm) (x:Nat) (B:Bs) (vi:Value) (items:zL),e = .returned (.tuple #[zP M.b,.int .i64 (x:Int),vi,.bool true])/\wm w N m M x B vi items w'
def ug (w:World) (N m:Nat) (l:zL) (e:Ending) (w':World):Prop:=∃ (M:Bm) (x:Nat) (B:Bs) (vi:Value) (items:zL),e = .returned (.tuple #[zP M.b,.int .i64 (x:Int),vi,.bool true])/\wm w N m M x B vi items w'/\items.map Prod.fst=(Yg (qT l)).map Prod.fst
theorem kf (hN:16<=N/\N<=4096) (DN:XG [] w (.slice a n c) l) (hm:m<=200) (hr:2*(m:Int)+2<=(Bs.fmt N).room) (hk:k<=n) (Mr:k<=m) :
  zC 9 #[.int .i64 (N:Int),.slice a k c] w (ug w N m (l.take k)):=by
 have hf:=DN.first hk;have hl:(l.take k).length<=m:=by rw [yV];omega
 refine (uf hN hf zo zo).mono ?_;rintro e w' ⟨M,x,B,vi,rfl,hb,hg,hi,hc,hM,FE⟩;have MJ:(qT (l.take k)).length<=m:=by unfold qT;rw [yX];exact hl
 have BY:x<N:=by
  by_cases e:(xh N (qT (l.take k))).2=[]
  ·rw [(hg.nil e).1];omega
  ·obtain ⟨ht,c,b⟩:=hg.cons e
   exact (b.gr.lt b.top).1
 refine ⟨M,x,B,vi,_,rfl,?_,hg.keys⟩;refine ⟨hb,fun h0=>?_,fun h0=>?_,hi,hg.asc,hg.u,qh hg.len MJ,hg.val,by have:=hg.room;omega,hc,hM,BY,fun h0=>?_,hg.kk⟩
 ·by_cases e:(xh N (qT (l.take k))).2=[]
  ·exact ⟨e,(hg.nil e).2⟩
  ·obtain ⟨ht,c,b⟩:=hg.cons e
   have:=b.gr.two (b.gr.lt b.top).2 (b.gr.lt b.top).1;omega
 ·by_cases e:(xh N (qT (l.take k))).2=[]
  ·exact absurd (hg.nil e).1 h0
  ·obtain ⟨ht,c,b⟩:=hg.cons e
   exact ⟨ht,Bh.built hN.2 b⟩
 ·by_cases e:(xh N (qT (l.take k))).2=[]
  ·exact absurd (hg.nil e).1 h0
  ·obtain ⟨ht,c,b⟩:=hg.cons e
   exact pR hN b.gr b.top (FE e)
theorem wu (hN:16<=N/\N<=4096) (DN:XG [] w (.slice a n c) l) (hm:m<=200) (hr:2*(m:Int)+2<=(Bs.fmt N).room) (hk:k<=n) (Mr:k<=m) :
  zC 9 #[.int .i64 (N:Int),.slice a k c] w (wt w N m) :=
 (kf hN DN hm hr hk Mr).mono fun e w' ⟨M,x,B,vi,items,e1,G,_⟩=>⟨M,x,B,vi,items,e1,G⟩
end Go.Proofs.YtegpiomkmfhadaaGreat
