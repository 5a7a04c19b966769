/- Package own: Let, drop. · Package own: Drop; Own as layers 14 and on use it. · Layer 14's path: the walk. · Layer 14's Counted in plain words: which nodes were met, and what was counted. · Layer 14's Tree: a tree of nodes as it lies in memory. -/
import Derived.Test.YtkhcaclndepgbaaGreatZn42
set_option linter.unusedVariables false
set_option linter.unusedSimpArgs false
set_option maxRecDepth 100000
set_option maxHeartbeats 20000000
namespace Go.Proofs.YtkhcaclndepgbaaGreat
open Go.RowKit
def letV (bx:Nat):Value := .func (.func 126) #[] #[.pointer (some ⟨bx,0,none⟩)]
def LetIn (w:World) (M:Bm) (bx:Nat):Prop:=w.heap[bx]?=some (.cells #[.pointer (some ⟨M.b,0,none⟩)] 24 (0,0))/\bx∉M.L
theorem LetIn.chg {w w':World} {M:Bm} {bx:Nat} {L:List Nat} (h:LetIn w M bx) (c:Chg L w w') (hL:∀ q,q∈L->q∈M.L):LetIn w' M bx:=⟨(c.block bx (zhl h.1) (fun hm=>h.2 (hL _ hm))).trans h.1,h.2⟩
theorem owLet_at (w:World) (M:Bm) (hM:∀ q,q∈M.L->q<w.heap.size):Calls Tryz.prog 69 #[.pointer (some ⟨M.b,0,none⟩)] w fun e w'=>∃ bx,e = .returned (letV bx)/\LetIn w' M bx/\Chg [] w w':=by
 have hb:=znb w (.cells #[.pointer (some ⟨M.b,0,none⟩)] 24);have hc:Chg [] w (w.alloc (.cells #[.pointer (some ⟨M.b,0,none⟩)] 24)):=(Chg.refl [] w).alloc _;have hn:w.heap.size∉M.L:=fun hm=>by have:=hM _ hm;omega
 have H:=zh (zA (zA hb hn:LetIn _ M w.heap.size) hc);clear hb hc hn;go_enter Tryz.func69,Tryz.ntmps69;go_wp2_with fail;go_ret;exact ⟨w.heap.size,rfl,H.out⟩
theorem owLet1_at {w:World} {M:Bm} {F:List Nat} {B:Bs} {bx v:Nat} (h:BaseAt w M F B) (hF:∀ q,q∈F->q<w.heap.size) (hb:LetIn w M bx) (hv:v<4096) :
  Calls Tryz.prog 126 #[.int .u64 (v:Int),.pointer (some ⟨bx,0,none⟩)] w fun e w'=>e = .returned (.int .i64 (B.downE (v:Int)))/\BaseAt w' M F (B.down (v:Int))/\Chg M.L w w':=by
 have cb:=owBlock_at v hv w;have cd:=zh (bDown_at h hF (v:Int));have x0:w.cell? ⟨bx,0,none⟩=some (.pointer (some ⟨M.b,0,none⟩)):=(zcb hb.1 0).trans rfl;clear h hF hb;go_enter Tryz.func126,Tryz.ntmps126;go_wp2_with fail;refine (cb).mono ?_;rintro e w' ⟨rfl,rfl⟩;go_wp2_with fail;refine cd.out.mono ?_;rintro e w' ⟨rfl,hq⟩;have HQ:=zh hq;clear hq cd;go_wp2_with fail;go_ret;exact ⟨rfl,HQ.out⟩
structure DropIn (w:World) (M:Bm) (F:List Nat) (B:Bs) (N G:Nat) (ht:Ht) (pend:Nat->Nat) (x k l bx:Nat):Prop where
 base:BaseAt w M F B
 far:∀ q,q∈F->q<w.heap.size
 gr:Gr N G B ht pend
 hM:N<=4096
 top:ht x=some k
 pos:1<=pend x
 lev:k+l<8
 box:LetIn w M bx
def KidsOk (k:Nat) (d:Nd) (i:Nat) (ht:Ht):Prop:=(k≠0->∀ j,i<=j->j<d.n->ht (d.v j)=some (k - 1))/\(k=0->∀ j,i<=j->j<d.n->d.v j≠0->ht (d.v j)=none)
def Bs.dwns (B:Bs) (v:Nat->Nat):Nat->Bs
 | 0=>B
 | i+1=>if v i=0 then B.dwns v i else (B.dwns v i).down (v i:Int)
def DropEnd (w:World) (M:Bm) (F:List Nat) (B:Bs) (N G:Nat) (ht:Ht) (pend:Nat->Nat) (x k:Nat) (w':World):Prop:=∃ B' ht',BaseAt w' M F B'/\Less N G B ht pend x B' ht'/\Chg M.L w w'/\(k=0->B.T.now x=1->∀ d,B.nodeI (x:Int)=some d->B'=(B.down (x:Int)).dwns d.v d.n)
def DropAt (k:Nat):Prop:=∀ {w:World} {M:Bm} {F:List Nat} {B:Bs} {N G:Nat} {ht:Ht} {pend:Nat->Nat} {x l bx:Nat},DropIn w M F B N G ht pend x k l bx ->
 Calls Tryz.prog 125 #[.agg #[.pointer (some ⟨M.b,0,none⟩),letV bx],.int .i64 (x:Int),.int .i64 (l:Int)] w fun e w'=>e = .returned (.int .i64 0)/\DropEnd w M F B N G ht pend x k w'
theorem drop_step {k:Nat} (ih:∀ k',k=k'+1->DropAt k'):DropAt k:=by
 intro w M F B N G ht pend x l bx H;have H0:=zh H;have IH:=zh ih;have HML:=zh (fun q hq=>H.base.ltL hq:∀ q,q∈M.L->q<w.heap.size);obtain ⟨hxN,hxl,d,hd,nd⟩:=H.gr.node x k H.top;have hk8:=H.lev;unfold letV;obtain ⟨fv,hfv⟩:∃ fv:Value,fv = .func (.func 126) #[] #[.pointer (some ⟨bx,0,none⟩)]:=⟨_,rfl⟩;rw [<- hfv];have HFV:=zh hfv;clear hfv;have c0:=(Chg.refl [] w).alloc (.cells #[.pointer (some ⟨M.b,0,none⟩),fv] 206);have k0:=znb w (.cells #[.pointer (some ⟨M.b,0,none⟩),fv] 206);have cn:=zh ((H.base.chg c0 (by simp)).cNode (x:Int));have x0:(w.alloc (.cells #[.pointer (some ⟨M.b,0,none⟩),fv] 206)).cell? ⟨w.heap.size,0,none⟩=some (.pointer (some ⟨M.b,0,none⟩)):=(zcb k0 0).trans rfl;have hs:=zhl k0;have C0:=zh (zA c0 k0);have HD:=zh (zA hd (zA nd (zA hxN hxl)));clear H ih c0 k0 hd nd hxN hxl;go_enter Tryz.func125,Tryz.ntmps125;go_wp2_with (refine wpList_boxAgg rfl 206 (.tmp 0) rfl (cells:=#[.pointer (some ⟨M.b,0,none⟩),fv]) rfl ?_);generalize w.alloc (.cells #[.pointer (some ⟨M.b,0,none⟩),fv] 206)=W0 at *;obtain ⟨db,hdb⟩:∃ db,db=w.heap.size:=⟨_,rfl⟩;rw [<- hdb] at C0 x0 hs ⊢;have HDB:=zh hdb;clear hdb x0 hs;refine cn.out.mono ?_;clear cn;rintro e w1 (⟨d',kb,vb,hd',rfl,k1,k2,k3,r1,r2,hc1⟩ | ⟨hd',rfl,hc1⟩)
 case inr=>exact absurd (HD.out.1.symm.trans hd') (by simp)
 obtain rfl:d'=d:=Option.some.inj (hd'.symm.trans HD.out.1);have hd1:=(H0.out.gr.good.ok.node_ok hd').1;have hnb:=znb w1 (.cells #[.bool d'.leaf,.slice (some ⟨kb,0,none⟩) d'.n d'.n,.slice (some ⟨vb,0,none⟩) d'.n d'.n] 107);have hcb:=(Chg.refl [] w1).alloc (.cells #[.bool d'.leaf,.slice (some ⟨kb,0,none⟩) d'.n d'.n,.slice (some ⟨vb,0,none⟩) d'.n d'.n] 107);have hnd:=NodeEnd.box hd1 k1 k2 r1 r2 hc1 hnb (hcb.mono (by simp));have HND:=zh hnd;have HC:=zh (hc1.trans hcb);clear hnd hnb hcb hc1 r1 r2 hd' k1 k2 k3;go_upto_region 2 with fail;generalize w1.alloc (.cells #[.bool d'.leaf,.slice (some ⟨kb,0,none⟩) d'.n d'.n,.slice (some ⟨vb,0,none⟩) d'.n d'.n] 107)=W at *;obtain ⟨xb,hxb⟩:∃ xb,xb=w1.heap.size:=⟨_,rfl⟩;rw [<- hxb] at HND ⊢;clear hxb;obtain ⟨lf,hlf⟩:∃ lf,lf=d'.leaf:=⟨_,rfl⟩;rw [<- hlf];have HLF:=zh hlf;clear hlf;have cW:=C0.out.1.trans HC.out;have hl8:((l:Int)==8)=false:=by rw [beq_eq_false_iff_ne];omega
 have hDB:=(HC.out.block db (zhl C0.out.2) (by simp)).trans C0.out.2;have x0:W.cell? ⟨db,0,none⟩=some (.pointer (some ⟨M.b,0,none⟩)):=(zcb hDB 0).trans rfl;have cd:=bDown_at (H0.out.base.chg cW (by simp)) (fun q hq=>zLl (H0.out.far q hq) cW.size) (x:Int);have hnM:∀ q,w.heap.size<=q->q∉M.L:=fun q hq hm=>by have:=HML.out q hm;omega
 have HNM:=zh hnM
 have hbp:∀ (w':World) (B':Bs),BaseAt w' M F B'->B'.T.n=B.T.n->Calls Tryz.prog 22 #[.pointer (some ⟨M.b,0,none⟩),.int .i64 (x:Int)] w' fun e w''=>e = .returned (.int .i64 (B'.T.now x:Int))/\w'=w'':=fun w' B' hb hn=>by
  have cc:=hb.cCount (x:Int);rw [show getV B'.T (x:Int)=(B'.T.now x:Int) by unfold getV;rw [(hasB_iff B'.T (x:Int)).2 (by have:=H0.out.gr.good.n;have:=HD.out.2.2.1;omega),if_pos rfl,Int.toNat_natCast]] at cc;exact cc
 have HBP:=zh hbp;have HDB2:=zh hDB;have HCW:=zh cW;by_cases h2:2<=B.T.now x
 ·obtain ⟨e1,l1⟩:=H0.out.gr.less2 HD.out.2.2.1 (H0.out.gr.two HD.out.2.2.2 HD.out.2.2.1) H0.out.pos h2
  have hnow:2<=(B.down (x:Int)).T.now x+1/\(B.down (x:Int)).T.n=B.T.n:=by
   obtain ⟨w1,w2,w3,w4,w5,w6,w7⟩:=H0.out.gr.down2 HD.out.2.2.1 (H0.out.gr.two HD.out.2.2.2 HD.out.2.2.1) H0.out.pos h2;rw [w5 x,if_pos rfl,w2.good.n,H0.out.gr.good.n];exact ⟨by omega,rfl⟩
  rw [e1] at cd;have CD:=zh cd;have HL:=zh (zA l1 hnow);clear cd e1 l1 hnow hDB hnM hbp cW hd1;go_wp2_with fail;refine CD.out.mono ?_;clear CD;rintro e w2 ⟨rfl,hb2,hc2⟩;have cc:=HBP.out _ _ hb2 HL.out.2.2;have hDB2:=(hc2.block db (zhl HDB2.out) (HNM.out db (by rw [HDB.out];exact zLr _))).trans HDB2.out;have x0':w2.cell? ⟨db,0,none⟩=some (.pointer (some ⟨M.b,0,none⟩)):=(zcb hDB2 0).trans rfl;obtain ⟨c,hc⟩:∃ c,c=(B.down (x:Int)).T.now x:=⟨_,rfl⟩;have hc0:(0:Int)<(c:Int):=by have:=HL.out.2.1;omega
  rw [<- hc] at cc;have HE:=zh (zA hb2 ((HCW.out.mono (by simp):Chg M.L w W).trans hc2));clear x0 hb2 hc2 hDB2 hc;go_wp2_with fail;refine (cc).mono ?_;rintro e w' ⟨rfl,rfl⟩;go_wp2_with fail;go_ret;exact ⟨rfl,_,_,HE.out.1,HL.out.1,HE.out.2,fun _ q=>by omega⟩
 ·have h1:B.T.now x=1:=by have:=(H0.out.gr.good.may HD.out.2.2.1 HD.out.2.2.2).2.2.1;omega
  obtain ⟨e1,l1,l2,l3⟩:=H0.out.gr.gone H0.out.top HD.out.1 H0.out.pos h1;rw [e1] at cd;have CD:=zh cd;have hn2:(B.down (x:Int)).T.n=B.T.n:=by rw [l1.gr.good.n,H0.out.gr.good.n]
  have HL:=zh (zA l1 (zA l2 (zA l3 hn2)));clear cd e1 l1 l2 l3 hn2 hDB hnM hbp cW hd1;go_wp2_with fail;refine CD.out.mono ?_;clear CD;rintro e w2 ⟨rfl,hb2,hc2⟩;have cc:=HBP.out _ _ hb2 HL.out.2.2.2;rw [HL.out.2.1] at cc;have hDB2:=(hc2.block db (zhl HDB2.out) (HNM.out db (by rw [HDB.out];exact zLr _))).trans HDB2.out;have x0':w2.cell? ⟨db,0,none⟩=some (.pointer (some ⟨M.b,0,none⟩)):=(zcb hDB2 0).trans rfl;have HND2:=zh (HND.out.chg hc2 (fun q hq => .inl (zLl (HML.out q hq) C0.out.1.size)));obtain ⟨z0,z1,z2⟩:=HND2.out.c;have HE:=zh (zA hb2 (zA ((HCW.out.mono (by simp):Chg M.L w W).trans hc2) hDB2));clear x0 hb2 hc2 hDB2 HND;have HMS:=zh (fun q hq => .inl (zLl (HML.out q hq) C0.out.1.size):∀ q,q∈M.L->q<W0.heap.size∨w2.heap.size<=q);have hlk:lf=decide (k=0):=by rw [HLF.out,HD.out.2.1.leaf,Nat.mod_eq_of_lt (by omega)]
  have HLK:=zh hlk;rw [<- HLF.out] at z0;clear hlk;go_wp2_with fail;refine (cc).mono ?_;rintro e w' ⟨rfl,rfl⟩;go_upto_region 10 with fail;clear z0 z1 z2 x0';have n7:=HND2.out.ok.n;go_loopg [8,45] d'.n (fun gg s8 s45 wr=>∃ i:Nat,gg=d'.n - i/\i<=d'.n/\s8 = .int .i64 0/\s45 = .int .i64 (i:Int)/\Hid (∃ B1 ht1,BaseAt wr M F B1/\Gone N G B ht pend x d' i B1 ht1/\KidsOk k d' i ht1/\Chg M.L w2 wr/\(k=0->B1=(B.down (x:Int)).dwns d'.v i)))
  case atStart=>exact ⟨0,rfl,Nat.zero_le _,rfl,rfl,zh ⟨_,_,HE.out.1,HL.out.1,⟨fun hk j _ hj=>HL.out.2.2.1.kid (by omega) j hj,fun hk j _ hj hv=>HL.out.2.2.1.flat hk j hj hv⟩,Chg.refl _ _,fun _=>rfl⟩⟩
  case round =>
   obtain ⟨i,hgi,hi,rfl,rfl,HR⟩:=hrel;have HGI:=zh hgi;clear hgi;by_cases hin:i<d'.n
   ·have i1:(i:Int)<(d'.n:Int):=by omega
    obtain ⟨B1,ht1,hb1,hg1,hk1,hcr,hdw⟩:=HR.out;have HDW:=zh hdw;clear hdw;have HNDr:=zh (HND2.out.chg hcr HMS.out);obtain ⟨z0,z1,z2⟩:=HNDr.out.c;rw [<- HLF.out] at z0;have hvc:=HNDr.out.v.cell hin;have hDr:=(hcr.block db (zhl HE.out.2.2) (HNM.out db (by rw [HDB.out];exact zLr _))).trans HE.out.2.2;have x0:wr.cell? ⟨db,0,none⟩=some (.pointer (some ⟨M.b,0,none⟩)):=(zcb hDr 0).trans rfl;have x1:wr.cell? ⟨db,1,none⟩=some fv:=(zcb hDr 1).trans rfl;have hltF:∀ q,q∈F->q<wr.heap.size:=fun q hq=>zLl (H0.out.far q hq) (zLt HE.out.2.1.size hcr.size);have hbox:LetIn wr M bx:=(H0.out.box.chg HE.out.2.1 (fun q hq=>hq)).chg hcr (fun q hq=>hq)
    have hvl:d'.v i<4096:=by
     have hM:=H0.out.hM;by_cases e:d'.v i=0
     ·omega
     ·have:=H0.out.gr.val_live H0.out.top HD.out.1 hin e;omega
    have cbk:=owBlock_at (d'.v i) hvl wr;have HH:=zh (zA hb1 (zA hg1 (zA hk1 (zA hcr (zA hltF (zA hbox hvl))))));obtain ⟨u,hu⟩:∃ u,u=d'.v i:=⟨_,rfl⟩;rw [<- hu] at hvc cbk;have HU:=zh hu;clear hb1 hg1 hk1 hcr hltF hbox hvl hDr hu;by_cases hk0:k=0
    ·obtain rfl:lf=true:=HLK.out.trans (decide_eq_true hk0)
     by_cases hu0:u=0
     ·subst hu0
      have hcb:Calls Tryz.prog 127 #[.int .u64 0] wr fun e w'=>e = .returned (.tuple #[.int .i64 0,.bool false])/\wr=w':=cbk;clear cbk;go_wp2_with fail;refine hcb.mono ?_;clear hcb;rintro e w' ⟨rfl,rfl⟩;go_wp2_with fail;go_roundg (d'.n - (i+1))
      case measure=>have:=HGI.out;omega
      case rel=>exact ⟨i+1,rfl,hin,rfl,by go_num,zh ⟨B1,ht1,HH.out.1,HH.out.2.1.skip hin HU.out.symm,⟨fun q=>absurd hk0 q,fun q j hj=>HH.out.2.2.1.2 q j (by omega)⟩,HH.out.2.2.2.1,fun q=>(HDW.out q).trans (by show _=if d'.v i=0 then _ else _;rw [if_pos HU.out.symm])⟩⟩
     ·rw [decide_eq_true hu0] at cbk
      have hfv:=HFV.out;subst hfv;obtain ⟨u2,uN,ul⟩:=H0.out.gr.val_live H0.out.top HD.out.1 hin (by rw [<- HU.out];exact hu0);obtain ⟨e1,l1⟩:=HH.out.2.1.gr.less uN u2 (rem_get hin (zLr _)) (HH.out.2.2.1.2 hk0 i (zLr _) hin (by rw [<- HU.out];exact hu0));have cl:=owLet1_at HH.out.1 HH.out.2.2.2.2.1 HH.out.2.2.2.2.2.1 HH.out.2.2.2.2.2.2;rw [e1,<- HU.out] at cl;have CL:=zh cl;have HL1:=zh l1;clear cl e1 l1 u2 uN ul;go_wp2_with fail;refine cbk.mono ?_;clear cbk;rintro e w' ⟨rfl,rfl⟩;go_wp2_with fail;refine CL.out.mono ?_;clear CL;rintro e w3 ⟨rfl,hb3,hc3⟩;have H3:=zh (zA hb3 (HH.out.2.2.2.1.trans hc3));clear hb3 hc3;go_wp2_with fail;go_roundg (d'.n - (i+1))
      case measure=>have:=HGI.out;omega
      case rel=>exact ⟨i+1,rfl,hin,rfl,by go_num,zh ⟨_,ht1,H3.out.1,HH.out.2.1.step hin (by rw [<- HU.out];rw [<- HU.out] at HL1;exact HL1.out),⟨fun q=>absurd hk0 q,fun q j hj=>HH.out.2.2.1.2 q j (by omega)⟩,H3.out.2,fun q=>by show _=if d'.v i=0 then _ else _;rw [if_neg (by rw [<- HU.out];exact hu0),<- HDW.out q,HU.out]⟩⟩
    ·obtain rfl:lf=false:=HLK.out.trans (decide_eq_false hk0)
     have htk:=HH.out.2.2.1.1 hk0 i (zLr _) hin
     have hu0:u≠0:=fun q=>by
      have:=HH.out.2.1.gr.two (HH.out.2.1.gr.lt htk).2 (HH.out.2.1.gr.lt htk).1;rw [<- HU.out] at this;omega
     rw [decide_eq_true hu0] at cbk;have ci:=IH.out (k - 1) (by omega) (l:=l+1) ⟨HH.out.1,HH.out.2.2.2.2.1,HH.out.2.1.gr,H0.out.hM,htk,rem_get hin (zLr _),by omega,HH.out.2.2.2.2.2.1⟩;rw [<- HU.out] at ci;unfold letV at ci;rw [<- HFV.out,show ((l+1:Nat):Int)=(l:Int)+1 by omega] at ci;have hw:IntKind.i64.wrap ((l:Int)+1)=(l:Int)+1:=IntWalk.i64_in _ (by omega);have CI:=zh ci;clear ci htk;go_wp2_with fail;refine cbk.mono ?_;clear cbk;rintro e w' ⟨rfl,rfl⟩;go_wp2_with fail;refine CI.out.mono ?_;clear CI;rintro e w3 ⟨rfl,B2,ht2,hb3,hl3,hc3,-⟩;have H3:=zh (zA hb3 (zA hl3 (HH.out.2.2.2.1.trans hc3)));clear hb3 hl3 hc3;go_wp2_with fail;go_roundg (d'.n - (i+1))
     case measure=>have:=HGI.out;omega
     case rel =>
      refine ⟨i+1,rfl,hin,rfl,by go_num,zh ⟨B2,ht2,H3.out.1,HH.out.2.1.step hin (by rw [<- HU.out];exact H3.out.2.1),⟨fun q j hj hjn=>?_,fun q=>absurd q hk0⟩,H3.out.2.2,fun q=>absurd q hk0⟩⟩;refine (H3.out.2.1.kp.tree (d'.v j) (k - 1) (HH.out.2.2.1.1 hk0 j (by omega) hjn) ?_).1;rw [HU.out,rem_les hin];exact rem_get hjn hj
   ·obtain rfl:i=d'.n:=by omega
    have i1:¬ (d'.n:Int)<(d'.n:Int):=by omega
    obtain ⟨B1,ht1,hb1,hg1,hk1,hcr,hdw⟩:=HR.out
    have HF:=zh (zA hb1 (zA hg1.last (zA (HE.out.2.1.trans hcr) (fun q _ d2 hd2=>by
     rw [<- Option.some.inj (HD.out.1.symm.trans hd2)];exact hdw q:k=0->B.T.now x=1->∀ d2:Nd,B.nodeI (x:Int)=some d2->B1=(B.down (x:Int)).dwns d2.v d2.n))))
    clear hb1 hg1 hk1 hcr hdw;go_wp2_with fail;go_ret;exact ⟨rfl,B1,ht1,HF.out⟩
theorem drop_at:∀ k,DropAt k
 | 0=>drop_step fun k' h=>by cases h
 | k+1=>drop_step fun k' h=>by
  obtain rfl:k'=k:=by omega
  exact drop_at k'
theorem owDrop_at {w:World} {M:Bm} {F:List Nat} {B:Bs} {N G:Nat} {ht:Ht} {pend:Nat->Nat} {x k bx:Nat} (H:DropIn w M F B N G ht pend x k 0 bx) :
  Calls Tryz.prog 68 #[.pointer (some ⟨M.b,0,none⟩),.int .i64 (x:Int),letV bx] w fun e w'=>e = .returned (.int .i64 0)/\DropEnd w M F B N G ht pend x k w':=by
 have cb:=H.base.cBlocks;have hz:=H.base.nz.1
 have hx0:((x:Int)==0)=false:=by
  rw [beq_eq_false_iff_ne];have:=H.gr.two (H.gr.lt H.top).2 (H.gr.lt H.top).1;omega
 have cd:=drop_at k H;unfold letV at cd ⊢;have CD:=zh cd;have hnf:(binOp BinOp.eql 119 (.func (.func 126) #[] #[.pointer (some ⟨bx,0,none⟩)]) Value.nilFunc).run Tryz.prog w = .ok (.bool false) w:=by kernel_rfl
 clear H cd;go_enter Tryz.func68,Tryz.ntmps68;go_wp2_with fail;refine (cb).mono ?_;rintro e w' ⟨rfl,rfl⟩;go_wp2_with fail;refine CD.out.mono ?_;rintro e w' ⟨rfl,hq⟩;have HQ:=zh hq;clear hq CD;go_wp2_with fail;go_ret;exact ⟨rfl,HQ.out⟩
def OwnEnd (w:World) (M:Bm) (F:List Nat) (B:Bs) (N G:Nat) (ht:Ht) (pend:Nat->Nat) (x c y:Nat) (w':World):Prop:=∃ d B' ht',B.nodeI (x:Int)=some d/\BaseAt w' M F B'/\Owned N G B ht pend x c d y B' ht'/\Chg M.L w w'
theorem own14_at {w:World} {M:Bm} {F:List Nat} {B:Bs} {N G:Nat} {ht:Ht} {pend:Nat->Nat} {x c:Nat} (h:BaseAt w M F B) (hF:∀ q,q∈F->q<w.heap.size) (g:Gr N G B ht pend) (hM:N<=4096) (hm:∀ b,pend b<=30000) (hx:ht x=some c) (hp:1<=pend x) (hr:0<B.room) :
  Calls Tryz.prog 65 #[.pointer (some ⟨M.b,0,none⟩),.int .i64 (x:Int)] w fun e w'=>∃ y:Nat,e = .returned (.tuple #[.int .i64 (y:Int),.int .i64 0])/\OwnEnd w M F B N G ht pend x c y w':=by
 obtain ⟨d,hd,hok,ht',o⟩:=g.own hM hm hx hp hr;refine (owOwn_at h hF (by rw [g.good.n];exact (g.lt hx).1) hd hok).mono ?_;rintro e w' ⟨rfl,hb,hc⟩;exact ⟨_,rfl,d,_,ht',hd,hb,o,hc⟩
def PathEnd (w:World) (M:Bm) (F:List Nat) (B:Bs) (N G:Nat) (ht:Ht) (pend:Nat->Nat) (x c y:Nat) (w':World):Prop:=∃ B' ht',BaseAt w' M F B'/\Pathd N G B ht pend x c y B' ht'/\Chg M.L w w'
def PathAt (c:Nat):Prop:=∀ {w:World} {M:Bm} {F:List Nat} {B:Bs} {N G:Nat} {ht:Ht} {pend:Nat->Nat} {x l kid:Nat},BaseAt w M F B->(∀ q,q∈F->q<w.heap.size)->Gr N G B ht pend->N<=4096->(∀ b,pend b<=20000+100*l)->ht x=some c->c+l<8->1<=pend x->(c:Int)<B.room->kid<=255 ->
 Calls Tryz.prog 73 #[.pointer (some ⟨M.b,0,none⟩),.int .i64 (x:Int),.int .u8 (kid:Int),.int .i64 (l:Int)] w fun e w'=>∃ y:Nat,e = .returned (.tuple #[.int .i64 (y:Int),.int .i64 0])/\PathEnd w M F B N G ht pend x c y w'
theorem path_step {c:Nat} (ih:∀ c',c=c'+1->PathAt c'):PathAt c:=by
 intro w M F B N G ht pend x l kid hb hF g hM hm hx hcl hp hr hkid;have co:=own14_at hb hF g hM (fun b=>by have:=hm b;omega) hx hp (by omega);have H:=zh (zA hb (zA hF (zA g (zA hM (zA hm (zA hx (zA hcl (zA hp hr))))))));have IH:=zh ih;have hl8:((l:Int)==8)=false:=by rw [beq_eq_false_iff_ne];omega
 have HML:=zh (fun q hq=>hb.ltL hq:∀ q,q∈M.L->q<w.heap.size);clear hb hF g hm hx hp hr ih;go_enter Tryz.func73,Tryz.ntmps73;go_wp2_with fail;refine co.mono ?_;clear co;rintro e w1 ⟨y,rfl,d,B1,ht1,hd,hb1,ho,hc1⟩;have cn:=zh (hb1.cNode (y:Int));have H1:=zh (zA hd (zA hb1 (zA ho hc1)));clear hd hb1 ho hc1;go_wp2_with fail;refine cn.out.mono ?_;clear cn;rintro e w2 (⟨d',kb,vb,hd',rfl,q1,q2,q3,r1,r2,hc2⟩ | ⟨hd',rfl,hc2⟩)
 case inr=>exact absurd (H1.out.2.2.1.node.symm.trans hd') (by simp)
 obtain rfl:d'=d:=Option.some.inj (hd'.symm.trans H1.out.2.2.1.node);have hd1:=(H1.out.2.2.1.gr.good.ok.node_ok hd').1;have hnb:=znb w2 (.cells #[.bool d'.leaf,.slice (some ⟨kb,0,none⟩) d'.n d'.n,.slice (some ⟨vb,0,none⟩) d'.n d'.n] 107);have hcb:=(Chg.refl [] w2).alloc (.cells #[.bool d'.leaf,.slice (some ⟨kb,0,none⟩) d'.n d'.n,.slice (some ⟨vb,0,none⟩) d'.n d'.n] 107);have hnd:=NodeEnd.box hd1 q1 q2 r1 r2 hc2 hnb (hcb.mono (by simp));have HND:=zh hnd;have HC:=zh (hc2.trans hcb);have hkv:=q3;have hvlt:=r2.lt;clear hnd hnb hcb hc2 r1 r2 hd' q1 q2 q3;go_upto_region 5 with fail;generalize w2.alloc (.cells #[.bool d'.leaf,.slice (some ⟨kb,0,none⟩) d'.n d'.n,.slice (some ⟨vb,0,none⟩) d'.n d'.n] 107)=W2 at *;obtain ⟨xb,hxb⟩:∃ xb,xb=w2.heap.size:=⟨_,rfl⟩;rw [<- hxb] at HND ⊢;have HXV:=zh (show xb≠vb by omega);clear hxb hvlt;obtain ⟨lf,hlf⟩:∃ lf,lf=d'.leaf:=⟨_,rfl⟩;obtain ⟨z0,z1,z2⟩:=HND.out.c;rw [<- hlf] at z0;have HLF:=zh hlf;clear hlf;have hb2:=(H1.out.2.1.new HND.out.far.2.2).chg HC.out (by simp);obtain ⟨_,_,d2,hd2,nd⟩:=H1.out.2.2.1.gr.node y c H1.out.2.2.1.top;obtain rfl:d2=d':=Option.some.inj (hd2.symm.trans H1.out.2.2.1.node);have hlc:lf=decide (c % 100=0):=by rw [HLF.out,nd.leaf]
 have HND1:=zh nd
 cases c with
 | zero =>
  obtain rfl:lf=true:=hlc;clear nd;have HE:Hid (PathEnd w M F B N G ht pend x 0 y W2):=zh ⟨B1,ht1,hb2.sub (fun q hq=>zco _ hq),H1.out.2.2.1.pathd,H1.out.2.2.2.trans (HC.out.mono (by simp))⟩;clear hb2;go_wp2_with fail
  go_ret2
  exact ⟨y,rfl,HE.out⟩
 | succ c =>
  obtain rfl:lf=false:=hlc.trans (decide_eq_false (by omega));have hn1:1<=d2.n:=((kidsB_iff _ _).1 (hd1.kids HLF.out.symm)).1;have n7:=hd1.n;have n0:((d2.n:Int)==0)=false:=by rw [beq_eq_false_iff_ne];omega
  have e1:IntKind.i64.wrap (kid:Int)=(kid:Int):=IntWalk.i64_in _ (by omega);have e2:Int.tmod (kid:Int) (d2.n:Int)=((kid % d2.n:Nat):Int):=by rw [Int.tmod_eq_emod_of_nonneg (by omega)];rfl
  obtain ⟨i,hi⟩:∃ i,i=kid % d2.n:=⟨_,rfl⟩;rw [<- hi] at e2;have hin:i<d2.n:=by rw [hi];exact Nat.mod_lt _ (by omega)
  have hvc:=HND.out.v.cell hin;obtain ⟨W,ndk⟩:=H1.out.2.2.1.work;have hkid2:=ndk.kid (by omega) i hin;rw [show c+1 - 1=c by omega] at hkid2;have hvl:=W.gr.lt hkid2;have hcl:=H.out.2.2.2.2.2.2.1;have hrm:=H1.out.2.2.1.room;have hr0:=H.out.2.2.2.2.2.2.2.2
  have hF2:∀ q,q∈vb::F->q<W2.heap.size:=fun q hq=>by
   rcases List.mem_cons.1 hq with rfl | hq
   ·exact HND.out.v.lt
   ·have:=H.out.2.1 q hq;have:=H1.out.2.2.2.size;have:=HC.out.size;omega
  have cp:=IH.out c rfl (l:=l+1) (kid:=kid) hb2 hF2 W.gr hM (fun b=>by
   have h1:=H.out.2.2.2.2.1 b;have h2:=occ_le d2 b
   show mor (les pend x) y b+occ d2 b<=_
   unfold mor les
   split <;> split <;> omega) hkid2 (by omega) (by show 1<=mor _ y _+occ d2 (d2.v i);have:=occ_of hin (rfl:d2.v i=d2.v i);omega) (by omega) hkid
  obtain ⟨v,hv⟩:∃ v,v=d2.v i:=⟨_,rfl⟩;rw [<- hv] at hvc hvl cp;rw [show ((l+1:Nat):Int)=(l:Int)+1 by omega] at cp;have HV:=zh hv;have CP:=zh cp;have e3:IntKind.i64.wrap (v:Int)=(v:Int):=IntWalk.i64_in _ (by omega);have e4:IntKind.i64.wrap ((l:Int)+1)=(l:Int)+1:=IntWalk.i64_in _ (by omega);have e5:(i:Int)<(d2.n:Int):=by omega
  have HB2:=zh (zA hb2 hF2);clear hb2 hF2 cp hv hkid2 W ndk nd hlc hi hcl hrm hr0;go_wp2_with fail;refine CP.out.mono ?_;clear CP;rintro e w3 ⟨z,rfl,B3,ht3,hb3,hp3,hc3⟩;have hnd3:=HND.out.chg hc3 (fun q hq => .inl (HML.out q hq |> fun h=>by have:=H1.out.2.2.2.size;omega));have HB3:=zh (zA hb3 (zA hp3 (zA hc3 (fun q hq=>zLl (HB2.out.2 q hq) hc3.size:∀ q,q∈vb::F->q<w3.heap.size))));have hz64:z<4096:=by have:=hp3.gr.lt hp3.top;omega
  have rt:=H1.out.2.2.1.path_kids hM (by have:=H.out.2.2.2.2.2.2.1;omega) hin (by rw [<- HV.out];exact hp3);have hisy:=(H1.out.2.2.1.path_work hin (by rw [<- HV.out];exact hp3)).1.at_.2.2.2.2.2.2;obtain ⟨y0,y1,y2⟩:=hnd3.c;rw [<- HLF.out] at y0 rt;have hvf:=hnd3.v.fz i;have hvc3:=hnd3.v.cell hin;have hvs:=hnd3.v.set (v:=z) hin (by omega);have hcs:Chg [vb] w3 (w3.setCell ⟨vb,i,none⟩ (.int .u64 (z:Int))):=(Chg.refl [vb] w3).setCell (.inl (by simp)) _;have hks:=hnd3.k.chg hcs (by simp only [zms];exact hkv);have hts:=(hcs.block xb (zhl hnd3.top) (by simp only [zms];exact HXV.out)).trans hnd3.top;have e6:IntKind.u64.wrap (z:Int)=(z:Int):=IntWalk.u64_in _ (by omega);clear z0 z1 z2 hvc hb3 hp3 hc3;go_upto_region 12 with fail;generalize w3.setCell ⟨vb,i,none⟩ (.int .u64 (z:Int))=W4 at hvs hcs hks hts ⊢;rw [<- HLF.out] at hts;have t0:=zcb hts 0;have t1:=zcb hts 1;have t2:=zcb hts 2;simp only [tA1,tA3,tA2] at t0 t1 t2;have hvM:∀ q,w1.heap.size<=q->q∉M.L:=fun q hq hm=>by have:=HML.out q hm;have:=H1.out.2.2.2.size;omega
  have hfar:=hnd3.far;have hb4:=HB3.out.1.chg hcs (fun q hq=>by rw [zms] at hq;rw [hq];exact List.mem_cons_self)
  have cs:=owSet_at hb4 (fun q hq=>zLl (HB3.out.2.2.2 q hq) hcs.size) hisy (hks.numsIn (A:=[]) (by omega) (by simp) hd1.k) (hvs.numsIn (A:=[]) (by omega) (by simp) (fun j hj=>by
   split
   ·omega
   ·exact hd1.v j hj)) rt
  have CS:=zh cs;have HC4:=zh (hcs.size);have HCT:=zh (((H1.out.2.2.2.trans (HC.out.mono (by simp))).trans HB3.out.2.2.1).then hcs (fun q hq => .inr (by rw [zms] at hq;subst hq;have:=hfar.2.2;have:=H1.out.2.2.2.size;omega)));have HRT:=zh rt;clear cs hvs hks hts hcs hb4 rt hisy hnd3 y0 y1 y2 hvf hvc3 hfar;go_wp2_with fail;refine CS.out.mono ?_;clear CS;rintro e w5 ⟨rfl,hb5,hc5⟩
  obtain ⟨d3,hd3,f1,f2,f3,f4⟩:=decN_page HRT.out (fun j hj=>hd1.k j hj) (fun j hj=>by
   split
   ·omega
   ·exact hd1.v j hj)
  have hps:=H1.out.2.2.1.path_step (by have:=H.out.2.2.2.2.2.2.1;omega) hin (by rw [<- HV.out];exact HB3.out.2.1) (fun j _=>pageF_le false (by omega) _ _ j) hd3 (f1.trans HLF.out) f2 f3 f4;have HE:Hid (PathEnd w M F B N G ht pend x (c+1) y w5):=zh ⟨_,_,hb5.sub (fun q hq=>zco _ hq),hps,HCT.out.trans hc5⟩;clear hb5 hc5 hps f1 f2 f3 f4 hd3;go_wp2_with fail
  go_ret2
  exact ⟨y,rfl,HE.out⟩
theorem path_all:∀ c,PathAt c
 | 0=>path_step fun c' h=>by cases h
 | c+1=>path_step fun c' h=>by
  obtain rfl:c'=c:=by omega
  exact path_all c'
def addS (B:Bs) (N:Nat) (D:Nat->Bool) (b:Nat):Nat:=sumTo (fun n=>if D n then occO (B.nodeI (n:Int)) b else 0) N
theorem addS_none {B:Bs} {N:Nat} (b:Nat):addS B N (fun _=>false) b=0:=sumTo_zero fun i _=>rfl
def setD (D:Nat->Bool) (x:Nat):Nat->Bool:=fun n=>if n=x then true else D n
theorem addS_set {B:Bs} {N:Nat} {D:Nat->Bool} {x:Nat} {d:Nd} (hN:x<N) (hx:D x=false) (hd:B.nodeI (x:Int)=some d) (b:Nat):addS B N (setD D x) b=addS B N D b+occ d b:=by
 have:=sumTo_upd (f:=fun n=>if D n then occO (B.nodeI (n:Int)) b else 0) (g:=fun n=>if setD D x n then occO (B.nodeI (n:Int)) b else 0) (k:=x) (n:=N) hN (fun i _ hi=>by unfold setD;rw [if_neg hi]);have h0:(if D x then occO (B.nodeI (x:Int)) b else 0)=0:=by rw [hx];rfl
 have h1:(if setD D x x then occO (B.nodeI (x:Int)) b else 0)=occ d b:=by unfold setD;rw [if_pos rfl,if_pos rfl,hd];rfl
 simp only [h0,h1] at this;unfold addS;omega
structure Marks (B:Bs) (ht:Ht) (D D':Nat->Bool):Prop where
 sub:∀ n,D n=true->D' n=true
 node:∀ n,D' n=true->D n=false->(ht n).isSome=true
 clos:∀ n,D' n=true->D n=false->∀ d,B.nodeI (n:Int)=some d->d.leaf=false->∀ i,i<d.n->D' (d.v i)=true
theorem Marks.refl (B:Bs) (ht:Ht) (D:Nat->Bool):Marks B ht D D:=⟨fun _ h=>h,fun n h1 h2=>(by rw [h1] at h2;cases h2),fun n h1 h2=>(by rw [h1] at h2;cases h2)⟩
theorem Marks.trans {B:Bs} {ht:Ht} {D D1 D2:Nat->Bool} (a:Marks B ht D D1) (b:Marks B ht D1 D2):Marks B ht D D2:=by
 refine ⟨fun n h=>b.sub n (a.sub n h),fun n h1 h2=>?_,fun n h1 h2 d hd hl i hi=>?_⟩
 ·cases e:D1 n with
  | true=>exact a.node n e h2
  | false=>exact b.node n h1 e
 ·cases e:D1 n with
  | true=>exact b.sub _ (a.clos n e h2 d hd hl i hi)
  | false=>exact b.clos n h1 e d hd hl i hi
theorem Marks.top {B:Bs} {ht:Ht} {D D':Nat->Bool} {x:Nat} {d:Nd} (hx:(ht x).isSome=true) (hd:B.nodeI (x:Int)=some d) (a:Marks B ht (setD D x) D') (hk:d.leaf=false->∀ i,i<d.n->D' (d.v i)=true):Marks B ht D D'/\D' x=true:=by
 have hs:∀ n,n≠x->setD D x n=D n:=fun n hn=>by unfold setD;rw [if_neg hn]
 have h1:setD D x x=true:=by unfold setD;rw [if_pos rfl]
 refine ⟨⟨fun n h=>a.sub n (by by_cases e:n=x <;> simp [setD,e,h]),fun n h1 h2=>?_,fun n h1 h2 d' hd' hl i hi=>?_⟩,a.sub x h1⟩
 ·by_cases e:n=x
  ·rw [e];exact hx
  ·exact a.node n h1 (by rw [hs n e];exact h2)
 ·by_cases e:n=x
  ·subst e
   obtain rfl:d=d':=Option.some.inj (hd.symm.trans hd');exact hk hl i hi
  ·exact a.clos n h1 (by rw [hs n e];exact h2) d' hd' hl i hi
section
variable {N G:Nat} {B:Bs} {ht:Ht} {pend:Nat->Nat}
theorem Gr.met (g:Gr N G B ht pend) {D:Nat->Bool} (M:Marks B ht (fun _=>false) D) (hr:∀ n,(ht n).isSome=true->1<=pend n->D n=true) (h1:∀ n c,ht n=some c->c<200)
  (hh:∀ k c,ht k=some c->100<=c->c % 100=0->∀ d,B.nodeI (k:Int)=some d->∀ i,i<d.n->d.v i≠0->D (d.v i)=true):∀ m n c,ht n=some c->200 - c=m->D n=true
 | m,n,c,hn,hm=>by
  obtain ⟨hN,hl⟩:=g.lt hn;have h2:=g.two hl hN;by_cases hp0:1<=pend n
  ·exact hr n (by rw [hn];rfl) hp0
  have hrr:=g.ref n h2 hN;have hz:=(g.good.may hN hl).2.2.1;rw [hl,if_pos rfl] at hrr;obtain ⟨k,hk,hp⟩:=sumTo_pos (f:=refsF B ht n) (n:=N) (by show 0<Refs B ht N n;omega);unfold refsF at hp
  split at hp
  ·rename_i hs
   obtain ⟨c',hc'⟩:=Option.isSome_iff_exists.1 hs;obtain ⟨_,_,d,hd,nd⟩:=g.node k c' hc';rw [hd] at hp;obtain ⟨i,hi,hv⟩:=occ_pos hp;have hlt:=h1 k c' hc';by_cases e:c' % 100=0
   ·by_cases e2:c'=0
    ·have:=nd.flat e2 i hi (by omega)
     rw [hv,hn] at this;cases this
    ·have:=hh k c' hc' (by omega) e d hd i hi (by omega)
     rw [hv] at this;exact this
   ·have hkid:=nd.kid e i hi
    rw [hv,hn] at hkid;have e2:=Option.some.inj hkid;have hk:=g.met M hr h1 hh (200 - c') k c' hc' rfl;have:=M.clos k hk rfl d hd (by rw [nd.leaf];exact decide_eq_false e) i hi;rw [hv] at this;exact this
  ·omega
termination_by m=>m
decreasing_by
 simp_wf
 omega
theorem Gr.addS_eq (g:Gr N G B ht pend) {D:Nat->Bool} (M:Marks B ht (fun _=>false) D) (hr:∀ n,(ht n).isSome=true->1<=pend n->D n=true) (h1:∀ n c,ht n=some c->c<200)
  (hh:∀ k c,ht k=some c->100<=c->c % 100=0->∀ d,B.nodeI (k:Int)=some d->∀ i,i<d.n->d.v i≠0->D (d.v i)=true) (b:Nat):addS B N D b=Refs B ht N b:=sumTo_congr fun n hn=>by
 unfold refsF
 cases e:D n with
 | true=>rw [if_pos (M.node n e rfl)];rfl
 | false =>
  have hs:(ht n).isSome=false:=by
   cases hq:ht n with
   | none=>rfl
   | some c =>
    have:=g.met M hr h1 hh _ n c hq rfl;rw [e] at this;cases this
  rw [hs]
theorem Gr.counted (g:Gr N G B ht pend) {q:Nat->Int} (h0:q 0=0) (h1:q 1=0) (hq:∀ b,2<=b->b<N->q b=((pend b+Refs B ht N b:Nat):Int)) :
  (∀ b,b<N->¬ (q b=0/\B.T.now b=1)->(B.T.now b:Int)=q b)/\cnt N (fun b=>decide (q b=0/\B.T.now b=1))=needN N:=by
 have hpn:∀ b,b<N->pgB B b=true->B.T.now b=1:=fun b hb hp=>by
  obtain ⟨k,i,hk,hi,e⟩:=pgB_iff.1 hp;rw [<- e];exact g.good.ok.own.now k i hk hi
 have hlow:∀ b,b<2->pgB B b=false:=fun b hb=>by
  cases hp:pgB B b with
  | false=>rfl
  | true =>
   obtain ⟨k,i,hk,hi,e⟩:=pgB_iff.1 hp;have:=g.good.ok.a2 k i hk hi;omega
 have key:∀ b,b<N->(q b=0/\B.T.now b=1↔pgB B b=true)/\(¬ (q b=0/\B.T.now b=1)->(B.T.now b:Int)=q b):=fun b hb=>by
  by_cases b2:2<=b
  ·have hr:=g.ref b b2 hb
   have hq':=hq b b2 hb;rw [hr] at hq'
   cases hl:B.live b with
   | true =>
    have hz:=(g.good.may hb hl);rw [hl,if_pos rfl] at hq';refine ⟨⟨fun h=>by have:=hz.2.2.1;omega,fun h=>?_⟩,fun _=>hq'.symm⟩;rw [hz.2.2.2] at h;cases h
   | false =>
    rw [hl] at hq';simp at hq'
    cases hp:pgB B b with
    | true =>
     have:=hpn b hb hp;exact ⟨⟨fun _=>rfl,fun _=>⟨hq',this⟩⟩,fun h=>absurd ⟨hq',this⟩ h⟩
    | false =>
     have hn0:B.T.now b=0:=by
      unfold Bs.live at hl;rw [hp] at hl;simpa using hl
     exact ⟨⟨fun h=>by omega,fun h=>by cases h⟩,fun _=>by rw [hn0,hq'];rfl⟩
  ·have hl:=(g.good.ok.low b (by omega)).1
   have hqb:q b=0:=by rcases (show b=0∨b=1 by omega) with rfl | rfl <;> assumption
   rw [hlow b (by omega)];exact ⟨⟨fun h=>by omega,fun h=>by cases h⟩,fun _=>by rw [hl,hqb];rfl⟩
 refine ⟨fun b hb=>(key b hb).2,?_⟩;have e1:=g.good.ok.pages_cnt;rw [g.good.n] at e1;rw [<- e1];refine cnt_congr fun b hb=>?_
 cases hp:pgB B b with
 | true=>exact decide_eq_true ((key b hb).1.2 hp)
 | false=>exact decide_eq_false fun h=>by have:=(key b hb).1.1 h;rw [hp] at this;cases this
end
def TrIn (A:List Nat) (w:World) (B:Bs):Nat->Nat->List Value->Prop
 | 0,_,_=>False
 | f+1,x,V=>∃ (d:Nd) (vk vv:Value) (a:Option Addr) (n c:Nat),V=[.int .i64 (x:Int),.bool d.leaf,vk,vv,.slice a n c]/\B.nodeI (x:Int)=some d/\d.Ok/\NumsIn A w vk d.n d.k/\NumsIn A w vv d.n d.v/\n<=c/\c<=maxLen/\n=(if d.leaf then 0 else d.n) /\
   (0<n->∃ g,a=some ⟨g,0,none⟩/\g<w.heap.size/\g∉A/\∀ i,i<n->∃ U,TrIn A w B f (d.v i) U/\∀ j,j<5->w.cell? ⟨g,i*5+j,none⟩=U[j]?)
theorem TrIn.chg {A A' L:List Nat} {w w':World} {B:Bs} (c:Chg L w w') (hL:∀ k,k∈L->k∈A∨w.heap.size<=k) (hA:∀ k,k∈A'->k∈A∨w.heap.size<=k):∀ (f x:Nat) (V:List Value),TrIn A w B f x V->TrIn A' w' B f x V
 | 0,_,_,h=>h
 | f+1,x,V,h=>by
  obtain ⟨d,vk,vv,a,n,cc,rfl,h1,h2,h3,h4,h5,h6,h7,h8⟩:=h
  have nm:∀ {v:Value} {m:Nat} {q:Nat->Nat},NumsIn A w v m q->NumsIn A' w' v m q:=fun h=>((h.more (B:=A'++A) (fun k hk=>by
   rcases List.mem_append.1 hk with hk | hk
   ·exact hA k hk
   ·exact .inl hk)).chg c (fun k hk=>by
   rcases hL k hk with q | q
   ·exact .inl (zar _ q)
   ·exact .inr q)).more (fun k hk => .inl (zal _ hk))
  refine ⟨d,vk,vv,a,n,cc,rfl,h1,h2,nm h3,nm h4,h5,h6,h7,fun hn=>?_⟩;obtain ⟨g,rfl,hg,hgA,hk⟩:=h8 hn
  have hgL:g∉L:=fun hm=>by
   rcases hL g hm with q | q
   ·exact hgA q
   ·omega
  refine ⟨g,rfl,zLl hg c.size,fun hm=>?_,fun i hi=>?_⟩
  ·rcases hA g hm with q | q
   ·exact hgA q
   ·omega
  ·obtain ⟨U,hU,hc⟩:=hk i hi
   exact ⟨U,TrIn.chg c hL hA f _ _ hU,fun j hj=>(c.cell (p:=⟨g,i*5+j,none⟩) hg hgL).trans (hc j hj)⟩
theorem set5 {w:World} {r:Nat} {x0 x1 x2 x3 x4:Value} {T:TypeId} (h:w.heap[r]?=some (.cells #[x0,x1,x2,x3,x4] T (0,0))) (a b c d e:Value) :
  (((((w.setCell ⟨r,0,none⟩ a).setCell ⟨r,1,none⟩ b).setCell ⟨r,2,none⟩ c).setCell ⟨r,3,none⟩ d).setCell ⟨r,4,none⟩ e).heap[r]?=some (.cells #[a,b,c,d,e] T (0,0)):=by
 simpa using zsb (zsb (zsb (zsb (zsb h 0 a) 1 b) 2 c) 3 d) 4 e
theorem set5_chg (w:World) (r:Nat) (a b c d e:Value):Chg [r] w (((((w.setCell ⟨r,0,none⟩ a).setCell ⟨r,1,none⟩ b).setCell ⟨r,2,none⟩ c).setCell ⟨r,3,none⟩ d).setCell ⟨r,4,none⟩ e) :=
 (((((Chg.refl [r] w).setCell (.inl (by simp)) _).setCell (.inl (by simp)) _).setCell (.inl (by simp)) _).setCell (.inl (by simp)) _).setCell (.inl (by simp)) _
theorem infoTree:(Tryz.prog.info? 201).map (·.size)=some 5:=by kernel_rfl
theorem load5 {w:World} {r:Nat} {a b c d e:Value} (h:w.heap[r]?=some (.cells #[a,b,c,d,e] 201 (0,0))):(loadVar 201 ⟨r,0,none⟩).run Tryz.prog w = .ok (.agg #[a,b,c,d,e]) w:=by
 have hr:=run_loadVar_mid (P:=Tryz.prog) w r 0 201 [a,b,c,d,e] _ (fun j v hv=>by
  rw [Nat.zero_add,zcb h,<- hv,<- Array.getElem?_toList]) Tryz.underlying201 rfl infoTree
 exact hr
end Go.Proofs.YtkhcaclndepgbaaGreat
