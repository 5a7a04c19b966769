/- Package own: up. · Package own: Own. · Layers 14 and on, in plain words: data put, references up, a node owned. · Layers 14 and on, in plain words: a node owned. -/
import Derived.Test.YtkhcaclndepgbaaGreatZn36
import Derived.Test.YtkhcaclndepgbaaGreatZn38
set_option linter.unusedVariables false
set_option linter.unusedSimpArgs false
set_option maxRecDepth 100000
set_option maxHeartbeats 20000000
namespace Go.Proofs.YtkhcaclndepgbaaGreat
open Go.RowKit
def Bs.ups (B:Bs) (v:Nat->Nat):Nat->Bs
 | 0=>B
 | i+1=>if v i=0 then B.ups v i else (B.ups v i).up (v i:Int)
theorem owUp_at {w:World} {M:Bm} {F:List Nat} {B:Bs} (h:BaseAt w M F B) (hF:∀ q,q∈F->q<w.heap.size) {leaf:Bool} {vk vv:Value} {nk n:Nat} {keys vals:Nat->Nat} (hk:NumsIn M.L w vk nk keys) (hv:NumsIn M.L w vv n vals)
  (hn:n<=1000) (hb:∀ i,i<n->vals i<4096) (hup:∀ i,i<n->vals i≠0->(B.ups vals i).upE (vals i:Int)=0) :
  Calls Tryz.prog 122 #[.pointer (some ⟨M.b,0,none⟩),.agg #[.bool leaf,vk,vv]] w fun e w'=>e = .returned (.int .i64 0)/\BaseAt w' M F (B.ups vals n)/\Chg M.L w w':=by
 have c0:=(Chg.refl [] w).alloc (.cells #[.bool leaf,vk,vv] 107);have k0:=znb w (.cells #[.bool leaf,vk,vv] 107);have HV:=zh (hv.chg c0 (by simp));have HB:=zh (zA (h.chg c0 (by simp)) (zA hF (zA c0 (zA hb hup))));obtain ⟨ak,ck,rfl⟩:=hk.len;obtain ⟨av,cv,rfl,cv1,cv2⟩:=hv.cap;have hs:=zhl k0;have x2:(w.alloc (.cells #[.bool leaf,.slice ak nk ck,.slice av n cv] 107)).cell? ⟨w.heap.size,2,none⟩=some (.slice av n cv):=(zcb k0 2).trans rfl;clear h hF hk hv c0 k0 hb hup;go_enter Tryz.func122,Tryz.ntmps122;go_wp2_with (refine wpList_boxAgg rfl 107 (.tmp 1) rfl (cells:=#[.bool leaf,.slice ak nk ck,.slice av n cv]) rfl ?_);clear x2;obtain ⟨W,hW⟩:∃ W,W=w.alloc (.cells #[.bool leaf,.slice ak nk ck,.slice av n cv] 107):=⟨_,rfl⟩;rw [<- hW] at HV HB hs ⊢;clear hW;go_loopg [5,16] n (fun gg s5 s16 wr=>∃ (j m:Nat) (xs:List Value),gg=n - j/\j<=n/\m<=j/\s16 = .int .i64 (j:Int)/\Hid (wr.ownsRow W.heap.size 3 1 s5 m xs/\BaseAt wr M (ownL s5++F) (B.ups vals j)/\Chg M.L W wr))
 case atStart=>exact ⟨0,0,[],rfl,Nat.zero_le _,zLr _,rfl,zh ⟨World.ownsRow_nil _ _ _ _,HB.out.1,Chg.refl _ _⟩⟩
 case round =>
  obtain ⟨j,m,xs,hgg,hj,hm,rfl,H⟩:=hrel;have HGG:=zh hgg;clear hgg;by_cases hjn:j<n
  ·have i1:(j:Int)<(n:Int):=by omega
   obtain ⟨va,vc,rfl,hv1,hv2⟩:=zos H.out.1;obtain ⟨b,o,rfl,hbl,hbM,hcc⟩:=(HV.out.chg H.out.2.2 (fun q hq => .inl hq)).get hjn;obtain ⟨hc0,hc1⟩:=hcc j hjn;clear hcc;have h4:=HB.out.2.2.2.1 j hjn;have cbk:=owBlock_at (vals j) h4 wr;have HU:=zh (HB.out.2.2.2.2 j hjn);obtain ⟨x,hx⟩:∃ x,x=vals j:=⟨_,rfl⟩;rw [<- hx] at hc0 cbk HU h4;have HX:=zh hx;clear hx hc1;by_cases hx0:x=0
   ·subst hx0
    have hcb:Calls Tryz.prog 127 #[.int .u64 0] wr fun e w'=>e = .returned (.tuple #[.int .i64 0,.bool false])/\wr=w':=cbk;clear cbk;go_wp2_with fail;refine hcb.mono ?_;clear hcb;rintro e w' ⟨rfl,rfl⟩;go_wp2_with fail;go_roundg (n - (j+1))
    case measure=>have:=HGG.out;omega
    case rel=>exact ⟨j+1,m,xs,rfl,hjn,by omega,by go_num,zh ⟨H.out.1,by unfold Bs.ups;rw [if_pos HX.out.symm];exact H.out.2.1,H.out.2.2⟩⟩
   ·rw [decide_eq_true hx0] at cbk
    have hlt:∀ z,z∈ownL (.slice va m vc)++F->z<wr.heap.size:=fun z hz=>by
     rcases List.mem_append.1 hz with hz | hz
     ·exact (H.out.1.lt z (zml.1 hz)).2
     ·exact zLl (HB.out.2.1 z hz) (zLt HB.out.2.2.1.size H.out.2.2.size)
    have cu:=bUp_at H.out.2.1 hlt (x:Int);rw [HU.out hx0] at cu;have CU:=zh cu;clear cu hlt;go_wp2_with fail;refine cbk.mono ?_;clear cbk;rintro e w' ⟨rfl,rfl⟩;go_wp2_with fail;refine CU.out.mono ?_;clear CU;rintro e w2 ⟨rfl,hb2,hc2⟩
    have hnM:∀ q,W.heap.size<=q->q∉M.L:=fun q hq hm=>by
     have:=HB.out.1.ltL hm;omega
    have HO:=zh (zoc H.out.1 hc2 (fun q hq hm=>hnM q (H.out.1.lt q hq).1 hm));have H2:=zh (zA hb2 hc2);clear hb2 hc2 hnM;have hn4:=znb w2 (.cells #[.int .i64 (x:Int)] 3);have hc4:Chg [] w2 (w2.alloc (.cells #[.int .i64 (x:Int)] 3)):=(Chg.refl [] w2).alloc _;have hw4:=zoc HO.out hc4 (by simp);have H4:=zh (zA hw4 (zA hn4 (zA hc4 (zLt H.out.2.2.size (zLt H2.out.2.size hc4.size)))));clear hn4 hc4 hw4;go_wp2_with (at_builtin;refine wpList_app rfl _ _ 27 rfl rfl (base:=W.heap.size) (size:=1) (n:=m) (m:=1) (xs:=xs) (news:=[.int .i64 (x:Int)]) Tryz.underlying27 infoInt8 rfl (by omega) (by omega) rfl rfl H4.out.1 (AppSrc.blk H4.out.2.1 rfl (fun u hu=>by simp at hu;rcases hu with rfl;rfl)) (by omega) H4.out.2.2.2 ?_;intro v' w5 hown5 hg5 ho5;have H5:=zh (zA hown5 (zA hg5 ho5));clear hown5 hg5 ho5);go_roundg (n - (j+1))
    case measure=>have:=HGG.out;omega
    case rel =>
     refine ⟨j+1,m+1,_,rfl,hjn,by omega,by go_num,zh ⟨H5.out.1,?_,?_⟩⟩
     ·have hb5:=base_app (H2.out.1.chg H4.out.2.2.1 (by simp)) H5.out.2.1 H5.out.2.2
      unfold Bs.ups;rw [<- HX.out,if_neg hx0];exact hb5
     ·exact ((H.out.2.2.trans H2.out.2).trans (H4.out.2.2.1.mono (by simp))).grown H5.out.2.1 (fun z hz => .inr (H.out.1.lt z hz).1)
  ·obtain rfl:j=n:=by omega
   have i1:¬ (j:Int)<(j:Int):=by omega
   have HE:=zh (zA (H.out.2.1.sub (fun y hy=>zar _ hy):BaseAt wr M F _) ((HB.out.2.2.1.mono (by simp)).trans H.out.2.2:Chg M.L w wr));go_wp2_with fail;go_ret;exact ⟨rfl,HE.out⟩
theorem decN_again {f:Nat->Nat} {d:Nd} (h:decN f=some d) (hf:∀ i,i<128->f i<=255) :
  rightB d.leaf d.n d.n d.k d.v=true/\decN (pageF d.leaf d.n d.k d.v)=some d:=by
 have ok:=decN_ok h hf;obtain ⟨e,hd⟩:=decN_some h
 have hr:rightB d.leaf d.n d.n d.k d.v=true:=by
  unfold decB at e;simp only [Bool.and_eq_true,decide_eq_true_eq] at e;rw [hd];exact e.2.1
 refine ⟨hr,?_⟩;obtain ⟨d',h',a1,a2,a3,a4⟩:=decN_page hr ok.k ok.v;rw [h'];obtain ⟨_,hd'⟩:=decN_some h';congr 1;obtain ⟨l',n',k',v'⟩:=d';obtain ⟨l,n,k,v⟩:=d;simp only at a1 a2 a3 a4;simp only [Nd.mk.injEq] at hd hd' ⊢;refine ⟨a1,a2,?_,?_⟩
 ·funext i
  by_cases hi:i<n
  ·exact a3 i hi
  ·have z1:k' i=0:=by rw [congrFun hd'.2.2.1 i];unfold pkey keyF;exact if_neg (by rw [<- hd'.2.1,a2];exact hi)
   have z2:k i=0:=by rw [congrFun hd.2.2.1 i];unfold pkey keyF;exact if_neg (by rw [<- hd.2.1];exact hi)
   rw [z1,z2]
 ·funext i
  by_cases hi:i<n
  ·exact a4 i hi
  ·have z1:v' i=0:=by rw [congrFun hd'.2.2.2 i];unfold pval valF;exact if_neg (by rw [<- hd'.2.1,a2];exact hi)
   have z2:v i=0:=by rw [congrFun hd.2.2.2 i];unfold pval valF;exact if_neg (by rw [<- hd.2.1];exact hi)
   rw [z1,z2]
theorem node_dec {B:Bs} {x:Nat} {d:Nd} (hd:B.nodeI (x:Int)=some d):decN (B.read x)=some d:=by
 unfold Bs.nodeI at hd
 split at hd
 ·rwa [Int.toNat_natCast] at hd
 ·cases hd
def Nd.pg (d:Nd):Nat->Nat:=pageF d.leaf d.n d.k d.v
def Bs.own1 (B:Bs) (x:Nat) (d:Nd):Bs:=if 1<B.T.now x then B.ups d.v d.n else B
def Bs.own2 (B:Bs) (x:Nat) (d:Nd):Bs:=(B.own1 x d).down (x:Int)
def ownP (B:Bs) (x:Nat) (d:Nd):Nat × Bs:=if B.isI (x:Int) then (x,B) else ((B.own2 x d).at_,(B.own2 x d).put d.pg)
structure OwnOk (B:Bs) (x:Nat) (d:Nd):Prop where
 room:0<B.room
 vals:∀ i,i<d.n->d.v i<4096
 ups:1<B.T.now x->∀ i,i<d.n->d.v i≠0->(B.ups d.v i).upE (d.v i:Int)=0
 down:(B.own1 x d).downE (x:Int)=0
 room2:0<(B.own2 x d).room
theorem owOwn_at {w:World} {M:Bm} {F:List Nat} {B:Bs} (h:BaseAt w M F B) (hF:∀ q,q∈F->q<w.heap.size) {x:Nat} (hx:x<B.T.n) {d:Nd} (hd:B.nodeI (x:Int)=some d) (hok:B.isI (x:Int)=false->OwnOk B x d) :
  Calls Tryz.prog 65 #[.pointer (some ⟨M.b,0,none⟩),.int .i64 (x:Int)] w fun e w'=>e = .returned (.tuple #[.int .i64 ((ownP B x d).1:Int),.int .i64 0])/\BaseAt w' M F (ownP B x d).2/\Chg M.L w w':=by
 have cn:=zh (h.cNode (x:Int));have hN:=h.nz.2;have xw:(Lit.int .i64 (x:Int)).wf=true:=WalkArith.wf_i64 (by omega);have HB:=zh (zA h (zA hF (zA hok h.ok)));have HD:=zh hd;have HX:=zh hx;have HML:=zh (fun q hq=>h.ltL hq:∀ q,q∈M.L->q<w.heap.size);obtain ⟨Y,hY⟩:∃ Y,Y=ownP B x d:=⟨_,rfl⟩;rw [<- hY];have HY:=zh hY;clear h hF hok hd hx hY;go_enter Tryz.func65,Tryz.ntmps65;go_wp2_with fail;refine cn.out.mono ?_;clear cn;rintro e w1 (⟨d',kb,vb,hd',rfl,k1,k2,k3,r1,r2,hc1⟩ | ⟨hd',rfl,hc1⟩)
 case inr=>exact absurd (HD.out.symm.trans hd') (by simp)
 obtain rfl:d'=d:=Option.some.inj (hd'.symm.trans HD.out);have hd1:=(HB.out.2.2.2.node_ok hd').1;have hpg:=decN_again (f:=B.read x) (d:=d') (node_dec hd') (HB.out.2.2.2.read_le HX.out);have hnb:=znb w1 (.cells #[.bool d'.leaf,.slice (some ⟨kb,0,none⟩) d'.n d'.n,.slice (some ⟨vb,0,none⟩) d'.n d'.n] 107);have hcb:=(Chg.refl [] w1).alloc (.cells #[.bool d'.leaf,.slice (some ⟨kb,0,none⟩) d'.n d'.n,.slice (some ⟨vb,0,none⟩) d'.n d'.n] 107);have hnd:=NodeEnd.box hd1 k1 k2 r1 r2 hc1 hnb (hcb.mono (by simp));have HND:=zh hnd;have HC:=zh (hc1.trans hcb);have HP:=zh hpg;have hxs:=zhl hnb;obtain ⟨y0,y1,y2⟩:=hnd.c;clear hnd hnb hcb hc1 r1 r2 hd' k1 k2 k3 hd1 hpg;go_upto_region 2 with fail;generalize w1.alloc (.cells #[.bool d'.leaf,.slice (some ⟨kb,0,none⟩) d'.n d'.n,.slice (some ⟨vb,0,none⟩) d'.n d'.n] 107)=W at *;obtain ⟨xb,hxb⟩:∃ xb,xb=w1.heap.size:=⟨_,rfl⟩;rw [<- hxb] at HND hxs y0 y1 y2 ⊢;clear hxb;have ci:=owIs_at (HB.out.1.chg HC.out (by simp)) (x:Int) xw;obtain ⟨t,ht⟩:∃ t,t=B.isI (x:Int):=⟨_,rfl⟩;rw [<- ht] at ci;have CI:=zh ci;have HT:=zh ht;clear ci ht;go_wp2_with fail;refine CI.out.mono ?_;clear CI;rintro e w2 ⟨rfl,hc2⟩;have HC2:=zh (HC.out.trans hc2);have HND2:=zh (HND.out.chg hc2 (by simp));clear hc2 y0 y1 y2 HND HC hxs
 cases t with
 | true =>
  obtain rfl:Y=(x,B):=by rw [HY.out];unfold ownP;rw [if_pos HT.out.symm]
  go_wp2_with fail
  go_ret2
  exact ⟨rfl,HB.out.1.chg HC2.out (by simp),HC2.out.mono (by simp)⟩
 | false =>
  obtain rfl:Y=((B.own2 x d').at_,(B.own2 x d').put d'.pg):=by rw [HY.out];unfold ownP;rw [<- HT.out];rfl
  have hb2:=HB.out.1.chg HC2.out (by simp);have OK:=zh (HB.out.2.2.1 HT.out.symm);have cr:=hb2.cRoom;have hrz:(B.room==0)=false:=by rw [beq_eq_false_iff_ne];have:=OK.out.room;omega
  have cc:=hb2.cCount (x:Int);rw [show getV B.T (x:Int)=(B.T.now x:Int) by unfold getV;rw [(hasB_iff B.T (x:Int)).2 (by have:=HX.out;omega),if_pos rfl,Int.toNat_natCast]] at cc;have hlt:∀ q,q∈F->q<w2.heap.size:=fun q hq=>zLl (HB.out.2.1 q hq) HC2.out.size;have hnM:∀ q,q∈M.L->q<w.heap.size:=HML.out;obtain ⟨z0,z1,z2⟩:=HND2.out.c;have hp1:=HP.out.1;have hO1:Hid ((if 1<B.T.now x then B.ups d'.v d'.n else B)=B.own1 x d'):=zh rfl;by_cases h1:1<B.T.now x
  ·have i1:(1:Int)<(B.T.now x:Int):=by omega
   have hk:NumsIn M.L w2 (.slice (some ⟨kb,0,none⟩) d'.n d'.n) d'.n d'.k:=HND2.out.k.numsIn (by have:=HND2.out.ok.n;omega) (fun hm=>by have:=hnM _ hm;have:=HND2.out.far;omega) HND2.out.ok.k;have hv:NumsIn M.L w2 (.slice (some ⟨vb,0,none⟩) d'.n d'.n) d'.n d'.v:=HND2.out.v.numsIn (by have:=HND2.out.ok.n;omega) (fun hm=>by have:=hnM _ hm;have:=HND2.out.far;omega) HND2.out.ok.v;have cu:=owUp_at (leaf:=d'.leaf) hb2 hlt hk hv (by have:=HND2.out.ok.n;omega) OK.out.vals (OK.out.ups h1);rw [show B.ups d'.v d'.n=B.own1 x d' by unfold Bs.own1;rw [if_pos h1]] at cu;have CU:=zh cu;clear hb2 hlt hk hv cu hp1;go_wp2_with fail;refine (cr).mono ?_;rintro e w' ⟨rfl,rfl⟩;go_wp2_with fail;refine (cc).mono ?_;rintro e w' ⟨rfl,rfl⟩;go_wp2_with fail;refine CU.out.mono ?_;clear CU;rintro e w3 ⟨rfl,hb3,hc3⟩;have cd:=bDown_at hb3 (fun q hq=>zLl (HB.out.2.1 q hq) (zLt HC2.out.size hc3.size)) (x:Int);rw [OK.out.down] at cd;have CD:=zh cd;have HC3:=zh ((HC2.out.mono (by simp):Chg M.L w w2).trans hc3);have HND3:=zh (HND2.out.chg hc3 (fun q hq => .inl (hnM q hq)));clear cd hb3 hc3 z0 z1 z2 HND2;go_wp2_with fail;refine CD.out.mono ?_;clear CD;rintro e w4 ⟨rfl,hb4,hc4⟩;have HND4:=zh (HND3.out.chg hc4 (fun q hq => .inl (hnM q hq)));have cp:=owPut_at (leaf:=d'.leaf) hb4 (fun q hq=>zLl (HB.out.2.1 q hq) (zLt HC3.out.size hc4.size)) OK.out.room2 HND4.out.ki HND4.out.vi HP.out.1;have CP:=zh cp;have HC4:=zh (HC3.out.trans hc4);obtain ⟨z0,z1,z2⟩:=HND4.out.c;clear cp hb4 hc4 HND3;go_wp2_with fail
   refine CP.out.mono ?_;clear CP;rintro e w5 ⟨rfl,hb5,hc5⟩;have HE:=zh (zA hb5 (HC4.out.trans hc5));clear hb5 hc5 z0 z1 z2;go_wp2_with fail
   go_ret2
   exact ⟨rfl,HE.out⟩
  ·have i1:¬ (1:Int)<(B.T.now x:Int):=by omega
   have e1:B.own1 x d'=B:=by unfold Bs.own1;rw [if_neg h1]
   have cd:=bDown_at hb2 hlt (x:Int);have hdn:=OK.out.down;rw [e1] at hdn;rw [hdn,show B.down (x:Int)=B.own2 x d' by unfold Bs.own2;rw [e1]] at cd;have CD:=zh cd;clear cd hb2 hlt hp1 hdn e1 z0 z1 z2 hO1;go_wp2_with fail;refine (cr).mono ?_;rintro e w' ⟨rfl,rfl⟩;go_wp2_with fail;refine (cc).mono ?_;rintro e w' ⟨rfl,rfl⟩;go_wp2_with fail;refine CD.out.mono ?_;clear CD;rintro e w4 ⟨rfl,hb4,hc4⟩;have HND4:=zh (HND2.out.chg hc4 (fun q hq => .inl (hnM q hq)));have cp:=owPut_at (leaf:=d'.leaf) hb4 (fun q hq=>zLl (HB.out.2.1 q hq) (zLt HC2.out.size hc4.size)) OK.out.room2 HND4.out.ki HND4.out.vi HP.out.1;have CP:=zh cp;have HC4:=zh ((HC2.out.mono (by simp):Chg M.L w w2).trans hc4);obtain ⟨z0,z1,z2⟩:=HND4.out.c;clear cp hb4 hc4 HND2;go_wp2_with fail;refine CP.out.mono ?_;clear CP;rintro e w5 ⟨rfl,hb5,hc5⟩;have HE:=zh (zA hb5 (HC4.out.trans hc5));clear hb5 hc5 z0 z1 z2;go_wp2_with fail
   go_ret2
   exact ⟨rfl,HE.out⟩
section
variable {N G:Nat} {B:Bs} {ht:Ht} {pend:Nat->Nat}
theorem Gr.pendc (g:Gr N G B ht pend) {p:Nat->Nat} (h:∀ b,2<=b->b<N->p b=pend b):Gr N G B ht p :=
 ⟨g.good,g.node,fun b h2 hN=>by rw [h b h2 hN];exact g.ref b h2 hN⟩
theorem Gr.refs_one (g:Gr N G B ht pend):Refs B ht N 1=0:=by
 refine sumTo_zero fun n hn=>?_;unfold refsF
 split
 ·rename_i hs
  obtain ⟨c,hc⟩:=Option.isSome_iff_exists.1 hs;obtain ⟨_,_,d,hd,nd⟩:=g.node n c hc;rw [hd]
  show occ d 1=0
  refine Nat.eq_zero_of_not_pos fun h=>?_;obtain ⟨i,hi,hv⟩:=occ_pos h;by_cases e:c % 100=0
  ·rcases nd.val e i hi with q | q <;> omega
  ·have:=g.lt (nd.kid e i hi)
   have:=g.two this.2 this.1;omega
 ·rfl
theorem Gr.data (g:Gr N G B ht pend) (hr:0<B.room) {f:Nat->Nat} (hf:∀ i,i<128->f i<=255) :
  Gr N G (B.put f) ht (fun b=>if b=B.at_ then 1 else pend b)/\(∀ n:Nat,n≠B.at_->(B.put f).nodeI (n:Int)=B.nodeI (n:Int))/\ht B.at_=none/\2<=B.at_/\B.at_<N/\pend B.at_=0/\Refs B ht N B.at_=0/\(B.put f).room=B.room - 1/\(∀ b,(B.put f).live b=(decide (b=B.at_)||B.live b))/\B.live B.at_=false:=by
 obtain ⟨g2,l0,h2,hN,hlv,-,-,hrm,-⟩:=g.good.put_ hr hf;have hr0:=g.ref B.at_ h2 hN;rw [l0] at hr0;simp at hr0
 have hnone:ht B.at_=none:=by
  cases hq:ht B.at_ with
  | none=>rfl
  | some q=>have:=(g.lt hq).2;rw [l0] at this;cases this
 have hkn:∀ n:Nat,n≠B.at_->(B.put f).nodeI (n:Int)=B.nodeI (n:Int):=fun n hn=>node_kept (by omega)
 have hrf:∀ b,Refs (B.put f) ht N b=Refs B ht N b:=fun b=>sumTo_congr fun n _=>by
  unfold refsF;by_cases e:n=B.at_
  ·rw [e,hnone];rfl
  ·rw [hkn n e]
 refine ⟨⟨g2,fun n h hn=>?_,fun b h2b hNb=>?_⟩,hkn,hnone,h2,hN,hr0.1,hr0.2,hrm,hlv,l0⟩
 ·have e:n≠B.at_:=fun e=>by rw [e,hnone] at hn;cases hn
  obtain ⟨a1,a2,d,a3,a4⟩:=g.node n h hn;exact ⟨a1,by rw [hlv,a2,Bool.or_true],d,by rw [hkn n e];exact a3,a4⟩
 ·have h0:=g.ref b h2b hNb
  rw [hrf,hlv]
  show (if b=B.at_ then 1 else pend b)+_=if _ then (if b=B.at_ then 1 else B.T.now b) else 0
  by_cases e:b=B.at_
  ·subst e
   rw [if_pos rfl,if_pos rfl,decide_eq_true rfl,Bool.true_or,if_pos rfl,hr0.2]
  ·rw [if_neg e,if_neg e,decide_eq_false e,Bool.false_or]
   exact h0
theorem Gr.ups (g:Gr N G B ht pend) {v:Nat->Nat} : ∀ n,(∀ i,i<n->v i=0∨(2<=v i/\v i<N/\B.live (v i)=true))->(∀ b,2<=b->b<N->B.live b=true->B.T.now b+n<=65535) ->
  (∀ i,i<n->v i≠0->(B.ups v i).upE (v i:Int)=0)/\Gr N G (B.ups v n) ht (fun b=>pend b+cnt n fun i=>decide (v i=b))/\(∀ m:Nat,(B.ups v n).nodeI (m:Int)=B.nodeI (m:Int))/\(∀ b,(B.ups v n).live b=B.live b)/\(∀ b,2<=b->(B.ups v n).T.now b=B.T.now b+cnt n fun i=>decide (v i=b))/\(B.ups v n).room=B.room/\(∀ b,(B.ups v n).fr b=B.fr b)
 | 0,_,_=>⟨fun _ h=>by omega,g.pendc fun b _ _=>rfl,fun _=>rfl,fun _=>rfl,fun b _=>rfl,rfl,fun _=>rfl⟩
 | n+1,hv,hm=>by
  obtain ⟨i1,i2,i3,i4,i5,i6,i7⟩:=g.ups (v:=v) n (fun i hi=>hv i (by omega)) (fun b a1 a2 a3=>by have:=hm b a1 a2 a3;omega);by_cases h0:v n=0
  ·have e:B.ups v (n+1)=B.ups v n:=by show (if v n=0 then _ else _)=_;rw [if_pos h0]
   have hc:∀ b,2<=b->(cnt (n+1) fun i=>decide (v i=b))=cnt n fun i=>decide (v i=b):=fun b hb=>by
    rw [cnt_step];simp [show ¬ v n=b by omega]
   rw [e]
   exact ⟨fun i hi hz=>by
    by_cases q:i=n
    ·subst q;exact absurd h0 hz
    ·exact i1 i (by omega) hz,i2.pendc fun b hb _=>by rw [hc b hb],i3,i4,fun b hb=>by rw [i5 b hb,hc b hb],i6,i7⟩
  ·have e:B.ups v (n+1)=(B.ups v n).up (v n:Int):=by show (if v n=0 then _ else _)=_;rw [if_neg h0]
   obtain ⟨b2,bN,bl⟩:=(hv n (by omega)).resolve_left h0;have hmx:=hm (v n) b2 bN bl;have hcl:=cnt_le (fun i=>decide (v i=v n)) n;obtain ⟨u1,u2,u3,u4,u5,u6,u7⟩:=i2.up bN (by rw [i4];exact bl) (by rw [i5 _ b2];omega)
   have hc:∀ b,(cnt (n+1) fun i=>decide (v i=b))=(cnt n fun i=>decide (v i=b))+if b=v n then 1 else 0:=fun b=>by
    rw [cnt_step];by_cases q:v n=b
    ·simp [q]
    ·simp [q,show ¬ b=v n from fun h=>q h.symm]
   rw [e];refine ⟨fun i hi hz=>?_,u2.pendc fun b hb _=>?_,fun m=>(u3 m).trans (i3 m),fun b=>(u4 b).trans (i4 b),fun b hb=>?_,u6.trans i6,fun b=>(u7 b).trans (i7 b)⟩
   ·by_cases q:i=n
    ·subst q;exact u1
    ·exact i1 i (by omega) hz
   ·rw [hc]
    split <;> omega
   ·rw [u5,hc]
    split
    ·rename_i q;subst q;rw [i5 _ b2];omega
    ·rw [i5 _ hb];omega
structure Kpt (N:Nat) (B:Bs) (ht:Ht) (B':Bs) (ht':Ht) (p:Nat->Nat):Prop where
 tree:∀ r c,ht r=some c->1<=p r->ht' r=some c/\SameT B B' (c % 100) r r
 lone:∀ b,b<N->B.live b=true->ht b=none->Refs B ht N b=0->1<=p b->ht' b=none/\B'.live b=true/\B'.nodeI (b:Int)=B.nodeI (b:Int)/\B'.fr b=B.fr b/\Refs B' ht' N b=0
 sub:∀ n c,ht' n=some c->∃ m,ht m=some c
theorem Kpt.refl (N:Nat) (B:Bs) (ht:Ht) (p:Nat->Nat):Kpt N B ht B ht p:=⟨fun r c h _=>⟨h,SameT.refl _ _ _⟩,fun b _ l h hr _=>⟨h,l,rfl,rfl,hr⟩,fun n c h=>⟨n,h⟩⟩
theorem Kpt.trans {B' B'':Bs} {ht' ht'':Ht} {p p':Nat->Nat} (a:Kpt N B ht B' ht' p) (b:Kpt N B' ht' B'' ht'' p') (h:∀ b,1<=p b->1<=p' b):Kpt N B ht B'' ht'' p :=
 ⟨fun r c hr hp=>by
  obtain ⟨t1,t2⟩:=a.tree r c hr hp;obtain ⟨t3,t4⟩:=b.tree r c t1 (h r hp)
  exact ⟨t3,t2.trans t4⟩,fun x hN hl hn hr hp=>by
  obtain ⟨t1,t2,t3,t4,t5⟩:=a.lone x hN hl hn hr hp;obtain ⟨u1,u2,u3,u4,u5⟩:=b.lone x hN t2 t1 t5 (h x hp)
  exact ⟨u1,u2,u3.trans t3,u4.trans t4,u5⟩,fun n c hn=>by
  obtain ⟨m,hm⟩:=b.sub n c hn;exact a.sub m c hm⟩
theorem SameT.leaf {B':Bs} {x y:Nat} {d:Nd} (h1:B.nodeI (x:Int)=some d) (h2:B'.nodeI (y:Int)=some d):SameT B B' 0 x y:=by
 refine ⟨fun lo hi least=>?_,?_⟩
 ·unfold rightP;rw [h1,h2]
 ·unfold allP;rw [h1,h2]
theorem all_congr {n:Nat} {f g:Nat->Bool} (h:∀ i,i<n->f i=g i):(List.range n).all f=(List.range n).all g:=by
 rw [Bool.eq_iff_iff];simp only [List.all_eq_true,List.mem_range];exact ⟨fun q i hi=>by rw [<- h i hi];exact q i hi,fun q i hi=>by rw [h i hi];exact q i hi⟩
theorem SameT.node {B':Bs} {h x y:Nat} {d d':Nd} (hn:B'.T.n=B.T.n) (h1:B.nodeI (x:Int)=some d) (h2:B'.nodeI (y:Int)=some d') (el:d'.leaf=d.leaf) (en:d'.n=d.n) (ek:∀ i,i<d.n->d'.k i=d.k i)
  (kids:∀ i,i<d.n->SameT B B' h (d.v i) (d'.v i)/\(2<=d'.v i/\d'.v i<B.T.n↔2<=d.v i/\d.v i<B.T.n)):SameT B B' (h+1) x y:=by
 refine ⟨fun lo up least=>?_,?_⟩
 ·unfold rightP
  rw [h1,h2];simp only;rw [el,en];congr 2;refine all_congr fun i hi=>?_
  have eh:d'.hi up i=d.hi up i:=by
   unfold Nd.hi;rw [en]
   split
   ·rename_i q;rw [ek _ q]
   ·rfl
  rw [ek i hi,eh,(kids i hi).1.1,hn];congr 2;exact decide_eq_decide.2 (kids i hi).2
 ·unfold allP
  rw [h1,h2];simp only;rw [en];exact flat_congr fun i hi=>(kids i (List.mem_range.1 hi)).1.2
end
def les (pend:Nat->Nat) (x:Nat):Nat->Nat:=fun b=>pend b - if b=x then 1 else 0
def mor (pend:Nat->Nat) (y:Nat):Nat->Nat:=fun b=>pend b+if b=y then 1 else 0
section
variable {N G:Nat} {B:Bs} {ht:Ht} {pend:Nat->Nat}
theorem Gr.getV (g:Gr N G B ht pend) {x:Nat} (hx:x<N):Proofs.YtkhcaclndepgbaaGreat.getV B.T (x:Int)=(B.T.now x:Int):=by
 unfold Proofs.YtkhcaclndepgbaaGreat.getV;rw [(hasB_iff B.T (x:Int)).2 (by rw [g.good.n];omega),if_pos rfl,Int.toNat_natCast]
theorem Gr.isI_of (g:Gr N G B ht pend) {x:Nat} {d:Nd} (hx:x<N) (hf:(B.fr x).isSome=true) (hn:B.T.now x=1) (hd:B.nodeI (x:Int)=some d):B.isI (x:Int)=true:=by
 unfold Bs.isI Bs.freshB;rw [g.getV hx,hn,hd,Int.toNat_natCast,hf,decide_eq_true (by omega:(0:Int)<=(x:Int)),decide_eq_true (by rw [g.good.n];omega:(x:Int)<(B.T.n:Int))];rfl
theorem Gr.pg (g:Gr N G B ht pend) {x:Nat} {d:Nd} (hx:x<N) (hd:B.nodeI (x:Int)=some d):rightB d.leaf d.n d.n d.k d.v=true/\decN d.pg=some d/\∀ i,i<128->d.pg i<=255:=by
 have h:=decN_again (node_dec hd) (g.good.ok.read_le (by rw [g.good.n];exact hx));exact ⟨h.1,h.2,fun j _=>sealP_le (by cases d.leaf <;> decide) (fun k _=>bodyF_le _ _ _ k (by have:=(g.good.ok.node_ok hd).1.n;omega)) j⟩
theorem Gr.refs_node (g:Gr N G B ht pend) {x c:Nat} {d:Nd} (hx:ht x=some c) (hd:B.nodeI (x:Int)=some d) {z:Nat} (hz:Refs B ht N z=0):occ d z=0:=by
 have:=Refs_ge (g.lt hx).1 hx hd z;omega
theorem Gr.moved {B':Bs} {ht':Ht} {pend':Nat->Nat} (g:Gr N G B ht pend) (g':Gr N G B' ht' pend') {x y c z:Nat} {d:Nd} (hx:ht x=some c) (hd:B.nodeI (x:Int)=some d) (hd':B'.nodeI (y:Int)=some d) (hz:Refs B ht N z=0) (hzx:z=x∨ht z=none)
  (hk:∀ n:Nat,n≠y->n≠z->B'.nodeI (n:Int)=B.nodeI (n:Int)) (hy:ht y=none):SameT B B' (c % 100) x y:=by
 obtain ⟨hxN,hxl,d0,hd0,nd⟩:=g.node x c hx;obtain rfl:d=d0:=Option.some.inj (hd.symm.trans hd0)
 cases hc:c % 100 with
 | zero=>exact SameT.leaf hd hd'
 | succ k =>
  have e:(c - 1) % 100=k:=by omega
  refine SameT.node (by rw [g.good.n,g'.good.n]) hd hd' rfl rfl (fun _ _=>rfl) fun i hi=>⟨?_,Iff.rfl⟩;have hv:=nd.kid (by omega) i hi
  have:=g.tree (B':=B') (by rw [g.good.n,g'.good.n]) hz (fun n hn hne=>hk n (fun q=>by rw [q,hy] at hn;cases hn) hne) hv (fun q=>by
   have h1:=g.refs_node hx hd hz;have h2:=occ_of hi q;omega)
  rw [e] at this;exact this
structure Owned (N G:Nat) (B:Bs) (ht:Ht) (pend:Nat->Nat) (x c:Nat) (d:Nd) (y:Nat) (B':Bs) (ht':Ht):Prop where
 gr:Gr N G B' ht' (mor (les pend x) y)
 top:ht' y=some c
 node:B'.nodeI (y:Int)=some d
 is:B'.isI (y:Int)=true
 same:SameT B B' (c % 100) x y
 kp:Kpt N B ht B' ht' (les pend x)
 room:B.room - 1<=B'.room
 refs:Refs B' ht' N y=0
 new:y≠x->ht y=none/\B.live y=false
 move:B.isI (x:Int)=false->y≠x/\(B.T.now x=1->B'.T.now x=0)
theorem Gr.own_is (g:Gr N G B ht pend) {x c:Nat} {d:Nd} (hx:ht x=some c) (hd:B.nodeI (x:Int)=some d) (hp:1<=pend x) (hi:B.isI (x:Int)=true):Owned N G B ht pend x c d x B ht:=by
 have h1:=(Bs.isI_iff hi).2.2.2.1;have hN:=(g.lt hx).1;rw [g.getV hN] at h1;have hr:=g.ref x (g.two (g.lt hx).2 hN) hN;rw [(g.lt hx).2,if_pos rfl] at hr;refine ⟨g.pendc fun b _ _=>?_,hx,hd,hi,SameT.refl _ _ _,Kpt.refl _ _ _ _,by omega,by omega,fun h=>absurd rfl h,fun h=>by rw [hi] at h;cases h⟩;unfold mor les;by_cases e:b=x
 ·subst e;rw [if_pos rfl];omega
 ·rw [if_neg e];omega
theorem Gr.own_many (g:Gr N G B ht pend) (hM:N<=4096) (hm:∀ b,pend b<=30000) {x c:Nat} {d:Nd} (hx:ht x=some c) (hd:B.nodeI (x:Int)=some d) (hp:1<=pend x) (hi:B.isI (x:Int)=false) (hr:0<B.room) (h1:1<B.T.now x) :
  OwnOk B x d/\∃ ht',Owned N G B ht pend x c d (B.own2 x d).at_ ((B.own2 x d).put d.pg) ht':=by
 obtain ⟨hxN,hxl,d0,hd0,nd⟩:=g.node x c hx;obtain rfl:d=d0:=Option.some.inj (hd.symm.trans hd0);have h2x:=g.two hxl hxN;have hdo:=(g.good.ok.node_ok hd).1
 have hval:∀ i,i<d.n->d.v i=0∨(2<=d.v i/\d.v i<N/\B.live (d.v i)=true):=fun i hi=>by
  by_cases e:d.v i=0
  ·exact .inl e
  ·exact .inr (g.val_live hx hd hi e)
 have hcnt:∀ b,2<=b->b<N->B.live b=true->B.T.now b+d.n<=65535:=fun b b2 bN bl=>by
  have:=g.now_le b2 bN bl;have:=hm b;have:=hdo.n;omega
 obtain ⟨u1,u2,u3,u4,u5,u6,u7⟩:=g.ups d.n hval hcnt;have e1:B.own1 x d=B.ups d.v d.n:=by unfold Bs.own1;rw [if_pos h1]
 rw [<- e1] at u2 u3 u4 u5 u6 u7;obtain ⟨w1,w2,w3,w4,w5,w6,w7⟩:=u2.down2 hxN h2x (by show 1<=pend x+_;omega) (by rw [u5 x h2x];omega);have hok:OwnOk B x d:=⟨hr,fun i hi=>by rcases hval i hi with q | q <;> omega,fun _=>u1,w1,by show 0<((B.own1 x d).down (x:Int)).room;rw [w6,u6];exact hr⟩;refine ⟨hok,?_⟩;have e2:(B.own1 x d).down (x:Int)=B.own2 x d:=rfl;rw [e2] at w2 w3 w4 w5 w6 w7;obtain ⟨pg1,pg2,pg3⟩:=g.pg hxN hd
 obtain ⟨p1,p2,p3,p4,p5,p6,p7,p8,p9⟩:=w2.put hok.room2 pg3 pg2 nd (p:=les pend x) (fun b b2 bN=>by
  show (if b=x then pend b+(cnt d.n fun i=>decide (d.v i=b)) - 1 else pend b+(cnt d.n fun i=>decide (d.v i=b)))=les pend x b+occ d b
  unfold les occ;by_cases e:b=x
  ·subst e;rw [if_pos rfl,if_pos rfl];omega
  ·rw [if_neg e,if_neg e];omega)
 obtain ⟨y,hy⟩:∃ y,y=(B.own2 x d).at_:=⟨_,rfl⟩;rw [<- hy] at p1 p2 p3 p4 p5 p6 p7 p9 ⊢;have hy':¬ (x=y):=fun q=>by rw [<- q,hx] at p4;cases p4
 have hpy:=p7;rw [if_neg (fun q=>hy' q.symm)] at hpy
 have hlv:B.live y=false:=by
  have:=(w2.good.put_ hok.room2 pg3).2.1;rw [<- hy,w4,u4] at this;exact this
 have hry:=g.ref y p5 p6;rw [hlv] at hry;simp at hry;have hkn:∀ n:Nat,n≠y->((B.own2 x d).put d.pg).nodeI (n:Int)=B.nodeI (n:Int):=fun n hn=>by rw [p3 n hn,w3,u3]
 have hrf:∀ b,Refs ((B.own2 x d).put d.pg) (updH ht y (some c)) N b=Refs B ht N b+occ d b:=fun b=>by
  have:=sumTo_upd (f:=refsF B ht b) (g:=refsF ((B.own2 x d).put d.pg) (updH ht y (some c)) b) (k:=y) (n:=N) p6 (fun i _ hi=>by unfold refsF;rw [updH_ne hi,hkn i hi]);have h0:refsF B ht b y=0:=by unfold refsF;rw [p4];rfl
  have h1:refsF ((B.own2 x d).put d.pg) (updH ht y (some c)) b y=occ d b:=by unfold refsF;rw [updH_same,p2];rfl
  rw [h0,h1] at this;exact this.symm
 have hoy:occ d y=0:=g.refs_node hx hd hry.2
 have gg:Gr N G ((B.own2 x d).put d.pg) (updH ht y (some c)) (mor (les pend x) y):=p1.pendc fun b b2 bN=>by
  unfold mor;by_cases e:b=y
  ·subst e
   rw [if_pos rfl,if_pos rfl];unfold les;omega
  ·rw [if_neg e,if_neg e];rfl
 have hsm:∀ r cr,ht r=some cr->SameT B ((B.own2 x d).put d.pg) (cr % 100) r r:=fun r cr hr'=>g.tree (by rw [gg.good.n,g.good.n]) g.refs_one (fun n hn _=>hkn n (fun q=>by rw [q,p4] at hn;cases hn)) hr' (fun q=>by have:=g.two (g.lt hr').2 (g.lt hr').1;omega);refine ⟨_,{ gr:=gg,top:=updH_same,node:=p2,is:=?_,same:=?_,kp:=⟨fun r cr hr' _=>⟨?_,hsm r cr hr'⟩,fun b bN bl bh br bp=>?_,fun n cn hn=>?_⟩,room:=by rw [p8,w6,u6];omega,refs:=by rw [hrf,hoy,hry.2],new:=fun _=>⟨p4,hlv⟩,move:=fun _=>⟨fun q=>hy' q.symm,fun q=>by omega⟩ }⟩
 ·refine gg.isI_of p6 ?_ ?_ p2
  ·rw [hy];unfold Bs.put;simp
  ·rw [hy];show (if (B.own2 x d).at_=(B.own2 x d).at_ then 1 else _)=1;rw [if_pos rfl]
 ·exact g.moved gg hx hd p2 g.refs_one (.inr (by
   cases hq:ht 1 with
   | none=>rfl
   | some q=>have:=g.two (g.lt hq).2 (g.lt hq).1;omega)) (fun n hn _=>hkn n hn) p4
 ·rw [updH_ne (fun q=>by rw [q,p4] at hr';cases hr')];exact hr'
 ·have hby:b≠y:=fun q=>by rw [q,hlv] at bl;cases bl
  refine ⟨by rw [updH_ne hby];exact bh,by rw [p9,w4,u4,bl,Bool.or_true],hkn b hby,?_,by rw [hrf,br,g.refs_node hx hd br]⟩
  show (if b=(B.own2 x d).at_ then some d.pg else (B.own2 x d).fr b)=B.fr b
  rw [<- hy,if_neg hby,w7,u7]
 ·by_cases e:n=y
  ·subst e;rw [updH_same] at hn;exact ⟨x,hx.trans hn⟩
  ·rw [updH_ne e] at hn;exact ⟨n,hn⟩
theorem Gr.own_one (g:Gr N G B ht pend) (hM:N<=4096) {x c:Nat} {d:Nd} (hx:ht x=some c) (hd:B.nodeI (x:Int)=some d) (hp:1<=pend x) (hi:B.isI (x:Int)=false) (hr:0<B.room) (h1:B.T.now x=1) :
  OwnOk B x d/\∃ ht',Owned N G B ht pend x c d (B.own2 x d).at_ ((B.own2 x d).put d.pg) ht':=by
 obtain ⟨hxN,hxl,d0,hd0,nd⟩:=g.node x c hx;obtain rfl:d=d0:=Option.some.inj (hd.symm.trans hd0);have h2x:=g.two hxl hxN
 have hfx:B.fr x=none:=by
  cases hf:B.fr x with
  | none=>rfl
  | some f =>
   have:=g.isI_of hxN (by rw [hf];rfl) h1 hd;rw [hi] at this;cases this
 have hkx:B.T.kept x≠0:=fun q=>by
  have:=(g.good.ok.fr x (by rw [g.good.n];exact hxN)).2 ⟨q,by omega⟩;rw [hfx] at this;cases this
 have hval:∀ i,i<d.n->d.v i<4096:=fun i hi=>by
  by_cases e:d.v i=0
  ·omega
  ·have:=g.val_live hx hd hi e;omega
 have e1:B.own1 x d=B:=by unfold Bs.own1;rw [if_neg (by omega)]
 obtain ⟨w1,w2,w3,w4,w5,w6,w7,w8,w9⟩:=g.down1 hxN h2x hp h1;rw [if_neg hkx] at w6;have e2:B.down (x:Int)=B.own2 x d:=by unfold Bs.own2;rw [e1]
 have hok:OwnOk B x d:=⟨hr,hval,fun q=>by omega,by rw [e1];exact w1,by rw [<- e2,w6];omega⟩;refine ⟨hok,?_⟩
 have hkp:(B.down (x:Int)).T.kept=B.T.kept:=by
  rw [(downs_eq g.good hxN hxl).2];rfl
 rw [e2] at w2 w3 w4 w5 w6 w7 hkp;have hocx:occ d x=0:=g.refs_node hx hd w9;have nd':NdAt N (updH ht x none) c d:=nd.congr fun i hi=>updH_ne fun q=>by have:=occ_of hi q;omega
 have hrx:∀ b,refsF B ht b x=occ d b:=fun b=>by unfold refsF;rw [hx,hd];rfl
 obtain ⟨pg1,pg2,pg3⟩:=g.pg hxN hd
 obtain ⟨p1,p2,p3,p4,p5,p6,p7,p8,p9⟩:=w2.put hok.room2 pg3 pg2 nd' (p:=les pend x) (fun b b2 bN=>by
  show (if b=x then 0 else pend b)+refsF B ht b x=les pend x b+occ d b
  rw [hrx];unfold les;by_cases e:b=x
  ·subst e;rw [if_pos rfl,if_pos rfl];omega
  ·rw [if_neg e,if_neg e];omega)
 obtain ⟨_,l0,_,_,_,_,_,_,k0⟩:=w2.good.put_ hok.room2 pg3;obtain ⟨y,hy⟩:∃ y,y=(B.own2 x d).at_:=⟨_,rfl⟩;rw [<- hy] at p1 p2 p3 p4 p5 p6 p7 p9 l0 k0 ⊢;have hy':y≠x:=fun q=>by rw [q,hkp] at k0;exact hkx k0
 rw [updH_ne hy'] at p4;have hpy:=p7;rw [if_neg hy',hrx] at hpy;have hlv:B.live y=false:=by rw [w4,if_neg hy'] at l0;exact l0
 have hry:=g.ref y p5 p6;rw [hlv] at hry;simp at hry;have hkn:∀ n:Nat,n≠y->n≠x->((B.own2 x d).put d.pg).nodeI (n:Int)=B.nodeI (n:Int):=fun n hn hnx=>by rw [p3 n hn,w3 n hnx]
 have hrf:∀ b,Refs ((B.own2 x d).put d.pg) (updH (updH ht x none) y (some c)) N b=Refs B ht N b:=fun b=>by
  have s1:=sumTo_upd (f:=refsF B ht b) (g:=refsF (B.own2 x d) (updH ht x none) b) (k:=x) (n:=N) hxN (fun i _ hi=>by unfold refsF;rw [updH_ne hi,w3 i hi]);have s2:=sumTo_upd (f:=refsF (B.own2 x d) (updH ht x none) b) (g:=refsF ((B.own2 x d).put d.pg) (updH (updH ht x none) y (some c)) b) (k:=y) (n:=N) p6 (fun i _ hi=>by unfold refsF;rw [updH_ne hi,p3 i hi]);have h0:refsF (B.own2 x d) (updH ht x none) b y=0:=by unfold refsF;rw [updH_ne hy',p4];rfl
  have h1:refsF ((B.own2 x d).put d.pg) (updH (updH ht x none) y (some c)) b y=occ d b:=by unfold refsF;rw [updH_same,p2];rfl
  have h2:refsF (B.own2 x d) (updH ht x none) b x=0:=by unfold refsF;rw [updH_same];rfl
  rw [h2,hrx] at s1;rw [h0,h1] at s2
  show sumTo _ _=sumTo _ _
  omega
 have gg:Gr N G ((B.own2 x d).put d.pg) (updH (updH ht x none) y (some c)) (mor (les pend x) y):=p1.pendc fun b b2 bN=>by
  unfold mor;by_cases e:b=y
  ·subst e
   rw [if_pos rfl,if_pos rfl];unfold les;omega
  ·rw [if_neg e,if_neg e];rfl
 refine ⟨_,{ gr:=gg,top:=updH_same,node:=p2,is:=?_,same:=?_,kp:=⟨fun r cr hr' hpr=>?_,fun b bN bl bh br bp=>?_,fun n cn hn=>?_⟩,room:=by rw [p8,w6];omega,refs:=by rw [hrf,hry.2],new:=fun _=>⟨p4,hlv⟩,move:=fun _=>⟨hy',fun _=>?_⟩ }⟩
 ·refine gg.isI_of p6 ?_ ?_ p2
  ·rw [hy];unfold Bs.put;simp
  ·rw [hy];show (if (B.own2 x d).at_=(B.own2 x d).at_ then 1 else _)=1;rw [if_pos rfl]
 ·exact g.moved gg hx hd p2 w9 (.inl rfl) hkn p4
 ·have hrx':r≠x:=fun q=>by
   unfold les at hpr;rw [q,if_pos rfl] at hpr;omega
  have hry':r≠y:=fun q=>by rw [q,p4] at hr';cases hr'
  exact ⟨by rw [updH_ne hry',updH_ne hrx'];exact hr',g.tree (by rw [gg.good.n,g.good.n]) w9 (fun n hn hne=>hkn n (fun q=>by rw [q,p4] at hn;cases hn) hne) hr' hrx'⟩
 ·have hby:b≠y:=fun q=>by rw [q,hlv] at bl;cases bl
  have hbx:b≠x:=fun q=>by rw [q,hx] at bh;cases bh
  refine ⟨by rw [updH_ne hby,updH_ne hbx];exact bh,by rw [p9,w4,if_neg hbx,bl,Bool.or_true],hkn b hby hbx,?_,by rw [hrf,br]⟩
  show (if b=(B.own2 x d).at_ then some d.pg else (B.own2 x d).fr b)=B.fr b
  rw [<- hy,if_neg hby,w7 b hbx]
 ·by_cases e:n=y
  ·subst e;rw [updH_same] at hn;exact ⟨x,hx.trans hn⟩
  ·rw [updH_ne e] at hn
   by_cases e':n=x
   ·subst e';rw [updH_same] at hn;cases hn
   ·rw [updH_ne e'] at hn;exact ⟨n,hn⟩
 ·show (if x=(B.own2 x d).at_ then 1 else (B.own2 x d).T.now x)=0
  rw [<- hy,if_neg (fun q=>hy' q.symm),w5,if_pos rfl]
theorem Gr.own (g:Gr N G B ht pend) (hM:N<=4096) (hm:∀ b,pend b<=30000) {x c:Nat} (hx:ht x=some c) (hp:1<=pend x) (hr:0<B.room) :
  ∃ d,B.nodeI (x:Int)=some d/\(B.isI (x:Int)=false->OwnOk B x d)/\∃ ht',Owned N G B ht pend x c d (ownP B x d).1 (ownP B x d).2 ht':=by
 obtain ⟨hxN,hxl,d,hd,nd⟩:=g.node x c hx;refine ⟨d,hd,?_⟩;unfold ownP
 cases hi:B.isI (x:Int) with
 | true=>exact ⟨fun h=>(by cases h),ht,g.own_is hx hd hp hi⟩
 | false =>
  have h0:=(g.good.may hxN hxl).2.2.1;by_cases h1:1<B.T.now x
  ·have:=g.own_many hM hm hx hd hp hi hr h1
   exact ⟨fun _=>this.1,this.2⟩
  ·have:=g.own_one hM hx hd hp hi hr (by omega)
   exact ⟨fun _=>this.1,this.2⟩
end
end Go.Proofs.YtkhcaclndepgbaaGreat
