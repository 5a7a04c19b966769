/- OwnCounts in plain words: where its loop stands. · Layer 14's examples, in plain words: the bases that come up, reckoned. · Layer 14's examples, in plain words: what each step leaves. · Layer 14's examples, in plain words: the end. · Layer 14's examples: the walk (draft, not built). -/
import Derived.Test.YtkhcaclndepgbaaGreatZn46
set_option linter.unusedVariables false
set_option linter.unusedSimpArgs false
set_option maxRecDepth 100000
set_option maxHeartbeats 20000000
namespace Go.Proofs.YtkhcaclndepgbaaGreat
open Go.RowKit
structure CoS (base:Nat) (w:World) (M:Bm) (vi:Value) (items:List (Nat × Nat)) (v:Value) (R:List Nat) (wr:World) (B:Bs):Prop where
 own:wr.ownsRow base 3 1 v R.length (intVs R)
 bs:BaseAt wr M (ownL v) B
 its:ItemsIn (M.L++ownL v) wr vi items
 chg:Chg [] w wr
 low:base<=wr.heap.size
section
variable {base:Nat} {w:World} {M:Bm} {vi:Value} {items:List (Nat × Nat)} {v:Value} {R:List Nat} {wr w2:World} {B B2:Bs}
theorem CoS.lt (h:CoS base w M vi items v R wr B):∀ q,q∈ownL v->q<wr.heap.size:=fun q hq=>(h.own.lt q (zml.1 hq)).2
theorem CoS.not (h:CoS base w M vi items v R wr B):∀ q,v.ownBlock=some q->q∉M.L:=fun q hq=>h.bs.notL (zml.2 hq)
theorem CoS.turn (h:CoS base w M vi items v R wr B) (hM:∀ q,q∈M.L->q∈([]:List Nat)∨w.heap.size<=q) (c:Chg M.L wr w2) (hb:BaseAt w2 M (ownL v) B2):CoS base w M vi items v R w2 B2 :=
 ⟨zoc h.own c h.not,hb,h.its.chg c (fun k hk => .inl (zal _ hk)),h.chg.then c hM,zLt h.low c.size⟩
theorem CoS.calm (h:CoS base w M vi items v R wr B) (c:Chg [] wr w2):CoS base w M vi items v R w2 B :=
 ⟨zoc h.own c (by simp),h.bs.chg c (by simp),h.its.chg c (by simp),h.chg.trans c,zLt h.low c.size⟩
theorem intVs_set (R:List Nat) (i y:Nat):(intVs R).set i (.int .i64 (y:Int))=intVs (R.set i y):=by unfold intVs;rw [List.map_set]
theorem set_split {R:List Nat} {i:Nat} (y:Nat) (hi:i<R.length):R.set i y=R.take i++y::R.drop (i+1):=by
 rw [List.set_eq_take_append_cons_drop,if_pos hi]
theorem CoS.put {g c i y:Nat} (h:CoS base w M vi items (.slice (some ⟨g,0,none⟩) R.length c) R wr B) (hw:w.heap.size<=base) (hi:i<R.length) :
  CoS base w M vi items (.slice (some ⟨g,0,none⟩) (R.set i y).length c) (R.set i y) (wr.setCell ⟨g,i,none⟩ (.int .i64 (y:Int))) B:=by
 have hg:=(h.own.lt g rfl);have c1:Chg [g] wr (wr.setCell ⟨g,i,none⟩ (.int .i64 (y:Int))):=(Chg.refl _ wr).setCell (.inl (by simp)) _;have hm:∀ q,q∈[g]->q∈ownL (.slice (some ⟨g,0,none⟩) R.length c):=fun q hq=>by rw [zms] at hq;subst hq;exact zml.2 rfl
 have e:(R.set i y).length=R.length:=List.length_set;refine ⟨?_,?_,?_,h.chg.then c1 (fun q hq => .inr (by rw [zms] at hq;omega)),zLt h.low c1.size⟩
 ·rw [e,<- intVs_set]
  exact ownRow_set h.own (by omega)
 ·rw [e];exact h.bs.chg c1 hm
 ·rw [e];exact h.its.chg c1 (fun k hk => .inl (zar _ (hm k hk)))
theorem CoS.grow {v':Value} {R':List Nat} {w3:World} (h:CoS base w M vi items v R wr B) (hw:w.heap.size<=base) (c:Chg [] wr w2) (hown:w3.ownsRow base 3 1 v' R'.length (intVs R')) (hg:w2.grownBy w3 v.ownBlock) (ho:v'.ownBlock=v.ownBlock∨v'.ownBlock=some w2.heap.size):CoS base w M vi items v' R' w3 B:=by
 have h2:=h.calm c;have cG:=(Chg.refl (ownL v) w2).grown hg (fun q hq => .inl (zml.2 hq))
 have hsub:∀ q,q∈ownL v'->q∈w2.heap.size::ownL v:=fun q hq=>by
  have hq:=zml.1 hq;rcases ho with e | e
  ·exact zco _ (zml.2 (e.symm.trans hq))
  ·rw [e] at hq
   rw [<- Option.some.inj hq];exact List.mem_cons_self
 refine ⟨hown,((h2.bs.new (zLr _)).chg cG (fun q hq=>zco _ hq)).sub hsub,?_,h2.chg.then cG (fun q hq => .inr (zLt hw (h2.own.lt q (zml.1 hq)).1)),zLt h2.low cG.size⟩;refine ((h2.its.more (A':=M.L++(w2.heap.size::ownL v)) (fun k hk=>?_)).chg cG (fun k hk => .inl (zar _ (zco _ hk)))).more (fun k hk=>?_)
 ·rcases List.mem_append.1 hk with hk | hk
  ·exact .inl (zal _ hk)
  ·rcases List.mem_cons.1 hk with rfl | hk
   ·exact .inr (zLr _)
   ·exact .inl (zar _ hk)
 ·rcases List.mem_append.1 hk with hk | hk
  ·exact .inl (zal _ hk)
  ·exact .inl (zar _ (hsub k hk))
theorem CoS.cell {g c i:Nat} (h:CoS base w M vi items (.slice (some ⟨g,0,none⟩) R.length c) R wr B) (hi:0<R.length):wr.frozen? ⟨g,i,none⟩=false:=by
 rcases h.own.2 with ⟨e,_⟩ | ⟨g',cp,cur,e,hb,hg,_⟩
 ·cases e
 ·injection e with e _ _
  injection e with e;injection e with e;subst e;exact zfb hg _
theorem Chg.grew {w0 w1 w':World} {size n:Nat} {e:TypeId} {z:Value} {xs:List Value} (h:Chg [] w0 w1) (o:w1.ownsRow w0.heap.size e size z n xs) (g:w1.grownBy w' z.ownBlock):Chg [] w0 w' :=
 h.then ((Chg.refl (ownL z) w1).grown g (fun q hq => .inl (zml.2 hq))) (fun q hq => .inr (o.lt q (zml.1 hq)).1)
theorem CoS.fresh {v':Value} {R':List Nat} (h:CoS base w M vi items v R wr B) (c:Chg [] wr w2) (hown:w2.ownsRow wr.heap.size 3 1 v' R'.length (intVs R')):CoS base w M vi items v' R' w2 B:=by
 refine ⟨⟨hown.1,?_⟩,?_,(h.its.more (A':=M.L++ownL v') fun k hk=>?_).chg c (by simp),h.chg.trans c,zLt h.low c.size⟩
 ·rcases hown.2 with e | ⟨g,cp,cur,e,hb,r⟩
  ·exact .inl e
  ·exact .inr ⟨g,cp,cur,e,zLt h.low hb,r⟩
 ·cases e:v'.ownBlock with
  | none=>exact (h.bs.chg c (by simp)).sub fun q hq=>by have:=(zml.1 hq).symm.trans e;cases this
  | some q =>
   refine ((h.bs.new (hown.lt q e).1).chg c (by simp)).sub fun k hk=>?_;obtain rfl:=Option.some.inj (e.symm.trans (zml.1 hk));exact List.mem_cons_self
 ·rcases List.mem_append.1 hk with hk | hk
  ·exact .inl (zal _ hk)
  ·exact .inr (hown.lt k (zml.1 hk)).1
theorem own_zero {W:World} {size b bs:Nat} {e:TypeId} (h:W.heap[b]?=some (.cells #[] e (0,0))) (hb:bs<=b):W.ownsRow bs e size (.slice (some ⟨b,0,none⟩) 0 0) 0 [] :=
 ⟨by simp,.inr ⟨b,0,#[],rfl,hb,h,Nat.zero_le _,by unfold maxLen;omega,by simp,by simp⟩⟩
theorem srcI_part {W:World} {bs g c j k m:Nat} {l l':List Nat} (h:W.ownsRow bs 3 1 (.slice (some ⟨g,0,none⟩) l.length c) l.length (intVs l)) (hm:m=l'.length) (hj:j+m<=l.length) (hl:∀ i,i<m->l'.getD i 0=l.getD (j+i) 0):AppSrc W 1 (.slice (some ⟨g,j,none⟩) m k) m (intVs l'):=by
 refine ⟨by unfold intVs;simp [hm],fun u hu=>?_,.inl ⟨g,j,k,rfl,(h.lt g rfl).2,fun i u hu=>?_⟩⟩
 ·unfold intVs at hu
  obtain ⟨z,_,rfl⟩:=List.mem_map.1 hu;rfl
 ·have hi:i<m:=by
   have:=(List.getElem?_eq_some_iff.1 hu).1;unfold intVs at this;rw [List.length_map] at this;omega
  rw [intVs_get (by omega),hl i hi,<- intVs_get (by omega)] at hu;rcases h.2 with ⟨e,_⟩ | ⟨g',cp,cur,e,hb,hg,r1,r2,r3,r4⟩
  ·cases e
  ·injection e with e _ _
   injection e with e;injection e with e;subst e;rw [zcb hg,<- hu,<- r4,List.getElem?_take_of_lt (by omega),Array.getElem?_toList]
theorem srcI_take {W:World} {bs g c j k:Nat} {l:List Nat} (h:W.ownsRow bs 3 1 (.slice (some ⟨g,0,none⟩) l.length c) l.length (intVs l)) (hj:j<=l.length):AppSrc W 1 (.slice (some ⟨g,0,none⟩) j k) j (intVs (l.take j)) :=
 srcI_part (j:=0) h (by rw [List.length_take];omega) (by omega) fun i hi=>by rw [zgD,List.getElem?_take_of_lt hi,<- zgD,Nat.zero_add]
theorem srcI_drop {W:World} {bs g c j:Nat} {l:List Nat} {p:Option Addr} (h:W.ownsRow bs 3 1 (.slice (some ⟨g,0,none⟩) l.length c) l.length (intVs l)) (hj:j<=l.length) (hp:p=if c=j then some ⟨g,0,none⟩ else some ⟨g,j,none⟩):AppSrc W 1 (.slice p (l.length - j) (c - j)) (l.length - j) (intVs (l.drop j)):=by
 have hc:l.length<=c:=by
  rcases h.2 with ⟨e,_⟩ | ⟨g',cp,cur,e,_,_,r1,_⟩
  ·cases e
  ·injection e with _ _ e;omega
 subst hp
 split
 ·exact srcI_part (j:=0) h (by rw [List.length_drop]) (by omega) fun i hi=>by omega
 ·exact srcI_part h (by rw [List.length_drop]) (by omega) fun i hi=>by rw [zgD,List.getElem?_drop,<- zgD]
end
theorem Rts.ctI {N G:Nat} {B:Bs} {R:List Nat} {items:List (Nat × Nat)} {ht:Ht} (h:Rts N G B R items ht) (hN:1<=N) (hR:R.length<=1000):CtIn N G B ht (pendL R) R (fun _=>0) where
 gr:=h.gr
 hM:=⟨hN,h.hM⟩
 top:=fun r hr=>by
  obtain ⟨c,hc,_⟩:=h.top r hr;exact .inr ⟨c,hc,by have:=h.low r c hc;omega⟩
 all:=fun n _ hp=>List.count_pos_iff.1 hp
 low:=fun n c hn=>by have:=h.low n c hn;omega
 tell:=fun k c hk hc=>by have:=h.low k c hk;omega
 sum:=fun b _ _=>by omega
 o0:=⟨rfl,rfl⟩
 big:=fun b _=>by omega
 len:=hR
theorem nil_look (w:World) {b:Int} (hb:(Lit.int .i64 b).wf=true):(Instr.lookup 68 (.map none) (.int .i64 b) false).run Tryz.prog w = .ok (.int .i64 0) w :=
 Maps.look_nil false (Maps.int_keyed Tryz.underlying3) Tryz.underlying68 (Tryz.zeroValue3 w) (Maps.keyOf_int_mk Tryz.underlying3 hb)
theorem TreeIs.walkAll {B:Bs} {x:Int} {c:Nat} {items:List (Nat × Nat)} (T:TreeIs B x c items) (ok:B.Ok) (hc:c<8) (hu:It64 items) {most:Int} (hm:(items.length:Int)<=most) (h1:1<=most):(items,(0:Int))=if most<1 then ([],0) else walkR (walkL B 0 18446744073709551615 x) most.toNat []:=by
 rw [if_neg (by omega),T.walk ok hc,walkR_ok,List.nil_append]
 have e:(items.filter fun p=>decide (0<=p.1)&&decide (p.1<=18446744073709551615))=items:=List.filter_eq_self.2 fun p hp=>by
  have:=hu p hp;simp;omega
 rw [e,List.take_of_length_le (by omega)]
section
variable (f1 f2 f3 f4:Nat->Nat)
noncomputable def ow2_:Bs:=((Bs.fmt 40).put f1).put f2
noncomputable def ow3_:Bs:=(ow2_ f1 f2).put f3
noncomputable def ow5_:Bs:=((((ow3_ f1 f2 f3).up 6).up 4).up 5).down 6
noncomputable def ow6_:Bs:=(ow5_ f1 f2 f3).put f4
noncomputable def ow7_:Bs:=(((ow6_ f1 f2 f3 f4).down 6).down 4).down 5
theorem ow_at1:((Bs.fmt 40).put f1).at_=5:=by kernel_rfl
theorem ow_at2:(ow2_ f1 f2).at_=6:=by kernel_rfl
theorem ow_now3:(ow3_ f1 f2 f3).T.now 6=1:=by kernel_rfl
theorem ow_at5:(ow5_ f1 f2 f3).at_=7:=by kernel_rfl
theorem ow_now6:(ow6_ f1 f2 f3 f4).T.now 4=2/\(ow6_ f1 f2 f3 f4).T.now 5=2/\(ow6_ f1 f2 f3 f4).T.now 6=1/\(ow6_ f1 f2 f3 f4).T.now 7=1:=⟨by kernel_rfl,by kernel_rfl,by kernel_rfl,by kernel_rfl⟩
theorem ow_now7:(ow7_ f1 f2 f3 f4).T.now 4=1/\(ow7_ f1 f2 f3 f4).T.now 5=1/\(ow7_ f1 f2 f3 f4).T.now 6=0/\(ow7_ f1 f2 f3 f4).T.now 7=1:=⟨by kernel_rfl,by kernel_rfl,by kernel_rfl,by kernel_rfl⟩
theorem ow_read6:(ow6_ f1 f2 f3 f4).read 6=(ow3_ f1 f2 f3).read 6:=by kernel_rfl
theorem ow_live7:(ow7_ f1 f2 f3 f4).live 4=true/\(ow7_ f1 f2 f3 f4).live 7=true:=⟨by kernel_rfl,by kernel_rfl⟩
theorem ow_read7:(ow7_ f1 f2 f3 f4).read 7=(ow6_ f1 f2 f3 f4).read 7:=by kernel_rfl
theorem ow_n7:(ow7_ f1 f2 f3 f4).T.n=(ow6_ f1 f2 f3 f4).T.n:=by kernel_rfl
theorem ow_n6:(ow6_ f1 f2 f3 f4).T.n=(ow3_ f1 f2 f3).T.n:=by kernel_rfl
end
theorem ow_raw:risL (rawOf [(1,1),(2,2)])=[(1,1),(2,2)]:=by kernel_rfl
theorem ow_grown:grownP 40 (rawOf [(1,1),(2,2)])=(ow2_ (blkF 1) (blkF 2),[(1,4),(2,5)]):=by
 unfold grownP;rw [ow_raw,grw_step.2 rfl,grw_step.2 (by rfl:fSet (fun _=>none) 1 (Bs.fmt 40).at_ 2=none)]
 show ((((Bs.fmt 40).put (blkF 1)).put (blkF 2)),[(1,(Bs.fmt 40).at_),(2,((Bs.fmt 40).put (blkF 1)).at_)])=_
 rw [at40,ow_at1];rfl
theorem ow_build:bldP 8 0 [(1,4),(2,5)] (ow2_ (blkF 1) (blkF 2))=(ow3_ (blkF 1) (blkF 2) (pageF true 2 (kOf [(1,4),(2,5)]) (vOf [(1,4),(2,5)])),6):=by
 rw [bldP_one (by decide) (by decide),ow_at2];rfl
theorem ow_is:∃ ht,Gr 40 1 (ow3_ (blkF 1) (blkF 2) (pageF true 2 (kOf [(1,4),(2,5)]) (vOf [(1,4),(2,5)]))) ht (mor (fun _=>0) 6)/\ht 6=some 0/\2<=(ow3_ (blkF 1) (blkF 2) (pageF true 2 (kOf [(1,4),(2,5)]) (vOf [(1,4),(2,5)]))).room/\∃ d,(ow3_ (blkF 1) (blkF 2) (pageF true 2 (kOf [(1,4),(2,5)]) (vOf [(1,4),(2,5)]))).nodeI 6=some d/\d.n=2/\d.v 0=4/\d.v 1=5:=by
 have hu:It64 (rawOf [(1,1),(2,2)]):=fun p hp=>by
  simp [rawOf] at hp;rcases hp with rfl | rfl <;> exact ⟨by decide,by decide⟩
 obtain ⟨w1,w2,w3,w4,w5,w6⟩:=gw_is (N:=40) (by omega) hu (by decide) (by rw [room_fmt (by omega)];decide);rw [ow_grown] at w6;have h:=w6 _ 6 (fun _=>ow_build.symm) (fun q=>by cases q);obtain ⟨ht,c,t⟩:=h.cons (by simp);obtain ⟨_,_,d,hd,nd⟩:=t.gr.node 6 c t.top;have hrt:rightB true 2 2 (kOf [(1,4),(2,5)]) (vOf [(1,4),(2,5)])=true:=by decide
 obtain ⟨d',h',a1,a2,a3,a4⟩:=decN_page hrt (fun i _=>(h.u.getD i).1) (fun i _=>(h.u.getD i).2);have hn:=node_put (B:=ow2_ (blkF 1) (blkF 2)) (by rw [ow_at2];omega) (by rw [ow_at2];decide) hrt;rw [ow_at2,h'] at hn;obtain rfl:d'=d:=Option.some.inj (hn.symm.trans hd)
 have hc:c=0:=by
  have h1:=nd.leaf;rw [a1] at h1;have h2:=of_decide_eq_true h1.symm;have:=t.lt;omega
 subst hc;have hrm:=h.room;rw [room_fmt (by omega)] at hrm;exact ⟨ht,t.gr,t.top,by have e:(40:Int) - 2 - 2*(needN 40:Int) - 2*((rawOf [(1,1),(2,2)]).length:Int)=30:=(by decide);rw [show ((40:Nat):Int)=40 from rfl,e] at hrm;omega,d',hn,a2,a4 0 (by omega),a4 1 (by omega)⟩
noncomputable def owB3:Bs:=ow3_ (blkF 1) (blkF 2) (pageF true 2 (kOf [(1,4),(2,5)]) (vOf [(1,4),(2,5)]))
noncomputable def owB6 (d:Nd):Bs:=ow6_ (blkF 1) (blkF 2) (pageF true 2 (kOf [(1,4),(2,5)]) (vOf [(1,4),(2,5)])) d.pg
noncomputable def owB7 (d:Nd):Bs:=ow7_ (blkF 1) (blkF 2) (pageF true 2 (kOf [(1,4),(2,5)]) (vOf [(1,4),(2,5)])) d.pg
structure Aw14 (d:Nd) (ht ht2:Ht) (p2:Nat->Nat):Prop where
 g3:Gr 40 1 owB3 ht (mor (fun _=>0) 6)
 n3:owB3.nodeI 6=some d
 i3:owB3.isI 6=true
 g4:Gr 40 1 (owB3.up 6) ht (mor (mor (fun _=>0) 6) 6)
 n4:(owB3.up 6).nodeI 6=some d
 i4:(owB3.up 6).isI 6=false
 o4:OwnOk (owB3.up 6) 6 d
 e6:ownP (owB3.up 6) 6 d=(7,owB6 d)
 g6:Gr 40 1 (owB6 d) ht2 p2
 top:ht2 6=some 0/\ht2 7=some 0
 pos:p2=mor (mor (fun _=>0) 6) 7
 n6:(owB6 d).nodeI 6=some d/\(owB6 d).nodeI 7=some d
 r6:1<=(owB6 d).room
 e7:((owB6 d).down 6).dwns d.v d.n=owB7 d
theorem aw14_ok:∃ d ht ht2 p2,Aw14 d ht ht2 p2:=by
 obtain ⟨ht,g3,h6,r3,d,hd,dn,d0,d1⟩:=ow_is;have r3:2<=owB3.room:=r3;have g3:Gr 40 1 owB3 ht (mor (fun _=>0) 6):=g3;have hd:owB3.nodeI ((6:Nat):Int)=some d:=hd;have now3:owB3.T.now 6=1:=ow_now3 _ _ _
 have fr3:(owB3.fr 6).isSome=true:=by
  show ((ow2_ (blkF 1) (blkF 2)).put _ |>.fr 6).isSome=true
  unfold Bs.put;rw [ow_at2];rfl
 have i3:=g3.isI_of (x:=6) (by omega) fr3 now3 hd;obtain ⟨-,u2,u3,u4,u5,u6,u7⟩:=g3.up (x:=6) (by omega) (g3.lt h6).2 (by rw [now3];omega)
 have g4:Gr 40 1 (owB3.up ((6:Nat):Int)) ht (mor (mor (fun _=>0) 6) 6):=u2.pendc fun b _ _=>by
  unfold mor;by_cases e:b=6
  ·subst e;rfl
  ·rw [if_neg e,if_neg e]
 have n4:(owB3.up ((6:Nat):Int)).nodeI ((6:Nat):Int)=some d:=by rw [u3];exact hd
 have now4:(owB3.up ((6:Nat):Int)).T.now 6=2:=by rw [u5,if_pos rfl,now3]
 have i4:(owB3.up ((6:Nat):Int)).isI ((6:Nat):Int)=false:=by
  cases hi:(owB3.up ((6:Nat):Int)).isI ((6:Nat):Int) with
  | false=>rfl
  | true =>
   have:=(Bs.isI_iff hi).2.2.2.1;rw [g4.getV (by omega),now4] at this;omega
 have r4:0<(owB3.up ((6:Nat):Int)).room:=by
  rw [u6];omega
 obtain ⟨o4,ht2,ow⟩:=g4.own_many (by omega) (fun b=>by unfold mor;show 0+_+_<=30000;split <;> omega) h6 n4 (by unfold mor;simp) i4 r4 (by rw [now4];omega)
 have eu:(owB3.up ((6:Nat):Int)).ups d.v 2=((owB3.up 6).up 4).up 5:=by
  show (if d.v 1=0 then (if d.v 0=0 then _ else _) else Bs.up (if d.v 0=0 then _ else _) _)=_
  rw [d0,d1,if_neg (by decide),if_neg (by decide)];rfl
 have e5:(owB3.up ((6:Nat):Int)).own2 6 d=ow5_ (blkF 1) (blkF 2) (pageF true 2 (kOf [(1,4),(2,5)]) (vOf [(1,4),(2,5)])):=by
  unfold Bs.own2 Bs.own1;rw [now4,if_pos (by omega),dn,eu];rfl
 have a7:((owB3.up ((6:Nat):Int)).own2 6 d).at_=7:=by rw [e5];exact ow_at5 _ _ _
 have eb:((owB3.up ((6:Nat):Int)).own2 6 d).put d.pg=owB6 d:=by rw [e5];rfl
 rw [a7,eb] at ow;refine ⟨d,ht,ht2,_,{ g3:=g3,n3:=hd,i3:=i3,g4:=g4,n4:=n4,i4:=i4,o4:=o4,e6:=?_,g6:=ow.gr,top:=⟨(ow.kp.tree 6 0 h6 (by unfold les mor;simp)).1,ow.top⟩,pos:=?_,n6:=⟨?_,ow.node⟩,r6:=by have:=ow.room;rw [u6] at this;omega,e7:=?_ }⟩
 ·unfold ownP
  rw [if_neg (fun q=>by have:=i4.symm.trans q;cases this)];exact Prod.ext a7 eb
 ·funext b
  unfold mor les;by_cases e:b=6
  ·subst e;rfl
  ·simp [e]
 ·exact (nodeI_of (ow_n6 _ _ _ _) (ow_read6 _ _ _ _)).trans hd
 ·rw [dn]
  show (if d.v 1=0 then (if d.v 0=0 then _ else _) else Bs.down (if d.v 0=0 then _ else _) _)=_
  rw [d0,d1,if_neg (by decide),if_neg (by decide)];rfl
theorem own_now4 {C:Bs} {d:Nd} (h7:C.T.now 7=1) (h4:C.T.now 4=1) (hd:C.down ((7:Nat):Int)=C.counted (C.T.set 7 (C.T.now 7 - 1)) 7):((C.own2 7 d).put d.pg).T.now 4=1:=by
 show (if 4=(C.own2 7 d).at_ then 1 else (C.own2 7 d).T.now 4)=1
 by_cases e:4=(C.own2 7 d).at_
 ·rw [if_pos e]
 ·rw [if_neg e]
  unfold Bs.own2 Bs.own1;rw [h7,if_neg (by omega),hd]
  show (if 4=7 then C.T.now 7 - 1 else C.T.now 4)=1
  rw [if_neg (by omega),h4]
structure AwEnd (d:Nd):Prop where
 good:Good 40 1 (owB7 d)
 node:(owB7 d).commit.nodeI ((7:Nat):Int)=some d
 n:(owB7 d).commit.T.n=40
 ok:(owB7 d).commit.isI ((7:Nat):Int)=false->OwnOk (owB7 d).commit 7 d
 ne:(ownP (owB7 d).commit 7 d).1≠7
 lt:(ownP (owB7 d).commit 7 d).1<40
 is:(ownP (owB7 d).commit 7 d).2.isI ((ownP (owB7 d).commit 7 d).1:Int)=true
 c4:getV (ownP (owB7 d).commit 7 d).2.T 4=1
 c7:getV (ownP (owB7 d).commit 7 d).2.T 7=0
theorem aw14_end {d:Nd} {ht ht2 ht7:Ht} {p2:Nat->Nat} (A:Aw14 d ht ht2 p2) (l:Less 40 1 (owB6 d) ht2 p2 6 (owB7 d) ht7):AwEnd d:=by
 have cm:=l.gr.good.commit_ (by omega);obtain ⟨g8,hk⟩:=l.gr.commit cm;have h7:ht7 7=some 0:=(l.kp.tree 7 0 A.top.2 (by rw [A.pos];unfold les mor;simp)).1;have hp7:les p2 6 7=1:=by rw [A.pos];unfold les mor;simp
 have n7:(owB6 d).nodeI ((7:Nat):Int)=some d:=A.n6.2;have hl7:=ow_live7 (blkF 1) (blkF 2) (pageF true 2 (kOf [(1,4),(2,5)]) (vOf [(1,4),(2,5)])) d.pg;have hw7:=ow_now7 (blkF 1) (blkF 2) (pageF true 2 (kOf [(1,4),(2,5)]) (vOf [(1,4),(2,5)])) d.pg;have now7:(owB7 d).commit.T.now 7=1:=(cm.now 7 hl7.2).trans hw7.2.2.2;have now4:(owB7 d).commit.T.now 4=1:=(cm.now 4 hl7.1).trans hw7.1
 have hi:(owB7 d).commit.isI ((7:Nat):Int)=false:=by
  cases hq:(owB7 d).commit.isI ((7:Nat):Int) with
  | false=>rfl
  | true =>
   have:=(Bs.isI_iff hq).2.2.1;rw [Int.toNat_natCast,cm.fr 7 (by omega)] at this;cases this
 have hr:0<(owB7 d).commit.room:=by
  have h1:=l.room;have h2:=A.r6;have h3:=l.gr.good.room;have h4:=cm.good.room;rw [cm.waits,cnt_congr (q:=(owB7 d).live) (fun b _=>cm.live b)] at h4;omega
 obtain ⟨d',hd',hok,ht8,o⟩:=g8.own (x:=7) (by omega) (fun b=>by rw [A.pos];unfold les mor;show 0+_+_ - _<=30000;split <;> split <;> omega) h7 (by omega) hr
 have hnd:(owB7 d).commit.nodeI ((7:Nat):Int)=some d:=by
  rw [hk 7 0 h7,nodeI_of (B:=owB6 d) (B':=owB7 d) (ow_n7 _ _ _ _) (x:=7) (ow_read7 _ _ _ _)];exact n7
 obtain rfl:d'=d:=Option.some.inj (hd'.symm.trans hnd);obtain ⟨m1,m2⟩:=o.move hi;refine ⟨l.gr.good,hnd,by rw [g8.good.n],hok,m1,(o.gr.lt o.top).1,o.is,?_,?_⟩
 ·rw [show (4:Int)=((4:Nat):Int) from rfl,o.gr.getV (by omega)]
  have:(ownP (owB7 d').commit 7 d').2.T.now 4=1:=by
   unfold ownP;rw [hi];exact own_now4 now7 now4 ((downs_eq g8.good (x:=7) (by omega) (g8.lt h7).2).2)
  rw [this];rfl
 ·rw [show (7:Int)=((7:Nat):Int) from rfl,o.gr.getV (by omega),m2 now7];rfl
theorem its8_two {w:World} {b:Nat} (h:w.heap[b]?=some (.cells #[.int .u64 1,.int .u8 1,.int .u64 2,.int .u8 2] 197 (0,0))):Its8 [] w (.slice (some ⟨b,0,none⟩) 2 2) [(1,1),(2,2)]:=by
 refine ⟨⟨_,2,rfl,zLr _,by unfold maxLen;decide,fun _=>⟨b,0,rfl,zhl h,by simp,fun i hi=>?_⟩⟩,fun p hp=>?_⟩
 ·have hi:i=0∨i=1:=by simp at hi;omega
  rcases hi with rfl | rfl
  ·exact ⟨(zcb h 0).trans rfl,(zcb h 1).trans rfl⟩
  ·exact ⟨(zcb h 2).trans rfl,(zcb h 3).trans rfl⟩
 ·simp at hp
  rcases hp with rfl | rfl <;> exact ⟨by decide,by decide⟩
theorem awake14_at (w:World):Calls Tryz.prog 64 #[] w fun e w'=>e = .returned (.bool true)/\Chg [] w w':=by
 obtain ⟨d,ht,ht2,p2,A⟩:=aw14_ok;have HA:=zh A;clear A;have hX:=znb w (.cells #[.int .u64 1,.int .u8 1,.int .u64 2,.int .u8 2] 197);have hW:=(Chg.refl [] w).alloc (.cells #[.int .u64 1,.int .u8 1,.int .u64 2,.int .u8 2] 197);have cg:=grown_at (N:=40) (by omega) (its8_two hX) (by decide) (by rw [room_fmt (by omega)];decide)
 change Calls _ _ #[.int .i64 40,.slice (some ⟨w.heap.size,0,none⟩) 2 2] _ _ at cg
 have CG:=zh cg;have HW:=zh hW;clear hX hW cg;go_enter Tryz.func64,Tryz.ntmps64;go_wp2_with fail;refine CG.out.mono ?_;clear CG;rintro e w1 ⟨M,x,B,vi,rfl,hb1,hgw,hiv,hc1,hM,hbl⟩
 obtain ⟨rfl,rfl⟩:B=owB3/\x=6:=by
  have h:=hbl (by rw [ow_grown];simp);rw [ow_grown,ow_build] at h;exact ⟨congrArg Prod.fst h,congrArg Prod.snd h⟩
 obtain ⟨va,vc,rfl,_,_⟩:=hiv.len;have HM:=zh (fun q hq => .inr (zLt HW.out.size (hM q hq)):∀ q,q∈M.L->q∈([]:List Nat)∨w.heap.size<=q);have H1:=zh (zA hb1 (zA (HW.out.trans hc1) hM));have co:=owOwn_at (x:=6) hb1 (fun q hq=>by cases hq) (by rw [HA.out.g3.good.n];omega) HA.out.n3 (fun h=>by have:=HA.out.i3.symm.trans h;cases this);rw [show ownP owB3 6 d=(6,owB3) by unfold ownP;exact if_pos HA.out.i3] at co;have CO:=zh co;clear hb1 hgw hiv hc1 hM hbl co;go_wp2_with fail;refine CO.out.mono ?_;clear CO;rintro e w2 ⟨rfl,hb2,hc2⟩;have cu:=bUp_at hb2 (fun q hq=>by cases hq) 6;have CU:=zh cu;have H2:=zh (zA hb2 (H1.out.2.1.then hc2 (fun q hq => .inr (zLt HW.out.size (H1.out.2.2 q hq)))));clear hb2 hc2 cu;go_wp2_with fail;refine CU.out.mono ?_;clear CU;rintro e w3 ⟨rfl,hb3,hc3⟩;have co:=owOwn_at (x:=6) hb3 (fun q hq=>by cases hq) (by rw [HA.out.g4.good.n];omega) HA.out.n4 (fun _=>HA.out.o4);rw [HA.out.e6] at co;have CO:=zh co;have H3:=zh (zA hb3 (H2.out.2.then hc3 (fun q hq => .inr (zLt HW.out.size (H1.out.2.2 q hq)))));clear hb3 hc3 co;go_wp2_with fail;refine CO.out.mono ?_;clear CO;rintro e w4 ⟨rfl,hb4,hc4⟩;have c4:Chg [] w w4:=H3.out.2.then hc4 (fun q hq => .inr (zLt HW.out.size (H1.out.2.2 q hq)));have hn6:=ow_now6 (blkF 1) (blkF 2) (pageF true 2 (kOf [(1,4),(2,5)]) (vOf [(1,4),(2,5)])) d.pg;have v6:∀ x:Nat,x<40->getV (owB6 d).T (x:Int)=((owB6 d).T.now x:Int):=fun x hx=>HA.out.g6.getV hx;have k4:=hb4.cCount 4;have k5:=hb4.cCount 5;have k6:=hb4.cCount 6;have k7:=hb4.cCount 7
 rw [show getV (owB6 d).T 4=2 from (v6 4 (by omega)).trans (by rw [show (owB6 d).T.now 4=2 from hn6.1];rfl)] at k4;rw [show getV (owB6 d).T 5=2 from (v6 5 (by omega)).trans (by rw [show (owB6 d).T.now 5=2 from hn6.2.1];rfl)] at k5;rw [show getV (owB6 d).T 6=1 from (v6 6 (by omega)).trans (by rw [show (owB6 d).T.now 6=1 from hn6.2.2.1];rfl)] at k6;rw [show getV (owB6 d).T 7=1 from (v6 7 (by omega)).trans (by rw [show (owB6 d).T.now 7=1 from hn6.2.2.2];rfl)] at k7;have H4:=zh (zA hb4 (zA c4 hn6));have clt:=zh (owLet_at w4 M (fun q hq=>hb4.ltL hq));clear hb4 hc4 c4 hn6 v6 H2 H3 H1;go_wp2_with fail;refine (k4).mono ?_;rintro e w' ⟨rfl,rfl⟩;go_wp2_with fail;refine (k5).mono ?_;rintro e w' ⟨rfl,rfl⟩;go_wp2_with fail;refine (k6).mono ?_;rintro e w' ⟨rfl,rfl⟩;go_wp2_with fail;refine (k7).mono ?_;rintro e w' ⟨rfl,rfl⟩;go_wp2_with fail;refine clt.out.mono ?_;clear clt;rintro e w5 ⟨bx,rfl,hbx,hc5⟩;have cd:=owDrop_at (x:=6) (k:=0) (bx:=bx) (F:=[]) ⟨H4.out.1.chg hc5 (by simp),fun q hq=>(by cases hq),HA.out.g6,by omega,HA.out.top.1,by rw [HA.out.pos];unfold mor;simp,by omega,hbx⟩
 change Calls _ _ #[_,.int .i64 6,_] _ _ at cd
 have CD:=zh cd;have H5:=zh (H4.out.2.1.trans hc5);clear cd hbx hc5;go_wp2_with fail;refine CD.out.mono ?_;clear CD;rintro e w6 ⟨rfl,B',ht7,hb6,hl,hc6,he⟩;obtain rfl:B'=owB7 d:=(he rfl H4.out.2.2.2.2.1 d HA.out.n6.1).trans HA.out.e7;have E:=aw14_end HA.out hl;have hn7:=ow_now7 (blkF 1) (blkF 2) (pageF true 2 (kOf [(1,4),(2,5)]) (vOf [(1,4),(2,5)])) d.pg;have v7:∀ x:Nat,x<40->getV (owB7 d).T (x:Int)=((owB7 d).T.now x:Int):=fun x hx=>hl.gr.getV hx;have k4:=hb6.cCount 4;have k5:=hb6.cCount 5;have k6:=hb6.cCount 6;rw [show getV (owB7 d).T 4=1 from (v7 4 (by omega)).trans (by rw [show (owB7 d).T.now 4=1 from hn7.1];rfl)] at k4;rw [show getV (owB7 d).T 5=1 from (v7 5 (by omega)).trans (by rw [show (owB7 d).T.now 5=1 from hn7.2.1];rfl)] at k5;rw [show getV (owB7 d).T 6=0 from (v7 6 (by omega)).trans (by rw [show (owB7 d).T.now 6=0 from hn7.2.2.1];rfl)] at k6;have CC:=zh (bCommit_any hb6 (fun q hq=>by cases hq) E.good (by omega));have hM5:∀ q,q∈M.L->q∈([]:List Nat)∨w.heap.size<=q:=HM.out;have H6:=zh (H5.out.then hc6 hM5);have HE:=zh E;clear hb6 hl hc6 he E hn7 v7 hM5;go_wp2_with fail;refine (k4).mono ?_;rintro e w' ⟨rfl,rfl⟩;go_wp2_with fail;refine (k5).mono ?_;rintro e w' ⟨rfl,rfl⟩;go_wp2_with fail;refine (k6).mono ?_;rintro e w' ⟨rfl,rfl⟩;go_wp2_with fail;refine CC.out.mono ?_;clear CC;rintro e w7 ⟨rfl,hb7,hc7⟩;have co:=owOwn_at (x:=7) hb7 (fun q hq=>by cases hq) (by rw [HE.out.n];omega) HE.out.node HE.out.ok
 change Calls _ _ #[_,.int .i64 7] _ _ at co
 have CO:=zh co;have H7:=zh (H6.out.then hc7 HM.out);clear co hb7 hc7;go_wp2_with fail;refine CO.out.mono ?_;clear CO;rintro e w8 ⟨rfl,hb8,hc8⟩;obtain ⟨y,hy⟩:∃ y,y=(ownP (owB7 d).commit 7 d).1:=⟨_,rfl⟩;have hne:=HE.out.ne;have hlt:=HE.out.lt;have his:=HE.out.is;rw [<- hy] at hne hlt his ⊢;have ci:=owIs_at hb8 (y:Int) (WalkArith.wf_i64 (by omega));rw [his] at ci;have y7:((y:Int)==7)=false:=by rw [beq_eq_false_iff_ne];omega
 have y8:((y:Int) != 7)=true:=by rw [bne_iff_ne];omega
 have y9:¬ (y:Int)=7:=by omega
 have k4:=zh (fun (w':World) (h:BaseAt w' M [] (ownP (owB7 d).commit 7 d).2)=>h.cCount 4);have k7:=zh (fun (w':World) (h:BaseAt w' M [] (ownP (owB7 d).commit 7 d).2)=>h.cCount 7);have H8:=zh (zA hb8 (H7.out.then hc8 HM.out));have CI:=zh ci;clear ci hb8 hc8 hne his hy;go_wp2_with fail;refine CI.out.mono ?_;clear CI;rintro e w9 ⟨rfl,hc9⟩;have hb9:=H8.out.1.chg hc9 (by simp);have m4:=k4.out w9 hb9;have m7:=k7.out w9 hb9;rw [HE.out.c4] at m4;rw [HE.out.c7] at m7;have H9:=zh (H8.out.2.trans hc9);clear hb9 hc9 k4 k7;go_wp2_with fail;refine (m4).mono ?_;rintro e w' ⟨rfl,rfl⟩;go_wp2_with fail;refine (m7).mono ?_;rintro e w' ⟨rfl,rfl⟩;go_wp2_with fail;go_ret;exact ⟨rfl,H9.out⟩
end Go.Proofs.YtkhcaclndepgbaaGreat
