/- Layer 14's statements: Grown. · Layers 14 and on, in plain words: what was put since the disk was formatted is fresh. · Layers 14 and 16: Grown of the first items, as the statements call it. · Layer 14's statements in plain words: roots that are shared, and let go. -/
import Derived.Test.YtkhcaclndepgbaaGreatZn42
set_option linter.unusedVariables false
set_option linter.unusedSimpArgs false
set_option maxRecDepth 100000
set_option maxHeartbeats 20000000
namespace Go.Proofs.YtkhcaclndepgbaaGreat
open Go.RowKit
structure Its8 (A:List Nat) (w:World) (v:Value) (l:List (Nat × Nat)):Prop where
 e:∃ a c,v = .slice a l.length c/\l.length<=c/\c<=maxLen/\(0<l.length->∃ b o,a=some ⟨b,o,none⟩/\b<w.heap.size/\b∉A/\∀ i,i<l.length->w.cell? ⟨b,o+i*2,none⟩=some (.int .u64 ((l.getD i (0,0)).1:Int))/\w.cell? ⟨b,o+i*2+1,none⟩=some (.int .u8 ((l.getD i (0,0)).2:Int)))
 u:∀ p,p∈l->p.1<18446744073709551616/\p.2<256
theorem Its8.chg {A L:List Nat} {w w':World} {v:Value} {l:List (Nat × Nat)} (h:Its8 A w v l) (c:Chg L w w') (hL:∀ k,k∈L->k∈A∨w.heap.size<=k):Its8 A w' v l:=by
 obtain ⟨⟨a,cp,rfl,h1,h2,h3⟩,hu⟩:=h;refine ⟨⟨a,cp,rfl,h1,h2,fun h0=>?_⟩,hu⟩;obtain ⟨b,o,rfl,hb,hA,hc⟩:=h3 h0
 have hn:b∉L:=fun hm=>by
  rcases hL b hm with q | q
  ·exact hA q
  ·omega
 exact ⟨b,o,rfl,zLl hb c.size,hA,fun i hi=>⟨(c.cell (p:=⟨b,o+i*2,none⟩) hb hn).trans (hc i hi).1,(c.cell (p:=⟨b,o+i*2+1,none⟩) hb hn).trans (hc i hi).2⟩⟩
theorem Its8.len {A:List Nat} {w:World} {v:Value} {l:List (Nat × Nat)} (h:Its8 A w v l):∃ a c,v = .slice a l.length c/\l.length<=c/\c<=9223372036854775807:=by
 obtain ⟨⟨a,c,e,h1,h2,_⟩,_⟩:=h;exact ⟨a,c,e,h1,by unfold maxLen at h2;omega⟩
theorem Its8.get {A:List Nat} {w:World} {a:Option Addr} {n c:Nat} {l:List (Nat × Nat)} (h:Its8 A w (.slice a n c) l) {i:Nat} (hi:i<l.length) :
  ∃ b o,a=some ⟨b,o,none⟩/\b<w.heap.size/\b∉A/\w.cell? ⟨b,o+i*2,none⟩=some (.int .u64 ((l.getD i (0,0)).1:Int))/\w.cell? ⟨b,o+i*2+1,none⟩=some (.int .u8 ((l.getD i (0,0)).2:Int)):=by
 obtain ⟨⟨a',cp,e,h1,h2,h3⟩,hu⟩:=h;injection e with e _ _;obtain ⟨b,o,e',hb,hA,hc⟩:=h3 (by omega);exact ⟨b,o,e.trans e',hb,hA,(hc i hi).1,(hc i hi).2⟩
def rawOf (l:List (Nat × Nat)):List (Nat × Nat):=l.map fun p=>(p.1,p.2 % 16)
theorem rawOf_u {A:List Nat} {w:World} {v:Value} {l:List (Nat × Nat)} (h:Its8 A w v l):It64 (rawOf l):=fun p hp=>by
 obtain ⟨q,hq,rfl⟩:=List.mem_map.1 hp;exact ⟨(h.u q hq).1,by show q.2 % 16<_;omega⟩
theorem rawOf_take {l:List (Nat × Nat)} {i:Nat} (hi:i<l.length):rawOf (l.take (i+1))=rawOf (l.take i)++[((l.getD i (0,0)).1,(l.getD i (0,0)).2 % 16)]:=by
 unfold rawOf;rw [List.take_succ_eq_append_getElem hi,List.map_append,getD_lt hi];rfl
structure GwI (w:World) (M:Bm) (N mb bs:Nat) (va:Option Addr) (kk vc:Nat) (r:List (Nat × Nat)) (R0:Bs × List (Nat × Nat)) (c0:Int) (i:Nat) (wx:World) (B:Bs) (f:Nat->Option Nat) (out:List (Nat × Nat)):Prop where
 n:out.length=i
 base:BaseAt wx M (ownL (.slice va kk vc)++[mb]) B
 map:KMap8 Tryz.prog 5 (fun _=>true) wx mb 256 (fun d=>(f d).map fun (b:Nat)=>Value.int .i64 (b:Int))
 gi:GI N B f out (kk - i) c0
 own:wx.ownsRow bs 104 2 (.slice va kk vc) kk (itVs (out++r.drop i))
 res:R0=((grwP (r.drop i) B f).1,out++(grwP (r.drop i) B f).2)
 chg:Chg [] w wx
theorem itVs_put (out r:List (Nat × Nat)) (p:Nat × Nat) (b:Nat):(itVs (out++p::r)).set (out.length*2+1) (.int .u64 (b:Int))=itVs ((out++[(p.1,b)])++r):=by
 rw [itVs_app,itVs_cons,List.append_assoc,itVs_app,List.singleton_append,itVs_cons,<- itVs_len out,List.set_append_right _ _ (by omega)];congr 1;rw [show (itVs out).length+1 - (itVs out).length=1 by omega];rfl
theorem GwI.next {w w3:World} {M:Bm} {N mb bs kk vc g:Nat} {r:List (Nat × Nat)} {R0:Bs × List (Nat × Nat)} {c0:Int} {i:Nat} {B':Bs} {f':Nat->Option Nat} {out:List (Nat × Nat)} {b:Nat} (hi:i<kk) (hkk:kk=r.length) (hw:w.heap.size<=bs) (hmb:mb<bs)
  (hn:out.length=i) (hbase:BaseAt w3 M (ownL (.slice (some ⟨g,0,none⟩) kk vc)++[mb]) B') (hmap:KMap8 Tryz.prog 5 (fun _=>true) w3 mb 256 (fun d=>(f' d).map fun (b:Nat)=>Value.int .i64 (b:Int))) (hgi:GI N B' f' (out++[((r.getD i (0,0)).1,b)]) (kk - (i+1)) c0)
  (hown:w3.ownsRow bs 104 2 (.slice (some ⟨g,0,none⟩) kk vc) kk (itVs (out++r.drop i))) (hres:R0=((grwP (r.drop (i+1)) B' f').1,(out++[((r.getD i (0,0)).1,b)])++(grwP (r.drop (i+1)) B' f').2)) (hchg:Chg [] w w3) :
  GwI w M N mb bs (some ⟨g,0,none⟩) kk vc r R0 c0 (i+1) (w3.setCell ⟨g,i*2+1,none⟩ (.int .u64 (b:Int))) B' f' (out++[((r.getD i (0,0)).1,b)]):=by
 have hg:=(hown.lt g rfl).1;have hc:Chg [g] w3 (w3.setCell ⟨g,i*2+1,none⟩ (.int .u64 (b:Int))):=(Chg.refl _ w3).setCell (.inl (by simp)) _;have hr:r.drop i=r.getD i (0,0)::r.drop (i+1):=by rw [List.drop_eq_getElem_cons (by omega),getD_lt (by omega)]
 have ho:=ownRow_set (v := .int .u64 (b:Int)) hown (i:=i*2+1) (by omega);rw [hr,<- hn,itVs_put,hn] at ho;exact ⟨by simp [hn],hbase.chg hc (fun x hx=>by rw [zms] at hx;subst hx;exact zal _ (by unfold ownL;simp [Value.ownBlock])),hmap.chg hc (by simp only [zms];omega),hgi,ho,hres,hchg.then hc (fun x hx => .inr (by rw [zms] at hx;omega))⟩
theorem grown_at {w:World} {N:Nat} (hN:16<=N/\N<=4096) {A:List Nat} {v:Value} {l:List (Nat × Nat)} (hit:Its8 A w v l) (h200:l.length<=200) (hr:2*(l.length:Int)+2<=(Bs.fmt N).room) :
  Calls Tryz.prog 63 #[.int .i64 (N:Int),v] w fun e w'=>∃ (M:Bm) (x:Nat) (B:Bs) (vi:Value),e = .returned (.tuple #[.pointer (some ⟨M.b,0,none⟩),.int .i64 (x:Int),vi,.bool true]) /\
   BaseAt w' M [] B/\GwIs N (rawOf l) (grownP N (rawOf l)).2 B x/\ItemsIn M.L w' vi (grownP N (rawOf l)).2/\Chg [] w w'/\(∀ q,q∈M.L->w.heap.size<=q)/\((grownP N (rawOf l)).2≠[]->(B,x)=bldP 8 0 (grownP N (rawOf l)).2 (grownP N (rawOf l)).1):=by
 obtain ⟨a,c,rfl,hc1,hc2⟩:=hit.len;have H:=zh hit;have cB:=base13_at w hN (F:=[]) (fun q hq=>by cases hq);obtain ⟨n,hn⟩:∃ n,n=l.length:=⟨_,rfl⟩;rw [<- hn] at h200 hc1 ⊢;replace H:Hid (Its8 A w (.slice a n c) l):=by rw [hn];exact H
 obtain ⟨R0,hR0⟩:∃ R0,R0=grownP N (rawOf l):=⟨_,rfl⟩;rw [<- hR0];have HR:=zh hR0;clear hR0;have HN:=zh (zA hn (zA hN hr));clear hit hn hr;go_enter Tryz.func63,Tryz.ntmps63;go_wp2_with fail;refine cB.mono ?_;clear cB;rintro e w1 ⟨M,rfl,hb1,hcw1,hM⟩;have H1:=zh (zA hb1 (zA hcw1 hM));clear hb1 hcw1 hM;have hmk:=run_makeMap (P:=Tryz.prog) 195 w1;go_upto_region 7 with fail;have hb0:=(H1.out.1.new (zLr _)).chg ((Chg.refl [] w1).alloc (.map #[] 0)) (by simp);have hc0:=H1.out.2.1.alloc (.map #[] 0);have hk0:KMap8 Tryz.prog 5 (fun _=>true) (w1.alloc (.map #[] 0)) w1.heap.size 256 (fun _=>none):=KMap8.made w1 256;have hs0:w1.heap.size<(w1.alloc (.map #[] 0)).heap.size:=hk0.lt;generalize w1.alloc (.map #[] 0)=W0 at hb0 hc0 hk0 hs0 ⊢;obtain ⟨mb,hmb⟩:∃ mb,mb=w1.heap.size:=⟨_,rfl⟩;rw [<- hmb] at hb0 hk0 hs0 ⊢;have hmM:mb∉M.L:=fun hm=>by have:=H1.out.1.ltL hm;omega
 have H2:=zh (zA hb0 (zA hc0 (zA hk0 (zA hs0 (zA hmM hmb)))));clear hb0 hc0 hk0 hs0 hmb hmM hmk;go_loopg [11,32] n (fun gg s11 s32 wr=>∃ i:Nat,gg=n - i/\i<=n/\s32 = .int .i64 (i:Int)/\Hid (wr.ownsRow W0.heap.size 104 2 s11 i (itVs (rawOf (l.take i)))/\Chg [] W0 wr))
 case atStart=>exact ⟨0,rfl,Nat.zero_le _,rfl,zh ⟨World.ownsRow_nil _ _ _ _,Chg.refl _ _⟩⟩
 case round =>
  obtain ⟨i,hgg,hi,rfl,HX⟩:=hrel;have HGG:=zh hgg;clear hgg;by_cases hin:i<n
  ·have i1:(i:Int)<(n:Int):=by omega
   obtain ⟨b,o,rfl,hb,hbA,q0,q1⟩:=((H.out.chg H2.out.2.1 (by simp)).chg HX.out.2 (by simp)).get (i:=i) (by rw [<- HN.out.1];exact hin);have hu:=H.out.u (l.getD i (0,0)) (by rw [getD_lt (by rw [<- HN.out.1];exact hin)];exact List.getElem_mem _);have htk:=rawOf_take (l:=l) (i:=i) (by rw [<- HN.out.1];exact hin);obtain ⟨x,hx⟩:∃ x,x=l.getD i (0,0):=⟨_,rfl⟩;rw [<- hx] at q0 q1 hu htk;obtain ⟨k,d⟩:=x;simp only at q0 q1 hu htk;have HT:=zh htk;clear hx htk;obtain ⟨ua,uc,rfl,u1,u2⟩:=zos HX.out.1;have e1:Int.tmod (d:Int) 16=((d % 16:Nat):Int):=by rw [Int.tmod_eq_emod_of_nonneg (by omega)];rfl
   have e2:IntKind.u64.wrap ((d % 16:Nat):Int)=((d % 16:Nat):Int):=IntWalk.u64_in _ (by omega);go_upto_region 9 with fail;have hB1:=(Chg.refl [] wr).alloc (.cells #[.int .u64 (k:Int),.int .u8 (d:Int)] 197);have hXB:=znb wr (.cells #[.int .u64 (k:Int),.int .u8 (d:Int)] 197);generalize wr.alloc (.cells #[.int .u64 (k:Int),.int .u8 (d:Int)] 197)=w2 at hB1 hXB ⊢;have y0:w2.cell? ⟨wr.heap.size,0,none⟩=some (.int .u64 (k:Int)):=(zcb hXB 0).trans rfl;have y1:w2.cell? ⟨wr.heap.size,1,none⟩=some (.int .u8 (d:Int)):=(zcb hXB 1).trans rfl;obtain ⟨m,hm⟩:∃ m,m=d % 16:=⟨_,rfl⟩;rw [<- hm] at e1 e2 HT;have hn4:=znb w2 (.cells #[.int .u64 (k:Int),.int .u64 (m:Int)] 104);have hc4:Chg [] w2 (w2.alloc (.cells #[.int .u64 (k:Int),.int .u64 (m:Int)] 104)):=(Chg.refl [] w2).alloc _;have hw4:=zoc (zoc HX.out.1 hB1 (by simp)) hc4 (by simp);have H4:=zh (zA hw4 (zA hn4 (zA (HX.out.2.trans (hB1.trans hc4)) (zLt HX.out.2.size (zLt hB1.size hc4.size)))));clear hn4 hc4 hw4 hB1 hXB hm q0 q1 hb hbA hu;go_wp2_with (at_builtin;refine wpList_app rfl _ _ 83 rfl rfl (base:=W0.heap.size) (size:=2) (n:=i) (m:=1) (xs:=itVs (rawOf (l.take i))) (news:=[.int .u64 (k:Int),.int .u64 (m:Int)]) Tryz.underlying83 infoItem rfl (by omega) (by omega) rfl rfl H4.out.1 (AppSrc.blk H4.out.2.1 rfl (fun u hu=>by simp at hu;rcases hu with rfl | rfl <;> rfl)) (by omega) H4.out.2.2.2 ?_;intro v' w5 hown5 hg5 ho5;have H5:=zh (zA hown5 (zA hg5 ho5));clear hown5 hg5 ho5);go_roundg (n - (i+1))
   case measure=>have:=HGG.out;omega
   case rel =>
    refine ⟨i+1,rfl,hin,by go_num,zh ⟨?_,H4.out.2.2.1.grown H5.out.2.1 (fun z hz => .inr (H4.out.1.lt z hz).1)⟩⟩;rw [HT.out,itVs_app];exact H5.out.1
  ·obtain rfl:i=n:=by omega
   have i1:¬ (i:Int)<(i:Int):=by omega
   obtain ⟨ua,uc,rfl,u1,u2⟩:=zos HX.out.1;have hfull:l.take i=l:=by rw [HN.out.1];exact List.take_length
   have hX1:=HX.out.1;rw [hfull] at hX1;have hraw:(rawOf l).length=i:=by unfold rawOf;rw [List.length_map];exact HN.out.1.symm
   have hu64:=rawOf_u H.out
   have hcr:Calls Tryz.prog 50 #[.slice ua i uc] wr fun e w'=>∃ u,e = .returned u/\w'.ownsRow wr.heap.size 104 2 u (risL (rawOf l)).length (itVs (risL (rawOf l)))/\Chg [] wr w' :=
    rising13_at (A:=[]) (ItemsIn.of_own (by rw [hraw];exact hX1) hu64 (fun g hg=>by simp)) (by omega)
   have HCR:=zh hcr;have HU:=zh (zA hu64 hraw);clear hX1 hraw hu64 hcr hfull;go_wp2_with fail;refine HCR.out.mono ?_;clear HCR;rintro e w2 ⟨u,rfl,hown,hc2⟩
   have hb2:BaseAt w2 M (ownL u++[mb]) (Bs.fmt N):=by
    have h1:=H2.out.1.chg HX.out.2 (by simp)
    cases hq:u.ownBlock with
    | none=>rw [show ownL u=[] by unfold ownL;rw [hq]];exact h1.chg hc2 (by simp)
    | some q =>
     rw [show ownL u=[q] by unfold ownL;rw [hq]];exact (h1.new (hown.lt q hq).1).chg hc2 (by simp)
   have hgi:=gi_start HN.out.2.1 HU.out.1 (by rw [HU.out.2];exact h200) (by rw [HU.out.2,HN.out.1];exact HN.out.2.2);have hk2:=(H2.out.2.2.1.chg HX.out.2 (by simp)).chg hc2 (by simp);have hrl:=(ris_all HU.out.1).2.2.1;rw [HU.out.2] at hgi hrl;obtain ⟨r,hrr⟩:∃ r,r=risL (rawOf l):=⟨_,rfl⟩;rw [<- hrr] at hown hgi hrl;obtain ⟨c0,hcc⟩:∃ c0,c0=(Bs.fmt N).room - (i:Int):=⟨_,rfl⟩;rw [<- hcc] at hgi;have hR1:R0=grwP r (Bs.fmt N) (fun _=>none):=by rw [HR.out,hrr];rfl
   have hd16:∀ p,p∈r->p.1<18446744073709551616/\p.2<16:=fun p hp=>by
    have h1:=(ris_all HU.out.1).2.2.2.1 p (by rw [<- hrr];exact hp);obtain ⟨q,hq,rfl⟩:=List.mem_map.1 h1;exact ⟨(H.out.u q hq).1,Nat.mod_lt _ (by omega)⟩
   obtain ⟨kk,hkk⟩:∃ kk,kk=r.length:=⟨_,rfl⟩;rw [<- hkk] at hown hgi hrl;obtain ⟨va,vc,rfl,v1,v2⟩:=zos hown;have H3:=zh (zA hown (zA ((H2.out.2.1.trans HX.out.2).trans hc2) (zA hb2 (zA hgi (zA hk2 (zA hrr (zA hR1 (zA hd16 hkk))))))));clear hown hc2 hb2 hgi hk2 hrr hcc hR1 hd16 hkk;go_upto_region 13 with fail;have hmbs:mb<wr.heap.size:=zLl H2.out.2.2.2.1 HX.out.2.size;have hwbs:w.heap.size<=wr.heap.size:=(H2.out.2.1.trans HX.out.2).size;obtain ⟨bs,hbs⟩:∃ bs,bs=wr.heap.size:=⟨_,rfl⟩;rw [<- hbs] at H3 hmbs hwbs;clear hbs
   have H4:GwI w M N mb bs va kk vc r R0 c0 0 w2 (Bs.fmt N) (fun _=>none) [] :=
    { n:=rfl,base:=H3.out.2.2.1,map:=H3.out.2.2.2.2.1,gi:=H3.out.2.2.2.1,own:=by rw [List.nil_append,List.drop_zero];exact H3.out.1,res:=by rw [List.drop_zero,List.nil_append];exact H3.out.2.2.2.2.2.2.1,chg:=H3.out.2.1 }
   go_loopg [51] kk (fun gg s51 wx=>∃ i:Nat,gg=kk - i/\i<=kk/\s51 = .int .i64 (i:Int)/\Hid (∃ B f out,GwI w M N mb bs va kk vc r R0 c0 i wx B f out))
   case atStart=>exact ⟨0,rfl,Nat.zero_le _,rfl,zh ⟨Bs.fmt N,fun _=>none,[],H4⟩⟩
   case round =>
    obtain ⟨j,hgg,hj,rfl,HG⟩:=hrel;have HGG:=zh hgg;clear hgg;by_cases hjk:j<kk
    ·have i2:(j:Int)<(kk:Int):=by omega
     obtain ⟨B,f,out,G⟩:=HG.out;have hkr:=H3.out.2.2.2.2.2.2.2.2;obtain ⟨g,c',e,g1,g2,g3,g4,g5⟩:=zol G.own (by omega);injection e with e _ e';subst e;subst e';have hlen:(out++r.drop j).length=kk:=by rw [List.length_append,G.n,List.length_drop,<- hkr];omega
     have hgt:=itVs_get (out++r.drop j) j (by omega)
     have hxr:(out++r.drop j).getD j (0,0)=r.getD j (0,0):=by
      rw [zgD,zgD,List.getElem?_append_right (by rw [G.n];omega),List.getElem?_drop,G.n];congr 2;omega
     rw [hxr] at hgt;have q0:=(g5 (j*2) (by omega)).trans hgt.1;have q1:=(g5 (j*2+1) (by omega)).trans hgt.2;have hp:=H3.out.2.2.2.2.2.2.2.1 (r.getD j (0,0)) (by rw [getD_lt (by omega)];exact List.getElem_mem _);obtain ⟨p,hpe⟩:∃ p,p=r.getD j (0,0):=⟨_,rfl⟩;rw [<- hpe] at q0 q1 hp;have HPE:=zh hpe;obtain ⟨k,d⟩:=p;simp only at q0 q1 hp;have e1:IntKind.u8.wrap (d:Int)=(d:Int):=IntWalk.u8_in _ (by omega);have e2:IntKind.u16.wrap (d:Int)=(d:Int):=IntWalk.u16_in _ (by omega);have hB1:=(Chg.refl [] wr).alloc (.cells #[.int .u64 (k:Int),.int .u64 (d:Int)] 104);have hXB:=znb wr (.cells #[.int .u64 (k:Int),.int .u64 (d:Int)] 104);have GG:=zh G;have HK:=zh (zA g3 (zA g4 hkr));clear G hgt hxr hlen g1 g2 g3 g4 g5 hpe hkr;go_upto_region 15 with fail;generalize wr.alloc (.cells #[.int .u64 (k:Int),.int .u64 (d:Int)] 104)=w3 at hB1 hXB ⊢;have y1:w3.cell? ⟨wr.heap.size,1,none⟩=some (.int .u64 (d:Int)):=(zcb hXB 1).trans rfl;have hm3:=GG.out.map.chg hB1 (by simp);have hlk:=(hm3.look (t:=195) (et:=3) Tryz.underlying5 Tryz.underlying195 (z := .int .i64 0) (Tryz.zeroValue3 w3) rfl (k:=d) (by omega) (by omega)).1;have HB:=zh (zA hB1 hm3);clear hB1 hXB hm3
     have hltF:∀ q,q∈ownL (.slice (some ⟨g,0,none⟩) kk vc)++[mb]->q<w3.heap.size:=fun q hq=>by
      have h1:=HB.out.1.size;have h2:=GG.out.chg.size;rcases List.mem_append.1 hq with hq | hq
      ·have:=(GG.out.own.lt q (zml.1 hq)).2;omega
      ·rw [zms] at hq
       have:=GG.out.map.lt;omega
     have hb3:=GG.out.base.chg HB.out.1 (by simp);have hgi:=GG.out.gi;rw [show kk - j=(kk - (j+1))+1 by omega] at hgi
     have hrd:r.drop j=(k,d)::r.drop (j+1):=by
      rw [HPE.out,getD_lt (by rw [<- HK.out.2.2];exact hjk),List.drop_eq_getElem_cons (by rw [<- HK.out.2.2];exact hjk)]
     have hres:=GG.out.res;rw [hrd] at hres
     have hgM:∀ q,bs<=q->q∉M.L:=fun q hq hm=>by
      have:=H1.out.1.ltL hm;have:=H2.out.2.2.2.2.2;omega
     cases hfd:f d with
     | some b =>
      rw [hfd] at hlk;have hlk':(Instr.lookup 195 (.map (some mb)) (.int .u8 (d:Int)) true).run Tryz.prog w3 = .ok (.tuple #[.int .i64 (b:Int),.bool true]) w3:=hlk;have hgi':=hgi.up (k:=k) hfd;have hbN:=hgi.has d b hfd;have cu:=bUp_at hb3 hltF (b:Int);have e3:IntKind.u64.wrap (b:Int)=(b:Int):=IntWalk.u64_in _ (by have:=hgi.hM;omega);have CU:=zh cu;have HS:=zh (zA hgi' (zA (hres.trans (by rw [grw_step.1 b hfd])) (zA hgM hrd)));clear cu hlk hgi hgi' hbN hb3 hres hgM hrd hltF;go_wp2_with fail;refine CU.out.mono ?_;clear CU;rintro e w4 ⟨rfl,hb4,hc4⟩;have ho4:=zoc (zoc GG.out.own HB.out.1 (by simp)) hc4 (fun q hq hm=>HS.out.2.2.1 q (GG.out.own.lt q hq).1 hm);have hm4:=HB.out.2.chg hc4 H2.out.2.2.2.2.1;have hch4:Chg [] w w4:=(GG.out.chg.trans HB.out.1).then hc4 (fun q hq => .inr (H1.out.2.2 q hq));have hnx:=GwI.next (R0:=R0) (b:=b) hjk HK.out.2.2 hwbs hmbs GG.out.n hb4 hm4 (by rw [<- HPE.out];exact HS.out.1) ho4 (by rw [<- HPE.out,List.append_assoc];exact HS.out.2.1) hch4;have hgl:g<w4.heap.size:=(ho4.lt g rfl).2
      have hfz:w4.frozen? ⟨g,j*2+1,none⟩=false:=by
       rcases ho4.2 with ⟨q,_⟩ | ⟨g',cc,cur,q,_,hbk,_⟩
       ·cases q
       ·injection q with q _ _
        injection q with q;injection q with q _ _;subst q;exact zfb hbk _
      have hg3:g<w3.heap.size:=zLl HK.out.2.1 HB.out.1.size;have hcl:w4.cell? ⟨g,j*2+1,none⟩=some (.int .u64 (d:Int)):=(hc4.cell (p:=⟨g,j*2+1,none⟩) hg3 (HS.out.2.2.1 g HK.out.1)).trans ((HB.out.1.cell (p:=⟨g,j*2+1,none⟩) HK.out.2.1 (by simp)).trans q1);have HNX:=zh hnx;clear hb4 hc4 ho4 hm4 hch4 hnx q0 q1 y1 hlk';go_wp2_with fail;go_roundg (kk - (j+1))
      case measure=>have:=HGG.out;omega
      case rel=>exact ⟨j+1,rfl,hjk,by go_num,zh ⟨_,_,_,HNX.out⟩⟩
     | none =>
      rw [hfd] at hlk;have hlk':(Instr.lookup 195 (.map (some mb)) (.int .u8 (d:Int)) true).run Tryz.prog w3 = .ok (.tuple #[.int .i64 0,.bool false]) w3:=hlk;obtain ⟨n1,n2,n3,hgi'⟩:=hgi.new (k:=k) hfd;have cblk:=zh (block11_at (n:=d) w3 (by omega));obtain ⟨at3,hat⟩:∃ z,z=B.at_:=⟨_,rfl⟩;have e3:IntKind.u64.wrap (at3:Int)=(at3:Int):=IntWalk.u64_in _ (by have:=hgi.hM;omega);have HS:=zh (zA hgi' (zA (hres.trans (by rw [grw_step.2 hfd])) (zA hgM (zA hrd (zA n1 (zA hb3 (zA hltF hat)))))));clear hlk hgi hgi' hb3 hres hgM hrd hltF n1 n2 n3 hat;go_wp2_with fail;refine cblk.out.mono ?_;clear cblk;rintro e w4 ⟨g2,rfl,hg2,hbt,hc4⟩;have cp:=bPut_at (c:=128) (HS.out.2.2.2.2.2.1.chg hc4 (by simp)) (fun q hq=>zLl (HS.out.2.2.2.2.2.2.1 q hq) hc4.size) hbt (fun hm=>by have h1:=H1.out.1.ltL hm;have h2:=H2.out.2.2.2.2.2;have h3:=GG.out.map.lt;have h4:=HB.out.1.size;omega) HS.out.2.2.2.2.1;rw [<- HS.out.2.2.2.2.2.2.2] at cp;have CP:=zh cp;have HC4:=zh hc4;clear cp hbt hc4 hg2;go_wp2_with fail;refine CP.out.mono ?_;clear CP;rintro e w5 ⟨rfl,hb5,hc5⟩;have hm5:=(HB.out.2.chg HC4.out (by simp)).chg hc5 H2.out.2.2.2.2.1;obtain ⟨w6,hrun,hm6,ht6⟩:=hm5.put (t:=195) (et:=3) Tryz.underlying5 Tryz.underlying195 (k:=d) (v := .int .i64 (at3:Int)) (by omega) (by omega) rfl;have hc6:=mapTurned_chg ht6;have hgmb:g≠mb:=by have:=HK.out.1;omega
      have ho5:=zoc (zoc (zoc GG.out.own HB.out.1 (by simp)) HC4.out (by simp)) hc5 (fun q hq hm=>HS.out.2.2.1 q (GG.out.own.lt q hq).1 hm);have ho6:=zoc ho5 hc6 (fun q hq hm=>by injection hq with hq;subst hq;rw [zms] at hm;exact hgmb hm);have hb6:=hb5.chg hc6 (fun q hq=>zar _ hq);have hch5:Chg [] w w5:=((GG.out.chg.trans HB.out.1).trans HC4.out).then hc5 (fun q hq => .inr (H1.out.2.2 q hq));have hch6:Chg [] w w6:=hch5.then hc6 (fun q hq => .inr (by rw [zms] at hq;subst hq;rw [H2.out.2.2.2.2.2];exact H1.out.2.1.size))
      have hm6':KMap8 Tryz.prog 5 (fun _=>true) w6 mb 256 (fun i=>(fSet f d at3 i).map fun (b:Nat)=>Value.int .i64 (b:Int)):=hm6.congr fun i _=>by
       unfold fSet;by_cases e:i=d
       ·rw [if_pos e,if_pos e];rfl
       ·rw [if_neg e,if_neg e]
      have hnx:=GwI.next (R0:=R0) (b:=at3) hjk HK.out.2.2 hwbs hmbs GG.out.n hb6 hm6' (by rw [<- HPE.out,HS.out.2.2.2.2.2.2.2];exact HS.out.1) ho6 (by rw [<- HPE.out,List.append_assoc,HS.out.2.2.2.2.2.2.2];exact HS.out.2.1) hch6
      have hfz:w6.frozen? ⟨g,j*2+1,none⟩=false:=by
       rcases ho6.2 with ⟨q,_⟩ | ⟨g',cc,cur,q,_,hbk,_⟩
       ·cases q
       ·injection q with q _ _
        injection q with q;injection q with q _ _;subst q;exact zfb hbk _
      have hg3:g<w3.heap.size:=zLl HK.out.2.1 HB.out.1.size;have hg4:g<w4.heap.size:=zLl hg3 HC4.out.size;have hcl5:w5.cell? ⟨g,j*2+1,none⟩=some (.int .u64 (d:Int)):=(hc5.cell (p:=⟨g,j*2+1,none⟩) hg4 (HS.out.2.2.1 g HK.out.1)).trans ((HC4.out.cell (p:=⟨g,j*2+1,none⟩) hg3 (by simp)).trans ((HB.out.1.cell (p:=⟨g,j*2+1,none⟩) HK.out.2.1 (by simp)).trans q1));have hcl:w6.cell? ⟨g,j*2+1,none⟩=some (.int .u64 (d:Int)):=(hc6.cell (p:=⟨g,j*2+1,none⟩) (zLl hg4 hc5.size) (by simpa using hgmb)).trans hcl5;have hgl:g<w6.heap.size:=(ho6.lt g rfl).2;have HNX:=zh hnx;clear hb5 hc5 hm5 hm6 ht6 hc6 ho5 ho6 hb6 hch5 hch6 hm6' hnx q0 q1 y1 hlk' hcl5;go_wp2_with fail;go_roundg (kk - (j+1))
      case measure=>have:=HGG.out;omega
      case rel=>exact ⟨j+1,rfl,hjk,by go_num,zh ⟨_,_,_,HNX.out⟩⟩
    ·obtain rfl:j=kk:=by omega
     have i2:¬ (j:Int)<(j:Int):=by omega
     obtain ⟨B,f,out,G⟩:=HG.out;have hdr:r.drop j=[]:=List.drop_eq_nil_of_le (by have:=H3.out.2.2.2.2.2.2.2.2;omega);have hres:=G.res;have hown:=G.own;rw [hdr] at hres hown;rw [List.append_nil] at hown;have hres2:R0=(B,out):=by rw [hres];unfold grwP;rw [List.append_nil]
     obtain ⟨w1',w2',w3',w4',w5',w6'⟩:=gw_is HN.out.2.1 HU.out.1 (by rw [HU.out.2];exact h200) (by rw [HU.out.2,HN.out.1];exact HN.out.2.2);rw [<- HR.out,hres2] at w1' w2' w3' w4' w5' w6';simp only at w1' w2' w3' w4' w5' w6';subst hres2
     have hltF:∀ q,q∈ownL (.slice va j vc)++[mb]->q<wr.heap.size:=fun q hq=>by
      rcases List.mem_append.1 hq with hq | hq
      ·exact (G.own.lt q (zml.1 hq)).2
      ·rw [zms] at hq
       have:=G.map.lt;omega
     have hgM:∀ g,(Value.slice va j vc).ownBlock=some g->g∉M.L:=fun g hg hm=>by
      have:=(G.own.lt g hg).1;have:=H1.out.1.ltL hm;have:=H2.out.2.2.2.2.2;omega
     have hitm:ItemsIn M.L wr (.slice va j vc) out:=ItemsIn.of_own (by rw [G.n];exact hown) w2' (fun g hg=>hgM g hg);have cB:=build13_any (items:=out) G.base hltF w4' w5' HN.out.2.1.2 w1' w2' hitm (by rw [G.n];omega);have CB:=zh cB;have HE:=zh (zA hitm (zA w6' (zA G.chg w4')));clear hitm cB w1' w2' w3' w4' w5' w6' hres hown hltF hgM G hdr;go_wp2_with fail;refine CB.out.mono ?_;clear CB;rintro e w7 ⟨x,B7,rfl,t1,t2,t3,t4,t5,t6,t7⟩
     have HF:Hid (BaseAt w7 M [] B7/\GwIs N (rawOf l) out B7 x/\ItemsIn M.L w7 (.slice va j vc) out/\Chg [] w w7/\(∀ q,q∈M.L->w.heap.size<=q)/\(out≠[]->(B7,x)=bldP 8 0 out B)) :=
      zh ⟨t1.sub (fun q hq=>by cases hq),HE.out.2.1 B7 x t6 t7,HE.out.1.chg t5 (fun q hq => .inl hq),HE.out.2.2.1.then t5 (fun q hq => .inr (H1.out.2.2 q hq)),H1.out.2.2,t6⟩
     clear t1 t2 t3 t4 t5 t6 t7;go_wp2_with fail;refine bodyPost_ret (v := .tuple #[.pointer (some ⟨M.b,0,none⟩),.int .i64 (x:Int),.slice va j vc,.bool true]) (by simp [results,Tryz.results63,go_sem]) rfl ⟨M,x,B7,_,rfl,HF.out⟩
def Kp0 (B B':Bs):Prop:=B'.T.kept=B.T.kept/\B'.a=B.a/\B'.T.n=B.T.n
theorem Kp0.refl (B:Bs):Kp0 B B:=⟨rfl,rfl,rfl⟩
theorem Kp0.trans {A B C:Bs} (h:Kp0 A B) (k:Kp0 B C):Kp0 A C:=⟨k.1.trans h.1,k.2.1.trans h.2.1,k.2.2.trans h.2.2⟩
theorem Kp0.put (B:Bs) (f:Nat->Nat):Kp0 B (B.put f):=⟨rfl,rfl,rfl⟩
theorem Kp0.up (B:Bs) (x:Int):Kp0 B (B.up x):=by
 unfold Bs.up
 split
 ·refine ⟨?_,rfl,?_⟩
  ·show (Proofs.YtkhcaclndepgbaaGreat.up B.T x).kept=B.T.kept
   unfold Proofs.YtkhcaclndepgbaaGreat.up
   repeat' split
   all_goals rfl
  ·show (Proofs.YtkhcaclndepgbaaGreat.up B.T x).n=B.T.n
   unfold Proofs.YtkhcaclndepgbaaGreat.up
   repeat' split
   all_goals rfl
 ·exact Kp0.refl B
theorem lvlP_kp {leaf:Bool} {l:List (Nat × Nat)} {B:Bs} : ∀ i,Kp0 B (lvlP leaf l B i).1
 | 0=>Kp0.refl B
 | i+1=>by rw [lvlP_succ];exact (lvlP_kp i).trans (Kp0.put _ _)
theorem bldP_kp:∀ (f k:Nat) (l:List (Nat × Nat)) (B:Bs),Kp0 B (bldP f k l B).1/\((bldP f k l B).2≠0->(bldP f k l B).1.T.now (bldP f k l B).2=1)
 | 0,k,l,B=>⟨Kp0.refl B,fun h=>absurd rfl h⟩
 | f+1,k,l,B=>by
  unfold bldP
  split
  ·refine ⟨lvlP_kp 1,fun _=>?_⟩
   show (if B.at_=B.at_ then 1 else B.T.now B.at_)=1
   rw [if_pos rfl]
  ·obtain ⟨h1,h2⟩:=bldP_kp f (k+1) (lvlP (decide (k=0)) l B (manyG l.length)).2 (lvlP (decide (k=0)) l B (manyG l.length)).1
   exact ⟨(lvlP_kp _).trans h1,h2⟩
theorem grwP_kp:∀ (r:List (Nat × Nat)) (B:Bs) (f:Nat->Option Nat),Kp0 B (grwP r B f).1
 | [],B,f=>Kp0.refl B
 | p::r,B,f=>by
  cases h:f p.2 with
  | some b=>rw [grw_step.1 b h];exact (Kp0.up B _).trans (grwP_kp r _ f)
  | none=>rw [grw_step.2 h];exact (Kp0.put B _).trans (grwP_kp r _ _)
theorem live_fresh {N G:Nat} {B:Bs} (hN:16<=N/\N<=4096) (g:Good N G B) (k:Kp0 (Bs.fmt N) B) {x:Nat} (hx:x<N) (hl:B.live x=true):(B.fr x).isSome=true:=by
 obtain ⟨h1,h2⟩:=live_iff.1 hl;refine (g.ok.fr x (by rw [g.n];exact hx)).2 ⟨?_,h1⟩;rw [k.1];have hf:=(good_fmt hN).2.1 x
 have h0:(Bs.fmt N).T.now x=0:=by
  cases hz:decide ((Bs.fmt N).T.now x=0) with
  | true=>exact of_decide_eq_true hz
  | false =>
   have:=live_iff.2 ⟨of_decide_eq_false hz,fun hp=>h2 ?_⟩
   ·rw [hf] at this;cases this
   ·obtain ⟨a,i,ha,hi,e⟩:=hp
    exact ⟨a,i,ha,by rw [k.2.2];exact hi,by rw [k.2.1];exact e⟩
 exact h0
theorem grown_own {N:Nat} (hN:16<=N/\N<=4096) {raw:List (Nat × Nat)} {B:Bs} {x:Nat} {ht:Ht} {p:Nat->Nat} (g:Gr N 1 B ht p) {c:Nat} (hx:ht x=some c) (e:(B,x)=bldP 8 0 (grownP N raw).2 (grownP N raw).1):B.isI (x:Int)=true:=by
 obtain ⟨hN1,hl,d,hd,-⟩:=g.node x c hx;have h2:=g.two hl hN1;obtain ⟨k1,k2⟩:=bldP_kp 8 0 (grownP N raw).2 (grownP N raw).1;rw [<- e] at k1 k2;exact g.isI_of hN1 (live_fresh hN g.good ((grwP_kp _ _ _).trans k1) hN1 hl) (k2 (show x≠0 by omega)) hd
theorem Its8.first {A:List Nat} {w:World} {a:Option Addr} {n c k:Nat} {l:List (Nat × Nat)} (h:Its8 A w (.slice a n c) l) (hk:k<=n):Its8 A w (.slice a k c) (l.take k):=by
 obtain ⟨⟨a',c',e,h1,h2,h3⟩,hu⟩:=h;injection e with e1 e2 e3;subst e1;subst e3;have hl:(l.take k).length=k:=by rw [List.length_take];omega
 refine ⟨⟨a,c,by rw [hl],by omega,h2,fun h0=>?_⟩,fun p hp=>hu p (List.mem_of_mem_take hp)⟩;obtain ⟨b,o,rfl,hb,hA,hc⟩:=h3 (by omega);refine ⟨b,o,rfl,hb,hA,fun i hi=>?_⟩;rw [hl] at hi;have e:(l.take k).getD i (0,0)=l.getD i (0,0):=by rw [zgD,zgD,List.getElem?_take_of_lt hi]
 rw [e];exact hc i (by omega)
structure Grew (w:World) (N m:Nat) (M:Bm) (x:Nat) (B:Bs) (vi:Value) (items:List (Nat × Nat)) (w':World):Prop where
 base:BaseAt w' M [] B
 nil:x=0->items=[]/\Gr N 1 B noHt (fun _=>0)
 rts:x≠0->∃ ht,Rts N 1 B [x] items ht
 its:ItemsIn M.L w' vi items
 asc:Asc items
 u:It64 items
 len:items.length<=m
 val:∀ p,p∈items->2<=p.2/\p.2<N
 room:(Bs.fmt N).room - 2*m<=B.room
 chg:Chg [] w w'
 far:∀ q,q∈M.L->w.heap.size<=q
 lt:x<N
 own:x≠0->B.isI (x:Int)=true
def GrewEnd (w:World) (N m:Nat) (e:Ending) (w':World):Prop:=∃ (M:Bm) (x:Nat) (B:Bs) (vi:Value) (items:List (Nat × Nat)),e = .returned (.tuple #[.pointer (some ⟨M.b,0,none⟩),.int .i64 (x:Int),vi,.bool true])/\Grew w N m M x B vi items w'
theorem grew_at {w:World} {N m:Nat} (hN:16<=N/\N<=4096) {a:Option Addr} {n c:Nat} {l:List (Nat × Nat)} (hit:Its8 [] w (.slice a n c) l) (hm:m<=200) (hr:2*(m:Int)+2<=(Bs.fmt N).room) {k:Nat} (hk:k<=n) (hkm:k<=m) :
  Calls Tryz.prog 63 #[.int .i64 (N:Int),.slice a k c] w (GrewEnd w N m):=by
 have hf:=hit.first hk;have hl:(l.take k).length<=m:=by rw [List.length_take];omega
 refine (grown_at hN hf (by omega) (by omega)).mono ?_;rintro e w' ⟨M,x,B,vi,rfl,hb,hg,hi,hc,hM,hbl⟩;have hraw:(rawOf (l.take k)).length<=m:=by unfold rawOf;rw [List.length_map];exact hl
 have hlt:x<N:=by
  by_cases e:(grownP N (rawOf (l.take k))).2=[]
  ·rw [(hg.nil e).1];omega
  ·obtain ⟨ht,c,b⟩:=hg.cons e
   exact (b.gr.lt b.top).1
 refine ⟨M,x,B,vi,_,rfl,⟨hb,fun h0=>?_,fun h0=>?_,hi,hg.asc,hg.u,zLt hg.len hraw,hg.val,by have:=hg.room;omega,hc,hM,hlt,fun h0=>?_⟩⟩
 ·by_cases e:(grownP N (rawOf (l.take k))).2=[]
  ·exact ⟨e,(hg.nil e).2⟩
  ·obtain ⟨ht,c,b⟩:=hg.cons e
   have:=b.gr.two (b.gr.lt b.top).2 (b.gr.lt b.top).1;omega
 ·by_cases e:(grownP N (rawOf (l.take k))).2=[]
  ·exact absurd (hg.nil e).1 h0
  ·obtain ⟨ht,c,b⟩:=hg.cons e
   exact ⟨ht,Rts.built hN.2 b⟩
 ·by_cases e:(grownP N (rawOf (l.take k))).2=[]
  ·exact absurd (hg.nil e).1 h0
  ·obtain ⟨ht,c,b⟩:=hg.cons e
   exact grown_own hN b.gr b.top (hbl e)
theorem intVs_one (R:List Nat) (y:Nat):intVs R++[.int .i64 (y:Int)]=intVs (R++[y]):=by unfold intVs;rw [List.map_append];rfl
theorem intVs_get {R:List Nat} {j:Nat} (hj:j<R.length):(intVs R)[j]?=some (.int .i64 ((R.getD j 0:Nat):Int)):=by
 unfold intVs;rw [List.getElem?_map,zgD,List.getElem?_eq_getElem hj];rfl
end Go.Proofs.YtkhcaclndepgbaaGreat
