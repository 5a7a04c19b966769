/- Layer 14's Tree: the walk. · Layer 14's reference: add: the walk. -/
import Derived.Test.YtkhcaclndepgbaaGreatZn44
set_option linter.unusedVariables false
set_option linter.unusedSimpArgs false
set_option maxRecDepth 100000
set_option maxHeartbeats 20000000
namespace Go.Proofs.YtkhcaclndepgbaaGreat
open Go.RowKit
theorem infoTree5:(Tryz.prog.info? 201).map (fun i=>(i.zero,i.size,i.bytes))=some (some (.agg #[.int .i64 0,.bool false,.slice none 0 0,.slice none 0 0,.slice none 0 0]),5,88):=by kernel_rfl
def TreeEnd (w:World) (B:Bs) (f x:Nat) (e:Ending) (w':World):Prop :=
 ∃ (lf:Bool) (a1 a2 a3:Option Addr) (n1 c1 n2 c2 n3 c3:Nat),e = .returned (.tuple #[.agg #[.int .i64 (x:Int),.bool lf,.slice a1 n1 c1,.slice a2 n2 c2,.slice a3 n3 c3],.bool true])/\(∀ A,(∀ q,q∈A->q<w.heap.size)->TrIn A w' B f x [.int .i64 (x:Int),.bool lf,.slice a1 n1 c1,.slice a2 n2 c2,.slice a3 n3 c3])/\Chg [] w w'
def TreeAt (k:Nat):Prop:=∀ {w:World} {M:Bm} {F:List Nat} {B:Bs} {N G:Nat} {ht:Ht} {pend:Nat->Nat} {x l c:Nat},BaseAt w M F B->Gr N G B ht pend->N<=4096->ht x=some c->c % 100=k->k+l<8 ->
 Calls Tryz.prog 123 #[.pointer (some ⟨M.b,0,none⟩),.int .i64 (x:Int),.int .i64 (l:Int)] w (TreeEnd w B (k+1) x)
theorem flat5:∀ (us:List (List Value)),(∀ U,U∈us->U.length=5)->∀ i j,i<us.length->j<5->us.flatten[i*5+j]?=(us.getD i [])[j]?
 | [],_,i,j,hi,_=>by simp at hi
 | U::r,h,0,j,_,hj=>by
  rw [List.flatten_cons,List.getElem?_append_left (by rw [h U (by simp)];omega),Nat.zero_mul,Nat.zero_add];rfl
 | U::r,h,i+1,j,hi,hj=>by
  have hU:=h U (by simp);rw [List.flatten_cons,List.getElem?_append_right (by rw [hU];omega),hU,show (i+1)*5+j - 5=i*5+j by omega];exact flat5 r (fun V hV=>h V (by simp [hV])) i j (by simpa using hi) hj
structure TrS (w W2:World) (B:Bs) (k tb rb:Nat) (d:Nd) (y0 y1 y2 y3:Value) (i:Nat) (wr:World) (u:Value) (us:List (List Value)):Prop where
 top:wr.heap[tb]?=some (.cells #[y0,y1,y2,y3,u] 201 (0,0))
 own:wr.ownsRow W2.heap.size 201 5 u i us.flatten
 len:us.length=i
 five:∀ U,U∈us->U.length=5
 kids:∀ j,j<i->∀ A,(∀ q,q∈A->q<w.heap.size)->TrIn ([tb,rb]++ownL u++A) wr B k (d.v j) (us.getD j [])
 chg:Chg [tb] W2 wr
theorem TrS.fin {w W2:World} {B:Bs} {k tb rb x xb kb vb:Nat} {d:Nd} {lf:Bool} {n:Nat} {wr w':World} {u:Value} {us:List (List Value)} (h:TrS w W2 B k tb rb d (.int .i64 (x:Int)) (.bool lf) (.slice (some ⟨kb,0,none⟩) d.n d.n) (.slice (some ⟨vb,0,none⟩) d.n d.n) n wr u us)
  {base:Nat} (hbs:w.heap.size<=base) (nd:NdIn wr base xb kb vb d) (hd:B.nodeI (x:Int)=some d) (hl:lf=d.leaf) (hn:n=if d.leaf then 0 else d.n) (c0:Chg [] w W2) (ht:w.heap.size<=tb) (hr:w.heap.size<=rb) (c:Chg [rb] wr w') (hrb:rb<W2.heap.size) (hx:rb≠kb/\rb≠vb) :
  TreeEnd w B (k+1) x (.returned (.tuple #[.agg #[.int .i64 (x:Int),.bool lf,.slice (some ⟨kb,0,none⟩) d.n d.n,.slice (some ⟨vb,0,none⟩) d.n d.n,u],.bool true])) w':=by
 obtain ⟨ua,uc,rfl,u1,u2⟩:=zos h.own;refine ⟨lf,_,_,_,_,_,_,_,_,_,rfl,fun A hA=>?_,(c0.then h.chg (fun q hq=>by rw [zms] at hq;exact .inr (by omega))).then c (fun q hq=>by rw [zms] at hq;exact .inr (by omega))⟩;have h7:=nd.ok.n;have far:=nd.far;refine ⟨d,_,_,ua,n,uc,by rw [hl],hd,nd.ok,(nd.k.chg c (by simp;omega)).numsIn (by omega) (fun hm=>by have:=hA _ hm;omega) nd.ok.k,(nd.v.chg c (by simp;omega)).numsIn (by omega) (fun hm=>by have:=hA _ hm;omega) nd.ok.v,u1,u2,hn,fun h0=>?_⟩;obtain ⟨g,c',e,g1,g2,g3,g4,g5⟩:=zol h.own h0;injection e with e _ e';subst e;subst e';refine ⟨g,rfl,zLl g4 c.size,fun hm=>by have:=hA _ hm;have:=c0.size;omega,fun i hi=>⟨us.getD i [],?_,fun j hj=>?_⟩⟩
 ·exact (h.kids i hi A hA).chg c (fun q hq => .inl (by rw [zms] at hq;simp [hq])) (fun q hq => .inl (zar _ hq)) _ _ _
 ·rw [c.cell (p:=⟨g,i*5+j,none⟩) g4 (by simp only [zms];omega),g5 _ (by omega),flat5 us h.five i j (by rw [h.len];exact hi) hj]
theorem tree_step {k:Nat} (ih:∀ k',k=k'+1->TreeAt k'):TreeAt k:=by
 intro w M F B N G ht pend x l c hb g hM hx hc hl;obtain ⟨hxN,hxl,d,hd,nd⟩:=g.node x c hx;have h2x:=g.two hxl hxN;have k0:=znb w (.cells #[.int .i64 0,.bool false,.slice none 0 0,.slice none 0 0,.slice none 0 0] 201);have c0:=(Chg.refl [] w).alloc (.cells #[.int .i64 0,.bool false,.slice none 0 0,.slice none 0 0,.slice none 0 0] 201);have s1:(w.alloc (.cells #[.int .i64 0,.bool false,.slice none 0 0,.slice none 0 0,.slice none 0 0] 201)).heap.size=w.heap.size+1:=size_alloc' _ _;have k1:=znb (w.alloc (.cells #[.int .i64 0,.bool false,.slice none 0 0,.slice none 0 0,.slice none 0 0] 201)) (.cells #[.int .i64 (x:Int),.bool false,.slice none 0 0,.slice none 0 0,.slice none 0 0] 201);have c1:=c0.alloc (.cells #[.int .i64 (x:Int),.bool false,.slice none 0 0,.slice none 0 0,.slice none 0 0] 201);have k2:=(((Chg.refl [] _).alloc (.cells #[.int .i64 (x:Int),.bool false,.slice none 0 0,.slice none 0 0,.slice none 0 0] 201)).block w.heap.size (zhl k0) (by simp)).trans k0;rw [s1] at k1;have H0:=zh (zA hb (zA g (zA hM (zA hx (zA hc hl)))));have HD:=zh (zA hd (zA nd (zA hxN h2x)));have IH:=zh ih;have x0:((x:Int)==0)=false:=by rw [beq_eq_false_iff_ne];omega
 have x1:¬ (x:Int)<0:=by omega
 have x2:¬ (N:Int)<=(x:Int):=by omega
 have hbW:=hb.chg c1 (by simp);have hok:=g.good.ok;have hgn:=g.good.n;clear hb g hM hx hc ih k0 c0 s1;go_enter Tryz.func123,Tryz.ntmps123;go_upto_region 2 with fail;generalize (w.alloc _).alloc _=W at k1 c1 k2 hbW ⊢;obtain ⟨tb,htb⟩:∃ tb,tb=w.heap.size+1:=⟨_,rfl⟩;rw [<- htb] at k1 ⊢;obtain ⟨rb,hrb⟩:∃ rb,rb=w.heap.size:=⟨_,rfl⟩;rw [<- hrb] at k2 ⊢;have HW:=zh (zA htb (zA hrb (zA c1 (zA k1 (zA k2 hbW)))));have cbl:=hbW.cBlocks;rw [hgn] at cbl;have cn:=zh (hbW.cNode (x:Int));clear htb hrb c1 k1 k2 hbW hgn;go_wp2_with fail;refine (cbl).mono ?_;rintro e w' ⟨rfl,rfl⟩;go_wp2_with fail;refine cn.out.mono ?_;clear cn;rintro e w1 (⟨d',kb,vb,hd',rfl,q1,q2,q3,r1,r2,hc1⟩ | ⟨hd',rfl,hc1⟩)
 case inr=>exact absurd (HD.out.1.symm.trans hd') (by simp)
 obtain rfl:d'=d:=Option.some.inj (hd'.symm.trans HD.out.1);have hd1:=(hok.node_ok hd').1;have hnb:=znb w1 (.cells #[.bool d'.leaf,.slice (some ⟨kb,0,none⟩) d'.n d'.n,.slice (some ⟨vb,0,none⟩) d'.n d'.n] 107);have hcb:=(Chg.refl [] w1).alloc (.cells #[.bool d'.leaf,.slice (some ⟨kb,0,none⟩) d'.n d'.n,.slice (some ⟨vb,0,none⟩) d'.n d'.n] 107);have hnd:=NodeEnd.box hd1 q1 q2 r1 r2 hc1 hnb (hcb.mono (by simp));have HND:=zh hnd;have HC:=zh (hc1.trans hcb);have HOK:=zh hok;clear hnd hnb hcb hc1 r1 r2 hd' q1 q2 q3 hok;go_upto_region 7 with fail;generalize w1.alloc (.cells #[.bool d'.leaf,.slice (some ⟨kb,0,none⟩) d'.n d'.n,.slice (some ⟨vb,0,none⟩) d'.n d'.n] 107)=W1 at *;obtain ⟨xb,hxb⟩:∃ xb,xb=w1.heap.size:=⟨_,rfl⟩;rw [<- hxb] at HND ⊢;clear hxb;obtain ⟨lf,hlf⟩:∃ lf,lf=d'.leaf:=⟨_,rfl⟩;obtain ⟨z0,z1,z2⟩:=HND.out.c;rw [<- hlf] at z0;have HLF:=zh hlf;clear hlf;have hl8:((l:Int)==8)=false:=by rw [beq_eq_false_iff_ne];omega
 have kt:=(HC.out.block tb (zhl HW.out.2.2.2.1) (by simp)).trans HW.out.2.2.2.1;have kr:=(HC.out.block rb (zhl HW.out.2.2.2.2.1) (by simp)).trans HW.out.2.2.2.2.1;have HKT:=zh (zA kt kr);have y0:=zcb kt 0;have y1:=zcb kt 1;have y2:=zcb kt 2;have y3:=zcb kt 3;have y4:=zcb kt 4;simp only [tA1,tA3,tA2] at y0 y1 y2 y3 y4;have f0:=zfb kt 1;have f1:=zfb kt 2;have f2:=zfb kt 3;clear kt kr;go_upto_region 10 with fail;have hT2:=zsb (zsb (zsb HKT.out.1 1 (.bool lf)) 2 (.slice (some ⟨kb,0,none⟩) d'.n d'.n)) 3 (.slice (some ⟨vb,0,none⟩) d'.n d'.n);have cT2:=((((Chg.refl [tb] W1).setCell (p:=⟨tb,1,none⟩) (.inl (by simp)) (.bool lf)).setCell (p:=⟨tb,2,none⟩) (.inl (by simp)) (.slice (some ⟨kb,0,none⟩) d'.n d'.n)).setCell (p:=⟨tb,3,none⟩) (.inl (by simp)) (.slice (some ⟨vb,0,none⟩) d'.n d'.n));simp only [sA1,sA2,sA3] at hT2;generalize ((W1.setCell ⟨tb,1,none⟩ (.bool lf)).setCell ⟨tb,2,none⟩ (.slice (some ⟨kb,0,none⟩) d'.n d'.n)).setCell ⟨tb,3,none⟩ (.slice (some ⟨vb,0,none⟩) d'.n d'.n)=W2 at hT2 cT2 ⊢;have hfar:=HND.out.far;have htw:=HW.out.1;have hrw:=HW.out.2.1;have hWs:=HC.out.size;have hts:=zhl HW.out.2.2.2.1;have hn2:=HND.out.chg cT2 (fun q hq=>by rw [zms] at hq;exact .inl (by omega));have c02:Chg [] w W2:=(HW.out.2.2.1.trans HC.out).then cT2 (fun q hq=>by rw [zms] at hq;exact .inr (by omega));have hT0:=TrS.mk (w:=w) (B:=B) (k:=k) (rb:=rb) (d:=d') (us:=[]) hT2 (World.ownsRow_nil _ _ _ _) rfl (fun U hU=>by cases hU) (fun j hj=>by omega) (Chg.refl [tb] W2)
 have hr2:=(cT2.block rb (zhl HKT.out.2) (by simp only [zms];omega)).trans HKT.out.2;have H2:=zh (zA hn2 (zA c02 (zA hT0 (zA hr2 (zA (show w.heap.size<=tb by omega) (zA (show w.heap.size<=rb by omega) (show rb≠tb by omega)))))));obtain ⟨z0,z1,z2⟩:=hn2.c;rw [<- HLF.out] at z0;clear y0 y1 y2 y3 y4 f0 f1 f2 cbl;clear hT2 cT2 hfar htw hrw hWs hts hn2 c02 hT0 hr2;go_upto_region 11 with fail;go_loopg [58] d'.n (fun gg s58 wr=>∃ i:Nat,gg=d'.n - i/\i<=d'.n/\(lf=true->i=0)/\s58 = .int .i64 (i:Int)/\Hid (∃ u us,TrS w W2 B k tb rb d' (.int .i64 (x:Int)) (.bool lf) (.slice (some ⟨kb,0,none⟩) d'.n d'.n) (.slice (some ⟨vb,0,none⟩) d'.n d'.n) i wr u us))
 case atStart=>exact ⟨0,rfl,Nat.zero_le _,fun _=>rfl,rfl,zh ⟨_,_,H2.out.2.2.1⟩⟩
 case round =>
  obtain ⟨i,hgi,hi,hl0,rfl,HR⟩:=hrel;have HGI:=zh hgi;clear hgi;clear z0 z1 z2;obtain ⟨u,us,hS⟩:=HR.out;have HS:=zh hS;have hcn:Chg [] w wr:=H2.out.2.1.then hS.chg (fun q hq=>by rw [zms] at hq;exact .inr (by have:=H2.out.2.2.2.2.1;omega));have hnr:=H2.out.1.chg hS.chg (fun q hq=>by rw [zms] at hq;exact .inl (by have:=H2.out.2.2.2.2.1;have:=HW.out.1;have:=zhl HW.out.2.2.2.1;omega));have hrr:=(hS.chg.block rb (zhl H2.out.2.2.2.1) (by simp only [zms];exact H2.out.2.2.2.2.2.2)).trans H2.out.2.2.2.1;obtain ⟨ua,uc,rfl,u1,u2⟩:=zos hS.own;have kt:=hS.top;obtain ⟨z0,z1,z2⟩:=hnr.c;rw [<- HLF.out] at z0;have y0:=zcb kt 0;have y1:=zcb kt 1;have y2:=zcb kt 2;have y3:=zcb kt 3;have y4:=zcb kt 4;simp only [tA1,tA3,tA2] at y0 y1 y2 y3 y4;have t0:=zcb hrr 0;have t1:=zcb hrr 1;have t2:=zcb hrr 2;have t3:=zcb hrr 3;have t4:=zcb hrr 4;simp only [tA1,tA3,tA2] at t0 t1 t2 t3 t4;have f0:=zfb hrr 0;have f1:=zfb hrr 1;have f2:=zfb hrr 2;have f3:=zfb hrr 3;have f4:=zfb hrr 4;have HR2:=zh (zA hcn (zA hnr hrr));by_cases hend:i=d'.n∨lf=true
  ·have hfin:i=if d'.leaf then 0 else d'.n:=by
    rw [<- HLF.out]
    cases lf with
    | true=>exact hl0 rfl
    | false=>exact hend.resolve_right (by decide)
   have FIN:=zh (fun w' (cc:Chg [rb] wr w')=>hS.fin HW.out.2.2.1.size hnr HD.out.1 HLF.out hfin H2.out.2.1 H2.out.2.2.2.2.1 H2.out.2.2.2.2.2.1 cc (zhl H2.out.2.2.2.1) (by have:=hnr.far;have:=HW.out.1;have:=HW.out.2.1;have:=zhl HW.out.2.2.2.1;omega));clear hfin hcn hnr hS kt hl0;by_cases hin:i<d'.n
   ·have i1:(i:Int)<(d'.n:Int):=by omega
    obtain rfl:lf=true:=hend.resolve_left (by omega);have hvc:=HR2.out.2.1.v.cell hin;clear hend hrr;go_wp2_with fail;refine bodyPost_ret (results_ct (a:=6) (b:=7) (by kernel_rfl) rfl (load5 (set5 HR2.out.2.2 _ _ _ _ _))) rfl ?_;exact FIN.out _ (set5_chg _ _ _ _ _ _ _)
   ·have i1:¬ (i:Int)<(d'.n:Int):=by omega
    clear hend hrr;go_wp2_with fail;refine bodyPost_ret (results_ct (a:=6) (b:=7) (by kernel_rfl) rfl (load5 (set5 HR2.out.2.2 _ _ _ _ _))) rfl ?_;exact FIN.out _ (set5_chg _ _ _ _ _ _ _)
  ·have hin:i<d'.n:=by omega
   have i1:(i:Int)<(d'.n:Int):=by omega
   obtain rfl:lf=false:=by
    cases lf with
    | true=>exact absurd (Or.inr rfl) hend
    | false=>rfl
   have hkn:¬ c % 100=0:=by
    have:=HLF.out;rw [nd.leaf] at this;exact of_decide_eq_false this.symm
   have hkid:=nd.kid hkn i hin
   have hvl:=H0.out.2.1.val_live H0.out.2.2.2.1 HD.out.1 hin (fun e=>by
    have h1:=H0.out.2.1.lt hkid;have:=H0.out.2.1.two h1.2 h1.1;omega)
   have hvc:=hnr.v.cell hin;have hkk:=H0.out.2.2.2.2.1;have hM:=H0.out.2.2.1;have ck:=IH.out (k - 1) (by omega) (l:=l+1) (H0.out.1.chg hcn (by simp)) H0.out.2.1 H0.out.2.2.1 hkid (by omega) (by omega);have cb:=(H0.out.1.chg hcn (by simp)).cBlocks;rw [H0.out.2.1.good.n] at cb;obtain ⟨v,hv⟩:∃ v,v=d'.v i:=⟨_,rfl⟩;rw [<- hv] at hvl hvc ck;have HV:=zh hv;rw [show ((l+1:Nat):Int)=(l:Int)+1 by omega] at ck;have CK:=zh ck;have e1:((v:Int)==0)=false:=by rw [beq_eq_false_iff_ne];omega
   have e2:IntKind.u64.wrap (N:Int)=(N:Int):=IntWalk.u64_in _ (by omega);have e3:¬ (N:Int)<=(v:Int):=by omega
   have e4:IntKind.i64.wrap (v:Int)=(v:Int):=IntWalk.i64_in _ (by omega);have e5:IntKind.i64.wrap ((l:Int)+1)=(l:Int)+1:=IntWalk.i64_in _ (by omega);have hk1:1<=k:=by omega
   clear hend hrr hv ck hnr hS kt hkid hkn hcn hl0;go_wp2_with fail;refine cb.mono ?_;clear cb;rintro e w' ⟨rfl,rfl⟩;go_wp2_with fail;refine CK.out.mono ?_;clear CK;rintro e w3 ⟨lk,a1,a2,a3,n1,m1,n2,m2,n3,m3,rfl,hT,hc3⟩;have HT:=zh (zA hT hc3);clear hT hc3;go_upto_region 19 with fail;have kx:=znb w3 (.cells #[.int .i64 (v:Int),.bool lk,.slice a1 n1 m1,.slice a2 n2 m2,.slice a3 n3 m3] 201);have cx:=HT.out.2.alloc (.cells #[.int .i64 (v:Int),.bool lk,.slice a1 n1 m1,.slice a2 n2 m2,.slice a3 n3 m3] 201);have cx3:=(Chg.refl [] w3).alloc (.cells #[.int .i64 (v:Int),.bool lk,.slice a1 n1 m1,.slice a2 n2 m2,.slice a3 n3 m3] 201);generalize w3.alloc (.cells #[.int .i64 (v:Int),.bool lk,.slice a1 n1 m1,.slice a2 n2 m2,.slice a3 n3 m3] 201)=W3 at kx cx cx3 ⊢;have e0:=zcb kx 0;have e1:=zcb kx 1;have e2:=zcb kx 2;have e3:=zcb kx 3;have e4:=zcb kx 4;simp only [tA1,tA3,tA2] at e0 e1 e2 e3 e4;have kt:=(cx.block tb (zhl HS.out.top) (by simp)).trans HS.out.top;clear y0 y1 y2 y3 y4 z0 z1 z2 hvc t0 t1 t2 t3 t4 f0 f1 f2 f3 f4;have y0:=zcb kt 0;have y1:=zcb kt 1;have y2:=zcb kt 2;have y3:=zcb kt 3;have y4:=zcb kt 4;simp only [tA1,tA3,tA2] at y0 y1 y2 y3 y4;have hn4:=znb W3 (.cells #[.int .i64 (v:Int),.bool lk,.slice a1 n1 m1,.slice a2 n2 m2,.slice a3 n3 m3] 201);have hc4:Chg [] W3 (W3.alloc (.cells #[.int .i64 (v:Int),.bool lk,.slice a1 n1 m1,.slice a2 n2 m2,.slice a3 n3 m3] 201)):=(Chg.refl [] W3).alloc _;have c4:=cx.trans hc4
   have H4:=zh (zA (zoc HS.out.own c4 (by simp)) (zA hn4 (zA c4 (zA (zLt HS.out.chg.size c4.size) ((c4.block tb (zhl HS.out.top) (by simp)).trans HS.out.top)))));have n7:=hd1.n
   have HTU:Hid (tb∉ownL (.slice ua i uc)):=zh (fun hm=>by
    have h1:=(HS.out.own.lt tb (zml.1 hm)).1;have h2:=zhl H2.out.2.2.1.top;omega)
   have C34:=zh (cx3.trans hc4);clear hn4 hc4 c4 kt kx cx cx3;go_wp2_with (at_builtin;refine wpList_app rfl _ _ 199 rfl rfl (base:=W2.heap.size) (size:=5) (n:=i) (m:=1) (xs:=us.flatten) (news:=[.int .i64 (v:Int),.bool lk,.slice a1 n1 m1,.slice a2 n2 m2,.slice a3 n3 m3]) Tryz.underlying199 infoTree5 rfl (by omega) (by omega) rfl rfl H4.out.1 (AppSrc.blk H4.out.2.1 rfl (fun u hu=>by simp at hu;rcases hu with rfl | rfl | rfl | rfl | rfl <;> rfl)) (by omega) H4.out.2.2.2.1 ?_;intro v' w5 hown5 hg5 ho5;obtain ⟨va,vc,rfl,v1,v2⟩:=zos hown5;have cG:=(Chg.refl (ownL (.slice ua i uc)) _).grown hg5 (fun z hz => .inl (zml.2 hz));have kt5:=(cG.block tb (zhl H4.out.2.2.2.2) HTU.out).trans H4.out.2.2.2.2;have y5:w5.cell? ⟨tb,4,none⟩=some (.slice ua i uc):=(zcb kt5 4).trans rfl;have f5:=zfb kt5 4;have KT5:=zh (zA kt5 cG);clear kt5 cG;have H5:=zh (zA hown5 (zA hg5 ho5));clear hown5 hg5 ho5);go_roundg (d'.n - (i+1))
   case measure=>have:=HGI.out;omega
   case rel =>
    have htb:=zhl H2.out.2.2.1.top;have hto:=H2.out.2.2.2.2.1;have hW:=HW.out.2.2.1.size;have cS:Chg [tb] w5 (w5.setCell ⟨tb,4,none⟩ (.slice va (i+1) vc)):=(Chg.refl [tb] w5).setCell (.inl (by simp)) _;have htop:=zsb KT5.out.1 4 (.slice va (i+1) vc);simp only [sA1,sA2,sA3] at htop
    have hnv:∀ g,(Value.slice va (i+1) vc).ownBlock=some g->g∉[tb]:=fun g hg=>by
     have:=(H5.out.1.lt g hg).1;simp only [zms];omega
    obtain ⟨U,hU⟩:∃ U,U=[Value.int .i64 (v:Int),.bool lk,.slice a1 n1 m1,.slice a2 n2 m2,.slice a3 n3 m3]:=⟨_,rfl⟩;have h5:=H5.out.1;rw [<- hU] at h5
    have hT:∀ A,(∀ q,q∈A->q<wr.heap.size)->TrIn A w3 B k v U:=by
     have:=HT.out.1;rw [<- hU,show k - 1+1=k by omega] at this;exact this
    refine ⟨i+1,rfl,hin,fun q=>(by cases q),by go_num,zh ⟨.slice va (i+1) vc,us++[U],?_⟩⟩;have hob:(Value.slice va (i+1) vc).ownBlock=(Value.slice ua i uc).ownBlock∨(Value.slice va (i+1) vc).ownBlock=some _:=H5.out.2.2
    have hal:∀ A,(∀ q,q∈A->q<w.heap.size)->∀ f y Y,TrIn ([tb,rb]++ownL (.slice ua i uc)++A) _ B f y Y->TrIn ([tb,rb]++ownL (.slice va (i+1) vc)++A) (w5.setCell ⟨tb,4,none⟩ (.slice va (i+1) vc)) B f y Y:=fun A hA f y Y h=>by
     refine (h.chg KT5.out.2 (A':=[tb,rb]++ownL (.slice va (i+1) vc)++A) (fun q hq => .inl (zal _ (zar _ hq))) (fun q hq=>?_)).chg cS (fun q hq => .inl (by rw [zms] at hq;simp [hq])) (fun q hq => .inl hq);rcases List.mem_append.1 hq with hq | hq
     ·rcases List.mem_append.1 hq with hq | hq
      ·exact .inl (zal _ (zal _ hq))
      ·have hq:=zml.1 hq
       rcases hob with e | e
       ·exact .inl (zal _ (zar _ (zml.2 (e.symm.trans hq))))
       ·rw [e] at hq
        exact .inr (Nat.le_of_eq (Option.some.inj hq))
     ·exact .inl (zar _ hq)
    refine ⟨htop,?_,by rw [List.length_append,HS.out.len];rfl,fun V hV=>?_,fun j hj A hA=>?_,((HS.out.chg.trans (H4.out.2.2.1.mono (by simp))).then KT5.out.2 (fun q hq => .inr (HS.out.own.lt q (zml.1 hq)).1)).then cS (fun q hq => .inl hq)⟩
    ·have:=zoc h5 cS hnv
     rw [List.flatten_append];simpa using this
    ·rcases List.mem_append.1 hV with hV | hV
     ·exact HS.out.five V hV
     ·rw [zms] at hV
      rw [hV,hU];rfl
    ·by_cases hji:j<i
     ·rw [zgD,List.getElem?_append_left (by rw [HS.out.len];exact hji),<- zgD]
      exact hal A hA _ _ _ ((HS.out.kids j hji A hA).chg H4.out.2.2.1 (by simp) (fun q hq => .inl hq))
     ·obtain rfl:j=i:=by omega
      rw [zgD,List.getElem?_append_right (by rw [HS.out.len];omega),HS.out.len,Nat.sub_self,<- HV.out]
      have hlt:∀ q,q∈[tb,rb]++ownL (.slice ua j uc)++A->q<wr.heap.size:=fun q hq=>by
       have hws:=HR2.out.1.size;rcases List.mem_append.1 hq with hq | hq
       ·rcases List.mem_append.1 hq with hq | hq
        ·simp only [List.mem_cons,List.not_mem_nil,or_false] at hq
         rcases hq with rfl | rfl
         ·exact zhl HS.out.top
         ·exact zhl HR2.out.2.2
        ·exact (HS.out.own.lt q (zml.1 hq)).2
       ·have:=hA q hq;omega
      exact hal A hA _ _ _ ((hT _ hlt).chg C34.out (by simp) (fun q hq => .inl hq))
theorem tree14_all:∀ k,TreeAt k
 | 0=>tree_step fun k' h=>by cases h
 | k+1=>tree_step fun k' h=>by
  obtain rfl:k'=k:=by omega
  exact tree14_all k'
theorem set_fn {b N o:Nat} {t:TypeId} {w:World} {V:Nat->Value} {v:Value} (h:w.heap[b]?=some (.cells (fnRow N V) t (0,0))):(w.setCell ⟨b,o,none⟩ v).heap[b]?=some (.cells (fnRow N (fun i=>if i=o then v else V i)) t (0,0)):=by
 rw [zsb h];congr 2;apply Array.ext_getElem?;intro i;rw [Array.getElem?_setIfInBounds];by_cases hi:i<N
 ·rw [zfg hi,zfg hi]
  by_cases e:o=i
  ·subst e;rw [if_pos rfl,if_pos rfl,if_pos (by rw [zfs];exact hi)]
  ·rw [if_neg e,if_neg (fun q=>e q.symm)]
 ·rw [Array.getElem?_eq_none (by rw [zfs];omega),Array.getElem?_eq_none (by rw [zfs];omega)]
  by_cases e:o=i
  ·subst e;rw [if_pos rfl,if_neg (by rw [zfs];omega)]
  ·rw [if_neg e]
def NumRow (w:World) (b N:Nat) (o:Nat->Nat):Prop:=w.heap[b]?=some (.cells (fnRow N fun i => .int .i64 (o i:Int)) 3 (0,0))
def BitRow (w:World) (b N:Nat) (D:Nat->Bool):Prop:=w.heap[b]?=some (.cells (fnRow N fun i => .bool (D i)) 4 (0,0))
theorem NumRow.set {w:World} {b N x v:Nat} {o:Nat->Nat} (h:NumRow w b N o):NumRow (w.setCell ⟨b,x,none⟩ (.int .i64 (v:Int))) b N (fun i=>if i=x then v else o i):=by
 refine (set_fn h).trans ?_;congr 3;funext i
 by_cases e:i=x <;> simp [e]
theorem BitRow.set {w:World} {b N x:Nat} {D:Nat->Bool} (h:BitRow w b N D):BitRow (w.setCell ⟨b,x,none⟩ (.bool true)) b N (setD D x):=by
 refine (set_fn h).trans ?_;congr 3;funext i
 unfold setD
 split <;> rfl
theorem NumRow.chg {w w':World} {b N:Nat} {o:Nat->Nat} {L:List Nat} (h:NumRow w b N o) (c:Chg L w w') (hL:b∉L):NumRow w' b N o:=(c.block b (zhl h) hL).trans h
theorem BitRow.chg {w w':World} {b N:Nat} {D:Nat->Bool} {L:List Nat} (h:BitRow w b N D) (c:Chg L w w') (hL:b∉L):BitRow w' b N D:=(c.block b (zhl h) hL).trans h
theorem NumRow.cell {w:World} {b N x:Nat} {o:Nat->Nat} (h:NumRow w b N o) (hx:x<N):w.cell? ⟨b,x,none⟩=some (.int .i64 (o x:Int)):=(zcb h _).trans (zfg hx)
theorem BitRow.cell {w:World} {b N x:Nat} {D:Nat->Bool} (h:BitRow w b N D) (hx:x<N):w.cell? ⟨b,x,none⟩=some (.bool (D x)):=(zcb h _).trans (zfg hx)
theorem TrIn.head {A:List Nat} {w:World} {B:Bs} : ∀ {f x:Nat} {V:List Value},TrIn A w B f x V->∃ v1 v2 v3 v4,V=[.int .i64 (x:Int),v1,v2,v3,v4]
 | 0,_,_,h=>h.elim
 | f+1,_,_,h=>by obtain ⟨_,_,_,_,_,_,rfl,_⟩:=h;exact ⟨_,_,_,_,rfl⟩
structure Added (B:Bs) (N:Nat) (ht:Ht) (w:World) (ob db:Nat) (o:Nat->Nat) (D:Nat->Bool) (w':World) (o':Nat->Nat) (D':Nat->Bool):Prop where
 out:NumRow w' ob N o'
 bits:BitRow w' db N D'
 marks:Marks B ht D D'
 sum:∀ b,1<=b->b<N->o' b+addS B N D b=o b+addS B N D' b
 zero:o' 0=o 0
 chg:Chg [ob,db] w w'
theorem Added.trans {B:Bs} {N:Nat} {ht:Ht} {w w' w'':World} {ob db:Nat} {o o' o'':Nat->Nat} {D D' D'':Nat->Bool} (a:Added B N ht w ob db o D w' o' D') (b:Added B N ht w' ob db o' D' w'' o'' D''):Added B N ht w ob db o D w'' o'' D'' :=
 ⟨b.out,b.bits,a.marks.trans b.marks,fun q h1 h2=>by have:=a.sum q h1 h2;have:=b.sum q h1 h2;omega,b.zero.trans a.zero,a.chg.trans b.chg⟩
def Far (B:Bs) (N:Nat) (o:Nat->Nat) (D:Nat->Bool):Prop:=∀ b,1<=b->b<N->o b<=1000000000+addS B N D b
theorem Added.far {B:Bs} {N:Nat} {ht:Ht} {w w':World} {ob db:Nat} {o o':Nat->Nat} {D D':Nat->Bool} (a:Added B N ht w ob db o D w' o' D') (h:Far B N o D):Far B N o' D':=fun b h1 h2=>by
 have:=a.sum b h1 h2;have:=h b h1 h2;omega
theorem addS_le {N:Nat} {B:Bs} (ok:B.Ok) (D:Nat->Bool) (b:Nat):addS B N D b<=N*7:=sumTo_le (fun i=>by
 split
 ·cases hd:B.nodeI (i:Int) with
  | none=>exact Nat.zero_le _
  | some d=>exact zLt (occ_le d b) (ok.node_ok hd).1.n
 ·exact Nat.zero_le _) N
def AddAt (f:Nat):Prop:=∀ {w:World} {B:Bs} {N G:Nat} {ht:Ht} {pend:Nat->Nat} {ob db x c:Nat} {o:Nat->Nat} {D:Nat->Bool} {v1 v2 v3 v4:Value},Gr N G B ht pend->N<=4096->ht x=some c->ob≠db->NumRow w ob N o->BitRow w db N D->Far B N o D ->
 TrIn [ob,db] w B f x [.int .i64 (x:Int),v1,v2,v3,v4] ->
 Calls Tryz.prog 165 #[.slice (some ⟨ob,0,none⟩) N N,.slice (some ⟨db,0,none⟩) N N,.agg #[.int .i64 (x:Int),v1,v2,v3,v4]] w fun e w'=>e = .returned (.tuple #[])/\∃ o' D',Added B N ht w ob db o D w' o' D'/\D' x=true
def oI (d:Nd) (o:Nat->Nat) (i:Nat) (b:Nat):Nat:=if b=0 then o 0 else o b+cnt i fun j=>decide (d.v j=b)
theorem oI_zero (d:Nd) (o:Nat->Nat):oI d o 0=o:=by
 funext b
 unfold oI;by_cases e:b=0
 ·rw [if_pos e,e]
 ·rw [if_neg e];rfl
theorem oI_skip {d:Nd} {o:Nat->Nat} {i:Nat} (h:d.v i=0):oI d o (i+1)=oI d o i:=by
 funext b
 unfold oI;by_cases e:b=0
 ·rw [if_pos e,if_pos e]
 ·rw [if_neg e,if_neg e,cnt_step,h,decide_eq_false (fun q=>e q.symm)];simp
theorem oI_more {d:Nd} {o:Nat->Nat} {i:Nat} (h:d.v i≠0):oI d o (i+1)=fun b=>if b=d.v i then oI d o i (d.v i)+1 else oI d o i b:=by
 funext b
 unfold oI;by_cases e:b=0
 ·subst e;rw [if_pos rfl,if_neg (fun q=>h q.symm),if_pos rfl]
 ·by_cases e2:b=d.v i
  ·subst e2
   rw [if_neg e,if_pos rfl,if_neg e,cnt_step,decide_eq_true rfl,if_pos rfl];omega
  ·rw [if_neg e,if_neg e2,if_neg e,cnt_step,decide_eq_false (fun q=>e2 q.symm)];simp
theorem add_step {f:Nat} (ih:AddAt f):AddAt (f+1):=by
 intro w B N G ht pend ob db x c o D v1 v2 v3 v4 g hM hx hod ho hD hfar hT;obtain ⟨d,vk,vv,a,n,cc,hV,hd,dok,hk,hv,hc1,hc2,hn,hkids⟩:=hT;simp only [List.cons.injEq,and_true] at hV;obtain ⟨-,rfl,rfl,rfl,rfl⟩:=hV;obtain ⟨va,vc,rfl⟩:=hv.len;obtain ⟨ka,kc,rfl⟩:=hk.len;obtain ⟨hxN,hxl,d',hd',nd⟩:=g.node x c hx;obtain rfl:d=d':=Option.some.inj (hd.symm.trans hd');have c0:=(Chg.refl [] w).alloc (.cells #[.int .i64 (x:Int),.bool d.leaf,.slice ka d.n kc,.slice va d.n vc,.slice a n cc] 201);have k0:=znb w (.cells #[.int .i64 (x:Int),.bool d.leaf,.slice ka d.n kc,.slice va d.n vc,.slice a n cc] 201);have IH:Hid (AddAt f) := @ih;have H:=zh (zA g (zA hM (zA hx (zA hod (zA hfar (zA hxN (zA hd (zA nd dok))))))));have HK:=zh (zA hv (zA hkids (zA hn (zA hc1 hc2))));have n7:=dok.n;have hob:=zhl ho;have hdb:=zhl hD;clear ih g hM hx hfar hk hv hkids hn hd hd' nd dok;go_enter Tryz.func165,Tryz.ntmps165;go_upto_region 1 with (refine wpList_boxAgg rfl 201 (.tmp 2) rfl (cells:=#[.int .i64 (x:Int),.bool d.leaf,.slice ka d.n kc,.slice va d.n vc,.slice a n cc]) rfl ?_)
 generalize w.alloc (.cells #[.int .i64 (x:Int),.bool d.leaf,.slice ka d.n kc,.slice va d.n vc,.slice a n cc] 201)=W0 at c0 k0 ⊢;obtain ⟨xb,hxb⟩:∃ xb,xb=w.heap.size:=⟨_,rfl⟩;rw [<- hxb] at k0 ⊢;have ho0:=ho.chg c0 (by simp);have hD0:=hD.chg c0 (by simp);have xc:=hD0.cell hxN;have xf:=zfb hD0 x;have y0:=zcb k0 0;have y1:=zcb k0 1;have y2:=zcb k0 2;have y3:=zcb k0 3;have y4:=zcb k0 4;simp only [tA1,tA3,tA2] at y0 y1 y2 y3 y4;have HXB:=zh (zA hxb (zA c0 (zA k0 (zA ho0 hD0))));clear hxb c0 k0 ho0 hD0 ho hD
 cases hDx:D x with
 | true =>
  rw [hDx] at xc;have hE:Added B N ht w ob db o D W0 o D:=⟨HXB.out.2.2.2.1,HXB.out.2.2.2.2,Marks.refl _ _ _,fun b _ _=>rfl,rfl,HXB.out.2.1.mono (by simp)⟩;have HE:=zh hE;clear hE;go_wp2_with fail;exact bodyPost_ret (v := .tuple #[]) (by simp [results,Tryz.f165,go_sem]) rfl ⟨rfl,o,D,HE.out,hDx⟩
 | false =>
  rw [hDx] at xc;go_upto_region 4 with fail;have hD1:=HXB.out.2.2.2.2.set (x:=x);have c1:=(Chg.refl [db] W0).setCell (p:=⟨db,x,none⟩) (.inl (by simp)) (.bool true);generalize W0.setCell ⟨db,x,none⟩ (.bool true)=W1 at hD1 c1 ⊢;have ho1:=HXB.out.2.2.2.1.chg c1 (by simp only [zms];exact H.out.2.2.2.1);have k1:=(c1.block xb (zhl HXB.out.2.2.1) (by simp only [zms];rw [HXB.out.1];omega)).trans HXB.out.2.2.1;have H1:=zh (zA hD1 (zA ho1 (zA k1 ((HXB.out.2.1.mono (by simp):Chg [ob,db] w W0).trans (c1.mono (by simp))))));clear hD1 c1 ho1 k1 xc xf y0 y1 y2 y3 y4;go_loopg [6] d.n (fun gg s6 wr=>∃ i:Nat,gg=d.n - i/\i<=d.n/\s6 = .int .i64 (i:Int)/\Hid (NumRow wr ob N (oI d o i)/\BitRow wr db N (setD D x)/\wr.heap[xb]?=some (.cells #[.int .i64 (x:Int),.bool d.leaf,.slice ka d.n kc,.slice va d.n vc,.slice a n cc] 201 (0,0))/\Chg [ob,db] w wr))
  case atStart=>exact ⟨0,rfl,Nat.zero_le _,rfl,zh ⟨by rw [oI_zero];exact H1.out.2.1,H1.out.1,H1.out.2.2.1,H1.out.2.2.2⟩⟩
  case round =>
   obtain ⟨i,hgi,hi,rfl,HR⟩:=hrel;have HGI:=zh hgi;clear hgi;have kr:=HR.out.2.2.1;have y0:=zcb kr 0;have y1:=zcb kr 1;have y2:=zcb kr 2;have y3:=zcb kr 3;have y4:=zcb kr 4;simp only [tA1,tA3,tA2] at y0 y1 y2 y3 y4;clear kr;by_cases hin:i<d.n
   ·have i1:(i:Int)<(d.n:Int):=by omega
    obtain ⟨b,off,rfl,hb,hbA,hnum⟩:=(HK.out.1.chg HR.out.2.2.2 (fun q hq => .inl hq)).get hin;obtain ⟨hvc,hv64⟩:=hnum i hin;have hval:=H.out.1.val_live H.out.2.2.1 H.out.2.2.2.2.2.2.1 hin;obtain ⟨v,hv⟩:∃ v,v=d.v i:=⟨_,rfl⟩;rw [<- hv] at hvc hv64 hval;have HV:=zh hv;have hM:=H.out.2.1;have e2:IntKind.u64.wrap (N:Int)=(N:Int):=IntWalk.u64_in _ (by omega);clear hnum hbA hb hv;by_cases hv0:v=0
    ·have e1:¬ (0:Int)<(v:Int):=by omega
     have hsk:=oI_skip (d:=d) (o:=o) (i:=i) (by rw [<- HV.out];exact hv0);have HSK:=zh hsk;clear hsk hval hv0;go_wp2_with fail;go_roundg (d.n - (i+1))
     case measure=>have:=HGI.out;omega
     case rel=>exact ⟨i+1,rfl,hin,by go_num,zh ⟨by rw [HSK.out];exact HR.out.1,HR.out.2⟩⟩
    ·obtain ⟨v2,vN,vl⟩:=hval hv0
     have e1:(0:Int)<(v:Int):=by omega
     have e3:(v:Int)<(N:Int):=by omega
     have oc:=HR.out.1.cell vN;have of_:=zfb HR.out.1 v;have hmo:=oI_more (d:=d) (o:=o) (i:=i) (by rw [<- HV.out];exact hv0);rw [<- HV.out] at hmo;obtain ⟨ov,hov⟩:∃ ov,ov=oI d o i v:=⟨_,rfl⟩
     have hle:ov<=1000000000+N*7+7:=by
      have h1:=H.out.2.2.2.2.1 v (by omega) vN;have h2:=addS_le H.out.1.good.ok (N:=N) D v;have h3:(cnt i fun j=>decide (d.v j=v))<=i:=cnt_le _ _;rw [hov];unfold oI;rw [if_neg (by omega)];omega
     rw [<- hov] at oc hmo;have e4:IntKind.i64.wrap ((ov:Int)+1)=((ov+1:Nat):Int):=by rw [IntWalk.i64_in _ (by omega)];omega
     obtain ⟨o1,ho1⟩:∃ o1,o1=ov+1:=⟨_,rfl⟩;rw [<- ho1] at e4 hmo;have HMO:=zh hmo;clear hmo hov hval hle hv0 ho1;go_wp2_with fail;go_roundg (d.n - (i+1))
     case measure=>have:=HGI.out;omega
     case rel =>
      have cS:Chg [ob] wr (wr.setCell ⟨ob,v,none⟩ (.int .i64 (o1:Int))):=(Chg.refl [ob] wr).setCell (.inl (by simp)) _;refine ⟨i+1,rfl,hin,by go_num,zh ⟨by rw [HMO.out];exact HR.out.1.set,HR.out.2.1.chg cS (by simp only [zms];exact fun q=>H.out.2.2.2.1 q.symm),(cS.block xb (zhl HR.out.2.2.1) (by simp only [zms];rw [HXB.out.1];omega)).trans HR.out.2.2.1,HR.out.2.2.2.trans (cS.mono (by simp))⟩⟩
   ·obtain rfl:i=d.n:=by omega
    have i1:¬ (d.n:Int)<(d.n:Int):=by omega
    go_upto_region 10 with fail
    have hfar:Far B N (oI d o d.n) (setD D x):=fun b h1 h2=>by
     have:=H.out.2.2.2.2.1 b h1 h2;rw [addS_set H.out.2.2.2.2.2.1 hDx H.out.2.2.2.2.2.2.1];unfold oI occ;rw [if_neg (by omega)];omega
    have H2:=zh (zA (Added.mk HR.out.1 HR.out.2.1 (Marks.refl B ht (setD D x)) (fun b _ _=>rfl) rfl (Chg.refl [ob,db] wr)) (zA hfar (zA HR.out.2.2.1 HR.out.2.2.2)));clear y0 y1 y2 y3 y4 hfar hi;obtain ⟨W2,rfl⟩:∃ W2,W2=wr:=⟨_,rfl⟩;have nn7:n<=7:=by have:=HK.out.2.2.1;split at this <;> omega
    go_loopg [8] n (fun gg s8 wk=>∃ i:Nat,gg=n - i/\i<=n/\s8 = .int .i64 (i:Int)/\Hid (∃ o1 D1,Added B N ht W2 ob db (oI d o d.n) (setD D x) wk o1 D1/\∀ j,j<i->D1 (d.v j)=true))
    case atStart=>exact ⟨0,rfl,Nat.zero_le _,rfl,zh ⟨_,_,H2.out.1,fun j hj=>by omega⟩⟩
    case round =>
     obtain ⟨i,hgj,hi,rfl,HA⟩:=hrel;have HGJ:=zh hgj;clear hgj;obtain ⟨o1,D1,hA,hA2⟩:=HA.out;have cwr:Chg [ob,db] w wr:=H2.out.2.2.2.trans hA.chg;have kr:=(hA.chg.block xb (zhl H2.out.2.2.1) (by rw [HXB.out.1];simp only [List.mem_cons,List.not_mem_nil,or_false];omega)).trans H2.out.2.2.1;have y0:=zcb kr 0;have y1:=zcb kr 1;have y2:=zcb kr 2;have y3:=zcb kr 3;have y4:=zcb kr 4;simp only [tA1,tA3,tA2] at y0 y1 y2 y3 y4;have HA1:=zh (zA hA (zA hA2 (zA cwr kr)));clear kr;by_cases hin:i<n
     ·have j1:(i:Int)<(n:Int):=by omega
      obtain ⟨g,rfl,hg,hgA,hkk⟩:=HK.out.2.1 (by omega);obtain ⟨U,hU,hc⟩:=hkk i hin;obtain ⟨u1,u2,u3,u4,rfl⟩:=hU.head
      have hlf:d.leaf=false/\n=d.n:=by
       have:=HK.out.2.2.1
       cases hq:d.leaf with
       | true=>rw [hq] at this;simp at this;omega
       | false=>rw [hq] at this;simp at this;exact ⟨rfl,this⟩
      have hkid:=H.out.2.2.2.2.2.2.2.1.kid (by
       have:=H.out.2.2.2.2.2.2.2.1.leaf;rw [hlf.1] at this;exact of_decide_eq_false this.symm) i (by omega)
      have hcw:∀ j,j<5->wr.cell? ⟨g,i*5+j,none⟩=[Value.int .i64 (d.v i:Int),u1,u2,u3,u4][j]?:=fun j hj=>(cwr.cell (p:=⟨g,i*5+j,none⟩) hg hgA).trans (hc j hj);have e0:wr.cell? ⟨g,i*5,none⟩=some (.int .i64 (d.v i:Int)):=hcw 0 (by omega);have e1:wr.cell? ⟨g,i*5+1,none⟩=some u1:=hcw 1 (by omega);have e2:wr.cell? ⟨g,i*5+2,none⟩=some u2:=hcw 2 (by omega);have e3:wr.cell? ⟨g,i*5+3,none⟩=some u3:=hcw 3 (by omega);have e4:wr.cell? ⟨g,i*5+4,none⟩=some u4:=hcw 4 (by omega)
      have ci:Calls Tryz.prog 165 #[.slice (some ⟨ob,0,none⟩) N N,.slice (some ⟨db,0,none⟩) N N,.agg #[.int .i64 (d.v i:Int),u1,u2,u3,u4]] wr fun e w'=>e = .returned (.tuple #[])/\∃ o' D',Added B N ht wr ob db o1 D1 w' o' D'/\D' (d.v i)=true :=
       IH.out H.out.1 H.out.2.1 hkid H.out.2.2.2.1 hA.out hA.bits (hA.far H2.out.2.1) (hU.chg cwr (fun q hq => .inl hq) (fun q hq => .inl hq) _ _ _)
      have CI:=zh ci;obtain ⟨v,hv⟩:∃ v,v=d.v i:=⟨_,rfl⟩;rw [<- hv] at e0 CI;have HV:=zh hv;clear ci hcw hkk hc hU hkid hlf hA hA2 hg hgA cwr hv;go_wp2_with fail;refine CI.out.mono ?_;clear CI;rintro e w3 ⟨rfl,o2,D2,hB,hBx⟩;have HB:=zh (zA hB hBx);clear hB hBx;go_wp2_with fail;go_roundg (n - (i+1))
      case measure=>have:=HGJ.out;omega
      case rel =>
       refine ⟨i+1,rfl,hin,by go_num,zh ⟨o2,D2,HA1.out.1.trans HB.out.1,fun j hj=>?_⟩⟩;by_cases e:j=i
       ·subst e;rw [<- HV.out];exact HB.out.2
       ·exact HB.out.1.marks.sub _ (HA1.out.2.1 j (by omega))
     ·obtain rfl:i=n:=by omega
      have j1:¬ (i:Int)<(i:Int):=by omega
      obtain ⟨hm,hm2⟩:=Marks.top (ht:=ht) (x:=x) (by rw [H.out.2.2.1];rfl) H.out.2.2.2.2.2.2.1 HA1.out.1.marks (fun hl j hj=>HA1.out.2.1 j (by have:=HK.out.2.2.1;rw [hl] at this;simp at this;omega))
      have hE:Added B N ht w ob db o D wr o1 D1:=⟨HA1.out.1.out,HA1.out.1.bits,hm,fun b h1 h2=>by
       have q1:=HA1.out.1.sum b h1 h2;rw [addS_set H.out.2.2.2.2.2.1 hDx H.out.2.2.2.2.2.2.1] at q1;unfold oI at q1;rw [if_neg (by omega)] at q1;unfold occ at q1;omega,by have:=HA1.out.1.zero;unfold oI at this;rw [if_pos rfl] at this;exact this,HA1.out.2.2.1⟩
      have HE:=zh (zA hE hm2);clear hE hm hm2 hA hA2 cwr;go_wp2_with fail
      go_end0
      exact ⟨rfl,o1,D1,HE.out.1,HE.out.2⟩
theorem add_all:∀ f,AddAt f
 | 0=>fun _ _ _ _ _ _ _ h=>h.elim
 | f+1=>add_step (add_all f)
end Go.Proofs.YtkhcaclndepgbaaGreat
