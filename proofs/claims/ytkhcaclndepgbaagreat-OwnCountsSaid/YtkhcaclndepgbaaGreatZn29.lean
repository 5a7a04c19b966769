/- Package base, in plain words: opening. · Package base: Back. · Package base: the steps of pages. · Layer 11 in plain words: what Format leaves on a disk, and the base that Open makes of it. · Package base, in plain words: what all steps of a commit leave on the disk. · Package base: the fresh blocks, rising. -/
import Derived.Test.YtkhcaclndepgbaaGreatZn28
import Derived.Laws.Tables
set_option linter.unusedVariables false
set_option linter.unusedSimpArgs false
set_option maxRecDepth 100000
set_option maxHeartbeats 20000000
namespace Go.Proofs.YtkhcaclndepgbaaGreat
open Go.RowKit
theorem Bs.Ok.back_ok {B:Bs} (h:B.Ok):B.back.Ok:=by
 have hs:SupOf B.Kp B.T.n B.a:=h.kp;refine { n:=h.n,own:=⟨⟨h.own.ok.n0,h.own.ok.n1,fun k i hk hi h0=>⟨(h.own.ok.has k i hk hi h0).1,?_⟩,h.own.ok.apart⟩,h.own.nz,h.own.kept,h.own.kept⟩,a2:=h.a2,low:=fun b hb=>⟨(h.low b hb).2,(h.low b hb).2⟩,le:=fun b hb=>⟨(h.le b hb).2,(h.le b hb).2⟩,first:=h.first,nx:=h.nx,fr:=?_,fle:=(fun b f hb hf=>by cases hf),s:=hs,kp:=hs,sg:=rfl,disk:=h.disk,dle:=h.dle }
 ·show B.T.kept (B.a k i)≠0
  rw [h.own.kept k i hk hi];omega
 ·intro b hb
  constructor
  ·intro h;cases h
  ·rintro ⟨h1,h2⟩
   exact absurd h1 h2
theorem Bs.Ok.open_ok {B:Bs} (h:B.Ok):B.open_.Ok:=by
 have hb:=h.back_ok;exact { hb with first:=rfl,nx:=⟨zLr _,by show 2<=B.T.n;have:=h.n;omega⟩ }
theorem best_kept {Kp:Sup} {o:Nat->Option Sup} (hK:0<Kp.gen) (h1:o (Kp.gen % 2)=some Kp) (h2:∀ S,o (1 - Kp.gen % 2)=some S->S.gen<Kp.gen):bestS o 2=Kp:=by
 rcases (show Kp.gen % 2=0∨Kp.gen % 2=1 by omega) with e | e
 ·rw [e] at h1 h2
  have b1:bestS o 1=Kp:=best_in h1 e hK
  cases ho:o 1 with
  | none=>rw [best_none ho,b1]
  | some S=>rw [best_out ho (fun q=>by rw [b1] at q;have:=h2 S ho;omega),b1]
 ·rw [e] at h1 h2
  refine best_in h1 e ?_
  cases ho:o 0 with
  | none=>rw [best_none ho];exact hK
  | some S =>
   by_cases hc:S.gen % 2=0/\(bestS o 0).gen<S.gen
   ·rw [best_in ho hc.1 hc.2];exact h2 S ho
   ·rw [best_out ho hc];exact hK
theorem Bs.Ok.decs {B:Bs} (h:B.Ok) {D:Nat->Nat->Nat} (hD:∀ b,b<B.T.n->∀ i,i<128->D b i=B.D b i):∃ o:Nat->Option Sup,(∀ k,k<2->DecIs (D k) (o k))/\bestS o 2=B.Kp:=by
 have hn:=h.n
 obtain ⟨o1,ho1,hx⟩:∃ o1:Option Sup,DecIs (D (1 - B.Kp.gen % 2)) o1/\∀ S,o1=some S->S.gen<B.Kp.gen:=by
  rcases h.disk.oth with h0 | ⟨S',q1,q2,q3⟩
  ·exact ⟨none,by show D _ 0≠6;rw [hD _ (by omega) 0 (by omega)];exact h0,fun S e=>by cases e⟩
  ·exact ⟨some S',⟨q1,fun i hi=>by rw [hD _ (by omega) i hi];exact q3 i hi⟩,fun S e=>by injection e with e;subst e;exact q2⟩
 refine ⟨fun k=>if k=B.Kp.gen % 2 then some B.Kp else o1,fun k hk=>?_,best_kept h.kp.ok.gen.1 (if_pos rfl) (fun S e=>hx S (by rw [if_neg (by omega)] at e;exact e))⟩;by_cases e:k=B.Kp.gen % 2
 ·subst e
  show DecIs _ (if _=_ then _ else _)
  rw [if_pos rfl];exact ⟨h.kp.ok,fun i hi=>by rw [hD _ (by omega) i hi];exact h.disk.sup i hi⟩
 ·obtain rfl:k=1 - B.Kp.gen % 2:=by omega
  show DecIs _ (if _=_ then _ else _)
  rw [if_neg e];exact ho1
theorem sup_same (w:World) {S S':Sup} (h:S.row=S'.row):(Op.equalIn 10000 49 (.agg S.row) (.agg S'.row)).run Tryz.prog w = .ok true w:=by
 obtain ⟨r,h1,h2⟩:=sup_eq w S S';rw [h1,h2.2 h]
theorem root_same {S:Sup} {N:Nat} {a:Nat->Nat->Nat} (h:SupOf S N a):(rootK S (pg (pg N)) (a 1) 2).row=S.row :=
 row_congr fun i hi=>root_val (r:=fun i=>if i<2 then (if i<pg (pg N) then a 1 i else 0) else S.roots i) (r':=S.roots) fun h2 h10=>by
  show (if i - 2<2 then (if i - 2<pg (pg N) then a 1 (i - 2) else 0) else S.roots (i - 2))=S.roots (i - 2)
  by_cases e:i - 2<2
  ·rw [if_pos e,h.r _ e]
  ·rw [if_neg e]
theorem built_base (M:Bm) (R:Br) (B:Bs) (n0 n1:Nat) (h0:n0=nOf B.T.n 0) (h1:n1=nOf B.T.n 1):Tryz.prog.built 51 [(0,.pointer (some ⟨M.d,0,none⟩)),(1,.pointer (some ⟨M.t,0,none⟩)),(2,.pointer (some ⟨M.p,0,none⟩)),(3,.agg #[.slice (some ⟨R.g 0,0,none⟩) n0 (R.c 0),.slice (some ⟨R.g 1,0,none⟩) n1 (R.c 1)]),(4,.map (some M.mf)),(5,.agg B.S.row),(6,.agg B.Kp.row),(7,.int .i64 ((B.Kp.gen % 2:Nat):Int))]=some (fnRow 44 (baseV M R B)):=by
 subst h0;subst h1
 kernel_rfl
theorem wpList_boxAgg {ops:Array Oper} {rest:List Oper} {o:Oper} {a:Act} {w:World} {Q:Exit->Act->World->Prop} (hg:o.guard=none) (t:TypeId) (x:Operand) (ho:o.op = .box t x) {cells:Array Value} (hx:a.eval x = .agg cells)
  (h:wpList Tryz.prog ops Q rest (a.put o.dst (.pointer (some ⟨w.heap.size,0,none⟩))) (w.alloc (.cells cells t))):wpList Tryz.prog ops Q (o::rest) a w:=by
 refine wpList_plain hg fun K hK=>?_;unfold Oper.wp execOp;simp only [ho,hx,Instr.box,newVar,Sem.run_bind,Sem.run_pure];simp [go_sem,Value.cells];exact hK _ _ h
theorem wpList_built {ops:Array Oper} {rest:List Oper} {o:Oper} {a:Act} {w:World} {Q:Exit->Act->World->Prop} (hg:o.guard=none) (t:TypeId) (parts:Array (Nat × Operand)) (ho:o.op = .build t parts) {ps:List (Nat × Value)} {cells:Array Value}
  (hp:(parts.map fun (i,x)=>(i,a.eval x)).toList=ps) (hb:Tryz.prog.built t ps=some cells) (h:wpList Tryz.prog ops Q rest (a.put o.dst (.agg cells)) w):wpList Tryz.prog ops Q (o::rest) a w:=by
 refine wpList_build hg t parts ho ?_ ?_
 ·rw [hp,hb];rfl
 ·rw [hp,hb];exact h

theorem infoStp:(Tryz.prog.info? 142).map (fun i=>(i.zero,i.size,i.bytes))=some (some (.agg #[.nilFunc]),1,8):=by kernel_rfl
def StepsAt (w:World) (base dp n:Nat) (v:Value) (ops:List (Option (Nat × (Nat->Nat)))):Prop :=
 ∃ vs:List Value,w.ownsRow base 142 1 v ops.length vs/\∀ (i:Nat) (x:Option (Nat × (Nat->Nat))),ops[i]?=some x->∃ u:Value,vs[i]?=some u/\StepIs w dp n u x
theorem StepsAt.nil (w:World) (base dp n:Nat):StepsAt w base dp n (.slice none 0 0) []:=⟨[],World.ownsRow_nil _ _ _ _,fun i x h=>by cases h⟩
theorem StepsAt.mono {w:World} {base base' dp n:Nat} {v:Value} {ops:List (Option (Nat × (Nat->Nat)))} (h:StepsAt w base dp n v ops) (hb:base'<=base):StepsAt w base' dp n v ops:=by
 obtain ⟨vs,h1,h2⟩:=h;exact ⟨vs,ownRow_mono h1 hb,h2⟩
theorem stepRow_far {W w5:World} {base n k dp:Nat} {v u:Value} {vs:List Value} {x:Option (Nat × (Nat->Nat))} (hrow:W.ownsRow base 142 1 v k vs) (hg:W.grownBy w5 v.ownBlock) (h:StepIs W dp n u x):StepIs w5 dp n u x:=by
 refine h.far ((Chg.refl (ownL v) W).grown hg (fun q hq => .inl (zml.2 hq))) (fun q hq cs T y hcs=>?_);rw [zml] at hq;rcases hrow.2 with ⟨rfl,_⟩ | ⟨gg,cc,cur,rfl,_,hgg,_⟩
 ·cases hq
 ·have:gg=q:=by simpa [Value.ownBlock] using hq
  subst this;rw [hcs] at hgg;injection hgg with hgg;injection hgg with _ e _;subst e;decide
theorem steps_snoc {wr w3 W w5:World} {base dp n k:Nat} {v v' u:Value} {vs:List Value} {ops:List (Option (Nat × (Nat->Nat)))} {x:Nat × (Nat->Nat)} (hk:ops.length=k) (hrow:wr.ownsRow base 142 1 v k vs)
  (hall:∀ (i:Nat) (x:Option (Nat × (Nat->Nat))),ops[i]?=some x->∃ u:Value,vs[i]?=some u/\StepIs wr dp n u x) (hst:StepIs w3 dp n u (some x)) (hc3:Chg [] w3 W) (hc4:Chg [] wr W)
  (hown:w5.ownsRow base 142 1 v' (k+1) (vs++[u])) (hg:W.grownBy w5 v.ownBlock):StepsAt w5 base dp n v' (ops++[some x]):=by
 have hrW:=own_chgT hrow hc4 (by simp);have hlen:vs.length=k:=by have:=hrow.1;simpa using this
 refine ⟨vs++[u],by rw [List.length_append,hk];exact hown,fun i y hy=>?_⟩;by_cases hi:i<ops.length
 ·rw [List.getElem?_append_left hi] at hy
  obtain ⟨u',h1,h2⟩:=hall i y hy;refine ⟨u',by rw [List.getElem?_append_left (by omega)];exact h1,stepRow_far hrW hg (h2.on hc4)⟩
 ·rw [List.getElem?_append_right (by omega)] at hy
  have e:i=ops.length:=by
   by_cases q:i=ops.length
   ·exact q
   ·rw [List.getElem?_eq_none (by simp;omega)] at hy;cases hy
  subst e;rw [Nat.sub_self] at hy;injection hy with hy;subst hy;refine ⟨u,by rw [List.getElem?_append_right (by omega),hlen,hk,Nat.sub_self];rfl,stepRow_far hrW hg (hst.on hc3)⟩
theorem baPaged_at {w:World} {dp t bc bk N:Nat} {T:Tal} {u0 u1 z0 z1:Value} {A:Nat->Nat->Nat} {g c:Nat->Nat} {l0 l1:List Nat} (HT:TallyAt w t bc bk T) (hN:T.n=N) (hn:1<=N/\N<=4096) (hle:∀ i,i<N->T.now i<65536) (hl0:l0.length<=4096) (hl1:l1.length<=4096) (hv:ShV w u0 u1 A (nOf N) g c)
  (s0:SlI w z0 l0) (s1:SlI w z1 l1) (h0:∀ i,i<l0.length->l0.getD i 0<nOf N 0) (h1:∀ i,i<l1.length->l1.getD i 0<nOf N 1) (hA:∀ k i,k<2->i<nOf N k->A k i<N) :
  Calls Tryz.prog 86 #[.pointer (some ⟨dp,0,none⟩),.pointer (some ⟨t,0,none⟩),.agg #[u0,u1],z0,z1] w fun e w'=>∃ v,e = .returned v /\
   StepsAt w' w.heap.size dp N v ((l0.map fun i=>some (A 0 i,rowP 5 N T.now i))++(l1.map fun i=>some (A 1 i,rowP 4 (pg N) (A 0) i)))/\Chg [] w w':=by
 obtain ⟨a0,b0,e0⟩:=s0.len;obtain ⟨a1,b1,e1⟩:=s1.len;have eu0:=hv.e0;have eu1:=hv.e1;subst e0;subst e1;subst eu0;subst eu1;obtain ⟨n0,hn0⟩:∃ n,n=l0.length:=⟨_,rfl⟩;obtain ⟨n1,hn1⟩:∃ n,n=l1.length:=⟨_,rfl⟩;rw [<- hn0,<- hn1];have H:=zh (zA HT (zA hv (zA s0 (zA s1 (zA h0 (zA h1 hA))))));have HN:=zh (zA hN (zA hn0 hn1));clear HT hv s0 s1 h0 h1 hA hN hn0 hn1;go_enter Tryz.func86,Tryz.ntmps86;go_wp2_with fail;have hx:=znb w (.cells #[.slice (some ⟨g 0,0,none⟩) (nOf N 0) (c 0),.slice (some ⟨g 1,0,none⟩) (nOf N 1) (c 1)] 42);have hxc:Chg [] w (w.alloc (.cells #[.slice (some ⟨g 0,0,none⟩) (nOf N 0) (c 0),.slice (some ⟨g 1,0,none⟩) (nOf N 1) (c 1)] 42)):=(Chg.refl [] w).alloc _;obtain ⟨wA,hwA⟩:∃ wA,wA=w.alloc (.cells #[.slice (some ⟨g 0,0,none⟩) (nOf N 0) (c 0),.slice (some ⟨g 1,0,none⟩) (nOf N 1) (c 1)] 42):=⟨_,rfl⟩;rw [<- hwA] at hx hxc ⊢;have HX:=zh (zA hx hxc);clear hwA hx hxc
 go_loopw [11,22] (fun v s wr=>∃ k:Nat,k<=n0/\s = .int .i64 (k:Int)/\Hid (StepsAt wr wA.heap.size dp N v ((l0.take k).map fun i=>some (A 0 i,rowP 5 N T.now i))/\Chg [] wA wr)) (fun _ s _=>n0 - (intOf s).toNat)
 case atStart=>exact ⟨0,Nat.zero_le _,by go_num,zh ⟨StepsAt.nil _ _ _ _,Chg.refl _ _⟩⟩
 case round =>
  obtain ⟨k,hk,rfl,hH⟩:=hrel;by_cases hlt:k<n0
  ·have hcA:=HX.out.2.trans hH.out.2
   obtain ⟨x,hxe⟩:∃ x,x=l0.getD k 0:=⟨_,rfl⟩
   have hcell:∃ gz,a0=some ⟨gz,0,none⟩/\wr.cell? ⟨gz,k,none⟩=some (.int .i64 (x:Int)):=by
    rcases H.out.2.2.1 with ⟨e,e2⟩ | ⟨gz,cap,e,q1,q2,q3,q4⟩
    ·have:=HN.out.2.1;rw [e2] at this;simp at this;omega
    ·injection e with e _ _
     exact ⟨gz,e,(hcA.cell (p:=⟨gz,k,none⟩) q3 (by simp)).trans (by rw [hxe];exact q4 k (by have:=HN.out.2.1;omega))⟩
   obtain ⟨gz,rfl,hcz⟩:=hcell;have hxb:x<nOf N 0:=by rw [hxe];exact H.out.2.2.2.2.1 k (by have:=HN.out.2.1;omega)
   have hx61:61*x<N:=by unfold nOf pg at hxb;simp at hxb;omega
   have i1:(k:Int)<(n0:Int):=by omega
   have ct:=counts_at (H.out.1.chg hcA (by simp) (by simp) (by simp)) x (by rw [HN.out.1];exact hx61);have CT:=zh ct;have HXE:=zh hxe;clear ct hxe hcA;go_wp2_with fail;refine CT.out.mono ?_;rintro e w1 ⟨v1,rfl,hrow,hc1⟩;rw [HN.out.1,show min (61*x+61) N - 61*x=min 61 (N - 61*x) by omega] at hrow;obtain ⟨va,vc,rfl,hvc,hvm,hU⟩:=u16In_own (l:=fun j=>T.now (61*x+j)) hrow (fun i hi=>hle _ (by omega));have ce:=ixEncode_at (kind:=5) (cap:=vc) (.inr rfl) (show min 61 (N - 61*x)<=61 by omega) hU;have CE:=zh ce;have HC1:=zh hc1;clear hrow hU ce hc1 CT;go_wp2_with fail;refine CE.out.mono ?_;clear CE;rintro e w2 ⟨gp,rfl,hgp,hgs,hc2⟩;have hcA:=HX.out.2.trans (hH.out.2.trans (HC1.out.trans hc2));have hcX:=hH.out.2.trans (HC1.out.trans hc2);have hxl:=zhl HX.out.1;have x0:=(hcX.cell (p:=⟨w.heap.size,0,none⟩) hxl (by simp)).trans (zcb HX.out.1 0);simp only [tA1,tA3] at x0;obtain ⟨y,hy⟩:∃ y,y=A 0 x:=⟨_,rfl⟩;have hyN:y<N:=by rw [hy];exact H.out.2.2.2.2.2.2 0 x (by omega) hxb
   have y0:w2.cell? ⟨g 0,x,none⟩=some (.int .i64 (y:Int)):=by
    rcases H.out.2.1.l 0 (by omega) with ⟨e,_⟩ | ⟨gg,cap,e,q1,q2,q3,q4⟩
    ·cases e
    ·injection e with e _ _
     injection e with e;injection e with e;have:=q4 x (by rw [atL_len];exact hxb);rw [atL_get _ _ hxb,<- e] at this;rw [hy];exact (hcA.cell (p:=⟨g 0,x,none⟩) (by rw [e];exact q3) (by simp)).trans this
   have i2:(x:Int)<(nOf N 0:Int):=by omega
   have hby:BytesAt w2 gp 0 128 (pageI 5 (min 61 (N - 61*x)) fun j=>T.now (61*x+j)):=fun i hi=>⟨by rw [Nat.zero_add,zcb hgp,u8s_get hi],pageI_le (by omega) (by omega) i⟩;have cp:=baPut_at (dp:=dp) (cap:=128) hyN (zLr _) hby ⟨_,_,hgp⟩;have CP:=zh cp;have HC2:=zh (zA hc2 (zA hy hcX));clear hcA hcX hby cp hgp hgs hc2 hy;go_wp2_with fail;refine CP.out.mono ?_;clear CP;rintro e w3 ⟨gf,lb,rfl,hst,hc3⟩;obtain ⟨vs,hrow,hall⟩:=hH.out.1;have hn3:=znb w3 (.cells #[.func gf #[] lb] 142);have hc4:Chg [] wr (w3.alloc (.cells #[.func gf #[] lb] 142)):=((HC1.out.trans HC2.out.1).trans hc3).alloc _;have hsz:=hc4.size;have hsA:=hH.out.2.size;have hcX:=hH.out.2;rw [show ((l0.take k).map fun i=>some (A 0 i,rowP 5 N T.now i)).length=k by rw [List.length_map,List.length_take];have:=HN.out.2.1;omega] at hrow;have hk4:k<=4096:=by have:=HN.out.2.1;omega
   have HS:=zh (zA hst (zA hc3 (zA hrow (zA hall (zA hn3 hc4)))));have HCX:=zh hcX;clear hst hc3 hrow hall hn3 hc4 hH hcX;go_wp2_with (at_builtin;refine wpList_app rfl _ _ 136 rfl rfl (base:=wA.heap.size) (size:=1) (n:=k) (m:=1) (xs:=vs) (news:=[.func gf #[] lb]) Tryz.underlying136 infoStp rfl (by omega) (by omega) rfl rfl (own_chgT HS.out.2.2.1 HS.out.2.2.2.2.2 (by simp)) (AppSrc.blk HS.out.2.2.2.2.1 rfl (fun u hu=>by simp at hu;subst hu;rfl)) (by omega) (zLt hsA hsz) ?_;intro v' w5 hown5 hg5 ho5;have H5:=zh (zA hown5 (zA hg5 ho5));clear hown5 hg5 ho5)
   go_roundw
   case rel =>
    have hce:=HXE.out
    have e1:l0.take (k+1)=l0.take k++[x]:=by
     rw [List.take_add_one];congr 1;have hk':k<l0.length:=by have:=HN.out.2.1;omega
     rw [HXE.out,List.getElem?_eq_getElem hk',zgD,List.getElem?_eq_getElem hk'];rfl
    refine ⟨k+1,by omega,by go_num,zh ⟨?_,(HCX.out.trans HS.out.2.2.2.2.2).grown H5.out.2.1 (fun q hq => .inr (HS.out.2.2.1.lt q hq).1)⟩⟩;rw [e1,List.map_append];have:=steps_snoc (by rw [List.length_map,List.length_take];have:=HN.out.2.1;omega) HS.out.2.2.1 HS.out.2.2.2.1 HS.out.1 ((Chg.refl [] w3).alloc _) HS.out.2.2.2.2.2 H5.out.1 H5.out.2.1;rw [HC2.out.2.1] at this;exact this
   case measure=>simp [intOf];omega
  ·obtain rfl:k=n0:=by omega
   have hT0:(l0.take k).map (fun i=>some (A 0 i,rowP 5 N T.now i))=l0.map (fun i=>some (A 0 i,rowP 5 N T.now i)):=by rw [List.take_of_length_le (by have:=HN.out.2.1;omega)]
   have HD:=zh (zA (hT0▸hH.out.1) hH.out.2);clear hT0 hH;obtain ⟨O0,hO0⟩:∃ O0,O0=l0.map (fun i=>some (A 0 i,rowP 5 N T.now i)):=⟨_,rfl⟩;rw [<- hO0] at HD;have hOl:O0.length=k:=by rw [hO0,List.length_map];exact HN.out.2.1.symm
   have HO:=zh hO0;clear hO0;go_wp2_with fail
   go_loopw [11,47] (fun v s wr=>∃ m:Nat,m<=n1/\s = .int .i64 (m:Int)/\Hid (StepsAt wr wA.heap.size dp N v (O0++(l1.take m).map fun i=>some (A 1 i,rowP 4 (pg N) (A 0) i))/\Chg [] wA wr)) (fun _ s _=>n1 - (intOf s).toNat)
   case atStart=>exact ⟨0,Nat.zero_le _,by go_num,zh ⟨by rw [List.take_zero,List.map_nil,List.append_nil];exact HD.out.1,HD.out.2⟩⟩
   case round =>
    obtain ⟨m,hm,rfl,hH⟩:=hrel;by_cases hlt:m<n1
    ·have hcA:=HX.out.2.trans hH.out.2
     obtain ⟨x,hxe⟩:∃ x,x=l1.getD m 0:=⟨_,rfl⟩
     have hcell:∃ gz,a1=some ⟨gz,0,none⟩/\wr.cell? ⟨gz,m,none⟩=some (.int .i64 (x:Int)):=by
      rcases H.out.2.2.2.1 with ⟨e,e2⟩ | ⟨gz,cap,e,q1,q2,q3,q4⟩
      ·have:=HN.out.2.2;rw [e2] at this;simp at this;omega
      ·injection e with e _ _
       exact ⟨gz,e,(hcA.cell (p:=⟨gz,m,none⟩) q3 (by simp)).trans (by rw [hxe];exact q4 m (by have:=HN.out.2.2;omega))⟩
     obtain ⟨gz,rfl,hcz⟩:=hcell;have hxb:x<nOf N 1:=by rw [hxe];exact H.out.2.2.2.2.2.1 m (by have:=HN.out.2.2;omega)
     have e0:nOf N 0=pg N:=rfl;have hx61:61*x<nOf N 0:=by rw [e0];have:nOf N 1=pg (pg N):=rfl;rw [this] at hxb;unfold pg at hxb ⊢;omega
     have hNN:nOf N 0<=4096:=by rw [e0];unfold pg;omega
     have i1:(m:Int)<(n1:Int):=by omega
     have hxl:=zhl HX.out.1;have x0:=(hH.out.2.cell (p:=⟨w.heap.size,0,none⟩) hxl (by simp)).trans (zcb HX.out.1 0);simp only [tA1,tA3] at x0
     have hg0:nOf N 0<=c 0/\c 0<=maxLen/\g 0<w.heap.size/\∀ i,i<nOf N 0->w.cell? ⟨g 0,i,none⟩=some (.int .i64 (A 0 i:Int)):=by
      rcases H.out.2.1.l 0 (by omega) with ⟨e,_⟩ | ⟨gg,cap,e,q1,q2,q3,q4⟩
      ·cases e
      ·injection e with e e2 e3
       injection e with e;injection e with e;rw [e3,e2,e];refine ⟨q1,q2,q3,fun i hi=>?_⟩;have:=q4 i hi;rw [<- e2] at hi;rw [atL_get _ _ hi] at this;exact this
     have cpt:=baPart_at (w:=wr) (g:=g 0) (i:=x) hx61 (by omega) hg0.1 hg0.2.1
     have cnm:=baNumbers_at (w:=wr) (g:=g 0) (o:=61*x) (a:=some ⟨g 0,61*x,none⟩) (n:=min 61 (nOf N 0 - 61*x)) (c:=c 0 - 61*x) (l:=fun j=>A 0 (61*x+j)) (by omega) (by omega) (fun i hi=>by have:=H.out.2.2.2.2.2.2 0 (61*x+i) (by omega) (by omega);omega)
      (fun _=>⟨rfl,zLl hg0.2.2.1 hcA.size,fun i hi=>(hcA.cell (p:=⟨g 0,61*x+i,none⟩) hg0.2.2.1 (by simp)).trans (hg0.2.2.2 _ (by omega))⟩)
     have CNM:=zh cnm;have HXE:=zh hxe;have hG0:=zh hg0;have E0:=zh e0;have CPT:=zh cpt;clear cnm hxe hcA hg0 e0 cpt;go_wp2_with fail;refine CPT.out.mono ?_;rintro e w' ⟨rfl,rfl⟩;go_wp2_with fail;refine CNM.out.mono ?_;rintro e w1 ⟨v1,rfl,hrow,hc1⟩;obtain ⟨va,vc,rfl,hvc,hvm,hU⟩:=u16In_own hrow (fun i hi=>by have:=H.out.2.2.2.2.2.2 0 (61*x+i) (by omega) (by omega);omega);have ce:=ixEncode_at (kind:=4) (cap:=vc) (.inl rfl) (show min 61 (nOf N 0 - 61*x)<=61 by omega) hU;have CE:=zh ce;have HC1:=zh hc1;clear hrow hU ce hc1 CNM CPT;go_wp2_with fail;refine CE.out.mono ?_;clear CE;rintro e w2 ⟨gp,rfl,hgp,hgs,hc2⟩;have hcA:=HX.out.2.trans (hH.out.2.trans (HC1.out.trans hc2));have hcX:=hH.out.2.trans (HC1.out.trans hc2);have x1:=(hcX.cell (p:=⟨w.heap.size,1,none⟩) hxl (by simp)).trans (zcb HX.out.1 1);simp only [tA1,tA3,tA2] at x1;obtain ⟨y,hy⟩:∃ y,y=A 1 x:=⟨_,rfl⟩;have hyN:y<N:=by rw [hy];exact H.out.2.2.2.2.2.2 1 x (by omega) hxb
     have y0:w2.cell? ⟨g 1,x,none⟩=some (.int .i64 (y:Int)):=by
      rcases H.out.2.1.l 1 (by omega) with ⟨e,_⟩ | ⟨gg,cap,e,q1,q2,q3,q4⟩
      ·cases e
      ·injection e with e _ _
       injection e with e;injection e with e;have:=q4 x (by rw [atL_len];exact hxb);rw [atL_get _ _ hxb,<- e] at this;rw [hy];exact (hcA.cell (p:=⟨g 1,x,none⟩) (by rw [e];exact q3) (by simp)).trans this
     have i2:(x:Int)<(nOf N 1:Int):=by omega
     have hby:BytesAt w2 gp 0 128 (pageI 4 (min 61 (nOf N 0 - 61*x)) fun j=>A 0 (61*x+j)):=fun i hi=>⟨by rw [Nat.zero_add,zcb hgp,u8s_get hi],pageI_le (by omega) (by omega) i⟩;have cp:=baPut_at (dp:=dp) (cap:=128) hyN (zLr _) hby ⟨_,_,hgp⟩;have CP:=zh cp;have HC2:=zh (zA hc2 (zA hy hcX));clear hcA hcX hby cp hgp hgs hc2 hy;go_wp2_with fail;refine CP.out.mono ?_;clear CP;rintro e w3 ⟨gf,lb,rfl,hst,hc3⟩;obtain ⟨vs,hrow,hall⟩:=hH.out.1;have hn3:=znb w3 (.cells #[.func gf #[] lb] 142);have hc4:Chg [] wr (w3.alloc (.cells #[.func gf #[] lb] 142)):=((HC1.out.trans HC2.out.1).trans hc3).alloc _;have hsz:=hc4.size;have hsA:=hH.out.2.size;have hcX:=hH.out.2;have hOm:(O0++(l1.take m).map fun i=>some (A 1 i,rowP 4 (pg N) (A 0) i)).length=k+m:=by rw [List.length_append,hOl,List.length_map,List.length_take];have:=HN.out.2.2;omega
     rw [hOm] at hrow;have hk4:k+m<=10000:=by have:=HN.out.2;omega
     have HS:=zh (zA hst (zA hc3 (zA hrow (zA hall (zA hn3 hc4)))));have HCX:=zh (zA hcX hOm);clear hst hc3 hrow hall hn3 hc4 hH hcX hOm;go_wp2_with (at_builtin;refine wpList_app rfl _ _ 136 rfl rfl (base:=wA.heap.size) (size:=1) (n:=k+m) (m:=1) (xs:=vs) (news:=[.func gf #[] lb]) Tryz.underlying136 infoStp rfl (by omega) (by omega) rfl rfl (own_chgT HS.out.2.2.1 HS.out.2.2.2.2.2 (by simp)) (AppSrc.blk HS.out.2.2.2.2.1 rfl (fun u hu=>by simp at hu;subst hu;rfl)) (by omega) (zLt hsA hsz) ?_;intro v' w5 hown5 hg5 ho5;have H5:=zh (zA hown5 (zA hg5 ho5));clear hown5 hg5 ho5)
     go_roundw
     case rel =>
      have e1:l1.take (m+1)=l1.take m++[x]:=by
       rw [List.take_add_one];congr 1;have hk':m<l1.length:=by have:=HN.out.2.2;omega
       rw [HXE.out,List.getElem?_eq_getElem hk',zgD,List.getElem?_eq_getElem hk'];rfl
      refine ⟨m+1,by omega,by go_num,zh ⟨?_,(HCX.out.1.trans HS.out.2.2.2.2.2).grown H5.out.2.1 (fun q hq => .inr (HS.out.2.2.1.lt q hq).1)⟩⟩;rw [e1,List.map_append,<- List.append_assoc];have:=steps_snoc HCX.out.2 HS.out.2.2.1 HS.out.2.2.2.1 HS.out.1 ((Chg.refl [] w3).alloc _) HS.out.2.2.2.2.2 H5.out.1 H5.out.2.1;rw [HC2.out.2.1,E0.out] at this;exact this
     case measure=>simp [intOf];omega
    ·obtain rfl:m=n1:=by omega
     have hT1:(l1.take m).map (fun i=>some (A 1 i,rowP 4 (pg N) (A 0) i))=l1.map (fun i=>some (A 1 i,rowP 4 (pg N) (A 0) i)):=by rw [List.take_of_length_le (by have:=HN.out.2.2;omega)]
     have HD1:=zh (zA (hT1▸hH.out.1) hH.out.2);clear hT1 hH;go_wp2_with fail;go_ret;refine ⟨_,rfl,?_,HX.out.2.trans HD1.out.2⟩;have:=HD1.out.1.mono (base':=w.heap.size) HX.out.2.size;rw [HO.out] at this;exact this
structure BegM (n:Nat->Nat) (S:PS):Prop where
 beg:Beg n S
 first:S.K.first=2
 le:∀ x,S.T.now x<=1
 low:∀ x,x<2->S.T.now x=0
 a2:∀ k i,k<2->i<n k->S.p k i=true->2<=S.a k i
 own:∀ x,S.T.now x≠0->∃ k i,k<2/\i<n k/\S.p k i=true/\S.a k i=x
 kept:∀ x,S.T.kept x=0
theorem BegM.step {n:Nat->Nat} {S:PS} (h:BegM n S) {k i:Nat} (hk:k<2) (hi:i<S.n k) (hw:S.want k i=true):BegM n (S.step k i):=by
 have hi':i<n k:=by rw [<- h.beg.sn];exact hi
 have hp:=want_p hw;have ea:=h.beg.none k i hk hi' hp;obtain ⟨b,ht,h1,h2,h3⟩:=h.beg.inv.block hk hi hw;have ⟨e1,e2⟩:=step_some ht;have eT:S.T1 k i=S.T:=by unfold PS.T1;rw [if_pos ea]
 rw [h.first] at h1;have enow:∀ x,(S.step k i).T.now x=if x=b then 1 else S.T.now x:=fun x=>by rw [e1,eT];exact set_now ..
 have epo:∀ k' i',¬ (k'=k/\i'=i)->(S.step k i).p k' i'=S.p k' i':=fun k' i' e=>upd2_other _ _ e;have eao:∀ k' i',¬ (k'=k/\i'=i)->(S.step k i).a k' i'=S.a k' i':=fun k' i' e=>upd2_other _ _ e;have eas:(S.step k i).a k i=b:=by show upd2 S.a k i _ k i=b;rw [upd2_same,e2]
 refine ⟨h.beg.step hk hi hw,(step_first h.beg.inv).trans h.first,fun x=>?_,fun x hx=>?_,fun k' i' hk' hi'' hp'=>?_,fun x hx=>?_,fun x=>?_⟩
 ·rw [enow];split
  ·exact zLr _
  ·exact h.le x
 ·rw [enow,if_neg (by omega)];exact h.low x hx
 ·by_cases e:k'=k/\i'=i
  ·obtain ⟨rfl,rfl⟩:=e
   rw [eas];exact h1
  ·rw [epo _ _ e] at hp'
   rw [eao _ _ e];exact h.a2 k' i' hk' hi'' hp'
 ·rw [enow] at hx
  by_cases e:x=b
  ·exact ⟨k,i,hk,hi',upd2_same _ _ _ _,by rw [eas,e]⟩
  ·rw [if_neg e] at hx
   obtain ⟨k',i',q1,q2,q3,q4⟩:=h.own x hx;have ne:¬ (k'=k/\i'=i):=fun e=>by obtain ⟨rfl,rfl⟩:=e;rw [hp] at q3;cases q3
   exact ⟨k',i',q1,q2,by rw [epo _ _ ne];exact q3,by rw [eao _ _ ne];exact q4⟩
 ·rw [e1,eT];exact h.kept x
structure FmtOk (N:Nat) (F:PS):Prop where
 own:Own F.T.keep (nOf N) F.a
 sn:F.n=nOf N
 tn:F.T.n=N
 p:∀ k i,k<2->i<nOf N k->F.p k i=true
 a2:∀ k i,k<2->i<nOf N k->2<=F.a k i
 le:∀ x,F.T.now x<=1
 low:∀ x,x<2->F.T.now x=0
 pages:∀ x,F.T.now x≠0->∃ k i,k<2/\i<nOf N k/\F.a k i=x
theorem beg_fmt {N:Nat} (h:16<=N):FmtOk N (begF N):=by
 have o:=beg_own h;have ok:=beg_ok h
 have B:=PS.fin_ind (Q:=BegM (nOf N)) (fun S k i h hk hi hw=>h.step hk hi hw) _ (PS.start (Tal.new N) ⟨2,2,0⟩ (nOf N) (fun _ _=>0)) (zLr _)
  ⟨⟨PInv.start (empty_ok (Tal.new N)) (zLr _) (show 2<=N by omega) (need_new h),rfl,fun _ _ _ _ _=>rfl,(fun _ _ _ _ h=>by cases h),by show 1<=2;omega⟩,rfl,fun _=>Nat.zero_le _,fun _ _=>rfl,(fun _ _ _ _ h=>by cases h),(fun x h=>absurd rfl h),fun _=>rfl⟩
 change BegM (nOf N) (begF N)/\(begF N).next=none at B
 revert B o ok
 generalize begF N=F;rintro o ⟨-,-,sn,tn,-⟩ ⟨B,hN⟩
 have hp:∀ k i,k<2->i<F.n k->F.p k i=true:=fun k i hk hi=>by
  cases hp:F.p k i with
  | true=>rfl
  | false =>
   have e:=B.beg.none k i hk (by rw [<- sn];exact hi) hp;have w:=PS.next_none hN k i hk hi;unfold PS.want at w;rw [hp,e] at w;simp at w
 rw [sn] at o hp;exact ⟨o,sn,tn,hp,fun k i hk hi=>B.a2 k i hk hi (hp k i hk hi),B.le,B.low,fun x hx=>by obtain ⟨k,i,q1,q2,_,q4⟩:=B.own x hx;exact ⟨k,i,q1,q2,q4⟩⟩
noncomputable def fmtS (N:Nat):Sup:=⟨1,N,fun i=>if i<2 then (if i<pg (pg N) then (begF N).a 1 i else 0) else 0,fun _=>0⟩
noncomputable def fmtW (N:Nat):List (Nat × (Nat->Nat)):=pagesW (begF N) N++dirsW (begF N) N
noncomputable def Bs.fmt (N:Nat):Bs:=⟨(begF N).T.keep,⟨2,2,0⟩,(begF N).a,fun _=>none,fmtS N,fmtS N,fl (fl (fun _ _=>0) (fmtW N)) [(1,pageS (fmtS N))]⟩
theorem fmt_block {N:Nat} {F:PS} (h:FmtOk N F):∀ x,x∈pagesW F N++dirsW F N->2<=x.1/\x.1<N/\(∀ i,i<128->x.2 i<=255):=by
 have hlt:∀ k i,k<2->i<nOf N k->F.a k i<N:=fun k i hk hi=>by
  have:=(h.own.ok.has k i hk hi (h.own.nz k i hk hi)).1
  change F.a k i<F.T.n at this
  rw [h.tn] at this;exact this
 intro x hx;rw [List.mem_append] at hx;rcases hx with hx | hx
 ·obtain ⟨i,hi,rfl⟩:=List.mem_map.1 hx
  obtain ⟨hi,hp⟩:=mem_yesTo.1 hi;exact ⟨h.a2 0 i (by omega) hi,hlt 0 i (by omega) hi,fun j _=>pageI_le (by omega) (by omega) j⟩
 ·obtain ⟨i,hi,rfl⟩:=List.mem_map.1 hx
  obtain ⟨hi,hp⟩:=mem_yesTo.1 hi;exact ⟨h.a2 1 i (by omega) hi,hlt 1 i (by omega) hi,fun j _=>pageI_le (by omega) (by omega) j⟩
theorem fmt_page {N:Nat} {F:PS} (h:FmtOk N F) {d:Nat->Nat->Nat} {k i:Nat} (hk:k<2) (hi:i<nOf N k) :
  fl d (pagesW F N++dirsW F N) (F.a k i)=if k=0 then rowP 5 N F.T.now i else rowP 4 (pg N) (F.a 0) i:=by
 have hx:(F.a k i,if k=0 then rowP 5 N F.T.now i else rowP 4 (pg N) (F.a 0) i)∈pagesW F N++dirsW F N:=by
  refine List.mem_append.2 ?_
  match k,hk with
  | 0,_=>exact .inl (List.mem_map.2 ⟨i,mem_yesTo.2 ⟨hi,h.p 0 i (by omega) hi⟩,rfl⟩)
  | 1,_=>exact .inr (List.mem_map.2 ⟨i,mem_yesTo.2 ⟨hi,h.p 1 i (by omega) hi⟩,rfl⟩)
 refine fl_hit (d:=d) hx (fun y hy e=>?_);rw [List.mem_append] at hy;rcases hy with hy | hy
 ·obtain ⟨i',hi',rfl⟩:=List.mem_map.1 hy
  obtain ⟨hi',hp'⟩:=mem_yesTo.1 hi';obtain ⟨rfl,rfl⟩:=h.own.ok.apart k i 0 i' hk hi (by omega) hi' (h.own.nz k i hk hi) (show F.a k i=F.a 0 i' from e.symm);rfl
 ·obtain ⟨i',hi',rfl⟩:=List.mem_map.1 hy
  obtain ⟨hi',hp'⟩:=mem_yesTo.1 hi';obtain ⟨rfl,rfl⟩:=h.own.ok.apart k i 1 i' hk hi (by omega) hi' (h.own.nz k i hk hi) (show F.a k i=F.a 1 i' from e.symm);rfl
theorem fmtS_of {N:Nat} (h:16<=N/\N<=4096):SupOf (fmtS N) N (begF N).a:=by
 have F:=beg_fmt h.1;refine ⟨⟨⟨by show 0<1;omega,by show 1<_;omega⟩,h,fun i hi=>?_,fun i hi=>by show 0<_;omega⟩,rfl,fun i hi=>?_⟩
 ·show (if i<2 then (if i<pg (pg N) then (begF N).a 1 i else 0) else 0)<N
  split
  ·split
   ·rename_i h1 h2
    have:=(F.own.ok.has 1 i (by omega) h2 (F.own.nz 1 i (by omega) h2)).1
    change _<(begF N).T.n at this
    rw [F.tn] at this;exact this
   ·omega
  ·omega
 ·show (if i<2 then (if i<pg (pg N) then (begF N).a 1 i else 0) else 0)=_
  rw [if_pos hi]
theorem fmt_ok {N:Nat} (h:16<=N/\N<=4096):(Bs.fmt N).Ok:=by
 have F:=beg_fmt h.1;have hs:=fmtS_of h;have tn:(Bs.fmt N).T.n=N:=F.tn;have eD:∀ b,2<=b->(Bs.fmt N).D b=fl (fun _ _=>0) (fmtW N) b:=fun b hb=>fl_miss fun x hx e=>by simp only [zms] at hx;subst hx;simp at e;omega
 have e0:(Bs.fmt N).D 0=fun _=>0:=by
  show fl (fl (fun _ _=>0) (fmtW N)) [(1,pageS (fmtS N))] 0=_
  rw [fl_miss (fun x hx e=>by simp only [zms] at hx;subst hx;simp at e)];exact fl_miss fun x hx e=>by have:=fmt_block F x hx;omega
 have e1:(Bs.fmt N).D 1=pageS (fmtS N):=by
  show (if (1:Nat)=1 then pageS (fmtS N) else fl (fun _ _=>0) (fmtW N) 1)=_
  exact if_pos rfl
 refine { n:=by rw [tn];exact h,own:=by rw [tn];exact F.own,a2:=by rw [tn];exact F.a2,low:=fun b hb=>⟨F.low b hb,F.low b hb⟩,le:=fun b _=>⟨by have:=F.le b;show (begF N).T.now b<=_;omega,by have:=F.le b;show (begF N).T.now b<=_;omega⟩,first:=rfl,nx:=⟨zLr _,by rw [tn];show 2<=N;omega⟩,fr:=?_,fle:=(fun b f _ hf=>by cases hf),s:=by rw [tn];exact hs,kp:=by rw [tn];exact hs,sg:=rfl,disk:=?_,dle:=?_ }
 ·intro b hb
  constructor
  ·intro h;cases h
  ·rintro ⟨h1,h2⟩
   exact absurd h1 h2
 ·rw [tn]
  refine ⟨fun i hi=>?_,.inl ?_,fun i hi j hj=>?_,fun i hi j hj=>?_⟩
  ·show (Bs.fmt N).D 1 i=_
   rw [e1];rfl
  ·show (Bs.fmt N).D 0 0≠6
   rw [e0];simp
  ·show (Bs.fmt N).D ((begF N).a 0 i) j=_
   rw [eD _ (F.a2 0 i (by omega) hi)];have:=fmt_page F (d:=fun _ _=>0) (k:=0) (i:=i) (by omega) hi;rw [if_pos rfl] at this;exact congrFun this j
  ·show (Bs.fmt N).D ((begF N).a 1 i) j=_
   rw [eD _ (F.a2 1 i (by omega) hi)];have:=fmt_page F (d:=fun _ _=>0) (k:=1) (i:=i) (by omega) hi;rw [if_neg (by omega)] at this;exact congrFun this j
 ·intro b hb i hi
  refine fl_le (d:=fun _ _=>0) (n:=(Bs.fmt N).T.n) [(1,pageS (fmtS N))] _ (fl_le (d:=fun _ _=>0) (n:=(Bs.fmt N).T.n) (fmtW N) _ (fun _ _ _ _=>Nat.zero_le _) (fun x hx=>(fmt_block F x hx).2.2)) (fun x hx=>?_) b hb i hi;simp only [zms] at hx;subst hx;exact fun i _=>sealP_le (by omega) (fun i _=>supB_le _ i) i
theorem exec_app (D:Dk) (l m:List (Option (Nat × (Nat->Nat)))):exec D (l++m)=exec (exec D l) m:=by unfold exec;rw [List.foldl_append]
theorem exec_some:∀ (l:List (Nat × (Nat->Nat))) (D:Dk),exec D (l.map some) = { D with waits:=D.waits++l }
 | [],D=>by simp [exec]
 | x::r,D=>by
  show exec (exec1 D (some x)) (r.map some)=_
  rw [exec_some r];simp [exec1]
theorem exec_commit (n:Nat) (d:Nat->Nat->Nat) (l:List (Nat × (Nat->Nat))) (x:Nat × (Nat->Nat)):exec ⟨n,d,[]⟩ (l.map some++[none,some x,none])=⟨n,fl (fl d l) [x],[]⟩:=by
 rw [exec_app,exec_some];simp [exec,exec1]
theorem exec_format (n:Nat) (l:List (Nat × (Nat->Nat))) (x:Nat × (Nat->Nat)) :
  exec ⟨n,fun _ _=>0,[]⟩ ([some (0,fun _=>0),some (1,fun _=>0),none]++(l.map some++[none,some x,none]))=⟨n,fl (fl (fun _ _=>0) l) [x],[]⟩:=by
 rw [exec_app]
 have:exec ⟨n,fun _ _=>0,[]⟩ [some (0,fun _=>0),some (1,fun _=>0),none]=⟨n,fun _ _=>0,[]⟩:=by
  simp only [exec,exec1,List.foldl_cons,List.foldl_nil,List.nil_append,List.cons_append];congr 1;funext b
  simp [fl]
 rw [this,exec_commit]
open Go.RowKit Go.Maps Go.Sort Go.Shelf
theorem yesTo_pairwise (p:Nat->Bool) (n:Nat):(yesTo p n).Pairwise (· < ·):=by
 unfold yesTo;exact List.Pairwise.filter _ List.pairwise_lt_range
theorem mkeys_perm {P:Program} {w:World} {kt b n:Nat} {good:Value->Bool} {f:Nat->Option Value} {D:DataW Value} (hown:w.ownsMap P kt (RG good) b (Maps.size D) D) (hkt:P.underlying kt=some (.int .i64))
  (h3:∀ l,Maps.has D l=true->∃ k,k<n/\l = .int .i64 (k:Int)/\(f k).isSome=true)
  (h4:∀ k v,k<n->f k=some v->Maps.has D (.int .i64 (k:Int))=true/\∀ z,D.atKey (.int .i64 (k:Int)) z = .held v) :
  ((yesTo (fun k=>(f k).isSome) n).map (fun b:Nat=>(b:Int))).Perm (intKeys D):=by
 obtain ⟨es,rfl,hp,hkeys⟩:=hown.entries (int_keyed hkt);refine perm_intKeys hp ?_ ?_ ?_
 ·intro p hpm
  have hh:Maps.has (.map es) p.1=true:=by
   rw [has_eq,List.any_eq_true];exact ⟨p,hpm,WideAt.sameKey_self (hkeys p hpm)⟩
  obtain ⟨k,_,hl,_⟩:=h3 _ hh;exact ⟨_,hl⟩
 ·rw [List.Nodup,List.pairwise_map]
  exact (yesTo_pairwise _ n).imp (fun {a b} h e=>by omega)
 ·intro x
  constructor
  ·intro hx
   obtain ⟨b,hb,rfl⟩:=List.mem_map.1 hx;obtain ⟨h1,h2⟩:=mem_yesTo.1 hb
   cases hf:f b with
   | none=>rw [hf] at h2;cases h2
   | some v=>exact (h4 b v h1 hf).1
  ·intro hx
   obtain ⟨k,hk,hl,hs⟩:=h3 _ hx;injection hl with _ hl;rw [hl];exact List.mem_map.2 ⟨k,mem_yesTo.2 ⟨hk,hs⟩,rfl⟩
theorem yesTo_sorted (p:Nat->Bool) (n:Nat) {ss:List Int} (h:ss.Perm ((yesTo p n).map (fun b:Nat=>(b:Int)))):ss.mergeSort (fun x y=>decide (x<=y))=(yesTo p n).map (fun b:Nat=>(b:Int)):=by
 have e:=mergeSort_of_perm_i h
 have s:((yesTo p n).map (fun b:Nat=>(b:Int))).mergeSort leI=(yesTo p n).map (fun b:Nat=>(b:Int)):=by
  refine List.mergeSort_of_pairwise ?_;rw [List.pairwise_map];exact (yesTo_pairwise p n).imp (fun {a b} h=>by simp [leI];omega)
 exact e.trans s
theorem keysFresh_at (w:World) (mb:Option Nat):Calls Tryz.prog 83 #[.map mb] w fun e w'=>e = .returned (.func (.func 139) #[] #[.pointer (some ⟨w.heap.size,0,none⟩)])/\w'=w.alloc (.cells #[.map mb] 43) :=
 (callsIn_wide (n:=5)).1 (AnyZI.keys_in Tryz.keysF Fence.wide 5 trivial rfl mb w)
theorem sortedFresh_at {w:World} {b n:Nat} {f:Nat->Option Value} (h:KMapV Tryz.prog 3 goodF w b n f) (hn:n<=4096) :
  Calls Tryz.prog 82 #[.func (.func 139) #[] #[.pointer (some ⟨w.heap.size,0,none⟩)]] (w.alloc (.cells #[.map (some b)] 43)) fun e w'=>∃ v,e = .returned v /\
   w'.ownsRow w.heap.size 3 1 v (yesTo (fun k=>(f k).isSome) n).length (intVs (yesTo (fun k=>(f k).isSome) n))/\Below w.heap.size w w':=by
 have hbl:=h.lt;obtain ⟨D,hown,h2,h3,h4⟩:=h;have hperm:=mkeys_perm hown Tryz.underlying3 h3 h4;have hsz:Maps.size D<=4096:=by rw [h2];exact zLt (cnt_le _ _) hn
 have hmax:Maps.size D<=maxLen:=by unfold maxLen;omega
 have hbytes:Maps.size D*8<=140737488355328:=by omega
 have hseq:SeqGives Fence.wide 2 Tryz.prog 139 #[.pointer (some ⟨w.heap.size,0,none⟩)] encZ (fun ss=>ss.Perm (intKeys D)) (Maps.size D) (w.alloc (.cells #[.map (some b)] 43)) :=
  AnyZI.keys_gives (ρ:=Tryz.keysF_ren) { Tryz.keysF with } Fence.wide _ trivial rfl (by omega) w.heap.size b (Maps.size D) D _ (by simp) (by simp) (by
   obtain ⟨es,clock,hb,Ft,hs,hD⟩:=hown;exact ⟨es,clock,(Below.heap_alloc _ _ b hbl).trans hb,Ft,hs,hD⟩)
 have cS:=AnyZI.sorted_in Tryz.sortedA Fence.wide 5 trivial trivial trivial trivial rfl (by omega) (sortsA _) (enters_of Tryz.func138 (by kernel_rfl) rfl) 139 #[.pointer (some ⟨w.heap.size,0,none⟩)] trivial (enters_of Tryz.func139 (by kernel_rfl) rfl) _ _ hmax hbytes _ hseq;refine ((callsIn_wide (n:=_)).1 cS).mono ?_;rintro e w' ⟨v,ss,rfl,hS,hrow,hnil,hb⟩;have hs:=yesTo_sorted _ n (ss:=ss) (hS.trans hperm.symm)
 have hl:ss.length=(yesTo (fun k=>(f k).isSome) n).length:=by
  have:=(hS.trans hperm.symm).length_eq;simpa using this
 have hm:(ss.mergeSort (fun x y=>decide (x<=y))).map encZ=intVs (yesTo (fun k=>(f k).isSome) n):=by
  rw [hs];simp [intVs,encZ]
 have hrow':=ownsRow_base_a (base':=w.heap.size) hrow (by simp);rw [hl] at hrow';refine ⟨v,rfl,?_,((Below.refl _ w).alloc (zLr _) _).trans (hb.mono (by simp))⟩;rw [<- hm];exact hrow'
end Go.Proofs.YtkhcaclndepgbaaGreat
