/- slices.Sort at uint64: what it promises -/
import Derived.Test.YtegpiomkmfhadaaGreatZo38
import Derived.Lib.SlMapEqual
import Derived.Maps.Ext
import Derived.Shelf.SlIterI.Nil
set_option linter.all false
set_option maxRecDepth 100000
set_option maxHeartbeats 20000000
namespace Go.Proofs.YtegpiomkmfhadaaGreat
open Go.RowKit Go.Sort
def Bc (M:Nat):Prop:=∀ (w:World) (g N c:Nat) (d:Array Int),Zp w g N d->N<=M->N<=c->zC 83 #[zS g N c] w fun e w'=>e = .returned (.tuple #[])/\(∃ d',Zp w' g N d'/\PermIn 0 N d d'/\SortedIn ltInt 0 N d')/\zv [g] w w'
theorem pL (w:World):zC 182 #[.slice none 0 0,.int .i64 0,.int .i64 0] w fun e w'=>e = .returned (.tuple #[])/\w=w':=by
 go_enter Tryz.func182,Tryz.ntmps182;go_wp2_with fail;refine wp_loop_rounds 1 ?_;rw [rounds_succ];go_wp2_with fail
 go_end0
 exact ⟨rfl,rfl⟩
theorem pM (l:Int) (w:World):zC 137 #[.slice none 0 0,.int .i64 0,.int .i64 0,.int .i64 l] w fun e w'=>e = .returned (.tuple #[])/\w=w':=by
 go_enter Tryz.func137,Tryz.ntmps137;go_wp2_with fail;refine wp_loop_rounds 1 ?_;rw [rounds_succ];go_wp2_with fail;refine zm (pL _) ?_;go_wp2_with fail;exact bodyPost_ret (v := .tuple #[]) zaq rfl ⟨rfl,rfl⟩
theorem me (w:World):zC 83 #[.slice none 0 0] w fun e w'=>e = .returned (.tuple #[])/\w=w':=by
 have C1:=zh (f7 0 w zo);rw [show (((0:Nat)):Int)=0 from rfl] at C1;go_enter Tryz.func83,Tryz.ntmps83;go_wp2_with fail;refine C1.mono ?_;rintro e w' ⟨l0,rfl,rfl⟩;go_wp2_with fail;refine zm (pM _ _) ?_;go_wp2_with fail
 go_end0
 exact ⟨rfl,rfl⟩
theorem vX {w:World} {g N c:Nat} {d:Array Int} (h:Zp w g N d) (hN:N<=12) (hc:N<=c) (l:Int) :
  zC 137 #[zS g N c,.int .i64 0,.int .i64 (N:Int),.int .i64 l] w fun e w'=>e = .returned (.tuple #[])/\Zp w' g N (insertionSort ltInt d 0 N)/\zv [g] w w':=by
 have H:=zh h;have:(N:Int)<=12:=zo
 clear h;go_enter Tryz.func137,Tryz.ntmps137;go_wp2_with fail;refine wp_loop_rounds 1 ?_;rw [rounds_succ];go_wp2_with fail;refine (tY H zo hc (yg N) (xd N)).mono ?_;rintro e w1 ⟨rfl,h1,h2⟩;have HH:=zh (zA h1 h2);clear h1 h2;go_wp2_with fail;exact bodyPost_ret (v := .tuple #[]) zaq rfl ⟨rfl,HH.1,HH.2⟩
theorem wT:Bc 12:=by
 intro w g N c d h hN hc;have H:=zh h;have:=h.sz;clear h;go_enter Tryz.func83,Tryz.ntmps83;go_wp2_with fail;refine (f7 N _ hN).mono ?_;rintro e w' ⟨l,rfl,rfl⟩;go_wp2_with fail;refine (vX H hN hc l).mono ?_;rintro e w1 ⟨rfl,h1,h2⟩;have HH:=zh (zA h1 h2);clear h1 h2;go_wp2_with fail
 go_end0
 obtain ⟨hp,hs⟩:=insertionSort_holds swo_ltInt d 0 N (yg _) zo;exact ⟨rfl,⟨_,HH.1,hp,hs⟩,HH.2⟩
end Go.Proofs.YtegpiomkmfhadaaGreat
namespace Go.Proofs.YtegpiomkmfhadaaGreat
open Go.Maps
section
variable {H:Type}
theorem vY {es:List (Lit × DataW H)} {k:Lit} (hk:∀ p∈es,WideAt.IsKeyLit p.1):has (.map es) k=true↔k∈es.map Prod.fst:=by
 constructor
 ·intro h
  obtain ⟨p,hp,hs⟩:=List.any_eq_true.1 (show es.any (fun p=>p.1.sameKey k)=true from h);exact yw.2 ⟨p,hp,WideAt.sameKey_eq hs⟩
 ·intro h
  obtain ⟨p,hp,rfl⟩:=yw.1 h;exact List.any_eq_true.2 ⟨p,hp,WideAt.sameKey_self (hk p hp)⟩
end
end Go.Proofs.YtegpiomkmfhadaaGreat
namespace Go.Proofs.YtegpiomkmfhadaaGreat
open Go.RowKit Go.Maps
open Go.WideElems (Fit rg rd rd_val rd_key rg_of)
abbrev KU:Keyed Tryz.prog 23:=int_keyed Tryz.underlying23
def kU (n:Nat):Lit := .int .u64 (n:Int)
theorem Bd (n:Nat):WideAt.IsKeyLit (kU n):=trivial
theorem tZ {a b:Nat} (h:kU a=kU b):a=b:=by unfold kU at h;injection h with _ h;exact Int.ofNat.inj h
section
variable {H:Type} {P:Program} {k:TypeId} {R:Value->Option (DataW H × List MemPlace)} {w:World} {b n:Nat} {D:DataW H}
theorem vZ (h:w.ownsMap P k R b n D) (K:Keyed P k) {kl:Lit} (hk:has D kl=true):∃ v,keyOf P k v=some kl:=by
 obtain ⟨es0,hes,s0,k0⟩:=h.canon K;obtain ⟨es,Dn,hb,F,Dg,hD⟩:=h;obtain ⟨p,hp,rfl⟩:=yw.1 ((vY k0).1 (by rw [<- hes];exact hk))
 have e0:(es.toList.map (rg P k R)).foldr DataW.insert []=es0:=by
  have:=hD.symm.trans hes;injection this
 rw [<- e0] at hp;obtain ⟨x,hx,hr⟩:=yw.1 (mem_sorted.1 hp);obtain ⟨y,hy⟩:=F.reads x hx;rw [<- hr,rg_of hy];exact ⟨x.key,rd_key hy⟩
end
end Go.Proofs.YtegpiomkmfhadaaGreat
namespace Go.Proofs.YtegpiomkmfhadaaGreat
open Go.RowKit Go.Sort Go.Maps Go.Shelf
variable {x:Nat} {left:Lit->Bool} {ss:List Nat}
abbrev eU:Nat->Value:=fun n => .int .u64 (n:Int)
theorem AN {y:Nat} (h:eU x=eU y):x=y:=by simp only [Value.int.injEq,true_and] at h;omega
theorem gI {key:Value} {kl:Lit} (h:keyOf Tryz.prog 23 key=some kl):∃ x:Nat,key=eU x/\kl=kU x/\x<18446744073709551616:=by
 cases key <;> simp [keyOf,Tryz.underlying23,mapKey] at h
 rename_i q a;obtain ⟨⟨rfl,hw⟩,rfl⟩:=h
 have hb:0<=a/\a<18446744073709551616:=by
  simp [Lit.wf,IntKind.wrap_u64] at hw;have:IntKind.u64.min=0:=rfl;have:IntKind.u64.max=18446744073709551615:=rfl;omega
 exact ⟨a.toNat,by show Value.int .u64 a = .int .u64 (a.toNat:Int);rw [Int.toNat_of_nonneg hb.1],by show Lit.int .u64 a = .int .u64 (a.toNat:Int);rw [Int.toNat_of_nonneg hb.1],zo⟩
def VJ {H:Type} (D0:DataW H) (left:Lit->Bool) (ss:List Nat):Prop:=ss.Nodup/\∀ x,x∈ss↔(has D0 (kU x)=true/\left (kU x)=false)
theorem VJ.start {H:Type} (D0:DataW H):VJ D0 (has D0) []:=⟨List.nodup_nil,fun x=>by cases has D0 (kU x) <;> simp⟩
theorem VJ.step {H:Type} {D0:DataW H} (h:VJ D0 left ss) {y:DataW H} (Co:left (kU x)=true) (DT:∀ zd,D0.atKey (kU x) zd=y):VJ D0 (fun z=>left z && !z.sameKey (kU x)) (ss++[x]):=by
 have NU:has D0 (kU x)=true:=has_true_of_atKey DT;have Lc:x∉ss:=fun hx=>by have:=((h.2 x).1 hx).2;rw [Co] at this;cases this
 refine ⟨List.nodup_append.2 ⟨h.1,zaa,fun a ha b hb=>by simp at hb;subst hb;exact fun e=>Lc (e▸ha)⟩,fun y=>?_⟩;by_cases hy:y=x
 ·subst hy;simp [NU,WideAt.sameKey_self (Bd y)]
 ·have BU:(kU y).sameKey (kU x)=false:=sameKey_ne (fun e=>hy (tZ e))
  simp [h.2 y,hy,BU]
def cT {H:Type} (D0:DataW H) (ss:List Nat):Prop:=ss.Nodup/\∀ x,x∈ss↔has D0 (kU x)=true
theorem VJ.keys {H:Type} {D0:DataW H} (h:VJ D0 left ss) (hl:∀ kl,left kl=false):cT D0 ss:=⟨h.1,fun x=>by rw [h.2 x,hl];simp⟩
theorem cT.lt {H:Type} {D0:DataW H} {R:Value->Option (DataW H × List MemPlace)} {w:World} {b n:Nat} (h:cT D0 ss) (BT:w.ownsMap Tryz.prog 23 R b n D0):∀ x,x∈ss->x<18446744073709551616:=fun x hx=>by
 obtain ⟨v,hv⟩:=vZ BT KU ((h.2 x).1 hx);obtain ⟨y,_,hy,BY⟩:=gI hv;obtain rfl:=tZ hy;exact BY
end Go.Proofs.YtegpiomkmfhadaaGreat
namespace Go.Proofs.YtegpiomkmfhadaaGreat
open Go.RowKit Go.Sort Go.Maps Go.Shelf
variable {ss l:List Nat} {w:World}
def Oq:Code:=(Code.region 2 #[{ dst:=some 5,op:=Op.assign (Operand.tmp 7),type:=23,pos := "iter.go:51",after:=#[],guard:=none }] false)
def gJ:Code:=(Code.block 1 (Code.region 3 #[{ dst:=some 8,op:=Op.load 40 (Operand.tmp 2),type:=40,pos := "iter.go:52",after:=#[],guard:=none },{ dst:=some 9,op:=Op.move (Operand.tmp 5),type:=23,pos := "iter.go:52",after:=#[],guard:=none },{ dst:=some 10,op:=Op.buildSlice 40 1 #[(0,Operand.tmp 9)],type:=40,pos := "iter.go:52",after:=#[{ on:=1,ground:=Ground.data }],guard:=none },{ dst:=some 11,op:=Op.call { callee:=Callee.builtin Builtin.append,args:=#[Operand.tmp 8,Operand.tmp 10],argTypes:=#[40,40] },type:=40,pos := "iter.go:52",after:=#[{ on:=0,ground:=Ground.data },{ on:=2,ground:=Ground.data }],guard:=none },{ dst:=none,op:=Op.store 40 (Operand.tmp 2) (Operand.tmp 11),type:=0,pos := "iter.go:52",after:=#[{ on:=3,ground:=Ground.data },{ on:=3,ground:=Ground.chain },{ on:=0,ground:=Ground.phase },{ on:=1,ground:=Ground.phase },{ on:=2,ground:=Ground.phase },{ on:=3,ground:=Ground.phase }],guard:=none }] false))
def Xf (fn:FuncId) (sv:Value) (Bs D:Nat) (st:LoopState) (BR:Option Code):Loop :=
 { state:=st,pending:=BR,fn,tmps:=#[.slice none 0 0,sv,zP Bs,undef,.slice none 0 0,undef,sv,undef,undef,undef,undef,undef,undef],params:=#[7],assign:=Oq,body:=gJ,defers:=D }
structure jZ (w0:World) (fn:FuncId) (sv:Value) (Bs l D:Nat) (ss:List Nat) (W:World):Prop where
 box:∃ v,W.heap[Bs]?=some (.cells #[v] 40 (0,0))/\W.ownsRow w0.heap.size 23 1 v ss.length (ss.map eU)/\(v = .slice none 0 0↔ss=[])
 L:W.heap[l]?=some (.loop (Xf fn sv Bs D .ready none))
 K:W.heap[D]?=some (.deferred (some []))
 below:Below w0.heap.size w0 W
theorem mg (w0:World) (fn:FuncId) (sv:Value) (Bs l D B:Nat) (hB:w0.heap.size<=B):AbidesFrom B (jZ w0 fn sv Bs l D):=fun s W W' row h hg Cc=>by
 have EG:∀ r,row=some r->∃ o:Obj,W.heap[r]?=some o/\o.isWalk=true:=fun r e=>(Cc r e).2;obtain ⟨v,hv,hr,hn⟩:=h.box
 exact ⟨⟨v,(grownBy_keeps hg EG hv rfl).trans hv,ownsRow_abides_a hr hg EG,hn⟩,(grownBy_keeps hg EG h.L rfl).trans h.L,(grownBy_keeps hg EG h.K rfl).trans h.K,
  h.below.grown hg h.below.size (fun k e=>qh hB (Cc k e).1)⟩
theorem Be:(Tryz.prog.info? 23).map (fun i=>(i.zero,i.size,i.bytes))=some (some (.int .u64 0),1,8):=zab
theorem t8 (m:Nat) (w0:World) (fn:FuncId) (sv:Value) (Bs l D:Nat) (KV:Bs≠l) (U0:D≠l) (hDB:D≠Bs) (h0B:w0.heap.size<=Bs) (h0l:w0.heap.size<=l)
    (N:Nat) (hN:N<=maxLen) (Ij:N*8<=140737488355328) (ss:List Nat) (x:Nat) (W:World) (h:jZ w0 fn sv Bs l D ss W) (B9:ss.length<N) :
    YieldAt Fence.wide m Tryz.prog l #[eU x] W fun e W'=>e = .returned (.bool true)/\jZ w0 fn sv Bs l D (ss++[x]) W'/\KeepsWalks W W':=by
  have BU:(40:Nat)≠23:=zaf;obtain ⟨i0,hi,Ia,Lj,LN⟩:=info_parts Be;obtain ⟨v,hv,Cc,_⟩:=h.box;refine ⟨fn,#[.slice none 0 0,sv,zP Bs,undef,.slice none 0 0,undef,sv,eU x,undef,undef,undef,undef,undef],Oq,gJ,by simpa [Xf] using run_yield (P:=Tryz.prog) (args:=#[eU x]) h.L rfl,roundIn_of_wpIn trivial ?_⟩;have hl:l<W.heap.size:=(yL.1 h.L).1;have TQ:=run_beginRound (P:=Tryz.prog) h.L rfl;obtain ⟨W2,FP⟩:∃ W2,W.putObj l (.loop { Xf fn sv Bs D .ready none with state := .busy })=W2:=⟨_,rfl⟩;rw [FP] at TQ;have C8:W.grownBy W2 (some l):=by rw [<- FP];exact grownBy_putObj_a _ _ _
  have Cy:KeepsWalks W W2:=by rw [<- FP];exact KeepsWalks.putObj _ h.L rfl
  have Ge:W2.heap[Bs]?=some (.cells #[v] 40 (0,0)):=by rw [<- FP];exact (World.putObj_heap_other KV).trans hv
  have hK2:W2.heap[D]?=some (.deferred (some [])):=by rw [<- FP];exact (World.putObj_heap_other U0).trans h.K
  have Sc:W2.heap[l]?=some (.loop { Xf fn sv Bs D .ready none with state := .busy }):=by rw [<- FP];exact World.putObj_heap_same hl
  have Fl:W2.ownsRow w0.heap.size 23 1 v ss.length (ss.map eU):=Cc.kept C8 (ownsRow_ne_a Cc h.L (fun BV e=>by first | cases e | exact BU (Obj.cells.inj e).2.1));have Cr:Below w0.heap.size w0 W2:=h.below.grown C8 h.below.size (fun k e=>by cases e;exact h0l);obtain ⟨BW,hf2⟩:=cell_of_box_a Ge;have hBlt:Bs<W2.heap.size:=(yL.1 Ge).1;have DI:l<W2.heap.size:=(yL.1 Sc).1;have hDlt:D<W2.heap.size:=(yL.1 hK2).1
  have MO:∀ {j:Nat} {o:Obj},W2.heap[j]?=some o->(∀ BV,o ≠ .cells BV 23 (0,0))->some j≠v.ownBlock:=fun hj hno=>by
    rcases ownsRow_ne_a Fl hj hno with e | e
    · rw [e];simp
    · exact fun e'=>e e'.symm
  clear FP;unfold Oq
  gi_wp2_with gi_round_op_a
  unfold gJ
  gi_wp2_with (first
    | (gi_at_builtin;refine wpListIn_append_own _ rfl _ _ 40 rfl w0.heap.size 23 i0 (.int .u64 0) 1 8 Tryz.underlying40 hi Ia Lj LN rfl zaf _ _ _ rfl (Fl.alloc _) ⟨W2.heap.size,0,none⟩ 1 1 [eU x] rfl rfl (cell_one_new _ _ _) zaC zo zo (by have:=Cr.size;simp;omega) ?_;intro v' w3 IA F9 hnil3
       have Rp:w3.heap[Bs]?=some (.cells #[v] 40 (0,0)):=(F9.block Bs zae (MO Ge (fun BV e=>by first | cases e | exact BU (Obj.cells.inj e).2.1))).trans ((Below.heap_alloc _ _ Bs hBlt).trans Ge);obtain ⟨Ci,hf3⟩:=cell_of_box_a Rp
       obtain ⟨g',Ih,E6,rfl,hbase',hgb',Fj,Fk,hr3,SV⟩:∃ g' Ih E6,v' = zS g' (ss.length+1) Ih/\w0.heap.size<=g'/\w3.heap[g']?=some (.cells E6 23 (0,0))/\ss.length+1<=Ih/\Ih<=maxLen/\E6.size=Ih*1/\E6.toList.take ((ss.length+1)*1)=ss.map eU++[eU x]:=by
         rcases IA.2 with ⟨_,h0⟩ | h'
         · exact absurd h0 zo
         · exact h'
       go_frame)
    | gi_round_op_a)
  have NT:(W2.alloc (.cells #[eU x] 23)).grownBy w3 v.ownBlock:=F9;have hL3:w3.heap[l]?=some (.loop { Xf fn sv Bs D .ready none with state := .busy }):=(NT.block l zae (MO Sc (fun BV e=>by first | cases e | exact BU (Obj.cells.inj e).2.1))).trans ((Below.heap_alloc _ _ l DI).trans Sc);have G3:w3.heap[D]?=some (.deferred (some [])):=(NT.block D zae (MO hK2 (fun BV e=>by first | cases e | exact BU (Obj.cells.inj e).2.1))).trans ((Below.heap_alloc _ _ D hDlt).trans hK2);obtain ⟨w4,Ko⟩:∃ w4,w3.setCell ⟨Bs,0,none⟩ (zS g' (ss.length+1) Ih)=w4:=⟨_,rfl⟩;rw [Ko];have Fe:w3.grownBy w4 (some Bs):=by rw [<- Ko];exact grownBy_setCell0_a _ _ _
  have LI:w4.heap[Bs]?=some (.cells #[zS g' (ss.length+1) Ih] 40 (0,0)):=by rw [<- Ko];exact heap_setCell_box_a _ Rp
  have hL4:w4.heap[l]?=some (.loop { Xf fn sv Bs D .ready none with state := .busy }):=(Fe.block l (yL.1 hL3).1 (fun e=>KV (by cases e;rfl))).trans hL3;have hK4:w4.heap[D]?=some (.deferred (some [])):=(Fe.block D (yL.1 G3).1 (fun e=>hDB (by cases e;rfl))).trans G3;have Ri:=IA.kept Fe (ownsRow_ne_a IA Rp (fun BV e=>by first | cases e | exact BU (Obj.cells.inj e).2.1));have Lb:l<w4.heap.size:=(yL.1 hL4).1;have Du:Below w0.heap.size w0 w3:=(Cr.alloc Cr.size _).grown NT (by have:=Cr.size;simp;omega) (fun k e=>(Fl.lt k e).1);have Ex:Below w0.heap.size w0 w4:=Du.grown Fe Du.size (fun k e=>by cases e;exact h0B);have Gb:KeepsWalks W w4:=((Cy.trans (KeepsWalks.alloc _ _)).trans (KeepsWalks.of_grownBy NT (ownsRow_not_walk_a (Fl.alloc _)))).trans (by rw [<- Ko];exact KeepsWalks.setCell _ _ _);clear Ko;refine ⟨_,_,run_endRound none hL4,rfl,⟨⟨_,(World.putObj_heap_other KV).trans LI,?_,zaa⟩,World.putObj_heap_same Lb,(World.putObj_heap_other U0).trans hK4,Ex.grown (grownBy_putObj_a _ _ _) Ex.size (fun k e=>by cases e;exact h0l)⟩,Gb.trans (KeepsWalks.putObj _ hL4 rfl)⟩;have:=Ri.kept (grownBy_putObj_a w4 l (.loop { { Xf fn sv Bs D .ready none with state := .busy } with state:=if (none:Option Code).isNone then .ready else .done,pending:=none })) (ownsRow_ne_a Ri hL4 (fun BV e=>by first | cases e | exact BU (Obj.cells.inj e).2.1));simpa using this
theorem mh (n:Nat) (hn:2<=n) (g:Nat) (lb:Array Value) (eg:∀ args w,(callFunc g args).run Tryz.prog w = .ok (.enter g args) w)
    (S:List Nat->Prop) (N:Nat) (hN:N<=maxLen) (Ij:N*8<=140737488355328) (w:World) (EM:SeqGives Fence.wide (n - 1) Tryz.prog g lb eU S N w) :
    CallsIn Fence.wide n Tryz.prog 136 #[.slice none 0 0,.func (.func g) #[] lb] w fun e w'=>∃ (v:Value) (ss:List Nat),e = .returned v/\S ss/\w'.ownsRow w.heap.size 23 1 v ss.length (ss.map eU)/\(v = .slice none 0 0↔ss=[])/\Below w.heap.size w w':=by
  have h1:1<=n:=zo;have BU:(40:Nat)≠23:=zaf;refine callsIn_of_wp_marks Tryz.func136 rfl trivial ?_ rfl;simp only [Tryz.ntmps136,List.size_toArray,yu,List.length_nil,Nat.reduceAdd,Nat.reduceSub,Array.replicate_succ,Array.replicate_zero,List.push_toArray,yE,yy,yK]
  gi_wp2
  refine wpIn_rangeFunc ?_;intro fn hfn;obtain ⟨W0,D4⟩:∃ W0,w.alloc (.cells #[.slice none 0 0] 40)=W0:=⟨_,rfl⟩;have F6:W0.heap.size=w.heap.size+1:=by rw [<- D4];simp
  have FJ:W0.heap[w.heap.size]?=some (.cells #[.slice none 0 0] 40 (0,0)):=by rw [<- D4];exact World.alloc_heap_new w _
  have DW:Below w.heap.size w W0:=by rw [<- D4];exact (Below.refl _ w).alloc (xd _) _
  rw [D4];obtain ⟨W1,G5⟩:∃ W1,(W0.alloc (.deferred (some []))).alloc (.loop (Xf fn (.func (.func g) #[] lb) w.heap.size W0.heap.size .ready none))=W1:=⟨_,rfl⟩
  have fo:∀ k,k<W0.heap.size->W1.heap[k]?=W0.heap[k]?:=fun k hk=>by
    rw [<- G5];exact (Below.heap_alloc _ _ k zae).trans (Below.heap_alloc _ _ k hk)
  have al:Below w.heap.size w W1:=by rw [<- G5];exact (DW.alloc DW.size _).alloc (by have:=DW.size;simp;omega) _
  have Gd:W1.heap.size=W0.heap.size+2:=by rw [<- G5];simp
  have hM:jZ w fn (.func (.func g) #[] lb) w.heap.size (W0.heap.size+1) W0.heap.size [] W1 :=
    ⟨⟨_,(fo w.heap.size zo).trans FJ,⟨rfl,.inl ⟨rfl,rfl⟩⟩,zaa⟩,
     by rw [<- G5];have:=World.alloc_heap_new (W0.alloc (.deferred (some []))) (.loop (Xf fn (.func (.func g) #[] lb) w.heap.size W0.heap.size .ready none));rwa [World.size_alloc] at this,
     by rw [<- G5];exact (Below.heap_alloc _ _ _ zaa).trans (World.alloc_heap_new W0 _),al⟩
  refine ⟨W0.heap.size+1,[{ target := .collected W0.heap.size,args:=#[] }],W1,{ target := .fn (.func g) lb,args:=#[.func (.yield (W0.heap.size+1)) #[] #[]] },W1,g,
    #[.func (.yield (W0.heap.size+1)) #[] #[]]++lb,W1,?_,?_,?_,?_,fun _=>h1,?_⟩
  · rw [<- G5];exact run_enterLoop_outer _ _ _ _ _
  · simp [resolve,go_sem]
  · intro f' Gm;trivial
  · simp [invoke,go_sem,eg]
  · refine (EM (W0.heap.size+1) (jZ w fn (.func (.func g) #[] lb) w.heap.size (W0.heap.size+1) W0.heap.size) W1 al (mg _ _ _ _ _ _ _ al.size)
      (fun pre x W hJ hl=>t8 (n - 1 - 1) w fn _ w.heap.size (W0.heap.size+1) W0.heap.size zo zo zo (xd _) zo N hN Ij pre x W hJ hl) hM).mono ?_
    rintro e W2 ⟨⟨v0,rfl⟩,ss,hS,h2⟩;obtain ⟨v,hv,Cc,Ep⟩:=h2.box;have D9:=run_endLoop (P:=Tryz.prog) h2.L (by simp [Xf]);obtain ⟨W3,FC⟩:∃ W3,W2.putObj (W0.heap.size+1) (.loop { Xf fn (.func (.func g) #[] lb) w.heap.size W0.heap.size .ready none with state := .exhausted })=W3:=⟨_,rfl⟩;rw [FC] at D9;have F9:W2.grownBy W3 (some (W0.heap.size+1)):=by rw [<- FC];exact grownBy_putObj_a _ _ _
    have Rp:W3.heap[w.heap.size]?=some (.cells #[v] 40 (0,0)):=by rw [<- FC];exact (World.putObj_heap_other zo).trans hv
    have G3:W3.heap[W0.heap.size]?=some (.deferred (some [])):=by rw [<- FC];exact (World.putObj_heap_other zo).trans h2.K
    have ID:=Cc.kept F9 (ownsRow_ne_a Cc h2.L (fun BV e=>by first | cases e | exact BU (Obj.cells.inj e).2.1));have Du:Below w.heap.size w W3:=h2.below.grown F9 h2.below.size (fun k e=>by cases e;omega);obtain ⟨Ci,hf3⟩:=cell_of_box_a Rp;clear FC;refine ⟨none,W3,D9,?_⟩
    gi_wp2
    rw [<- F6];refine ⟨zaa,.inl ⟨_,_,rfl,run_takeDeferred G3,?_⟩⟩;exact ⟨_,results_tmp rfl _ _ _,v,ss,rfl,hS,ID.kept (grownBy_putObj_a _ _ _) (ownsRow_ne_a ID G3 (fun BV e=>by first | cases e | exact BU (Obj.cells.inj e).2.1)),Ep,Du.grown (grownBy_putObj_a _ _ _) Du.size (fun k e=>by cases e;omega)⟩
theorem t9 (n:Nat) (hn:3<=n) (g:Nat) (lb:Array Value) (eg:∀ args w,(callFunc g args).run Tryz.prog w = .ok (.enter g args) w)
  (S:List Nat->Prop) (N:Nat) (hN:N<=maxLen) (Ij:N*8<=140737488355328) (w:World) (EM:SeqGives Fence.wide (n - 1 - 1) Tryz.prog g lb eU S N w) :
  CallsIn Fence.wide n Tryz.prog 82 #[.func (.func g) #[] lb] w fun e w'=>∃ (v:Value) (ss:List Nat),e = .returned v/\S ss/\w'.ownsRow w.heap.size 23 1 v ss.length (ss.map eU)/\(v = .slice none 0 0↔ss=[])/\Below w.heap.size w w':=by
 have:1<=n:=zo;have:Fence.wide.fn 136:=trivial;have c:=mh (n - 1) zo g lb eg S N hN Ij w EM;refine callsIn_of_wp Tryz.func82 rfl trivial ?_ rfl;simp only [Tryz.ntmps82,List.size_toArray,yu,List.length_nil,Nat.reduceAdd,Nat.reduceSub,Array.replicate_succ,Array.replicate_zero,List.push_toArray,yE,yy,yK]
 gi_wp2_with (gi_at_call 136;refine c.mono ?_;rintro e w' ⟨v,ss,rfl,hS,Cc,Ep,hb⟩)
 go_ret;exact ⟨v,ss,rfl,hS,Cc,Ep,hb⟩
def VL (l:List Nat):Array Int:=(l.map (fun n:Nat=>(n:Int))).toArray
theorem Ot (l:List Nat):(VL l).size=l.length:=by simp [VL]
theorem cU (l:List Nat) (i:Nat) (h:i<l.length):(VL l)[i]! = (l[i]!:Nat):=by simp [VL,h]
theorem pN (l:List Nat):(VL l).toList=l.map (fun n:Nat=>(n:Int)):=by simp [VL]
theorem j8 {d':Array Int} (h:PermIn 0 ss.length (VL ss) d') (hs:SortedIn ltInt 0 ss.length d'):∃ l:List Nat,d'=VL l/\l.Perm ss/\l.Pairwise (· <= ·):=by
 obtain ⟨h1,_,h3⟩:=h;rw [Ot] at h1;have e1:d'.extract 0 ss.length=d':=by rw [<- h1];simp
 have e2:(VL ss).extract 0 ss.length=VL ss:=by rw [<- Ot ss];simp
 rw [e1,e2,pN] at h3
 have Ki:∀ x,x∈d'.toList->0<=x:=fun x hx=>by
  have:=h3.mem_iff.1 hx;simp only [yw] at this;obtain ⟨n,_,rfl⟩:=this;omega
 have hmm:(d'.toList.map Int.toNat).map (fun n:Nat=>(n:Int))=d'.toList:=by
  rw [List.map_map]
  conv=>rhs;rw [<- List.map_id d'.toList]
  exact yU fun x hx=>by simp [Int.toNat_of_nonneg (Ki x hx)]
 refine ⟨d'.toList.map Int.toNat,?_,?_,?_⟩
 ·unfold VL;rw [hmm]
 ·have:=h3.map Int.toNat
  rw [List.map_map] at this
  have e:ss.map (Int.toNat ∘ fun n:Nat=>(n:Int))=ss:=by
   conv=>rhs;rw [<- List.map_id ss]
   exact yU fun x _=>by simp
  rw [e] at this;exact this
 ·rw [List.pairwise_map,List.pairwise_iff_getElem]
  intro i j hi hj DP;have Mo:j<d'.size:=by simpa using hj
  have:=hs i j (yg _) DP zo;unfold ltInt at this;simp only [decide_eq_false_iff_not] at this;rw [getElem!_pos d' i zo,getElem!_pos d' j Mo] at this;simp only [Array.getElem_toList];have:=Ki d'[i] zaa;have:=Ki d'[j] zaa;omega
def VM (w:World) (B:Nat) (v:Value) (l:List Nat):Prop:=(l=[]/\v = .slice none 0 0)∨(l≠[]/\∃ g c,v = zS g l.length c/\l.length<=c/\B<=g/\Zp w g l.length (VL l))
def v6 (S:List Nat->Prop) (N:Nat) (w:World) (e:Ending) (w':World):Prop:=∃ v l ss,e = .returned v/\S ss/\l.Perm ss/\l.Pairwise (· <= ·)/\VM w' w.heap.size v l/\l.length<=N/\zv [] w w'
theorem j9 {g:Nat} {BV:Array Value} (h:w.heap[g]?=some (.cells BV 23 (0,0))) (ht:BV.toList.take (ss.length*1)=ss.map eU) (hl:∀ x,x∈ss->x<18446744073709551616):Zp w g ss.length (VL ss):=by
 refine ⟨Ot ss,⟨BV,h,fun i hi=>?_⟩,fun i hi=>?_⟩
 ·rw [cU ss i hi]
  have e:(BV.toList.take (ss.length*1))[i]?=(ss.map eU)[i]?:=by rw [ht]
  rw [List.getElem?_take_of_lt zo] at e;rw [<- yB,e];simp [hi,eU]
 ·rw [cU ss i hi,getElem!_pos ss i hi]
  have:=hl ss[i] (zt hi);omega
theorem v7 {N:Nat} (n:Nat) (hn:4<=n) (g:Nat) (lb:Array Value) (eg:∀ args w,(callFunc g args).run Tryz.prog w = .ok (.enter g args) w)
  {K:Nat} (hK:Bc K) (S:List Nat->Prop) (hSK:∀ ss,S ss->ss.length<=N->ss.length<=K) (hS64:∀ ss,S ss->∀ x,x∈ss->x<18446744073709551616) (hN:N<=maxLen) (Ij:N*8<=140737488355328) (w:World) (EM:SeqGives Fence.wide (n - 1 - 1 - 1) Tryz.prog g lb eU S N w) :
  CallsIn Fence.wide n Tryz.prog 45 #[.func (.func g) #[] lb] w (v6 S N w):=by
 have:1<=n:=by omega
 have:Fence.wide.fn 82:=trivial;have:Fence.wide.fn 83:=trivial;have c:=t9 (n - 1) (by omega) g lb eg _ N hN Ij w EM.bounded;refine callsIn_of_wp Tryz.func45 rfl trivial ?_ rfl;simp only [Tryz.ntmps45,List.size_toArray,yu,List.length_nil,Nat.reduceAdd,Nat.reduceSub,Array.replicate_succ,Array.replicate_zero,List.push_toArray,yE,yy,yK]
 gi_wp2_with (gi_at_call 82;refine c.mono ?_;rintro e W ⟨v,ss,rfl,⟨hS,B9⟩,Cc,Ep,hb⟩)
 rcases Cc.2 with ⟨rfl,hz⟩ | ⟨gb,cap,BV,rfl,Dp,IV,r1,r2,r3,r4⟩
 ·have hss:ss=[]:=List.eq_nil_of_length_eq_zero hz
  subst hss
  gi_wp2_with (gi_at_call 83;refine (callsIn_wide.2 (me W)).mono ?_;rintro e w' ⟨rfl,rfl⟩)
  go_ret;exact ⟨.slice none 0 0,[],[],rfl,hS,List.Perm.refl _,List.Pairwise.nil,.inl ⟨rfl,rfl⟩,yg _,zv.of_below hb⟩
 ·have hR:Zp W gb ss.length (VL ss):=j9 IV r4 (hS64 ss hS)
  have cS:=(callsIn_wide (n:=n - 1)).2 (hK W gb ss.length cap _ hR (hSK ss hS B9) r1);have hss:ss≠[]:=fun e=>by rw [e] at Ep;simp at Ep
  gi_wp2_with (gi_at_call 83;refine cS.mono ?_;rintro e w' ⟨rfl,⟨d',G4,hp,hs⟩,Do⟩)
  go_ret;obtain ⟨l,hl,F0,GH⟩:=j8 hp hs;rw [hl] at G4;have Gt:l.length=ss.length:=F0.length_eq;rw [<- Gt] at G4;refine ⟨zS gb ss.length cap,l,ss,rfl,hS,F0,GH,.inr ⟨fun e=>hss (by rw [e] at F0;exact F0.symm.eq_nil),gb,cap,by rw [Gt],by omega,Dp,G4⟩,by omega,(zv.of_below hb).then Do (fun i hi=>by simp at hi;subst hi;exact .inr Dp)⟩
def gK {H:Type} (D:DataW H) (l:List Nat):Prop:=l.Pairwise (· < ·)/\∀ x,x∈l↔has D (kU x)=true
theorem gK.of {H:Type} {D:DataW H} (h:cT D ss) (hp:l.Perm ss) (hs:l.Pairwise (· <= ·)):gK D l:=by
 refine ⟨?_,fun x=>by rw [hp.mem_iff];exact h.2 x⟩;have hn:l.Nodup:=hp.nodup_iff.2 h.1;exact (hs.and hn).imp fun ⟨a,b⟩=>zo
theorem VM.up {B B':Nat} {v:Value} (h:VM w B v l) (hb:B'<=B):VM w B' v l:=by
 rcases h with h | ⟨h1,g,c,h2,h3,h4,h5⟩
 ·exact .inl h
 ·exact .inr ⟨h1,g,c,h2,h3,qh hb h4,h5⟩
end Go.Proofs.YtegpiomkmfhadaaGreat
namespace Go.Proofs.YtegpiomkmfhadaaGreat
open Go.RowKit Go.Maps Go.Sort Go.Shelf
theorem wg {H:Type} (n:Nat) (hn:1<=n) (l Bm b nn:Nat) (D0:DataW H) {R:Value->Option (DataW H × List MemPlace)} (J:List Nat->World->Prop)
  (hY:∀ pre x W,J pre W->pre.length<Maps.size D0->YieldAt Fence.wide (n - 1) Tryz.prog l #[eU x] W fun e W'=>e = .returned (.bool true)/\J (pre++[x]) W'/\KeepsWalks W W')
  (W:World) (hJ:AbidesFrom W.heap.size J) (hm:W.cell? ⟨Bm,0,none⟩=some (.map (some b))) (BT:W.ownsMap Tryz.prog 23 R b nn D0) (h0:J [] W) :
  CallsIn Fence.wide n Tryz.prog 84 #[.func (.yield l) #[] #[],zP Bm] W fun e W'=>(∃ v,e = .returned v)/\∃ ss:List Nat,cT D0 ss/\J ss W':=by
 refine callsIn_of_wp Tryz.func84 rfl trivial ?_ rfl;simp only [Tryz.ntmps84,List.size_toArray,yu,List.length_nil,Nat.reduceAdd,Nat.reduceSub,Array.replicate_succ,Array.replicate_zero,List.push_toArray,yE,yy,yK]
 gi_wp2_with (first
  | (gi_at_range;refine wpListIn_range_own _ rfl _ 113 rfl 23 3 KU Tryz.underlying113 _ b nn _ rfl BT ?_;intro w0 hrg0 EX F6)
  | gi_in)
 go_frame
 gi_loopw [3] (fun _ wr=>∃ (left:Lit->Bool) (cnt:Nat) (ss:List Nat),wr.ranges Tryz.prog 23 R b W.heap.size nn D0 left cnt/\ss.length+cnt<=Maps.size D0/\VJ D0 left ss/\J ss wr)
  (fun _ wr=>wr.rangeLeft b W.heap.size)
 case atStart =>
  exact ⟨_,_,[],hrg0,zaa,VJ.start D0,hJ [] W w0 none h0 EX (fun r e=>by cases e)⟩
 case round =>
  obtain ⟨left,cnt,ss,LF,DG,hC,PL⟩:=hrel
  gi_wp2_with (first
   | (gi_at_next;refine wpListIn_next_ranges _ rfl _ rfl 23 KU R eU id (fun key kl hk=>by obtain ⟨x,hx,_⟩:=gI hk;exact ⟨x,hx⟩) (fun v _ _=>⟨v,rfl⟩) b W.heap.size nn _ _ _ rfl LF ?_ ?_)
   | gi_in)
  ·intro Ef Dt
   gi_wp2
   go_end0
   exact ⟨⟨_,rfl⟩,ss,hC.keys Dt,PL⟩
  ·intro x c kl yd yp w2 cnt2 Ch Co hv DT hrg2 BY C8 LH Mj
   obtain ⟨x',ex,rfl,_⟩:=gI Ch;obtain rfl:x=x':=AN ex;have hJ2:J ss w2:=hJ ss wr w2 (some W.heap.size) PL C8 (fun r e=>by cases e;exact ⟨xd _,LF.iter_walk⟩);obtain ⟨fn,tmps,assign,body,hy,hR⟩:=hY ss x w2 hJ2 zo;clear LH
   gi_wp2
   refine hR.mono ?_;rintro e W3 ⟨rfl,U2,Eu⟩
   gi_wp2
   have hrg3:=hrg2.of_walks Eu
   go_roundw
   case rel=>exact ⟨_,cnt2,ss++[x],hrg3,by simp;omega,hC.step Co DT,U2⟩
   case measure=>rw [hrg3.left_eq,LF.left_eq];exact BY
theorem wh {H:Type} (n:Nat) (hn:1<=n) (Bm b nn:Nat) (D0:DataW H) {R:Value->Option (DataW H × List MemPlace)} (w:World) (hBm:Bm<w.heap.size)
  (hm:w.cell? ⟨Bm,0,none⟩=some (.map (some b))) (BT:w.ownsMap Tryz.prog 23 R b nn D0) :
  SeqGives Fence.wide n Tryz.prog 84 #[zP Bm] eU (cT D0) (Maps.size D0) w:=fun l J W hW hJ hY h0=>by
 have IA:W.ownsMap Tryz.prog 23 R b nn D0:=by
  have FE:=BT.lt;obtain ⟨es,Dn,hb,Ft,hs,hD⟩:=BT;exact ⟨es,Dn,(hW.block b FE).trans hb,Ft,hs,hD⟩
 exact wg n hn l Bm b nn D0 J hY W hJ ((hW.cell (p:=⟨Bm,0,none⟩) hBm).trans hm) IA h0
theorem pO (n:Nat) (mb:Option Nat) (w:World) :
  CallsIn Fence.wide n Tryz.prog 46 #[.map mb] w fun e w'=>e = .returned (.func (.func 84) #[] #[zP w.heap.size])/\w'=w.alloc (.cells #[.map mb] 113):=by
 refine callsIn_of_wp Tryz.func46 rfl trivial ?_ rfl;simp only [Tryz.ntmps46,List.size_toArray,yu,List.length_nil,Nat.reduceAdd,Nat.reduceSub,Array.replicate_succ,Array.replicate_zero,List.push_toArray,yE,yy,yK]
 gi_wp2
 go_ret;exact ⟨rfl,rfl⟩
def kd (M:Nat) (p:Nat->Prop):Prop:=1000000<=M∨∀ ss:List Nat,ss.Nodup->(∀ x,x∈ss↔p x)->ss.length<=M
theorem ke {w:World} {b m K:Nat} {f:Nat->Option Value} {good:Value->Bool} (hK:Bc K) (h:qE Tryz.prog 23 good w b m f) (hm:m<=1000000) (hF:kd K fun x=>(f x).isSome=true) :
  zC 45 #[.func (.func 84) #[] #[zP w.heap.size]] (w.alloc (.cells #[.map (some b)] 113)) fun e w'=>∃ v l,e = .returned v/\l.Pairwise (· < ·)/\(∀ x,x∈l↔(f x).isSome=true)/\l.length<=m/\VM w' w.heap.size v l/\zv [] w w':=by
 obtain ⟨D,h1,h2,H⟩:=h
 have hX:∀ x:Nat,Maps.has D (kU x)=true↔(f x).isSome=true:=fun x=>by
  show Maps.has D (.int .u64 (x:Int))=true↔_
  rw [H.has x]
 have BT:(w.alloc (.cells #[.map (some b)] 113)).ownsMap Tryz.prog 23 (RG good) b (Maps.size D) D:=h1.alloc _
 refine ((callsIn_wide (n:=5)).1 (v7 5 zo 84 #[zP w.heap.size] (enters_of Tryz.func84 zab rfl) hK (cT D) (fun ss hs hl=>by
   rcases hF with e | e
   ·omega
   ·exact e ss hs.1 fun x=>(hs.2 x).trans (hX x)) (fun ss hs=>hs.lt h1) zam zo _
  (wh 2 zo w.heap.size b (Maps.size D) D _ zaa zaa BT))).mono ?_
 rintro e w2 ⟨v,l,ss,rfl,hS,F0,GH,hLu,hlN,hC⟩;have hk:=gK.of hS F0 GH;refine ⟨v,l,rfl,hk.1,fun x=>(hk.2 x).trans (hX x),qh hlN h2,hLu.up zaa,((zv.refl [] w).alloc _).trans hC⟩
end Go.Proofs.YtegpiomkmfhadaaGreat
