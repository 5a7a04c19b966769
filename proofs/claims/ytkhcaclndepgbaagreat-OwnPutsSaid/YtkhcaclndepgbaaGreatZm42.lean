/- Layer 14's examples: the walk (draft, not built). · What a walk is told of a slice of integers that came in; bounds out of 'wf'. · More on slices of integers that came in. · Slices of layer 14's items and operations that came in. · Layer 14's Counted in plain words: which nodes were met, and what was counted. · Layer 14's Tree: a tree of nodes as it lies in memory. -/
import Derived.Test.YtkhcaclndepgbaaGreatZm41
import Derived.Test.YtkhcaclndepgbaaGreatZm01
import Derived.OpenShut
import Derived.Test.YtkhcaclndepgbaaGreatZm40
import Derived.Deep.SlicePairs
import Derived.Test.YtkhcaclndepgbaaGreatProg
import Derived.ProofKit
import Derived.ChangeArms
import Derived.Lib.SmallJoins
import Derived.Test.YtkhcaclndepgbaaGreatZm39
set_option linter.unusedVariables false
set_option linter.unusedSimpArgs false
set_option maxRecDepth 100000
set_option maxHeartbeats 20000000
namespace Go.Proofs.YtkhcaclndepgbaaGreat
open Go.RowKit
theorem its8_two {w:World} {b:Nat} (h:w.heap[b]?=some (.cells #[.int .u64 1,.int .u8 1,.int .u64 2,.int .u8 2] 197 (0,0))):Its8 [] w (.slice (some ⟨b,0,none⟩) 2 2) [(1,1),(2,2)]:=by
 refine ⟨⟨_,2,rfl,Nat.le_refl _,by unfold maxLen;decide,fun _=>⟨b,0,rfl,zhl h,by simp,fun i hi=>?_⟩⟩,fun p hp=>?_⟩
 ·have hi:i=0∨i=1:=by simp at hi;omega
  rcases hi with rfl | rfl
  ·exact ⟨(zcb h 0).trans rfl,(zcb h 1).trans rfl⟩
  ·exact ⟨(zcb h 2).trans rfl,(zcb h 3).trans rfl⟩
 ·simp at hp
  rcases hp with rfl | rfl <;> exact ⟨by decide,by decide⟩
theorem awake14_at (w:World):Calls Tryz.prog 64 #[] w fun e w'=>e = .returned (.bool true)∧Chg [] w w':=by
 obtain ⟨d,ht,ht2,p2,A⟩:=aw14_ok
 have HA:=Lib.hid A
 clear A
 have hX:=znb w (.cells #[.int .u64 1,.int .u8 1,.int .u64 2,.int .u8 2] 197)
 have hW:=(Chg.refl [] w).alloc (.cells #[.int .u64 1,.int .u8 1,.int .u64 2,.int .u8 2] 197)
 have cg:=grown_at (N:=40) (by omega) (its8_two hX) (by decide) (by rw [room_fmt (by omega)];decide)
 change Calls _ _ #[.int .i64 40,.slice (some ⟨w.heap.size,0,none⟩) 2 2] _ _ at cg
 have CG:=Lib.hid cg
 have HW:=Lib.hid hW
 clear hX hW cg
 go_enter Tryz.func64,Tryz.ntmps64
 go_wp2_with fail
 refine CG.out.mono ?_
 clear CG
 rintro e w1 ⟨M,x,B,vi,rfl,hb1,hgw,hiv,hc1,hM,hbl⟩
 obtain ⟨rfl,rfl⟩:B=owB3∧x=6:=by
  have h:=hbl (by rw [ow_grown];simp)
  rw [ow_grown,ow_build] at h
  exact ⟨congrArg Prod.fst h,congrArg Prod.snd h⟩
 obtain ⟨va,vc,rfl,_,_⟩:=hiv.len
 have HM:=Lib.hid (fun q hq => .inr (Nat.le_trans HW.out.size (hM q hq)):∀ q,q∈M.L→q∈([]:List Nat)∨w.heap.size≤q)
 have H1:=Lib.hid (And.intro hb1 (And.intro (HW.out.trans hc1) hM))
 have co:=owOwn_at (x:=6) hb1 (fun q hq=>by cases hq) (by rw [HA.out.g3.good.n];omega) HA.out.n3 (fun h=>by have:=HA.out.i3.symm.trans h;cases this)
 rw [show ownP owB3 6 d=(6,owB3) by unfold ownP;exact if_pos HA.out.i3] at co
 have CO:=Lib.hid co
 clear hb1 hgw hiv hc1 hM hbl co
 go_wp2_with fail
 refine CO.out.mono ?_
 clear CO
 rintro e w2 ⟨rfl,hb2,hc2⟩
 have cu:=bUp_at hb2 (fun q hq=>by cases hq) 6
 have CU:=Lib.hid cu
 have H2:=Lib.hid (And.intro hb2 (H1.out.2.1.then hc2 (fun q hq => .inr (Nat.le_trans HW.out.size (H1.out.2.2 q hq)))))
 clear hb2 hc2 cu
 go_wp2_with fail
 refine CU.out.mono ?_
 clear CU
 rintro e w3 ⟨rfl,hb3,hc3⟩
 have co:=owOwn_at (x:=6) hb3 (fun q hq=>by cases hq) (by rw [HA.out.g4.good.n];omega) HA.out.n4 (fun _=>HA.out.o4)
 rw [HA.out.e6] at co
 have CO:=Lib.hid co
 have H3:=Lib.hid (And.intro hb3 (H2.out.2.then hc3 (fun q hq => .inr (Nat.le_trans HW.out.size (H1.out.2.2 q hq)))))
 clear hb3 hc3 co
 go_wp2_with fail
 refine CO.out.mono ?_
 clear CO
 rintro e w4 ⟨rfl,hb4,hc4⟩
 have c4:Chg [] w w4:=H3.out.2.then hc4 (fun q hq => .inr (Nat.le_trans HW.out.size (H1.out.2.2 q hq)))
 have hn6:=ow_now6 (blkF 1) (blkF 2) (pageF true 2 (kOf [(1,4),(2,5)]) (vOf [(1,4),(2,5)])) d.pg
 have v6:∀ x:Nat,x<40→getV (owB6 d).T (x:Int)=((owB6 d).T.now x:Int):=fun x hx=>HA.out.g6.getV hx
 have k4:=hb4.cCount 4
 have k5:=hb4.cCount 5
 have k6:=hb4.cCount 6
 have k7:=hb4.cCount 7
 rw [show getV (owB6 d).T 4=2 from (v6 4 (by omega)).trans (by rw [show (owB6 d).T.now 4=2 from hn6.1];rfl)] at k4
 rw [show getV (owB6 d).T 5=2 from (v6 5 (by omega)).trans (by rw [show (owB6 d).T.now 5=2 from hn6.2.1];rfl)] at k5
 rw [show getV (owB6 d).T 6=1 from (v6 6 (by omega)).trans (by rw [show (owB6 d).T.now 6=1 from hn6.2.2.1];rfl)] at k6
 rw [show getV (owB6 d).T 7=1 from (v6 7 (by omega)).trans (by rw [show (owB6 d).T.now 7=1 from hn6.2.2.2];rfl)] at k7
 have H4:=Lib.hid (And.intro hb4 (And.intro c4 hn6))
 have clt:=Lib.hid (owLet_at w4 M (fun q hq=>hb4.ltL hq))
 clear hb4 hc4 c4 hn6 v6 H2 H3 H1
 go_wp2_with fail
 refine (k4).mono ?_
 rintro e w' ⟨rfl,rfl⟩
 go_wp2_with fail
 refine (k5).mono ?_
 rintro e w' ⟨rfl,rfl⟩
 go_wp2_with fail
 refine (k6).mono ?_
 rintro e w' ⟨rfl,rfl⟩
 go_wp2_with fail
 refine (k7).mono ?_
 rintro e w' ⟨rfl,rfl⟩
 go_wp2_with fail
 refine clt.out.mono ?_
 clear clt
 rintro e w5 ⟨bx,rfl,hbx,hc5⟩
 have cd:=owDrop_at (x:=6) (k:=0) (bx:=bx) (F:=[]) ⟨H4.out.1.chg hc5 (by simp),fun q hq=>(by cases hq),HA.out.g6,by omega,HA.out.top.1,by rw [HA.out.pos];unfold mor;simp,by omega,hbx⟩
 change Calls _ _ #[_,.int .i64 6,_] _ _ at cd
 have CD:=Lib.hid cd
 have H5:=Lib.hid (H4.out.2.1.trans hc5)
 clear cd hbx hc5
 go_wp2_with fail
 refine CD.out.mono ?_
 clear CD
 rintro e w6 ⟨rfl,B',ht7,hb6,hl,hc6,he⟩
 obtain rfl:B'=owB7 d:=(he rfl H4.out.2.2.2.2.1 d HA.out.n6.1).trans HA.out.e7
 have E:=aw14_end HA.out hl
 have hn7:=ow_now7 (blkF 1) (blkF 2) (pageF true 2 (kOf [(1,4),(2,5)]) (vOf [(1,4),(2,5)])) d.pg
 have v7:∀ x:Nat,x<40→getV (owB7 d).T (x:Int)=((owB7 d).T.now x:Int):=fun x hx=>hl.gr.getV hx
 have k4:=hb6.cCount 4
 have k5:=hb6.cCount 5
 have k6:=hb6.cCount 6
 rw [show getV (owB7 d).T 4=1 from (v7 4 (by omega)).trans (by rw [show (owB7 d).T.now 4=1 from hn7.1];rfl)] at k4
 rw [show getV (owB7 d).T 5=1 from (v7 5 (by omega)).trans (by rw [show (owB7 d).T.now 5=1 from hn7.2.1];rfl)] at k5
 rw [show getV (owB7 d).T 6=0 from (v7 6 (by omega)).trans (by rw [show (owB7 d).T.now 6=0 from hn7.2.2.1];rfl)] at k6
 have CC:=Lib.hid (bCommit_any hb6 (fun q hq=>by cases hq) E.good (by omega))
 have hM5:∀ q,q∈M.L→q∈([]:List Nat)∨w.heap.size≤q:=HM.out
 have H6:=Lib.hid (H5.out.then hc6 hM5)
 have HE:=Lib.hid E
 clear hb6 hl hc6 he E hn7 v7 hM5
 go_wp2_with fail
 refine (k4).mono ?_
 rintro e w' ⟨rfl,rfl⟩
 go_wp2_with fail
 refine (k5).mono ?_
 rintro e w' ⟨rfl,rfl⟩
 go_wp2_with fail
 refine (k6).mono ?_
 rintro e w' ⟨rfl,rfl⟩
 go_wp2_with fail
 refine CC.out.mono ?_
 clear CC
 rintro e w7 ⟨rfl,hb7,hc7⟩
 have co:=owOwn_at (x:=7) hb7 (fun q hq=>by cases hq) (by rw [HE.out.n];omega) HE.out.node HE.out.ok
 change Calls _ _ #[_,.int .i64 7] _ _ at co
 have CO:=Lib.hid co
 have H7:=Lib.hid (H6.out.then hc7 HM.out)
 clear co hb7 hc7
 go_wp2_with fail
 refine CO.out.mono ?_
 clear CO
 rintro e w8 ⟨rfl,hb8,hc8⟩
 obtain ⟨y,hy⟩:∃ y,y=(ownP (owB7 d).commit 7 d).1:=⟨_,rfl⟩
 have hne:=HE.out.ne
 have hlt:=HE.out.lt
 have his:=HE.out.is
 rw [← hy] at hne hlt his ⊢
 have ci:=owIs_at hb8 (y:Int) (WalkArith.wf_i64 (by omega))
 rw [his] at ci
 have y7:((y:Int)==7)=false:=by rw [beq_eq_false_iff_ne];omega
 have y8:((y:Int) != 7)=true:=by rw [bne_iff_ne];omega
 have y9:¬ (y:Int)=7:=by omega
 have k4:=Lib.hid (fun (w':World) (h:BaseAt w' M [] (ownP (owB7 d).commit 7 d).2)=>h.cCount 4)
 have k7:=Lib.hid (fun (w':World) (h:BaseAt w' M [] (ownP (owB7 d).commit 7 d).2)=>h.cCount 7)
 have H8:=Lib.hid (And.intro hb8 (H7.out.then hc8 HM.out))
 have CI:=Lib.hid ci
 clear ci hb8 hc8 hne his hy
 go_wp2_with fail
 refine CI.out.mono ?_
 clear CI
 rintro e w9 ⟨rfl,hc9⟩
 have hb9:=H8.out.1.chg hc9 (by simp)
 have m4:=k4.out w9 hb9
 have m7:=k7.out w9 hb9
 rw [HE.out.c4] at m4
 rw [HE.out.c7] at m7
 have H9:=Lib.hid (H8.out.2.trans hc9)
 clear hb9 hc9 k4 k7
 go_wp2_with fail
 refine (m4).mono ?_
 rintro e w' ⟨rfl,rfl⟩
 go_wp2_with fail
 refine (m7).mono ?_
 rintro e w' ⟨rfl,rfl⟩
 go_wp2_with fail
 go_ret
 exact ⟨rfl,H9.out⟩
def IsRow (k:IntKind) (w:World) (a:Option Addr) (len cap:Nat) (zs:List Int):Prop :=
 (a=none∧len=0∧cap=0∧zs=[]) ∨
 ∃ x,a=some x∧len≤cap∧cap≤maxLen∧zs.length=cap∧(∀ i,i<zs.length→w.cell? (x.add i)=some (.int k (zs.getD i 0)))∧∀ n∈zs,(Lit.int k n).wf=true
theorem bd_u8 {x:Int} (h:(Lit.int .u8 x).wf=true):0≤x∧x≤255:=by
 simp [Lit.wf,IntKind.min,IntKind.max,IntKind.signed,IntKind.bits] at h;exact h
theorem bd_u64 {x:Int} (h:(Lit.int .u64 x).wf=true):0≤x∧x≤18446744073709551615:=by
 simp [Lit.wf,IntKind.min,IntKind.max,IntKind.signed,IntKind.bits] at h;exact h
theorem IsRow.get {k:IntKind} {w:World} {a:Option Addr} {len cap:Nat} {zs:List Int} (h:IsRow k w a len cap zs) {i:Nat} (hi:i<len) :
  ∃ b off,a=some ⟨b,off,none⟩∧b<w.heap.size∧w.cell? ⟨b,off+i,none⟩=some (.int k (zs.getD i 0))∧(Lit.int k (zs.getD i 0)).wf=true:=by
 rcases h with ⟨_,rfl,_⟩ | ⟨⟨b,off,sp⟩,rfl,h1,h2,h3,h4,h5⟩
 ·omega
 ·have hil:i<zs.length:=by omega
  have hspot:sp=none:=by simpa [Addr.add] using World.cell?_spot (h4 0 (by omega))
  subst hspot
  have hc:=h4 i hil
  have e:(⟨b,off,none⟩:Addr).add i=⟨b,off+i,none⟩:=by unfold Addr.add;split <;> simp_all
  rw [e] at hc
  refine ⟨b,off,rfl,World.block_lt_of_cell? w _ hc,hc,h5 _ ?_⟩
  rw [List.getD_eq_getElem?_getD,List.getElem?_eq_getElem hil]
  exact List.getElem_mem hil
open Go.RowKit Go.Deep
def natOf8:Value→Nat | .int _ n=>n.toNat | _=>0
theorem open_its8 {H:Type} {enc:TypeId × Value→H} {W:World} {a:Option Addr} {len cap:Nat} {d:DataW H} {p:List MemPlace}
  (h:DataW.Trod enc Tryz.prog W 0 (fun _=>true) true 113 (.slice a len cap) d p):∃ l:List (Nat × Nat),Its8 [] W (.slice a len cap) l:=by
 obtain ⟨fuel,hf⟩:=h
 rcases open_slice_pairs Tryz.underlying113 Tryz.underlying197 (by kernel_rfl) rfl rfl (by kernel_rfl) (by kernel_rfl) hf with ⟨hcs,_⟩ | ⟨x,l,c,m,n,V0,V1,D0,D1,P0,P1,hcs,_,hl,hm,hmeq,_,hall⟩
 ·simp [Value.cells] at hcs
  obtain ⟨rfl,rfl,rfl⟩:=hcs
  exact ⟨[],⟨_,_,rfl,Nat.le_refl _,Nat.zero_le _,fun q=>by simp at q⟩,fun p hp=>by cases hp⟩
 ·simp [Value.cells] at hcs
  obtain ⟨rfl,rfl,rfl⟩:=hcs
  simp only [if_true] at hmeq
  subst hmeq
  have each:∀ i,i<len→x.spot=none∧x.block<W.heap.size∧W.cell? ⟨x.block,x.off+i*2,none⟩=some (.int .u64 (natOf8 (V0 i):Int))∧W.cell? ⟨x.block,x.off+i*2+1,none⟩=some (.int .u8 (natOf8 (V1 i):Int))∧natOf8 (V0 i)<18446744073709551616∧natOf8 (V1 i)<256:=fun i hi=>by
   obtain ⟨h0,h1,t0,t1⟩:=hall i (by omega)
   obtain ⟨n0,hv0,_,w0⟩:=DataW.trod_int Tryz.underlying44 t0
   obtain ⟨n1,hv1,_,w1⟩:=DataW.trod_int Tryz.underlying5 t1
   simp only [List.cons.injEq,and_true] at hv0 hv1
   have b0:=bd_u64 w0
   have b1:=bd_u8 w1
   obtain ⟨b,off,sp⟩:=x
   have hs0:=(hall 0 (by omega)).1
   have hspot:sp=none:=by simpa [Addr.add] using World.cell?_spot hs0
   subst hspot
   have e (k:Nat):(⟨b,off,none⟩:Addr).add k=⟨b,off+k,none⟩:=by unfold Addr.add;split <;> simp_all
   rw [e] at h0 h1
   rw [hv0] at h0 ⊢
   rw [hv1] at h1 ⊢
   refine ⟨rfl,World.block_lt_of_cell? W ⟨b,off+i*2,none⟩ h0,?_,?_,?_,?_⟩
   ·show W.cell? ⟨b,off+i*2,none⟩=some (.int .u64 ((n0.toNat:Nat):Int))
    rw [h0,Int.toNat_of_nonneg b0.1]
   ·show W.cell? ⟨b,off+i*2+1,none⟩=some (.int .u8 ((n1.toNat:Nat):Int))
    rw [show off+i*2+1=off+(i*2+1) by omega,h1,Int.toNat_of_nonneg b1.1]
   ·show n0.toNat<_;omega
   ·show n1.toNat<_;omega
  obtain ⟨L,hL⟩:∃ L,L=(List.range len).map fun i=>(natOf8 (V0 i),natOf8 (V1 i)):=⟨_,rfl⟩
  have hlen:L.length=len:=by rw [hL];simp
  have hget:∀ i,i<len→L.getD i (0,0)=(natOf8 (V0 i),natOf8 (V1 i)):=fun i hi=>by
   rw [hL,List.getD_eq_getElem?_getD,List.getElem?_map,List.getElem?_range hi];rfl
  refine ⟨L,⟨some x,_,by rw [hlen],by rw [hlen];exact hl,hm,fun h0=>?_⟩,fun q hq=>?_⟩
  ·obtain ⟨hs,hb,-⟩:=each 0 (by omega)
   obtain ⟨b,off,sp⟩:=x
   have hs:sp=none:=hs
   subst hs
   refine ⟨b,off,rfl,hb,by simp,fun i hi=>?_⟩
   rw [hlen] at hi
   obtain ⟨-,-,k0,k1,-⟩:=each i hi
   rw [hget i hi]
   exact ⟨k0,k1⟩
  ·rw [hL] at hq
   obtain ⟨i,hi,rfl⟩:=List.mem_map.1 hq
   exact (each i (List.mem_range.1 hi)).2.2.2.2
open Go.WideShapes Go.ChangeShapes
structure Op3 where
 code:Nat
 root:Nat
 kid:Nat
structure Op3OK (o:Op3):Prop where
 code:o.code≤255
 root:o.root≤255
 kid:o.kid≤255
def Op3C (c:Nat→Option Value) (o:Op3):Prop :=
 c 0=some (.int .u8 (o.code:Int))∧c 1=some (.int .u8 (o.root:Int))∧c 2=some (.int .u8 (o.kid:Int))∧Op3OK o
def IsOps3 (w:World) (a:Option Addr) (len cap:Nat) (z:Nat→Op3):Prop :=
 len≤cap∧cap≤maxLen∧(a=none→len=0∧cap=0) ∧
 ∀ i,i<len→∃ b off,a=some ⟨b,off,none⟩∧b<w.heap.size∧Op3C (fun j=>w.cell? ⟨b,off+i*3+j,none⟩) (z i)
theorem Op3C.chg {L:List Nat} {w w':World} {b off i:Nat} {o:Op3} (h:Op3C (fun j=>w.cell? ⟨b,off+i*3+j,none⟩) o) (c:Chg L w w') (hb:b<w.heap.size) (hL:b∉L) :
  Op3C (fun j=>w'.cell? ⟨b,off+i*3+j,none⟩) o:=by
 obtain ⟨e0,e1,e2,hO⟩:=h
 have hc:∀ j v,w.cell? ⟨b,off+i*3+j,none⟩=some v→w'.cell? ⟨b,off+i*3+j,none⟩=some v:=fun j v h=>(c.cell (p:=⟨b,off+i*3+j,none⟩) hb hL).trans h
 exact ⟨hc _ _ e0,hc _ _ e1,hc _ _ e2,hO⟩
theorem IsOps3.get {w w':World} {a:Option Addr} {len cap:Nat} {z:Nat→Op3} (h:IsOps3 w a len cap z) (c:Chg [] w w') {i:Nat} (hi:i<len) :
  ∃ b off,a=some ⟨b,off,none⟩∧Op3C (fun j=>w'.cell? ⟨b,off+i*3+j,none⟩) (z i):=by
 obtain ⟨b,off,e,hb,hc⟩:=h.2.2.2 i hi
 exact ⟨b,off,e,hc.chg c hb (by simp)⟩
end Go.Proofs.YtkhcaclndepgbaaGreat
namespace Go.Proofs.YtkhcaclndepgbaaGreat
def addS (B:Bs) (N:Nat) (D:Nat→Bool) (b:Nat):Nat:=sumTo (fun n=>if D n then occO (B.nodeI (n:Int)) b else 0) N
theorem addS_none {B:Bs} {N:Nat} (b:Nat):addS B N (fun _=>false) b=0:=sumTo_zero fun i _=>rfl
def setD (D:Nat→Bool) (x:Nat):Nat→Bool:=fun n=>if n=x then true else D n
theorem addS_set {B:Bs} {N:Nat} {D:Nat→Bool} {x:Nat} {d:Nd} (hN:x<N) (hx:D x=false) (hd:B.nodeI (x:Int)=some d) (b:Nat):addS B N (setD D x) b=addS B N D b+occ d b:=by
 have:=sumTo_upd (f:=fun n=>if D n then occO (B.nodeI (n:Int)) b else 0) (g:=fun n=>if setD D x n then occO (B.nodeI (n:Int)) b else 0) (k:=x) (n:=N) hN (fun i _ hi=>by unfold setD;rw [if_neg hi])
 have h0:(if D x then occO (B.nodeI (x:Int)) b else 0)=0:=by rw [hx];rfl
 have h1:(if setD D x x then occO (B.nodeI (x:Int)) b else 0)=occ d b:=by unfold setD;rw [if_pos rfl,if_pos rfl,hd];rfl
 simp only [h0,h1] at this
 unfold addS
 omega
structure Marks (B:Bs) (ht:Ht) (D D':Nat→Bool):Prop where
 sub:∀ n,D n=true→D' n=true
 node:∀ n,D' n=true→D n=false→(ht n).isSome=true
 clos:∀ n,D' n=true→D n=false→∀ d,B.nodeI (n:Int)=some d→d.leaf=false→∀ i,i<d.n→D' (d.v i)=true
theorem Marks.refl (B:Bs) (ht:Ht) (D:Nat→Bool):Marks B ht D D:=⟨fun _ h=>h,fun n h1 h2=>(by rw [h1] at h2;cases h2),fun n h1 h2=>(by rw [h1] at h2;cases h2)⟩
theorem Marks.trans {B:Bs} {ht:Ht} {D D1 D2:Nat→Bool} (a:Marks B ht D D1) (b:Marks B ht D1 D2):Marks B ht D D2:=by
 refine ⟨fun n h=>b.sub n (a.sub n h),fun n h1 h2=>?_,fun n h1 h2 d hd hl i hi=>?_⟩
 ·cases e:D1 n with
  | true=>exact a.node n e h2
  | false=>exact b.node n h1 e
 ·cases e:D1 n with
  | true=>exact b.sub _ (a.clos n e h2 d hd hl i hi)
  | false=>exact b.clos n h1 e d hd hl i hi
theorem Marks.top {B:Bs} {ht:Ht} {D D':Nat→Bool} {x:Nat} {d:Nd} (hx:(ht x).isSome=true) (hd:B.nodeI (x:Int)=some d) (a:Marks B ht (setD D x) D') (hk:d.leaf=false→∀ i,i<d.n→D' (d.v i)=true):Marks B ht D D'∧D' x=true:=by
 have hs:∀ n,n≠x→setD D x n=D n:=fun n hn=>by unfold setD;rw [if_neg hn]
 have h1:setD D x x=true:=by unfold setD;rw [if_pos rfl]
 refine ⟨⟨fun n h=>a.sub n (by by_cases e:n=x <;> simp [setD,e,h]),fun n h1 h2=>?_,fun n h1 h2 d' hd' hl i hi=>?_⟩,a.sub x h1⟩
 ·by_cases e:n=x
  ·rw [e];exact hx
  ·exact a.node n h1 (by rw [hs n e];exact h2)
 ·by_cases e:n=x
  ·subst e
   obtain rfl:d=d':=Option.some.inj (hd.symm.trans hd')
   exact hk hl i hi
  ·exact a.clos n h1 (by rw [hs n e];exact h2) d' hd' hl i hi
section
variable {N G:Nat} {B:Bs} {ht:Ht} {pend:Nat→Nat}
theorem Gr.met (g:Gr N G B ht pend) {D:Nat→Bool} (M:Marks B ht (fun _=>false) D) (hr:∀ n,(ht n).isSome=true→1≤pend n→D n=true) (h1:∀ n c,ht n=some c→c<200)
  (hh:∀ k c,ht k=some c→100≤c→c % 100=0→∀ d,B.nodeI (k:Int)=some d→∀ i,i<d.n→d.v i≠0→D (d.v i)=true):∀ m n c,ht n=some c→200 - c=m→D n=true
 | m,n,c,hn,hm=>by
  obtain ⟨hN,hl⟩:=g.lt hn
  have h2:=g.two hl hN
  by_cases hp0:1≤pend n
  ·exact hr n (by rw [hn];rfl) hp0
  have hrr:=g.ref n h2 hN
  have hz:=(g.good.may hN hl).2.2.1
  rw [hl,if_pos rfl] at hrr
  obtain ⟨k,hk,hp⟩:=sumTo_pos (f:=refsF B ht n) (n:=N) (by show 0<Refs B ht N n;omega)
  unfold refsF at hp
  split at hp
  ·rename_i hs
   obtain ⟨c',hc'⟩:=Option.isSome_iff_exists.1 hs
   obtain ⟨_,_,d,hd,nd⟩:=g.node k c' hc'
   rw [hd] at hp
   obtain ⟨i,hi,hv⟩:=occ_pos hp
   have hlt:=h1 k c' hc'
   by_cases e:c' % 100=0
   ·by_cases e2:c'=0
    ·have:=nd.flat e2 i hi (by omega)
     rw [hv,hn] at this
     cases this
    ·have:=hh k c' hc' (by omega) e d hd i hi (by omega)
     rw [hv] at this
     exact this
   ·have hkid:=nd.kid e i hi
    rw [hv,hn] at hkid
    have e2:=Option.some.inj hkid
    have hk:=g.met M hr h1 hh (200 - c') k c' hc' rfl
    have:=M.clos k hk rfl d hd (by rw [nd.leaf];exact decide_eq_false e) i hi
    rw [hv] at this
    exact this
  ·omega
termination_by m=>m
decreasing_by
 simp_wf
 omega
theorem Gr.addS_eq (g:Gr N G B ht pend) {D:Nat→Bool} (M:Marks B ht (fun _=>false) D) (hr:∀ n,(ht n).isSome=true→1≤pend n→D n=true) (h1:∀ n c,ht n=some c→c<200)
  (hh:∀ k c,ht k=some c→100≤c→c % 100=0→∀ d,B.nodeI (k:Int)=some d→∀ i,i<d.n→d.v i≠0→D (d.v i)=true) (b:Nat):addS B N D b=Refs B ht N b:=sumTo_congr fun n hn=>by
 unfold refsF
 cases e:D n with
 | true=>rw [if_pos (M.node n e rfl)];rfl
 | false =>
  have hs:(ht n).isSome=false:=by
   cases hq:ht n with
   | none=>rfl
   | some c =>
    have:=g.met M hr h1 hh _ n c hq rfl
    rw [e] at this;cases this
  rw [hs]
theorem Gr.counted (g:Gr N G B ht pend) {q:Nat→Int} (h0:q 0=0) (h1:q 1=0) (hq:∀ b,2≤b→b<N→q b=((pend b+Refs B ht N b:Nat):Int)) :
  (∀ b,b<N→¬ (q b=0∧B.T.now b=1)→(B.T.now b:Int)=q b)∧cnt N (fun b=>decide (q b=0∧B.T.now b=1))=needN N:=by
 have hpn:∀ b,b<N→pgB B b=true→B.T.now b=1:=fun b hb hp=>by
  obtain ⟨k,i,hk,hi,e⟩:=pgB_iff.1 hp
  rw [← e]
  exact g.good.ok.own.now k i hk hi
 have hlow:∀ b,b<2→pgB B b=false:=fun b hb=>by
  cases hp:pgB B b with
  | false=>rfl
  | true =>
   obtain ⟨k,i,hk,hi,e⟩:=pgB_iff.1 hp
   have:=g.good.ok.a2 k i hk hi
   omega
 have key:∀ b,b<N→(q b=0∧B.T.now b=1↔pgB B b=true)∧(¬ (q b=0∧B.T.now b=1)→(B.T.now b:Int)=q b):=fun b hb=>by
  by_cases b2:2≤b
  ·have hr:=g.ref b b2 hb
   have hq':=hq b b2 hb
   rw [hr] at hq'
   cases hl:B.live b with
   | true =>
    have hz:=(g.good.may hb hl)
    rw [hl,if_pos rfl] at hq'
    refine ⟨⟨fun h=>by have:=hz.2.2.1;omega,fun h=>?_⟩,fun _=>hq'.symm⟩
    rw [hz.2.2.2] at h;cases h
   | false =>
    rw [hl] at hq'
    simp at hq'
    cases hp:pgB B b with
    | true =>
     have:=hpn b hb hp
     exact ⟨⟨fun _=>rfl,fun _=>⟨hq',this⟩⟩,fun h=>absurd ⟨hq',this⟩ h⟩
    | false =>
     have hn0:B.T.now b=0:=by
      unfold Bs.live at hl
      rw [hp] at hl
      simpa using hl
     exact ⟨⟨fun h=>by omega,fun h=>by cases h⟩,fun _=>by rw [hn0,hq'];rfl⟩
  ·have hl:=(g.good.ok.low b (by omega)).1
   have hqb:q b=0:=by rcases (show b=0∨b=1 by omega) with rfl | rfl <;> assumption
   rw [hlow b (by omega)]
   exact ⟨⟨fun h=>by omega,fun h=>by cases h⟩,fun _=>by rw [hl,hqb];rfl⟩
 refine ⟨fun b hb=>(key b hb).2,?_⟩
 have e1:=g.good.ok.pages_cnt
 rw [g.good.n] at e1
 rw [← e1]
 refine cnt_congr fun b hb=>?_
 cases hp:pgB B b with
 | true=>exact decide_eq_true ((key b hb).1.2 hp)
 | false=>exact decide_eq_false fun h=>by have:=(key b hb).1.1 h;rw [hp] at this;cases this
end
def TrIn (A:List Nat) (w:World) (B:Bs):Nat→Nat→List Value→Prop
 | 0,_,_=>False
 | f+1,x,V=>∃ (d:Nd) (vk vv:Value) (a:Option Addr) (n c:Nat),V=[.int .i64 (x:Int),.bool d.leaf,vk,vv,.slice a n c]∧B.nodeI (x:Int)=some d∧d.Ok∧NumsIn A w vk d.n d.k∧NumsIn A w vv d.n d.v∧n≤c∧c≤maxLen∧n=(if d.leaf then 0 else d.n) ∧
   (0<n→∃ g,a=some ⟨g,0,none⟩∧g<w.heap.size∧g∉A∧∀ i,i<n→∃ U,TrIn A w B f (d.v i) U∧∀ j,j<5→w.cell? ⟨g,i*5+j,none⟩=U[j]?)
theorem TrIn.chg {A A' L:List Nat} {w w':World} {B:Bs} (c:Chg L w w') (hL:∀ k,k∈L→k∈A∨w.heap.size≤k) (hA:∀ k,k∈A'→k∈A∨w.heap.size≤k):∀ (f x:Nat) (V:List Value),TrIn A w B f x V→TrIn A' w' B f x V
 | 0,_,_,h=>h
 | f+1,x,V,h=>by
  obtain ⟨d,vk,vv,a,n,cc,rfl,h1,h2,h3,h4,h5,h6,h7,h8⟩:=h
  have nm:∀ {v:Value} {m:Nat} {q:Nat→Nat},NumsIn A w v m q→NumsIn A' w' v m q:=fun h=>((h.more (B:=A'++A) (fun k hk=>by
   rcases List.mem_append.1 hk with hk | hk
   ·exact hA k hk
   ·exact .inl hk)).chg c (fun k hk=>by
   rcases hL k hk with q | q
   ·exact .inl (List.mem_append_right _ q)
   ·exact .inr q)).more (fun k hk => .inl (List.mem_append_left _ hk))
  refine ⟨d,vk,vv,a,n,cc,rfl,h1,h2,nm h3,nm h4,h5,h6,h7,fun hn=>?_⟩
  obtain ⟨g,rfl,hg,hgA,hk⟩:=h8 hn
  have hgL:g∉L:=fun hm=>by
   rcases hL g hm with q | q
   ·exact hgA q
   ·omega
  refine ⟨g,rfl,Nat.lt_of_lt_of_le hg c.size,fun hm=>?_,fun i hi=>?_⟩
  ·rcases hA g hm with q | q
   ·exact hgA q
   ·omega
  ·obtain ⟨U,hU,hc⟩:=hk i hi
   exact ⟨U,TrIn.chg c hL hA f _ _ hU,fun j hj=>(c.cell (p:=⟨g,i*5+j,none⟩) hg hgL).trans (hc j hj)⟩
theorem TrIn.five {A:List Nat} {w:World} {B:Bs} : ∀ {f x:Nat} {V:List Value},TrIn A w B f x V→V.length=5
 | 0,_,_,h=>h.elim
 | f+1,_,_,h=>by obtain ⟨_,_,_,_,_,_,rfl,_⟩:=h;rfl
theorem set5 {w:World} {r:Nat} {x0 x1 x2 x3 x4:Value} {T:TypeId} (h:w.heap[r]?=some (.cells #[x0,x1,x2,x3,x4] T (0,0))) (a b c d e:Value) :
  (((((w.setCell ⟨r,0,none⟩ a).setCell ⟨r,1,none⟩ b).setCell ⟨r,2,none⟩ c).setCell ⟨r,3,none⟩ d).setCell ⟨r,4,none⟩ e).heap[r]?=some (.cells #[a,b,c,d,e] T (0,0)):=by
 simpa using zsb (zsb (zsb (zsb (zsb h 0 a) 1 b) 2 c) 3 d) 4 e
theorem set5_chg (w:World) (r:Nat) (a b c d e:Value):Chg [r] w (((((w.setCell ⟨r,0,none⟩ a).setCell ⟨r,1,none⟩ b).setCell ⟨r,2,none⟩ c).setCell ⟨r,3,none⟩ d).setCell ⟨r,4,none⟩ e) :=
 (((((Chg.refl [r] w).setCell (.inl (by simp)) _).setCell (.inl (by simp)) _).setCell (.inl (by simp)) _).setCell (.inl (by simp)) _).setCell (.inl (by simp)) _
theorem infoTree:(Tryz.prog.info? 201).map (·.size)=some 5:=by kernel_rfl
theorem load5 {w:World} {r:Nat} {a b c d e:Value} (h:w.heap[r]?=some (.cells #[a,b,c,d,e] 201 (0,0))):(loadVar 201 ⟨r,0,none⟩).run Tryz.prog w = .ok (.agg #[a,b,c,d,e]) w:=by
 have hr:=run_loadVar_mid (P:=Tryz.prog) w r 0 201 [a,b,c,d,e] _ (fun j v hv=>by
  rw [Nat.zero_add,zcb h,← hv,← Array.getElem?_toList]) Tryz.underlying201 rfl infoTree
 exact hr
end Go.Proofs.YtkhcaclndepgbaaGreat
