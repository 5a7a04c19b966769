/- More on slices of integers that came in. · Slices of layer 14's items and operations that came in. -/
import Derived.Test.YtkhcaclndepgbaaGreatZi40
import Derived.OpenShut
import Derived.Test.YtkhcaclndepgbaaGreatZi39
import Derived.Deep.SlicePairs
import Derived.Test.YtkhcaclndepgbaaGreatProg
import Derived.ProofKit
import Derived.ChangeArms
import Derived.Lib.SmallJoins
set_option linter.unusedVariables false
set_option linter.unusedSimpArgs false
set_option maxRecDepth 100000
set_option maxHeartbeats 20000000
namespace Go.Proofs.YtkhcaclndepgbaaGreat
open Go.RowKit
theorem IsRow.get {k:IntKind} {w:World} {a:Option Addr} {len cap:Nat} {zs:List Int} (h:IsRow k w a len cap zs) {i:Nat} (hi:i<len) :
  ∃ b off,a=some ⟨b,off,none⟩∧b<w.heap.size∧w.cell? ⟨b,off+i,none⟩=some (.int k (zs.getD i 0))∧(Lit.int k (zs.getD i 0)).wf=true:=by
 rcases h with ⟨_,rfl,_⟩ | ⟨⟨b,off,sp⟩,rfl,h1,h2,h3,h4,h5⟩
 ·omega
 ·have hil:i<zs.length:=by omega
  have hspot:sp=none:=by simpa [Addr.add] using World.cell?_spot (h4 0 (by omega))
  subst hspot
  have hc:=h4 i hil
  have e:(⟨b,off,none⟩:Addr).add i=⟨b,off+i,none⟩:=by unfold Addr.add;split <;> simp_all
  rw [e] at hc
  refine ⟨b,off,rfl,World.block_lt_of_cell? w _ hc,hc,h5 _ ?_⟩
  rw [List.getD_eq_getElem?_getD,List.getElem?_eq_getElem hil]
  exact List.getElem_mem hil
open Go.RowKit Go.Deep
def natOf8:Value→Nat | .int _ n=>n.toNat | _=>0
theorem open_its8 {H:Type} {enc:TypeId × Value→H} {W:World} {a:Option Addr} {len cap:Nat} {d:DataW H} {p:List MemPlace}
  (h:DataW.Trod enc Tryz.prog W 0 (fun _=>true) true 113 (.slice a len cap) d p):∃ l:List (Nat × Nat),Its8 [] W (.slice a len cap) l:=by
 obtain ⟨fuel,hf⟩:=h
 rcases open_slice_pairs Tryz.underlying113 Tryz.underlying197 (by kernel_rfl) rfl rfl (by kernel_rfl) (by kernel_rfl) hf with ⟨hcs,_⟩ | ⟨x,l,c,m,n,V0,V1,D0,D1,P0,P1,hcs,_,hl,hm,hmeq,_,hall⟩
 ·simp [Value.cells] at hcs
  obtain ⟨rfl,rfl,rfl⟩:=hcs
  exact ⟨[],⟨_,_,rfl,Nat.le_refl _,Nat.zero_le _,fun q=>by simp at q⟩,fun p hp=>by cases hp⟩
 ·simp [Value.cells] at hcs
  obtain ⟨rfl,rfl,rfl⟩:=hcs
  simp only [if_true] at hmeq
  subst hmeq
  have each:∀ i,i<len→x.spot=none∧x.block<W.heap.size∧W.cell? ⟨x.block,x.off+i*2,none⟩=some (.int .u64 (natOf8 (V0 i):Int))∧W.cell? ⟨x.block,x.off+i*2+1,none⟩=some (.int .u8 (natOf8 (V1 i):Int))∧natOf8 (V0 i)<18446744073709551616∧natOf8 (V1 i)<256:=fun i hi=>by
   obtain ⟨h0,h1,t0,t1⟩:=hall i (by omega)
   obtain ⟨n0,hv0,_,w0⟩:=DataW.trod_int Tryz.underlying44 t0
   obtain ⟨n1,hv1,_,w1⟩:=DataW.trod_int Tryz.underlying5 t1
   simp only [List.cons.injEq,and_true] at hv0 hv1
   have b0:=bd_u64 w0
   have b1:=bd_u8 w1
   obtain ⟨b,off,sp⟩:=x
   have hs0:=(hall 0 (by omega)).1
   have hspot:sp=none:=by simpa [Addr.add] using World.cell?_spot hs0
   subst hspot
   have e (k:Nat):(⟨b,off,none⟩:Addr).add k=⟨b,off+k,none⟩:=by unfold Addr.add;split <;> simp_all
   rw [e] at h0 h1
   rw [hv0] at h0 ⊢
   rw [hv1] at h1 ⊢
   refine ⟨rfl,World.block_lt_of_cell? W ⟨b,off+i*2,none⟩ h0,?_,?_,?_,?_⟩
   ·show W.cell? ⟨b,off+i*2,none⟩=some (.int .u64 ((n0.toNat:Nat):Int))
    rw [h0,Int.toNat_of_nonneg b0.1]
   ·show W.cell? ⟨b,off+i*2+1,none⟩=some (.int .u8 ((n1.toNat:Nat):Int))
    rw [show off+i*2+1=off+(i*2+1) by omega,h1,Int.toNat_of_nonneg b1.1]
   ·show n0.toNat<_;omega
   ·show n1.toNat<_;omega
  obtain ⟨L,hL⟩:∃ L,L=(List.range len).map fun i=>(natOf8 (V0 i),natOf8 (V1 i)):=⟨_,rfl⟩
  have hlen:L.length=len:=by rw [hL];simp
  have hget:∀ i,i<len→L.getD i (0,0)=(natOf8 (V0 i),natOf8 (V1 i)):=fun i hi=>by
   rw [hL,List.getD_eq_getElem?_getD,List.getElem?_map,List.getElem?_range hi];rfl
  refine ⟨L,⟨some x,_,by rw [hlen],by rw [hlen];exact hl,hm,fun h0=>?_⟩,fun q hq=>?_⟩
  ·obtain ⟨hs,hb,-⟩:=each 0 (by omega)
   obtain ⟨b,off,sp⟩:=x
   have hs:sp=none:=hs
   subst hs
   refine ⟨b,off,rfl,hb,by simp,fun i hi=>?_⟩
   rw [hlen] at hi
   obtain ⟨-,-,k0,k1,-⟩:=each i hi
   rw [hget i hi]
   exact ⟨k0,k1⟩
  ·rw [hL] at hq
   obtain ⟨i,hi,rfl⟩:=List.mem_map.1 hq
   exact (each i (List.mem_range.1 hi)).2.2.2.2
open Go.WideShapes Go.ChangeShapes
structure Op3 where
 code:Nat
 root:Nat
 kid:Nat
structure Op3OK (o:Op3):Prop where
 code:o.code≤255
 root:o.root≤255
 kid:o.kid≤255
def Op3C (c:Nat→Option Value) (o:Op3):Prop :=
 c 0=some (.int .u8 (o.code:Int))∧c 1=some (.int .u8 (o.root:Int))∧c 2=some (.int .u8 (o.kid:Int))∧Op3OK o
def IsOps3 (w:World) (a:Option Addr) (len cap:Nat) (z:Nat→Op3):Prop :=
 len≤cap∧cap≤maxLen∧(a=none→len=0∧cap=0) ∧
 ∀ i,i<len→∃ b off,a=some ⟨b,off,none⟩∧b<w.heap.size∧Op3C (fun j=>w.cell? ⟨b,off+i*3+j,none⟩) (z i)
theorem Op3C.chg {L:List Nat} {w w':World} {b off i:Nat} {o:Op3} (h:Op3C (fun j=>w.cell? ⟨b,off+i*3+j,none⟩) o) (c:Chg L w w') (hb:b<w.heap.size) (hL:b∉L) :
  Op3C (fun j=>w'.cell? ⟨b,off+i*3+j,none⟩) o:=by
 obtain ⟨e0,e1,e2,hO⟩:=h
 have hc:∀ j v,w.cell? ⟨b,off+i*3+j,none⟩=some v→w'.cell? ⟨b,off+i*3+j,none⟩=some v:=fun j v h=>(c.cell (p:=⟨b,off+i*3+j,none⟩) hb hL).trans h
 exact ⟨hc _ _ e0,hc _ _ e1,hc _ _ e2,hO⟩
theorem IsOps3.get {w w':World} {a:Option Addr} {len cap:Nat} {z:Nat→Op3} (h:IsOps3 w a len cap z) (c:Chg [] w w') {i:Nat} (hi:i<len) :
  ∃ b off,a=some ⟨b,off,none⟩∧Op3C (fun j=>w'.cell? ⟨b,off+i*3+j,none⟩) (z i):=by
 obtain ⟨b,off,e,hb,hc⟩:=h.2.2.2 i hi
 exact ⟨b,off,e,hc.chg c hb (by simp)⟩
end Go.Proofs.YtkhcaclndepgbaaGreat
