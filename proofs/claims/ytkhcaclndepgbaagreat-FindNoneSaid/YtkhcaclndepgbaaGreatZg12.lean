/- The tally as a plain structure (counts, kept counts), the map of kept counts as the model holds it, and how a tally lies in memory. · The walks of package tally: what each method does to a tally in memory. · tally.set, Up, Down, Free, Keep. -/
import Derived.Test.YtkhcaclndepgbaaGreatProg
import Derived.Test.YtkhcaclndepgbaaGreatZg01
import Derived.Deep.QuietTactic
import Derived.BigQuiet
import Derived.RegionTactic
import Derived.StillTailTactics
set_option linter.unusedVariables false
set_option linter.unusedSimpArgs false
set_option maxRecDepth 100000
set_option maxHeartbeats 20000000
namespace Go.Proofs.YtkhcaclndepgbaaGreat
open Go.RowKit
open Go.Maps (Keyed)
def cnt:Nat→(Nat→Bool)→Nat
 | 0,_=>0
 | n+1,p=>cnt n p+(if p n then 1 else 0)
theorem cnt_le (p:Nat→Bool):∀ n,cnt n p≤n
 | 0=>Nat.le_refl _
 | n+1=>by have:=cnt_le p n;unfold cnt;split <;> omega
theorem cnt_congr {p q:Nat→Bool} : ∀ {n:Nat},(∀ i,i<n→p i=q i)→cnt n p=cnt n q
 | 0,_=>rfl
 | n+1,h=>by unfold cnt;rw [cnt_congr (fun i hi=>h i (by omega)),h n (by omega)]
theorem cnt_upd {p q:Nat→Bool} {k:Nat} : ∀ {n:Nat},k<n→(∀ i,i<n→i≠k→p i=q i) →
  cnt n q+(if p k then 1 else 0)=cnt n p+(if q k then 1 else 0)
 | 0,h,_=>by omega
 | n+1,h,hpq=>by
  unfold cnt
  by_cases hk:k=n
  ·subst hk
   rw [cnt_congr (p:=p) (q:=q) (fun i hi=>hpq i (by omega) (by omega))]
   omega
  ·have:=cnt_upd (p:=p) (q:=q) (n:=n) (k:=k) (by omega) (fun i hi=>hpq i (by omega))
   rw [hpq n (by omega) (fun e=>hk e.symm)]
   omega
theorem cnt_false (n:Nat):cnt n (fun _=>false)=0:=by
 induction n with
 | zero=>rfl
 | succ n ih=>unfold cnt;simp [ih]
theorem cnt_true (n:Nat):cnt n (fun _=>true)=n:=by
 induction n with
 | zero=>rfl
 | succ n ih=>unfold cnt;simp [ih]
theorem cnt_zero {p:Nat→Bool} : ∀ {n:Nat},(∀ i,i<n→p i=false)→cnt n p=0:=fun {n} h=>by
 rw [cnt_congr (q:=fun _=>false) h,cnt_false]
theorem cnt_all {p:Nat→Bool} : ∀ {n:Nat},(∀ i,i<n→p i=true)→cnt n p=n:=fun {n} h=>by
 rw [cnt_congr (q:=fun _=>true) h,cnt_true]
theorem cnt_split {p q r:Nat→Bool} : ∀ {n:Nat},(∀ i,i<n→(if p i then 1 else 0)=(if q i then 1 else 0)+(if r i then 1 else 0))→cnt n p=cnt n q+cnt n r
 | 0,_=>rfl
 | n+1,h=>by
  have h1:=cnt_split (p:=p) (q:=q) (r:=r) (n:=n) (fun i hi=>h i (by omega))
  have h2:=h n (by omega)
  unfold cnt
  omega
structure Tal where
 n:Nat
 now:Nat→Nat
 kept:Nat→Nat
def Tal.free (T:Tal) (b:Nat):Bool:=T.now b==0&&T.kept b==0
def Tal.waitB (T:Tal) (b:Nat):Bool:=T.now b==0&&T.kept b != 0
def Tal.frees (T:Tal):Nat:=cnt T.n T.free
def Tal.waits (T:Tal):Nat:=cnt T.n T.waitB
def Tal.set (T:Tal) (b v:Nat):Tal := { T with now:=fun i=>if i=b then v else T.now i }
def Tal.keep (T:Tal):Tal := { T with kept:=T.now }
def Tal.back (T:Tal):Tal := { T with now:=T.kept }
def Tal.changed (T:Tal) (b:Nat):Bool:=T.now b != T.kept b
def Tal.new (n:Nat):Tal:=⟨n,fun _=>0,fun _=>0⟩
theorem frees_set (T:Tal) {b:Nat} (v:Nat) (h:b<T.n) :
  (T.set b v).frees+(if T.free b then 1 else 0)=T.frees+(if (T.set b v).free b then 1 else 0) :=
 cnt_upd (n:=T.n) h (fun i _ hne=>by simp [Tal.free,Tal.set,hne])
theorem waits_set (T:Tal) {b:Nat} (v:Nat) (h:b<T.n) :
  (T.set b v).waits+(if T.waitB b then 1 else 0)=T.waits+(if (T.set b v).waitB b then 1 else 0) :=
 cnt_upd (n:=T.n) h (fun i _ hne=>by simp [Tal.waitB,Tal.set,hne])
theorem u16_wf {v:Nat} (h:v≤65535):(Lit.int .u16 (v:Int)).wf=true:=by
 simp [Lit.wf,IntKind.min,IntKind.max,IntKind.signed,IntKind.bits];omega
def KMap (P:Program) (kt et:TypeId) (w:World) (b n:Nat) (f:Nat→Option Nat):Prop :=
 ∃ D:DataW Unit,w.ownsMap P kt (plainElem P et) b (Maps.size D) D∧Maps.size D=cnt n (fun k=>(f k).isSome) ∧
  (∀ l,Maps.has D l=true→∃ k,k<n∧l = .int .i64 (k:Int)∧(f k).isSome=true) ∧
  (∀ k v,k<n→f k=some v→Maps.has D (.int .i64 (k:Int))=true∧∀ z,D.atKey (.int .i64 (k:Int)) z = .lit (.int .u16 (v:Int)))
section
variable {P:Program} {kt et t:TypeId} {w:World} {b n:Nat} {f:Nat→Option Nat}
theorem ownsMap_tight {R:Value→Option (DataW Unit × List MemPlace)} {m:Nat} {D:DataW Unit} (h:w.ownsMap P kt R b m D):w.ownsMap P kt R b (Maps.size D) D:=by
 obtain ⟨es,clock,hb,F,hs,rfl⟩:=h
 exact ⟨es,clock,hb,F,by simp [Maps.size,length_sorted],rfl⟩
theorem KMap.lt (h:KMap P kt et w b n f):b<w.heap.size:=by
 obtain ⟨D,h1,_⟩:=h
 exact h1.lt
theorem KMap.obj (h:KMap P kt et w b n f):∃ es c,w.heap[b]?=some (.map es c):=by
 obtain ⟨D,⟨es,c,hb,_⟩,_⟩:=h
 exact ⟨es,c,hb⟩
theorem KMap.same {w':World} (h:KMap P kt et w b n f) (e:w'.heap[b]?=w.heap[b]?):KMap P kt et w' b n f:=by
 obtain ⟨D,⟨es,c,hb,hr⟩,hh⟩:=h
 exact ⟨D,⟨es,c,e.trans hb,hr⟩,hh⟩
theorem KMap.congr {g:Nat→Option Nat} (h:KMap P kt et w b n f) (e:∀ i,i<n→f i=g i):KMap P kt et w b n g:=by
 obtain ⟨D,h1,h2,h3,h4⟩:=h
 refine ⟨D,h1,h2.trans (cnt_congr fun i hi=>by rw [e i hi]),fun l hl=>?_,fun k v hk hv=>h4 k v hk (by rw [e k hk];exact hv)⟩
 obtain ⟨k,hk,hl',hs⟩:=h3 l hl
 exact ⟨k,hk,hl',by rw [← e k hk];exact hs⟩
theorem KMap.has (_h:KMap P kt et w b n f) {D:DataW Unit} (h3:∀ l,Maps.has D l=true→∃ k,k<n∧l = .int .i64 (k:Int)∧(f k).isSome=true)
  (h4:∀ k v,k<n→f k=some v→Maps.has D (.int .i64 (k:Int))=true∧∀ z,D.atKey (.int .i64 (k:Int)) z = .lit (.int .u16 (v:Int))) {k:Nat} (hk:k<n) :
  Maps.has D (.int .i64 (k:Int))=(f k).isSome:=by
 cases hf:f k with
 | some v=>exact (h4 k v hk hf).1
 | none =>
  cases hh:Maps.has D (.int .i64 (k:Int)) with
  | false=>rfl
  | true =>
   obtain ⟨k',hk',e,hs⟩:=h3 _ hh
   injection e with _ e
   have:k=k':=by omega
   subst this
   rw [hf] at hs
   cases hs
theorem KMap.look (h:KMap P kt et w b n f) (hkt:P.underlying kt=some (.int .i64)) (het:P.underlying et=some (.int .u16)) (ht:P.underlying t=some (.map kt et))
  (hz:(zeroValue et).run P w = .ok (.int .u16 0) w) {k:Nat} (hk:k<n) (hn:n≤4096) :
  (Instr.lookup t (.map (some b)) (.int .i64 (k:Int)) true).run P w = .ok (.tuple #[.int .u16 (((f k).getD 0:Nat):Int),.bool (f k).isSome]) w ∧
  (Instr.lookup t (.map (some b)) (.int .i64 (k:Int)) false).run P w = .ok (.int .u16 (((f k).getD 0:Nat):Int)) w:=by
 have hh:=h
 obtain ⟨D,h1,h2,h3,h4⟩:=h
 have hkey:keyOf P kt (.int .i64 (k:Int))=some (.int .i64 (k:Int)):=Maps.keyOf_int_mk hkt (WalkArith.wf_i64 (by omega))
 have K:=Maps.int_keyed hkt
 obtain ⟨v,ps,hrun,hv⟩:=h1.look_ok K ht hz (plainElem_int het (by decide)) hkey
 obtain ⟨c,hrun',hat,_⟩:=h1.lookup_int K ht het hz hkey
 obtain ⟨a,rfl,ha,hw⟩:=plainElem_int_inv het hv
 simp only [Prod.mk.injEq] at ha
 have hc:c=a:=by
  have:=hat.symm.trans ha.1
  injection this with this
  injection this
 subst hc
 rw [hh.has h3 h4 hk] at hrun
 have e:c=(((f k).getD 0:Nat):Int):=by
  cases hf:f k with
  | some v =>
   have:=((h4 k v hk hf).2 _).symm.trans hat
   injection this with this
   injection this with _ this
   simpa using this.symm
  | none =>
   have hn:Maps.has D (.int .i64 (k:Int))=false:=by rw [hh.has h3 h4 hk,hf];rfl
   have:=(Maps.atKey_of_not_has hn (.lit (.int .u16 0))).symm.trans hat
   injection this with this
   injection this with _ this
   simpa using this.symm
 subst e
 exact ⟨hrun,hrun'⟩
theorem KMap.del (h:KMap P kt et w b n f) (hkt:P.underlying kt=some (.int .i64)) (ht:P.underlying t=some (.map kt et)) {k:Nat} (hk:k<n) (hn:n≤4096) (ty:TypeId) :
  ∃ w',(Builtin.delete_ #[t,kt] ty #[.map (some b),.int .i64 (k:Int)]).run P w = .ok (.tuple #[]) w'∧KMap P kt et w' b n (fun i=>if i=k then none else f i)∧w.mapTurned w' b:=by
 have hh:=h
 obtain ⟨D,h1,h2,h3,h4⟩:=h
 have hkey:keyOf P kt (.int .i64 (k:Int))=some (.int .i64 (k:Int)):=Maps.keyOf_int_mk hkt (WalkArith.wf_i64 (by omega))
 have K:=Maps.int_keyed hkt
 obtain ⟨w',hrun,hown,hturn⟩:=h1.drop K ht hkey ty
 refine ⟨w',hrun,⟨D.del (.int .i64 (k:Int)),ownsMap_tight hown,?_,?_,?_⟩,hturn⟩
 ·have e1:=Maps.size_del (k := .int .i64 (k:Int)) (h1.tidy K)
  have e2:=cnt_upd (p:=fun i=>(f i).isSome) (q:=fun i=>(if i=k then none else f i).isSome) hk (fun i _ hne=>by simp [hne])
  simp only [if_true,Option.isSome_none,Bool.false_eq_true,if_false,hh.has h3 h4 hk] at e1 e2
  show _=cnt n (fun i=>(if i=k then none else f i).isSome)
  omega
 ·intro l hl
  by_cases e:l = .int .i64 (k:Int)
  ·subst e;rw [Maps.has_del_same] at hl;cases hl
  ·rw [Maps.has_del_other e] at hl
   obtain ⟨k',hk',rfl,hs⟩:=h3 l hl
   have hne:k'≠k:=fun q=>e (by rw [q])
   exact ⟨k',hk',rfl,by simp [hne,hs]⟩
 ·intro i v hi hv
  by_cases e:i=k
  ·simp [e] at hv
  ·simp only [e,if_false] at hv
   have hne:Lit.int .i64 (i:Int) ≠ .int .i64 (k:Int):=fun q=>by injection q with _ q;omega
   obtain ⟨g1,g2⟩:=h4 i v hi hv
   exact ⟨by rw [Maps.has_del_other hne];exact g1,fun z=>by rw [Maps.atKey_del_other hne];exact g2 z⟩
theorem KMap.put (h:KMap P kt et w b n f) (hkt:P.underlying kt=some (.int .i64)) (het:P.underlying et=some (.int .u16)) (ht:P.underlying t=some (.map kt et)) {k v:Nat} (hk:k<n) (hn:n≤4096) (hv:v≤65535) :
  ∃ w',(Instr.mapUpdate t (.map (some b)) (.int .i64 (k:Int)) (.int .u16 (v:Int))).run P w = .ok () w'∧KMap P kt et w' b n (fun i=>if i=k then some v else f i)∧w.mapTurned w' b:=by
 have hh:=h
 obtain ⟨D,h1,h2,h3,h4⟩:=h
 have hkey:keyOf P kt (.int .i64 (k:Int))=some (.int .i64 (k:Int)):=Maps.keyOf_int_mk hkt (WalkArith.wf_i64 (by omega))
 have K:=Maps.int_keyed hkt
 have hle:=cnt_le (fun k=>(f k).isSome) n
 have hik:WideAt.IsKeyLit (.int .i64 (k:Int)):=K.key hkey
 obtain ⟨w',hrun,hown,hturn⟩:=h1.store K ht (by unfold maxLen;omega) hkey (plainElem_int het (u16_wf hv))
 refine ⟨w',hrun,⟨_,ownsMap_tight hown,?_,?_,?_⟩,hturn⟩
 ·have e1:=Maps.size_put (k := .int .i64 (k:Int)) (h1.tidy K) (.lit (.int .u16 (v:Int)))
  have e2:=cnt_upd (p:=fun i=>(f i).isSome) (q:=fun i=>(if i=k then some v else f i).isSome) hk (fun i _ hne=>by simp [hne])
  rw [hh.has h3 h4 hk] at e1
  simp only [if_true,Option.isSome_some] at e2
  rw [e1]
  split at e2 <;> split <;> simp_all <;> omega
 ·intro l hl
  by_cases e:l = .int .i64 (k:Int)
  ·exact ⟨k,hk,e,by simp⟩
  ·rw [Maps.has_put_other e] at hl
   obtain ⟨k',hk',rfl,hs⟩:=h3 l hl
   have hne:k'≠k:=fun q=>e (by rw [q])
   exact ⟨k',hk',rfl,by simp [hne,hs]⟩
 ·intro i v' hi hv'
  by_cases e:i=k
  ·subst e
   simp only [if_true,Option.some.injEq] at hv'
   subst hv'
   exact ⟨Maps.has_put_same h1.isMap hik _,fun z=>Maps.atKey_put_same h1.isMap hik _ z⟩
  ·simp only [e,if_false] at hv'
   have hne:Lit.int .i64 (i:Int) ≠ .int .i64 (k:Int):=fun q=>by injection q with _ q;omega
   obtain ⟨g1,g2⟩:=h4 i v' hi hv'
   exact ⟨by rw [Maps.has_put_other hne];exact g1,fun z=>by rw [Maps.atKey_put_other hne];exact g2 z⟩
theorem KMap.ofEmpty (h:w.ownsMap P kt (plainElem P et) b 0 (.map []:DataW Unit)) (n:Nat):KMap P kt et w b n (fun _=>none):=by
 refine ⟨.map [],h,(cnt_zero fun _ _=>rfl).symm,?_,?_⟩
 ·intro l hl;cases hl
 ·intro k v _ hv;cases hv
theorem KMap.made (w:World) (n:Nat):KMap P kt et (w.alloc (.map #[] 0)) w.heap.size n (fun _=>none) :=
 KMap.ofEmpty (World.ownsMap_made _ _ _ _) n
theorem KMap.clear (h:KMap P kt et w b n f) (ht:P.underlying t=some (.map kt et)) (ty:TypeId) :
  ∃ w',(Builtin.clear_ #[t] ty #[.map (some b)]).run P w = .ok (.tuple #[]) w'∧KMap P kt et w' b n (fun _=>none)∧w.mapTurned w' b:=by
 obtain ⟨D,⟨es,c,hb,F,hs,hD⟩,_⟩:=h
 refine ⟨_,?_,KMap.ofEmpty ⟨#[],c,ChangeMaps.heap_setBlock_same hb (.map #[] c),⟨by simp,MapKept.stamped_empty c,by simp⟩,Nat.zero_le _,rfl⟩ n,⟨es,c,#[],c,hb,rfl⟩⟩
 simp [Builtin.clear_,run_underlying ht,MapKept.run_getObj_map hb,MapKept.run_setObj_map _ hb,Result.andThen]
 rfl
end
def Tal.keptAt (T:Tal) (b:Nat):Option Nat:=if T.now b=T.kept b then none else some (T.kept b)
def u16s (n:Nat) (f:Nat→Nat):Array Value:=Array.ofFn (n:=n) fun i => .int .u16 ((f i:Nat):Int)
theorem u16s_get {n:Nat} {f:Nat→Nat} {i:Nat} (h:i<n):(u16s n f)[i]?=some (.int .u16 ((f i:Nat):Int)):=by
 simp [u16s,h]
theorem u16s_set {n:Nat} {f:Nat→Nat} {i v:Nat} (h:i<n):(u16s n f).setIfInBounds i (.int .u16 (v:Int))=u16s n (fun j=>if j=i then v else f j):=by
 apply Array.ext_getElem?
 intro j
 by_cases hj:j<n
 ·rw [u16s_get hj,Array.getElem?_setIfInBounds]
  by_cases e:j=i
  ·subst e;simp [u16s,h]
  ·rw [if_neg (fun q=>e q.symm),u16s_get hj];simp [e]
 ·simp [u16s,hj]
structure TallyAt (w:World) (t bc bk:Nat) (T:Tal):Prop where
 n1:1≤T.n
 n2:T.n≤4096
 now:∀ i,i<T.n→T.now i≤65535
 kept:∀ i,i<T.n→T.kept i≤65535
 top:w.heap[t]?=some (.cells #[.slice (some ⟨bc,0,none⟩) T.n T.n,.map (some bk),.int .i64 (T.frees:Int),.int .i64 (T.waits:Int)] 215 (0,0))
 cs:w.heap[bc]?=some (.cells (u16s T.n T.now) 33 (0,0))
 map:KMap Tryz.prog 3 33 w bk T.n T.keptAt
 ne:t≠bc
namespace TallyAt
variable {w:World} {t bc bk:Nat} {T:Tal}
theorem ne1 (h:TallyAt w t bc bk T):t≠bk:=fun e=>by
 obtain ⟨es,c,hb⟩:=h.map.obj
 rw [← e,h.top] at hb;cases hb
theorem ne2 (h:TallyAt w t bc bk T):bc≠bk:=fun e=>by
 obtain ⟨es,c,hb⟩:=h.map.obj
 rw [← e,h.cs] at hb;cases hb
theorem c0 (h:TallyAt w t bc bk T):w.cell? ⟨t,0,none⟩=some (.slice (some ⟨bc,0,none⟩) T.n T.n):=zcb h.top 0
theorem c1 (h:TallyAt w t bc bk T):w.cell? ⟨t,1,none⟩=some (.map (some bk)):=zcb h.top 1
theorem c2 (h:TallyAt w t bc bk T):w.cell? ⟨t,2,none⟩=some (.int .i64 (T.frees:Int)):=zcb h.top 2
theorem c3 (h:TallyAt w t bc bk T):w.cell? ⟨t,3,none⟩=some (.int .i64 (T.waits:Int)):=zcb h.top 3
theorem fz (h:TallyAt w t bc bk T) (i:Nat):w.frozen? ⟨t,i,none⟩=false:=zfb h.top i
theorem cc (h:TallyAt w t bc bk T) {i:Nat} (hi:i<T.n):w.cell? ⟨bc,i,none⟩=some (.int .u16 ((T.now i:Nat):Int)):=by
 rw [zcb h.cs,u16s_get hi]
theorem cfz (h:TallyAt w t bc bk T) (i:Nat):w.frozen? ⟨bc,i,none⟩=false:=zfb h.cs i
theorem lt0 (h:TallyAt w t bc bk T):t<w.heap.size:=zhl h.top
theorem lt1 (h:TallyAt w t bc bk T):bc<w.heap.size:=zhl h.cs
theorem lt2 (h:TallyAt w t bc bk T):bk<w.heap.size:=h.map.lt
theorem chg {w':World} {L:List Nat} (h:TallyAt w t bc bk T) (c:Chg L w w') (h0:t∉L) (h1:bc∉L) (h2:bk∉L):TallyAt w' t bc bk T :=
 ⟨h.n1,h.n2,h.now,h.kept,(c.block _ h.lt0 h0).trans h.top,(c.block _ h.lt1 h1).trans h.cs,h.map.same (c.block _ h.lt2 h2),h.ne⟩
theorem frees_le (h:TallyAt w t bc bk T):T.frees≤4096:=Nat.le_trans (cnt_le _ _) h.n2
theorem waits_le (h:TallyAt w t bc bk T):T.waits≤4096:=Nat.le_trans (cnt_le _ _) h.n2
end TallyAt
end Go.Proofs.YtkhcaclndepgbaaGreat
namespace Go.Proofs.YtkhcaclndepgbaaGreat
open Go.RowKit
theorem zeroU16 (w:World):(zeroValue 33).run Tryz.prog w = .ok (.int .u16 0) w:=by kernel_rfl
theorem blocks_at {w:World} {t bc bk:Nat} {T:Tal} (h:TallyAt w t bc bk T) :
  Calls Tryz.prog 90 #[.pointer (some ⟨t,0,none⟩)] w fun e w'=>e = .returned (.int .i64 T.n)∧w=w':=by
 have c0:=h.c0
 go_enter Tryz.func90,Tryz.ntmps90
 go_wp2
 go_ret
 exact ⟨rfl,rfl⟩
theorem frees_at {w:World} {t bc bk:Nat} {T:Tal} (h:TallyAt w t bc bk T) :
  Calls Tryz.prog 129 #[.pointer (some ⟨t,0,none⟩)] w fun e w'=>e = .returned (.int .i64 T.frees)∧w=w':=by
 have c0:=h.c2
 go_enter Tryz.func129,Tryz.ntmps129
 go_wp2
 go_ret
 exact ⟨rfl,rfl⟩
def hasB (T:Tal) (b:Int):Bool:=decide (0≤b)&&decide (b<(T.n:Int))
theorem has_at {w:World} {t bc bk:Nat} {T:Tal} (h:TallyAt w t bc bk T) (b:Int) :
  Calls Tryz.prog 147 #[.pointer (some ⟨t,0,none⟩),.int .i64 b] w fun e w'=>e = .returned (.bool (hasB T b))∧w=w':=by
 by_cases h0:0≤b
 ·go_enter Tryz.func147,Tryz.ntmps147
  go_wp2_with (go_at_call 90;refine (blocks_at h).mono ?_;rintro e w' ⟨rfl,rfl⟩)
  go_ret
  exact ⟨by simp [hasB,h0],rfl⟩
 ·go_enter Tryz.func147,Tryz.ntmps147
  go_wp2_with fail
  go_ret
  exact ⟨by simp [hasB];omega,rfl⟩
theorem was_at {w:World} {t bc bk:Nat} {T:Tal} (h:TallyAt w t bc bk T) (b:Nat) (hb:b<T.n) :
  Calls Tryz.prog 166 #[.pointer (some ⟨t,0,none⟩),.int .i64 (b:Int)] w fun e w'=>e = .returned (.int .u16 (T.kept b:Nat))∧w=w':=by
 have c0:=h.c0
 have c1:=h.c1
 have cc:=h.cc hb
 have n2:=h.n2
 have hl:=(h.map.look (t:=213) Tryz.underlying3 Tryz.underlying33 Tryz.underlying213 (zeroU16 w) hb n2).1
 by_cases hk:T.now b=T.kept b
 ·have e1:T.keptAt b=none:=by simp [Tal.keptAt,hk]
  rw [e1] at hl
  simp only [Option.getD_none,Option.isSome_none] at hl
  go_enter Tryz.func166,Tryz.ntmps166
  go_wp2_with fail
  go_ret
  exact ⟨rfl,rfl⟩
 ·have e1:T.keptAt b=some (T.kept b):=by simp [Tal.keptAt,hk]
  rw [e1] at hl
  simp only [Option.getD_some,Option.isSome_some] at hl
  go_enter Tryz.func166,Tryz.ntmps166
  go_wp2_with fail
  go_ret
  exact ⟨rfl,rfl⟩
theorem by_skip {w:World} {bw bx:Nat} (count:Nat) (one:Int) (h0:0<count) :
  Calls Tryz.prog 183 #[.int .u16 (count:Int),.int .i64 one,.pointer (some ⟨bw,0,none⟩),.pointer (some ⟨bx,0,none⟩)] w fun e w'=>e = .returned (.tuple #[])∧w=w':=by
 go_enter Tryz.func183,Tryz.ntmps183
 go_wp2_with fail
 go_end0
 exact ⟨rfl,rfl⟩
theorem by_wait {w:World} {bw bx t:Nat} {k:Nat} {f:Int} (one:Int) (hw:w.cell? ⟨bw,0,none⟩=some (.int .u16 (k:Int))) (hk:0<k) (hx:w.cell? ⟨bx,0,none⟩=some (.pointer (some ⟨t,0,none⟩)))
  (c3:w.cell? ⟨t,3,none⟩=some (.int .i64 f)) (fz:w.frozen? ⟨t,3,none⟩=false) (h1 : -1≤one) (h2:one≤1) (h3 : -5000≤f) (h4:f≤5000) :
  Calls Tryz.prog 183 #[.int .u16 0,.int .i64 one,.pointer (some ⟨bw,0,none⟩),.pointer (some ⟨bx,0,none⟩)] w fun e w'=>e = .returned (.tuple #[])∧w.setCell ⟨t,3,none⟩ (.int .i64 (f+one))=w':=by
 go_enter Tryz.func183,Tryz.ntmps183
 go_wp2_with fail
 go_end0
 exact ⟨rfl,rfl⟩
theorem by_free {w:World} {bw bx t:Nat} {f:Int} (one:Int) (hw:w.cell? ⟨bw,0,none⟩=some (.int .u16 0)) (hx:w.cell? ⟨bx,0,none⟩=some (.pointer (some ⟨t,0,none⟩)))
  (c3:w.cell? ⟨t,2,none⟩=some (.int .i64 f)) (fz:w.frozen? ⟨t,2,none⟩=false) (h1 : -1≤one) (h2:one≤1) (h3 : -5000≤f) (h4:f≤5000) :
  Calls Tryz.prog 183 #[.int .u16 0,.int .i64 one,.pointer (some ⟨bw,0,none⟩),.pointer (some ⟨bx,0,none⟩)] w fun e w'=>e = .returned (.tuple #[])∧w.setCell ⟨t,2,none⟩ (.int .i64 (f+one))=w':=by
 go_enter Tryz.func183,Tryz.ntmps183
 go_wp2_with fail
 go_end0
 exact ⟨rfl,rfl⟩
theorem by_any {w:World} {bw bx t k count:Nat} {f g one:Int} {s m:Value} (hw:w.cell? ⟨bw,0,none⟩=some (.int .u16 (k:Int))) (hx:w.cell? ⟨bx,0,none⟩=some (.pointer (some ⟨t,0,none⟩)))
  (ht:w.heap[t]?=some (.cells #[s,m,.int .i64 f,.int .i64 g] 215 (0,0))) (h1 : -1≤one) (h2:one≤1) (h3 : -5000≤f) (h4:f≤5000) (h5 : -5000≤g) (h6:g≤5000) :
  Calls Tryz.prog 183 #[.int .u16 (count:Int),.int .i64 one,.pointer (some ⟨bw,0,none⟩),.pointer (some ⟨bx,0,none⟩)] w fun e w'=>e = .returned (.tuple #[]) ∧
   w'.heap[t]?=some (.cells #[s,m,.int .i64 (f+if count=0∧k=0 then one else 0),.int .i64 (g+if count=0∧k≠0 then one else 0)] 215 (0,0))∧Chg [t] w w':=by
 by_cases hc:count=0
 ·subst hc
  by_cases hk:k=0
  ·subst hk
   have c2:=zcb ht 2
   have fz:=zfb ht 2
   refine (by_free (f:=f) one hw hx c2 fz h1 h2 h3 h4).mono ?_
   rintro e w' ⟨rfl,rfl⟩
   refine ⟨rfl,?_,(Chg.refl _ _).setCell (.inl (by simp)) _⟩
   rw [zsb ht];simp
  ·have c3:=zcb ht 3
   have fz:=zfb ht 3
   refine (by_wait (f:=g) one hw (by omega) hx c3 fz h1 h2 h5 h6).mono ?_
   rintro e w' ⟨rfl,rfl⟩
   refine ⟨rfl,?_,(Chg.refl _ _).setCell (.inl (by simp)) _⟩
   rw [zsb ht];simp [hk]
 ·refine (by_skip count one (by omega)).mono ?_
  rintro e w' ⟨rfl,rfl⟩
  refine ⟨rfl,?_,Chg.refl _ _⟩
  rw [ht];simp [hc]
theorem set_close {w w1 w4:World} {t bc bk:Nat} {T:Tal} (h:TallyAt w t bc bk T) {b v:Nat} (hb:b<T.n) (hv:v≤65535) {L:List Nat}
  (hc1:Chg L w w1) (hL:∀ i,i∈L→i=t)
  (ht2:w1.heap[t]?=some (.cells #[.slice (some ⟨bc,0,none⟩) T.n T.n,.map (some bk),.int .i64 ((T.frees:Int)+(if T.now b=0∧T.kept b=0 then -1 else 0)+(if v=0∧T.kept b=0 then 1 else 0)),.int .i64 ((T.waits:Int)+(if T.now b=0∧T.kept b≠0 then -1 else 0)+(if v=0∧T.kept b≠0 then 1 else 0))] 215 (0,0)))
  (hm:KMap Tryz.prog 3 33 w4 bk T.n (T.set b v).keptAt) (hg:(w1.setCell ⟨bc,b,none⟩ (.int .u16 (v:Int))).grownBy w4 (some bk)) :
  TallyAt w4 t bc bk (T.set b v)∧Chg [t,bc,bk] w w4:=by
 have lt0:=h.lt0
 have lt1:=h.lt1
 have lt2:=h.lt2
 have n1:=h.ne
 have n2:=h.ne1
 have n3:=h.ne2
 have hcs:w1.heap[bc]?=some (.cells (u16s T.n T.now) 33 (0,0)):=(hc1.block _ lt1 (fun hi=>n1 (hL _ hi).symm)).trans h.cs
 have e1:(T.frees:Int)+(if T.now b=0∧T.kept b=0 then -1 else 0)+(if v=0∧T.kept b=0 then 1 else 0)=((T.set b v).frees:Int):=by
  have:=frees_set T v hb
  by_cases q1:T.now b=0 <;> by_cases q2:v=0 <;> by_cases q3:T.kept b=0 <;> simp [Tal.free,Tal.set,q1,q2,q3] at this ⊢ <;> omega
 have e2:(T.waits:Int)+(if T.now b=0∧T.kept b≠0 then -1 else 0)+(if v=0∧T.kept b≠0 then 1 else 0)=((T.set b v).waits:Int):=by
  have:=waits_set T v hb
  by_cases q1:T.now b=0 <;> by_cases q2:v=0 <;> by_cases q3:T.kept b=0 <;> simp [Tal.waitB,Tal.set,q1,q2,q3] at this ⊢ <;> omega
 rw [e1,e2] at ht2
 have s0:t<w1.heap.size:=zhl ht2
 have s1:bc<w1.heap.size:=zhl hcs
 have b0:w4.heap[t]?=w1.heap[t]?:=by
  rw [hg.block t (by simpa [World.setCell] using s0) (by simp [n2]),zso _ _ n1]
 have b1:w4.heap[bc]?=some (.cells ((u16s T.n T.now).setIfInBounds b (.int .u16 (v:Int))) 33 (0,0)):=by
  rw [hg.block bc (by simpa [World.setCell] using s1) (by simp [n3]),zsb hcs]
 refine ⟨⟨h.n1,h.n2,?_,h.kept,b0.trans ht2,?_,hm,n1⟩,?_⟩
 ·intro i hi
  simp only [Tal.set]
  split
  ·exact hv
  ·exact h.now i hi
 ·rw [b1,u16s_set hb];rfl
 ·refine Chg.then (L':=[bc,bk]) (hc1.mono (fun i hi=>by rw [hL i hi];simp)) ?_ (by simp)
  exact Chg.trans ((Chg.refl _ _).setCell (.inl (by simp)) _) (Chg.grown (Chg.refl _ _) hg (by simp))
theorem set_at {w:World} {t bc bk:Nat} {T:Tal} (h:TallyAt w t bc bk T) (b v:Nat) (hb:b<T.n) (hv:v≤65535) :
  Calls Tryz.prog 149 #[.pointer (some ⟨t,0,none⟩),.int .i64 (b:Int),.int .u16 (v:Int)] w fun e w'=>e = .returned (.tuple #[])∧TallyAt w' t bc bk (T.set b v)∧Chg [t,bc,bk] w w':=by
 have n2:=h.n2
 have fl:=h.frees_le
 have wl:=h.waits_le
 have lt0:=h.lt0
 have lt1:=h.lt1
 have lt2:=h.lt2
 have ne0:=h.ne
 have ne1:=h.ne1
 have ne2:=h.ne2
 have hkb:=h.kept b hb
 have hnb:=h.now b hb
 have c0:=h.c0
 have cc:=h.cc hb
 have hA:TallyAt (w.alloc (.cells #[.pointer (some ⟨t,0,none⟩)] 39)) t bc bk T:=h.chg ((Chg.refl [] w).alloc _) (by simp) (by simp) (by simp)
 have hcW:Chg [] w ((w.alloc (.cells #[.pointer (some ⟨t,0,none⟩)] 39)).alloc (.cells #[.int .u16 (T.kept b:Int)] 33)):=((Chg.refl [] w).alloc _).alloc _
 have hB:=h.chg hcW (by simp) (by simp) (by simp)
 have HB:=Lib.hid hB.top
 have hm0:=hB.map
 clear hB
 have x0:=znd w (.cells #[.pointer (some ⟨t,0,none⟩)] 39) (.cells #[.int .u16 (T.kept b:Int)] 33)
 have x1:=znc w (.cells #[.pointer (some ⟨t,0,none⟩)] 39) (.cells #[.int .u16 (T.kept b:Int)] 33)
 have X0:=Lib.hid x0
 have X1:=Lib.hid x1
 clear x0 x1
 by_cases hvk:v=T.kept b
 all_goals
  have Hvk:=Lib.hid hvk
  first
   | (have hd:((v:Int)==(T.kept b:Int))=true:=by simp [hvk])
   | (have hd:((v:Int)==(T.kept b:Int))=false:=by simp;omega)
  clear hvk
  go_enter Tryz.func149,Tryz.ntmps149
  go_wp2_with fail
  refine (was_at hA b hb).mono ?_
  rintro e w' ⟨rfl,rfl⟩
  clear hA
  go_wp2_with fail
  refine (by_any (k:=T.kept b) (f:=T.frees) (g:=T.waits) (s := .slice (some ⟨bc,0,none⟩) T.n T.n) (m := .map (some bk)) (zcb X1.out 0) (zcb X0.out 0) HB.out (by omega) (by omega) (by omega) (by omega) (by omega) (by omega)).mono ?_
  rintro e w1 ⟨rfl,ht1,hc1⟩
  have X01:=Lib.hid ((hc1.block _ (by simp;omega) (by simp;omega)).trans X0.out)
  have X11:=Lib.hid ((hc1.block _ (by simp) (by simp;omega)).trans X1.out)
  have HT1:=Lib.hid ht1
  clear ht1
  go_wp2_with fail
  refine (by_any (k:=T.kept b) (s := .slice (some ⟨bc,0,none⟩) T.n T.n) (m := .map (some bk)) (zcb X11.out 0) (zcb X01.out 0) HT1.out (by omega) (by omega) (by split <;> omega) (by split <;> omega) (by split <;> omega) (by split <;> omega)).mono ?_
  rintro e w2 ⟨rfl,ht2,hc2⟩
  have X02:=(hc2.block _ (Nat.lt_of_lt_of_le (by simp;omega) hc1.size) (by simp;omega)).trans X01.out
  have X12:=(hc2.block _ (Nat.lt_of_lt_of_le (by simp) hc1.size) (by simp;omega)).trans X11.out
  have hc:=((hcW.mono (L':=[t]) (by simp)).trans hc1).trans hc2
  clear hc1 hc2
  have y0:=zcb X02 0
  have y1:=zcb X12 0
  have y2:=zcb ht2 0
  have y3:=zcb ht2 1
  have y4:=(hc.cell (p:=⟨bc,b,none⟩) lt1 (by simp;omega)).trans cc
  have y5:=(hc.frozen (p:=⟨bc,b,none⟩) lt1 (by simp;omega)).trans (h.cfz b)
  simp only [List.getElem?_toArray,List.getElem?_cons_zero,List.getElem?_cons_succ] at y0 y1 y2 y3
  have b0:=zhl X02
  have b1:=zhl X12
  have Ht2:=Lib.hid ht2
  have Hc:=Lib.hid hc
  clear X02 X12 ht2 hc hcW HB X0 X1 X01 X11 HT1 cc c0
  have hm3:KMap Tryz.prog 3 33 (w2.setCell ⟨bc,b,none⟩ (.int .u16 (v:Int))) bk T.n T.keptAt :=
   h.map.same ((zso _ _ ne2.symm).trans (Hc.out.block _ lt2 (by simp;omega)))
  clear hm0
 ·obtain ⟨w4,hrun,hK,hturn⟩:=hm3.del (t:=213) Tryz.underlying3 Tryz.underlying213 hb n2 0
  go_wp2_with fail
  go_end0
  refine ⟨rfl,set_close h hb hv Hc.out (by simp) Ht2.out (hK.congr fun i _=>?_) hturn.grown⟩
  simp only [Tal.keptAt,Tal.set]
  split
  ·rename_i e;subst e;rw [if_pos Hvk.out]
  ·rfl
 ·obtain ⟨w4,hrun,hK,hturn⟩:=KMap.put (w:=(w2.setCell ⟨bc,b,none⟩ (.int .u16 (v:Int))).drew) (t:=213) hm3 Tryz.underlying3 Tryz.underlying33 Tryz.underlying213 hb n2 hkb
  go_wp2_with fail
  go_region
  go_wp2_with fail
  go_end0
  have hg:=hturn.grown
  refine ⟨rfl,set_close h hb hv Hc.out (by simp) Ht2.out (hK.congr fun i _=>?_) ⟨hg.os,hg.tape,hg.output,hg.size,hg.block⟩⟩
  simp only [Tal.keptAt,Tal.set]
  split
  ·rename_i e;subst e;rw [if_neg Hvk.out]
  ·rfl
end Go.Proofs.YtkhcaclndepgbaaGreat
