/- A map from small numbers to values of any kind in memory. · tally.Of of counts that stand in memory. (Lines of XTOfW.) · Package base: how a base lies in memory. · Package base: a base that is none (nil, or one that Open did not answer). · Package base: what a base tells of itself. -/
import Derived.Test.YtkhcaclndepgbaaGreatZg12
import Derived.Test.YtkhcaclndepgbaaGreatZg07
import Derived.Test.YtkhcaclndepgbaaGreatZg16
import Derived.Test.YtkhcaclndepgbaaGreatZg15
import Derived.Test.YtkhcaclndepgbaaGreatZg23
import Derived.Test.YtkhcaclndepgbaaGreatZg21
set_option linter.unusedVariables false
set_option linter.unusedSimpArgs false
set_option maxRecDepth 100000
set_option maxHeartbeats 20000000
namespace Go.Proofs.YtkhcaclndepgbaaGreat
open Go.RowKit Go.Maps
def RG (good:Value→Bool) (v:Value):Option (DataW Value × List MemPlace):=if good v then some (.held v,[]) else none
theorem RG_mk {good:Value→Bool} {v:Value} (h:good v=true):RG good v=some (.held v,[]):=by unfold RG;rw [if_pos h]
theorem RG_inv {good:Value→Bool} {v:Value} {d:DataW Value} {ps:List MemPlace} (h:RG good v=some (d,ps)):d = .held v∧ps=[]∧good v=true:=by
 unfold RG at h
 by_cases g:good v=true
 ·rw [if_pos g] at h
  injection h with h
  injection h with h1 h2
  exact ⟨h1.symm,h2.symm,g⟩
 ·rw [if_neg g] at h;cases h
def KMapV (P:Program) (kt:TypeId) (good:Value→Bool) (w:World) (b n:Nat) (f:Nat→Option Value):Prop :=
 ∃ D:DataW Value,w.ownsMap P kt (RG good) b (Maps.size D) D∧Maps.size D=cnt n (fun k=>(f k).isSome) ∧
  (∀ l,Maps.has D l=true→∃ k,k<n∧l = .int .i64 (k:Int)∧(f k).isSome=true) ∧
  (∀ k v,k<n→f k=some v→Maps.has D (.int .i64 (k:Int))=true∧∀ z,D.atKey (.int .i64 (k:Int)) z = .held v)
section
variable {P:Program} {kt et t:TypeId} {w:World} {b n:Nat} {f:Nat→Option Value} {good:Value→Bool}
theorem ownsMap_tightV {R:Value→Option (DataW Value × List MemPlace)} {m:Nat} {D:DataW Value} (h:w.ownsMap P kt R b m D):w.ownsMap P kt R b (Maps.size D) D:=by
 obtain ⟨es,clock,hb,F,hs,rfl⟩:=h
 exact ⟨es,clock,hb,F,by simp [Maps.size,length_sorted],rfl⟩
theorem KMapV.lt (h:KMapV P kt good w b n f):b<w.heap.size:=by
 obtain ⟨D,h1,_⟩:=h
 exact h1.lt
theorem KMapV.obj (h:KMapV P kt good w b n f):∃ es c,w.heap[b]?=some (.map es c):=by
 obtain ⟨D,⟨es,c,hb,_⟩,_⟩:=h
 exact ⟨es,c,hb⟩
theorem KMapV.same {w':World} (h:KMapV P kt good w b n f) (e:w'.heap[b]?=w.heap[b]?):KMapV P kt good w' b n f:=by
 obtain ⟨D,⟨es,c,hb,hr⟩,hh⟩:=h
 exact ⟨D,⟨es,c,e.trans hb,hr⟩,hh⟩
theorem KMapV.chg {L:List Nat} {w':World} (h:KMapV P kt good w b n f) (c:Chg L w w') (hb:b∉L):KMapV P kt good w' b n f:=h.same (c.block b h.lt hb)
theorem KMapV.congr {g:Nat→Option Value} (h:KMapV P kt good w b n f) (e:∀ i,i<n→f i=g i):KMapV P kt good w b n g:=by
 obtain ⟨D,h1,h2,h3,h4⟩:=h
 refine ⟨D,h1,h2.trans (cnt_congr fun i hi=>by rw [e i hi]),fun l hl=>?_,fun k v hk hv=>h4 k v hk (by rw [e k hk];exact hv)⟩
 obtain ⟨k,hk,hl',hs⟩:=h3 l hl
 exact ⟨k,hk,hl',by rw [← e k hk];exact hs⟩
theorem KMapV.has (_h:KMapV P kt good w b n f) {D:DataW Value} (h3:∀ l,Maps.has D l=true→∃ k,k<n∧l = .int .i64 (k:Int)∧(f k).isSome=true)
  (h4:∀ k v,k<n→f k=some v→Maps.has D (.int .i64 (k:Int))=true∧∀ z,D.atKey (.int .i64 (k:Int)) z = .held v) {k:Nat} (hk:k<n) :
  Maps.has D (.int .i64 (k:Int))=(f k).isSome:=by
 cases hf:f k with
 | some v=>exact (h4 k v hk hf).1
 | none =>
  cases hh:Maps.has D (.int .i64 (k:Int)) with
  | false=>rfl
  | true =>
   obtain ⟨k',hk',e,hs⟩:=h3 _ hh
   injection e with _ e
   have:k=k':=by omega
   subst this
   rw [hf] at hs
   cases hs
theorem KMapV.len (h:KMapV P kt good w b n f):∃ D:DataW Value,w.ownsMap P kt (RG good) b (Maps.size D) D∧Maps.size D=cnt n (fun k=>(f k).isSome):=by
 obtain ⟨D,h1,h2,_⟩:=h
 exact ⟨D,h1,h2⟩
theorem KMapV.look (h:KMapV P kt good w b n f) (hkt:P.underlying kt=some (.int .i64)) (ht:P.underlying t=some (.map kt et))
  {z:Value} (hz:(zeroValue et).run P w = .ok z w) (hg:good z=true) {k:Nat} (hk:k<n) (hn:n≤4096) :
  (Instr.lookup t (.map (some b)) (.int .i64 (k:Int)) true).run P w = .ok (.tuple #[(f k).getD z,.bool (f k).isSome]) w ∧
  (Instr.lookup t (.map (some b)) (.int .i64 (k:Int)) false).run P w = .ok ((f k).getD z) w:=by
 have hh:=h
 obtain ⟨D,h1,h2,h3,h4⟩:=h
 have hkey:keyOf P kt (.int .i64 (k:Int))=some (.int .i64 (k:Int)):=Maps.keyOf_int_mk hkt (WalkArith.wf_i64 (by omega))
 have K:=Maps.int_keyed hkt
 obtain ⟨v,ps,hrun,hv⟩:=h1.look_ok K ht hz (zd := .held z) (zp:=[]) (RG_mk hg) hkey
 obtain ⟨v',ps',hrun',hv'⟩:=h1.lookup K ht (z:=z) hz (zd := .held z) (zp:=[]) (RG_mk hg) hkey
 rw [hh.has h3 h4 hk] at hrun
 obtain ⟨e1,-,-⟩:=RG_inv hv
 obtain ⟨e2,-,-⟩:=RG_inv hv'
 have e:v=(f k).getD z∧v'=(f k).getD z:=by
  cases hf:f k with
  | some u =>
   have hu:=(h4 k u hk hf).2 (.held z)
   rw [hu] at e1 e2
   injection e1 with e1
   injection e2 with e2
   exact ⟨e1.symm,e2.symm⟩
  | none =>
   have hn:Maps.has D (.int .i64 (k:Int))=false:=by rw [hh.has h3 h4 hk,hf];rfl
   rw [Maps.atKey_of_not_has hn] at e1 e2
   injection e1 with e1
   injection e2 with e2
   exact ⟨e1.symm,e2.symm⟩
 rw [hrun,hrun',e.1,e.2]
 exact ⟨rfl,rfl⟩
theorem KMapV.look_out (h:KMapV P kt good w b n f) (hkt:P.underlying kt=some (.int .i64)) (ht:P.underlying t=some (.map kt et))
  {z:Value} (hz:(zeroValue et).run P w = .ok z w) (hg:good z=true) {k:Int} (hw:(Lit.int .i64 k).wf=true) (hk:k<0∨(n:Int)≤k) :
  (Instr.lookup t (.map (some b)) (.int .i64 k) true).run P w = .ok (.tuple #[z,.bool false]) w ∧
  (Instr.lookup t (.map (some b)) (.int .i64 k) false).run P w = .ok z w:=by
 obtain ⟨D,h1,h2,h3,h4⟩:=h
 have hkey:keyOf P kt (.int .i64 k)=some (.int .i64 k):=Maps.keyOf_int_mk hkt hw
 have K:=Maps.int_keyed hkt
 obtain ⟨v,ps,hrun,hv⟩:=h1.look_ok K ht hz (zd := .held z) (zp:=[]) (RG_mk hg) hkey
 obtain ⟨v',ps',hrun',hv'⟩:=h1.lookup K ht (z:=z) hz (zd := .held z) (zp:=[]) (RG_mk hg) hkey
 have hn:Maps.has D (.int .i64 k)=false:=by
  cases hh:Maps.has D (.int .i64 k) with
  | false=>rfl
  | true =>
   obtain ⟨k',hk',e,hs⟩:=h3 _ hh
   injection e with _ e
   omega
 obtain ⟨e1,-,-⟩:=RG_inv hv
 obtain ⟨e2,-,-⟩:=RG_inv hv'
 rw [Maps.atKey_of_not_has hn] at e1 e2
 injection e1 with e1
 injection e2 with e2
 rw [hrun,hrun',hn,← e1,← e2]
 exact ⟨rfl,rfl⟩
theorem KMapV.del (h:KMapV P kt good w b n f) (hkt:P.underlying kt=some (.int .i64)) (ht:P.underlying t=some (.map kt et)) {k:Nat} (hk:k<n) (hn:n≤4096) (ty:TypeId) :
  ∃ w',(Builtin.delete_ #[t,kt] ty #[.map (some b),.int .i64 (k:Int)]).run P w = .ok (.tuple #[]) w'∧KMapV P kt good w' b n (fun i=>if i=k then none else f i)∧w.mapTurned w' b:=by
 have hh:=h
 obtain ⟨D,h1,h2,h3,h4⟩:=h
 have hkey:keyOf P kt (.int .i64 (k:Int))=some (.int .i64 (k:Int)):=Maps.keyOf_int_mk hkt (WalkArith.wf_i64 (by omega))
 have K:=Maps.int_keyed hkt
 obtain ⟨w',hrun,hown,hturn⟩:=h1.drop K ht hkey ty
 refine ⟨w',hrun,⟨D.del (.int .i64 (k:Int)),ownsMap_tightV hown,?_,?_,?_⟩,hturn⟩
 ·have e1:=Maps.size_del (k := .int .i64 (k:Int)) (h1.tidy K)
  have e2:=cnt_upd (p:=fun i=>(f i).isSome) (q:=fun i=>(if i=k then none else f i).isSome) hk (fun i _ hne=>by simp [hne])
  simp only [if_true,Option.isSome_none,Bool.false_eq_true,if_false,hh.has h3 h4 hk] at e1 e2
  show _=cnt n (fun i=>(if i=k then none else f i).isSome)
  omega
 ·intro l hl
  by_cases e:l = .int .i64 (k:Int)
  ·subst e;rw [Maps.has_del_same] at hl;cases hl
  ·rw [Maps.has_del_other e] at hl
   obtain ⟨k',hk',rfl,hs⟩:=h3 l hl
   have hne:k'≠k:=fun q=>e (by rw [q])
   exact ⟨k',hk',rfl,by simp [hne,hs]⟩
 ·intro i v hi hv
  by_cases e:i=k
  ·simp [e] at hv
  ·simp only [e,if_false] at hv
   have hne:Lit.int .i64 (i:Int) ≠ .int .i64 (k:Int):=fun q=>by injection q with _ q;omega
   obtain ⟨g1,g2⟩:=h4 i v hi hv
   exact ⟨by rw [Maps.has_del_other hne];exact g1,fun z=>by rw [Maps.atKey_del_other hne];exact g2 z⟩
theorem KMapV.put (h:KMapV P kt good w b n f) (hkt:P.underlying kt=some (.int .i64)) (ht:P.underlying t=some (.map kt et)) {k:Nat} {v:Value} (hk:k<n) (hn:n≤4096) (hv:good v=true) :
  ∃ w',(Instr.mapUpdate t (.map (some b)) (.int .i64 (k:Int)) v).run P w = .ok () w'∧KMapV P kt good w' b n (fun i=>if i=k then some v else f i)∧w.mapTurned w' b:=by
 have hh:=h
 obtain ⟨D,h1,h2,h3,h4⟩:=h
 have hkey:keyOf P kt (.int .i64 (k:Int))=some (.int .i64 (k:Int)):=Maps.keyOf_int_mk hkt (WalkArith.wf_i64 (by omega))
 have K:=Maps.int_keyed hkt
 have hle:=cnt_le (fun k=>(f k).isSome) n
 have hik:WideAt.IsKeyLit (.int .i64 (k:Int)):=K.key hkey
 obtain ⟨w',hrun,hown,hturn⟩:=h1.store K ht (by unfold maxLen;omega) hkey (RG_mk hv)
 refine ⟨w',hrun,⟨_,ownsMap_tightV hown,?_,?_,?_⟩,hturn⟩
 ·have e1:=Maps.size_put (k := .int .i64 (k:Int)) (h1.tidy K) (.held v)
  have e2:=cnt_upd (p:=fun i=>(f i).isSome) (q:=fun i=>(if i=k then some v else f i).isSome) hk (fun i _ hne=>by simp [hne])
  rw [hh.has h3 h4 hk] at e1
  simp only [if_true,Option.isSome_some] at e2
  rw [e1]
  split at e2 <;> split <;> simp_all <;> omega
 ·intro l hl
  by_cases e:l = .int .i64 (k:Int)
  ·exact ⟨k,hk,e,by simp⟩
  ·rw [Maps.has_put_other e] at hl
   obtain ⟨k',hk',rfl,hs⟩:=h3 l hl
   have hne:k'≠k:=fun q=>e (by rw [q])
   exact ⟨k',hk',rfl,by simp [hne,hs]⟩
 ·intro i v' hi hv'
  by_cases e:i=k
  ·subst e
   simp only [if_true,Option.some.injEq] at hv'
   subst hv'
   exact ⟨Maps.has_put_same h1.isMap hik _,fun z=>Maps.atKey_put_same h1.isMap hik _ z⟩
  ·simp only [e,if_false] at hv'
   have hne:Lit.int .i64 (i:Int) ≠ .int .i64 (k:Int):=fun q=>by injection q with _ q;omega
   obtain ⟨g1,g2⟩:=h4 i v' hi hv'
   exact ⟨by rw [Maps.has_put_other hne];exact g1,fun z=>by rw [Maps.atKey_put_other hne];exact g2 z⟩
theorem KMapV.ofEmpty (h:w.ownsMap P kt (RG good) b 0 (.map []:DataW Value)) (n:Nat):KMapV P kt good w b n (fun _=>none):=by
 refine ⟨.map [],h,(cnt_zero fun _ _=>rfl).symm,?_,?_⟩
 ·intro l hl;cases hl
 ·intro k v _ hv;cases hv
theorem KMapV.made (w:World) (n:Nat):KMapV P kt good (w.alloc (.map #[] 0)) w.heap.size n (fun _=>none) :=
 KMapV.ofEmpty (World.ownsMap_made _ _ _ _) n
theorem KMapV.clear (h:KMapV P kt good w b n f) (ht:P.underlying t=some (.map kt et)) (ty:TypeId) :
  ∃ w',(Builtin.clear_ #[t] ty #[.map (some b)]).run P w = .ok (.tuple #[]) w'∧KMapV P kt good w' b n (fun _=>none)∧w.mapTurned w' b:=by
 obtain ⟨D,⟨es,c,hb,F,hs,hD⟩,_⟩:=h
 refine ⟨_,?_,KMapV.ofEmpty ⟨#[],c,ChangeMaps.heap_setBlock_same hb (.map #[] c),⟨by simp,MapKept.stamped_empty c,by simp⟩,Nat.zero_le _,rfl⟩ n,⟨es,c,#[],c,hb,rfl⟩⟩
 simp [Builtin.clear_,run_underlying ht,MapKept.run_getObj_map hb,MapKept.run_setObj_map _ hb,Result.andThen]
 rfl
theorem mapTurned_chg {w':World} (h:w.mapTurned w' b):Chg [b] w w' :=
 (Chg.refl [b] w).grown h.grown (fun k e => .inl (by injection e with e;subst e;simp))
end
end Go.Proofs.YtkhcaclndepgbaaGreat
namespace Go.Proofs.YtkhcaclndepgbaaGreat
open Go.RowKit
def ofF (zs:List Int) (k i:Nat):Nat:=if i<k then (zs.getD i 0).toNat else 0
def ofK (zs:List Int) (n k:Nat):Tal:=⟨n,ofF zs k,ofF zs k⟩
def ofT (zs:List Int) (n:Nat):Tal:=ofK zs n n
theorem ofK_zero (zs:List Int) (n:Nat):ofK zs n 0=Tal.new n:=by
 unfold ofK Tal.new
 have:ofF zs 0=fun _=>0:=by funext i;simp [ofF]
 rw [this]
theorem ofF_succ {zs:List Int} {k v:Nat} (h:zs.getD k 0=(v:Int)):ofF zs (k+1)=fun i=>if i=k then v else ofF zs k i:=by
 funext i
 unfold ofF
 by_cases e:i=k
 ·subst e;rw [if_pos (by omega),if_pos rfl,h];simp
 ·rw [if_neg e]
  by_cases e2:i<k
  ·rw [if_pos (by omega),if_pos e2]
  ·rw [if_neg (by omega),if_neg e2]
theorem ofF_at (zs:List Int) (k:Nat):ofF zs k k=0:=by simp [ofF]
theorem of_frees {zs:List Int} {n k v:Nat} (hk:k<n) (h:zs.getD k 0=(v:Int)):(ofK zs n (k+1)).frees+(if v=0 then 0 else 1)=(ofK zs n k).frees:=by
 have e:=cnt_upd (n:=n) (k:=k) (p:=(ofK zs n k).free) (q:=(ofK zs n (k+1)).free) hk (fun i _ hne=>by
  simp only [Tal.free,ofK,ofF_succ h]
  rw [if_neg hne])
 have e1:(ofK zs n k).free k=true:=by simp [Tal.free,ofK,ofF_at]
 have e2:(ofK zs n (k+1)).free k=(v==0):=by simp [Tal.free,ofK,ofF_succ h]
 rw [e1,e2] at e
 show cnt n (ofK zs n (k+1)).free+_=cnt n (ofK zs n k).free
 by_cases hv:v=0
 ·simp [hv] at e ⊢;omega
 ·simp [hv] at e ⊢;omega
theorem of_waits (zs:List Int) (n k:Nat):(ofK zs n k).waits=0:=cnt_zero fun i _=>by
 simp only [Tal.waitB,ofK]
 by_cases q1:ofF zs k i=0 <;> simp [q1]
section
variable {w:World} {t bc bk n k v:Nat} {zs:List Int} (h:TallyAt w t bc bk (ofK zs n k)) (hk:k<n) (hv:zs.getD k 0=(v:Int)) (hb:v≤65535)
include h hk hv hb
omit hk in
theorem of_keep (w':World) (hc:w'.heap[bc]?=some (.cells (u16s n (ofF zs (k+1))) 33 (0,0)))
  (ht:w'.heap[t]?=some (.cells #[.slice (some ⟨bc,0,none⟩) n n,.map (some bk),.int .i64 ((ofK zs n (k+1)).frees:Int),.int .i64 0] 215 (0,0))) (hm:w'.heap[bk]?=w.heap[bk]?):TallyAt w' t bc bk (ofK zs n (k+1)):=by
 have hle:∀ i,i<n→ofF zs (k+1) i≤65535:=fun i hi=>by
  rw [ofF_succ hv]
  show (if i=k then v else ofF zs k i)≤65535
  split
  ·exact hb
  ·exact h.now i hi
 refine ⟨h.n1,h.n2,hle,hle,?_,hc,?_,h.ne⟩
 ·rw [of_waits];exact ht
 ·exact (h.map.congr fun i _=>by simp [Tal.keptAt,ofK]).same hm
theorem of_step0 (h0:v=0):TallyAt (w.setCell ⟨bc,k,none⟩ (.int .u16 0)) t bc bk (ofK zs n (k+1)):=by
 have e:=of_frees hk hv
 rw [if_pos h0,Nat.add_zero] at e
 refine of_keep h hv hb _ ?_ ?_ (zso _ _ h.ne2.symm)
 ·rw [zsb h.cs]
  have:=u16s_set (f:=ofF zs k) (v:=0) hk
  rw [ofF_succ hv,h0]
  exact congrArg (fun x=>some (Obj.cells x 33 (0,0))) this
 ·rw [zso _ _ h.ne,e]
  have:=h.top
  rw [of_waits] at this
  exact this
theorem of_step1 (h0:v≠0):TallyAt ((w.setCell ⟨bc,k,none⟩ (.int .u16 (v:Int))).setCell ⟨t,2,none⟩ (.int .i64 (((ofK zs n k).frees:Int) - 1))) t bc bk (ofK zs n (k+1)):=by
 have e:=of_frees hk hv
 rw [if_neg h0] at e
 refine of_keep h hv hb _ ?_ ?_ ?_
 ·rw [zso _ _ h.ne.symm,zsb h.cs]
  have:=u16s_set (f:=ofF zs k) (v:=v) hk
  rw [ofF_succ hv]
  exact congrArg (fun x=>some (Obj.cells x 33 (0,0))) this
 ·have ht:(w.setCell ⟨bc,k,none⟩ (.int .u16 (v:Int))).heap[t]?=_:=(zso _ _ h.ne).trans h.top
  rw [zsb ht,of_waits]
  have e3:((ofK zs n k).frees:Int) - 1=((ofK zs n (k+1)).frees:Int):=by omega
  rw [e3]
  rfl
 ·rw [zso _ _ h.ne1.symm,zso _ _ h.ne2.symm]
end
theorem tofU_zs {w:World} {a:Option Addr} {n cap:Nat} {l:Nat→Nat} {zs:List Int} (hz:∀ i,i<n→zs.getD i 0=(l i:Int)) (hr:U16In w a n l) (hcap:n≤cap) (hm:cap≤maxLen) (h1:1≤n) (h2:n≤4096) :
  Calls Tryz.prog 100 #[.slice a n cap] w fun e w'=>∃ t bc bk,e = .returned (.tuple #[.pointer (some ⟨t,0,none⟩),.int .i64 0])∧TallyAt w' t bc bk (ofT zs n)∧Chg [] w w'∧w.heap.size≤t∧w.heap.size≤bc∧w.heap.size≤bk:=by
 unfold maxLen at hm
 have HZ:=Lib.hid hz
 have HR:=Lib.hid hr
 clear hr hz
 go_enter Tryz.func100,Tryz.ntmps100
 go_wp2_with fail
 refine (tnew_ex n _ h1 h2).mono ?_
 rintro e w1 ⟨t,bc,bk,rfl,hT,hC1,l1,l2,l3⟩
 have L:w.heap.size≤t∧w.heap.size≤bc∧w.heap.size≤bk:=⟨l1,l2,l3⟩
 have HC1:=Lib.hid hC1
 clear hC1
 rw [← ofK_zero zs] at hT
 go_wp2_with fail
 go_loopw [19] (fun s wr=>∃ k:Nat,k≤n∧s = .int .i64 (k:Int)∧TallyAt wr t bc bk (ofK zs n k)∧Chg [] w wr) (fun s _=>n - (intOf s).toNat)
 case atStart=>exact ⟨0,Nat.zero_le _,rfl,hT,HC1.out⟩
 case round =>
  obtain ⟨k,hk,rfl,hTk,hCk⟩:=hrel
  by_cases hlk:k<n
  ·obtain ⟨b,off,rfl,hbl,hcs⟩:=HR.out.2 (by omega)
   have hc:=hcs k hlk
   have hc2:=(hCk.cell (p:=⟨b,off+k,none⟩) hbl (by simp)).trans hc
   have hvl:=HR.out.1 k hlk
   have hv:=HZ.out k hlk
   obtain ⟨v,hvd⟩:∃ v,v=l k:=⟨_,rfl⟩
   rw [← hvd] at hc2 hvl hv
   have hvb:v≤65535:=by omega
   have c0:=hTk.c0
   have c2:=hTk.c2
   have fz:=hTk.fz 2
   have ne:=hTk.ne
   have ne':=hTk.ne.symm
   have fc:=hTk.cfz k
   have cc:=hTk.cc (i:=k) hlk
   have fl:=hTk.frees_le
   have i0:(0:Int)≤(k:Int):=by omega
   have i1:(k:Int)<(n:Int):=by omega
   have HCk:=Lib.hid hCk
   have HT:=Lib.hid hT
   have Hv:=Lib.hid hv
   have HTk:=Lib.hid hTk
   clear hT hCk hv hc hcs hvl hvd hTk
   by_cases h0:v=0
   ·have E:=Lib.hid (of_step0 HTk.out hlk Hv.out hvb h0)
    subst h0
    go_wp2_with fail
    go_roundw
    case rel=>exact ⟨k+1,by omega,by go_num,E.out,Chg.setCell HCk.out (.inr (by show w.heap.size≤bc;omega)) _⟩
    case measure=>simp [intOf];omega
   ·have E:=Lib.hid (of_step1 HTk.out hlk Hv.out hvb h0)
    have hp:(0:Int)<(v:Int):=by omega
    clear h0
    go_wp2_with fail
    go_roundw
    case rel=>exact ⟨k+1,by omega,by go_num,E.out,Chg.setCell (Chg.setCell HCk.out (.inr (by show w.heap.size≤bc;omega)) _) (.inr (by show w.heap.size≤t;omega)) _⟩
    case measure=>simp [intOf];omega
  ·obtain rfl:k=n:=by omega
   go_wp2_with fail
   go_ret2
   exact ⟨t,bc,bk,rfl,hTk,hCk,l1,l2,l3⟩
theorem tofU_at {w:World} {a:Option Addr} {n cap:Nat} {l:Nat→Nat} (hr:U16In w a n l) (hcap:n≤cap) (hm:cap≤maxLen) (h1:1≤n) (h2:n≤4096) :
  Calls Tryz.prog 100 #[.slice a n cap] w fun e w'=>∃ t bc bk,e = .returned (.tuple #[.pointer (some ⟨t,0,none⟩),.int .i64 0])∧TallyAt w' t bc bk ⟨n,l,l⟩∧Chg [] w w'∧w.heap.size≤t∧w.heap.size≤bc∧w.heap.size≤bk:=by
 have hz:∀ i,i<n→((List.range n).map fun i=>(l i:Int)).getD i 0=(l i:Int):=fun i hi=>by simp [hi]
 refine (tofU_zs hz hr hcap hm h1 h2).mono ?_
 rintro e w' ⟨t,bc,bk,rfl,hT,hC,q⟩
 have he:∀ i,i<n→ofF ((List.range n).map fun i=>(l i:Int)) n i=l i:=fun i hi=>by unfold ofF;rw [if_pos hi,hz i hi];rfl
 exact ⟨t,bc,bk,rfl,hT.congr rfl (fun i hi=>(he i hi).symm) (fun i hi=>(he i hi).symm),hC,q⟩
structure Bm where
 b:Nat
 d:Nat
 bb:Nat
 p:Nat
 t:Nat
 bc:Nat
 bk:Nat
 mf:Nat
def Bm.L (M:Bm):List Nat:=[M.b,M.d,M.bb,M.p,M.t,M.bc,M.bk,M.mf]
structure Br where
 g:Nat→Nat
 c:Nat→Nat
 fg:Nat→Nat
 fc:Nat→Nat
def frV (R:Br) (B:Bs) (k:Nat):Option Value:=if (B.fr k).isSome then some (.slice (some ⟨R.fg k,0,none⟩) 128 (R.fc k)) else none
def goodF (v:Value):Bool:=match v with | .slice (some ⟨_,0,none⟩) 128 _=>true | .slice none 0 0=>true | _=>false
def baseV (M:Bm) (R:Br) (B:Bs) (i:Nat):Value :=
 if i=0 then .pointer (some ⟨M.d,0,none⟩) else if i=1 then .pointer (some ⟨M.t,0,none⟩) else if i=2 then .pointer (some ⟨M.p,0,none⟩)
 else if i=3 then .slice (some ⟨R.g 0,0,none⟩) (nOf B.T.n 0) (R.c 0) else if i=4 then .slice (some ⟨R.g 1,0,none⟩) (nOf B.T.n 1) (R.c 1) else if i=5 then .map (some M.mf)
 else if i<24 then B.S.cellV (i - 6) else if i<42 then B.Kp.cellV (i - 24) else if i=42 then .int .i64 ((B.Kp.gen % 2:Nat):Int) else .bool false
structure BaseC (w:World) (M:Bm) (R:Br) (B:Bs):Prop where
 top:w.heap[M.b]?=some (.cells (fnRow 44 (baseV M R B)) 51 (0,0))
 pt:PT w M.p M.t M.bc M.bk B.K B.T
 sh:ShV w (.slice (some ⟨R.g 0,0,none⟩) (nOf B.T.n 0) (R.c 0)) (.slice (some ⟨R.g 1,0,none⟩) (nOf B.T.n 1) (R.c 1)) B.a (nOf B.T.n) R.g R.c
 fm:KMapV Tryz.prog 3 goodF w M.mf B.T.n (frV R B)
 fd:∀ k f,k<B.T.n→B.fr k=some f→128≤R.fc k∧R.fc k≤maxLen∧BytesAt w (R.fg k) 0 128 f∧∃ cur z,w.heap[R.fg k]?=some (.cells cur 5 z)
 ok:B.Ok
 ne:M.mf≠M.bk
 glt:∀ k,k<2→R.g k<w.heap.size
structure BaseIn (w:World) (M:Bm) (R:Br) (B:Bs):Prop where
 c:BaseC w M R B
 d:DiskAt w M.d M.bb (.slice none 0 0) ⟨B.T.n,B.D,[]⟩
def Bown (M:Bm) (R:Br) (B:Bs) (x:Nat):Prop:=x∈M.L∨(∃ k,k<2∧x=R.g k)∨∃ k,k<B.T.n∧(B.fr k).isSome=true∧x=R.fg k
def BaseAt (w:World) (M:Bm) (F:List Nat) (B:Bs):Prop:=∃ R,BaseIn w M R B∧∀ x,Bown M R B x→x∉F
section
variable {w w':World} {M:Bm} {R:Br} {B:Bs} {L F:List Nat}
theorem BaseC.chg (h:BaseC w M R B) (c:Chg L w w') (hL:∀ x,Bown M R B x→x∉L):BaseC w' M R B:=by
 have m:∀ x,x∈M.L→x∉L:=fun x hx=>hL x (.inl hx)
 have g:∀ k,k<2→R.g k∉L:=fun k hk=>hL _ (.inr (.inl ⟨k,hk,rfl⟩))
 refine { h with top:=(c.block _ (zhl h.top) (m _ (by simp [Bm.L]))).trans h.top,pt:=h.pt.chg c (m _ (by simp [Bm.L])) (m _ (by simp [Bm.L])) (m _ (by simp [Bm.L])) (m _ (by simp [Bm.L])),sh:=h.sh.chg c (g 0 (by omega)) (g 1 (by omega)),fm:=h.fm.chg c (m _ (by simp [Bm.L])),fd:=?_,glt:=fun k hk=>Nat.lt_of_lt_of_le (h.glt k hk) c.size }
 intro k f hk hf
 obtain ⟨h1,h2,h3,cur,z,h4⟩:=h.fd k f hk hf
 have hn:R.fg k∉L:=hL _ (.inr (.inr ⟨k,hk,by rw [hf];rfl,rfl⟩))
 exact ⟨h1,h2,h3.chg c hn,cur,z,(c.block _ (zhl h4) hn).trans h4⟩
theorem BaseIn.chg (h:BaseIn w M R B) (c:Chg L w w') (hL:∀ x,Bown M R B x→x∉L):BaseIn w' M R B :=
 ⟨h.c.chg c hL,h.d.chg c (hL _ (.inl (by simp [Bm.L]))) (hL _ (.inl (by simp [Bm.L]))) (fun k hk=>by cases hk)⟩
theorem BaseIn.lt (h:BaseIn w M R B) {x:Nat} (hx:Bown M R B x):x<w.heap.size:=by
 rcases hx with hx | ⟨k,hk,rfl⟩ | ⟨k,hk,hf,rfl⟩
 ·simp only [Bm.L,List.mem_cons,List.not_mem_nil,or_false] at hx
  rcases hx with rfl | rfl | rfl | rfl | rfl | rfl | rfl | rfl
  ·exact zhl h.c.top
  ·exact h.d.lt.1
  ·exact h.d.lt.2
  ·exact zhl h.c.pt.hp.top
  ·exact h.c.pt.ht.lt0
  ·exact h.c.pt.ht.lt1
  ·exact h.c.pt.ht.lt2
  ·exact h.c.fm.lt
 ·exact h.c.glt k hk
 ·cases hq:B.fr k with
  | none=>rw [hq] at hf;cases hf
  | some f =>
   obtain ⟨_,_,_,cur,z,h4⟩:=h.c.fd k f hk hq
   exact zhl h4
theorem BaseAt.chg (h:BaseAt w M F B) (c:Chg L w w') (hL:∀ x,x∈L→x∈F):BaseAt w' M F B:=by
 obtain ⟨R,h1,h2⟩:=h
 exact ⟨R,h1.chg c fun x hx hm=>h2 x hx (hL x hm),h2⟩
theorem BaseAt.new (h:BaseAt w M F B) {q:Nat} (hq:w.heap.size≤q):BaseAt w M (q::F) B:=by
 obtain ⟨R,h1,h2⟩:=h
 refine ⟨R,h1,fun x hx hm=>?_⟩
 rcases List.mem_cons.1 hm with rfl | hm
 ·have:=h1.lt hx;omega
 ·exact h2 x hx hm
theorem BaseAt.sub (h:BaseAt w M F B) {F':List Nat} (hs:∀ x,x∈F'→x∈F):BaseAt w M F' B:=by
 obtain ⟨R,h1,h2⟩:=h
 exact ⟨R,h1,fun x hx hm=>h2 x hx (hs x hm)⟩
theorem BaseAt.ltL (h:BaseAt w M F B) {x:Nat} (hx:x∈M.L):x<w.heap.size:=by
 obtain ⟨R,h1,h2⟩:=h
 exact h1.lt (.inl hx)
theorem BaseC.cell (h:BaseC w M R B) {i:Nat} (hi:i<44):w.cell? ⟨M.b,i,none⟩=some (baseV M R B i):=cell_fn h.top hi
theorem BaseC.c0 (h:BaseC w M R B):w.cell? ⟨M.b,0,none⟩=some (.pointer (some ⟨M.d,0,none⟩)):=h.cell (by omega)
theorem BaseC.c1 (h:BaseC w M R B):w.cell? ⟨M.b,1,none⟩=some (.pointer (some ⟨M.t,0,none⟩)):=h.cell (by omega)
theorem BaseC.c2 (h:BaseC w M R B):w.cell? ⟨M.b,2,none⟩=some (.pointer (some ⟨M.p,0,none⟩)):=h.cell (by omega)
theorem BaseC.c5 (h:BaseC w M R B):w.cell? ⟨M.b,5,none⟩=some (.map (some M.mf)):=h.cell (by omega)
theorem BaseC.c43 (h:BaseC w M R B):w.cell? ⟨M.b,43,none⟩=some (.bool false):=h.cell (by omega)
end
def NoB (w:World) (p:Option Addr):Prop:=p=none∨∃ b,p=some ⟨b,0,none⟩∧w.cell? ⟨b,1,none⟩=some (.pointer none)
theorem NoB.chg {L:List Nat} {w w':World} {p:Option Addr} (h:NoB w p) (c:Chg L w w') (hL:∀ b,p=some b→b.block∉L):NoB w' p:=by
 rcases h with h | ⟨b,rfl,hb⟩
 ·exact .inl h
 ·exact .inr ⟨b,rfl,(c.cell (p:=⟨b,1,none⟩) (World.block_lt_of_cell? w _ hb) (hL ⟨b,0,none⟩ rfl)).trans hb⟩
section
variable {w:World} {p:Option Addr} (h:NoB w p)
include h
theorem noB_none:Calls Tryz.prog 74 #[.pointer p] w fun e w'=>e = .returned (.bool true)∧w=w':=by
 rcases h with rfl | ⟨b,rfl,c1⟩
 ·go_enter Tryz.func74,Tryz.ntmps74
  go_wp2_with fail
  go_ret
  exact ⟨rfl,rfl⟩
 ·go_enter Tryz.func74,Tryz.ntmps74
  go_wp2_with fail
  go_ret
  exact ⟨rfl,rfl⟩
theorem noB_blocks:Calls Tryz.prog 20 #[.pointer p] w fun e w'=>e = .returned (.int .i64 0)∧w=w':=by
 have cn:=noB_none h
 clear h
 go_enter Tryz.func20,Tryz.ntmps20
 go_wp2_with fail
 refine (cn).mono ?_
 rintro e w' ⟨rfl,rfl⟩
 go_wp2_with fail
 go_ret
 exact ⟨rfl,rfl⟩
end
def Bs.room (B:Bs):Int:=max (roomI B.T 2 - (needN B.T.n:Int)) 0
def Bs.freshB (B:Bs) (a:Int):Bool:=decide (0≤a)&&decide (a<(B.T.n:Int))&&(B.fr a.toNat).isSome
theorem goodF_zero:goodF (.slice none 0 0)=true:=rfl
theorem zeroSl8 (w:World):(zeroValue 22).run Tryz.prog w = .ok (.slice none 0 0) w:=Tryz.zeroValue22 w
section
variable {w:World} {M:Bm} {R:Br} {B:Bs} (h:BaseC w M R B)
include h
theorem bNone_at:Calls Tryz.prog 74 #[.pointer (some ⟨M.b,0,none⟩)] w fun e w'=>e = .returned (.bool false)∧w=w':=by
 have c1:=h.c1
 clear h
 go_enter Tryz.func74,Tryz.ntmps74
 go_wp2_with fail
 go_ret
 exact ⟨rfl,rfl⟩
theorem bMay_at:Calls Tryz.prog 76 #[.pointer (some ⟨M.b,0,none⟩)] w fun e w'=>e = .returned (.int .i64 0)∧w=w':=by
 have cn:=bNone_at h
 have c1:=h.c43
 clear h
 go_enter Tryz.func76,Tryz.ntmps76
 go_wp2_with fail
 refine (cn).mono ?_
 rintro e w' ⟨rfl,rfl⟩
 go_wp2_with fail
 go_ret
 exact ⟨rfl,rfl⟩
theorem bBlocks_at:Calls Tryz.prog 20 #[.pointer (some ⟨M.b,0,none⟩)] w fun e w'=>e = .returned (.int .i64 (B.T.n:Int))∧w=w':=by
 have cn:=bNone_at h
 have c1:=h.c1
 have cb:=blocks_at h.pt.ht
 clear h
 go_enter Tryz.func20,Tryz.ntmps20
 go_wp2_with fail
 refine (cn).mono ?_
 rintro e w' ⟨rfl,rfl⟩
 go_wp2_with fail
 refine (cb).mono ?_
 rintro e w' ⟨rfl,rfl⟩
 go_wp2_with fail
 go_ret
 exact ⟨rfl,rfl⟩
theorem bRoom_at:Calls Tryz.prog 16 #[.pointer (some ⟨M.b,0,none⟩)] w fun e w'=>e = .returned (.int .i64 B.room)∧w=w':=by
 have cn:=bNone_at h
 have c2:=h.c2
 have cb:=h.pt.room
 rw [h.ok.first] at cb
 have cl:=bBlocks_at h
 have cnd:=need_at (n:=B.T.n) w (by have:=h.ok.n;omega) h.ok.n.2
 have hrb:=roomI_bd (T:=B.T) (f:=2) (by have:=h.ok.n;omega)
 have hnd:needN B.T.n≤5000:=by unfold needN pg;have:=h.ok.n;omega
 have hn2:=h.ok.n.2
 have e1:wrap64 (roomI B.T 2 - (needN B.T.n:Int))=roomI B.T 2 - (needN B.T.n:Int):=by unfold wrap64;omega
 unfold Bs.room
 clear h
 generalize roomI B.T 2=r at *
 generalize needN B.T.n=n at *
 go_enter Tryz.func16,Tryz.ntmps16
 go_wp2_with fail
 refine (cn).mono ?_
 rintro e w' ⟨rfl,rfl⟩
 go_wp2_with fail
 refine (cb).mono ?_
 rintro e w' ⟨rfl,rfl⟩
 go_wp2_with fail
 refine (cl).mono ?_
 rintro e w' ⟨rfl,rfl⟩
 go_wp2_with fail
 refine (cnd).mono ?_
 rintro e w' ⟨rfl,rfl⟩
 go_wp2_with fail
 go_ret
 exact ⟨rfl,rfl⟩
theorem bFresh_at (a:Int) (ha:(Lit.int .i64 a).wf=true):Calls Tryz.prog 32 #[.pointer (some ⟨M.b,0,none⟩),.int .i64 a] w fun e w'=>e = .returned (.bool (B.freshB a))∧w=w':=by
 have cn:=bNone_at h
 have c5:=h.c5
 have hlk:∃ v,(Instr.lookup 43 (.map (some M.mf)) (.int .i64 a) true).run Tryz.prog w = .ok (.tuple #[v,.bool (B.freshB a)]) w:=by
  by_cases hi:0≤a∧a<(B.T.n:Int)
  ·obtain ⟨j,rfl⟩:=Int.eq_ofNat_of_zero_le hi.1
   have l:=(h.fm.look (t:=43) Tryz.underlying3 Tryz.underlying43 (zeroSl8 w) goodF_zero (k:=j) (by omega) h.ok.n.2).1
   have:B.freshB (j:Int)=(frV R B j).isSome:=by
    unfold Bs.freshB frV
    rw [decide_eq_true hi.1,decide_eq_true hi.2]
    show (B.fr j).isSome=_
    by_cases q:(B.fr j).isSome=true
    ·rw [if_pos q,q];rfl
    ·rw [if_neg q];simpa using q
   rw [← this] at l
   exact ⟨_,l⟩
  ·have l:=(h.fm.look_out (t:=43) Tryz.underlying3 Tryz.underlying43 (zeroSl8 w) goodF_zero ha (by omega)).1
   have:B.freshB a=false:=by
    unfold Bs.freshB
    by_cases h0:0≤a
    ·rw [decide_eq_false (show ¬ a<(B.T.n:Int) by omega)];simp
    ·rw [decide_eq_false h0];simp
   rw [← this] at l
   exact ⟨_,l⟩
 obtain ⟨v,hlk⟩:=hlk
 clear h
 generalize B.freshB a=r at *
 go_enter Tryz.func32,Tryz.ntmps32
 go_wp2_with fail
 refine (cn).mono ?_
 rintro e w' ⟨rfl,rfl⟩
 go_wp2_with fail
 go_ret
 exact ⟨rfl,rfl⟩
end
end Go.Proofs.YtkhcaclndepgbaaGreat
