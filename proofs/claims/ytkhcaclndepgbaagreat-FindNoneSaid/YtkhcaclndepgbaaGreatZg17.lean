/- Layer 10: a list's clone, which ones are so, whether a sheet is right. · A map from small numbers to ints in memory. (Printed by mkplm.py out of XTal.) · Layer 10: place.Right of a sheet that is right. -/
import Derived.Test.YtkhcaclndepgbaaGreatZg16
import Derived.Test.YtkhcaclndepgbaaGreatZg12
set_option linter.unusedVariables false
set_option linter.unusedSimpArgs false
set_option maxRecDepth 100000
set_option maxHeartbeats 20000000
namespace Go.Proofs.YtkhcaclndepgbaaGreat
open Go.RowKit
theorem own_empty (w:World):(w.alloc (.cells #[] 3)).ownsRow w.heap.size 3 1 (.slice (some ⟨w.heap.size,0,none⟩) 0 0) 0 [] :=
 ⟨rfl,.inr ⟨w.heap.size,0,#[],rfl,Nat.le_refl _,znb w _,Nat.zero_le _,by unfold maxLen;omega,rfl,rfl⟩⟩
theorem cloneI_at {w:World} {g c n:Nat} {l:List Nat} (e:n=l.length) (h:SlI w (.slice (some ⟨g,0,none⟩) n c) l) (hl:l.length≤10000) :
  Calls Tryz.prog 132 #[.slice (some ⟨g,0,none⟩) n c] w fun e w'=>∃ v,e = .returned v∧w'.ownsRow w.heap.size 3 1 v l.length (intVs l)∧Chg [] w w':=by
 subst e
 have H:=Lib.hid h
 clear h
 have hnil:=fun w=>Lib.run_eql_slice_nil (P:=Tryz.prog) w 27 3 (some ⟨g,0,none⟩) l.length c 0 0 Tryz.underlying27
 simp only [Option.isNone_some] at hnil
 have HE:=Lib.hid (own_empty w)
 have HC0:=Lib.hid ((Chg.refl [] w).alloc (.cells #[] 3))
 go_enter Tryz.func132,Tryz.ntmps132
 go_wp2_with (at_builtin;refine wpList_appI rfl _ _ rfl w.heap.size _ [] rfl HE.out g c l rfl (H.out.chg HC0.out (by simp)) (by simp;omega) (by simp) ?_;intro v' w2 hown2 hg2;have HOWN2:=Lib.hid hown2;have HC2:=Lib.hid (HC0.out.grown hg2 (fun k hk => .inr (HE.out.lt k hk).1));clear hown2 hg2)
 go_ret
 exact ⟨_,rfl,HOWN2.out,HC2.out⟩
def yesTo (p:Nat→Bool) (k:Nat):List Nat:=(List.range k).filter p
theorem yesTo_hit {p:Nat→Bool} {k:Nat} (h:p k=true):yesTo p (k+1)=yesTo p k++[k]:=by simp [yesTo,List.range_succ,List.filter_append,h]
theorem yesTo_miss {p:Nat→Bool} {k:Nat} (h:p k=false):yesTo p (k+1)=yesTo p k:=by simp [yesTo,List.range_succ,List.filter_append,h]
theorem yesTo_le (p:Nat→Bool) (k:Nat):(yesTo p k).length≤k:=Nat.le_trans (List.length_filter_le _ _) (by simp)
theorem mem_yesTo {p:Nat→Bool} {k b:Nat} : b∈yesTo p k↔b<k∧p b=true:=by simp [yesTo]
theorem which_at {w:World} {h n:Nat} {p:Nat→Bool} (hb:w.heap[h]?=some (.cells (bools n p) 4 (0,0))) (hn:n≤4096) :
  Calls Tryz.prog 136 #[.slice (some ⟨h,0,none⟩) n n] w fun e w'=>∃ v,e = .returned v∧w'.ownsRow w.heap.size 3 1 v (yesTo p n).length (intVs (yesTo p n))∧Chg [] w w':=by
 have HB:=Lib.hid hb
 have lh:=zhl hb
 clear hb
 go_enter Tryz.func136,Tryz.ntmps136
 go_wp2_with fail
 go_loopw [3,8] (fun v s wr=>∃ k:Nat,k≤n∧s = .int .i64 (k:Int)∧Hid (wr.ownsRow w.heap.size 3 1 v (yesTo p k).length (intVs (yesTo p k))∧Chg [] w wr)) (fun _ s _=>n - (intOf s).toNat)
 case atStart=>exact ⟨0,Nat.zero_le _,rfl,⟨World.ownsRow_nil _ _ _ _,Chg.refl _ _⟩⟩
 case round =>
  obtain ⟨k,hk,rfl,hH⟩:=hrel
  have hown:=hH.out.1
  have hC:=hH.out.2
  have HOW:=Lib.hid hown
  have HCW:=Lib.hid hC
  have hsz:=hC.size
  have HBK:=Lib.hid (fun k hk=>(hown.lt k hk).1:∀ k,(Value.ownBlock _=some k)→w.heap.size≤k)
  by_cases hlt:k<n
  ·have hcell:=(hC.cell (p:=⟨h,k,none⟩) lh (by simp)).trans ((zcb HB.out k).trans (bools_get hlt))
   have hyl:=yesTo_le p k
   clear hown hC hH
   cases hp:p k with
   | true =>
    rw [hp] at hcell
    have HY:=Lib.hid (yesTo_hit hp)
    have HN:=Lib.hid (znb wr (.cells #[.int .i64 (k:Int)] 3))
    go_wp2_with (at_builtin;refine wpList_app1 _ rfl _ _ 27 rfl w.heap.size 3 (.int .i64 0) 8 Tryz.underlying27 infoInt8 rfl _ _ _ rfl (own_chg HOW.out ((Chg.refl [] wr).alloc _) (by simp)) wr.heap.size 1 (.int .i64 (k:Int)) rfl (zcb HN.out 0) rfl (by omega) (by omega) (by simp;omega) ?_;intro v' w2 hown2 hg2;have HOWN2:=Lib.hid hown2;have HC2:=Lib.hid ((HCW.out.alloc _).grown hg2 (fun k hk => .inr (HBK.out k hk)));clear hown2 hg2)
    go_roundw
    case rel=>exact ⟨k+1,by omega,by go_num,⟨by rw [HY.out,intVs_app,List.length_append];exact HOWN2.out,HC2.out⟩⟩
    case measure=>simp [intOf];omega
   | false =>
    rw [hp] at hcell
    have HY:=Lib.hid (yesTo_miss hp)
    go_wp2_with fail
    go_roundw
    case rel=>exact ⟨k+1,by omega,by go_num,⟨by rw [HY.out];exact HOW.out,HCW.out⟩⟩
    case measure=>simp [intOf];omega
  ·obtain rfl:k=n:=by omega
   clear hown hC hH
   go_wp2_with fail
   go_ret
   exact ⟨_,rfl,HOW.out,HCW.out⟩
open Go.RowKit Go.Maps
def KMapI (P:Program) (kt et:TypeId) (w:World) (b n:Nat) (f:Nat→Option Nat):Prop :=
 ∃ D:DataW Unit,w.ownsMap P kt (plainElem P et) b (Maps.size D) D∧Maps.size D=cnt n (fun k=>(f k).isSome) ∧
  (∀ l,Maps.has D l=true→∃ k,k<n∧l = .int .i64 (k:Int)∧(f k).isSome=true) ∧
  (∀ k v,k<n→f k=some v→Maps.has D (.int .i64 (k:Int))=true∧∀ z,D.atKey (.int .i64 (k:Int)) z = .lit (.int .i64 (v:Int)))
section
variable {P:Program} {kt et t:TypeId} {w:World} {b n:Nat} {f:Nat→Option Nat}
theorem KMapI.lt (h:KMapI P kt et w b n f):b<w.heap.size:=by
 obtain ⟨D,h1,_⟩:=h
 exact h1.lt
theorem KMapI.obj (h:KMapI P kt et w b n f):∃ es c,w.heap[b]?=some (.map es c):=by
 obtain ⟨D,⟨es,c,hb,_⟩,_⟩:=h
 exact ⟨es,c,hb⟩
theorem KMapI.same {w':World} (h:KMapI P kt et w b n f) (e:w'.heap[b]?=w.heap[b]?):KMapI P kt et w' b n f:=by
 obtain ⟨D,⟨es,c,hb,hr⟩,hh⟩:=h
 exact ⟨D,⟨es,c,e.trans hb,hr⟩,hh⟩
theorem KMapI.congr {g:Nat→Option Nat} (h:KMapI P kt et w b n f) (e:∀ i,i<n→f i=g i):KMapI P kt et w b n g:=by
 obtain ⟨D,h1,h2,h3,h4⟩:=h
 refine ⟨D,h1,h2.trans (cnt_congr fun i hi=>by rw [e i hi]),fun l hl=>?_,fun k v hk hv=>h4 k v hk (by rw [e k hk];exact hv)⟩
 obtain ⟨k,hk,hl',hs⟩:=h3 l hl
 exact ⟨k,hk,hl',by rw [← e k hk];exact hs⟩
theorem KMapI.has (_h:KMapI P kt et w b n f) {D:DataW Unit} (h3:∀ l,Maps.has D l=true→∃ k,k<n∧l = .int .i64 (k:Int)∧(f k).isSome=true)
  (h4:∀ k v,k<n→f k=some v→Maps.has D (.int .i64 (k:Int))=true∧∀ z,D.atKey (.int .i64 (k:Int)) z = .lit (.int .i64 (v:Int))) {k:Nat} (hk:k<n) :
  Maps.has D (.int .i64 (k:Int))=(f k).isSome:=by
 cases hf:f k with
 | some v=>exact (h4 k v hk hf).1
 | none =>
  cases hh:Maps.has D (.int .i64 (k:Int)) with
  | false=>rfl
  | true =>
   obtain ⟨k',hk',e,hs⟩:=h3 _ hh
   injection e with _ e
   have:k=k':=by omega
   subst this
   rw [hf] at hs
   cases hs
theorem KMapI.look (h:KMapI P kt et w b n f) (hkt:P.underlying kt=some (.int .i64)) (het:P.underlying et=some (.int .i64)) (ht:P.underlying t=some (.map kt et))
  (hz:(zeroValue et).run P w = .ok (.int .i64 0) w) {k:Nat} (hk:k<n) (hn:n≤4096) :
  (Instr.lookup t (.map (some b)) (.int .i64 (k:Int)) true).run P w = .ok (.tuple #[.int .i64 (((f k).getD 0:Nat):Int),.bool (f k).isSome]) w ∧
  (Instr.lookup t (.map (some b)) (.int .i64 (k:Int)) false).run P w = .ok (.int .i64 (((f k).getD 0:Nat):Int)) w:=by
 have hh:=h
 obtain ⟨D,h1,h2,h3,h4⟩:=h
 have hkey:keyOf P kt (.int .i64 (k:Int))=some (.int .i64 (k:Int)):=Maps.keyOf_int_mk hkt (WalkArith.wf_i64 (by omega))
 have K:=Maps.int_keyed hkt
 obtain ⟨v,ps,hrun,hv⟩:=h1.look_ok K ht hz (plainElem_int het (by decide)) hkey
 obtain ⟨c,hrun',hat,_⟩:=h1.lookup_int K ht het hz hkey
 obtain ⟨a,rfl,ha,hw⟩:=plainElem_int_inv het hv
 simp only [Prod.mk.injEq] at ha
 have hc:c=a:=by
  have:=hat.symm.trans ha.1
  injection this with this
  injection this
 subst hc
 rw [hh.has h3 h4 hk] at hrun
 have e:c=(((f k).getD 0:Nat):Int):=by
  cases hf:f k with
  | some v =>
   have:=((h4 k v hk hf).2 _).symm.trans hat
   injection this with this
   injection this with _ this
   simpa using this.symm
  | none =>
   have hn:Maps.has D (.int .i64 (k:Int))=false:=by rw [hh.has h3 h4 hk,hf];rfl
   have:=(Maps.atKey_of_not_has hn (.lit (.int .i64 0))).symm.trans hat
   injection this with this
   injection this with _ this
   simpa using this.symm
 subst e
 exact ⟨hrun,hrun'⟩
theorem KMapI.del (h:KMapI P kt et w b n f) (hkt:P.underlying kt=some (.int .i64)) (ht:P.underlying t=some (.map kt et)) {k:Nat} (hk:k<n) (hn:n≤4096) (ty:TypeId) :
  ∃ w',(Builtin.delete_ #[t,kt] ty #[.map (some b),.int .i64 (k:Int)]).run P w = .ok (.tuple #[]) w'∧KMapI P kt et w' b n (fun i=>if i=k then none else f i)∧w.mapTurned w' b:=by
 have hh:=h
 obtain ⟨D,h1,h2,h3,h4⟩:=h
 have hkey:keyOf P kt (.int .i64 (k:Int))=some (.int .i64 (k:Int)):=Maps.keyOf_int_mk hkt (WalkArith.wf_i64 (by omega))
 have K:=Maps.int_keyed hkt
 obtain ⟨w',hrun,hown,hturn⟩:=h1.drop K ht hkey ty
 refine ⟨w',hrun,⟨D.del (.int .i64 (k:Int)),ownsMap_tight hown,?_,?_,?_⟩,hturn⟩
 ·have e1:=Maps.size_del (k := .int .i64 (k:Int)) (h1.tidy K)
  have e2:=cnt_upd (p:=fun i=>(f i).isSome) (q:=fun i=>(if i=k then none else f i).isSome) hk (fun i _ hne=>by simp [hne])
  simp only [if_true,Option.isSome_none,Bool.false_eq_true,if_false,hh.has h3 h4 hk] at e1 e2
  show _=cnt n (fun i=>(if i=k then none else f i).isSome)
  omega
 ·intro l hl
  by_cases e:l = .int .i64 (k:Int)
  ·subst e;rw [Maps.has_del_same] at hl;cases hl
  ·rw [Maps.has_del_other e] at hl
   obtain ⟨k',hk',rfl,hs⟩:=h3 l hl
   have hne:k'≠k:=fun q=>e (by rw [q])
   exact ⟨k',hk',rfl,by simp [hne,hs]⟩
 ·intro i v hi hv
  by_cases e:i=k
  ·simp [e] at hv
  ·simp only [e,if_false] at hv
   have hne:Lit.int .i64 (i:Int) ≠ .int .i64 (k:Int):=fun q=>by injection q with _ q;omega
   obtain ⟨g1,g2⟩:=h4 i v hi hv
   exact ⟨by rw [Maps.has_del_other hne];exact g1,fun z=>by rw [Maps.atKey_del_other hne];exact g2 z⟩
theorem KMapI.put (h:KMapI P kt et w b n f) (hkt:P.underlying kt=some (.int .i64)) (het:P.underlying et=some (.int .i64)) (ht:P.underlying t=some (.map kt et)) {k v:Nat} (hk:k<n) (hn:n≤4096) (hv:v≤1000000) :
  ∃ w',(Instr.mapUpdate t (.map (some b)) (.int .i64 (k:Int)) (.int .i64 (v:Int))).run P w = .ok () w'∧KMapI P kt et w' b n (fun i=>if i=k then some v else f i)∧w.mapTurned w' b:=by
 have hh:=h
 obtain ⟨D,h1,h2,h3,h4⟩:=h
 have hkey:keyOf P kt (.int .i64 (k:Int))=some (.int .i64 (k:Int)):=Maps.keyOf_int_mk hkt (WalkArith.wf_i64 (by omega))
 have K:=Maps.int_keyed hkt
 have hle:=cnt_le (fun k=>(f k).isSome) n
 have hik:WideAt.IsKeyLit (.int .i64 (k:Int)):=K.key hkey
 obtain ⟨w',hrun,hown,hturn⟩:=h1.store K ht (by unfold maxLen;omega) hkey (plainElem_int het ((show (Lit.int .i64 (v:Int)).wf=true from WalkArith.wf_i64 (by omega))))
 refine ⟨w',hrun,⟨_,ownsMap_tight hown,?_,?_,?_⟩,hturn⟩
 ·have e1:=Maps.size_put (k := .int .i64 (k:Int)) (h1.tidy K) (.lit (.int .i64 (v:Int)))
  have e2:=cnt_upd (p:=fun i=>(f i).isSome) (q:=fun i=>(if i=k then some v else f i).isSome) hk (fun i _ hne=>by simp [hne])
  rw [hh.has h3 h4 hk] at e1
  simp only [if_true,Option.isSome_some] at e2
  rw [e1]
  split at e2 <;> split <;> simp_all <;> omega
 ·intro l hl
  by_cases e:l = .int .i64 (k:Int)
  ·exact ⟨k,hk,e,by simp⟩
  ·rw [Maps.has_put_other e] at hl
   obtain ⟨k',hk',rfl,hs⟩:=h3 l hl
   have hne:k'≠k:=fun q=>e (by rw [q])
   exact ⟨k',hk',rfl,by simp [hne,hs]⟩
 ·intro i v' hi hv'
  by_cases e:i=k
  ·subst e
   simp only [if_true,Option.some.injEq] at hv'
   subst hv'
   exact ⟨Maps.has_put_same h1.isMap hik _,fun z=>Maps.atKey_put_same h1.isMap hik _ z⟩
  ·simp only [e,if_false] at hv'
   have hne:Lit.int .i64 (i:Int) ≠ .int .i64 (k:Int):=fun q=>by injection q with _ q;omega
   obtain ⟨g1,g2⟩:=h4 i v' hi hv'
   exact ⟨by rw [Maps.has_put_other hne];exact g1,fun z=>by rw [Maps.atKey_put_other hne];exact g2 z⟩
theorem KMapI.ofEmpty (h:w.ownsMap P kt (plainElem P et) b 0 (.map []:DataW Unit)) (n:Nat):KMapI P kt et w b n (fun _=>none):=by
 refine ⟨.map [],h,(cnt_zero fun _ _=>rfl).symm,?_,?_⟩
 ·intro l hl;cases hl
 ·intro k v _ hv;cases hv
theorem KMapI.made (w:World) (n:Nat):KMapI P kt et (w.alloc (.map #[] 0)) w.heap.size n (fun _=>none) :=
 KMapI.ofEmpty (World.ownsMap_made _ _ _ _) n
end
end Go.Proofs.YtkhcaclndepgbaaGreat
namespace Go.Proofs.YtkhcaclndepgbaaGreat
open Go.RowKit
def atL (S:Nat→Nat→Nat) (n:Nat→Nat) (k:Nat):List Nat:=(List.range (n k)).map (S k)
theorem atL_len (S:Nat→Nat→Nat) (n:Nat→Nat) (k:Nat):(atL S n k).length=n k:=by simp [atL]
theorem atL_get (S:Nat→Nat→Nat) (n:Nat→Nat) {k i:Nat} (h:i<n k):(atL S n k).getD i 0=S k i:=by
 simp [atL,List.getD_eq_getElem?_getD,h]
def kindOf (n:Nat→Nat) (j:Nat):Nat:=if j<n 0 then 0 else 1
def numOf (n:Nat→Nat) (j:Nat):Nat:=if j<n 0 then j else j - n 0
theorem kn_lt {n:Nat→Nat} {j:Nat} (h:j<n 0+n 1):kindOf n j<2∧numOf n j<n (kindOf n j):=by
 unfold kindOf numOf
 split
 ·exact ⟨by omega,by assumption⟩
 ·exact ⟨by omega,by omega⟩
theorem kn_inj {n:Nat→Nat} {i j:Nat} (h1:kindOf n i=kindOf n j) (h2:numOf n i=numOf n j):i=j:=by
 unfold kindOf at h1
 unfold numOf at h2
 by_cases a:i<n 0 <;> by_cases b:j<n 0 <;> simp [a,b] at h1 h2 <;> omega
theorem both_get (S:Nat→Nat→Nat) (n:Nat→Nat) {j:Nat} (h:j<n 0+n 1):(atL S n 0++atL S n 1).getD j 0=S (kindOf n j) (numOf n j):=by
 unfold kindOf numOf
 rw [List.getD_eq_getElem?_getD]
 by_cases hj:j<n 0
 ·rw [if_pos hj,if_pos hj,List.getElem?_append_left (by rw [atL_len];exact hj),← List.getD_eq_getElem?_getD,atL_get _ _ hj]
 ·rw [if_neg hj,if_neg hj,List.getElem?_append_right (by rw [atL_len];omega),atL_len,← List.getD_eq_getElem?_getD,atL_get _ _ (by omega)]
structure ShV (w:World) (v0 v1:Value) (S:Nat→Nat→Nat) (n:Nat→Nat) (g c:Nat→Nat):Prop where
 e0:v0 = .slice (some ⟨g 0,0,none⟩) (n 0) (c 0)
 e1:v1 = .slice (some ⟨g 1,0,none⟩) (n 1) (c 1)
 l:∀ k,k<2→SlI w (.slice (some ⟨g k,0,none⟩) (n k) (c k)) (atL S n k)
theorem ShV.chg {w w':World} {v0 v1:Value} {S:Nat→Nat→Nat} {n g c:Nat→Nat} (h:ShV w v0 v1 S n g c) {L:List Nat} (hc:Chg L w w') (h0:g 0∉L) (h1:g 1∉L):ShV w' v0 v1 S n g c :=
 ⟨h.e0,h.e1,fun k hk=>(h.l k hk).chg hc (fun b hb=>by
  have hk2:k=0∨k=1:=by omega
  rcases hk2 with rfl | rfl
  ·have:g 0=b:=by simpa [Value.ownBlock] using hb
   rw [← this];exact h0
  ·have:g 1=b:=by simpa [Value.ownBlock] using hb
   rw [← this];exact h1)⟩
def seenTo (S:Nat→Nat→Nat) (n:Nat→Nat) (j b:Nat):Option Nat :=
 if b≠0∧∃ i,i<j∧(atL S n 0++atL S n 1).getD i 0=b then some 1 else none
theorem seen_hit {S:Nat→Nat→Nat} {n:Nat→Nat} {j:Nat} (h:(atL S n 0++atL S n 1).getD j 0≠0) (b:Nat):seenTo S n (j+1) b=(if b=(atL S n 0++atL S n 1).getD j 0 then some 1 else seenTo S n j b):=by
 unfold seenTo
 by_cases e:b=(atL S n 0++atL S n 1).getD j 0
 ·rw [if_pos e,if_pos ⟨by rw [e];exact h,j,by omega,e.symm⟩]
 ·rw [if_neg e]
  congr 1
  apply propext
  constructor
  ·rintro ⟨h0,i,hi,he⟩
   have:i≠j:=fun q=>e (by rw [← he,q])
   exact ⟨h0,i,by omega,he⟩
  ·rintro ⟨h0,i,hi,he⟩
   exact ⟨h0,i,by omega,he⟩
theorem seen_miss {S:Nat→Nat→Nat} {n:Nat→Nat} {j:Nat} (h:(atL S n 0++atL S n 1).getD j 0=0) (b:Nat):seenTo S n (j+1) b=seenTo S n j b:=by
 unfold seenTo
 congr 1
 apply propext
 constructor
 ·rintro ⟨h0,i,hi,he⟩
  have:i≠j:=fun q=>h0 (by rw [← he,q];exact h)
  exact ⟨h0,i,by omega,he⟩
 ·rintro ⟨h0,i,hi,he⟩
  exact ⟨h0,i,by omega,he⟩
theorem seen_new {T:Tal} {S:Nat→Nat→Nat} {n:Nat→Nat} (ho:ShOk T n S) {j:Nat} (hj:j<n 0+n 1) (h:(atL S n 0++atL S n 1).getD j 0≠0):seenTo S n j ((atL S n 0++atL S n 1).getD j 0)=none:=by
 unfold seenTo
 rw [if_neg]
 rintro ⟨_,i,hi,he⟩
 rw [both_get S n hj] at h he
 rw [both_get S n (by omega)] at he
 have ⟨a1,a2⟩:=kn_lt hj
 have ⟨b1,b2⟩:=kn_lt (n:=n) (j:=i) (by omega)
 have ⟨e1,e2⟩:=ho.apart _ _ _ _ b1 b2 a1 a2 (by rw [he];exact h) he
 have:=kn_inj e1 e2
 omega
theorem zeroInt (w:World):(zeroValue 3).run Tryz.prog w = .ok (.int .i64 0) w:=by
 go_simp
theorem KMapI.chg {w w':World} {b m:Nat} {f:Nat→Option Nat} {kt et:TypeId} (h:KMapI Tryz.prog kt et w b m f) {L:List Nat} (c:Chg L w w') (hb:b∉L):KMapI Tryz.prog kt et w' b m f:=h.same (c.block b h.lt hb)
theorem right_at {w:World} {t bc bk:Nat} {T:Tal} {v0 v1:Value} {S:Nat→Nat→Nat} {n g c:Nat→Nat} (h:TallyAt w t bc bk T) (hv:ShV w v0 v1 S n g c) (ho:ShOk T n S) :
  Calls Tryz.prog 102 #[.pointer (some ⟨t,0,none⟩),.agg #[v0,v1]] w fun e w'=>e = .returned (.bool true)∧Chg [] w w':=by
 obtain ⟨rfl,rfl,hl⟩:=hv
 have hn1:=h.n1
 have hn2:=h.n2
 have p1:=pg_pos hn1
 have p2:=pg_le (n:=T.n)
 have p3:=pg_pos p1
 have p4:=pg_le (n:=pg T.n)
 have q0:=ho.n0
 have q1:=ho.n1
 have hl0:=hl 0 (by omega)
 have hl1:=hl 1 (by omega)
 rw [q0] at hl0 ⊢
 rw [q1] at hl1 ⊢
 have HL0:=Lib.hid hl0
 have HL1:=Lib.hid hl1
 have HO:=Lib.hid ho
 have HQ:=Lib.hid (And.intro q0 q1)
 have HB:=Lib.hid (znb w (.cells #[.slice (some ⟨g 0,0,none⟩) (pg T.n) (c 0),.slice (some ⟨g 1,0,none⟩) (pg (pg T.n)) (c 1)] 42))
 have HC:=Lib.hid ((Chg.refl [] w).alloc (.cells #[.slice (some ⟨g 0,0,none⟩) (pg T.n) (c 0),.slice (some ⟨g 1,0,none⟩) (pg (pg T.n)) (c 1)] 42))
 have hT:=h.chg HC.out (by simp) (by simp) (by simp)
 have HT:=Lib.hid hT
 have h0:=h
 have H0:=Lib.hid h0
 clear hl hl0 hl1 ho h h0 q0 q1
 have E1:¬ (T.n:Int)=0:=by omega
 go_enter Tryz.func102,Tryz.ntmps102
 go_upto_region 2 with (first | (go_at_call 90;refine (blocks_at HT.out).mono ?_;rintro e w' ⟨rfl,rfl⟩) | (go_at_call 91;refine (pages_at _ hn1 hn2).mono ?_;rintro e w' ⟨rfl,rfl⟩))
 have hb:=HB.out
 have x0:=zcb hb 0
 have x1:=zcb hb 1
 simp only [List.getElem?_toArray,List.getElem?_cons_zero,List.getElem?_cons_succ] at x0 x1
 generalize w.alloc _=w1 at *
 clear hb
 have HQT:=Lib.hid (fun k=>HT.out.chg ((Chg.refl [] w1).drewN k) (by simp) (by simp) (by simp):∀ k,TallyAt (w1.drewN k) t bc bk T)
 have g1:((T.n:Int)==0)=false:=by simp;omega
 have g2:((pg T.n:Int) != (pg T.n:Int))=false:=by simp
 have g3:((pg (pg T.n):Int) != (pg (pg T.n):Int))=false:=by simp
 go_quiet (first | (go_at_call 90;exact quiet_left (blocks_at (HQT.out _))) | (go_at_call 91;exact quiet_left (pages_at _ p1 (by omega))))
 have mk:=fun w=>run_makeMap (P:=Tryz.prog) 68 w
 have z0:=(((Chg.refl [] w1).drewN nq).alloc (.map #[] 0)).cell (p:=⟨w.heap.size,0,none⟩) (zhl HB.out) (by simp) |>.trans x0
 have z1:=(((Chg.refl [] w1).drewN nq).alloc (.map #[] 0)).cell (p:=⟨w.heap.size,1,none⟩) (zhl HB.out) (by simp) |>.trans x1
 have HM:=Lib.hid (KMapI.made (P:=Tryz.prog) (kt:=3) (et:=3) (w1.drewN nq) T.n)
 have hs1:w.heap.size<w1.heap.size:=zhl HB.out
 have HC2:=Lib.hid ((HC.out.drewN nq).alloc (.map #[] 0))
 have hsm:((w1.drewN nq).alloc (.map #[] 0)).heap.size=w1.heap.size+1:=by simp [World.drewN]
 rw [show (w1.drewN nq).heap.size=w1.heap.size from rfl] at HM
 clear x0 x1 hT
 go_wp2_with fail
 have hcc:=(Chg.refl [] ((w1.drewN nq).alloc (.map #[] 0))).alloc (.cells #[.slice (some ⟨g 0,0,none⟩) (pg T.n) (c 0),.slice (some ⟨g 1,0,none⟩) (pg (pg T.n)) (c 1)] 27)
 have HNB:=Lib.hid (znb ((w1.drewN nq).alloc (.map #[] 0)) (.cells #[.slice (some ⟨g 0,0,none⟩) (pg T.n) (c 0),.slice (some ⟨g 1,0,none⟩) (pg (pg T.n)) (c 1)] 27))
 rw [hsm] at HNB
 have HC3:=Lib.hid (HC2.out.trans hcc)
 have HM3:=Lib.hid (HM.out.chg hcc (by simp))
 have hs3:=hcc.size
 rw [hsm] at hs3
 clear hcc z0 z1 hsm g1 g2 g3
 generalize ((w1.drewN nq).alloc (.map #[] 0)).alloc _=W at *
 have HT3:=Lib.hid (H0.out.chg HC3.out (by simp) (by simp) (by simp))
 refine (concat2_at (l:=atL S n 0) (m:=atL S n 1) (by rw [atL_len];exact HQ.out.1.symm) (by rw [atL_len];exact HQ.out.2.symm) HNB.out (HL0.out.chg HC3.out (by simp)) (HL1.out.chg HC3.out (by simp)) (by rw [atL_len,HQ.out.1];exact p1) (by rw [atL_len,atL_len,HQ.out.1,HQ.out.2];omega)).mono ?_
 rintro e w4 ⟨v,rfl,hown,hC4⟩
 have hlen:(atL S n 0++atL S n 1).length=pg T.n+pg (pg T.n):=by rw [List.length_append,atL_len,atL_len,HQ.out.1,HQ.out.2]
 have hsl:=SlI.of_own hown
 obtain ⟨a,cp,hv⟩:=hsl.len
 rw [hlen] at hv
 subst hv
 have hcell:∀ i,i<pg T.n+pg (pg T.n)→∃ gg,a=some ⟨gg,0,none⟩∧gg<w4.heap.size∧W.heap.size≤gg∧w4.cell? ⟨gg,i,none⟩=some (.int .i64 (((atL S n 0++atL S n 1).getD i 0:Nat):Int)):=by
  intro i hi
  rcases hsl with ⟨h1,h2⟩ | ⟨gg,cap,h1,h2,h3,h4,h5⟩
  ·rw [h2] at hlen;simp at hlen;omega
  ·injection h1 with h1 _ _
   exact ⟨gg,h1,h4,(ownBlock_new hown gg (by rw [h1];rfl)).1,h5 i (by rw [hlen];exact hi)⟩
 have hcap:pg T.n+pg (pg T.n)≤cp:=by
  rcases hsl with ⟨h1,h2⟩ | ⟨gg,cap,h1,h2,h3,h4,h5⟩
  ·rw [h2] at hlen;simp at hlen;omega
  ·injection h1 with _ _ h1
   rw [← hlen,h1];exact h2
 have HCE:=Lib.hid hcell
 have HM4:=Lib.hid (HM3.out.chg hC4 (by simp))
 have HT4:=Lib.hid (HT3.out.chg hC4 (by simp) (by simp) (by simp))
 have HC4:=Lib.hid (HC3.out.trans hC4)
 have HLN:=Lib.hid hlen
 have hmt:w1.heap.size≠t∧w1.heap.size≠bc∧w1.heap.size≠bk:=by
  have a1:=HT.out.lt0
  have a2:=HT.out.lt1
  have a3:=HT.out.lt2
  omega
 have HMT:=Lib.hid hmt
 clear hcell hown hC4 hsl hlen hmt HB HM HM3 HT HT3 HQT HL0 HL1 HNB
 go_wp2_with fail
 go_loopw [38] (fun s wr=>∃ k:Nat,k≤pg T.n+pg (pg T.n)∧s = .int .i64 (k:Int)∧Hid (KMapI Tryz.prog 3 3 wr w1.heap.size T.n (seenTo S n k)∧Chg [w1.heap.size] w4 wr)) (fun s _=>pg T.n+pg (pg T.n) - (intOf s).toNat)
 case atStart=>exact ⟨0,Nat.zero_le _,rfl,⟨HM4.out.congr fun i _=>by unfold seenTo;rw [if_neg];rintro ⟨_,i,hi,_⟩;omega,Chg.refl _ _⟩⟩
 case round =>
  obtain ⟨k,hk,rfl,hH⟩:=hrel
  by_cases hlt:k<pg T.n+pg (pg T.n)
  ·obtain ⟨gg,rfl,hg1,hg2,hg3⟩:=HCE.out k hlt
   have hg4:=(hH.out.2.cell (p:=⟨gg,k,none⟩) hg1 (by simp;omega)).trans hg3
   have HTr:=Lib.hid (HT4.out.chg hH.out.2 (by simp;exact fun e=>HMT.out.1 e.symm) (by simp;exact fun e=>HMT.out.2.1 e.symm) (by simp;exact fun e=>HMT.out.2.2 e.symm))
   obtain ⟨b,hb⟩:∃ b,b=(atL S n 0++atL S n 1).getD k 0:=⟨_,rfl⟩
   rw [← hb] at hg4
   have HBE:=Lib.hid hb
   clear hb hg3
   by_cases hb0:b=0
   ·subst hb0
    rw [show (((0:Nat)):Int)=0 from rfl] at hg4
    go_wp2_with fail
    go_roundw
    case rel=>exact ⟨k+1,by omega,by go_num,⟨hH.out.1.congr fun i _=>(seen_miss HBE.out.symm i).symm,hH.out.2⟩⟩
    case measure=>simp [intOf];omega
   ·have hkk:k<n 0+n 1:=by rw [HQ.out.1,HQ.out.2];exact hlt
    have hhas:=HO.out.has _ _ (kn_lt hkk).1 (kn_lt hkk).2 (by rw [← both_get S n hkk,← HBE.out];exact hb0)
    rw [← both_get S n hkk,← HBE.out] at hhas
    obtain ⟨hbn,hbT⟩:=hhas
    have hsn:=seen_new HO.out hkk (by rw [← HBE.out];exact hb0)
    rw [← HBE.out] at hsn
    have hlk:=(hH.out.1.look (t:=68) Tryz.underlying3 Tryz.underlying3 Tryz.underlying68 (zeroInt wr) hbn hn2).2
    rw [hsn] at hlk
    simp only [Option.getD_none] at hlk
    rw [show (((0:Nat)):Int)=0 from rfl] at hlk
    obtain ⟨w5,hrun,hK5,hturn⟩:=hH.out.1.put (t:=68) Tryz.underlying3 Tryz.underlying3 Tryz.underlying68 hbn hn2 (v:=1) (by omega)
    rw [show (((1:Nat)):Int)=1 from rfl] at hrun
    have hlk5:=(hK5.look (t:=68) Tryz.underlying3 Tryz.underlying3 Tryz.underlying68 (zeroInt w5) hbn hn2).2
    simp only [if_true,Option.getD_some] at hlk5
    rw [show (((1:Nat)):Int)=1 from rfl] at hlk5
    have hb0':¬ (b:Int)=0:=by omega
    have HK5:=Lib.hid hK5
    have HC5:=Lib.hid ((Chg.refl [w1.heap.size] wr).grown hturn.grown (by simp))
    have HT5:=Lib.hid (HTr.out.chg HC5.out (by simp;exact fun e=>HMT.out.1 e.symm) (by simp;exact fun e=>HMT.out.2.1 e.symm) (by simp;exact fun e=>HMT.out.2.2 e.symm))
    have hgv:Calls Tryz.prog 92 #[.pointer (some ⟨t,0,none⟩),.int .i64 (b:Int)] w5 fun e w'=>e = .returned (.int .i64 (T.now b:Int))∧w5=w':=by
     have:=get_at HT5.out (b:Int)
     rw [getV_nat hbn] at this
     exact this
    have hbT':¬ (T.now b:Int)=0:=by omega
    clear hK5 hturn hsn
    go_wp2_with (go_at_call 92;refine hgv.mono ?_;rintro e w' ⟨rfl,rfl⟩)
    go_roundw
    case rel=>exact ⟨k+1,by omega,by go_num,⟨HK5.out.congr fun i _=>by rw [seen_hit (by rw [← HBE.out];exact hb0),← HBE.out],hH.out.2.trans HC5.out⟩⟩
    case measure=>simp [intOf];omega
  ·obtain rfl:k=pg T.n+pg (pg T.n):=by omega
   go_wp2_with fail
   go_ret
   have hsz:=HC4.out.size
   exact ⟨rfl,HC4.out.then hH.out.2 (fun i hi => .inr (by simp at hi;omega))⟩
end Go.Proofs.YtkhcaclndepgbaaGreat
