/- Layer 10: a list's clone, which ones are so, whether a sheet is right. · A map from small numbers to ints in memory. (Printed by mkplm.py out of XTal.) · Layer 10: place.Right of a sheet that is right. · Layer 10: pages under way in memory; has a page to be placed? -/
import Derived.Test.YtkhcaclndepgbaaGreatZn11
set_option linter.unusedVariables false
set_option linter.unusedSimpArgs false
set_option maxRecDepth 100000
set_option maxHeartbeats 20000000
namespace Go.Proofs.YtkhcaclndepgbaaGreat
open Go.RowKit
theorem own_empty (w:World):(w.alloc (.cells #[] 3)).ownsRow w.heap.size 3 1 (.slice (some ⟨w.heap.size,0,none⟩) 0 0) 0 [] :=
 ⟨rfl,.inr ⟨w.heap.size,0,#[],rfl,zLr _,znb w _,Nat.zero_le _,by unfold maxLen;omega,rfl,rfl⟩⟩
theorem cloneI_at {w:World} {g c n:Nat} {l:List Nat} (e:n=l.length) (h:SlI w (.slice (some ⟨g,0,none⟩) n c) l) (hl:l.length<=10000) :
  Calls Tryz.prog 132 #[.slice (some ⟨g,0,none⟩) n c] w fun e w'=>∃ v,e = .returned v/\w'.ownsRow w.heap.size 3 1 v l.length (intVs l)/\Chg [] w w':=by
 subst e;have H:=zh h;clear h;have hnil:=fun w=>Lib.run_eql_slice_nil (P:=Tryz.prog) w 27 3 (some ⟨g,0,none⟩) l.length c 0 0 Tryz.underlying27;simp only [Option.isNone_some] at hnil;have HE:=zh (own_empty w);have HC0:=zh ((Chg.refl [] w).alloc (.cells #[] 3));go_enter Tryz.func132,Tryz.ntmps132;go_wp2_with (at_builtin;refine wpList_appI rfl _ _ rfl w.heap.size _ [] rfl HE.out g c l rfl (H.out.chg HC0.out (by simp)) (by simp;omega) (by simp) ?_;intro v' w2 hown2 hg2;have HOWN2:=zh hown2;have HC2:=zh (HC0.out.grown hg2 (fun k hk => .inr (HE.out.lt k hk).1));clear hown2 hg2);go_ret;exact ⟨_,rfl,HOWN2.out,HC2.out⟩
def yesTo (p:Nat->Bool) (k:Nat):List Nat:=(List.range k).filter p
theorem yesTo_hit {p:Nat->Bool} {k:Nat} (h:p k=true):yesTo p (k+1)=yesTo p k++[k]:=by simp [yesTo,List.range_succ,List.filter_append,h]
theorem yesTo_miss {p:Nat->Bool} {k:Nat} (h:p k=false):yesTo p (k+1)=yesTo p k:=by simp [yesTo,List.range_succ,List.filter_append,h]
theorem yesTo_le (p:Nat->Bool) (k:Nat):(yesTo p k).length<=k:=zLt (List.length_filter_le _ _) (by simp)
theorem mem_yesTo {p:Nat->Bool} {k b:Nat} : b∈yesTo p k↔b<k/\p b=true:=by simp [yesTo]
theorem which_at {w:World} {h n:Nat} {p:Nat->Bool} (hb:w.heap[h]?=some (.cells (bools n p) 4 (0,0))) (hn:n<=4096) :
  Calls Tryz.prog 136 #[.slice (some ⟨h,0,none⟩) n n] w fun e w'=>∃ v,e = .returned v/\w'.ownsRow w.heap.size 3 1 v (yesTo p n).length (intVs (yesTo p n))/\Chg [] w w':=by
 have HB:=zh hb;have lh:=zhl hb;clear hb;go_enter Tryz.func136,Tryz.ntmps136;go_wp2_with fail
 go_loopw [3,8] (fun v s wr=>∃ k:Nat,k<=n/\s = .int .i64 (k:Int)/\Hid (wr.ownsRow w.heap.size 3 1 v (yesTo p k).length (intVs (yesTo p k))/\Chg [] w wr)) (fun _ s _=>n - (intOf s).toNat)
 case atStart=>exact ⟨0,Nat.zero_le _,rfl,⟨World.ownsRow_nil _ _ _ _,Chg.refl _ _⟩⟩
 case round =>
  obtain ⟨k,hk,rfl,hH⟩:=hrel;have hown:=hH.out.1;have hC:=hH.out.2;have HOW:=zh hown;have HCW:=zh hC;have hsz:=hC.size;have HBK:=zh (fun k hk=>(hown.lt k hk).1:∀ k,(Value.ownBlock _=some k)->w.heap.size<=k);by_cases hlt:k<n
  ·have hcell:=(hC.cell (p:=⟨h,k,none⟩) lh (by simp)).trans ((zcb HB.out k).trans (bools_get hlt))
   have hyl:=yesTo_le p k;clear hown hC hH
   cases hp:p k with
   | true =>
    rw [hp] at hcell;have HY:=zh (yesTo_hit hp);have HN:=zh (znb wr (.cells #[.int .i64 (k:Int)] 3));go_wp2_with (at_builtin;refine wpList_app1 _ rfl _ _ 27 rfl w.heap.size 3 (.int .i64 0) 8 Tryz.underlying27 infoInt8 rfl _ _ _ rfl (own_chg HOW.out ((Chg.refl [] wr).alloc _) (by simp)) wr.heap.size 1 (.int .i64 (k:Int)) rfl (zcb HN.out 0) rfl (by omega) (by omega) (by simp;omega) ?_;intro v' w2 hown2 hg2;have HOWN2:=zh hown2;have HC2:=zh ((HCW.out.alloc _).grown hg2 (fun k hk => .inr (HBK.out k hk)));clear hown2 hg2)
    go_roundw
    case rel=>exact ⟨k+1,by omega,by go_num,⟨by rw [HY.out,intVs_app,List.length_append];exact HOWN2.out,HC2.out⟩⟩
    case measure=>simp [intOf];omega
   | false =>
    rw [hp] at hcell;have HY:=zh (yesTo_miss hp);go_wp2_with fail
    go_roundw
    case rel=>exact ⟨k+1,by omega,by go_num,⟨by rw [HY.out];exact HOW.out,HCW.out⟩⟩
    case measure=>simp [intOf];omega
  ·obtain rfl:k=n:=by omega
   clear hown hC hH;go_wp2_with fail;go_ret;exact ⟨_,rfl,HOW.out,HCW.out⟩
open Go.RowKit Go.Maps
def KMapI (P:Program) (kt et:TypeId) (w:World) (b n:Nat) (f:Nat->Option Nat):Prop :=
 ∃ D:DataW Unit,w.ownsMap P kt (plainElem P et) b (Maps.size D) D/\Maps.size D=cnt n (fun k=>(f k).isSome) /\
  (∀ l,Maps.has D l=true->∃ k,k<n/\l = .int .i64 (k:Int)/\(f k).isSome=true) /\
  (∀ k v,k<n->f k=some v->Maps.has D (.int .i64 (k:Int))=true/\∀ z,D.atKey (.int .i64 (k:Int)) z = .lit (.int .i64 (v:Int)))
section
variable {P:Program} {kt et t:TypeId} {w:World} {b n:Nat} {f:Nat->Option Nat}
theorem KMapI.lt (h:KMapI P kt et w b n f):b<w.heap.size:=by
 obtain ⟨D,h1,_⟩:=h;exact h1.lt
theorem KMapI.same {w':World} (h:KMapI P kt et w b n f) (e:w'.heap[b]?=w.heap[b]?):KMapI P kt et w' b n f:=by
 obtain ⟨D,⟨es,c,hb,hr⟩,hh⟩:=h;exact ⟨D,⟨es,c,e.trans hb,hr⟩,hh⟩
theorem KMapI.congr {g:Nat->Option Nat} (h:KMapI P kt et w b n f) (e:∀ i,i<n->f i=g i):KMapI P kt et w b n g:=by
 obtain ⟨D,h1,h2,h3,h4⟩:=h;refine ⟨D,h1,h2.trans (cnt_congr fun i hi=>by rw [e i hi]),fun l hl=>?_,fun k v hk hv=>h4 k v hk (by rw [e k hk];exact hv)⟩;obtain ⟨k,hk,hl',hs⟩:=h3 l hl;exact ⟨k,hk,hl',by rw [<- e k hk];exact hs⟩
theorem KMapI.has (_h:KMapI P kt et w b n f) {D:DataW Unit} (h3:∀ l,Maps.has D l=true->∃ k,k<n/\l = .int .i64 (k:Int)/\(f k).isSome=true)
  (h4:∀ k v,k<n->f k=some v->Maps.has D (.int .i64 (k:Int))=true/\∀ z,D.atKey (.int .i64 (k:Int)) z = .lit (.int .i64 (v:Int))) {k:Nat} (hk:k<n) :
  Maps.has D (.int .i64 (k:Int))=(f k).isSome:=by
 cases hf:f k with
 | some v=>exact (h4 k v hk hf).1
 | none =>
  cases hh:Maps.has D (.int .i64 (k:Int)) with
  | false=>rfl
  | true =>
   obtain ⟨k',hk',e,hs⟩:=h3 _ hh;injection e with _ e;have:k=k':=by omega
   subst this;rw [hf] at hs;cases hs
theorem KMapI.look (h:KMapI P kt et w b n f) (hkt:P.underlying kt=some (.int .i64)) (het:P.underlying et=some (.int .i64)) (ht:P.underlying t=some (.map kt et))
  (hz:(zeroValue et).run P w = .ok (.int .i64 0) w) {k:Nat} (hk:k<n) (hn:n<=4096) :
  (Instr.lookup t (.map (some b)) (.int .i64 (k:Int)) true).run P w = .ok (.tuple #[.int .i64 (((f k).getD 0:Nat):Int),.bool (f k).isSome]) w /\
  (Instr.lookup t (.map (some b)) (.int .i64 (k:Int)) false).run P w = .ok (.int .i64 (((f k).getD 0:Nat):Int)) w:=by
 have hh:=h;obtain ⟨D,h1,h2,h3,h4⟩:=h;have hkey:keyOf P kt (.int .i64 (k:Int))=some (.int .i64 (k:Int)):=Maps.keyOf_int_mk hkt (WalkArith.wf_i64 (by omega));have K:=Maps.int_keyed hkt;obtain ⟨v,ps,hrun,hv⟩:=h1.look_ok K ht hz (plainElem_int het (by decide)) hkey;obtain ⟨c,hrun',hat,_⟩:=h1.lookup_int K ht het hz hkey;obtain ⟨a,rfl,ha,hw⟩:=plainElem_int_inv het hv;simp only [Prod.mk.injEq] at ha
 have hc:c=a:=by
  have:=hat.symm.trans ha.1;injection this with this;injection this
 subst hc;rw [hh.has h3 h4 hk] at hrun
 have e:c=(((f k).getD 0:Nat):Int):=by
  cases hf:f k with
  | some v =>
   have:=((h4 k v hk hf).2 _).symm.trans hat;injection this with this;injection this with _ this;simpa using this.symm
  | none =>
   have hn:Maps.has D (.int .i64 (k:Int))=false:=by rw [hh.has h3 h4 hk,hf];rfl
   have:=(Maps.atKey_of_not_has hn (.lit (.int .i64 0))).symm.trans hat;injection this with this;injection this with _ this;simpa using this.symm
 subst e;exact ⟨hrun,hrun'⟩
theorem KMapI.put (h:KMapI P kt et w b n f) (hkt:P.underlying kt=some (.int .i64)) (het:P.underlying et=some (.int .i64)) (ht:P.underlying t=some (.map kt et)) {k v:Nat} (hk:k<n) (hn:n<=4096) (hv:v<=1000000) :
  ∃ w',(Instr.mapUpdate t (.map (some b)) (.int .i64 (k:Int)) (.int .i64 (v:Int))).run P w = .ok () w'/\KMapI P kt et w' b n (fun i=>if i=k then some v else f i)/\w.mapTurned w' b:=by
 have hh:=h;obtain ⟨D,h1,h2,h3,h4⟩:=h;have hkey:keyOf P kt (.int .i64 (k:Int))=some (.int .i64 (k:Int)):=Maps.keyOf_int_mk hkt (WalkArith.wf_i64 (by omega));have K:=Maps.int_keyed hkt;have hle:=cnt_le (fun k=>(f k).isSome) n;have hik:WideAt.IsKeyLit (.int .i64 (k:Int)):=K.key hkey;obtain ⟨w',hrun,hown,hturn⟩:=h1.store K ht (by unfold maxLen;omega) hkey (plainElem_int het ((show (Lit.int .i64 (v:Int)).wf=true from WalkArith.wf_i64 (by omega))));refine ⟨w',hrun,⟨_,ownsMap_tight hown,?_,?_,?_⟩,hturn⟩
 ·have e1:=Maps.size_put (k := .int .i64 (k:Int)) (h1.tidy K) (.lit (.int .i64 (v:Int)))
  have e2:=cnt_upd (p:=fun i=>(f i).isSome) (q:=fun i=>(if i=k then some v else f i).isSome) hk (fun i _ hne=>by simp [hne]);rw [hh.has h3 h4 hk] at e1;simp only [if_true,Option.isSome_some] at e2;rw [e1]
  split at e2 <;> split <;> simp_all <;> omega
 ·intro l hl
  by_cases e:l = .int .i64 (k:Int)
  ·exact ⟨k,hk,e,by simp⟩
  ·rw [Maps.has_put_other e] at hl
   obtain ⟨k',hk',rfl,hs⟩:=h3 l hl;have hne:k'≠k:=fun q=>e (by rw [q]);exact ⟨k',hk',rfl,by simp [hne,hs]⟩
 ·intro i v' hi hv'
  by_cases e:i=k
  ·subst e
   simp only [if_true,Option.some.injEq] at hv';subst hv';exact ⟨Maps.has_put_same h1.isMap hik _,fun z=>Maps.atKey_put_same h1.isMap hik _ z⟩
  ·simp only [e,if_false] at hv'
   have hne:Lit.int .i64 (i:Int) ≠ .int .i64 (k:Int):=fun q=>by injection q with _ q;omega
   obtain ⟨g1,g2⟩:=h4 i v' hi hv';exact ⟨by rw [Maps.has_put_other hne];exact g1,fun z=>by rw [Maps.atKey_put_other hne];exact g2 z⟩
theorem KMapI.ofEmpty (h:w.ownsMap P kt (plainElem P et) b 0 (.map []:DataW Unit)) (n:Nat):KMapI P kt et w b n (fun _=>none):=by
 refine ⟨.map [],h,(cnt_zero fun _ _=>rfl).symm,?_,?_⟩
 ·intro l hl;cases hl
 ·intro k v _ hv;cases hv
theorem KMapI.made (w:World) (n:Nat):KMapI P kt et (w.alloc (.map #[] 0)) w.heap.size n (fun _=>none) :=
 KMapI.ofEmpty (World.ownsMap_made _ _ _ _) n
end
end Go.Proofs.YtkhcaclndepgbaaGreat
namespace Go.Proofs.YtkhcaclndepgbaaGreat
open Go.RowKit
def atL (S:Nat->Nat->Nat) (n:Nat->Nat) (k:Nat):List Nat:=(List.range (n k)).map (S k)
theorem atL_len (S:Nat->Nat->Nat) (n:Nat->Nat) (k:Nat):(atL S n k).length=n k:=by simp [atL]
theorem atL_get (S:Nat->Nat->Nat) (n:Nat->Nat) {k i:Nat} (h:i<n k):(atL S n k).getD i 0=S k i:=by
 simp [atL,zgD,h]
def kindOf (n:Nat->Nat) (j:Nat):Nat:=if j<n 0 then 0 else 1
def numOf (n:Nat->Nat) (j:Nat):Nat:=if j<n 0 then j else j - n 0
theorem kn_lt {n:Nat->Nat} {j:Nat} (h:j<n 0+n 1):kindOf n j<2/\numOf n j<n (kindOf n j):=by
 unfold kindOf numOf
 split
 ·exact ⟨by omega,by assumption⟩
 ·exact ⟨by omega,by omega⟩
theorem kn_inj {n:Nat->Nat} {i j:Nat} (h1:kindOf n i=kindOf n j) (h2:numOf n i=numOf n j):i=j:=by
 unfold kindOf at h1;unfold numOf at h2;by_cases a:i<n 0 <;> by_cases b:j<n 0 <;> simp [a,b] at h1 h2 <;> omega
theorem both_get (S:Nat->Nat->Nat) (n:Nat->Nat) {j:Nat} (h:j<n 0+n 1):(atL S n 0++atL S n 1).getD j 0=S (kindOf n j) (numOf n j):=by
 unfold kindOf numOf;rw [zgD];by_cases hj:j<n 0
 ·rw [if_pos hj,if_pos hj,List.getElem?_append_left (by rw [atL_len];exact hj),<- zgD,atL_get _ _ hj]
 ·rw [if_neg hj,if_neg hj,List.getElem?_append_right (by rw [atL_len];omega),atL_len,<- zgD,atL_get _ _ (by omega)]
structure ShV (w:World) (v0 v1:Value) (S:Nat->Nat->Nat) (n:Nat->Nat) (g c:Nat->Nat):Prop where
 e0:v0 = .slice (some ⟨g 0,0,none⟩) (n 0) (c 0)
 e1:v1 = .slice (some ⟨g 1,0,none⟩) (n 1) (c 1)
 l:∀ k,k<2->SlI w (.slice (some ⟨g k,0,none⟩) (n k) (c k)) (atL S n k)
theorem ShV.chg {w w':World} {v0 v1:Value} {S:Nat->Nat->Nat} {n g c:Nat->Nat} (h:ShV w v0 v1 S n g c) {L:List Nat} (hc:Chg L w w') (h0:g 0∉L) (h1:g 1∉L):ShV w' v0 v1 S n g c :=
 ⟨h.e0,h.e1,fun k hk=>(h.l k hk).chg hc (fun b hb=>by
  have hk2:k=0∨k=1:=by omega
  rcases hk2 with rfl | rfl
  ·have:g 0=b:=by simpa [Value.ownBlock] using hb
   rw [<- this];exact h0
  ·have:g 1=b:=by simpa [Value.ownBlock] using hb
   rw [<- this];exact h1)⟩
def seenTo (S:Nat->Nat->Nat) (n:Nat->Nat) (j b:Nat):Option Nat :=
 if b≠0/\∃ i,i<j/\(atL S n 0++atL S n 1).getD i 0=b then some 1 else none
theorem seen_hit {S:Nat->Nat->Nat} {n:Nat->Nat} {j:Nat} (h:(atL S n 0++atL S n 1).getD j 0≠0) (b:Nat):seenTo S n (j+1) b=(if b=(atL S n 0++atL S n 1).getD j 0 then some 1 else seenTo S n j b):=by
 unfold seenTo;by_cases e:b=(atL S n 0++atL S n 1).getD j 0
 ·rw [if_pos e,if_pos ⟨by rw [e];exact h,j,by omega,e.symm⟩]
 ·rw [if_neg e]
  congr 1;apply propext;constructor
  ·rintro ⟨h0,i,hi,he⟩
   have:i≠j:=fun q=>e (by rw [<- he,q]);exact ⟨h0,i,by omega,he⟩
  ·rintro ⟨h0,i,hi,he⟩
   exact ⟨h0,i,by omega,he⟩
theorem seen_miss {S:Nat->Nat->Nat} {n:Nat->Nat} {j:Nat} (h:(atL S n 0++atL S n 1).getD j 0=0) (b:Nat):seenTo S n (j+1) b=seenTo S n j b:=by
 unfold seenTo;congr 1;apply propext;constructor
 ·rintro ⟨h0,i,hi,he⟩
  have:i≠j:=fun q=>h0 (by rw [<- he,q];exact h);exact ⟨h0,i,by omega,he⟩
 ·rintro ⟨h0,i,hi,he⟩
  exact ⟨h0,i,by omega,he⟩
theorem seen_new {T:Tal} {S:Nat->Nat->Nat} {n:Nat->Nat} (ho:ShOk T n S) {j:Nat} (hj:j<n 0+n 1) (h:(atL S n 0++atL S n 1).getD j 0≠0):seenTo S n j ((atL S n 0++atL S n 1).getD j 0)=none:=by
 unfold seenTo;rw [if_neg];rintro ⟨_,i,hi,he⟩;rw [both_get S n hj] at h he;rw [both_get S n (by omega)] at he;have ⟨a1,a2⟩:=kn_lt hj;have ⟨b1,b2⟩:=kn_lt (n:=n) (j:=i) (by omega);have ⟨e1,e2⟩:=ho.apart _ _ _ _ b1 b2 a1 a2 (by rw [he];exact h) he;have:=kn_inj e1 e2;omega
theorem zeroInt (w:World):(zeroValue 3).run Tryz.prog w = .ok (.int .i64 0) w:=by
 go_simp
theorem KMapI.chg {w w':World} {b m:Nat} {f:Nat->Option Nat} {kt et:TypeId} (h:KMapI Tryz.prog kt et w b m f) {L:List Nat} (c:Chg L w w') (hb:b∉L):KMapI Tryz.prog kt et w' b m f:=h.same (c.block b h.lt hb)
theorem right_at {w:World} {t bc bk:Nat} {T:Tal} {v0 v1:Value} {S:Nat->Nat->Nat} {n g c:Nat->Nat} (h:TallyAt w t bc bk T) (hv:ShV w v0 v1 S n g c) (ho:ShOk T n S) :
  Calls Tryz.prog 102 #[.pointer (some ⟨t,0,none⟩),.agg #[v0,v1]] w fun e w'=>e = .returned (.bool true)/\Chg [] w w':=by
 obtain ⟨rfl,rfl,hl⟩:=hv;have hn1:=h.n1;have hn2:=h.n2;have p1:=pg_pos hn1;have p2:=pg_le (n:=T.n);have p3:=pg_pos p1;have p4:=pg_le (n:=pg T.n);have q0:=ho.n0;have q1:=ho.n1;have hl0:=hl 0 (by omega);have hl1:=hl 1 (by omega);rw [q0] at hl0 ⊢;rw [q1] at hl1 ⊢;have HL0:=zh hl0;have HL1:=zh hl1;have HO:=zh ho;have HQ:=zh (zA q0 q1);have HB:=zh (znb w (.cells #[.slice (some ⟨g 0,0,none⟩) (pg T.n) (c 0),.slice (some ⟨g 1,0,none⟩) (pg (pg T.n)) (c 1)] 42));have HC:=zh ((Chg.refl [] w).alloc (.cells #[.slice (some ⟨g 0,0,none⟩) (pg T.n) (c 0),.slice (some ⟨g 1,0,none⟩) (pg (pg T.n)) (c 1)] 42));have hT:=h.chg HC.out (by simp) (by simp) (by simp);have HT:=zh hT;have h0:=h;have H0:=zh h0;clear hl hl0 hl1 ho h h0 q0 q1;have E1:¬ (T.n:Int)=0:=by omega
 go_enter Tryz.func102,Tryz.ntmps102;go_upto_region 2 with (first | (go_at_call 90;refine (blocks_at HT.out).mono ?_;rintro e w' ⟨rfl,rfl⟩) | (go_at_call 91;refine (pages_at _ hn1 hn2).mono ?_;rintro e w' ⟨rfl,rfl⟩))
 have hb:=HB.out;have x0:=zcb hb 0;have x1:=zcb hb 1;simp only [tA1,tA3,tA2] at x0 x1;generalize w.alloc _=w1 at *;clear hb;have HQT:=zh (fun k=>HT.out.chg ((Chg.refl [] w1).drewN k) (by simp) (by simp) (by simp):∀ k,TallyAt (w1.drewN k) t bc bk T);have g1:((T.n:Int)==0)=false:=by simp;omega
 have g2:((pg T.n:Int) != (pg T.n:Int))=false:=by simp
 have g3:((pg (pg T.n):Int) != (pg (pg T.n):Int))=false:=by simp
 go_quiet (first | (go_at_call 90;exact quiet_left (blocks_at (HQT.out _))) | (go_at_call 91;exact quiet_left (pages_at _ p1 (by omega))))
 have mk:=fun w=>run_makeMap (P:=Tryz.prog) 68 w;have z0:=(((Chg.refl [] w1).drewN nq).alloc (.map #[] 0)).cell (p:=⟨w.heap.size,0,none⟩) (zhl HB.out) (by simp) |>.trans x0
 have z1:=(((Chg.refl [] w1).drewN nq).alloc (.map #[] 0)).cell (p:=⟨w.heap.size,1,none⟩) (zhl HB.out) (by simp) |>.trans x1
 have HM:=zh (KMapI.made (P:=Tryz.prog) (kt:=3) (et:=3) (w1.drewN nq) T.n);have hs1:w.heap.size<w1.heap.size:=zhl HB.out;have HC2:=zh ((HC.out.drewN nq).alloc (.map #[] 0));have hsm:((w1.drewN nq).alloc (.map #[] 0)).heap.size=w1.heap.size+1:=by simp [World.drewN]
 rw [show (w1.drewN nq).heap.size=w1.heap.size from rfl] at HM;clear x0 x1 hT;go_wp2_with fail;have hcc:=(Chg.refl [] ((w1.drewN nq).alloc (.map #[] 0))).alloc (.cells #[.slice (some ⟨g 0,0,none⟩) (pg T.n) (c 0),.slice (some ⟨g 1,0,none⟩) (pg (pg T.n)) (c 1)] 27);have HNB:=zh (znb ((w1.drewN nq).alloc (.map #[] 0)) (.cells #[.slice (some ⟨g 0,0,none⟩) (pg T.n) (c 0),.slice (some ⟨g 1,0,none⟩) (pg (pg T.n)) (c 1)] 27));rw [hsm] at HNB;have HC3:=zh (HC2.out.trans hcc);have HM3:=zh (HM.out.chg hcc (by simp));have hs3:=hcc.size;rw [hsm] at hs3;clear hcc z0 z1 hsm g1 g2 g3;generalize ((w1.drewN nq).alloc (.map #[] 0)).alloc _=W at *;have HT3:=zh (H0.out.chg HC3.out (by simp) (by simp) (by simp));refine (concat2_at (l:=atL S n 0) (m:=atL S n 1) (by rw [atL_len];exact HQ.out.1.symm) (by rw [atL_len];exact HQ.out.2.symm) HNB.out (HL0.out.chg HC3.out (by simp)) (HL1.out.chg HC3.out (by simp)) (by rw [atL_len,HQ.out.1];exact p1) (by rw [atL_len,atL_len,HQ.out.1,HQ.out.2];omega)).mono ?_;rintro e w4 ⟨v,rfl,hown,hC4⟩;have hlen:(atL S n 0++atL S n 1).length=pg T.n+pg (pg T.n):=by rw [List.length_append,atL_len,atL_len,HQ.out.1,HQ.out.2]
 have hsl:=SlI.of_own hown;obtain ⟨a,cp,hv⟩:=hsl.len;rw [hlen] at hv;subst hv
 have hcell:∀ i,i<pg T.n+pg (pg T.n)->∃ gg,a=some ⟨gg,0,none⟩/\gg<w4.heap.size/\W.heap.size<=gg/\w4.cell? ⟨gg,i,none⟩=some (.int .i64 (((atL S n 0++atL S n 1).getD i 0:Nat):Int)):=by
  intro i hi;rcases hsl with ⟨h1,h2⟩ | ⟨gg,cap,h1,h2,h3,h4,h5⟩
  ·rw [h2] at hlen;simp at hlen;omega
  ·injection h1 with h1 _ _
   exact ⟨gg,h1,h4,(ownBlock_new hown gg (by rw [h1];rfl)).1,h5 i (by rw [hlen];exact hi)⟩
 have hcap:pg T.n+pg (pg T.n)<=cp:=by
  rcases hsl with ⟨h1,h2⟩ | ⟨gg,cap,h1,h2,h3,h4,h5⟩
  ·rw [h2] at hlen;simp at hlen;omega
  ·injection h1 with _ _ h1
   rw [<- hlen,h1];exact h2
 have HCE:=zh hcell;have HM4:=zh (HM3.out.chg hC4 (by simp));have HT4:=zh (HT3.out.chg hC4 (by simp) (by simp) (by simp));have HC4:=zh (HC3.out.trans hC4);have HLN:=zh hlen
 have hmt:w1.heap.size≠t/\w1.heap.size≠bc/\w1.heap.size≠bk:=by
  have a1:=HT.out.lt0;have a2:=HT.out.lt1;have a3:=HT.out.lt2;omega
 have HMT:=zh hmt;clear hcell hown hC4 hsl hlen hmt HB HM HM3 HT HT3 HQT HL0 HL1 HNB;go_wp2_with fail
 go_loopw [38] (fun s wr=>∃ k:Nat,k<=pg T.n+pg (pg T.n)/\s = .int .i64 (k:Int)/\Hid (KMapI Tryz.prog 3 3 wr w1.heap.size T.n (seenTo S n k)/\Chg [w1.heap.size] w4 wr)) (fun s _=>pg T.n+pg (pg T.n) - (intOf s).toNat)
 case atStart=>exact ⟨0,Nat.zero_le _,rfl,⟨HM4.out.congr fun i _=>by unfold seenTo;rw [if_neg];rintro ⟨_,i,hi,_⟩;omega,Chg.refl _ _⟩⟩
 case round =>
  obtain ⟨k,hk,rfl,hH⟩:=hrel;by_cases hlt:k<pg T.n+pg (pg T.n)
  ·obtain ⟨gg,rfl,hg1,hg2,hg3⟩:=HCE.out k hlt
   have hg4:=(hH.out.2.cell (p:=⟨gg,k,none⟩) hg1 (by simp;omega)).trans hg3;have HTr:=zh (HT4.out.chg hH.out.2 (by simp;exact fun e=>HMT.out.1 e.symm) (by simp;exact fun e=>HMT.out.2.1 e.symm) (by simp;exact fun e=>HMT.out.2.2 e.symm));obtain ⟨b,hb⟩:∃ b,b=(atL S n 0++atL S n 1).getD k 0:=⟨_,rfl⟩;rw [<- hb] at hg4;have HBE:=zh hb;clear hb hg3;by_cases hb0:b=0
   ·subst hb0
    rw [show (((0:Nat)):Int)=0 from rfl] at hg4;go_wp2_with fail
    go_roundw
    case rel=>exact ⟨k+1,by omega,by go_num,⟨hH.out.1.congr fun i _=>(seen_miss HBE.out.symm i).symm,hH.out.2⟩⟩
    case measure=>simp [intOf];omega
   ·have hkk:k<n 0+n 1:=by rw [HQ.out.1,HQ.out.2];exact hlt
    have hhas:=HO.out.has _ _ (kn_lt hkk).1 (kn_lt hkk).2 (by rw [<- both_get S n hkk,<- HBE.out];exact hb0);rw [<- both_get S n hkk,<- HBE.out] at hhas;obtain ⟨hbn,hbT⟩:=hhas;have hsn:=seen_new HO.out hkk (by rw [<- HBE.out];exact hb0);rw [<- HBE.out] at hsn;have hlk:=(hH.out.1.look (t:=68) Tryz.underlying3 Tryz.underlying3 Tryz.underlying68 (zeroInt wr) hbn hn2).2;rw [hsn] at hlk;simp only [Option.getD_none] at hlk;rw [show (((0:Nat)):Int)=0 from rfl] at hlk;obtain ⟨w5,hrun,hK5,hturn⟩:=hH.out.1.put (t:=68) Tryz.underlying3 Tryz.underlying3 Tryz.underlying68 hbn hn2 (v:=1) (by omega);rw [show (((1:Nat)):Int)=1 from rfl] at hrun;have hlk5:=(hK5.look (t:=68) Tryz.underlying3 Tryz.underlying3 Tryz.underlying68 (zeroInt w5) hbn hn2).2;simp only [if_true,Option.getD_some] at hlk5;rw [show (((1:Nat)):Int)=1 from rfl] at hlk5;have hb0':¬ (b:Int)=0:=by omega
    have HK5:=zh hK5;have HC5:=zh ((Chg.refl [w1.heap.size] wr).grown hturn.grown (by simp));have HT5:=zh (HTr.out.chg HC5.out (by simp;exact fun e=>HMT.out.1 e.symm) (by simp;exact fun e=>HMT.out.2.1 e.symm) (by simp;exact fun e=>HMT.out.2.2 e.symm))
    have hgv:Calls Tryz.prog 92 #[.pointer (some ⟨t,0,none⟩),.int .i64 (b:Int)] w5 fun e w'=>e = .returned (.int .i64 (T.now b:Int))/\w5=w':=by
     have:=get_at HT5.out (b:Int);rw [getV_nat hbn] at this;exact this
    have hbT':¬ (T.now b:Int)=0:=by omega
    clear hK5 hturn hsn;go_wp2_with (go_at_call 92;refine hgv.mono ?_;rintro e w' ⟨rfl,rfl⟩)
    go_roundw
    case rel=>exact ⟨k+1,by omega,by go_num,⟨HK5.out.congr fun i _=>by rw [seen_hit (by rw [<- HBE.out];exact hb0),<- HBE.out],hH.out.2.trans HC5.out⟩⟩
    case measure=>simp [intOf];omega
  ·obtain rfl:k=pg T.n+pg (pg T.n):=by omega
   go_wp2_with fail;go_ret;have hsz:=HC4.out.size;exact ⟨rfl,HC4.out.then hH.out.2 (fun i hi => .inr (by simp at hi;omega))⟩
structure ShAt (w:World) (x p t bc bk:Nat) (g h c:Nat->Nat) (S:PS):Prop where
 pt:PT w p t bc bk S.K S.T
 top:w.heap[x]?=some (.cells #[.pointer (some ⟨t,0,none⟩),.pointer (some ⟨p,0,none⟩),.slice (some ⟨g 0,0,none⟩) (S.n 0) (c 0),.slice (some ⟨g 1,0,none⟩) (S.n 1) (c 1),.slice (some ⟨h 0,0,none⟩) (S.n 0) (S.n 0),.slice (some ⟨h 1,0,none⟩) (S.n 1) (S.n 1)] 222 (0,0))
 ats:∀ k,k<2->∃ cur,w.heap[g k]?=some (.cells cur 3 (0,0))/\cur.size=c k/\S.n k<=c k/\c k<=maxLen/\∀ i,i<S.n k->cur[i]?=some (.int .i64 (S.a k i:Int))
 pls:∀ k,k<2->w.heap[h k]?=some (.cells (bools (S.n k) (S.p k)) 4 (0,0))
 nd:[x,g 0,g 1,h 0,h 1,p,t,bc,bk].Nodup
 n0:S.n 0=pg S.T.n
 n1:S.n 1=pg (pg S.T.n)
namespace ShAt
variable {w:World} {x p t bc bk:Nat} {g h c:Nat->Nat} {S:PS}
theorem chg {w':World} {L:List Nat} (H:ShAt w x p t bc bk g h c S) (C:Chg L w w') (hd:∀ b,b∈[x,g 0,g 1,h 0,h 1,p,t,bc,bk]->b∉L):ShAt w' x p t bc bk g h c S:=by
 have m:∀ b,b∈[x,g 0,g 1,h 0,h 1,p,t,bc,bk]->b∉L:=hd;refine ⟨H.pt.chg C (m p (by simp)) (m t (by simp)) (m bc (by simp)) (m bk (by simp)),(C.block x (zhl H.top) (m x (by simp))).trans H.top,fun k hk=>?_,fun k hk=>?_,H.nd,H.n0,H.n1⟩
 ·obtain ⟨cur,h1,h2⟩:=H.ats k hk
  have hk2:k=0∨k=1:=by omega
  refine ⟨cur,(C.block (g k) (zhl h1) (m (g k) ?_)).trans h1,h2⟩;rcases hk2 with rfl | rfl <;> simp
 ·have h1:=H.pls k hk
  have hk2:k=0∨k=1:=by omega
  refine (C.block (h k) (zhl h1) (m (h k) ?_)).trans h1;rcases hk2 with rfl | rfl <;> simp
theorem atc (H:ShAt w x p t bc bk g h c S) {k i:Nat} (hk:k<2) (hi:i<S.n k):w.cell? ⟨g k,i,none⟩=some (.int .i64 (S.a k i:Int)):=by
 obtain ⟨cur,h1,h2,h3,h4,h5⟩:=H.ats k hk;rw [zcb h1];exact h5 i hi
theorem atcap (H:ShAt w x p t bc bk g h c S) {k:Nat} (hk:k<2):S.n k<=c k/\c k<=maxLen:=by
 obtain ⟨cur,h1,h2,h3,h4,h5⟩:=H.ats k hk;exact ⟨h3,h4⟩
theorem plc (H:ShAt w x p t bc bk g h c S) {k i:Nat} (hk:k<2) (hi:i<S.n k):w.cell? ⟨h k,i,none⟩=some (.bool (S.p k i)):=by
 rw [zcb (H.pls k hk)];exact bools_get hi
theorem nle (H:ShAt w x p t bc bk g h c S) {k:Nat} (hk:k<2):1<=S.n k/\S.n k<=4096:=by
 have a1:=H.pt.ht.n1;have a2:=H.pt.ht.n2;have p1:=pg_pos a1;have p2:=pg_le (n:=S.T.n);have p3:=pg_pos p1;have p4:=pg_le (n:=pg S.T.n);have hk2:k=0∨k=1:=by omega
 rcases hk2 with rfl | rfl
 ·rw [H.n0];omega
 ·rw [H.n1];omega
end ShAt
theorem chgs_get {T:Tal} {k:Nat} (hk:k<(chgs T).length):(chgs T).getD k 0∈chgs T:=by
 rw [zgD,List.getElem?_eq_getElem hk];exact List.getElem_mem _
theorem any_yes {T:Tal} {i k:Nat} (h1:k<(chgs T).length) (h2:(chgs T).getD k 0=61*i):anyIn T.changed T.n i=true:=by
 have hm:=mem_chgs.1 (chgs_get h1);rw [h2] at hm;exact anyIn_iff.2 ⟨61*i,by omega,by omega,hm.1,hm.2⟩
theorem any_in {T:Tal} {i k:Nat} (h1:k<(chgs T).length) (h2:61*i<=(chgs T).getD k 0) (h3:(chgs T).getD k 0<61*i+61):anyIn T.changed T.n i=true:=by
 have hm:=mem_chgs.1 (chgs_get h1);exact anyIn_iff.2 ⟨_,h2,h3,hm.1,hm.2⟩
theorem any_not {T:Tal} {i k:Nat} (hlo:∀ j,j<k->(chgs T).getD j 0<61*i) (h:k<(chgs T).length->61*i+61<=(chgs T).getD k 0):anyIn T.changed T.n i=false:=by
 cases ha:anyIn T.changed T.n i with
 | false=>rfl
 | true =>
  obtain ⟨b,h1,h2,h3,h4⟩:=anyIn_iff.1 ha;obtain ⟨j,hj,rfl⟩:=List.getElem_of_mem (mem_chgs.2 ⟨h3,h4⟩);have e:(chgs T).getD j 0=(chgs T)[j]:=by rw [zgD,List.getElem?_eq_getElem hj];rfl
  by_cases hjk:j<k
  ·have:=hlo j hjk;omega
  ·have h5:=h (by omega)
   have:(chgs T).getD k 0<=(chgs T).getD j 0:=by
    by_cases e2:k=j
    ·rw [e2];exact zLr _
    ·have:=List.pairwise_iff_getElem.1 (chgs_pairwise T) k j (by omega) hj (by omega)
     rw [e,zgD,List.getElem?_eq_getElem (by omega)];exact Nat.le_of_lt this
   omega
theorem wants_p {w:World} {x p t bc bk:Nat} {g h c:Nat->Nat} {S:PS} {k i:Nat} (H:ShAt w x p t bc bk g h c S) (hk:k<2) (hi:i<S.n k) (hp:S.p k i=true∨S.a k i=0) :
  Calls Tryz.prog 134 #[.pointer (some ⟨x,0,none⟩),.int .i64 (k:Int),.int .i64 (i:Int)] w fun e w'=>e = .returned (.bool (S.want k i))/\w=w':=by
 have top:=H.top;have ac:=H.atc hk hi;have pc:=H.plc hk hi;have ca:=H.atcap hk;have nl:=H.nle hk;have x0:=zcb top 0;have x1:=zcb top 1;have x2:=zcb top 2;have x3:=zcb top 3;have x4:=zcb top 4;have x5:=zcb top 5;simp only [tA1,tA3,tA2] at x0 x1 x2 x3 x4 x5;clear top
 have hw:S.want k i = !S.p k i:=by
  unfold PS.want;rcases hp with hp | hp
  ·simp [hp]
  ·simp [hp]
 rw [hw];have i0:(0:Int)<=(i:Int):=by omega
 have i1:(i:Int)<(S.n k:Int):=by omega
 have hk2:k=0∨k=1:=by omega
 rcases hk2 with rfl | rfl
 all_goals
  cases hpp:S.p _ i with
  | true =>
   rw [hpp] at pc;go_enter Tryz.func134,Tryz.ntmps134;go_wp2_with fail;go_ret;exact ⟨rfl,rfl⟩
  | false =>
   rw [hpp] at pc;have ha:=hp.resolve_left (by rw [hpp];decide);rw [ha] at ac;rw [show (((0:Nat)):Int)=0 from rfl] at ac;go_enter Tryz.func134,Tryz.ntmps134;go_wp2_with fail;go_ret;exact ⟨rfl,rfl⟩
theorem wants_1 {w:World} {x p t bc bk:Nat} {g h c:Nat->Nat} {S:PS} {i:Nat} (H:ShAt w x p t bc bk g h c S) (hi:i<S.n 1) (hp:S.p 1 i=false) (ha:S.a 1 i≠0) :
  Calls Tryz.prog 134 #[.pointer (some ⟨x,0,none⟩),.int .i64 1,.int .i64 (i:Int)] w fun e w'=>e = .returned (.bool (S.want 1 i))/\Chg [] w w':=by
 have top:=H.top;have ac:=H.atc (k:=1) (by omega) hi;have pc:=H.plc (k:=1) (by omega) hi;have ca:=H.atcap (k:=1) (by omega);have nl:=H.nle (k:=1) (by omega);have nl0:=H.nle (k:=0) (by omega);have x0:=zcb top 0;have x1:=zcb top 1;have x2:=zcb top 2;have x3:=zcb top 3;have x4:=zcb top 4;have x5:=zcb top 5;simp only [tA1,tA3,tA2] at x0 x1 x2 x3 x4 x5;clear top;rw [hp] at pc;have ha':¬ (S.a 1 i:Int)=0:=by omega
 have i0:(0:Int)<=(i:Int):=by omega
 have i1:(i:Int)<(S.n 1:Int):=by omega
 have hin:61*i<S.n 0:=by
  have:=H.n0;have h2:=H.n1;rw [<- this] at h2;unfold pg at h2;omega
 have hc:=contains_at (w:=w) (b:=h 0) (o:=61*i) (n:=min (61*i+61) (S.n 0) - 61*i) (cap:=S.n 0 - 61*i) (p:=fun j=>S.p 0 (61*i+j)) (by omega) (by omega) (by unfold maxLen;omega) (fun j hj=>H.plc (k:=0) (by omega) (by omega));have HC:=zh hc;clear hc
 have hw:∀ r:Bool,(r=true↔∃ j,j<min (61*i+61) (S.n 0) - 61*i/\S.p 0 (61*i+j)=true)->r=S.want 1 i:=by
  intro r hr;have e:S.want 1 i=anyIn (S.p 0) (S.n 0) i:=by unfold PS.want;simp [hp,ha]
  rw [e,Bool.eq_iff_iff,hr,anyIn_iff];constructor
  ·rintro ⟨j,hj,h⟩;exact ⟨61*i+j,by omega,by omega,by omega,h⟩
  ·rintro ⟨b,h1,h2,h3,h4⟩;exact ⟨b - 61*i,by omega,by rw [show 61*i+(b - 61*i)=b by omega];exact h4⟩
 have HW:=zh hw;clear hw;have hmi:min (((i:Int)+1)*61) (S.n 0:Int)=((min (61*i+61) (S.n 0):Nat):Int):=by omega
 have e1:(i:Int)*61=((61*i:Nat):Int):=by omega
 go_enter Tryz.func134,Tryz.ntmps134;go_wp2_with fail;refine HC.out.mono ?_;rintro e w' ⟨⟨r,rfl,hr⟩,rfl⟩;obtain rfl:=HW.out r hr;clear hr;go_wp2_with fail;go_ret;exact ⟨rfl,Chg.refl _ _⟩
theorem wants_0 {w:World} {x p t bc bk:Nat} {g h c:Nat->Nat} {S:PS} {i:Nat} (H:ShAt w x p t bc bk g h c S) (hi:i<S.n 0) (hp:S.p 0 i=false) (ha:S.a 0 i≠0) :
  Calls Tryz.prog 134 #[.pointer (some ⟨x,0,none⟩),.int .i64 0,.int .i64 (i:Int)] w fun e w'=>e = .returned (.bool (S.want 0 i))/\Chg [] w w':=by
 have top:=H.top;have ac:=H.atc (k:=0) (by omega) hi;have pc:=H.plc (k:=0) (by omega) hi;have ca:=H.atcap (k:=0) (by omega);have nl:=H.nle (k:=0) (by omega);have HT:=zh H.pt.ht;have hx:=zhl top;have HX:=zh top;have x0:=zcb top 0;have x1:=zcb top 1;have x2:=zcb top 2;have x3:=zcb top 3;have x4:=zcb top 4;have x5:=zcb top 5;simp only [tA1,tA3,tA2] at x0 x1 x2 x3 x4 x5;clear top;rw [hp] at pc;have ha':¬ (S.a 0 i:Int)=0:=by omega
 have i0:(0:Int)<=(i:Int):=by omega
 have i1:(i:Int)<(S.n 0:Int):=by omega
 have e:S.want 0 i=anyIn S.T.changed S.T.n i:=by unfold PS.want;simp [hp,ha]
 rw [e];clear e;have hcl:(chgs S.T).length<=4096:=zLt (List.length_filter_le _ _) (by simp;exact H.pt.ht.n2);go_enter Tryz.func134,Tryz.ntmps134;go_wp2_with fail;refine (changed_at HT.out).mono ?_;rintro e w1 ⟨v,rfl,hown,hB⟩;have HS:=zh (SlI.of_own hown);have HC:=zh (Chg.of_below (L:=[]) hB);clear hown hB;have cB:=bin_at HS.out (chgs_pairwise S.T) hcl (61*i) (by omega);rw [show ((61*i:Nat):Int)=(i:Int)*61 by omega] at cB;have HT1:=zh (HT.out.chg HC.out (by simp) (by simp) (by simp));have y0:=(HC.out.cell (p:=⟨x,0,none⟩) hx (by simp)).trans x0;clear x0 x1 x2 x3 x4 x5 ac pc;go_wp2_with fail;refine cB.mono ?_;clear cB;rintro e w2 ⟨k,b,rfl,hk,hlo,hhi,hb,rfl⟩;have HLO:=zh hlo;have HHI:=zh hhi;have HBB:=zh hb;clear hlo hhi hb
 cases b with
 | true =>
  have HZ:=zh (any_yes (HBB.out.1 rfl).1 (HBB.out.1 rfl).2);go_wp2_with fail;go_ret;exact ⟨by rw [HZ.out] <;> rfl,HC.out⟩
 | false =>
  go_wp2_with fail;refine (changed_at HT1.out).mono ?_;rintro e w3 ⟨v2,rfl,hown,hB⟩;have hS2:=SlI.of_own hown;have HC2:=zh (HC.out.trans (Chg.of_below (L:=[]) hB));clear hown hB;obtain ⟨a,cp,rfl⟩:=hS2.len;by_cases hkl:k<(chgs S.T).length
  ·have hcell:∃ gg,a=some ⟨gg,0,none⟩/\(chgs S.T).length<=cp/\w3.cell? ⟨gg,k,none⟩=some (.int .i64 (((chgs S.T).getD k 0:Nat):Int)):=by
    rcases hS2 with ⟨h1,h2⟩ | ⟨gg,cap,h1,h2,h3,h4,h5⟩
    ·rw [h2] at hkl;simp at hkl
    ·injection h1 with h1 _ h6
     exact ⟨gg,h1,by rw [h6];exact h2,h5 k hkl⟩
   obtain ⟨gg,rfl,hcp,hcell⟩:=hcell;have h61:=HHI.out k (zLr _) hkl;obtain ⟨y,hy⟩:∃ y,y=(chgs S.T).getD k 0:=⟨_,rfl⟩;rw [<- hy] at hcell h61;have HY:=zh hy;clear hy hS2;by_cases hlt:y<61*i+61
   ·have i2:(y:Int)<((i:Int)+1)*61:=by omega
    go_wp2_with fail;go_ret;exact ⟨by rw [any_in hkl (by rw [<- HY.out];exact h61) (by rw [<- HY.out];exact hlt)] <;> rfl,HC2.out⟩
   ·have i2:¬ (y:Int)<((i:Int)+1)*61:=by omega
    go_wp2_with fail;go_ret;exact ⟨by rw [any_not HLO.out (fun _=>by rw [<- HY.out];omega)];simp;omega,HC2.out⟩
  ·obtain rfl:k=(chgs S.T).length:=by omega
   clear hS2;go_wp2_with fail;go_ret;exact ⟨by rw [any_not HLO.out (fun h=>absurd h (Nat.lt_irrefl _))] <;> rfl,HC2.out⟩
theorem wants_at {w:World} {x p t bc bk:Nat} {g h c:Nat->Nat} {S:PS} {k i:Nat} (H:ShAt w x p t bc bk g h c S) (hk:k<2) (hi:i<S.n k) :
  Calls Tryz.prog 134 #[.pointer (some ⟨x,0,none⟩),.int .i64 (k:Int),.int .i64 (i:Int)] w fun e w'=>e = .returned (.bool (S.want k i))/\Chg [] w w':=by
 by_cases hq:S.p k i=true∨S.a k i=0
 ·exact (wants_p H hk hi hq).mono fun e w' ⟨h1,h2⟩=>⟨h1,by rw [<- h2];exact Chg.refl _ _⟩
 ·have h1:S.p k i=false:=by cases hpp:S.p k i with | false=>rfl | true=>exact absurd (.inl hpp) hq
  have h2:S.a k i≠0:=fun h=>hq (.inr h);have hk2:k=0∨k=1:=by omega
  rcases hk2 with rfl | rfl
  ·exact wants_0 H hi h1 h2
  ·exact wants_1 H hi h1 h2
end Go.Proofs.YtkhcaclndepgbaaGreat
