/- Package find: Right of a tree; Walk and Right of no base. · Package base: Up, Down. · Package base: Up, Down, Back. · Supers are held against one another. · Package base, in plain words: opening. · Package base: Back. -/
import Derived.Test.YtkhcaclndepgbaaGreatZg34
import Derived.Test.YtkhcaclndepgbaaGreatZg37
import Derived.Test.YtkhcaclndepgbaaGreatZg25
import Derived.Test.YtkhcaclndepgbaaGreatZg11
import Derived.Laws.StructEq
import Derived.ChangeKeysEq
import Derived.Test.YtkhcaclndepgbaaGreatZg24
import Derived.Laws.Tables
import Derived.Test.YtkhcaclndepgbaaGreatZg16
set_option linter.unusedVariables false
set_option linter.unusedSimpArgs false
set_option maxRecDepth 100000
set_option maxHeartbeats 20000000
namespace Go.Proofs.YtkhcaclndepgbaaGreat
open Go.RowKit
theorem right_all {M:Bm} {F:List Nat} {B:Bs} : ∀ h:Nat,h≤100→RtAt M F B h
 | 0,hh=>right_step hh (fun h' e=>by omega)
 | h+1,hh=>right_step hh (fun h' e=>by
   obtain rfl:h=h':=by omega
   exact right_all h (by omega))
theorem height_bd {B:Bs} : ∀ (f:Nat) (x:Int),(heightP B f x).1≤f∧(x≠0→(heightP B f x).2=0→1≤(heightP B f x).1)
 | 0,x=>by
  unfold heightP
  by_cases hx:x=0
  ·rw [if_pos hx];exact ⟨Nat.le_refl _,fun h=>absurd hx h⟩
  ·rw [if_neg hx]
   cases hd:B.nodeI x with
   | none=>exact ⟨Nat.le_refl _,fun _ h=>by
     have:B.nodeE x=0:=h
     unfold Bs.nodeE at this;split at this <;> cases this⟩
   | some d=>exact ⟨Nat.le_refl _,fun _ h=>by cases h⟩
 | f+1,x=>by
  unfold heightP
  by_cases hx:x=0
  ·rw [if_pos hx];exact ⟨Nat.zero_le _,fun h=>absurd hx h⟩
  ·rw [if_neg hx]
   cases hd:B.nodeI x with
   | none=>exact ⟨Nat.zero_le _,fun _ h=>by
     have:B.nodeE x=0:=h
     unfold Bs.nodeE at this;split at this <;> cases this⟩
   | some d =>
    have ih:=height_bd (B:=B) f (kidI (d.v 0))
    show (if d.leaf=true then ((1:Nat),(0:Int)) else if (heightP B f (kidI (d.v 0))).2=0 then ((heightP B f (kidI (d.v 0))).1+1,0) else (0,(heightP B f (kidI (d.v 0))).2)).1≤f+1∧(x≠0→(if d.leaf=true then ((1:Nat),(0:Int)) else if (heightP B f (kidI (d.v 0))).2=0 then ((heightP B f (kidI (d.v 0))).1+1,0) else (0,(heightP B f (kidI (d.v 0))).2)).2=0→1≤(if d.leaf=true then ((1:Nat),(0:Int)) else if (heightP B f (kidI (d.v 0))).2=0 then ((heightP B f (kidI (d.v 0))).1+1,0) else (0,(heightP B f (kidI (d.v 0))).2)).1)
    by_cases hl:d.leaf=true
    ·rw [if_pos hl];exact ⟨by show 1≤f+1;omega,fun _ _=>Nat.le_refl _⟩
    ·rw [if_neg hl]
     by_cases h0:(heightP B f (kidI (d.v 0))).2=0
     ·rw [if_pos h0];exact ⟨by show (heightP B f (kidI (d.v 0))).1+1≤f+1;omega,fun _ _=>by show 1≤(heightP B f (kidI (d.v 0))).1+1;omega⟩
     ·rw [if_neg h0];exact ⟨Nat.zero_le _,fun _ h=>absurd h h0⟩
def rightT (B:Bs) (x:Int):Bool:=x==0||((heightP B 8 x).2==0&&rightP B ((heightP B 8 x).1 - 1) x 0 18446744073709551615 (if 1<(heightP B 8 x).1 then 2 else 1))
theorem fdRight_at {w:World} {M:Bm} {F:List Nat} {B:Bs} (h:BaseAt w M F B) (x:Int) (hx:(Lit.int .i64 x).wf=true) :
  Calls Tryz.prog 52 #[.pointer (some ⟨M.b,0,none⟩),.int .i64 x] w fun e w'=>e = .returned (.bool (rightT B x))∧Chg [] w w':=by
 have cb:=h.cBlocks
 have ch:=fHeight_at h x hx
 have hbd:=height_bd (B:=B) 8 x
 obtain ⟨res,hres⟩:∃ res,res=rightT B x:=⟨_,rfl⟩
 rw [← hres]
 unfold rightT at hres
 have hn0:((B.T.n:Int)==0)=false:=by
  obtain ⟨R',hi',-⟩:=h
  have:=hi'.c.ok.n
  simp;omega
 obtain ⟨n,hn⟩:∃ n,n=B.T.n:=⟨_,rfl⟩
 rw [← hn] at cb hn0
 obtain ⟨⟨hg,he⟩,hH⟩:∃ r,r=heightP B 8 x:=⟨_,rfl⟩
 rw [← hH] at ch hbd hres
 have HB:=Lib.hid h
 have CH:=Lib.hid ch
 clear h hn hH ch
 go_enter Tryz.func52,Tryz.ntmps52
 go_wp2_with fail
 refine (cb).mono ?_
 rintro e w' ⟨rfl,rfl⟩
 clear cb
 by_cases hx0:x=0
 ·subst hx0
  have hR:res=true:=by rw [hres];rfl
  subst hR
  clear hres
  go_wp2_with fail
  go_ret
  exact ⟨rfl,Chg.refl _ _⟩
 ·have hx1:(x==0)=false:=by simpa using hx0
  rw [hx1,Bool.false_or] at hres
  have HBD:=Lib.hid hbd
  have hg8:hg≤8:=hbd.1
  clear hbd
  by_cases he0:he=0
  ·subst he0
   have hg1:1≤hg:=HBD.out.2 hx0 rfl
   have hR:res=rightP B (hg - 1) x 0 18446744073709551615 (if 1<hg then 2 else 1):=hres
   clear hres
   have hs:((hg:Int) - 1)=((hg - 1:Nat):Int):=by omega
   obtain ⟨h1,hh1⟩:∃ h1,h1=hg - 1:=⟨_,rfl⟩
   rw [← hh1] at hR hs
   have HS:=Lib.hid hs
   have HRR:=Lib.hid hR
   have hh8:h1≤8:=by omega
   clear hh1 hR hs
   have hcase:(1<hg∧(1:Int)<(hg:Int))∨(¬ 1<hg∧¬ (1:Int)<(hg:Int)):=by omega
   rcases hcase with ⟨l1,l2⟩ | ⟨l1,l2⟩
   all_goals go_wp2_with fail
   all_goals refine CH.out.mono ?_
   all_goals rintro e w1 ⟨rfl,hc1⟩
   all_goals have HC:=Lib.hid hc1
   all_goals clear hc1
   ·have cr:=right_all (M:=M) (F:=F) (B:=B) h1 (by omega) w1 x 0 18446744073709551615 2 (HB.out.chg HC.out (by simp)) hx (by decide) (by decide) (by decide)
    have hR:=HRR.out
    rw [if_pos l1] at hR
    rw [← hR] at cr
    have CR:Hid (Calls Tryz.prog 111 #[.pointer (some ⟨M.b,0,none⟩),.int .i64 x,.int .i64 ((hg:Int) - 1),.agg #[.int .u64 0,.int .u64 18446744073709551615],.int .i64 2] w1 fun e w'=>e = .returned (.bool res)∧Chg [] w1 w'):=Lib.hid (by rw [HS.out];exact cr)
    clear cr hR
    go_wp2_with fail
    refine CR.out.mono ?_
    clear CR CH
    rintro e w2 ⟨rfl,hc2⟩
    have HC2:=Lib.hid (HC.out.trans hc2)
    clear hc2
    go_wp2_with fail
    go_ret
    exact ⟨rfl,HC2.out⟩
   ·have cr:=right_all (M:=M) (F:=F) (B:=B) h1 (by omega) w1 x 0 18446744073709551615 1 (HB.out.chg HC.out (by simp)) hx (by decide) (by decide) (by decide)
    have hR:=HRR.out
    rw [if_neg l1] at hR
    rw [← hR] at cr
    have CR:Hid (Calls Tryz.prog 111 #[.pointer (some ⟨M.b,0,none⟩),.int .i64 x,.int .i64 ((hg:Int) - 1),.agg #[.int .u64 0,.int .u64 18446744073709551615],.int .i64 1] w1 fun e w'=>e = .returned (.bool res)∧Chg [] w1 w'):=Lib.hid (by rw [HS.out];exact cr)
    clear cr hR
    go_wp2_with fail
    refine CR.out.mono ?_
    clear CR CH
    rintro e w2 ⟨rfl,hc2⟩
    have HC2:=Lib.hid (HC.out.trans hc2)
    clear hc2
    go_wp2_with fail
    go_ret
    exact ⟨rfl,HC2.out⟩
  ·have he1:(he==0)=false:=by simpa using he0
   rw [he1,Bool.false_and] at hres
   subst hres
   go_wp2_with fail
   refine CH.out.mono ?_
   rintro e w1 ⟨rfl,hc1⟩
   have HC:=Lib.hid hc1
   clear hc1
   have hcase:(1:Int)<(hg:Int)∨¬ (1:Int)<(hg:Int):=by omega
   rcases hcase with l2 | l2
   all_goals go_wp2_with fail
   all_goals go_ret
   all_goals exact ⟨rfl,HC.out⟩
theorem fRight_none {w:World} {p:Option Addr} (h:NoB w p) (x:Int) :
  Calls Tryz.prog 52 #[.pointer p,.int .i64 x] w fun e w'=>e = .returned (.bool false)∧w=w':=by
 have cb:=noB_blocks h
 clear h
 go_enter Tryz.func52,Tryz.ntmps52
 go_wp2_with fail
 refine (cb).mono ?_
 rintro e w' ⟨rfl,rfl⟩
 go_wp2_with fail
 go_ret
 exact ⟨rfl,rfl⟩
theorem fWalk_none {w:World} {p:Option Addr} (h:NoB w p) (x lo hi most:Int) :
  Calls Tryz.prog 55 #[.pointer p,.int .i64 x,.int .u64 lo,.int .u64 hi,.int .i64 most] w fun e w'=>e = .returned (.tuple #[.slice none 0 0,.int .i64 1])∧Chg [] w w':=by
 obtain ⟨s,hs⟩:∃ s,s=w.heap.size:=⟨_,rfl⟩
 obtain ⟨W3,hW3⟩:∃ W3,W3=((w.alloc (.cells #[.int .i64 most] 3)).alloc (.cells #[.slice none 0 0] 83)).alloc (.cells #[.int .i64 0] 29):=⟨_,rfl⟩
 have hc3:Chg [] w W3:=by rw [hW3];exact (((Chg.refl [] w).alloc _).alloc _).alloc _
 have hs3:W3.heap.size=s+3:=by rw [hW3,hs];simp
 have k1:W3.heap[s+1]?=some (.cells #[.slice none 0 0] 83 (0,0)):=by rw [hW3,Below.heap_alloc _ _ _ (by simp;omega),hs];exact znc _ _ _
 have k2:W3.heap[s+1+1]?=some (.cells #[.int .i64 0] 29 (0,0)):=by
  rw [hW3,hs]
  have:=heap_alloc_new ((w.alloc (.cells #[.int .i64 most] 3)).alloc (.cells #[.slice none 0 0] 83)) (.cells #[.int .i64 0] 29)
  simpa using this
 have cb:=noB_blocks (h.chg hc3 (fun b _=>by simp))
 obtain ⟨rb,hrb⟩:∃ rb,rb=s+1:=⟨_,rfl⟩
 obtain ⟨eb,heb⟩:∃ eb,eb=s+1+1:=⟨_,rfl⟩
 rw [← hrb] at k1
 rw [← heb] at k2
 have f1:=zfb k1 0
 have f2:=zfb k2 0
 have l1:=zhl k1
 have l2:=zhl k2
 have d1:W3.cell? ⟨rb,0,none⟩=some (.slice none 0 0):=(zcb k1 0).trans rfl
 have d2:W3.cell? ⟨eb,0,none⟩=some (.int .i64 0):=(zcb k2 0).trans rfl
 have ne1:rb≠eb:=by omega
 have ne2:eb≠rb:=fun q=>ne1 q.symm
 have HK:=Lib.hid (And.intro k1 (And.intro k2 (And.intro hc3 (And.intro hs3 (And.intro hs (And.intro hrb heb))))))
 have CB:=Lib.hid cb
 clear h k1 k2 hc3 hs3 hrb heb cb
 refine (callsIn_wide (n:=7)).1 ?_
 refine callsIn_of_wp_marks Tryz.func55 rfl trivial ?_ rfl
 simp only [Tryz.ntmps55,List.size_toArray,List.length_cons,List.length_nil,Nat.reduceAdd,Nat.reduceSub,Array.replicate_succ,Array.replicate_zero,List.push_toArray,List.append_toArray,List.nil_append,List.cons_append]
 clear hs
 gi_wp2
 rw [← HK.out.2.2.2.2.1,← hW3,← HK.out.2.2.2.2.2.2,← HK.out.2.2.2.2.2.1]
 clear hW3
 refine ⟨trivial,(callsIn_wide.2 CB.out).mono ?_⟩
 rintro e w' ⟨rfl,rfl⟩
 gi_wp2
 have k3:((W3.setCell ⟨rb,0,none⟩ (.slice none 0 0)).setCell ⟨eb,0,none⟩ (.int .i64 1)).heap[rb]?=some (.cells #[.slice none 0 0] 83 (0,0)):=(zso 0 _ ne1).trans (zsb HK.out.1 0 _)
 have k4:((W3.setCell ⟨rb,0,none⟩ (.slice none 0 0)).setCell ⟨eb,0,none⟩ (.int .i64 1)).heap[eb]?=some (.cells #[.int .i64 1] 29 (0,0)):=zsb ((zso 0 _ ne2).trans HK.out.2.1) 0 _
 have r1:((W3.setCell ⟨rb,0,none⟩ (.slice none 0 0)).setCell ⟨eb,0,none⟩ (.int .i64 1)).cell? ⟨rb,0,none⟩=some (.slice none 0 0):=(zcb k3 0).trans rfl
 have r2:((W3.setCell ⟨rb,0,none⟩ (.slice none 0 0)).setCell ⟨eb,0,none⟩ (.int .i64 1)).cell? ⟨eb,0,none⟩=some (.int .i64 1):=(zcb k4 0).trans rfl
 refine ⟨.tuple #[.slice none 0 0,.int .i64 1],by simp [results,Tryz.results55,go_sem,r1,r2],rfl,?_⟩
 exact HK.out.2.2.1.then (((Chg.refl [rb,eb] W3).setCell (.inl (by simp)) _).setCell (.inl (by simp)) _) (fun q hq=>by simp only [List.mem_cons,List.not_mem_nil,or_false] at hq;have h2:=HK.out.2.2.2;exact .inr (by omega))
def Bs.mayC (B:Bs) (x:Int):Bool:=decide (2≤x)&&decide (x<(B.T.n:Int)) && !pageB B 0 x && !pageB B 1 x
def Bs.counted (B:Bs) (T':Tal) (x:Nat):Bs := { B with T:=T',fr:=fun y=>if y=x∧T'.now x=0 then none else B.fr y }
def Bs.down (B:Bs) (x:Int):Bs:=if B.mayC x && !decide (getV B.T x=0) then B.counted (Proofs.YtkhcaclndepgbaaGreat.down B.T x) x.toNat else B
theorem eqItems_int {w:World} {e:TypeId} {k:IntKind} (hu:Tryz.prog.underlying e=some (.int k)) (hpk:Tryz.prog.plainKey e=true) (hc:Tryz.prog.cellsOf e=1) {xs ys:Array Value} {f g:Nat→Int} (d:Nat):∀ (is:List Nat),(∀ i∈is,xs[i]?=some (.int k (f i)))→(∀ i∈is,ys[i]?=some (.int k (g i))) →
  ∃ r:Bool,(Op.eqItems (d+1) e (Tryz.prog.cellsOf e) xs ys is).run Tryz.prog w = .ok r w∧(r=true↔∀ i∈is,f i=g i)
 | [],_,_=>⟨true,by simp [Op.eqItems],by simp⟩
 | i::is,hx,hy=>by
  have ha:=hx i (by simp)
  have hb:=hy i (by simp)
  obtain ⟨r,hr,hi⟩:=eqItems_int (w:=w) hu hpk hc d is (fun j hj=>hx j (by simp [hj])) (fun j hj=>hy j (by simp [hj]))
  have p1:(part e xs (i*Tryz.prog.cellsOf e)).run Tryz.prog w = .ok (.int k (f i)) w:=by rw [hc,Nat.mul_one];exact run_part_plain w hpk ha
  have p2:(part e ys (i*Tryz.prog.cellsOf e)).run Tryz.prog w = .ok (.int k (g i)) w:=by rw [hc,Nat.mul_one];exact run_part_plain w hpk hb
  have p3:(Op.equalIn (d+1) e (.int k (f i)) (.int k (g i))).run Tryz.prog w = .ok (f i==g i) w:=by
   simp [Op.equalIn,run_underlying hu]
  simp only [Op.eqItems,Sem.run_bind,p1,p2,p3,Result.andThen_ok]
  by_cases e:f i=g i
  ·refine ⟨r,by simpa [e] using hr,?_⟩
   rw [hi]
   simp [e]
  ·refine ⟨false,by simp [e],?_⟩
   simp [e]
theorem eqField_int {w:World} {fd:Field} {e:TypeId} {off:Nat} {k:IntKind} (hn:fd.name ≠ "_") (ht:fd.type=e) (ho:fd.offset=off) (hu:Tryz.prog.underlying e=some (.int k)) (hpk:Tryz.prog.plainKey e=true) {xs ys:Array Value} {a b:Int} (hx:xs[off]?=some (.int k a)) (hy:ys[off]?=some (.int k b)) (d:Nat) (fs:List Field) {r:Bool}
  (hr:(Op.eqFields (d+1) xs ys fs).run Tryz.prog w = .ok r w):(Op.eqFields (d+1) xs ys (fd::fs)).run Tryz.prog w = .ok (decide (a=b)&&r) w:=by
 subst ht;subst ho
 have p1:=run_part_plain w hpk hx
 have p2:=run_part_plain w hpk hy
 have p3:(Op.equalIn (d+1) fd.type (.int k a) (.int k b)).run Tryz.prog w = .ok (a==b) w:=by simp [Op.equalIn,run_underlying hu]
 simp only [Op.eqFields,ne_eq,hn,not_false_eq_true,if_true,Sem.run_bind,p1,p2,p3,Result.andThen_ok]
 by_cases e:a=b
 ·subst e;simp [hr]
 ·simp [e]
theorem eqField_arr {w:World} {fd:Field} {t e:TypeId} {off n:Nat} {k:IntKind} (hn:fd.name ≠ "_") (ht:fd.type=t) (ho:fd.offset=off) (hut:Tryz.prog.underlying t=some (.array n e)) (hsz:Tryz.prog.cellsOf t=n) (hu:Tryz.prog.underlying e=some (.int k)) (hpk:Tryz.prog.plainKey e=true) (hc:Tryz.prog.cellsOf e=1)
  {xs ys:Array Value} {f g:Nat→Int} (hx:∀ i,i<n→xs[off+i]?=some (.int k (f i))) (hy:∀ i,i<n→ys[off+i]?=some (.int k (g i))) (d:Nat) (fs:List Field) {r:Bool}
  (hr:(Op.eqFields (d+2) xs ys fs).run Tryz.prog w = .ok r w):∃ q:Bool,(Op.eqFields (d+2) xs ys (fd::fs)).run Tryz.prog w = .ok (q&&r) w∧(q=true↔∀ i,i<n→f i=g i):=by
 subst ht;subst ho
 obtain ⟨i0,hi0⟩:∃ i,Tryz.prog.info? fd.type=some i:=info_of_underlying hut
 obtain ⟨i1,hi1⟩:∃ i,Tryz.prog.info? e=some i:=info_of_underlying hu
 have hagg:(isAgg fd.type).run Tryz.prog w = .ok true w:=by unfold isAgg;rw [Sem.run_bind,run_underlying hut w];rfl
 have pp:∀ zs:Array Value,(part fd.type zs fd.offset).run Tryz.prog w = .ok (.agg (zs.extract fd.offset (fd.offset+n))) w:=fun zs=>by
  simp [part,Sem.run_bind,hagg,run_sizeOf w hi0,hsz]
 have ext:∀ (zs:Array Value) (h:Nat→Int),(∀ i,i<n→zs[fd.offset+i]?=some (.int k (h i)))→∀ i∈List.range n,(zs.extract fd.offset (fd.offset+n))[i]?=some (.int k (h i)):=fun zs h hz i hi=>by
  have hin:i<n:=by simpa using hi
  have:=hz i hin
  have hlt:=(Array.getElem?_eq_some_iff.1 this).1
  rw [Array.getElem?_extract,if_pos (by omega),this]
 obtain ⟨q,hq,hiff⟩:=eqItems_int (w:=w) hu hpk hc d (List.range n) (ext xs f hx) (ext ys g hy)
 have p3:=run_equalIn_array (P:=Tryz.prog) w (d+1) (xs.extract fd.offset (fd.offset+n)) (ys.extract fd.offset (fd.offset+n)) hut hi1
 refine ⟨q,?_,by rw [hiff];simp⟩
 simp only [Op.eqFields,ne_eq,hn,not_false_eq_true,if_true,Sem.run_bind,pp,Result.andThen_ok]
 rw [p3,hq]
 cases q
 ·simp
 ·simp [hr]
theorem sup_eq (w:World) (S S':Sup):∃ r:Bool,(Op.equalIn 10000 49 (.agg S.row) (.agg S'.row)).run Tryz.prog w = .ok r w∧(r=true↔S.row=S'.row):=by
 have hf:(Tryz.prog.fieldsOf 49).toList=[(Tryz.prog.fieldsOf 49)[0]!,(Tryz.prog.fieldsOf 49)[1]!,(Tryz.prog.fieldsOf 49)[2]!,(Tryz.prog.fieldsOf 49)[3]!]:=by kernel_rfl
 have gx:∀ (T:Sup) {i:Nat},i<18→T.row[i]?=some (T.cellV i):=fun T {i} hi=>zfg hi
 obtain ⟨q3,h3,i3⟩:=eqField_arr (w:=w) (fd:=(Tryz.prog.fieldsOf 49)[3]!) (t:=47) (e:=44) (off:=10) (n:=8) (k := .u64) (xs:=S.row) (ys:=S'.row) (f:=fun i=>(S.marks i:Int)) (g:=fun i=>(S'.marks i:Int)) (by decide +kernel) (by kernel_rfl) (by kernel_rfl) Tryz.underlying47 (by kernel_rfl) Tryz.underlying44 (by kernel_rfl) (by kernel_rfl)
  (fun i hi=>(gx S (by omega)).trans (by unfold Sup.cellV;rw [if_neg (by omega),if_neg (by omega),if_neg (by omega),Nat.add_sub_cancel_left])) (fun i hi=>(gx S' (by omega)).trans (by unfold Sup.cellV;rw [if_neg (by omega),if_neg (by omega),if_neg (by omega),Nat.add_sub_cancel_left])) 9997 [] (r:=true) (by simp [Op.eqFields])
 obtain ⟨q2,h2,i2⟩:=eqField_arr (w:=w) (fd:=(Tryz.prog.fieldsOf 49)[2]!) (t:=46) (e:=45) (off:=2) (n:=8) (k := .u32) (xs:=S.row) (ys:=S'.row) (f:=fun i=>(S.roots i:Int)) (g:=fun i=>(S'.roots i:Int)) (by decide +kernel) (by kernel_rfl) (by kernel_rfl) Tryz.underlying46 (by kernel_rfl) Tryz.underlying45 (by kernel_rfl) (by kernel_rfl)
  (fun i hi=>(gx S (by omega)).trans (by unfold Sup.cellV;rw [if_neg (by omega),if_neg (by omega),if_pos (by omega),Nat.add_sub_cancel_left])) (fun i hi=>(gx S' (by omega)).trans (by unfold Sup.cellV;rw [if_neg (by omega),if_neg (by omega),if_pos (by omega),Nat.add_sub_cancel_left])) 9997 [(Tryz.prog.fieldsOf 49)[3]!] h3
 have h1:=eqField_int (w:=w) (fd:=(Tryz.prog.fieldsOf 49)[1]!) (e:=45) (off:=1) (k := .u32) (xs:=S.row) (ys:=S'.row) (a:=(S.blocks:Int)) (b:=(S'.blocks:Int)) (by decide +kernel) (by kernel_rfl) (by kernel_rfl) Tryz.underlying45 (by kernel_rfl) (gx S (by omega)) (gx S' (by omega)) 9998 _ h2
 have h0:=eqField_int (w:=w) (fd:=(Tryz.prog.fieldsOf 49)[0]!) (e:=44) (off:=0) (k := .u64) (xs:=S.row) (ys:=S'.row) (a:=(S.gen:Int)) (b:=(S'.gen:Int)) (by decide +kernel) (by kernel_rfl) (by kernel_rfl) Tryz.underlying44 (by kernel_rfl) (gx S (by omega)) (gx S' (by omega)) 9998 _ h1
 have hs:=run_equalIn_struct (P:=Tryz.prog) w 9999 49 S.row S'.row (by kernel_rfl) (by kernel_rfl)
 rw [hf,h0] at hs
 refine ⟨_,hs,?_⟩
 simp only [Bool.and_eq_true,decide_eq_true_eq,and_true,i3,i2]
 constructor
 ·rintro ⟨e0,e1,e2,e3⟩
  refine row_congr fun i hi=>?_
  unfold Sup.valS
  by_cases c0:i=0
  ·rw [if_pos c0,if_pos c0];omega
  ·rw [if_neg c0,if_neg c0]
   by_cases c1:i=1
   ·rw [if_pos c1,if_pos c1];omega
   ·rw [if_neg c1,if_neg c1]
    by_cases c2:i<10
    ·rw [if_pos c2,if_pos c2];have:=e2 (i - 2) (by omega);omega
    ·rw [if_neg c2,if_neg c2];have:=e3 (i - 10) (by omega);omega
 ·intro h
  have e:=row_inj h
  have v:∀ (T:Sup) (i:Nat),i<8→T.valS (2+i)=T.roots i∧T.valS (10+i)=T.marks i:=fun T i hi=>by
   unfold Sup.valS
   rw [if_neg (by omega),if_neg (by omega),if_pos (by omega),if_neg (by omega),if_neg (by omega),if_neg (by omega),Nat.add_sub_cancel_left,Nat.add_sub_cancel_left]
   exact ⟨rfl,rfl⟩
  refine ⟨congrArg Nat.cast (e 0 (by omega)),congrArg Nat.cast (e 1 (by omega)),fun i hi=>?_,fun i hi=>?_⟩
  ·rw [← (v S i hi).1,← (v S' i hi).1,e _ (by omega)]
  ·rw [← (v S i hi).2,← (v S' i hi).2,e _ (by omega)]
theorem Bs.Ok.back_ok {B:Bs} (h:B.Ok):B.back.Ok:=by
 have hs:SupOf B.Kp B.T.n B.a:=h.kp
 refine { n:=h.n,own:=⟨⟨h.own.ok.n0,h.own.ok.n1,fun k i hk hi h0=>⟨(h.own.ok.has k i hk hi h0).1,?_⟩,h.own.ok.apart⟩,h.own.nz,h.own.kept,h.own.kept⟩,a2:=h.a2,low:=fun b hb=>⟨(h.low b hb).2,(h.low b hb).2⟩,le:=fun b hb=>⟨(h.le b hb).2,(h.le b hb).2⟩,first:=h.first,nx:=h.nx,fr:=?_,fle:=(fun b f hb hf=>by cases hf),s:=hs,kp:=hs,sg:=rfl,disk:=h.disk,dle:=h.dle }
 ·show B.T.kept (B.a k i)≠0
  rw [h.own.kept k i hk hi];omega
 ·intro b hb
  constructor
  ·intro h;cases h
  ·rintro ⟨h1,h2⟩
   exact absurd h1 h2
theorem Bs.Ok.open_ok {B:Bs} (h:B.Ok):B.open_.Ok:=by
 have hb:=h.back_ok
 exact { hb with first:=rfl,nx:=⟨Nat.le_refl _,by show 2≤B.T.n;have:=h.n;omega⟩ }
theorem best_kept {Kp:Sup} {o:Nat→Option Sup} (hK:0<Kp.gen) (h1:o (Kp.gen % 2)=some Kp) (h2:∀ S,o (1 - Kp.gen % 2)=some S→S.gen<Kp.gen):bestS o 2=Kp:=by
 rcases (show Kp.gen % 2=0∨Kp.gen % 2=1 by omega) with e | e
 ·rw [e] at h1 h2
  have b1:bestS o 1=Kp:=best_in h1 e hK
  cases ho:o 1 with
  | none=>rw [best_none ho,b1]
  | some S=>rw [best_out ho (fun q=>by rw [b1] at q;have:=h2 S ho;omega),b1]
 ·rw [e] at h1 h2
  refine best_in h1 e ?_
  cases ho:o 0 with
  | none=>rw [best_none ho];exact hK
  | some S =>
   by_cases hc:S.gen % 2=0∧(bestS o 0).gen<S.gen
   ·rw [best_in ho hc.1 hc.2];exact h2 S ho
   ·rw [best_out ho hc];exact hK
theorem Bs.Ok.decs {B:Bs} (h:B.Ok) {D:Nat→Nat→Nat} (hD:∀ b,b<B.T.n→∀ i,i<128→D b i=B.D b i):∃ o:Nat→Option Sup,(∀ k,k<2→DecIs (D k) (o k))∧bestS o 2=B.Kp:=by
 have hn:=h.n
 obtain ⟨o1,ho1,hx⟩:∃ o1:Option Sup,DecIs (D (1 - B.Kp.gen % 2)) o1∧∀ S,o1=some S→S.gen<B.Kp.gen:=by
  rcases h.disk.oth with h0 | ⟨S',q1,q2,q3⟩
  ·exact ⟨none,by show D _ 0≠6;rw [hD _ (by omega) 0 (by omega)];exact h0,fun S e=>by cases e⟩
  ·exact ⟨some S',⟨q1,fun i hi=>by rw [hD _ (by omega) i hi];exact q3 i hi⟩,fun S e=>by injection e with e;subst e;exact q2⟩
 refine ⟨fun k=>if k=B.Kp.gen % 2 then some B.Kp else o1,fun k hk=>?_,best_kept h.kp.ok.gen.1 (if_pos rfl) (fun S e=>hx S (by rw [if_neg (by omega)] at e;exact e))⟩
 by_cases e:k=B.Kp.gen % 2
 ·subst e
  show DecIs _ (if _=_ then _ else _)
  rw [if_pos rfl]
  exact ⟨h.kp.ok,fun i hi=>by rw [hD _ (by omega) i hi];exact h.disk.sup i hi⟩
 ·obtain rfl:k=1 - B.Kp.gen % 2:=by omega
  show DecIs _ (if _=_ then _ else _)
  rw [if_neg e]
  exact ho1
theorem sup_same (w:World) {S S':Sup} (h:S.row=S'.row):(Op.equalIn 10000 49 (.agg S.row) (.agg S'.row)).run Tryz.prog w = .ok true w:=by
 obtain ⟨r,h1,h2⟩:=sup_eq w S S'
 rw [h1,h2.2 h]
theorem root_same {S:Sup} {N:Nat} {a:Nat→Nat→Nat} (h:SupOf S N a):(rootK S (pg (pg N)) (a 1) 2).row=S.row :=
 row_congr fun i hi=>root_val (r:=fun i=>if i<2 then (if i<pg (pg N) then a 1 i else 0) else S.roots i) (r':=S.roots) fun h2 h10=>by
  show (if i - 2<2 then (if i - 2<pg (pg N) then a 1 (i - 2) else 0) else S.roots (i - 2))=S.roots (i - 2)
  by_cases e:i - 2<2
  ·rw [if_pos e,h.r _ e]
  ·rw [if_neg e]
theorem built_base (M:Bm) (R:Br) (B:Bs) (n0 n1:Nat) (h0:n0=nOf B.T.n 0) (h1:n1=nOf B.T.n 1):Tryz.prog.built 51 [(0,.pointer (some ⟨M.d,0,none⟩)),(1,.pointer (some ⟨M.t,0,none⟩)),(2,.pointer (some ⟨M.p,0,none⟩)),(3,.agg #[.slice (some ⟨R.g 0,0,none⟩) n0 (R.c 0),.slice (some ⟨R.g 1,0,none⟩) n1 (R.c 1)]),(4,.map (some M.mf)),(5,.agg B.S.row),(6,.agg B.Kp.row),(7,.int .i64 ((B.Kp.gen % 2:Nat):Int))]=some (fnRow 44 (baseV M R B)):=by
 subst h0;subst h1
 kernel_rfl
theorem wpList_boxAgg {ops:Array Oper} {rest:List Oper} {o:Oper} {a:Act} {w:World} {Q:Exit→Act→World→Prop} (hg:o.guard=none) (t:TypeId) (x:Operand) (ho:o.op = .box t x) {cells:Array Value} (hx:a.eval x = .agg cells)
  (h:wpList Tryz.prog ops Q rest (a.put o.dst (.pointer (some ⟨w.heap.size,0,none⟩))) (w.alloc (.cells cells t))):wpList Tryz.prog ops Q (o::rest) a w:=by
 refine wpList_plain hg fun K hK=>?_
 unfold Oper.wp execOp
 simp only [ho,hx,Instr.box,newVar,Sem.run_bind,Sem.run_pure]
 simp [go_sem,Value.cells]
 exact hK _ _ h
theorem wpList_built {ops:Array Oper} {rest:List Oper} {o:Oper} {a:Act} {w:World} {Q:Exit→Act→World→Prop} (hg:o.guard=none) (t:TypeId) (parts:Array (Nat × Operand)) (ho:o.op = .build t parts) {ps:List (Nat × Value)} {cells:Array Value}
  (hp:(parts.map fun (i,x)=>(i,a.eval x)).toList=ps) (hb:Tryz.prog.built t ps=some cells) (h:wpList Tryz.prog ops Q rest (a.put o.dst (.agg cells)) w):wpList Tryz.prog ops Q (o::rest) a w:=by
 refine wpList_build hg t parts ho ?_ ?_
 ·rw [hp,hb];rfl
 ·rw [hp,hb];exact h
theorem PT.back {w:World} {p t bc bk:Nat} {K:Pk} {T:Tal} (h:PT w p t bc bk K T):Calls Tryz.prog 97 #[.pointer (some ⟨t,0,none⟩)] w fun e w'=>e = .returned (.tuple #[])∧PT w' p t bc bk K T.back∧Chg [p,t,bc,bk] w w' :=
 (back_at h.ht).mono fun _ _ ⟨he,ht',hc⟩=>⟨he,⟨h.hp.chg hc (pick_ne h.hp h.ht),ht',h.f,h.n,h.a⟩,hc.mono (by simp)⟩
end Go.Proofs.YtkhcaclndepgbaaGreat
