/- tally.Back, and Changed in a handier form; what is done to a tally. · What the reference's tally leans on. · Layer 10: what is small: pages, Need, searching, lists put together. · Layer 10: a list's clone, which ones are so, whether a sheet is right. · A map from small numbers to ints in memory. (Printed by mkplm.py out of XTal.) -/
import Derived.Test.YtkhcaclndepgbaaGreatZm11
import Derived.Test.YtkhcaclndepgbaaGreatZm01
import Derived.Test.YtkhcaclndepgbaaGreatZm10
import Derived.Deep.DeepCutAuto
import Derived.Deep.CutBlock
import Derived.Deep.LoopGhost
import Derived.Lib.AppendZerosOnto
import Derived.Lib.Walk
import Derived.Test.YtkhcaclndepgbaaGreatZm08
set_option linter.unusedVariables false
set_option linter.unusedSimpArgs false
set_option maxRecDepth 100000
set_option maxHeartbeats 20000000
namespace Go.Proofs.YtkhcaclndepgbaaGreat
open Go.RowKit
def SlI (w:World) (v:Value) (l:List Nat):Prop :=
 (v = .slice none 0 0∧l=[])∨∃ g cap,v = .slice (some ⟨g,0,none⟩) l.length cap∧l.length≤cap∧cap≤maxLen∧g<w.heap.size∧∀ i,i<l.length→w.cell? ⟨g,i,none⟩=some (.int .i64 ((l.getD i 0:Nat):Int))
theorem SlI.of_own {w:World} {base T:Nat} {v:Value} {l:List Nat} (h:w.ownsRow base T 1 v l.length (intVs l)):SlI w v l:=by
 rcases h.2 with ⟨rfl,hl⟩ | ⟨g,cap,cur,rfl,hb,hg,h1,h2,h3,h4⟩
 ·exact .inl ⟨rfl,List.eq_nil_of_length_eq_zero hl⟩
 ·refine .inr ⟨g,cap,rfl,h1,h2,zhl hg,fun i hi=>?_⟩
  rw [zcb hg]
  have:(cur.toList.take (l.length*1))[i]?=(intVs l)[i]?:=by rw [h4]
  rw [List.getElem?_take,if_pos (by omega)] at this
  rw [← Array.getElem?_toList,this]
  simp [intVs,List.getElem?_map,List.getD_eq_getElem?_getD,List.getElem?_eq_getElem hi]
theorem SlI.len {w:World} {v:Value} {l:List Nat} (h:SlI w v l):∃ a cap,v = .slice a l.length cap:=by
 rcases h with ⟨rfl,rfl⟩ | ⟨g,cap,rfl,_⟩
 ·exact ⟨none,0,rfl⟩
 ·exact ⟨_,_,rfl⟩
theorem SlI.chg {w w':World} {v:Value} {l:List Nat} {L:List Nat} (h:SlI w v l) (c:Chg L w w') (hv:∀ g,v.ownBlock=some g→g∉L):SlI w' v l:=by
 rcases h with h | ⟨g,cap,rfl,h1,h2,h3,h4⟩
 ·exact .inl h
 ·exact .inr ⟨g,cap,rfl,h1,h2,Nat.lt_of_lt_of_le h3 c.size,fun i hi=>(c.cell (p:=⟨g,i,none⟩) h3 (hv g rfl)).trans (h4 i hi)⟩
theorem ownBlock_new {w:World} {base T n:Nat} {v:Value} {xs:List Value} (h:w.ownsRow base T 1 v n xs):∀ g,v.ownBlock=some g→base≤g∧g<w.heap.size:=h.lt
def backTo (T:Tal) (l:List Nat):Tal := { T with now:=fun b=>if b∈l then T.kept b else T.now b }
theorem backTo_nil (T:Tal):backTo T []=T:=by
 unfold backTo;simp
theorem backTo_snoc (T:Tal) (l:List Nat) (b:Nat):(backTo T l).set b (T.kept b)=backTo T (l++[b]):=by
 unfold backTo Tal.set
 congr 1
 funext j
 simp only [List.mem_append,List.mem_singleton]
 by_cases e:j=b
 ·subst e;simp
 ·simp [e]
theorem backTo_all {T:Tal} : ∀ b,b<T.n→(backTo T (chgs T)).now b=T.kept b:=by
 intro b hb
 unfold backTo
 simp only
 split
 ·rfl
 ·rename_i h
  have:¬ T.changed b=true:=fun hc=>h (mem_chgs.2 ⟨hb,hc⟩)
  simpa [Tal.changed] using this
theorem TallyAt.congr {w:World} {t bc bk:Nat} {T T':Tal} (h:TallyAt w t bc bk T) (hn:T'.n=T.n) (h1:∀ b,b<T.n→T'.now b=T.now b) (h2:∀ b,b<T.n→T'.kept b=T.kept b):TallyAt w t bc bk T':=by
 have ef:T'.frees=T.frees:=by
  unfold Tal.frees;rw [hn]
  exact cnt_congr fun i hi=>by simp [Tal.free,h1 i hi,h2 i hi]
 have ew:T'.waits=T.waits:=by
  unfold Tal.waits;rw [hn]
  exact cnt_congr fun i hi=>by simp [Tal.waitB,h1 i hi,h2 i hi]
 have ec:u16s T'.n T'.now=u16s T.n T.now:=by
  rw [hn]
  unfold u16s
  congr 1
  funext i
  rw [h1 i i.2]
 refine ⟨by rw [hn];exact h.n1,by rw [hn];exact h.n2,fun i hi=>by rw [hn] at hi;rw [h1 i hi];exact h.now i hi,fun i hi=>by rw [hn] at hi;rw [h2 i hi];exact h.kept i hi,by rw [hn,ef,ew];exact h.top,by rw [ec];exact h.cs,?_,h.ne⟩
 rw [hn]
 exact h.map.congr fun i hi=>by simp [Tal.keptAt,h1 i hi,h2 i hi]
theorem getD_take_succ {l:List Nat} {i:Nat} (h:i<l.length):l.take (i+1)=l.take i++[l.getD i 0]:=by
 rw [List.take_succ_eq_append_getElem h,List.getD_eq_getElem?_getD,List.getElem?_eq_getElem h];rfl
theorem back_at {w:World} {t bc bk:Nat} {T:Tal} (h:TallyAt w t bc bk T) :
  Calls Tryz.prog 97 #[.pointer (some ⟨t,0,none⟩)] w fun e w'=>e = .returned (.tuple #[])∧TallyAt w' t bc bk T.back∧Chg [t,bc,bk] w w':=by
 go_enter Tryz.func97,Tryz.ntmps97
 go_wp2_with fail
 refine (changed_at h).mono ?_
 rintro e w1 ⟨v,rfl,hrow,hb1⟩
 have hS:=SlI.of_own hrow
 have hC:Chg [] w w1:=Chg.of_below hb1
 have hT1:=h.chg hC (by simp) (by simp) (by simp)
 have hvb:=ownBlock_new hrow
 have hlen:(chgs T).length≤4096:=Nat.le_trans (by
  have:=List.length_filter_le T.changed (List.range T.n)
  simpa [chgs] using this) h.n2
 obtain ⟨a,cap,rfl⟩:=hS.len
 have HC:=Lib.hid hC
 have HS:=Lib.hid hS
 have Hvb:=Lib.hid hvb
 clear hC hS hvb hrow hb1
 go_wp2_with fail
 go_loopw [7] (fun s wr=>∃ i:Nat,i≤(chgs T).length∧s = .int .i64 (i:Int)∧TallyAt wr t bc bk (backTo T ((chgs T).take i))∧SlI wr (.slice a (chgs T).length cap) (chgs T)∧Chg [t,bc,bk] w wr) (fun s _=>(chgs T).length - (intOf s).toNat)
 case atStart=>exact ⟨0,Nat.zero_le _,rfl,by rw [List.take_zero,backTo_nil];exact hT1,HS.out,HC.out.mono (by simp)⟩
 case round =>
  obtain ⟨i,hi,rfl,hTr,hSr,hCr⟩:=hrel
  have HCr:=Lib.hid hCr
  have HSr:=Lib.hid hSr
  clear hCr hSr hT1
  by_cases hlt:i<(chgs T).length
  ·obtain ⟨b,hb⟩:∃ b,(chgs T).getD i 0=b:=⟨_,rfl⟩
   have hmem:b∈chgs T:=by
    rw [← hb,List.getD_eq_getElem?_getD,List.getElem?_eq_getElem hlt]
    exact List.getElem_mem hlt
   obtain ⟨hbn,hbc⟩:=mem_chgs.1 hmem
   have hcell:∃ g,a=some ⟨g,0,none⟩∧wr.cell? ⟨g,i,none⟩=some (.int .i64 (b:Int)):=by
    rcases HSr.out with ⟨hv,hl⟩ | ⟨g,cap',hv,_,_,_,hc⟩
    ·rw [hl] at hlt;simp at hlt
    ·injection hv with hv
     exact ⟨g,hv,by rw [hc i hlt,hb]⟩
   obtain ⟨g,rfl,hcell⟩:=hcell
   have hnot:b∉(chgs T).take i:=by
    intro hm
    obtain ⟨j,hj,e⟩:=List.mem_iff_getElem.1 hm
    have hj':j<i:=by simp at hj;omega
    have hp:=List.pairwise_iff_getElem.1 (chgs_pairwise T) j i (by omega) hlt hj'
    rw [List.getElem_take] at e
    rw [List.getD_eq_getElem?_getD,List.getElem?_eq_getElem hlt] at hb
    simp at hb
    omega
   have c1:=hTr.c1
   have hkb:T.kept b≤65535:=h.kept b hbn
   have hl:=(hTr.map.look (t:=213) Tryz.underlying3 Tryz.underlying33 Tryz.underlying213 (zeroU16 wr) hbn h.n2).2
   have hka:(backTo T ((chgs T).take i)).keptAt b=some (T.kept b):=by
    have hne:T.now b≠T.kept b:=by simpa [Tal.changed] using hbc
    simp [Tal.keptAt,backTo,hnot,hne]
   rw [hka] at hl
   simp only [Option.getD_some] at hl
   have hst:=getD_take_succ hlt
   rw [hb] at hst
   have Hst:=Lib.hid hst
   clear hka hst hb hnot hmem hbc
   go_wp2_with fail
   refine (set_at hTr b (T.kept b) hbn hkb).mono ?_
   rintro e w2 ⟨rfl,hT2,hC2⟩
   rw [backTo_snoc,← Hst.out] at hT2
   have HC2:=Lib.hid (HCr.out.trans hC2)
   have HS2:=Lib.hid (HSr.out.chg hC2 (fun g' hg'=>by
    have:=Hvb.out g' hg'
    have m1:=h.lt0
    have m2:=h.lt1
    have m3:=h.lt2
    simp
    omega))
   clear hC2 hl
   go_wp2_with fail
   go_roundw
   case rel=>exact ⟨i+1,by omega,by go_num,hT2,HS2.out,HC2.out⟩
   case measure=>simp [intOf];omega
  ·obtain rfl:i=(chgs T).length:=by omega
   go_wp2_with fail
   go_end0
   refine ⟨rfl,?_,HCr.out⟩
   rw [List.take_length] at hTr
   exact hTr.congr rfl (fun b hb=>(backTo_all (T:=T) b hb).symm) (fun b hb=>rfl)
theorem infoInt8:(Tryz.prog.info? 3).map (fun i=>(i.zero,i.size,i.bytes))=some (some (.int .i64 0),1,8):=by kernel_rfl
theorem getV_nat {T:Tal} {k:Nat} (hk:k<T.n):getV T (k:Int)=T.now k:=by
 have:hasB T (k:Int)=true:=(hasB_iff T k).2 (by omega)
 simp [getV,this]
theorem pages_at {n:Nat} (w:World) (h1:1≤n) (h2:n≤4096):Calls Tryz.prog 91 #[.int .i64 (n:Int)] w fun e w'=>e = .returned (.int .i64 (pg n:Int))∧w=w':=by
 have a1:¬ (n:Int)<1:=by omega
 go_enter Tryz.func91,Tryz.ntmps91
 go_wp2_with fail
 go_ret
 refine ⟨?_,rfl⟩
 have e:((n:Int) - 1) / 61+1=((pg n:Nat):Int):=by unfold pg;omega
 simp [e]
theorem need_at {n:Nat} (w:World) (h1:1≤n) (h2:n≤4096):Calls Tryz.prog 21 #[.int .i64 (n:Int)] w fun e w'=>e = .returned (.int .i64 (needN n:Int))∧w=w':=by
 have a1:¬ (n:Int)<1:=by omega
 have p1:=pg_pos h1
 have p2:=pg_le (n:=n)
 have p3:=pg_le (n:=pg n)
 go_enter Tryz.func21,Tryz.ntmps21
 go_wp2_with fail
 refine (pages_at w h1 h2).mono ?_
 rintro e w' ⟨rfl,rfl⟩
 go_wp2_with fail
 refine (pages_at w p1 (Nat.le_trans p2 h2)).mono ?_
 rintro e w' ⟨rfl,rfl⟩
 go_wp2_with fail
 go_ret
 refine ⟨?_,rfl⟩
 unfold needN
 go_num
theorem less_at (a b:Int) (w:World):Calls Tryz.prog 195 #[.int .i64 a,.int .i64 b] w fun e w'=>e = .returned (.bool (decide (a<b)))∧w=w':=by
 have hn:∀ x:Int,Calls Tryz.prog 211 #[.int .i64 x] w fun e w'=>e = .returned (.bool false)∧w=w':=fun x=>by
  go_enter Tryz.func211,Tryz.ntmps211
  go_wp2_with fail
  go_ret
  simp
 go_enter Tryz.func195,Tryz.ntmps195
 go_wp2_with fail
 refine (hn _).mono ?_
 rintro e w' ⟨rfl,rfl⟩
 go_wp2_with fail
 go_ret
 simp
theorem beq_nat {y x:Nat} : ((y:Int)==(x:Int))=true↔y=x:=by rw [beq_iff_eq];omega
def BinR (l : List Nat) (x : Nat) (w : World) (e : Ending) (w' : World) : Prop := ∃ (k : Nat) (b : Bool), e = .returned (.tuple #[.int .i64 (k : Int), .bool b]) ∧ k ≤ l.length ∧ (∀ i, i < k → l.getD i 0 < x) ∧ (∀ i, k ≤ i → i < l.length → x ≤ l.getD i 0) ∧
      (b=true↔k<l.length∧l.getD k 0=x)∧w=w'
theorem bin_at {w:World} {v:Value} {l:List Nat} (h:SlI w v l) (hs:l.Pairwise (· < ·)) (hl:l.length≤4096) (x:Nat) (hx:x≤1000000) :
  Calls Tryz.prog 169 #[v,.int .i64 (x:Int)] w (BinR l x w):=by
 obtain ⟨a,c,rfl⟩:=h.len
 have hc:∀ i,i<l.length→∃ g,a=some ⟨g,0,none⟩∧w.cell? ⟨g,i,none⟩=some (.int .i64 ((l.getD i 0:Nat):Int)):=by
  rcases h with ⟨h1,rfl⟩ | ⟨g,cap,h1,_,_,_,h5⟩
  ·intro i hi;simp at hi
  ·injection h1 with h1 h2 h3
   intro i hi
   exact ⟨g,h1,h5 i hi⟩
 have hcap:l.length≤c∧c≤maxLen:=by
  rcases h with ⟨h1,rfl⟩ | ⟨g,cap,h1,h2,h3,_,h5⟩
  ·injection h1 with h1 h2 h3;subst h3;simp [maxLen]
  ·injection h1 with h1 h4 h3;subst h3;exact ⟨h2,h3⟩
 have hn:∀ x:Int,Calls Tryz.prog 196 #[.int .i64 x] w fun e w'=>e = .returned (.bool false)∧w=w':=fun x=>by
  go_enter Tryz.func196,Tryz.ntmps196
  go_wp2_with fail
  go_ret
  simp
 have hm:∀ i j,i<j→j<l.length→l.getD i 0<l.getD j 0:=fun i j hij hj=>by
  have:=List.pairwise_iff_getElem.1 hs i j (by omega) hj hij
  simpa [List.getD_eq_getElem?_getD,List.getElem?_eq_getElem,hj,show i<l.length by omega] using this
 clear h hs
 have HC:=Lib.hid hc
 have HM:=Lib.hid hm
 have HCAP:=Lib.hid hcap
 clear hc hm hcap
 go_enter Tryz.func169,Tryz.ntmps169
 go_wp2_with fail
 go_loop [7,8] (fun i j=>∃ p q:Nat,i = .int .i64 (p:Int)∧j = .int .i64 (q:Int)∧p≤q∧q≤l.length∧(∀ i,i<p→l.getD i 0<x)∧(∀ i,q≤i→i<l.length→x≤l.getD i 0)) (fun i j=>(intOf j).toNat - (intOf i).toNat)
 case atStart=>exact ⟨0,l.length,rfl,rfl,Nat.zero_le _,Nat.le_refl _,fun i hi=>by omega,fun i h1 h2=>by omega⟩
 case round =>
  obtain ⟨p,q,rfl,rfl,hpq,hq,hlo,hhi⟩:=hrel
  have HLO:=Lib.hid hlo
  have HHI:=Lib.hid hhi
  clear hlo hhi
  by_cases hlt:p<q
  ·obtain ⟨g,rfl,hcell⟩:=HC.out ((p+q) / 2) (by omega)
   have hcl:=HCAP.out.1
   have e1:IntKind.u64.wrap ((p:Int)+(q:Int))=((p+q:Nat):Int):=by rw [IntKind.wrap_u64];omega
   have e2:((p+q:Nat):Int) / 2=(((p+q) / 2:Nat):Int):=by omega
   go_wp2_with (go_at_call 195;refine (less_at _ _ _).mono ?_;rintro e w' ⟨rfl,rfl⟩)
   ·have hx:l.getD ((p+q) / 2) 0<x:=by simpa [List.getD_eq_getElem?_getD] using ‹l[(p+q) / 2]?.getD 0<x›
    refine ⟨⟨(p+q) / 2+1,q,by go_num,rfl,by omega,hq,fun i hi=>?_,HHI.out⟩,by simp [intOf];omega⟩
    by_cases e:i=(p+q) / 2
    ·rw [e];exact hx
    ·exact Nat.lt_trans (HM.out i ((p+q) / 2) (by omega) (by omega)) hx
   ·have hx:¬ l.getD ((p+q) / 2) 0<x:=by simpa [List.getD_eq_getElem?_getD] using ‹¬ l[(p+q) / 2]?.getD 0<x›
    refine ⟨⟨p,(p+q) / 2,rfl,by go_num,by omega,by omega,HLO.out,fun i h1 h2=>?_⟩,by simp [intOf];omega⟩
    by_cases e:i=(p+q) / 2
    ·rw [e];omega
    ·have:=HM.out ((p+q) / 2) i (by omega) h2
     omega
  ·obtain rfl:p=q:=by omega
   by_cases hpl:p<l.length
   ·obtain ⟨g,rfl,hcell⟩:=HC.out p hpl
    have hcl:=HCAP.out.1
    obtain ⟨y,hy⟩:∃ y,y=l.getD p 0:=⟨_,rfl⟩
    rw [← hy] at hcell
    have HY:=Lib.hid hy
    clear hy
    by_cases hxy:y=x
    ·subst hxy
     go_wp2_with (go_at_call 196;refine (hn _).mono ?_;rintro e w' ⟨rfl,rfl⟩)
     go_ret2
     exact ⟨p,true,rfl,hq,HLO.out,HHI.out,⟨fun _=>⟨hpl,HY.out.symm⟩,fun _=>rfl⟩,rfl⟩
    ·have hx':¬ (y:Int)=(x:Int):=by omega
     go_wp2_with (go_at_call 196;refine (hn _).mono ?_;rintro e w' ⟨rfl,rfl⟩)
     go_ret2
     exact ⟨p,((y:Int)==(x:Int)),rfl,hq,HLO.out,HHI.out,⟨fun h=>absurd (beq_nat.1 h) hxy,fun h=>absurd (HY.out.trans h.2) hxy⟩,rfl⟩
   ·obtain rfl:p=l.length:=by omega
    go_wp2_with (go_at_call 196;refine (hn _).mono ?_;rintro e w' ⟨rfl,rfl⟩)
    go_ret2
    exact ⟨l.length,false,rfl,hq,HLO.out,HHI.out,by simp,rfl⟩
theorem index_at {w:World} {b o n cap:Nat} {p:Nat→Bool} (hn:n≤4096) (hcap:n≤cap) (hm:cap≤maxLen) (hc:∀ i,i<n→w.cell? ⟨b,o+i,none⟩=some (.bool (p i))) :
  Calls Tryz.prog 194 #[.slice (some ⟨b,o,none⟩) n cap,.bool true] w fun e w'=>(∃ z:Int,e = .returned (.int .i64 z)∧(0≤z↔∃ i,i<n∧p i=true))∧w=w':=by
 have HC:=Lib.hid hc
 clear hc
 go_enter Tryz.func194,Tryz.ntmps194
 go_wp2_with fail
 go_loop [8] (fun s=>∃ k:Nat,k≤n∧s = .int .i64 (k:Int)∧∀ i,i<k→p i=false) (fun s=>n - (intOf s).toNat)
 case atStart=>exact ⟨0,Nat.zero_le _,rfl,fun i hi=>by omega⟩
 case round =>
  obtain ⟨k,hk,rfl,hno⟩:=hrel
  have HNO:=Lib.hid hno
  clear hno
  by_cases hlt:k<n
  ·have hcell:=HC.out k hlt
   cases hp:p k with
   | true =>
    rw [hp] at hcell
    go_wp2_with fail
    go_ret
    exact ⟨⟨(k:Int),rfl,⟨fun _=>⟨k,hlt,hp⟩,fun _=>by omega⟩⟩,rfl⟩
   | false =>
    rw [hp] at hcell
    go_wp2_with fail
    refine ⟨⟨k+1,by omega,by go_num,fun i hi=>?_⟩,by simp [intOf];omega⟩
    by_cases e:i=k
    ·rw [e];exact hp
    ·exact HNO.out i (by omega)
  ·obtain rfl:k=n:=by omega
   go_wp2_with fail
   go_ret
   exact ⟨⟨-1,rfl,⟨fun h=>by omega,fun ⟨i,hi,h⟩=>by rw [HNO.out i hi] at h;cases h⟩⟩,rfl⟩
theorem contains_at {w:World} {b o n cap:Nat} {p:Nat→Bool} (hn:n≤4096) (hcap:n≤cap) (hm:cap≤maxLen) (hc:∀ i,i<n→w.cell? ⟨b,o+i,none⟩=some (.bool (p i))) :
  Calls Tryz.prog 168 #[.slice (some ⟨b,o,none⟩) n cap,.bool true] w fun e w'=>(∃ r:Bool,e = .returned (.bool r)∧(r=true↔∃ i,i<n∧p i=true))∧w=w':=by
 go_enter Tryz.func168,Tryz.ntmps168
 go_wp2_with fail
 refine (index_at hn hcap hm hc).mono ?_
 rintro e w' ⟨⟨z,rfl,hz⟩,rfl⟩
 by_cases h0:0≤z
 ·have h0':¬ z<0:=by omega
  go_wp2_with fail
  go_ret
  exact ⟨⟨_,rfl,by simp [h0,← hz]⟩,rfl⟩
 ·go_wp2_with fail
  go_ret
  exact ⟨⟨_,rfl,by simp [h0,← hz]⟩,rfl⟩
theorem infoI:∃ i0,Tryz.prog.info? 3=some i0∧i0.zero=some (.int .i64 0)∧i0.size=1∧i0.bytes=8:=by
 obtain ⟨i,h1,h2,h3,h4⟩:=info_parts infoInt8
 exact ⟨i,h1,h2,h3,h4⟩
theorem growNil_at (n:Nat) (w:World) (h1:1≤n) (h2:n≤100000) :
  Calls Tryz.prog 186 #[.slice none 0 0,.int .i64 (n:Int)] w fun e w'=>∃ v,e = .returned v∧w'.ownsRow w.heap.size 3 1 v 0 []∧Chg [] w w':=by
 obtain ⟨i0,hi,hz,hs,hb⟩:=infoI
 have hold:(Builtin.firstCells i0.size 0 (.slice none 0 0)).run Tryz.prog w.drew = .ok #[] w.drew:=run_firstCells_none w.drew i0.size 0 0 0
 have hrz:=fun ty=>Lib.run_append_grow_zeros w 27 3 ty 3 i0 (.int .i64 0) .i64 .i64 Tryz.underlying27 Tryz.underlying3 hi hz none 0 0 [] hold n (by omega) (by omega) (by omega) (by omega) (by rw [hb];omega) (growslice_fits (by omega) (by rw [hb];omega))
 have hG:=grownCap_ge w (0+n) 0 3
 have hM:=grownCap_le_maxLen w (0+n) 0 3 (by unfold maxLen;omega)
 generalize hGG:grownCap w (0+n) 0 3=G at hrz hG hM
 clear hGG
 rw [Nat.zero_add] at hrz hG
 have hG63:G≤9223372036854775807:=by unfold maxLen at hM;omega
 have i1:¬ (n:Int)<0:=by omega
 have i2:(0:Int)<(n:Int):=by omega
 go_enter Tryz.func186,Tryz.ntmps186
 go_wp2_with (at_builtin;refine Lib.wpList_append_run _ rfl _ _ _ _ rfl _ _ rfl rfl _ _ (hrz _) ?_)
 go_ret
 refine ⟨_,rfl,⟨rfl,.inr ⟨w.heap.size,G,_,rfl,Nat.le_refl _,znb w.drew _,Nat.zero_le _,hM,?_,rfl⟩⟩,((Chg.refl [] w).drew.alloc _)⟩
 simp [Builtin.zeroCells]
 omega
theorem intVs_app (a b:List Nat):intVs (a++b)=intVs a++intVs b:=by simp [intVs]
theorem SlI.cells {w:World} {g c:Nat} {l:List Nat} (h:SlI w (.slice (some ⟨g,0,none⟩) l.length c) l):∀ j q,(intVs l)[j]?=some q→w.cell? ((⟨g,0,none⟩:Addr).add j)=some q:=by
 intro j q hj
 rcases h with ⟨h1,_⟩ | ⟨g',cap,h1,_,_,_,h5⟩
 ·cases h1
 ·injection h1 with h1 _ _
  injection h1 with h1
  injection h1 with h1 _ _
  subst h1
  have hjl:j<l.length:=by
   have:=List.getElem?_eq_some_iff.1 hj
   obtain ⟨h,_⟩:=this
   simpa [intVs] using h
  rw [show (⟨g,0,none⟩:Addr).add j=⟨g,j,none⟩ from by unfold Addr.add;split <;> simp_all]
  rw [h5 j hjl,← hj]
  simp [intVs,List.getD_eq_getElem?_getD,hjl]
theorem wpList_appI {w:World} {ops:Array Oper} {rest:List Oper} {o:Oper} {a:Act} {Q:Exit→Act→World→Prop} (hgd:o.guard=none) (s x:Operand)
  (ho:o.op = .call { callee := .builtin .append,args:=#[s,x],argTypes:=#[27,27] })
  (base:Nat) (v:Value) (l:List Nat) (hs:a.eval s=v) (hown:w.ownsRow base 3 1 v l.length (intVs l))
  (g c:Nat) (m:List Nat) (hx:a.eval x = .slice (some ⟨g,0,none⟩) m.length c) (hin:SlI w (.slice (some ⟨g,0,none⟩) m.length c) m) (hnm:l.length+m.length≤100000) (hbase:base≤w.heap.size)
  (h:∀ v' w',w'.ownsRow base 3 1 v' (l++m).length (intVs (l++m))→w.grownBy w' v.ownBlock→wpList Tryz.prog ops Q rest (a.put o.dst v') w'):wpList Tryz.prog ops Q (o::rest) a w:=by
 obtain ⟨i,h1,h2,h3,h4⟩:=info_parts infoInt8
 refine wpList_append_own w hgd s x 27 ho base 3 i (.int .i64 0) 1 8 Tryz.underlying27 h1 h2 h3 h4 rfl (by decide) v l.length _ hs hown ⟨g,0,none⟩ m.length c (intVs m) hx (by simp [intVs]) hin.cells ?_ ?_ ?_ hbase fun v' w' a1 a2 _=>h v' w' (by rw [intVs_app,List.length_append];exact a1) a2
 ·intro u hu
  obtain ⟨q,_,rfl⟩:=List.mem_map.1 hu
  rfl
 ·unfold maxLen;omega
 ·omega
theorem own_chg {w w':World} {base n:Nat} {v:Value} {xs:List Value} {L:List Nat} (h:w.ownsRow base 3 1 v n xs) (c:Chg L w w') (hL:∀ k,v.ownBlock=some k→k∉L):w'.ownsRow base 3 1 v n xs:=by
 refine ⟨h.1,?_⟩
 rcases h.2 with h | ⟨g,cap,cur,h1,h2,h3,h4⟩
 ·exact .inl h
 ·exact .inr ⟨g,cap,cur,h1,h2,(c.block g (zhl h3) (hL g (by rw [h1];rfl))).trans h3,h4⟩
theorem concat2_at {w:World} {B g0 c0 g1 c1 n0 n1:Nat} {l m:List Nat} (e0:n0=l.length) (e1:n1=m.length) (hB:w.heap[B]?=some (.cells #[.slice (some ⟨g0,0,none⟩) n0 c0,.slice (some ⟨g1,0,none⟩) n1 c1] 27 (0,0)))
  (h0:SlI w (.slice (some ⟨g0,0,none⟩) n0 c0) l) (h1:SlI w (.slice (some ⟨g1,0,none⟩) n1 c1) m) (hl:1≤l.length) (hlm:l.length+m.length≤10000) :
  Calls Tryz.prog 153 #[.slice (some ⟨B,0,none⟩) 2 2] w fun e w'=>∃ v,e = .returned v∧w'.ownsRow w.heap.size 3 1 v (l++m).length (intVs (l++m))∧Chg [] w w':=by
 subst e0 e1
 have x0:=zcb hB 0
 have x1:=zcb hB 1
 simp only [List.getElem?_toArray,List.getElem?_cons_zero,List.getElem?_cons_succ] at x0 x1
 have lB:=zhl hB
 have HB:=Lib.hid hB
 have H0:=Lib.hid h0
 have H1:=Lib.hid h1
 clear hB h0 h1
 go_enter Tryz.func153,Tryz.ntmps153
 go_wp2_with fail
 go_loop [3,11] (fun n s=>∃ k c:Nat,s = .int .i64 (k:Int)∧n = .int .i64 (c:Int)∧((k=0∧c=0)∨(k=1∧c=l.length)∨(k=2∧c=l.length+m.length))) (fun _ s=>2 - (intOf s).toNat)
 case atStart=>exact ⟨0,0,rfl,rfl,.inl ⟨rfl,rfl⟩⟩
 case round =>
  obtain ⟨k,c,rfl,rfl,⟨rfl,rfl⟩ | ⟨rfl,rfl⟩ | ⟨rfl,rfl⟩⟩:=hrel
  ·have i1:¬ (l.length:Int)<0:=by omega
   go_wp2_with fail
   go_round
   case rel=>exact ⟨1,l.length,rfl,by go_num,.inr (.inl ⟨rfl,rfl⟩)⟩
   case measure=>simp [intOf]
  ·have i1:¬ (l.length:Int)+(m.length:Int)<0:=by omega
   go_wp2_with fail
   go_round
   case rel=>exact ⟨2,l.length+m.length,rfl,by go_num,.inr (.inr ⟨rfl,rfl⟩)⟩
   case measure=>simp [intOf]
  ·go_wp2_with fail
   have cG:=growNil_at (l.length+m.length) w (by omega) (by omega)
   rw [Int.natCast_add] at cG
   refine cG.mono ?_
   clear cG
   rintro e w1 ⟨v,rfl,hown,hC⟩
   have HOWN:=Lib.hid hown
   have HC:=Lib.hid hC
   clear hown hC
   go_wp2_with fail
   have y0:=(HC.out.cell (p:=⟨B,0,none⟩) lB (by simp)).trans x0
   have y1:=(HC.out.cell (p:=⟨B,1,none⟩) lB (by simp)).trans x1
   go_loopw [6,27] (fun v s wr=>∃ k:Nat,s = .int .i64 (k:Int)∧∃ L,((k=0∧L=[])∨(k=1∧L=l)∨(k=2∧L=l++m))∧Hid (wr.ownsRow w.heap.size 3 1 v L.length (intVs L)∧Chg [] w wr)) (fun _ s _=>2 - (intOf s).toNat)
   case atStart=>exact ⟨0,rfl,[],.inl ⟨rfl,rfl⟩,⟨HOWN.out,HC.out⟩⟩
   case round =>
    obtain ⟨k,rfl,L,hk,hH⟩:=hrel
    have hown:=hH.out.1
    have hC:=hH.out.2
    clear hH
    have HOW:=Lib.hid hown
    have HCW:=Lib.hid hC
    have y0:=(hC.cell (p:=⟨B,0,none⟩) lB (by simp)).trans x0
    have y1:=(hC.cell (p:=⟨B,1,none⟩) lB (by simp)).trans x1
    have hsz:=hC.size
    have hbk:∀ k,(Value.ownBlock _=some k)→w.heap.size≤k:=fun k hk=>(hown.lt k hk).1
    have HBK:=Lib.hid hbk
    clear hown hC hbk
    rcases hk with ⟨rfl,rfl⟩ | ⟨rfl,rfl⟩ | ⟨rfl,rfl⟩
    ·go_wp2_with (at_builtin;refine wpList_appI rfl _ _ rfl w.heap.size _ [] rfl HOW.out g0 c0 l rfl (H0.out.chg HCW.out (by simp)) (by simp;omega) hsz ?_;intro v' w2 hown2 hg2;have HOWN2:=Lib.hid hown2;have HC2:=Lib.hid (HCW.out.grown hg2 (fun k hk => .inr (HBK.out k hk)));clear hown2 hg2)
     go_roundw
     case rel=>exact ⟨1,by go_num,l,.inr (.inl ⟨rfl,rfl⟩),⟨HOWN2.out,HC2.out⟩⟩
     case measure=>simp [intOf]
    ·go_wp2_with (at_builtin;refine wpList_appI rfl _ _ rfl w.heap.size _ L rfl HOW.out g1 c1 m rfl (H1.out.chg HCW.out (by simp)) (by omega) hsz ?_;intro v' w2 hown2 hg2;have HOWN2:=Lib.hid hown2;have HC2:=Lib.hid (HCW.out.grown hg2 (fun k hk => .inr (HBK.out k hk)));clear hown2 hg2)
     go_roundw
     case rel=>exact ⟨2,by go_num,L++m,.inr (.inr ⟨rfl,rfl⟩),⟨HOWN2.out,HC2.out⟩⟩
     case measure=>simp [intOf]
    ·go_wp2_with fail
     go_ret
     exact ⟨_,rfl,HOW.out,HCW.out⟩
theorem own_empty (w:World):(w.alloc (.cells #[] 3)).ownsRow w.heap.size 3 1 (.slice (some ⟨w.heap.size,0,none⟩) 0 0) 0 [] :=
 ⟨rfl,.inr ⟨w.heap.size,0,#[],rfl,Nat.le_refl _,znb w _,Nat.zero_le _,by unfold maxLen;omega,rfl,rfl⟩⟩
theorem cloneI_at {w:World} {g c n:Nat} {l:List Nat} (e:n=l.length) (h:SlI w (.slice (some ⟨g,0,none⟩) n c) l) (hl:l.length≤10000) :
  Calls Tryz.prog 132 #[.slice (some ⟨g,0,none⟩) n c] w fun e w'=>∃ v,e = .returned v∧w'.ownsRow w.heap.size 3 1 v l.length (intVs l)∧Chg [] w w':=by
 subst e
 have H:=Lib.hid h
 clear h
 have hnil:=fun w=>Lib.run_eql_slice_nil (P:=Tryz.prog) w 27 3 (some ⟨g,0,none⟩) l.length c 0 0 Tryz.underlying27
 simp only [Option.isNone_some] at hnil
 have HE:=Lib.hid (own_empty w)
 have HC0:=Lib.hid ((Chg.refl [] w).alloc (.cells #[] 3))
 go_enter Tryz.func132,Tryz.ntmps132
 go_wp2_with (at_builtin;refine wpList_appI rfl _ _ rfl w.heap.size _ [] rfl HE.out g c l rfl (H.out.chg HC0.out (by simp)) (by simp;omega) (by simp) ?_;intro v' w2 hown2 hg2;have HOWN2:=Lib.hid hown2;have HC2:=Lib.hid (HC0.out.grown hg2 (fun k hk => .inr (HE.out.lt k hk).1));clear hown2 hg2)
 go_ret
 exact ⟨_,rfl,HOWN2.out,HC2.out⟩
def yesTo (p:Nat→Bool) (k:Nat):List Nat:=(List.range k).filter p
theorem yesTo_hit {p:Nat→Bool} {k:Nat} (h:p k=true):yesTo p (k+1)=yesTo p k++[k]:=by simp [yesTo,List.range_succ,List.filter_append,h]
theorem yesTo_miss {p:Nat→Bool} {k:Nat} (h:p k=false):yesTo p (k+1)=yesTo p k:=by simp [yesTo,List.range_succ,List.filter_append,h]
theorem yesTo_le (p:Nat→Bool) (k:Nat):(yesTo p k).length≤k:=Nat.le_trans (List.length_filter_le _ _) (by simp)
theorem mem_yesTo {p:Nat→Bool} {k b:Nat} : b∈yesTo p k↔b<k∧p b=true:=by simp [yesTo]
theorem which_at {w:World} {h n:Nat} {p:Nat→Bool} (hb:w.heap[h]?=some (.cells (bools n p) 4 (0,0))) (hn:n≤4096) :
  Calls Tryz.prog 136 #[.slice (some ⟨h,0,none⟩) n n] w fun e w'=>∃ v,e = .returned v∧w'.ownsRow w.heap.size 3 1 v (yesTo p n).length (intVs (yesTo p n))∧Chg [] w w':=by
 have HB:=Lib.hid hb
 have lh:=zhl hb
 clear hb
 go_enter Tryz.func136,Tryz.ntmps136
 go_wp2_with fail
 go_loopw [3,8] (fun v s wr=>∃ k:Nat,k≤n∧s = .int .i64 (k:Int)∧Hid (wr.ownsRow w.heap.size 3 1 v (yesTo p k).length (intVs (yesTo p k))∧Chg [] w wr)) (fun _ s _=>n - (intOf s).toNat)
 case atStart=>exact ⟨0,Nat.zero_le _,rfl,⟨World.ownsRow_nil _ _ _ _,Chg.refl _ _⟩⟩
 case round =>
  obtain ⟨k,hk,rfl,hH⟩:=hrel
  have hown:=hH.out.1
  have hC:=hH.out.2
  have HOW:=Lib.hid hown
  have HCW:=Lib.hid hC
  have hsz:=hC.size
  have HBK:=Lib.hid (fun k hk=>(hown.lt k hk).1:∀ k,(Value.ownBlock _=some k)→w.heap.size≤k)
  by_cases hlt:k<n
  ·have hcell:=(hC.cell (p:=⟨h,k,none⟩) lh (by simp)).trans ((zcb HB.out k).trans (bools_get hlt))
   have hyl:=yesTo_le p k
   clear hown hC hH
   cases hp:p k with
   | true =>
    rw [hp] at hcell
    have HY:=Lib.hid (yesTo_hit hp)
    have HN:=Lib.hid (znb wr (.cells #[.int .i64 (k:Int)] 3))
    go_wp2_with (at_builtin;refine wpList_app1 _ rfl _ _ 27 rfl w.heap.size 3 (.int .i64 0) 8 Tryz.underlying27 infoInt8 rfl _ _ _ rfl (own_chg HOW.out ((Chg.refl [] wr).alloc _) (by simp)) wr.heap.size 1 (.int .i64 (k:Int)) rfl (zcb HN.out 0) rfl (by omega) (by omega) (by simp;omega) ?_;intro v' w2 hown2 hg2;have HOWN2:=Lib.hid hown2;have HC2:=Lib.hid ((HCW.out.alloc _).grown hg2 (fun k hk => .inr (HBK.out k hk)));clear hown2 hg2)
    go_roundw
    case rel=>exact ⟨k+1,by omega,by go_num,⟨by rw [HY.out,intVs_app,List.length_append];exact HOWN2.out,HC2.out⟩⟩
    case measure=>simp [intOf];omega
   | false =>
    rw [hp] at hcell
    have HY:=Lib.hid (yesTo_miss hp)
    go_wp2_with fail
    go_roundw
    case rel=>exact ⟨k+1,by omega,by go_num,⟨by rw [HY.out];exact HOW.out,HCW.out⟩⟩
    case measure=>simp [intOf];omega
  ·obtain rfl:k=n:=by omega
   clear hown hC hH
   go_wp2_with fail
   go_ret
   exact ⟨_,rfl,HOW.out,HCW.out⟩
open Go.RowKit Go.Maps
def KMapI (P:Program) (kt et:TypeId) (w:World) (b n:Nat) (f:Nat→Option Nat):Prop :=
 ∃ D:DataW Unit,w.ownsMap P kt (plainElem P et) b (Maps.size D) D∧Maps.size D=cnt n (fun k=>(f k).isSome) ∧
  (∀ l,Maps.has D l=true→∃ k,k<n∧l = .int .i64 (k:Int)∧(f k).isSome=true) ∧
  (∀ k v,k<n→f k=some v→Maps.has D (.int .i64 (k:Int))=true∧∀ z,D.atKey (.int .i64 (k:Int)) z = .lit (.int .i64 (v:Int)))
section
variable {P:Program} {kt et t:TypeId} {w:World} {b n:Nat} {f:Nat→Option Nat}
theorem KMapI.lt (h:KMapI P kt et w b n f):b<w.heap.size:=by
 obtain ⟨D,h1,_⟩:=h
 exact h1.lt
theorem KMapI.obj (h:KMapI P kt et w b n f):∃ es c,w.heap[b]?=some (.map es c):=by
 obtain ⟨D,⟨es,c,hb,_⟩,_⟩:=h
 exact ⟨es,c,hb⟩
theorem KMapI.same {w':World} (h:KMapI P kt et w b n f) (e:w'.heap[b]?=w.heap[b]?):KMapI P kt et w' b n f:=by
 obtain ⟨D,⟨es,c,hb,hr⟩,hh⟩:=h
 exact ⟨D,⟨es,c,e.trans hb,hr⟩,hh⟩
theorem KMapI.congr {g:Nat→Option Nat} (h:KMapI P kt et w b n f) (e:∀ i,i<n→f i=g i):KMapI P kt et w b n g:=by
 obtain ⟨D,h1,h2,h3,h4⟩:=h
 refine ⟨D,h1,h2.trans (cnt_congr fun i hi=>by rw [e i hi]),fun l hl=>?_,fun k v hk hv=>h4 k v hk (by rw [e k hk];exact hv)⟩
 obtain ⟨k,hk,hl',hs⟩:=h3 l hl
 exact ⟨k,hk,hl',by rw [← e k hk];exact hs⟩
theorem KMapI.has (_h:KMapI P kt et w b n f) {D:DataW Unit} (h3:∀ l,Maps.has D l=true→∃ k,k<n∧l = .int .i64 (k:Int)∧(f k).isSome=true)
  (h4:∀ k v,k<n→f k=some v→Maps.has D (.int .i64 (k:Int))=true∧∀ z,D.atKey (.int .i64 (k:Int)) z = .lit (.int .i64 (v:Int))) {k:Nat} (hk:k<n) :
  Maps.has D (.int .i64 (k:Int))=(f k).isSome:=by
 cases hf:f k with
 | some v=>exact (h4 k v hk hf).1
 | none =>
  cases hh:Maps.has D (.int .i64 (k:Int)) with
  | false=>rfl
  | true =>
   obtain ⟨k',hk',e,hs⟩:=h3 _ hh
   injection e with _ e
   have:k=k':=by omega
   subst this
   rw [hf] at hs
   cases hs
theorem KMapI.look (h:KMapI P kt et w b n f) (hkt:P.underlying kt=some (.int .i64)) (het:P.underlying et=some (.int .i64)) (ht:P.underlying t=some (.map kt et))
  (hz:(zeroValue et).run P w = .ok (.int .i64 0) w) {k:Nat} (hk:k<n) (hn:n≤4096) :
  (Instr.lookup t (.map (some b)) (.int .i64 (k:Int)) true).run P w = .ok (.tuple #[.int .i64 (((f k).getD 0:Nat):Int),.bool (f k).isSome]) w ∧
  (Instr.lookup t (.map (some b)) (.int .i64 (k:Int)) false).run P w = .ok (.int .i64 (((f k).getD 0:Nat):Int)) w:=by
 have hh:=h
 obtain ⟨D,h1,h2,h3,h4⟩:=h
 have hkey:keyOf P kt (.int .i64 (k:Int))=some (.int .i64 (k:Int)):=Maps.keyOf_int_mk hkt (WalkArith.wf_i64 (by omega))
 have K:=Maps.int_keyed hkt
 obtain ⟨v,ps,hrun,hv⟩:=h1.look_ok K ht hz (plainElem_int het (by decide)) hkey
 obtain ⟨c,hrun',hat,_⟩:=h1.lookup_int K ht het hz hkey
 obtain ⟨a,rfl,ha,hw⟩:=plainElem_int_inv het hv
 simp only [Prod.mk.injEq] at ha
 have hc:c=a:=by
  have:=hat.symm.trans ha.1
  injection this with this
  injection this
 subst hc
 rw [hh.has h3 h4 hk] at hrun
 have e:c=(((f k).getD 0:Nat):Int):=by
  cases hf:f k with
  | some v =>
   have:=((h4 k v hk hf).2 _).symm.trans hat
   injection this with this
   injection this with _ this
   simpa using this.symm
  | none =>
   have hn:Maps.has D (.int .i64 (k:Int))=false:=by rw [hh.has h3 h4 hk,hf];rfl
   have:=(Maps.atKey_of_not_has hn (.lit (.int .i64 0))).symm.trans hat
   injection this with this
   injection this with _ this
   simpa using this.symm
 subst e
 exact ⟨hrun,hrun'⟩
theorem KMapI.del (h:KMapI P kt et w b n f) (hkt:P.underlying kt=some (.int .i64)) (ht:P.underlying t=some (.map kt et)) {k:Nat} (hk:k<n) (hn:n≤4096) (ty:TypeId) :
  ∃ w',(Builtin.delete_ #[t,kt] ty #[.map (some b),.int .i64 (k:Int)]).run P w = .ok (.tuple #[]) w'∧KMapI P kt et w' b n (fun i=>if i=k then none else f i)∧w.mapTurned w' b:=by
 have hh:=h
 obtain ⟨D,h1,h2,h3,h4⟩:=h
 have hkey:keyOf P kt (.int .i64 (k:Int))=some (.int .i64 (k:Int)):=Maps.keyOf_int_mk hkt (WalkArith.wf_i64 (by omega))
 have K:=Maps.int_keyed hkt
 obtain ⟨w',hrun,hown,hturn⟩:=h1.drop K ht hkey ty
 refine ⟨w',hrun,⟨D.del (.int .i64 (k:Int)),ownsMap_tight hown,?_,?_,?_⟩,hturn⟩
 ·have e1:=Maps.size_del (k := .int .i64 (k:Int)) (h1.tidy K)
  have e2:=cnt_upd (p:=fun i=>(f i).isSome) (q:=fun i=>(if i=k then none else f i).isSome) hk (fun i _ hne=>by simp [hne])
  simp only [if_true,Option.isSome_none,Bool.false_eq_true,if_false,hh.has h3 h4 hk] at e1 e2
  show _=cnt n (fun i=>(if i=k then none else f i).isSome)
  omega
 ·intro l hl
  by_cases e:l = .int .i64 (k:Int)
  ·subst e;rw [Maps.has_del_same] at hl;cases hl
  ·rw [Maps.has_del_other e] at hl
   obtain ⟨k',hk',rfl,hs⟩:=h3 l hl
   have hne:k'≠k:=fun q=>e (by rw [q])
   exact ⟨k',hk',rfl,by simp [hne,hs]⟩
 ·intro i v hi hv
  by_cases e:i=k
  ·simp [e] at hv
  ·simp only [e,if_false] at hv
   have hne:Lit.int .i64 (i:Int) ≠ .int .i64 (k:Int):=fun q=>by injection q with _ q;omega
   obtain ⟨g1,g2⟩:=h4 i v hi hv
   exact ⟨by rw [Maps.has_del_other hne];exact g1,fun z=>by rw [Maps.atKey_del_other hne];exact g2 z⟩
theorem KMapI.put (h:KMapI P kt et w b n f) (hkt:P.underlying kt=some (.int .i64)) (het:P.underlying et=some (.int .i64)) (ht:P.underlying t=some (.map kt et)) {k v:Nat} (hk:k<n) (hn:n≤4096) (hv:v≤1000000) :
  ∃ w',(Instr.mapUpdate t (.map (some b)) (.int .i64 (k:Int)) (.int .i64 (v:Int))).run P w = .ok () w'∧KMapI P kt et w' b n (fun i=>if i=k then some v else f i)∧w.mapTurned w' b:=by
 have hh:=h
 obtain ⟨D,h1,h2,h3,h4⟩:=h
 have hkey:keyOf P kt (.int .i64 (k:Int))=some (.int .i64 (k:Int)):=Maps.keyOf_int_mk hkt (WalkArith.wf_i64 (by omega))
 have K:=Maps.int_keyed hkt
 have hle:=cnt_le (fun k=>(f k).isSome) n
 have hik:WideAt.IsKeyLit (.int .i64 (k:Int)):=K.key hkey
 obtain ⟨w',hrun,hown,hturn⟩:=h1.store K ht (by unfold maxLen;omega) hkey (plainElem_int het ((show (Lit.int .i64 (v:Int)).wf=true from WalkArith.wf_i64 (by omega))))
 refine ⟨w',hrun,⟨_,ownsMap_tight hown,?_,?_,?_⟩,hturn⟩
 ·have e1:=Maps.size_put (k := .int .i64 (k:Int)) (h1.tidy K) (.lit (.int .i64 (v:Int)))
  have e2:=cnt_upd (p:=fun i=>(f i).isSome) (q:=fun i=>(if i=k then some v else f i).isSome) hk (fun i _ hne=>by simp [hne])
  rw [hh.has h3 h4 hk] at e1
  simp only [if_true,Option.isSome_some] at e2
  rw [e1]
  split at e2 <;> split <;> simp_all <;> omega
 ·intro l hl
  by_cases e:l = .int .i64 (k:Int)
  ·exact ⟨k,hk,e,by simp⟩
  ·rw [Maps.has_put_other e] at hl
   obtain ⟨k',hk',rfl,hs⟩:=h3 l hl
   have hne:k'≠k:=fun q=>e (by rw [q])
   exact ⟨k',hk',rfl,by simp [hne,hs]⟩
 ·intro i v' hi hv'
  by_cases e:i=k
  ·subst e
   simp only [if_true,Option.some.injEq] at hv'
   subst hv'
   exact ⟨Maps.has_put_same h1.isMap hik _,fun z=>Maps.atKey_put_same h1.isMap hik _ z⟩
  ·simp only [e,if_false] at hv'
   have hne:Lit.int .i64 (i:Int) ≠ .int .i64 (k:Int):=fun q=>by injection q with _ q;omega
   obtain ⟨g1,g2⟩:=h4 i v' hi hv'
   exact ⟨by rw [Maps.has_put_other hne];exact g1,fun z=>by rw [Maps.atKey_put_other hne];exact g2 z⟩
theorem KMapI.ofEmpty (h:w.ownsMap P kt (plainElem P et) b 0 (.map []:DataW Unit)) (n:Nat):KMapI P kt et w b n (fun _=>none):=by
 refine ⟨.map [],h,(cnt_zero fun _ _=>rfl).symm,?_,?_⟩
 ·intro l hl;cases hl
 ·intro k v _ hv;cases hv
theorem KMapI.made (w:World) (n:Nat):KMapI P kt et (w.alloc (.map #[] 0)) w.heap.size n (fun _=>none) :=
 KMapI.ofEmpty (World.ownsMap_made _ _ _ _) n
end
end Go.Proofs.YtkhcaclndepgbaaGreat
