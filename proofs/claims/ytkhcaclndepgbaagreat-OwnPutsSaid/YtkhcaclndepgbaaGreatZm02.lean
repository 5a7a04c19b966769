/- Rows that the program owns: append and copy, for any element type. (Lines of Rg0 and Rg2 of layer 24.) · string(b) of bytes in memory; catchmentlow.Equal, Again. · Package disk: how a disk lies in memory; New, may, power, Len, put. -/
import Derived.Test.YtkhcaclndepgbaaGreatProg
import Derived.Test.YtkhcaclndepgbaaGreatZm01
import Derived.Maps.AppendAt
import Derived.Deep.Upon
import Derived.Lib.AppendZeros
import Derived.Deep.RegionLawGrows
import Derived.Laws.BytesArg
import Derived.Laws.IdiomStrings
import Derived.Lib.SliceRun
import Derived.Laws.Cover3
import Derived.Deep.MidRow
import Derived.Deep.WholeRow
import Derived.Deep.Cut
import Derived.BigQuiet
import Derived.Deep.RegionHeld3
set_option linter.unusedVariables false
set_option linter.unusedSimpArgs false
set_option maxRecDepth 100000
set_option maxHeartbeats 20000000
namespace Go.Proofs.YtkhcaclndepgbaaGreat
open Go.RowKit
theorem zoc {w w':World} {base n size:Nat} {e:TypeId} {v:Value} {xs:List Value} {L:List Nat} (h:w.ownsRow base e size v n xs) (c:Chg L w w') (hL:∀ k,v.ownBlock=some k→k∉L):w'.ownsRow base e size v n xs:=by
 refine ⟨h.1,?_⟩
 rcases h.2 with h' | ⟨g,cap,cur,rfl,hb,hg,r⟩
 ·exact .inl h'
 ·exact .inr ⟨g,cap,cur,rfl,hb,(c.block g (zhl hg) (hL g rfl)).trans hg,r⟩
theorem zol {w:World} {base n size:Nat} {e:TypeId} {v:Value} {xs:List Value} (h:w.ownsRow base e size v n xs) (hn:0<n):∃ g c,v = .slice (some ⟨g,0,none⟩) n c∧n≤c∧c≤maxLen∧base≤g∧g<w.heap.size∧∀ j,j<n*size→w.cell? ⟨g,j,none⟩=xs[j]?:=by
 rcases h.2 with ⟨_,h0⟩ | ⟨g,c,cur,rfl,hb,hg,r1,r2,r3,r4⟩
 ·omega
 ·refine ⟨g,c,rfl,r1,r2,hb,zhl hg,fun j hj=>?_⟩
  rw [zcb hg,← r4,List.getElem?_take_of_lt hj,Array.getElem?_toList]
theorem zos {w:World} {base n size:Nat} {e:TypeId} {v:Value} {xs:List Value} (h:w.ownsRow base e size v n xs):∃ a c,v = .slice a n c∧n≤c∧c≤maxLen:=by
 rcases h.2 with ⟨rfl,h0⟩ | ⟨g,c,cur,rfl,hb,hg,r1,r2,_⟩
 ·exact ⟨none,0,by rw [h0],by omega,by unfold maxLen;omega⟩
 ·exact ⟨_,c,rfl,r1,r2⟩
theorem ownRow_block {w w':World} {base n size:Nat} {e:TypeId} {v:Value} {xs:List Value} (h:w.ownsRow base e size v n xs) (c:∀ k,v.ownBlock=some k→w'.heap[k]?=w.heap[k]?):w'.ownsRow base e size v n xs:=by
 refine ⟨h.1,?_⟩
 rcases h.2 with h' | ⟨g,cap,cur,rfl,hb,hg,r⟩
 ·exact .inl h'
 ·exact .inr ⟨g,cap,cur,rfl,hb,(c g rfl).trans hg,r⟩
theorem row_zero {w:World} {base size:Nat} {e:TypeId} : w.ownsRow base e size (.slice none 0 0) 0 []:=⟨by simp,.inl ⟨rfl,rfl⟩⟩
theorem row_ne {w:World} {base n size p:Nat} {e:TypeId} {v:Value} {xs:List Value} {T:TypeId} {ps:Array Value} (h:w.ownsRow base e size v n xs) (hp:w.heap[p]?=some (.cells ps T (0,0))) (hT:e≠T):v.ownBlock≠some p:=by
 rcases h.2 with ⟨rfl,_⟩ | ⟨g,c,cur,rfl,_,hg,_⟩
 ·intro h;cases h
 ·intro e'
  have:g=p:=by simpa [Value.ownBlock] using e'
  subst this
  rw [hg] at hp
  injection hp with hp
  injection hp with _ hp
  exact hT hp
def AppSrc (w:World) (size:Nat) (x:Value) (m:Nat) (news:List Value):Prop :=
 news.length=m*size∧(∀ u,u∈news→u.oneCell'=true) ∧
 ((∃ g o c,x = .slice (some ⟨g,o,none⟩) m c∧g<w.heap.size∧∀ j u,news[j]?=some u→w.cell? ⟨g,o+j,none⟩=some u)∨(∃ c,x = .slice none 0 c∧m=0))
theorem AppSrc.chg {L:List Nat} {w w':World} {size m:Nat} {x:Value} {news:List Value} (h:AppSrc w size x m news) (c:Chg L w w') (hL:∀ g,x.ownBlock=some g→g∉L):AppSrc w' size x m news:=by
 obtain ⟨h1,h2,h3⟩:=h
 refine ⟨h1,h2,?_⟩
 rcases h3 with ⟨g,o,k,rfl,hg,hc⟩ | h3
 ·exact .inl ⟨g,o,k,rfl,Nat.lt_of_lt_of_le hg c.size,fun j u hu=>(c.cell (p:=⟨g,o+j,none⟩) hg (hL g rfl)).trans (hc j u hu)⟩
 ·exact .inr h3
theorem AppSrc.own {w:World} {base size n:Nat} {e:TypeId} {v:Value} {xs:List Value} (h:w.ownsRow base e size v n xs) (h1:∀ u,u∈xs→u.oneCell'=true):AppSrc w size v n xs:=by
 refine ⟨h.1,h1,?_⟩
 rcases h.2 with ⟨rfl,rfl⟩ | ⟨g,c,cur,rfl,hb,hg,r1,r2,r3,r4⟩
 ·exact .inr ⟨0,rfl,rfl⟩
 ·refine .inl ⟨g,0,c,rfl,zhl hg,fun j u hu=>?_⟩
  have hj:j<n*size:=by
   have:=(List.getElem?_eq_some_iff.1 hu).1
   rw [h.1] at this;exact this
  rw [Nat.zero_add,zcb hg,← hu,← r4,List.getElem?_take_of_lt hj,Array.getElem?_toList]
theorem AppSrc.blk {w:World} {size m c b:Nat} {cs:Array Value} {e:TypeId} (h:w.heap[b]?=some (.cells cs e (0,0))) (hn:cs.size=m*size) (h1:∀ u,u∈cs.toList→u.oneCell'=true):AppSrc w size (.slice (some ⟨b,0,none⟩) m c) m cs.toList:=by
 refine ⟨by simpa using hn,h1,.inl ⟨b,0,c,rfl,zhl h,fun j u hu=>?_⟩⟩
 rw [Nat.zero_add,zcb h,← hu,Array.getElem?_toList]
theorem run_app {w:World} {base size n m bytes:Nat} {t e:TypeId} {z v x:Value} {xs news:List Value} (ht:Tryz.prog.underlying t=some (.slice e)) (hinfo:(Tryz.prog.info? e).map (fun i=>(i.zero,i.size,i.bytes))=some (some z,size,bytes)) (hzs:z.cells.size=size) (hsz:0<size) (hby:bytes≤1000)
  (hown:w.ownsRow base e size v n xs) (hs:AppSrc w size x m news) (hnm:n+m≤3000000) (hbase:base≤w.heap.size) :
  ∃ v' w',(Builtin.append_ #[t,t] t #[v,x]).run Tryz.prog w = .ok v' w'∧w'.ownsRow base e size v' (n+m) (xs++news)∧w.grownBy w' v.ownBlock∧(v'.ownBlock=v.ownBlock∨v'.ownBlock=some w.heap.size):=by
 obtain ⟨i,h1,h2,h3,h4⟩:=info_parts hinfo
 obtain ⟨s1,s2,s3⟩:=hs
 rcases s3 with ⟨g,o,c,rfl,hg,hc⟩ | ⟨c,rfl,rfl⟩
 ·obtain ⟨v',w',hr,ho,hgr,_,hob⟩:=run_append_own_at (P:=Tryz.prog) w base t t e i z size bytes ht h1 h2 h3 h4 hzs hsz v n xs hown ⟨g,o,none⟩ m c news s1 (fun j u hu=>by have e:Addr.add ⟨g,o,none⟩ j=⟨g,o+j,none⟩:=(by unfold Addr.add;split <;> simp [*]);rw [e];exact hc j u hu) s2 (by unfold maxLen;omega) (by
   have:(n+m)*bytes≤3000000*1000:=Nat.mul_le_mul hnm hby
   omega) hbase
  exact ⟨v',w',hr,ho,hgr,hob⟩
 ·have hn:news=[]:=List.eq_nil_of_length_eq_zero (by simpa using s1)
  subst hn
  obtain ⟨a,k,hv,hk,_⟩:=zos hown
  rw [hv]
  refine ⟨_,w,run_append_nothing w t t t e i ht h1 a n k hk _ (Src.ofNil w ht c),?_,⟨rfl,rfl,rfl,Nat.le_refl _,fun _ _ _=>rfl⟩,.inl rfl⟩
  rw [List.append_nil,← hv]
  exact hown
theorem step_app {ops:Array Oper} {o:Oper} {a:Act} {w:World} {K:Act→World→Prop} {Q:Exit→Act→World→Prop} {E:Prop} (hg:o.guard=none) (s x:Operand) (t:TypeId)
  (hop:o.op = .call { callee := .builtin .append,args:=#[s,x],argTypes:=#[t,t] }) (hty:o.type=t) {base size n m bytes:Nat} {e:TypeId} {z v xv:Value} {xs news:List Value}
  (ht:Tryz.prog.underlying t=some (.slice e)) (hinfo:(Tryz.prog.info? e).map (fun i=>(i.zero,i.size,i.bytes))=some (some z,size,bytes)) (hzs:z.cells.size=size) (hsz:0<size) (hby:bytes≤1000)
  (hs:a.eval s=v) (hx:a.eval x=xv) (hown:w.ownsRow base e size v n xs) (hsrc:AppSrc w size xv m news) (hnm:n+m≤3000000) (hbase:base≤w.heap.size)
  (hK:∀ v' w',w'.ownsRow base e size v' (n+m) (xs++news)→w.grownBy w' v.ownBlock→(v'.ownBlock=v.ownBlock∨v'.ownBlock=some w.heap.size)→K (a.put o.dst v') w') :
  if Region.wanted o (yielded ops a.tmps)=true then Oper.wp Tryz.prog o a w K Q else E:=by
 have hw:Region.wanted o (yielded ops a.tmps)=true:=by simp [Region.wanted,hg]
 rw [if_pos hw]
 obtain ⟨v',w',hrun,r1,r2,r3⟩:=run_app ht hinfo hzs hsz hby hown hsrc hnm hbase
 unfold Oper.wp
 simp [execOp,hop,resolve,invoke,builtin,hs,hx,hty,hrun,Result.andThen]
 exact hK _ _ r1 r2 r3
theorem own_emptyG {w:World} {base size:Nat} {e:TypeId} (h:base≤w.heap.size):(w.alloc (.cells #[] e)).ownsRow base e size (.slice (some ⟨w.heap.size,0,none⟩) 0 0) 0 [] :=
 ⟨by simp,.inr ⟨w.heap.size,0,#[],rfl,h,znb w _,Nat.zero_le _,by unfold maxLen;omega,by simp,by simp⟩⟩
theorem run_copy_fn {P:Program} {w:World} (dT sT ty elem:TypeId) (hu:P.underlying dT=some (.slice elem)) (hsz:(P.info? elem).map (·.size)=some 1)
  (g off dLen dCap b q sLen sCap N:Nat) (V S:Nat→Value) (t:TypeId) (hg:w.heap[g]?=some (.cells (fnRow N V) t (0,0))) (m:Nat) (hm:m=Nat.min sLen dLen)
  (hc:∀ j,j<m→w.cell? ⟨b,q+j,none⟩=some (S j)) (h1:∀ j,j<m→(S j).oneCell'=true) (hfit:off+m≤N) :
  ∃ w',(Builtin.copy_ #[dT,sT] ty #[.slice (some ⟨g,off,none⟩) dLen dCap,.slice (some ⟨b,q,none⟩) sLen sCap]).run P w = .ok (goInt m) w'∧w'.heap[g]?=some (.cells (fnRow N (laid V S off m)) t (0,0))∧Chg [g] w w':=by
 have hl:((List.range m).map S).length=m:=by simp
 have hrun:=run_copy_row (P:=P) w dT sT ty elem g off dLen dCap ⟨b,q,none⟩ sLen sCap (fnRow N V) t ((List.range m).map S) hu hsz hg (by rw [hl,hm])
   (fun j v hj=>by
    simp only [List.getElem?_map] at hj
    by_cases hlt:j<m
    ·simp [hlt] at hj
     subst hj
     have e:(⟨b,q,none⟩:Addr).add j=⟨b,q+j,none⟩:=by unfold Addr.add;split <;> simp_all
     rw [e]
     exact hc j hlt
    ·simp [hlt] at hj)
   (by rw [hl];simp [fnRow];exact hfit)
   (fun v hv=>by obtain ⟨j,hj,rfl⟩:=List.mem_map.1 hv;exact h1 j (by simpa using hj))
 rw [hl] at hrun
 refine ⟨_,hrun,?_,⟨rfl,rfl,rfl,by simp [World.setRow],fun k hk hn=>setRow_other w g k _ (by simpa using hn)⟩⟩
 have hr:=laid_row V S hfit
 rw [hl] at hr
 rw [show ((fnRow N V).toList.take off++List.map S (List.range m)++(fnRow N V).toList.drop (off+m))=((fnRow N V).toList.take off++(List.map S (List.range m)++(fnRow N V).toList.drop (off+m))) from List.append_assoc _ _ _,hr]
 exact setRow_heap w g _ _ t _ hg
theorem step_copy {ops:Array Oper} {o:Oper} {a:Act} {w:World} {K:Act→World→Prop} {Q:Exit→Act→World→Prop} {E:Prop} (hg:o.guard=none) (d s:Operand) (dT sT:TypeId)
  (hop:o.op = .call { callee := .builtin .copy,args:=#[d,s],argTypes:=#[dT,sT] }) (elem:TypeId) (hu:Tryz.prog.underlying dT=some (.slice elem)) (hsz:(Tryz.prog.info? elem).map (·.size)=some 1)
  (g off dLen dCap b q sLen sCap N:Nat) (V S:Nat→Value) (t:TypeId) (hd:a.eval d = .slice (some ⟨g,off,none⟩) dLen dCap) (hs:a.eval s = .slice (some ⟨b,q,none⟩) sLen sCap) (hgb:w.heap[g]?=some (.cells (fnRow N V) t (0,0))) (m:Nat) (hm:m=Nat.min sLen dLen)
  (hc:∀ j,j<m→w.cell? ⟨b,q+j,none⟩=some (S j)) (h1:∀ j,j<m→(S j).oneCell'=true) (hfit:off+m≤N)
  (hK:∀ w',w'.heap[g]?=some (.cells (fnRow N (laid V S off m)) t (0,0))→Chg [g] w w'→K (a.put o.dst (goInt m)) w') :
  if Region.wanted o (yielded ops a.tmps)=true then Oper.wp Tryz.prog o a w K Q else E:=by
 have hw:Region.wanted o (yielded ops a.tmps)=true:=by simp [Region.wanted,hg]
 rw [if_pos hw]
 obtain ⟨w',hrun,r1,r2⟩:=run_copy_fn (P:=Tryz.prog) (w:=w) dT sT o.type elem hu hsz g off dLen dCap b q sLen sCap N V S t hgb m hm hc h1 hfit
 unfold Oper.wp
 simp [execOp,hop,resolve,invoke,builtin,hd,hs,hrun,Result.andThen]
 exact hK _ r1 r2
def bstr (n:Nat) (f:Nat→Nat):ByteArray:=strOfNums ((List.range n).map fun i=>(f i:Int))
def eqF (n m:Nat) (f g:Nat→Nat):Bool:=decide (n=m)&&(List.range n).all fun i=>decide (f i=g i)
theorem eqF_iff {n m:Nat} {f g:Nat→Nat} : eqF n m f g=true↔n=m∧∀ i,i<n→f i=g i:=by
 simp [eqF]
theorem bstr_toList (n:Nat) (f:Nat→Nat):(bstr n f).toList=(List.range n).map fun i=>UInt8.ofNat (f i):=by
 rw [ByteArray.toList_eq]
 unfold bstr
 rw [strOfNums_data,List.map_map]
 rfl
theorem bstr_beq {n m:Nat} {f g:Nat→Nat} (hf:∀ i,i<n→f i≤255) (hg:∀ i,i<m→g i≤255):((bstr n f).toList==(bstr m g).toList)=eqF n m f g:=by
 rw [Bool.eq_iff_iff,eqF_iff,beq_iff_eq,bstr_toList,bstr_toList]
 constructor
 ·intro h
  have hl:=congrArg List.length h
  simp at hl
  subst hl
  refine ⟨rfl,fun i hi=>?_⟩
  have:=congrArg (fun l=>l[i]?) h
  simp only [List.getElem?_map,List.getElem?_range hi,Option.map_some,Option.some.injEq] at this
  have h2:=congrArg UInt8.toNat this
  have hfi:=hf i hi
  have hgi:=hg i hi
  simp at h2
  omega
 ·rintro ⟨rfl,h⟩
  apply List.map_congr_left
  intro i hi
  rw [h i (by simpa using hi)]
theorem BytesIn.le {w:World} {a:Option Addr} {n cap:Nat} {f:Nat→Nat} (h:BytesIn w a n cap f):∀ i,i<n→f i≤255:=by
 intro i hi
 obtain ⟨h1,h2,h3,h4⟩:=h
 cases a with
 | none=>have:=(h3 rfl).1;omega
 | some b =>
  obtain ⟨k,o,rfl,hb⟩:=h4 b rfl (by omega)
  exact (hb i hi).2
theorem BytesIn.chg {L:List Nat} {w w':World} {a:Option Addr} {n cap:Nat} {f:Nat→Nat} (h:BytesIn w a n cap f) (c:Chg L w w') (hL:0<n→∀ b,a=some b→b.block∉L):BytesIn w' a n cap f :=
 ⟨h.1,h.2.1,h.2.2.1,fun b hb h0=>by
  obtain ⟨k,o,rfl,hc⟩:=h.2.2.2 b hb h0
  exact ⟨k,o,rfl,hc.chg c (hL h0 _ hb)⟩⟩
theorem conv_at {w:World} {a:Option Addr} {n cap:Nat} {f:Nat→Nat} (h:BytesIn w a n cap f):(convert 22 9 (.slice a n cap)).run Tryz.prog w = .ok (.string (bstr n f)) w:=by
 obtain ⟨h1,h2,h3,h4⟩:=h
 cases a with
 | none =>
  obtain ⟨rfl,rfl⟩:=h3 rfl
  rw [run_convert_bytes_string w 22 9 5 none 0 0 Tryz.underlying22 Tryz.underlying5 Tryz.underlying9]
  simp [Conv.bytesToString,loadCells]
  rfl
 | some b =>
  by_cases h0:n=0
  ·subst h0
   rw [run_convert_bytes_string w 22 9 5 (some b) 0 cap Tryz.underlying22 Tryz.underlying5 Tryz.underlying9]
   simp [Conv.bytesToString,loadCells]
   rfl
  obtain ⟨k,o,rfl,hb⟩:=h4 b rfl (by omega)
  refine run_convert_bytes_arg (P:=Tryz.prog) w 22 5 Tryz.underlying22 Tryz.underlying5 k o n cap _ (by simp) ?_ 9 Tryz.underlying9
  intro i hi
  rw [(hb i hi).1]
  simp [List.getD,List.getElem?_map,List.getElem?_range hi]
structure Dk where
 n:Nat
 data:Nat→Nat→Nat
 waits:List (Nat × (Nat→Nat))
def rowD (n:Nat) (f:Nat→Nat→Nat):Array Value:=u8s (n*128) fun i=>f (i / 128) (i % 128)
def wrV (x:Nat × (Nat→Nat)) (i:Nat):Value:=if i=0 then .int .i64 (x.1:Int) else .int .u8 (x.2 (i - 1):Int)
def wrRow (x:Nat × (Nat→Nat)):Array Value:=fnRow 129 (wrV x)
def wrCells:List (Nat × (Nat→Nat))→List Value
 | []=>[]
 | x::r=>(wrRow x).toList++wrCells r
theorem zfs (n:Nat) (V:Nat→Value):(fnRow n V).size=n:=by simp [fnRow]
theorem zfg {n i:Nat} {V:Nat→Value} (h:i<n):(fnRow n V)[i]?=some (V i):=by simp [fnRow,h]
theorem wrCells_get (l:List (Nat × (Nat→Nat))) (i j:Nat) (hi:i<l.length) (hj:j<129):(wrCells l)[i*129+j]?=some (wrV l[i] j):=by
 induction l generalizing i with
 | nil=>simp at hi
 | cons p r ih =>
  rw [wrCells]
  have hl:(wrRow p).toList.length=129:=by rw [Array.length_toList,wrRow,zfs]
  cases i with
  | zero =>
   rw [List.getElem?_append_left (by omega),Array.getElem?_toList,wrRow,Nat.zero_mul,Nat.zero_add,zfg hj]
   rfl
  | succ k =>
   rw [List.getElem?_append_right (by omega),hl,show (k+1)*129+j - 129=k*129+j by omega,ih k (by simpa using hi)]
   rfl
theorem wrCells_app (a b:List (Nat × (Nat→Nat))):wrCells (a++b)=wrCells a++wrCells b:=by
 induction a with
 | nil=>rfl
 | cons p r ih=>rw [List.cons_append,wrCells,wrCells,ih,List.append_assoc]
structure DiskAt (w:World) (p bb:Nat) (wv:Value) (D:Dk):Prop where
 n1:1≤D.n
 n2:D.n≤4096
 le:∀ b,b<D.n→∀ i,i<128→D.data b i≤255
 top:w.heap[p]?=some (.cells #[.slice (some ⟨bb,0,none⟩) D.n D.n,wv,.int .i64 (-1),.bool false] 156 (0,0))
 blk:w.heap[bb]?=some (.cells (rowD D.n D.data) 169 (0,0))
 wts:w.ownsRow 0 171 129 wv D.waits.length (wrCells D.waits)
 wle:∀ x,x∈D.waits→x.1<D.n∧∀ i,i<128→x.2 i≤255
 wl:D.waits.length≤1000000
section
variable {w w':World} {p bb:Nat} {wv:Value} {D:Dk}
theorem DiskAt.ne (h:DiskAt w p bb wv D):p≠bb:=by
 rintro rfl
 have h1:=h.top
 rw [h.blk] at h1
 injection h1 with h1
 injection h1 with _ h1
 revert h1;decide
theorem DiskAt.wne (h:DiskAt w p bb wv D):wv.ownBlock≠some p∧wv.ownBlock≠some bb:=⟨row_ne h.wts h.top (by decide),row_ne h.wts h.blk (by decide)⟩
theorem DiskAt.chg {L:List Nat} (h:DiskAt w p bb wv D) (c:Chg L w w') (h1:p∉L) (h2:bb∉L) (h3:∀ k,wv.ownBlock=some k→k∉L):DiskAt w' p bb wv D :=
 { h with top:=(c.block p (zhl h.top) h1).trans h.top,blk:=(c.block bb (zhl h.blk) h2).trans h.blk,wts:=zoc h.wts c h3 }
theorem DiskAt.lt (h:DiskAt w p bb wv D):p<w.heap.size∧bb<w.heap.size:=⟨zhl h.top,zhl h.blk⟩
theorem DiskAt.wlt (h:DiskAt w p bb wv D):∀ k,wv.ownBlock=some k→k<w.heap.size:=fun k hk=>h.wts.lt k hk |>.2
end
section
variable {w:World} {p bb:Nat} {wv:Value} {D:Dk}
theorem dMay_at (h:DiskAt w p bb wv D):Calls Tryz.prog 104 #[.pointer (some ⟨p,0,none⟩)] w fun e w'=>e = .returned (.int .i64 0)∧w=w':=by
 have ht:=h.top
 have c0:=zcb ht 0
 have c1:=zcb ht 1
 have c2:=zcb ht 2
 have c3:=zcb ht 3
 simp only [List.getElem?_toArray,List.getElem?_cons_zero,List.getElem?_cons_succ] at c0 c1 c2 c3
 have hn:=Lib.run_eql_slice_nil (P:=Tryz.prog) w 149 169 (some ⟨bb,0,none⟩) D.n D.n 0 0 Tryz.underlying149
 go_enter Tryz.func104,Tryz.ntmps104
 go_wp2_with fail
 go_ret
 exact ⟨rfl,rfl⟩
theorem dPower_at (h:DiskAt w p bb wv D):Calls Tryz.prog 105 #[.pointer (some ⟨p,0,none⟩)] w fun e w'=>e = .returned (.int .i64 0)∧w=w':=by
 have ht:=h.top
 have c0:=zcb ht 0
 have c1:=zcb ht 1
 have c2:=zcb ht 2
 have c3:=zcb ht 3
 simp only [List.getElem?_toArray,List.getElem?_cons_zero,List.getElem?_cons_succ] at c0 c1 c2 c3
 go_enter Tryz.func105,Tryz.ntmps105
 go_wp2_with fail
 go_ret
 exact ⟨rfl,rfl⟩
theorem dLen_at (h:DiskAt w p bb wv D):Calls Tryz.prog 43 #[.pointer (some ⟨p,0,none⟩)] w fun e w'=>e = .returned (.int .i64 (D.n:Int))∧w=w':=by
 have ht:=h.top
 have c0:=zcb ht 0
 have c1:=zcb ht 1
 have c2:=zcb ht 2
 have c3:=zcb ht 3
 simp only [List.getElem?_toArray,List.getElem?_cons_zero,List.getElem?_cons_succ] at c0 c1 c2 c3
 go_enter Tryz.func43,Tryz.ntmps43
 go_wp2_with fail
 go_ret
 exact ⟨rfl,rfl⟩
end
theorem infoBlk:(Tryz.prog.info? 169).map (fun i=>(i.zero,i.size,i.bytes))=some (some (.agg (Array.replicate 128 (.int .u8 0))),128,128):=by kernel_rfl
theorem infoWr:(Tryz.prog.info? 171).map (fun i=>(i.zero,i.size,i.bytes))=some (some (.agg (#[.int .i64 0]++Array.replicate 128 (.int .u8 0))),129,136):=by kernel_rfl
theorem laid_row' {n at':Nat} {d:Nat→Nat→Nat} {f:Nat→Nat} (ha:at'<n):fnRow (n*128) (laid (fun i => .int .u8 (d (i / 128) (i % 128):Int)) (fun i => .int .u8 (f i:Int)) (at'*128) 128)=rowD n (fun b=>if b=at' then f else d b):=by
 apply Array.ext_getElem?
 intro i
 by_cases hi:i<n*128
 ·rw [zfg hi,rowD,u8s_get hi]
  unfold laid
  by_cases h:at'*128≤i∧i<at'*128+128
  ·rw [if_pos h,show i / 128=at' by omega,if_pos rfl,show i - at'*128=i % 128 by omega]
  ·rw [if_neg h,if_neg (show ¬ i / 128=at' by omega)]
 ·rw [Array.getElem?_eq_none (by rw [zfs];omega),Array.getElem?_eq_none (by simp [rowD,u8s];omega)]
theorem dpPut_at {w:World} {p bb at' n:Nat} {f:Nat→Nat} {d:Nat→Nat→Nat} (hp:w.cell? ⟨p,0,none⟩=some (.slice (some ⟨bb,0,none⟩) n n)) (hb:w.heap[bb]?=some (.cells (rowD n d) 169 (0,0))) (ha:at'<n) (hn:n≤4096) :
  Calls Tryz.prog 146 #[.pointer (some ⟨p,0,none⟩),.agg (wrRow (at',f)),.int .i64 128] w fun e w'=>e = .returned (.tuple #[])∧w'.heap[bb]?=some (.cells (rowD n (fun b=>if b=at' then f else d b)) 169 (0,0))∧Chg [bb] w w':=by
 have hc:Chg [] w (w.alloc (.cells (wrRow (at',f)) 171)):=(Chg.refl [] w).alloc _
 have hx:=znb w (.cells (wrRow (at',f)) 171)
 have hp':=(hc.cell (p:=⟨p,0,none⟩) (World.block_lt_of_cell? w ⟨p,0,none⟩ hp) (by simp)).trans hp
 have hb':=(hc.block bb (zhl hb) (by simp)).trans hb
 have hwr:∀ j,j<129→(w.alloc (.cells (wrRow (at',f)) 171)).cell? ⟨w.heap.size,j,none⟩=some (wrV (at',f) j):=fun j hj=>(zcb hx j).trans (zfg hj)
 have h0:(w.alloc (.cells (wrRow (at',f)) 171)).cell? ⟨w.heap.size,0,none⟩=some (.int .i64 (at':Int)):=hwr 0 (by omega)
 have hlt:bb<w.heap.size:=zhl hb
 have HPL:=Lib.hid (World.block_lt_of_cell? w ⟨p,0,none⟩ hp)
 have HPP:=Lib.hid hp
 have i1:(at':Int)<(n:Int):=by omega
 clear hp hb
 go_enter Tryz.func146,Tryz.ntmps146
 go_upto_region 1 with fail
 have HC:=Lib.hid hc
 have HB:=Lib.hid hb'
 have HW:=Lib.hid hwr
 have HLT:=Lib.hid (zhl hx)
 have HPB:=Lib.hid (show p≠bb from fun e=>by
  subst e
  rw [zcb hb' 0] at hp'
  unfold rowD at hp'
  by_cases h0:0<n*128
  ·rw [u8s_get h0] at hp';cases hp'
  ·omega)
 clear hc hb' hwr hx
 generalize w.alloc (.cells (wrRow (at',f)) 171)=W at *
 refine wp_region_held_drew (S:=fun W'=>W'.cell? ⟨p,0,none⟩=some (.slice (some ⟨bb,0,none⟩) n n)∧W'.cell? ⟨w.heap.size,0,none⟩=some (.int .i64 (at':Int))) (by kernel_rfl) (by exact ⟨hp',h0⟩) (fun hHeld=>?_)
 refine wV 0 ?_ (hy:=by rintro W' ⟨s0,s1⟩;go_simp;first | done | with_reducible rfl)
 refine wV 1 ?_ (hy:=by rintro W' ⟨s0,s1⟩;go_simp;first | done | with_reducible rfl)
 refine wV 2 ?_ (hy:=by rintro W' ⟨s0,s1⟩;go_simp;first | done | with_reducible rfl)
 refine wV 3 ?_ (hy:=by rintro W' ⟨s0,s1⟩;go_simp;first | done | with_reducible rfl)
 refine wV 4 ?_ (hy:=by rintro W' ⟨s0,s1⟩;go_simp;first | done | with_reducible rfl)
 refine wV 5 ?_ (hy:=by rintro W' ⟨s0,s1⟩;go_simp;first | done | with_reducible rfl)
 refine wV 6 ?_ (hy:=by rintro W' ⟨s0,s1⟩;go_simp;first | done | with_reducible rfl)
 refine wV 7 ?_ (hy:=by rintro W' ⟨s0,s1⟩;go_simp;first | done | with_reducible rfl)
 refine wV 8 ?_ (hy:=by rintro W' ⟨s0,s1⟩;go_simp;first | done | with_reducible rfl)
 refine wV 9 ?_ (hy:=by rintro W' ⟨s0,s1⟩;go_simp;first | done | with_reducible rfl)
 refine wV 10 ?_ (hy:=by rintro W' ⟨s0,s1⟩;go_simp;first | done | with_reducible rfl)
 try simp only [Act.put,sA1,sA2,sA3]
 refine wE 11 (fun K hK=>?_)
 ·(refine step_copy rfl (.tmp 14) (.tmp 16) 22 22 rfl 5 Tryz.underlying22 (by kernel_rfl) bb (at'*128) 128 128 w.heap.size 1 128 128 (n*128) (fun i => .int .u8 (d (i / 128) (i % 128):Int)) (fun i => .int .u8 (f i:Int)) 169 (by simp [Act.eval,Act.put]) (by simp [Act.eval,Act.put]) HB.out 128 (by decide) (fun j hj=>(HW.out (1+j) (by omega)).trans (by unfold wrV;rw [if_neg (by omega),Nat.add_sub_cancel_left])) (fun j hj=>rfl) (by omega) ?_;intro w1 hb1 hc1;rw [laid_row' ha] at hb1;have hne:w.heap.size≠bb:=(by omega);have k0:=(hc1.cell (p:=⟨w.heap.size,0,none⟩) HLT.out (by simp;exact hne)).trans h0;have HF:=Lib.hid (And.intro hb1 ((HC.out.drew.mono (L':=[bb]) (by simp)).trans hc1));clear hb1 hc1)
  refine hK.out _ _ (⟨(HF.out.2.cell (p:=⟨p,0,none⟩) HPL.out (by simp;exact HPB.out)).trans HPP.out,k0⟩) (fun hHeld=>?_)
  clear hK K
  try simp only [Act.put,sA1,sA2,sA3]
  refine wpAnyH_done (by kernel_rfl) ?_ _
  go_wp2_with fail
  go_end0
  exact ⟨rfl,HF.out.1,HF.out.2⟩
end Go.Proofs.YtkhcaclndepgbaaGreat
