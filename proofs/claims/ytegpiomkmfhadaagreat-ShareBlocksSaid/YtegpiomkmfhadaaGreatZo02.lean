/- Rows that the program owns: append and -/
import Derived.Test.YtegpiomkmfhadaaGreatZo01
import Derived.Maps.AppendAt
import Derived.Deep.Upon
import Derived.Lib.AppendZeros
import Derived.Deep.RegionLawGrows
import Derived.Laws.BytesArg
import Derived.Laws.IdiomStrings
import Derived.Lib.SliceRun
import Derived.Laws.Cover3
import Derived.Deep.MidRow
import Derived.Deep.WholeRow
import Derived.Deep.Cut
import Derived.Deep.RegionHeld3
import Derived.Great.BuildSlice
set_option linter.all false
set_option maxRecDepth 100000
set_option maxHeartbeats 20000000
namespace Go.Proofs.YtegpiomkmfhadaaGreat
open Go.RowKit
variable {w w':World} {base n size p m bytes cap at' bb k:Nat} {v z:Value} {xs news:List Value} {L:List Nat} {cs:Array Value} {ops:Array Oper} {o op:Oper} {a:Act} {K:Act->World->Prop} {Q:Exit->Act->World->Prop} {E:Prop} {f g:zF} {V:Nat->Value} {d:Nat->Nat->Nat}
theorem Xg {e:TypeId} (h:w.ownsRow base e size v n xs) (c:zv L w w') (hL:∀ k,v.ownBlock=some k->k∉L):w'.ownsRow base e size v n xs:=by
 refine ⟨h.1,?_⟩;rcases h.2 with h' | ⟨g,cap,BV,rfl,hb,hg,r⟩
 ·exact .inl h'
 ·exact .inr ⟨g,cap,BV,rfl,hb,(c.block g (zz hg) (hL g rfl)).trans hg,r⟩
theorem aE {e:TypeId} (h:w.ownsRow base e size v n xs) (hn:0<n):∃ g c,v = zS g n c/\n<=c/\c<=maxLen/\base<=g/\g<w.heap.size/\∀ j,j<n*size->w.cell? ⟨g,j,none⟩=xs[j]?:=by
 rcases h.2 with ⟨_,h0⟩ | ⟨g,c,BV,rfl,hb,hg,r1,r2,r3,r4⟩
 ·omega
 ·refine ⟨g,c,rfl,r1,r2,hb,zz hg,fun j hj=>?_⟩
  rw [zM hg,<- r4,List.getElem?_take_of_lt hj,yB]
theorem XI {e:TypeId} (h:w.ownsRow base e size v n xs):∃ a c,v = .slice a n c/\n<=c/\c<=maxLen:=by
 rcases h.2 with ⟨rfl,h0⟩ | ⟨g,c,BV,rfl,hb,hg,r1,r2,_⟩
 ·exact ⟨none,0,by rw [h0],zo,by unfold maxLen;omega⟩
 ·exact ⟨_,c,rfl,r1,r2⟩
theorem Yu {e:TypeId} (h:w.ownsRow base e size v n xs) (c:∀ k,v.ownBlock=some k->w'.heap[k]?=w.heap[k]?):w'.ownsRow base e size v n xs:=by
 refine ⟨h.1,?_⟩;rcases h.2 with h' | ⟨g,cap,BV,rfl,hb,hg,r⟩
 ·exact .inl h'
 ·exact .inr ⟨g,cap,BV,rfl,hb,(c g rfl).trans hg,r⟩
theorem aF {e:TypeId} : w.ownsRow base e size (.slice none 0 0) 0 []:=⟨zaa,.inl ⟨rfl,rfl⟩⟩
theorem fK {e:TypeId} {T:TypeId} {ps:Array Value} (h:w.ownsRow base e size v n xs) (hp:w.heap[p]?=some (.cells ps T (0,0))) (hT:e≠T):v.ownBlock≠some p:=by
 rcases h.2 with ⟨rfl,_⟩ | ⟨g,c,BV,rfl,_,hg,_⟩
 ·intro h;cases h
 ·intro e'
  have:g=p:=by simpa [Value.ownBlock] using e'
  subst this;rw [hg] at hp;injection hp with hp;injection hp with _ hp;exact hT hp
def xQ (w:World) (size:Nat) (x:Value) (m:Nat) (news:List Value):Prop :=
 news.length=m*size/\(∀ u,u∈news->u.oneCell'=true) /\
 ((∃ g o c,x = .slice (some ⟨g,o,none⟩) m c/\g<w.heap.size/\∀ j u,news[j]?=some u->w.cell? ⟨g,o+j,none⟩=some u)∨(∃ c,x = .slice none 0 c/\m=0))
theorem xQ.own {e:TypeId} (h:w.ownsRow base e size v n xs) (h1:∀ u,u∈xs->u.oneCell'=true):xQ w size v n xs:=by
 refine ⟨h.1,h1,?_⟩;rcases h.2 with ⟨rfl,rfl⟩ | ⟨g,c,BV,rfl,hb,hg,r1,r2,r3,r4⟩
 ·exact .inr ⟨0,rfl,rfl⟩
 ·refine .inl ⟨g,0,c,rfl,zz hg,fun j u hu=>?_⟩
  have hj:j<n*size:=by
   have:=(List.getElem?_eq_some_iff.1 hu).1;rw [h.1] at this;exact this
  rw [yn,zM hg,<- hu,<- r4,List.getElem?_take_of_lt hj,yB]
theorem xQ.blk {c b:Nat} {e:TypeId} (h:w.heap[b]?=some (.cells cs e (0,0))) (hn:cs.size=m*size) (h1:∀ u,u∈cs.toList->u.oneCell'=true):xQ w size (zS b m c) m cs.toList:=by
 refine ⟨by simpa using hn,h1,.inl ⟨b,0,c,rfl,zz h,fun j u hu=>?_⟩⟩;rw [yn,zM h,<- hu,yB]
theorem fN {t e:TypeId} {x:Value} (ht:Tryz.prog.underlying t=some (.slice e)) (EV:(Tryz.prog.info? e).map (fun i=>(i.zero,i.size,i.bytes))=some (some z,size,bytes)) (MN:z.cells.size=size) (Dg:0<size) (D5:bytes<=1000)
  (BT:w.ownsRow base e size v n xs) (hs:xQ w size x m news) (Ni:n+m<=3000000) (Dp:base<=w.heap.size) :
  ∃ v' w',(Builtin.append_ #[t,t] t #[v,x]).run Tryz.prog w = .ok v' w'/\w'.ownsRow base e size v' (n+m) (xs++news)/\w.grownBy w' v.ownBlock/\(v'.ownBlock=v.ownBlock∨v'.ownBlock=some w.heap.size):=by
 obtain ⟨i,h1,h2,h3,h4⟩:=info_parts EV;obtain ⟨s1,s2,s3⟩:=hs;rcases s3 with ⟨g,o,c,rfl,hg,hc⟩ | ⟨c,rfl,rfl⟩
 ·obtain ⟨v',w',hr,ho,EU,_,Dh⟩:=run_append_own_at (P:=Tryz.prog) w base t t e i z size bytes ht h1 h2 h3 h4 MN Dg v n xs BT ⟨g,o,none⟩ m c news s1 (fun j u hu=>by have e:Addr.add ⟨g,o,none⟩ j=⟨g,o+j,none⟩:=(by unfold Addr.add;split <;> simp [*]);rw [e];exact hc j u hu) s2 zam (by
   have:(n+m)*bytes<=3000000*1000:=Nat.mul_le_mul Ni D5;omega) Dp
  exact ⟨v',w',hr,ho,EU,Dh⟩
 ·have hn:news=[]:=List.eq_nil_of_length_eq_zero (by simpa using s1)
  subst hn;obtain ⟨a,k,hv,hk,_⟩:=XI BT;rw [hv];refine ⟨_,w,run_append_nothing w t t t e i ht h1 a n k hk _ (Src.ofNil w ht c),?_,⟨rfl,rfl,rfl,xd _,fun _ _ _=>rfl⟩,.inl rfl⟩;rw [yY,<- hv];exact BT
theorem YD (hg:o.guard=none) (s x:Operand) (t:TypeId)
  (Gv:o.op = .call { callee := .builtin .append,args:=#[s,x],argTypes:=#[t,t] }) (S6:o.type=t) {e:TypeId} {xv:Value} 
  (ht:Tryz.prog.underlying t=some (.slice e)) (EV:(Tryz.prog.info? e).map (fun i=>(i.zero,i.size,i.bytes))=some (some z,size,bytes)) (MN:z.cells.size=size) (Dg:0<size) (D5:bytes<=1000)
  (hs:a.eval s=v) (hx:a.eval x=xv) (BT:w.ownsRow base e size v n xs) (EN:xQ w size xv m news) (Ni:n+m<=3000000) (Dp:base<=w.heap.size)
  (hK:∀ v' w',w'.ownsRow base e size v' (n+m) (xs++news)->w.grownBy w' v.ownBlock->(v'.ownBlock=v.ownBlock∨v'.ownBlock=some w.heap.size)->K (a.put o.dst v') w') :
  if Region.wanted o (yielded ops a.tmps)=true then Oper.wp Tryz.prog o a w K Q else E:=by
 have hw:Region.wanted o (yielded ops a.tmps)=true:=by simp [Region.wanted,hg]
 rw [if_pos hw];obtain ⟨v',w',B8,r1,r2,r3⟩:=fN ht EV MN Dg D5 BT EN Ni Dp;unfold Oper.wp;simp [execOp,Gv,resolve,invoke,builtin,hs,hx,S6,B8,Result.andThen];exact hK _ _ r1 r2 r3
theorem kG {e:TypeId} (h:base<=w.heap.size):(w.alloc (.cells #[] e)).ownsRow base e size (zS w.heap.size 0 0) 0 [] :=
 ⟨zaa,.inr ⟨w.heap.size,0,#[],rfl,h,xo w _,yg _,by unfold maxLen;omega,zaa,zaa⟩⟩
theorem gV {P:Program} (dT sT ty DS:TypeId) (hu:P.underlying dT=some (.slice DS)) (Dg:(P.info? DS).map (·.size)=some 1)
  (g off DV E7 b q DZ Fb N:Nat) (V S:Nat->Value) (t:TypeId) (hg:w.heap[g]?=some (.cells (zK N V) t (0,0))) (m:Nat) (hm:m=Nat.min DZ DV)
  (hc:∀ j,j<m->w.cell? ⟨b,q+j,none⟩=some (S j)) (h1:∀ j,j<m->(S j).oneCell'=true) (Ea:off+m<=N) :
  ∃ w',(Builtin.copy_ #[dT,sT] ty #[.slice (some ⟨g,off,none⟩) DV E7,.slice (some ⟨b,q,none⟩) DZ Fb]).run P w = .ok (goInt m) w'/\w'.heap[g]?=some (.cells (zK N (laid V S off m)) t (0,0))/\zv [g] w w':=by
 have hl:((List.range m).map S).length=m:=zaa
 have B8:=run_copy_row (P:=P) w dT sT ty DS g off DV E7 ⟨b,q,none⟩ DZ Fb (zK N V) t ((List.range m).map S) hu Dg hg (by rw [hl,hm])
   (fun j v hj=>by
    simp only [yT] at hj;by_cases BY:j<m
    ·simp [BY] at hj
     subst hj;have e:(⟨b,q,none⟩:Addr).add j=⟨b,q+j,none⟩:=by unfold Addr.add;split <;> simp_all
     rw [e];exact hc j BY
    ·simp [BY] at hj)
   (by rw [hl];simp [zK];exact Ea)
   (fun v hv=>by obtain ⟨j,hj,rfl⟩:=yw.1 hv;exact h1 j (by simpa using hj))
 rw [hl] at B8;refine ⟨_,B8,?_,⟨rfl,rfl,rfl,by simp [World.setRow],fun k hk hn=>setRow_other w g k _ (by simpa using hn)⟩⟩;have hr:=gU V S Ea;rw [hl] at hr;rw [show ((zK N V).toList.take off++List.map S (List.range m)++(zK N V).toList.drop (off+m))=((zK N V).toList.take off++(List.map S (List.range m)++(zK N V).toList.drop (off+m))) from zf _ _ _,hr];exact setRow_heap w g _ _ t _ hg
theorem nQ (hg:o.guard=none) (d s:Operand) (dT sT:TypeId)
  (Gv:o.op = .call { callee := .builtin .copy,args:=#[d,s],argTypes:=#[dT,sT] }) (DS:TypeId) (hu:Tryz.prog.underlying dT=some (.slice DS)) (Dg:(Tryz.prog.info? DS).map (·.size)=some 1)
  (g off DV E7 b q DZ Fb N:Nat) (V S:Nat->Value) (t:TypeId) (hd:a.eval d = .slice (some ⟨g,off,none⟩) DV E7) (hs:a.eval s = .slice (some ⟨b,q,none⟩) DZ Fb) (IV:w.heap[g]?=some (.cells (zK N V) t (0,0))) (m:Nat) (hm:m=Nat.min DZ DV)
  (hc:∀ j,j<m->w.cell? ⟨b,q+j,none⟩=some (S j)) (h1:∀ j,j<m->(S j).oneCell'=true) (Ea:off+m<=N)
  (hK:∀ w',w'.heap[g]?=some (.cells (zK N (laid V S off m)) t (0,0))->zv [g] w w'->K (a.put o.dst (goInt m)) w') :
  if Region.wanted o (yielded ops a.tmps)=true then Oper.wp Tryz.prog o a w K Q else E:=by
 have hw:Region.wanted o (yielded ops a.tmps)=true:=by simp [Region.wanted,hg]
 rw [if_pos hw];obtain ⟨w',B8,r1,r2⟩:=gV (P:=Tryz.prog) (w:=w) dT sT o.type DS hu Dg g off DV E7 b q DZ Fb N V S t IV m hm hc h1 Ea;unfold Oper.wp;simp [execOp,Gv,resolve,invoke,builtin,hd,hs,B8,Result.andThen];exact hK _ r1 r2
def rj (n:Nat) (f:zF):ByteArray:=strOfNums ((List.range n).map fun i=>(f i:Int))
def um (n m:Nat) (f g:zF):Bool:=decide (n=m)&&(List.range n).all fun i=>decide (f i=g i)
theorem mr : um n m f g=true↔n=m/\∀ i,i<n->f i=g i:=by
 simp [um]
theorem Ox (n:Nat) (f:zF):(rj n f).toList=(List.range n).map fun i=>UInt8.ofNat (f i):=by
 rw [ByteArray.toList_eq];unfold rj;rw [strOfNums_data,List.map_map];rfl
theorem gW (hf:∀ i,i<n->f i<=255) (hg:∀ i,i<m->g i<=255):((rj n f).toList==(rj m g).toList)=um n m f g:=by
 rw [Bool.eq_iff_iff,mr,beq_iff_eq,Ox,Ox];constructor
 ·intro h
  have hl:=congrArg List.length h;simp at hl;subst hl;refine ⟨rfl,fun i hi=>?_⟩;have:=congrArg (fun l=>l[i]?) h;simp only [yT,za hi,Option.map_some,Option.some.injEq] at this;have h2:=congrArg UInt8.toNat this;have hfi:=hf i hi;have Dw:=hg i hi;simp at h2;omega
 ·rintro ⟨rfl,h⟩
  apply yU;intro i hi;rw [h i zaD]
theorem Yc.le {a:Option Addr} (h:Yc w a n cap f):∀ i,i<n->f i<=255:=by
 intro i hi;obtain ⟨h1,h2,h3,h4⟩:=h
 cases a with
 | none=>have:=(h3 rfl).1;omega
 | some b =>
  obtain ⟨k,o,rfl,hb⟩:=h4 b rfl zo;exact (hb i hi).2
theorem ag {a:Option Addr} (h:Yc w a n cap f):(convert 81 9 (.slice a n cap)).run Tryz.prog w = .ok (.string (rj n f)) w:=by
 obtain ⟨h1,h2,h3,h4⟩:=h
 cases a with
 | none =>
  obtain ⟨rfl,rfl⟩:=h3 rfl;rw [run_convert_bytes_string w 81 9 5 none 0 0 Tryz.underlying81 Tryz.underlying5 Tryz.underlying9];simp [Conv.bytesToString,loadCells];rfl
 | some b =>
  by_cases h0:n=0
  ·subst h0
   rw [run_convert_bytes_string w 81 9 5 (some b) 0 cap Tryz.underlying81 Tryz.underlying5 Tryz.underlying9];simp [Conv.bytesToString,loadCells];rfl
  obtain ⟨k,o,rfl,hb⟩:=h4 b rfl zo;refine run_convert_bytes_arg (P:=Tryz.prog) w 81 5 Tryz.underlying81 Tryz.underlying5 k o n cap _ zaa ?_ 9 Tryz.underlying9;intro i hi;rw [(hb i hi).1];simp [List.getD,yT,za hi]
structure Dk where
 n:Nat
 data:Nat->Nat->Nat
 waits:List (Nat × (Nat->Nat))
def JG (n:Nat) (f:Nat->Nat->Nat):Array Value:=Y7 (n*128) fun i=>f (i / 128) (i % 128)
def JZ (x:Nat × (Nat->Nat)) (i:Nat):Value:=if i=0 then .int .i64 (x.1:Int) else .int .u8 (x.2 (i - 1):Int)
def xy (x:Nat × (Nat->Nat)):Array Value:=zK 129 (JZ x)
def qa:List (Nat × (Nat->Nat))->List Value
 | []=>[]
 | x::r=>(xy x).toList++qa r
theorem ZT (n:Nat) (V:Nat->Value):(zK n V).size=n:=by simp [zK]
theorem Qn {i:Nat} (h:i<n):(zK n V)[i]?=some (V i):=by simp [zK,h]
theorem Qw (l:List (Nat × (Nat->Nat))) (i j:Nat) (hi:i<l.length) (hj:j<129):(qa l)[i*129+j]?=some (JZ l[i] j):=by
 induction l generalizing i with
 | nil=>simp at hi
 | cons p r ih =>
  rw [qa];have hl:(xy p).toList.length=129:=by rw [Array.length_toList,xy,ZT]
  cases i with
  | zero =>
   rw [yI zo,yB,xy,Nat.zero_mul,yn,Qn hj];rfl
  | succ k =>
   rw [yF zo,hl,show (k+1)*129+j - 129=k*129+j by omega,ih k zaD];rfl
theorem Oy (a b:List (Nat × (Nat->Nat))):qa (a++b)=qa a++qa b:=by
 induction a with
 | nil=>rfl
 | cons p r ih=>rw [yK,qa,qa,ih,zf]
structure xE (w:World) (p bb:Nat) (wv:Value) (D:Dk):Prop where
 n1:1<=D.n
 n2:D.n<=4096
 le:∀ b,b<D.n->∀ i,i<128->D.data b i<=255
 top:w.heap[p]?=some (.cells #[zS bb D.n D.n,wv,.int .i64 (-1),.bool false] 171 (0,0))
 blk:w.heap[bb]?=some (.cells (JG D.n D.data) 227 (0,0))
 wts:w.ownsRow 0 229 129 wv D.waits.length (qa D.waits)
 wle:∀ x,x∈D.waits->x.1<D.n/\∀ i,i<128->x.2 i<=255
 wl:D.waits.length<=1000000
section
variable {w w':World} {p bb:Nat} {wv:Value} {D:Dk}
theorem xE.ne (h:xE w p bb wv D):p≠bb:=by
 rintro rfl;have h1:=h.top;rw [h.blk] at h1;injection h1 with h1;injection h1 with _ h1
 revert h1;decide
theorem xE.wne (h:xE w p bb wv D):wv.ownBlock≠some p/\wv.ownBlock≠some bb:=⟨fK h.wts h.top zaf,fK h.wts h.blk zaf⟩
theorem xE.chg (h:xE w p bb wv D) (c:zv L w w') (h1:p∉L:=by simp) (h2:bb∉L:=by simp) (h3:∀ k,wv.ownBlock=some k->k∉L:=by simp):xE w' p bb wv D :=
 { h with top:=(c.block p (zz h.top) h1).trans h.top,blk:=(c.block bb (zz h.blk) h2).trans h.blk,wts:=Xg h.wts c h3 }
theorem xE.lt (h:xE w p bb wv D):p<w.heap.size/\bb<w.heap.size:=⟨zz h.top,zz h.blk⟩
theorem xE.wlt (h:xE w p bb wv D):∀ k,wv.ownBlock=some k->k<w.heap.size:=fun k hk=>h.wts.lt k hk |>.2
end
section
variable {w:World} {p bb:Nat} {wv:Value} {D:Dk}
theorem ms (h:xE w p bb wv D):zC 126 #[zP p] w fun e w'=>e = .returned (.int .i64 0)/\w=w':=by
 have ht:=h.top;obtain ⟨c0,c1,c2,c3⟩:=pW ht;have:=Lib.run_eql_slice_nil (P:=Tryz.prog) w 164 227 (some ⟨bb,0,none⟩) D.n D.n 0 0 Tryz.underlying164;go_enter Tryz.func126,Tryz.ntmps126;go_wp2_with fail;go_ret;exact ⟨rfl,rfl⟩
theorem dF (h:xE w p bb wv D):zC 147 #[zP p] w fun e w'=>e = .returned (.int .i64 0)/\w=w':=by
 have ht:=h.top;obtain ⟨c0,c1,c2,c3⟩:=pW ht;go_enter Tryz.func147,Tryz.ntmps147;go_wp2_with fail;go_ret;exact ⟨rfl,rfl⟩
theorem un (h:xE w p bb wv D):zC 85 #[zP p] w fun e w'=>e = .returned (.int .i64 (D.n:Int))/\w=w':=by
 have ht:=h.top;obtain ⟨c0,c1,c2,c3⟩:=pW ht;go_enter Tryz.func85,Tryz.ntmps85;go_wp2_with fail;go_ret;exact ⟨rfl,rfl⟩
end
theorem uo:(Tryz.prog.info? 227).map (fun i=>(i.zero,i.size,i.bytes))=some (some (.agg (Array.replicate 128 (.int .u8 0))),128,128):=zab
theorem fO:(Tryz.prog.info? 229).map (fun i=>(i.zero,i.size,i.bytes))=some (some (.agg (#[.int .i64 0]++Array.replicate 128 (.int .u8 0))),129,136):=zab
theorem nR (ha:at'<n):zK (n*128) (laid (fun i => .int .u8 (d (i / 128) (i % 128):Int)) (fun i => .int .u8 (f i:Int)) (at'*128) 128)=JG n (fun b=>if b=at' then f else d b):=by
 apply yM;intro i;by_cases hi:i<n*128
 ·rw [Qn hi,JG,xL hi]
  unfold laid;by_cases h:at'*128<=i/\i<at'*128+128
  ·rw [if_pos h,show i / 128=at' by omega,if_pos rfl,show i - at'*128=i % 128 by omega]
  ·rw [if_neg h,if_neg (show ¬ i / 128=at' by omega)]
 ·rw [yo zaj,yo (by simp [JG,Y7];omega)]
theorem rm (hp:w.cell? ⟨p,0,none⟩=some (zS bb n n)) (hb:w.heap[bb]?=some (.cells (JG n d) 227 (0,0))) (ha:at'<n) (hn:n<=4096) :
  zC 148 #[zP p,.agg (xy (at',f)),.int .i64 128] w fun e w'=>e = .returned (.tuple #[])/\w'.heap[bb]?=some (.cells (JG n (fun b=>if b=at' then f else d b)) 227 (0,0))/\zv [bb] w w':=by
 have hc:zv [] w (w.alloc (.cells (xy (at',f)) 229)):=(zv.refl [] w).alloc _;have hx:=xo w (.cells (xy (at',f)) 229);have EL:=(hc.cell (p:=⟨p,0,none⟩) (yc w ⟨p,0,none⟩ hp) zaa).trans hp;have LA:=(hc.block bb (zz hb) zaa).trans hb;have hwr:∀ j,j<129->(w.alloc (.cells (xy (at',f)) 229)).cell? ⟨w.heap.size,j,none⟩=some (JZ (at',f) j):=fun j hj=>(zM hx j).trans (Qn hj);have h0:(w.alloc (.cells (xy (at',f)) 229)).cell? ⟨w.heap.size,0,none⟩=some (zI at'):=hwr 0 zo;have:bb<w.heap.size:=zz hb;have Nz:=zh (yc w ⟨p,0,none⟩ hp);have HPP:=zh hp;have:(at':Int)<(n:Int):=zo
 clear hp hb;go_enter Tryz.func148,Tryz.ntmps148;go_upto_region 1 with fail;have HC:=zh hc;have HB:=zh LA;have HW:=zh hwr;have DU:=zh (zz hx)
 have HPB:=zh (show p≠bb from fun e=>by
  subst e;rw [zM LA 0] at EL;unfold JG at EL;by_cases h0:0<n*128
  ·rw [xL h0] at EL;cases EL
  ·omega)
 clear hc LA hwr hx;generalize w.alloc (.cells (xy (at',f)) 229)=W at *;refine wp_region_held_drew (S:=fun W'=>W'.cell? ⟨p,0,none⟩=some (zS bb n n)/\W'.cell? ⟨w.heap.size,0,none⟩=some (zI at')) zab (by exact ⟨EL,h0⟩) fun BS=>?_;refine XH 0 ?_;refine XH 1 ?_;refine XH 2 ?_;refine XH 3 ?_;refine XH 4 ?_;refine XH 5 ?_;refine XH 6 ?_;refine XH 7 ?_;refine XH 8 ?_;refine XH 9 ?_;refine XH 10 ?_;refine zu ?_;refine wE 11 (fun K hK=>?_)
 ·(refine nQ rfl (.tmp 14) (.tmp 16) 81 81 rfl 5 Tryz.underlying81 zab bb (at'*128) 128 128 w.heap.size 1 128 128 (n*128) (fun i => .int .u8 (d (i / 128) (i % 128):Int)) (fun i => .int .u8 (f i:Int)) 227 zag zag HB 128 zaf (fun j hj=>(HW (1+j) zo).trans (by unfold JZ;rw [if_neg zo,yA])) (fun j hj=>rfl) zo ?_;intro w1 al B5;rw [nR ha] at al;have BU:w.heap.size≠bb:=zo;have k0:=(B5.cell (p:=⟨w.heap.size,0,none⟩) DU (by simp;exact BU)).trans h0;have HF:=zh (zA al ((HC.drew.mono (L':=[bb]) zaa).trans B5));clear al B5)
  refine hK.out _ _ (⟨(HF.2.cell (p:=⟨p,0,none⟩) Nz (by simp;exact HPB)).trans HPP.o,k0⟩) fun BS=>?_;clear hK K;refine zu ?_;refine wpAnyH_done zab ?_ _;go_wp2_with fail
  go_end0
  exact ⟨rfl,HF.1,HF.2⟩
theorem nS (n:Nat):madeCells (Value.agg (Array.replicate 128 (.int .u8 0))).cells (n*128)=JG n (fun _ _=>0):=by
 apply yM;intro i;by_cases hi:i<n*128
 ·unfold JG
  rw [xL hi];unfold madeCells Value.cells;have:i % 128<128:=Nat.mod_lt _ zo;simp [hi,this]
 ·rw [yo (by simp [madeCells];omega),yo (by simp [JG,Y7];omega)]
theorem uq (h1:16<=n) (h2:n<=4096) :
  zC 47 #[.int .i64 (n:Int)] w fun e w'=>e = .returned (.tuple #[zP (w.heap.size+1),.int .i64 0])/\xE w' (w.heap.size+1) w.heap.size (.slice none 0 0) ⟨n,fun _ _=>0,[]⟩/\zv [] w w':=by
 have:(Instr.makeSlice 164 (zI n) (zI n)).run Tryz.prog w = .ok (zS w.heap.size n n) (w.alloc (.cells (JG n (fun _ _=>0)) 227)):=by
  obtain ⟨i,e1,e2,e3,e4⟩:=info_parts uo;have hb:(i.bytes:Int)*(n:Int)<=281474976710656:=by rw [e4];omega
  have hr:=run_make (P:=Tryz.prog) w 164 227 i _ Tryz.underlying164 e1 e2 .i64 .i64 n n zo zo hb zo;rw [yz,e3,nS] at hr;exact hr
 have:¬ (n:Int)<16:=zo;have:¬ (4096:Int)<(n:Int):=zo
 have HD:=zh (show xE ((w.alloc (.cells (JG n (fun _ _=>0)) 227)).alloc (.cells #[zS w.heap.size n n,.slice none 0 0,.int .i64 (-1),.bool false] 171)) (w.heap.size+1) w.heap.size (.slice none 0 0) ⟨n,fun _ _=>0,[]⟩ from
  { n1:=by show 1<=n;omega,n2:=h2,le:=fun _ _ _ _=>yg _,top:=cZ _ _ _,blk:=kC _ _ _,wts:=aF,wle:=fun x hx=>(by cases hx),wl:=yg _ })
 have HC:=zh (((zv.refl [] w).alloc (.cells (JG n (fun _ _=>0)) 227)).alloc (.cells #[zS w.heap.size n n,.slice none 0 0,.int .i64 (-1),.bool false] 171));clear h1 h2;go_enter Tryz.func47,Tryz.ntmps47;go_wp2_with fail;exact bodyPost_ret (v := .tuple #[zP (w.heap.size+1),.int .i64 0]) (by simp [results,Tryz.results47,go_sem]) rfl ⟨rfl,HD.o,HC⟩
theorem qZ {rest:List Oper} {W:World} (Eg:op.guard=none) (t:TypeId) (x y:Operand) (ho:op.op = .store t x y) (Z cs:Array Value) (b n:Nat) (hb:b=W.heap.size)
  (hx:a.eval x = zP b) (hy:a.eval y = .agg cs) (hi:(Tryz.prog.info? t).map (·.size)=some n) (hZ:Z.size=n) (hc:cs.size=n) (h1:cs.all (·.oneCell')=true)
  (h:wpList Tryz.prog ops Q rest (a.put op.dst undef) (W.alloc (.cells cs t))):wpList Tryz.prog ops Q (op::rest) a (W.alloc (.cells Z t)):=by
 subst hb;refine wpList_plain Eg fun K' Ii=>?_;unfold Oper.wp execOp;simp only [ho,hx,hy];have:=run_storeAt_new (P:=Tryz.prog) W t Z cs (by rw [hi,hc]) zo h1;simp only [Sem.run_bind,this,Result.andThen_ok,Sem.run_pure];exact Ii _ _ h
theorem VS (h:∀ i,i<n->(V i).oneCell'=true):(zK n V).all (·.oneCell')=true:=by
 refine Array.all_eq_true.2 fun i hi=>?_;rw [ZT] at hi;simp only [zK,Array.getElem_ofFn];exact h i hi
theorem XJ (x:Nat × (Nat->Nat)):(xy x).all (·.oneCell')=true:=VS fun i _=>by unfold JZ;split <;> rfl
theorem fP:Tryz.zeroCells229=xy (0,fun _=>0):=zab
theorem JH (x:Nat):Tryz.zeroCells229.setIfInBounds 0 (.int .i64 (x:Int))=xy (x,fun _=>0):=by
 rw [fP];apply yM;intro i;by_cases hi:i<129
 ·rw [yP,xy,xy,Qn hi,Qn hi,ZT]
  by_cases h0:0=i
  ·subst h0;simp [JZ]
  ·rw [if_neg h0];unfold JZ;rw [if_neg (fun e=>h0 e.symm),if_neg (fun e=>h0 e.symm)]
 ·rw [yo (by simp [xy,ZT];omega),yo (by simp [xy,ZT];omega)]
theorem ut {t e:TypeId} (w:World) (hu:Tryz.prog.underlying t=some (.slice e)) (hi:(Tryz.prog.info? e).map (fun i=>(i.zero,i.size,i.bytes))=some (some z,size,bytes)) (h0:0<size) (h1:size<=16777216) (hc:cs.size=size) :
  (Instr.buildSlice t 1 #[(0,.agg cs)]).run Tryz.prog w = .ok (zS w.heap.size 1 1) (w.alloc (.cells cs e)):=by
 obtain ⟨i,e1,e2,e3,e4⟩:=info_parts hi;refine run_buildSlice w t e 1 _ cs i z hu e1 e2 (by rw [e3];omega) (by rw [e3];omega) ?_;have hf:=Great.fill_whole h0 [Value.agg cs] ((Array.range (1*size)).map (z.cells[· % z.cells.size]!)) (fun v hv=>by simp at hv;subst hv;exact hc) zaa;rw [e3];refine hf.trans ?_;simp [Value.cells]
theorem gX (hg:o.guard=none) (t e:TypeId) (x:Operand)
  (Gv:o.op = .buildSlice t 1 #[(0,x)]) (hu:Tryz.prog.underlying t=some (.slice e)) (hi:(Tryz.prog.info? e).map (fun i=>(i.zero,i.size,i.bytes))=some (some z,size,bytes)) (h0:0<size) (h1:size<=16777216) (hc:cs.size=size)
  (hx:a.eval x = .agg cs) (hK:K (a.put o.dst (zS w.heap.size 1 1)) (w.alloc (.cells cs e))) :
  if Region.wanted o (yielded ops a.tmps)=true then Oper.wp Tryz.prog o a w K Q else E:=by
 have hw:Region.wanted o (yielded ops a.tmps)=true:=by simp [Region.wanted,hg]
 rw [if_pos hw];have hr:=ut w hu hi h0 h1 hc;unfold Oper.wp execOp;simp only [Gv,Sem.run_bind];have e1:(#[((0:Nat),x)].map fun (i,x)=>(i,a.eval x))=#[(0,.agg cs)]:=by simp [hx]
 rw [e1,hr];exact hK
theorem ZX {S:World->Prop} {o:Nat} {t:TypeId} {d:TypeDesc} (hu:Tryz.prog.underlying t=some d) (hd:d.isRow=true) (hi:(Tryz.prog.info? t).map (·.size)=some n)
  (hw:Region.wanted op (yielded ops a.tmps)=true) (x:Operand) (ho:op.op = .load t x) (hx:a.eval x = .pointer (some ⟨k,o,none⟩)) (hS:∀ w,S w->∀ j,j<n->w.cell? ⟨k,o+j,none⟩=some (V j)) :
  YieldsIf Tryz.prog ops S op (.agg (zK n V)) a:=by
 have:=yieldsIf_load_mid (P:=Tryz.prog) (ops:=ops) (S:=S) hw t x ho k o hx (zK n V).toList _ (fun w h j v hv=>by
  have hj:j<n:=by
   by_cases hj:j<n
   ·exact hj
   ·rw [yB,yo zaj] at hv;cases hv
  rw [yB,Qn hj] at hv;rw [<- yj hv];exact hS w h j hj) hu hd (by rw [hi,Array.length_toList,ZT])
 rw [Array.toArray_toList] at this;exact this
theorem uu (x:Nat) (f:zF):zK 129 (laid (JZ (x,fun _=>0)) (fun i => .int .u8 (f i:Int)) 1 128)=xy (x,f):=by
 apply yM;intro i;by_cases hi:i<129
 ·rw [Qn hi,xy,Qn hi]
  unfold laid JZ;by_cases h0:i=0
  ·subst h0;simp
  ·rw [if_pos zo,if_neg h0]
 ·rw [yo zaj,yo (by rw [xy,ZT];omega)]
theorem nT {o:Nat} {wv:Value} {D:Dk} (h:xE w p bb wv D) (ha:at'<D.n) (hb:zB w k o 128 f) (hc:128<=cap) (hN:D.waits.length<=900000) :
  zC 146 #[zP p,.int .i64 (at':Int),.slice (some ⟨k,o,none⟩) 128 cap] w fun e w'=>e = .returned (.int .i64 0)/\∃ LS,xE w' p bb LS { D with waits:=D.waits++[(at',f)] } /\ (∀ g,LS.ownBlock=some g->wv.ownBlock=some g∨w.heap.size<=g)/\(∀ L,p∈L->(∀ g,wv.ownBlock=some g->g∈L)->zv L w w'):=by
 have ht:=h.top;obtain ⟨c0,c1,c2,c3⟩:=pW ht;have:¬ (at':Int)<0:=zo
 have:(at':Int)<(D.n:Int):=zo;have cm:=ms h;have cp:=dF h;have HB:=zh hb;have H:=zh h;have HN:=zh hN;clear h ht hb hN;go_enter Tryz.func146,Tryz.ntmps146;go_wp2_with fail;refine zm cm ?_;go_wp2_with fail;refine zm cp ?_;clear cm cp;go_upto_region 10 with (refine qZ rfl 229 (.tmp 9) (.tmp 38) rfl _ (Tryz.zeroCells229.setIfInBounds 0 (.int .i64 (at':Int))) _ 129 rfl rfl rfl zab (by rw [fP,xy,ZT]) (by rw [JH,xy,ZT]) (by rw [JH];exact XJ _) ?_)
 rw [JH];have hx:=xo w (.cells (xy (at',fun _=>0)) 229);have B5:=(zv.refl [] w).alloc (.cells (xy (at',fun _=>0)) 229);generalize w.alloc (.cells (xy (at',fun _=>0)) 229)=W at *;have Ce:=zh B5;have HX:=zh hx;clear B5 hx;go_upto_region 11 with (refine YV rfl (.tmp 40) (.tmp 41) 81 81 rfl 5 Tryz.underlying81 zab w.heap.size 1 128 128 (some ⟨k,o,none⟩) 128 cap rfl rfl 129 (JZ (at',fun _=>0)) 229 HX 128 zaf (fun i => .int .u8 (f i:Int)) (fun _=>⟨k,o,rfl,fun j hj=>((HB.chg Ce) j hj).1⟩) (fun j _=>rfl) zo ?_;intro w1 HF1 BZ;have BZ:=zh BZ)
 have Nc:=HF1.o;rw [uu] at Nc;have BW:zv [] w w1:=Ce.tn BZ (xd _);have PA:=zh (H.chg BW);have:=zh Nc;have Cj:=zh BW;have MZ:Hd (∀ j,j<129->w1.cell? ⟨w.heap.size,j,none⟩=some (JZ (at',f) j)):=zh fun j hj=>(zM Nc j).trans (Qn hj);have Nz:=zh H.lt.1;have LV:=zh (zz Nc);have HT:=zh (PA.top);clear HF1 HX Nc BW c0 c1 c2 c3;have Id:Hd (zv [] w1 w1.drew):=zh (zv.refl [] w1).drew;refine wp_region_held_drew (S:=fun W'=>∀ j,j<129->W'.cell? ⟨w.heap.size,j,none⟩=some (JZ (at',f) j)) zab (by exact MZ) fun BS=>?_;refine Xy 0 ?_;refine Xy 1 ?_;refine Xy 2 ?_;refine Xy 3 ?_;refine Xy 4 ?_;refine zu ?_
 refine wpAnyH_take (i:=6) (oi:=?_) (v := .agg (xy (at',f))) ?_ zab zab zab ?_ (ZX (k:=w.heap.size) (o:=0) (n:=129) (V:=JZ (at',f)) Tryz.underlying229 rfl (by rw [show (Tryz.prog.info? 229).map (·.size)=some 129 from by kernel_rfl]) ?_ (.tmp 9) ?_ ?_ (fun w' hw=>by intro j hj;rw [yn];exact hw j hj)) BS ?_
 rotate_left 1
 ·(simp only [tA1,tA2,tA3];rfl)
 ·exact fun _ _ _ h=>h
 ·rfl
 ·rfl
 ·simp [Act.eval,Act.put]
 refine zu ?_;refine wR [5,7] ?_;refine wC (fun K hK=>?_) ?_
 ·(have M5:=zM HT 1;simp only [tA1,tA3,tA2] at M5;have Sc:w1.drew.cell? ⟨p,1,none⟩=some wv:=M5;go_simp;clear M5 Sc)
  refine hK.out _ _ (MZ) fun BS=>?_;clear hK K;refine zu ?_;refine wE 7 (fun K hK=>?_)
  ·(refine gX rfl 167 229 (.tmp 49) rfl (size:=129) Tryz.underlying167 fO zo zo (cs:=xy (at',f)) (by rw [xy,ZT]) zag ?_;have Cr:=xo w1.drew (.cells (xy (at',f)) 229);have Cd:=(zv.refl [] w1.drew).alloc (.cells (xy (at',f)) 229);have IN:=zh Cr;have C6:=zh (Id.trans Cd);have HZ:=zh (Id.size);clear Cr Cd;generalize w1.drew.alloc (.cells (xy (at',f)) 229)=W2 at *)
   refine hK.out _ _ (fun j hj=>(C6.cell (p:=⟨w.heap.size,j,none⟩) LV zaa).trans (MZ j hj)) fun BS=>?_;clear hK K;refine zu ?_;refine wE 8 (fun K hK=>?_)
   ·(refine YD (base:=0) (m:=1) (xv := zS w1.heap.size 1 1) (xs:=qa D.waits) (news:=(xy (at',f)).toList) rfl (.tmp 48) (.tmp 50) 167 rfl rfl Tryz.underlying167 fO (by rfl) zo zo zag zag (Xg PA.wts C6 zaa) (xQ.blk IN (by rw [xy,ZT]) (fun u hu=>Array.all_eq_true_iff_forall_mem.1 (XJ _) u (by simpa using hu))) (zq HN.o) (yg _) ?_;intro v5 W5 Cf Dd Kj;have RN:=zh Kj;clear Kj;obtain ⟨a5,c5,LK,_,_⟩:=XI Cf;subst LK;have HO5:=zh Cf;have Ur:=zh Dd;have KM:=zh ((Dd.block p (qe Nz (qh Cj.size C6.size)) (fun e=>H.wne.1 e.symm)).trans ((C6.block p (qe Nz Cj.size) zaa).trans HT));have Nx:=zh (show ∀ j,j<129->W5.cell? ⟨w.heap.size,j,none⟩=some (JZ (at',f) j) from fun j hj=>(yW (Dd.block w.heap.size (qe LV C6.size) (fun e=>Nat.lt_irrefl _ (H.wlt w.heap.size e.symm)))).trans ((C6.cell (p:=⟨w.heap.size,j,none⟩) LV zaa).trans (MZ j hj)));clear Cf Dd)
    refine hK.out _ _ (Nx) fun BS=>?_;clear hK K;refine zu ?_;refine Xy 9 ?_;refine Xy 10 ?_;refine Xy 11 ?_;refine zu ?_;refine wE 12 (fun K hK=>?_)
    ·(have DG:=zM KM 1;have TX:=xB KM 1;simp only [tA1,tA3,tA2] at DG;have F0:=zz KM.o;go_simp;clear DG TX F0)
     refine hK.out _ _ (fun j hj=>(yW (ZS 1 _ (by show w.heap.size≠p;have:=Nz.o;omega))).trans (Nx j hj)) fun BS=>?_;clear hK K;refine zu ?_;refine wpAnyH_done zab ?_ _;go_wp2_with fail;go_ret;refine ⟨rfl,_,{ n1:=H.n1,n2:=H.n2,le:=H.le,top:=Yh KM 1 _,blk:=?_,wts:=?_,wle:=?_,wl:=by have:=HN.o;simp only [ym,yZ];omega },?_,?_⟩
     ·refine (ZS 1 _ (fun e=>H.ne e.symm)).trans ((Ur.block bb (qe H.lt.2 (qh Cj.size C6.size)) (fun e=>H.wne.2 e.symm)).trans ((C6.block bb (qe H.lt.2 Cj.size) zaa).trans PA.blk))
     ·have ho:=HO5.o
      rw [show qa D.waits++(xy (at',f)).toList=qa (D.waits++[(at',f)]) by rw [Oy];simp [qa]] at ho;have Pd:=Yu (w':=W5.setCell ⟨p,1,none⟩ (.slice a5 (D.waits.length+1) c5)) ho (fun g hg=>ZS 1 _ (fun e=>by subst e;exact fK ho KM zaf hg));rw [ym,yZ];exact Pd
     ·intro y hy
      rw [yx,zms] at hy;rcases hy with hy | hy
      ·exact H.wle y hy
      ·subst hy;exact ⟨ha,fun i hi=>((HB i hi)).2⟩
     ·intro g hg
      rcases RN.o with hq | hq
      ·exact .inl (by rw [<- hq];exact hg)
      ·refine .inr ?_
       rw [hq] at hg;injection hg with hg;rw [<- hg];exact qh Cj.size C6.size
     ·intro L hL hw
      refine zv.setCell ?_ (.inl hL) _;exact (((Cj.trans C6).mo).grown Ur (fun g hg => .inl (hw g hg)))
 refine wD (fun K hK=>?_)
 ·(refine gX rfl 167 229 (.tmp 49) rfl (size:=129) Tryz.underlying167 fO zo zo (cs:=xy (at',f)) (by rw [xy,ZT]) zag ?_;have Cr:=xo w1.drew (.cells (xy (at',f)) 229);have Cd:=(zv.refl [] w1.drew).alloc (.cells (xy (at',f)) 229);have IN:=zh Cr;have C6:=zh (Id.trans Cd);have HZ:=zh (Id.size);clear Cr Cd;generalize w1.drew.alloc (.cells (xy (at',f)) 229)=W2 at *)
  refine hK.out _ _ (fun j hj=>(C6.cell (p:=⟨w.heap.size,j,none⟩) LV zaa).trans (MZ j hj)) fun BS=>?_;clear hK K;refine zu ?_;refine wE 5 (fun K hK=>?_)
  ·(have M5:=zM ((C6.block p (qe Nz Cj.size) zaa).trans HT) 1;simp only [tA1,tA3,tA2] at M5;go_simp;clear M5)
   refine hK.out _ _ (fun j hj=>(C6.cell (p:=⟨w.heap.size,j,none⟩) LV zaa).trans (MZ j hj)) fun BS=>?_;clear hK K;refine zu ?_;refine wE 8 (fun K hK=>?_)
   ·(refine YD (base:=0) (m:=1) (xv := zS w1.heap.size 1 1) (xs:=qa D.waits) (news:=(xy (at',f)).toList) rfl (.tmp 48) (.tmp 50) 167 rfl rfl Tryz.underlying167 fO (by rfl) zo zo zag zag (Xg PA.wts C6 zaa) (xQ.blk IN (by rw [xy,ZT]) (fun u hu=>Array.all_eq_true_iff_forall_mem.1 (XJ _) u (by simpa using hu))) (zq HN.o) (yg _) ?_;intro v5 W5 Cf Dd Kj;have RN:=zh Kj;clear Kj;obtain ⟨a5,c5,LK,_,_⟩:=XI Cf;subst LK;have HO5:=zh Cf;have Ur:=zh Dd;have KM:=zh ((Dd.block p (qe Nz (qh Cj.size C6.size)) (fun e=>H.wne.1 e.symm)).trans ((C6.block p (qe Nz Cj.size) zaa).trans HT));have Nx:=zh (show ∀ j,j<129->W5.cell? ⟨w.heap.size,j,none⟩=some (JZ (at',f) j) from fun j hj=>(yW (Dd.block w.heap.size (qe LV C6.size) (fun e=>Nat.lt_irrefl _ (H.wlt w.heap.size e.symm)))).trans ((C6.cell (p:=⟨w.heap.size,j,none⟩) LV zaa).trans (MZ j hj)));clear Cf Dd)
    refine hK.out _ _ (Nx) fun BS=>?_;clear hK K;refine zu ?_;refine Xy 9 ?_;refine Xy 10 ?_;refine Xy 11 ?_;refine zu ?_;refine wE 12 (fun K hK=>?_)
    ·(have DG:=zM KM 1;have TX:=xB KM 1;simp only [tA1,tA3,tA2] at DG;have F0:=zz KM.o;go_simp;clear DG TX F0)
     refine hK.out _ _ (fun j hj=>(yW (ZS 1 _ (by show w.heap.size≠p;have:=Nz.o;omega))).trans (Nx j hj)) fun BS=>?_;clear hK K;refine zu ?_;refine wpAnyH_done zab ?_ _;go_wp2_with fail;go_ret;refine ⟨rfl,_,{ n1:=H.n1,n2:=H.n2,le:=H.le,top:=Yh KM 1 _,blk:=?_,wts:=?_,wle:=?_,wl:=by have:=HN.o;simp only [ym,yZ];omega },?_,?_⟩
     ·refine (ZS 1 _ (fun e=>H.ne e.symm)).trans ((Ur.block bb (qe H.lt.2 (qh Cj.size C6.size)) (fun e=>H.wne.2 e.symm)).trans ((C6.block bb (qe H.lt.2 Cj.size) zaa).trans PA.blk))
     ·have ho:=HO5.o
      rw [show qa D.waits++(xy (at',f)).toList=qa (D.waits++[(at',f)]) by rw [Oy];simp [qa]] at ho;have Pd:=Yu (w':=W5.setCell ⟨p,1,none⟩ (.slice a5 (D.waits.length+1) c5)) ho (fun g hg=>ZS 1 _ (fun e=>by subst e;exact fK ho KM zaf hg));rw [ym,yZ];exact Pd
     ·intro y hy
      rw [yx,zms] at hy;rcases hy with hy | hy
      ·exact H.wle y hy
      ·subst hy;exact ⟨ha,fun i hi=>((HB i hi)).2⟩
     ·intro g hg
      rcases RN.o with hq | hq
      ·exact .inl (by rw [<- hq];exact hg)
      ·refine .inr ?_
       rw [hq] at hg;injection hg with hg;rw [<- hg];exact qh Cj.size C6.size
     ·intro L hL hw
      refine zv.setCell ?_ (.inl hL) _;exact (((Cj.trans C6).mo).grown Ur (fun g hg => .inl (hw g hg)))
end Go.Proofs.YtegpiomkmfhadaaGreat
