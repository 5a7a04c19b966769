/- A map from small numbers to values of a -/
import Derived.Test.YtegpiomkmfhadaaGreatZo11
set_option linter.all false
set_option maxRecDepth 100000
set_option maxHeartbeats 20000000
namespace Go.Proofs.YtegpiomkmfhadaaGreat
open Go.RowKit Go.Maps
variable {good:Value->Bool} {v z:Value} {w':World} {k:Nat}
def RG (good:Value->Bool) (v:Value):Option (DataW Value × List MemPlace):=if good v then some (.held v,[]) else none
theorem QJ (h:good v=true):RG good v=some (.held v,[]):=by unfold RG;rw [if_pos h]
theorem XC {d:DataW Value} {ps:List MemPlace} (h:RG good v=some (d,ps)):d = .held v/\ps=[]/\good v=true:=by
 unfold RG at h;by_cases g:good v=true
 ·rw [if_pos g] at h
  injection h with h;injection h with h1 h2;exact ⟨h1.symm,h2.symm,g⟩
 ·rw [if_neg g] at h;cases h
def xJ (P:Program) (kt:TypeId) (good:Value->Bool) (w:World) (b n:Nat) (f:Nat->Option Value):Prop :=
 ∃ D:DataW Value,w.ownsMap P kt (RG good) b (Maps.size D) D/\Maps.size D=cnt n (fun k=>(f k).isSome) /\
  (∀ l,Maps.has D l=true->∃ k,k<n/\l = .int .i64 (k:Int)/\(f k).isSome=true) /\
  (∀ k v,k<n->f k=some v->Maps.has D (.int .i64 (k:Int))=true/\∀ z,D.atKey (.int .i64 (k:Int)) z = .held v)
section
variable {P:Program} {kt et t:TypeId} {w:World} {b n:Nat} {f:Nat->Option Value} {good:Value->Bool}
theorem Y1 {R:Value->Option (DataW Value × List MemPlace)} {m:Nat} {D:DataW Value} (h:w.ownsMap P kt R b m D):w.ownsMap P kt R b (Maps.size D) D:=by
 obtain ⟨es,Dn,hb,F,hs,rfl⟩:=h;exact ⟨es,Dn,hb,F,by simp [Maps.size,length_sorted],rfl⟩
theorem xJ.lt (h:xJ P kt good w b n f):b<w.heap.size:=by
 obtain ⟨D,h1,_⟩:=h;exact h1.lt
theorem xJ.obj (h:xJ P kt good w b n f):∃ es c,w.heap[b]?=some (.map es c):=by
 obtain ⟨D,⟨es,c,hb,_⟩,_⟩:=h;exact ⟨es,c,hb⟩
theorem xJ.same (h:xJ P kt good w b n f) (e:w'.heap[b]?=w.heap[b]?):xJ P kt good w' b n f:=by
 obtain ⟨D,⟨es,c,hb,hr⟩,hh⟩:=h;exact ⟨D,⟨es,c,e.trans hb,hr⟩,hh⟩
theorem xJ.chg {L:List Nat} (h:xJ P kt good w b n f) (c:zv L w w') (hb:b∉L:=by simp):xJ P kt good w' b n f:=h.same (c.block b h.lt hb)
theorem xJ.congr {g:Nat->Option Value} (h:xJ P kt good w b n f) (e:∀ i,i<n->f i=g i):xJ P kt good w b n g:=by
 obtain ⟨D,h1,h2,h3,h4⟩:=h;refine ⟨D,h1,h2.trans (zZ fun i hi=>by rw [e i hi]),fun l hl=>?_,fun k v hk hv=>h4 k v hk (by rw [e k hk];exact hv)⟩;obtain ⟨k,hk,hl',hs⟩:=h3 l hl;exact ⟨k,hk,hl',by rw [<- e k hk];exact hs⟩
theorem xJ.has (_h:xJ P kt good w b n f) {D:DataW Value} (h3:∀ l,Maps.has D l=true->∃ k,k<n/\l = .int .i64 (k:Int)/\(f k).isSome=true)
  (h4:∀ k v,k<n->f k=some v->Maps.has D (.int .i64 (k:Int))=true/\∀ z,D.atKey (.int .i64 (k:Int)) z = .held v) {k:Nat} (hk:k<n) :
  Maps.has D (.int .i64 (k:Int))=(f k).isSome:=by
 cases hf:f k with
 | some v=>exact (h4 k v hk hf).1
 | none =>
  cases hh:Maps.has D (.int .i64 (k:Int)) with
  | false=>rfl
  | true =>
   obtain ⟨k',De,e,hs⟩:=h3 _ hh;injection e with _ e;have:k=k':=zo
   subst this;rw [hf] at hs;cases hs
theorem xJ.look (h:xJ P kt good w b n f) (Dr:P.underlying kt=some (.int .i64)) (ht:P.underlying t=some (.map kt et))
  (hz:(zeroValue et).run P w = .ok z w) (hg:good z=true) (hk:k<n) (hn:n<=4096) :
  (Instr.lookup t (.map (some b)) (.int .i64 (k:Int)) true).run P w = .ok (.tuple #[(f k).getD z,.bool (f k).isSome]) w /\
  (Instr.lookup t (.map (some b)) (.int .i64 (k:Int)) false).run P w = .ok ((f k).getD z) w:=by
 have hh:=h;obtain ⟨D,h1,h2,h3,h4⟩:=h;have Ch:keyOf P kt (.int .i64 (k:Int))=some (.int .i64 (k:Int)):=Maps.keyOf_int_mk Dr (WalkArith.wf_i64 zo);have K:=Maps.int_keyed Dr;obtain ⟨v,ps,B8,hv⟩:=h1.look_ok K ht hz (zd := .held z) (zp:=[]) (QJ hg) Ch;obtain ⟨v',ps',Es,EH⟩:=h1.lookup K ht (z:=z) hz (zd := .held z) (zp:=[]) (QJ hg) Ch;rw [hh.has h3 h4 hk] at B8;obtain ⟨e1,-,-⟩:=XC hv;obtain ⟨e2,-,-⟩:=XC EH
 have e:v=(f k).getD z/\v'=(f k).getD z:=by
  cases hf:f k with
  | some u =>
   have hu:=(h4 k u hk hf).2 (.held z);rw [hu] at e1 e2;injection e1 with e1;injection e2 with e2;exact ⟨e1.symm,e2.symm⟩
  | none =>
   have hn:Maps.has D (.int .i64 (k:Int))=false:=by rw [hh.has h3 h4 hk,hf];rfl
   rw [Maps.atKey_of_not_has hn] at e1 e2;injection e1 with e1;injection e2 with e2;exact ⟨e1.symm,e2.symm⟩
 rw [B8,Es,e.1,e.2];exact ⟨rfl,rfl⟩
theorem xJ.look_out (h:xJ P kt good w b n f) (Dr:P.underlying kt=some (.int .i64)) (ht:P.underlying t=some (.map kt et))
  (hz:(zeroValue et).run P w = .ok z w) (hg:good z=true) {k:Int} (hw:(Lit.int .i64 k).wf=true) (hk:k<0∨(n:Int)<=k) :
  (Instr.lookup t (.map (some b)) (.int .i64 k) true).run P w = .ok (.tuple #[z,.bool false]) w /\
  (Instr.lookup t (.map (some b)) (.int .i64 k) false).run P w = .ok z w:=by
 obtain ⟨D,h1,h2,h3,h4⟩:=h;have Ch:keyOf P kt (.int .i64 k)=some (.int .i64 k):=Maps.keyOf_int_mk Dr hw;have K:=Maps.int_keyed Dr;obtain ⟨v,ps,B8,hv⟩:=h1.look_ok K ht hz (zd := .held z) (zp:=[]) (QJ hg) Ch;obtain ⟨v',ps',Es,EH⟩:=h1.lookup K ht (z:=z) hz (zd := .held z) (zp:=[]) (QJ hg) Ch
 have hn:Maps.has D (.int .i64 k)=false:=by
  cases hh:Maps.has D (.int .i64 k) with
  | false=>rfl
  | true =>
   obtain ⟨k',De,e,hs⟩:=h3 _ hh;injection e with _ e;omega
 obtain ⟨e1,-,-⟩:=XC hv;obtain ⟨e2,-,-⟩:=XC EH;rw [Maps.atKey_of_not_has hn] at e1 e2;injection e1 with e1;injection e2 with e2;rw [B8,Es,hn,<- e1,<- e2];exact ⟨rfl,rfl⟩
theorem xJ.del (h:xJ P kt good w b n f) (Dr:P.underlying kt=some (.int .i64)) (ht:P.underlying t=some (.map kt et)) {k:Nat} (hk:k<n) (hn:n<=4096) (ty:TypeId) :
  ∃ w',(Builtin.delete_ #[t,kt] ty #[.map (some b),.int .i64 (k:Int)]).run P w = .ok (.tuple #[]) w'/\xJ P kt good w' b n (fun i=>if i=k then none else f i)/\w.mapTurned w' b:=by
 have hh:=h;obtain ⟨D,h1,h2,h3,h4⟩:=h;have Ch:keyOf P kt (.int .i64 (k:Int))=some (.int .i64 (k:Int)):=Maps.keyOf_int_mk Dr (WalkArith.wf_i64 zo);have K:=Maps.int_keyed Dr;obtain ⟨w',B8,BT,CQ⟩:=h1.drop K ht Ch ty;refine ⟨w',B8,⟨D.del (.int .i64 (k:Int)),Y1 BT,?_,?_,?_⟩,CQ⟩
 ·have e1:=Maps.size_del (k := .int .i64 (k:Int)) (h1.tidy K)
  have e2:=xN (p:=fun i=>(f i).isSome) (q:=fun i=>(if i=k then none else f i).isSome) hk (fun i _ BU=>by simp [BU]);simp only [if_true,Option.isSome_none,Bool.false_eq_true,if_false,hh.has h3 h4 hk] at e1 e2
  show _=cnt n (fun i=>(if i=k then none else f i).isSome)
  omega
 ·intro l hl
  by_cases e:l = .int .i64 (k:Int)
  ·subst e;rw [Maps.has_del_same] at hl;cases hl
  ·rw [Maps.has_del_other e] at hl
   obtain ⟨k',De,rfl,hs⟩:=h3 l hl;have BU:k'≠k:=fun q=>e (by rw [q]);exact ⟨k',De,rfl,zay⟩
 ·intro i v hi hv
  by_cases e:i=k
  ·simp [e] at hv
  ·simp only [e,if_false] at hv
   have BU:Lit.int .i64 (i:Int) ≠ .int .i64 (k:Int):=fun q=>by injection q with _ q;omega
   obtain ⟨g1,g2⟩:=h4 i v hi hv;exact ⟨by rw [Maps.has_del_other BU];exact g1,fun z=>by rw [Maps.atKey_del_other BU];exact g2 z⟩
theorem xJ.put (h:xJ P kt good w b n f) (Dr:P.underlying kt=some (.int .i64)) (ht:P.underlying t=some (.map kt et)) (hk:k<n) (hn:n<=4096) (hv:good v=true) :
  ∃ w',(Instr.mapUpdate t (.map (some b)) (.int .i64 (k:Int)) v).run P w = .ok () w'/\xJ P kt good w' b n (fun i=>if i=k then some v else f i)/\w.mapTurned w' b:=by
 have hh:=h;obtain ⟨D,h1,h2,h3,h4⟩:=h;have Ch:keyOf P kt (.int .i64 (k:Int))=some (.int .i64 (k:Int)):=Maps.keyOf_int_mk Dr (WalkArith.wf_i64 zo);have K:=Maps.int_keyed Dr;have Dl:=Yj (fun k=>(f k).isSome) n;have FV:WideAt.IsKeyLit (.int .i64 (k:Int)):=K.key Ch;obtain ⟨w',B8,BT,CQ⟩:=h1.store K ht zam Ch (QJ hv);refine ⟨w',B8,⟨_,Y1 BT,?_,?_,?_⟩,CQ⟩
 ·have e1:=Maps.size_put (k := .int .i64 (k:Int)) (h1.tidy K) (.held v)
  have e2:=xN (p:=fun i=>(f i).isSome) (q:=fun i=>(if i=k then some v else f i).isSome) hk (fun i _ BU=>by simp [BU]);rw [hh.has h3 h4 hk] at e1;simp only [if_true,Option.isSome_some] at e2;rw [e1]
  split at e2 <;> split <;> simp_all <;> omega
 ·intro l hl
  by_cases e:l = .int .i64 (k:Int)
  ·exact ⟨k,hk,e,zaa⟩
  ·rw [Maps.has_put_other e] at hl
   obtain ⟨k',De,rfl,hs⟩:=h3 l hl;have BU:k'≠k:=fun q=>e (by rw [q]);exact ⟨k',De,rfl,zay⟩
 ·intro i v' hi EH
  by_cases e:i=k
  ·subst e
   simp only [if_true,Option.some.injEq] at EH;subst EH;exact ⟨Maps.has_put_same h1.isMap FV _,fun z=>Maps.atKey_put_same h1.isMap FV _ z⟩
  ·simp only [e,if_false] at EH
   have BU:Lit.int .i64 (i:Int) ≠ .int .i64 (k:Int):=fun q=>by injection q with _ q;omega
   obtain ⟨g1,g2⟩:=h4 i v' hi EH;exact ⟨by rw [Maps.has_put_other BU];exact g1,fun z=>by rw [Maps.atKey_put_other BU];exact g2 z⟩
theorem xJ.ofEmpty (h:w.ownsMap P kt (RG good) b 0 (.map []:DataW Value)) (n:Nat):xJ P kt good w b n (fun _=>none):=by
 refine ⟨.map [],h,(qM fun _ _=>rfl).symm,?_,?_⟩
 ·intro l hl;cases hl
 ·intro k v _ hv;cases hv
theorem xJ.made (w:World) (n:Nat):xJ P kt good (w.alloc (.map #[] 0)) w.heap.size n (fun _=>none) :=
 xJ.ofEmpty (World.ownsMap_made _ _ _ _) n
theorem xD (h:w.mapTurned w' b):zv [b] w w' :=
 (zv.refl [b] w).grown h.grown (fun k e => .inl (by injection e with e;subst e;simp))
end
end Go.Proofs.YtegpiomkmfhadaaGreat
namespace Go.Proofs.YtegpiomkmfhadaaGreat
open Go.RowKit
variable {zs:List Int} {k n cap base o c g:Nat} {w:World} {a:Option Addr} {l f:zF} {x:Int}
def iQ (zs:List Int) (k i:Nat):Nat:=if i<k then (zs.getD i 0).toNat else 0
def OF (zs:List Int) (n k:Nat):zW:=⟨n,iQ zs k,iQ zs k⟩
def BL (zs:List Int) (n:Nat):zW:=OF zs n n
theorem r9 (zs:List Int) (n:Nat):OF zs n 0=zW.new n:=by
 unfold OF zW.new;have:iQ zs 0=fun _=>0:=by funext i;simp [iQ]
 rw [this]
theorem QK {v:Nat} (h:zs.getD k 0=(v:Int)):iQ zs (k+1)=fun i=>if i=k then v else iQ zs k i:=by
 funext i
 unfold iQ;by_cases e:i=k
 ·subst e;rw [if_pos zo,if_pos rfl,h];simp
 ·rw [if_neg e]
  by_cases e2:i<k
  ·rw [if_pos zo,if_pos e2]
  ·rw [if_neg zo,if_neg e2]
theorem Al (zs:List Int) (k:Nat):iQ zs k k=0:=by simp [iQ]
theorem iR {v:Nat} (hk:k<n) (h:zs.getD k 0=(v:Int)):(OF zs n (k+1)).frees+(if v=0 then 0 else 1)=(OF zs n k).frees:=by
 have e:=xN (n:=n) (k:=k) (p:=(OF zs n k).free) (q:=(OF zs n (k+1)).free) hk (fun i _ BU=>by
  simp only [zW.free,OF,QK h];rw [if_neg BU])
 have e1:(OF zs n k).free k=true:=by simp [zW.free,OF,Al]
 have e2:(OF zs n (k+1)).free k=(v==0):=by simp [zW.free,OF,QK h]
 rw [e1,e2] at e
 show cnt n (OF zs n (k+1)).free+_=cnt n (OF zs n k).free
 by_cases hv:v=0
 ·simp [hv] at e ⊢;omega
 ·simp [hv] at e ⊢;omega
theorem a8 (zs:List Int) (n k:Nat):(OF zs n k).waits=0:=qM fun i _=>by
 simp only [zW.waitB,OF];by_cases q1:iQ zs k i=0 <;> simp [q1]
section
variable {w:World} {t bc bk n k v:Nat} {zs:List Int} (h:zJ w t bc bk (OF zs n k)) (hk:k<n) (hv:zs.getD k 0=(v:Int)) (hb:v<=65535)
include h hk hv hb
omit hk in
theorem mM (w':World) (hc:w'.heap[bc]?=some (.cells (Jh n (iQ zs (k+1))) 98 (0,0)))
  (ht:w'.heap[t]?=some (.cells #[zS bc n n,.map (some bk),.int .i64 ((OF zs n (k+1)).frees:Int),.int .i64 0] 217 (0,0))) (hm:w'.heap[bk]?=w.heap[bk]?):zJ w' t bc bk (OF zs n (k+1)):=by
 have Dl:∀ i,i<n->iQ zs (k+1) i<=65535:=fun i hi=>by
  rw [QK hv]
  show (if i=k then v else iQ zs k i)<=65535
  split
  ·exact hb
  ·exact h.now i hi
 refine ⟨h.n1,h.n2,Dl,Dl,?_,hc,?_,h.ne⟩
 ·rw [a8];exact ht
 ·exact (h.map.congr fun i _=>by simp [zW.keptAt,OF]).same hm
theorem sd (h0:v=0):zJ (w.setCell ⟨bc,k,none⟩ (.int .u16 0)) t bc bk (OF zs n (k+1)):=by
 have e:=iR hk hv;rw [if_pos h0,Nat.add_zero] at e;refine mM h hv hb _ ?_ ?_ (ZS _ _ h.ne2.symm)
 ·rw [Yh h.cs]
  have:=aM (f:=iQ zs k) (v:=0) hk;rw [QK hv,h0];exact congrArg (fun x=>some (Obj.cells x 98 (0,0))) this
 ·rw [ZS _ _ h.ne,e]
  have:=h.top;rw [a8] at this;exact this
theorem se (h0:v≠0):zJ ((w.setCell ⟨bc,k,none⟩ (.int .u16 (v:Int))).setCell ⟨t,2,none⟩ (.int .i64 (((OF zs n k).frees:Int) - 1))) t bc bk (OF zs n (k+1)):=by
 have e:=iR hk hv;rw [if_neg h0] at e;refine mM h hv hb _ ?_ ?_ ?_
 ·rw [ZS _ _ h.ne.symm,Yh h.cs]
  have:=aM (f:=iQ zs k) (v:=v) hk;rw [QK hv];exact congrArg (fun x=>some (Obj.cells x 98 (0,0))) this
 ·have ht:(w.setCell ⟨bc,k,none⟩ (.int .u16 (v:Int))).heap[t]?=_:=(ZS _ _ h.ne).trans h.top
  rw [Yh ht,a8];have e3:((OF zs n k).frees:Int) - 1=((OF zs n (k+1)).frees:Int):=zo;rw [e3];rfl
 ·rw [ZS _ _ h.ne1.symm,ZS _ _ h.ne2.symm]
end
theorem ve (hz:∀ i,i<n->zs.getD i 0=(l i:Int)) (hr:ii w a n l) (hcap:n<=cap) (hm:cap<=maxLen) (h1:1<=n) (h2:n<=4096) :
  zC 98 #[.slice a n cap] w fun e w'=>∃ t bc bk,e = .returned (.tuple #[zP t,.int .i64 0])/\zJ w' t bc bk (BL zs n)/\zv [] w w'/\w.heap.size<=t/\w.heap.size<=bc/\w.heap.size<=bk:=by
 unfold maxLen at hm;have HZ:=zh hz;have HR:=zh hr;clear hr hz;go_enter Tryz.func98,Tryz.ntmps98;go_wp2_with fail;refine (mC n _ h1 h2).mono ?_;rintro e w1 ⟨t,bc,bk,rfl,hT,Cz,l1,l2,l3⟩;have:w.heap.size<=t/\w.heap.size<=bc/\w.heap.size<=bk:=⟨l1,l2,l3⟩;have Ce:=zh Cz;clear Cz;rw [<- r9 zs] at hT;go_wp2_with fail
 go_loopw [19] (fun s wr=>∃ k:Nat,k<=n/\s = zI k/\zJ wr t bc bk (OF zs n k)/\zv [] w wr) (fun s _=>n - (intOf s).toNat)
 case atStart=>exact ⟨0,yg _,rfl,hT,Ce⟩
 case round =>
  obtain ⟨k,hk,rfl,Ma,GC⟩:=hrel;by_cases Co:k<n
  ·obtain ⟨b,off,rfl,FE,DG⟩:=HR.2 zo
   have hc:=DG k Co;have BW:=GC.ce hc FE;have II:=HR.1 k Co;have hv:=HZ k Co;obtain ⟨v,hvd⟩:=zE (l k);rw [<- hvd] at BW II hv;have hvb:v<=65535:=zo
   have c0:=Ma.c0;have c2:=Ma.c2;have fz:=Ma.fz 2;have ne:=Ma.ne;have:=Ma.ne.symm;have:=Ma.cfz k;have cc:=Ma.cc (i:=k) Co;have:=Ma.frees_le;have:(0:Int)<=(k:Int):=zo
   have:(k:Int)<(n:Int):=zo;have LU:=zh GC;have:=zh hT;have Hv:=zh hv;have HTk:=zh Ma;clear hT GC hv hc DG II hvd Ma;by_cases h0:v=0
   ·have E:=zh (sd HTk Co Hv hvb h0)
    subst h0;go_wp2_with fail
    go_roundw
    case rel=>exact ⟨k+1,zo,zac,E.o,zv.setCell LU (.inr (by show w.heap.size<=bc;omega)) _⟩
    case measure=>simp [intOf];omega
   ·have E:=zh (se HTk Co Hv hvb h0)
    have:(0:Int)<(v:Int):=zo;clear h0;go_wp2_with fail
    go_roundw
    case rel=>exact ⟨k+1,zo,zac,E.o,zv.setCell (zv.setCell LU (.inr (by show w.heap.size<=bc;omega)) _) (.inr (by show w.heap.size<=t;omega)) _⟩
    case measure=>simp [intOf];omega
  ·obtain rfl:k=n:=zo
   go_wp2_with fail
   go_ret2
   exact ⟨t,bc,bk,rfl,Ma,GC,l1,l2,l3⟩
theorem vf (hr:ii w a n l) (hcap:n<=cap) (hm:cap<=maxLen) (h1:1<=n) (h2:n<=4096) :
  zC 98 #[.slice a n cap] w fun e w'=>∃ t bc bk,e = .returned (.tuple #[zP t,.int .i64 0])/\zJ w' t bc bk ⟨n,l,l⟩/\zv [] w w'/\w.heap.size<=t/\w.heap.size<=bc/\w.heap.size<=bk:=by
 have hz:∀ i,i<n->((List.range n).map fun i=>(l i:Int)).getD i 0=(l i:Int):=fun i hi=>by simp [hi]
 refine (ve hz hr hcap hm h1 h2).mono ?_;rintro e w' ⟨t,bc,bk,rfl,hT,hC,q⟩;have he:∀ i,i<n->iQ ((List.range n).map fun i=>(l i:Int)) n i=l i:=fun i hi=>by unfold iQ;rw [if_pos hi,hz i hi];rfl
 exact ⟨t,bc,bk,rfl,hT.congr rfl (fun i hi=>(he i hi).symm) (fun i hi=>(he i hi).symm),hC,q⟩
structure Bm where
 b:Nat
 d:Nat
 bb:Nat
 p:Nat
 t:Nat
 bc:Nat
 bk:Nat
 mf:Nat
def Bm.L (M:Bm):List Nat:=[M.b,M.d,M.bb,M.p,M.t,M.bc,M.bk,M.mf]
structure Br where
 g:Nat->Nat
 c:Nat->Nat
 fg:Nat->Nat
 fc:Nat->Nat
def oC (R:Br) (B:Bs) (k:Nat):Option Value:=if (B.fr k).isSome then some (zS (R.fg k) 128 (R.fc k)) else none
def dW (v:Value):Bool:=match v with | .slice (some ⟨_,0,none⟩) 128 _=>true | .slice none 0 0=>true | _=>false
def Xr (M:Bm) (R:Br) (B:Bs) (i:Nat):Value :=
 if i=0 then zP M.d else if i=1 then zP M.t else if i=2 then zP M.p
 else if i=3 then zS (R.g 0) (qd B.T.n 0) (R.c 0) else if i=4 then zS (R.g 1) (qd B.T.n 1) (R.c 1) else if i=5 then .map (some M.mf)
 else if i<24 then B.S.cellV (i - 6) else if i<42 then B.Kp.cellV (i - 24) else if i=42 then .int .i64 ((B.Kp.gen % 2:Nat):Int) else .bool false
structure qQ (w:World) (M:Bm) (R:Br) (B:Bs):Prop where
 top:w.heap[M.b]?=some (.cells (zK 44 (Xr M R B)) 58 (0,0))
 pt:PT w M.p M.t M.bc M.bk B.K B.T
 sh:gQ w (zS (R.g 0) (qd B.T.n 0) (R.c 0)) (zS (R.g 1) (qd B.T.n 1) (R.c 1)) B.a (qd B.T.n) R.g R.c
 fm:xJ Tryz.prog 3 dW w M.mf B.T.n (oC R B)
 fd:∀ k f,k<B.T.n->B.fr k=some f->128<=R.fc k/\R.fc k<=maxLen/\zB w (R.fg k) 0 128 f/\∃ BV z,w.heap[R.fg k]?=some (.cells BV 5 z)
 ok:B.Ok
 ne:M.mf≠M.bk
 glt:∀ k,k<2->R.g k<w.heap.size
structure x6 (w:World) (M:Bm) (R:Br) (B:Bs):Prop where
 c:qQ w M R B
 d:xE w M.d M.bb (.slice none 0 0) ⟨B.T.n,B.D,[]⟩
def fX (M:Bm) (R:Br) (B:Bs) (x:Nat):Prop:=x∈M.L∨(∃ k,k<2/\x=R.g k)∨∃ k,k<B.T.n/\(B.fr k).isSome=true/\x=R.fg k
def zx (w:World) (M:Bm) (F:List Nat) (B:Bs):Prop:=∃ R,x6 w M R B/\∀ x,fX M R B x->x∉F
section
variable {w w':World} {M:Bm} {R:Br} {B:Bs} {L F:List Nat}
theorem qQ.chg (h:qQ w M R B) (c:zv L w w') (hL:∀ x,fX M R B x->x∉L:=by simp):qQ w' M R B:=by
 have m:∀ x,x∈M.L->x∉L:=fun x hx=>hL x (.inl hx);have g:∀ k,k<2->R.g k∉L:=fun k hk=>hL _ (.inr (.inl ⟨k,hk,rfl⟩));refine { h with top:=(c.block _ (zz h.top) (m _ zan)).trans h.top,pt:=h.pt.chg c (m _ zan) (m _ zan) (m _ zan) (m _ zan),sh:=h.sh.chg c (g 0 zo) (g 1 zo),fm:=h.fm.chg c (m _ zan),fd:=?_,glt:=fun k hk=>qe (h.glt k hk) c.size };intro k f hk hf;obtain ⟨h1,h2,h3,BV,z,h4⟩:=h.fd k f hk hf;have hn:R.fg k∉L:=hL _ (.inr (.inr ⟨k,hk,by rw [hf];rfl,rfl⟩));exact ⟨h1,h2,h3.chg c hn,BV,z,(c.block _ (zz h4) hn).trans h4⟩
theorem x6.chg (h:x6 w M R B) (c:zv L w w') (hL:∀ x,fX M R B x->x∉L:=by simp):x6 w' M R B :=
 ⟨h.c.chg c hL,h.d.chg c (hL _ (.inl zan)) (hL _ (.inl zan)) (fun k hk=>by cases hk)⟩
theorem x6.lt (h:x6 w M R B) {x:Nat} (hx:fX M R B x):x<w.heap.size:=by
 rcases hx with hx | ⟨k,hk,rfl⟩ | ⟨k,hk,hf,rfl⟩
 ·simp only [Bm.L,ya,yk,or_false] at hx
  rcases hx with rfl | rfl | rfl | rfl | rfl | rfl | rfl | rfl
  ·exact zz h.c.top
  ·exact h.d.lt.1
  ·exact h.d.lt.2
  ·exact zz h.c.pt.hp.top
  ·exact h.c.pt.ht.lt0
  ·exact h.c.pt.ht.lt1
  ·exact h.c.pt.ht.lt2
  ·exact h.c.fm.lt
 ·exact h.c.glt k hk
 ·cases hq:B.fr k with
  | none=>rw [hq] at hf;cases hf
  | some f =>
   obtain ⟨_,_,_,BV,z,h4⟩:=h.c.fd k f hk hq;exact zz h4
theorem zx.chg (h:zx w M F B) (c:zv L w w') (hL:∀ x,x∈L->x∈F:=by simp):zx w' M F B:=by
 obtain ⟨R,h1,h2⟩:=h;exact ⟨R,h1.chg c fun x hx hm=>h2 x hx (hL x hm),h2⟩
theorem zx.new (h:zx w M F B) {q:Nat} (hq:w.heap.size<=q):zx w M (q::F) B:=by
 obtain ⟨R,h1,h2⟩:=h;refine ⟨R,h1,fun x hx hm=>?_⟩;rcases ya.1 hm with rfl | hm
 ·have:=h1.lt hx;omega
 ·exact h2 x hx hm
theorem zx.sub (h:zx w M F B) {F':List Nat} (hs:∀ x,x∈F'->x∈F):zx w M F' B:=by
 obtain ⟨R,h1,h2⟩:=h;exact ⟨R,h1,fun x hx hm=>h2 x hx (hs x hm)⟩
theorem zx.notL (h:zx w M F B) {x:Nat} (hx:x∈F):x∉M.L:=by
 obtain ⟨R,h1,h2⟩:=h;exact fun hm=>h2 x (.inl hm) hx
theorem zx.ltL (h:zx w M F B) {x:Nat} (hx:x∈M.L):x<w.heap.size:=by
 obtain ⟨R,h1,h2⟩:=h;exact h1.lt (.inl hx)
theorem qQ.cell (h:qQ w M R B) {i:Nat} (hi:i<44):w.cell? ⟨M.b,i,none⟩=some (Xr M R B i):=Q3 h.top hi
theorem qQ.c0 (h:qQ w M R B):w.cell? ⟨M.b,0,none⟩=some (zP M.d):=h.cell zo
theorem qQ.c1 (h:qQ w M R B):w.cell? ⟨M.b,1,none⟩=some (zP M.t):=h.cell zo
theorem qQ.c2 (h:qQ w M R B):w.cell? ⟨M.b,2,none⟩=some (zP M.p):=h.cell zo
theorem qQ.c3 (h:qQ w M R B):w.cell? ⟨M.b,3,none⟩=some (zS (R.g 0) (qd B.T.n 0) (R.c 0)):=h.cell zo
theorem qQ.c4 (h:qQ w M R B):w.cell? ⟨M.b,4,none⟩=some (zS (R.g 1) (qd B.T.n 1) (R.c 1)):=h.cell zo
theorem qQ.c5 (h:qQ w M R B):w.cell? ⟨M.b,5,none⟩=some (.map (some M.mf)):=h.cell zo
theorem qQ.c43 (h:qQ w M R B):w.cell? ⟨M.b,43,none⟩=some (.bool false):=h.cell zo
end

def Bs.room (B:Bs):Int:=max (xO B.T 2 - (qu B.T.n:Int)) 0
def Bs.freshB (B:Bs) (a:Int):Bool:=decide (0<=a)&&decide (a<(B.T.n:Int))&&(B.fr a.toNat).isSome
theorem JO:dW (.slice none 0 0)=true:=rfl
theorem fY (w:World):(zeroValue 81).run Tryz.prog w = .ok (.slice none 0 0) w:=Tryz.zeroValue81 w
section
variable {w:World} {M:Bm} {R:Br} {B:Bs} (h:qQ w M R B)
include h
theorem Z6:zC 51 #[zP M.b] w fun e w'=>e = .returned (.bool false)/\w=w':=by
 have c1:=h.c1;clear h;go_enter Tryz.func51,Tryz.ntmps51;go_wp2_with fail;go_ret;exact ⟨rfl,rfl⟩
theorem ah:zC 56 #[zP M.b] w fun e w'=>e = .returned (.int .i64 0)/\w=w':=by
 have cn:=Z6 h;have:=h.c43;clear h;go_enter Tryz.func56,Tryz.ntmps56;go_wp2_with fail;refine zm (cn) ?_;go_wp2_with fail;go_ret;exact ⟨rfl,rfl⟩
theorem qH:zC 34 #[zP M.b] w fun e w'=>e = .returned (.int .i64 (B.T.n:Int))/\w=w':=by
 have cn:=Z6 h;have c1:=h.c1;have cb:=xI h.pt.ht;clear h;go_enter Tryz.func34,Tryz.ntmps34;go_wp2_with fail;refine zm (cn) ?_;go_wp2_with fail;refine zm (cb) ?_;go_wp2_with fail;go_ret;exact ⟨rfl,rfl⟩
theorem oE (a:Int):zC 33 #[zP M.b,.int .i64 a] w fun e w'=>e = .returned (.int .i64 (getV B.T a))/\w=w':=by
 have cn:=Z6 h;have c1:=h.c1;have cb:=QD h.pt.ht a;clear h;go_enter Tryz.func33,Tryz.ntmps33;go_wp2_with fail;refine zm (cn) ?_;go_wp2_with fail;refine zm (cb) ?_;go_wp2_with fail;go_ret;exact ⟨rfl,rfl⟩
theorem iS:zC 23 #[zP M.b] w fun e w'=>e = .returned (.int .i64 B.room)/\w=w':=by
 have cn:=Z6 h;have c2:=h.c2;have cb:=h.pt.room;rw [h.ok.first] at cb;have cl:=qH h;have cnd:=fU (n:=B.T.n) w (zq h.ok.n) h.ok.n.2;have:=rM (T:=B.T) (f:=2) (zq h.ok.n);have:qu B.T.n<=5000:=by unfold qu pg;have:=h.ok.n;omega
 have:=h.ok.n.2;have:wrap64 (xO B.T 2 - (qu B.T.n:Int))=xO B.T 2 - (qu B.T.n:Int):=by unfold wrap64;omega
 unfold Bs.room;clear h;generalize xO B.T 2=r at *;generalize qu B.T.n=n at *;go_enter Tryz.func23,Tryz.ntmps23;go_wp2_with fail;refine zm (cn) ?_;go_wp2_with fail;refine zm (cb) ?_;go_wp2_with fail;refine zm (cl) ?_;go_wp2_with fail;refine zm (cnd) ?_;go_wp2_with fail;go_ret;exact ⟨rfl,rfl⟩
theorem VY (a:Int) (ha:(Lit.int .i64 a).wf=true):zC 75 #[zP M.b,.int .i64 a] w fun e w'=>e = .returned (.bool (B.freshB a))/\w=w':=by
 have cn:=Z6 h;have c5:=h.c5
 have Co:∃ v,(Instr.lookup 51 (.map (some M.mf)) (.int .i64 a) true).run Tryz.prog w = .ok (.tuple #[v,.bool (B.freshB a)]) w:=by
  by_cases hi:0<=a/\a<(B.T.n:Int)
  ·obtain ⟨j,rfl⟩:=Int.eq_ofNat_of_zero_le hi.1
   have l:=(h.fm.look (t:=51) Tryz.underlying3 Tryz.underlying51 (fY w) JO (k:=j) zo h.ok.n.2).1
   have:B.freshB (j:Int)=(oC R B j).isSome:=by
    unfold Bs.freshB oC;rw [yq hi.1,yq hi.2]
    show (B.fr j).isSome=_
    by_cases q:(B.fr j).isSome=true
    ·rw [if_pos q,q];rfl
    ·rw [if_neg q];simpa using q
   rw [<- this] at l;exact ⟨_,l⟩
  ·have l:=(h.fm.look_out (t:=51) Tryz.underlying3 Tryz.underlying51 (fY w) JO ha zo).1
   have:B.freshB a=false:=by
    unfold Bs.freshB;by_cases h0:0<=a
    ·rw [yC (show ¬ a<(B.T.n:Int) by omega)];simp
    ·rw [yC h0];simp
   rw [<- this] at l;exact ⟨_,l⟩
 obtain ⟨v,Co⟩:=Co;clear h;generalize B.freshB a=r at *;go_enter Tryz.func75,Tryz.ntmps75;go_wp2_with fail;refine zm (cn) ?_;go_wp2_with fail;go_ret;exact ⟨rfl,rfl⟩
end
theorem x9 {ops:Array Oper} {rest:List Oper} {o:Oper} {a:Act} {Q:Exit->Act->World->Prop} (hg:o.guard=none) (s x:Operand) (t:TypeId)
  (Gv:o.op = .call { callee := .builtin .append,args:=#[s,x],argTypes:=#[t,t] }) (S6:o.type=t) {size m bytes:Nat} {e:TypeId} {z v xv:Value} {xs news:List Value}
  (ht:Tryz.prog.underlying t=some (.slice e)) (EV:(Tryz.prog.info? e).map (fun i=>(i.zero,i.size,i.bytes))=some (some z,size,bytes)) (MN:z.cells.size=size) (Dg:0<size) (D5:bytes<=1000)
  (hs:a.eval s=v) (hx:a.eval x=xv) (BT:w.ownsRow base e size v n xs) (EN:xQ w size xv m news) (Ni:n+m<=3000000) (Dp:base<=w.heap.size)
  (hK:∀ v' w',w'.ownsRow base e size v' (n+m) (xs++news)->w.grownBy w' v.ownBlock->(v'.ownBlock=v.ownBlock∨v'.ownBlock=some w.heap.size)->wpList Tryz.prog ops Q rest (a.put o.dst v') w'):wpList Tryz.prog ops Q (o::rest) a w:=by
 refine wpList_plain hg fun K Ii=>?_;obtain ⟨v',w',B8,r1,r2,r3⟩:=fN ht EV MN Dg D5 BT EN Ni Dp;unfold Oper.wp;simp [execOp,Gv,resolve,invoke,builtin,hs,hx,S6,B8,Result.andThen];exact Ii _ _ (hK _ _ r1 r2 r3)
def fZ (n:Nat) (f:zF):List Value:=(List.range n).map fun i => .int .u8 (f i:Int)
theorem oF (h:zB w k o n f) (hk:k<w.heap.size):xQ w 1 (.slice (some ⟨k,o,none⟩) n c) n (fZ n f):=by
 refine ⟨by simp [fZ],fun u hu=>?_,.inl ⟨k,o,c,rfl,hk,fun j u hu=>?_⟩⟩
 ·simp only [fZ,yw] at hu
  obtain ⟨i,_,rfl⟩:=hu;rfl
 ·have hj:j<n:=by
   have:=(List.getElem?_eq_some_iff.1 hu).1;simpa [fZ] using this
  have e:(fZ n f)[j]?=some (.int .u8 (f j:Int)):=by simp [fZ,hj]
  rw [e] at hu;rw [<- hu];exact (h j hj).1
theorem oG {v:Value} (h:w.ownsRow base 5 1 v n (fZ n f)) (hn:0<n) (hf:∀ i,i<n->f i<=255):∃ g c,v = zS g n c/\n<=c/\c<=maxLen/\base<=g/\(∃ BV,w.heap[g]?=some (.cells BV 5 (0,0)))/\zB w g 0 n f:=by
 obtain ⟨g,c,e,h1,h2,h3,h4,h5⟩:=aE h hn;refine ⟨g,c,e,h1,h2,h3,?_,fun i hi=>⟨?_,hf i hi⟩⟩
 ·rcases h.2 with ⟨_,h0⟩ | ⟨g',c',BV,e',_,Gp,_⟩
  ·omega
  ·rw [e] at e'
   injection e' with e' _ _;injection e' with e';injection e' with e';subst e';exact ⟨BV,Gp⟩
 ·rw [yn,h5 i zo]
  simp [fZ,hi]
theorem VZ (h:zB w k o n f) (h0:0<n) (hn:n<=100000) :
  zC 58 #[.slice (some ⟨k,o,none⟩) n c] w fun e w'=>∃ g c',e = .returned (zS g n c')/\n<=c'/\c'<=maxLen/\w.heap.size<=g/\(∃ BV,w'.heap[g]?=some (.cells BV 5 (0,0)))/\zB w' g 0 n f/\zv [] w w':=by
 have hk:k<w.heap.size:=yc w ⟨k,o+0,none⟩ (h 0 h0).1;have Ep:=fun w=>Lib.run_eql_slice_nil (P:=Tryz.prog) w 81 5 (some ⟨k,o,none⟩) n c 0 0 Tryz.underlying81;simp only [Option.isNone_some] at Ep;have HE:=zh (kG (w:=w) (base:=w.heap.size) (size:=1) (e:=5) (xd _));have Df:=zh ((zv.refl [] w).alloc (.cells #[] 5));have H:=zh (zA h hk);clear h;go_enter Tryz.func58,Tryz.ntmps58;go_wp2_with (at_builtin;refine x9 rfl _ _ 81 rfl rfl (base:=w.heap.size) (size:=1) (n:=0) (m:=n) (news:=fZ n f) Tryz.underlying81 X7 rfl zo zo rfl rfl HE (oF (H.1.chg Df) (qe H.2 Df.size)) zo Df.size ?_;intro v' w2 Ck C8 _;have C9:=zh Ck;have BZ:=zh (Df.grown C8 (fun k hk => .inr (HE.lt k hk).1));clear Ck C8);go_ret;have ho:=C9.o;rw [yn,yy] at ho;obtain ⟨g,c',rfl,q1,q2,q3,q4,q5⟩:=oG ho h0 (fun i hi=>(H.1 i hi).2);exact ⟨g,c',rfl,q1,q2,q3,q4,q5,BZ⟩
theorem oH (hn:n<=4096) (hc:n<=c) (Cs:∀ i,i<n->w.cell? ⟨g,i,none⟩=some (.int .i64 (l i:Int))) :
  zC 167 #[zS g n c,.int .i64 x] w fun e w'=>(∃ z:Int,e = .returned (.int .i64 z)/\(0<=z↔∃ i,i<n/\(l i:Int)=x))/\w=w':=by
 have H:=zh Cs;clear Cs;go_enter Tryz.func167,Tryz.ntmps167;go_wp2_with fail;go_loopg [8] n (fun gg s wr=>∃ k:Nat,gg=n - k/\k<=n/\s = zI k/\w=wr/\∀ i,i<k->(l i:Int)≠x)
 case atStart=>exact ⟨0,rfl,yg _,zac,rfl,fun i hi=>zo⟩
 case round =>
  obtain ⟨k,DM,DH,rfl,rfl,hno⟩:=hrel;by_cases hk:k<n
  ·have c1:=H k hk
   have:(k:Int)<(n:Int):=zo;obtain ⟨y,hy⟩:=zE (l k);rw [<- hy] at c1;have HY:=zh hy;have HNO:=zh hno;clear hy hno;by_cases e:x=(y:Int)
   ·subst e
    go_wp2_with fail;go_ret;exact ⟨⟨k,rfl,⟨fun _=>⟨k,hk,by rw [HY.o]⟩,fun _=>zo⟩⟩,rfl⟩
   ·go_wp2_with fail
    go_roundg (n - (k+1))
    case measure=>omega
    case rel =>
     refine ⟨k+1,rfl,zo,zac,rfl,fun i hi=>?_⟩;by_cases e2:i=k
     ·subst e2;rw [<- HY.o];exact fun q=>e q.symm
     ·exact HNO i zo
  ·obtain rfl:k=n:=zo
   go_wp2_with fail;go_ret;exact ⟨⟨-1,rfl,⟨fun h=>zo,fun ⟨i,hi,e⟩=>absurd e (hno i hi)⟩⟩,rfl⟩
theorem sf (hn:n<=4096) (hc:n<=c) (Cs:∀ i,i<n->w.cell? ⟨g,i,none⟩=some (.int .i64 (l i:Int))) {r:Bool} (hr:r=true↔∃ i,i<n/\(l i:Int)=x) :
  zC 118 #[zS g n c,.int .i64 x] w fun e w'=>e = .returned (.bool r)/\w=w':=by
 have ci:=oH (x:=x) hn hc Cs;have HR:=zh hr;clear Cs hr;go_enter Tryz.func118,Tryz.ntmps118;go_wp2_with fail;refine ci.mono ?_;rintro e w' ⟨⟨z,rfl,hz⟩,rfl⟩;have HZ:=zh hz;clear hz ci;go_wp2_with fail;go_ret;have:r=decide (0<=z):=by rw [Bool.eq_iff_iff,HR.o,decide_eq_true_iff,HZ.o]
 subst this;exact ⟨rfl,rfl⟩
def Z7 (B:Bs) (k:Nat) (x:Int):Bool:=(List.range (qd B.T.n k)).any fun i=>decide ((B.a k i:Int)=x)
theorem Zh {B:Bs} : Z7 B k x=true↔∃ i,i<qd B.T.n k/\(B.a k i:Int)=x:=by simp [Z7]
theorem xz {a b:Nat} {es:Array MapEntry} {cs:Array Value} {T:TypeId} {z:Nat × Nat} (ha:w.heap[a]?=some (.map es c)) (hb:w.heap[b]?=some (.cells cs T z)):a≠b:=by
 rintro rfl;rw [ha] at hb;cases hb
section
variable {w w':World} {M:Bm} {R R':Br} {B B':Bs}
theorem x6.nodup (h:x6 w M R B):M.L.Nodup:=by
 obtain ⟨es,c,hm⟩:=h.c.fm.obj;obtain ⟨es',c',hk⟩:=h.c.pt.ht.map.obj;have hb:=h.c.top;have hd:=h.d.top;have EB:=h.d.blk;have hp:=h.c.pt.hp.top;have ht:=h.c.pt.ht.top;have Ky:=h.c.pt.ht.cs;simp only [Bm.L,List.nodup_cons,ya,yk,or_false,not_or,List.nodup_nil,and_true]
 refine ⟨⟨xr hb hd zaf,xr hb EB zaf,xr hb hp zaf,xr hb ht zaf,xr hb Ky zaf,fun e=>xz hk hb e.symm,fun e=>xz hm hb e.symm⟩,
  ⟨xr hd EB zaf,xr hd hp zaf,xr hd ht zaf,xr hd Ky zaf,fun e=>xz hk hd e.symm,fun e=>xz hm hd e.symm⟩,
  ⟨xr EB hp zaf,xr EB ht zaf,xr EB Ky zaf,fun e=>xz hk EB e.symm,fun e=>xz hm EB e.symm⟩,
  ⟨xr hp ht zaf,xr hp Ky zaf,fun e=>xz hk hp e.symm,fun e=>xz hm hp e.symm⟩,
  ⟨xr ht Ky zaf,fun e=>xz hk ht e.symm,fun e=>xz hm ht e.symm⟩,
  ⟨fun e=>xz hk Ky e.symm,fun e=>xz hm Ky e.symm⟩,fun e=>h.c.ne e.symm,fun e=>e⟩
theorem mN (hn:16<=n):0<qd n k:=by
 unfold qd pg
 split <;> omega
theorem x6.gL (h:x6 w M R B) (hk:k<2):R.g k∉M.L:=by
 have hn:=mN (k:=k) h.c.ok.n.1
 have hc:w.cell? ⟨R.g k,0,none⟩=some (.int .i64 (B.a k 0:Int)):=by
  rcases h.c.sh.l k hk with ⟨e,_⟩ | ⟨g,c,e,h1,h2,h3,h4⟩
  ·cases e
  ·injection e with e _ _
   injection e with e;injection e with e;have:=h4 0 (by rw [xF];exact hn);rw [Y0 _ _ hn] at this;rw [e];exact this
 have no:∀ {x:Nat} {v:Value},w.cell? ⟨x,0,none⟩=some v->v ≠ .int .i64 (B.a k 0:Int)->R.g k≠x:=fun {x v} hx hv e=>by
  rw [<- e,hc] at hx;injection hx with hx;exact hv hx.symm
 have nm:∀ {x:Nat} {es:Array MapEntry} {c:Nat},w.heap[x]?=some (.map es c)->R.g k≠x:=fun {x es c} hx e=>by
  rw [<- e] at hx;simp [World.cell?,hx] at hc
 obtain ⟨es,c,hm⟩:=h.c.fm.obj;obtain ⟨es',c',De⟩:=h.c.pt.ht.map.obj;have n0:=h.c.pt.ht.n1;simp only [Bm.L,ya,yk,or_false,not_or];refine ⟨no h.c.c0 zaa,no (zM h.d.top 0) zaa,?_,no (zM h.c.pt.hp.top 0) zaa,no (zM h.c.pt.ht.top 0) zaa,no (h.c.pt.ht.cc (i:=0) zo) zaa,nm De,nm hm⟩;have EB:=(zM h.d.blk 0).trans (xL (n:=B.T.n*128) zo);exact no EB zaa
theorem x6.fL (h:x6 w M R B) (hk:k<B.T.n) (hf:B.fr k=some f):R.fg k∉M.L:=by
 obtain ⟨_,_,_,BV,z,hx⟩:=h.c.fd k f hk hf;obtain ⟨es,c,hm⟩:=h.c.fm.obj;obtain ⟨es',c',De⟩:=h.c.pt.ht.map.obj;simp only [Bm.L,ya,yk,or_false,not_or];exact ⟨xr hx h.c.top zaf,xr hx h.d.top zaf,xr hx h.d.blk zaf,xr hx h.c.pt.hp.top zaf,xr hx h.c.pt.ht.top zaf,xr hx h.c.pt.ht.cs zaf,fun e=>xz De hx e.symm,fun e=>xz hm hx e.symm⟩
theorem x6.fd_keep (h:x6 w M R B) (c:zv M.L w w') (hk:k<B.T.n) (hf:B.fr k=some f):128<=R.fc k/\R.fc k<=maxLen/\zB w' (R.fg k) 0 128 f/\∃ BV z,w'.heap[R.fg k]?=some (.cells BV 5 z):=by
 obtain ⟨h1,h2,h3,BV,z,h4⟩:=h.c.fd k f hk hf;have hn:=h.fL hk hf;exact ⟨h1,h2,h3.chg c hn,BV,z,(c.block _ (zz h4) hn).trans h4⟩
theorem x6.remake (h:x6 w M R B) (c:zv M.L w w') (hn:B'.T.n=B.T.n) (ha:B'.a=B.a) (hg:R'.g=R.g) (hc:R'.c=R.c) (top:w'.heap[M.b]?=some (.cells (zK 44 (Xr M R' B')) 58 (0,0))) (pt:PT w' M.p M.t M.bc M.bk B'.K B'.T)
  (fm:xJ Tryz.prog 3 dW w' M.mf B'.T.n (oC R' B')) (fd:∀ k f,k<B'.T.n->B'.fr k=some f->128<=R'.fc k/\R'.fc k<=maxLen/\zB w' (R'.fg k) 0 128 f/\∃ BV z,w'.heap[R'.fg k]?=some (.cells BV 5 z))
  (d:xE w' M.d M.bb (.slice none 0 0) ⟨B'.T.n,B'.D,[]⟩) (ok:B'.Ok):x6 w' M R' B':=by
 refine ⟨{ top:=top,pt:=pt,sh:=?_,fm:=fm,fd:=fd,ok:=ok,ne:=h.c.ne,glt:=fun k hk=>by rw [hg];exact qe (h.c.glt k hk) c.size },d⟩;rw [hn,ha,hg,hc];exact h.c.sh.chg c (h.gL zo) (h.gL zo)
theorem Z8 (hn:B'.T.n=B.T.n) (hS:B'.S=B.S) (hK:B'.Kp=B.Kp) (hg:R'.g=R.g) (hc:R'.c=R.c):Xr M R' B'=Xr M R B:=by
 funext i
 unfold Xr;rw [hn,hS,hK,hg,hc]
theorem zx.of {F:List Nat} (h:x6 w M R B) (hF:∀ x,fX M R B x->x∉F) (h':x6 w' M R' B') (hn:B'.T.n=B.T.n) (hg:R'.g=R.g) (hq:∀ q,q∈F->q<w.heap.size)
  (hf:∀ k,k<B.T.n->(B'.fr k).isSome=true->((B.fr k).isSome=true/\R'.fg k=R.fg k)∨w.heap.size<=R'.fg k):zx w' M F B':=by
 refine ⟨R',h',fun x hx=>?_⟩;rcases hx with hx | ⟨k,hk,rfl⟩ | ⟨k,hk,hs,rfl⟩
 ·exact hF x (.inl hx)
 ·rw [hg];exact hF _ (.inr (.inl ⟨k,hk,rfl⟩))
 ·rcases hf k (by rw [<- hn];exact hk) hs with ⟨h1,h2⟩ | h1
  ·rw [h2];exact hF _ (.inr (.inr ⟨k,by rw [<- hn];exact hk,h1,rfl⟩))
  ·intro hm;have:=hq _ hm;omega
end
end Go.Proofs.YtegpiomkmfhadaaGreat
