/- Layer 13's statements: Rising. · Layers 14 and on, in plain words: data of items, as Grown puts them. · Layers 14 and on, in plain words: where nobody refers to anything, nothing is left; references of a list of roots. -/
import Derived.Test.YtkhcaclndepgbaaGreatZn40
set_option linter.unusedVariables false
set_option linter.unusedSimpArgs false
set_option maxRecDepth 100000
set_option maxHeartbeats 20000000
namespace Go.Proofs.YtkhcaclndepgbaaGreat
open Go.RowKit
def atOf (out:List (Nat × Nat)) (key:Nat):Nat->Nat
 | 0=>0
 | i+1=>if key<=kOf out i then atOf out key i else i+1
theorem atOf_spec {out:List (Nat × Nat)} {key:Nat} : ∀ i,(∀ j,i<=j->j<out.length->key<=kOf out j)->atOf out key i<=i/\(∀ j,atOf out key i<=j->j<out.length->key<=kOf out j)/\(atOf out key i=0∨kOf out (atOf out key i - 1)<key)
 | 0,h=>⟨zLr _,h,.inl rfl⟩
 | i+1,h=>by
  unfold atOf;by_cases e:key<=kOf out i
  ·rw [if_pos e]
   obtain ⟨h1,h2,h3⟩:=atOf_spec i (fun j hj hl=>by
    by_cases e2:j=i
    ·subst e2;exact e
    ·exact h j (by omega) hl)
   exact ⟨by omega,h2,h3⟩
  ·rw [if_neg e]
   exact ⟨zLr _,h,.inr (by rw [Nat.add_sub_cancel];omega)⟩
def risS (out:List (Nat × Nat)) (x:Nat × Nat):List (Nat × Nat):=insAt out x (atOf out x.1 out.length)
def risL (l:List (Nat × Nat)):List (Nat × Nat):=l.foldl risS []
theorem risL_take {l:List (Nat × Nat)} {i:Nat} (hi:i<l.length):risL (l.take (i+1))=risS (risL (l.take i)) (l.getD i (0,0)):=by
 unfold risL;rw [List.take_add_one,List.foldl_append,List.getElem?_eq_getElem hi,getD_lt hi];rfl
theorem insAt_mem {out:List (Nat × Nat)} {x p:Nat × Nat} {i:Nat} (h:p∈insAt out x i):p∈out∨p=x:=by
 unfold insAt at h
 split at h
 ·exact .inl h
 ·rcases List.mem_append.1 h with h | h
  ·exact .inl (List.mem_of_mem_take h)
  ·rcases List.mem_cons.1 h with h | h
   ·exact .inr h
   ·exact .inl (List.mem_of_mem_drop h)
theorem risL_ok {l:List (Nat × Nat)} (hu:It64 l):∀ i,i<=l.length->Asc (risL (l.take i))/\It64 (risL (l.take i))/\(risL (l.take i)).length<=i/\(∀ p,p∈risL (l.take i)->p∈l)/\(0<i->1<=(risL (l.take i)).length)
 | 0,_=>⟨List.Pairwise.nil,fun p hp=>by simp [risL] at hp,by simp [risL],fun p hp=>by simp [risL] at hp,fun h=>by omega⟩
 | i+1,h=>by
  obtain ⟨h1,h2,h3,h4,h5⟩:=risL_ok hu i (by omega);rw [risL_take (by omega)];obtain ⟨a1,a2,a3⟩:=atOf_spec (out:=risL (l.take i)) (key:=(l.getD i (0,0)).1) (risL (l.take i)).length (fun j hj hl=>by omega);obtain ⟨b1,b2,b3⟩:=insAt_asc h1 h2 (hu.getD i) a1 a2 a3;refine ⟨b1,b2,by unfold risS;omega,fun p hp=>?_,fun _=>?_⟩
  ·rcases insAt_mem hp with q | q
   ·exact h4 p q
   ·rw [q,getD_lt (by omega)];exact List.getElem_mem _
  ·unfold risS insAt
   split
   ·rename_i q;omega
   ·simp;omega
theorem ris_all {l:List (Nat × Nat)} (hu:It64 l):Asc (risL l)/\It64 (risL l)/\(risL l).length<=l.length/\(∀ p,p∈risL l->p∈l)/\(0<l.length->1<=(risL l).length):=by
 have:=risL_ok hu l.length (zLr _);rwa [List.take_length] at this
theorem chg_setRow (w:World) (g:Nat) (cs:Array Value):Chg [g] w (w.setRow g cs):=⟨rfl,rfl,rfl,by simp [World.setRow],fun k _ hk=>setRow_other w g k _ (fun e=>hk (by simp [e]))⟩
theorem run_copy_rowz {P:Program} (w:World) (dT sT ty elem:TypeId) (g o dLen dCap sz:Nat) (a:Addr) (sLen sCap:Nat) (cur:Array Value) (t:TypeId) (cs:List Value)
  (hu:P.underlying dT=some (.slice elem)) (hs:(P.info? elem).map (·.size)=some sz)
  (hg:w.heap[g]?=some (.cells cur t (0,0))) (hn:cs.length=Nat.min sLen dLen*sz)
  (hsrc:∀ j v,cs[j]?=some v->w.cell? (a.add j)=some v) (hfit:o+cs.length<=cur.size) (h1:∀ v∈cs,v.oneCell'=true) :
  (Builtin.copy_ #[dT,sT] ty #[.slice (some ⟨g,o,none⟩) dLen dCap,.slice (some a) sLen sCap]).run P w =
   .ok (goInt (Nat.min sLen dLen)) (w.setRow g (cur.toList.take o++cs++cur.toList.drop (o+cs.length)).toArray):=by
 have hl:=run_loadCells_list (P:=P) w a cs hsrc;have hst:=run_storeCells_at P g o t cs 0 cur w hg (by simpa using hfit) h1
 cases hq:P.info? elem with
 | none=>simp [hq] at hs
 | some i =>
  have hi:i.size=sz:=by simpa [hq] using hs
  simp [Builtin.copy_,run_underlying hu,Builtin.lenOf,Builtin.firstCells,sizeOf,typeInfo,hq,hi,<- hn,hl,hst]
theorem run_copy_nonez {P:Program} (w:World) (dT sT ty elem:TypeId) (sz:Nat) (d a:Option Addr) (dLen dCap sLen sCap:Nat) (hu:P.underlying dT=some (.slice elem)) (hs:(P.info? elem).map (·.size)=some sz) (hn:Nat.min sLen dLen=0) :
  (Builtin.copy_ #[dT,sT] ty #[.slice d dLen dCap,.slice a sLen sCap]).run P w = .ok (goInt 0) w:=by
 cases hq:P.info? elem with
 | none=>simp [hq] at hs
 | some i =>
  cases a with
  | none=>cases d with
   | none=>simp [Builtin.copy_,run_underlying hu,Builtin.lenOf,Builtin.firstCells,sizeOf,typeInfo,hq,hn,storeCells]
   | some d=>simp [Builtin.copy_,run_underlying hu,Builtin.lenOf,Builtin.firstCells,sizeOf,typeInfo,hq,hn,storeCells,loadCells,loadCellsFrom]
  | some a=>cases d with
   | none=>simp [Builtin.copy_,run_underlying hu,Builtin.lenOf,Builtin.firstCells,sizeOf,typeInfo,hq,hn,storeCells,loadCells,loadCellsFrom]
   | some d=>simp [Builtin.copy_,run_underlying hu,Builtin.lenOf,Builtin.firstCells,sizeOf,typeInfo,hq,hn,storeCells,loadCells,loadCellsFrom]
theorem run_shift {w:World} {base k i c:Nat} {xs:List Value} {g:Nat} {z:List Value} (h:w.ownsRow base 104 2 (.slice (some ⟨g,0,none⟩) (k+1) c) (k+1) (xs++z)) (hx:xs.length=k*2) (h1:∀ u,u∈xs->u.oneCell'=true) (hz:z.length=2) (hi:i<=k) (d:Option Addr) (hd:i<k->d=some ⟨g,(i+1)*2,none⟩) (s:Option Addr) (hs:s=some ⟨g,i*2,none⟩) (dc sc:Nat) (ty:TypeId) :
  ∃ w',(Builtin.copy_ #[83,83] ty #[.slice d (k - i) dc,.slice s (k+1 - i) sc]).run Tryz.prog w = .ok (goInt (k - i:Nat)) w' /\
   w'.ownsRow base 104 2 (.slice (some ⟨g,0,none⟩) (k+1) c) (k+1) (xs.take ((i+1)*2)++(if i=k then z else xs.drop (i*2)))/\Chg [g] w w':=by
 obtain ⟨g',c',e,r1,r2,r3,r4,r5⟩:=zol h (by omega);injection e with e1 e2 e3;injection e1 with e1;injection e1 with e1;subst e1;subst e3;have hn:Nat.min (k+1 - i) (k - i)=k - i:=Nat.min_eq_right (by omega);have hinf:(Tryz.prog.info? 104).map (·.size)=some 2:=by kernel_rfl
 by_cases hik:i=k
 ·subst hik
  have e0:i - i=0:=Nat.sub_self i;refine ⟨w,?_,?_,Chg.refl _ _⟩
  ·rw [run_copy_nonez w 83 83 ty 104 2 d s (i - i) dc (i+1 - i) sc Tryz.underlying83 hinf (by omega),e0];rfl
  ·rw [if_pos rfl,List.take_of_length_le (by omega)];exact h
 ·obtain ⟨_,hh⟩:=h
  rcases hh with ⟨e,_⟩ | ⟨g2,c2,cur,e,hb,hg,q1,q2,q3,q4⟩
  ·cases e
  ·injection e with e1 e2 e3
   injection e1 with e1;injection e1 with e1;subst e1;subst e3;have hcs:(xs.drop (i*2)).length=(k - i)*2:=by rw [List.length_drop,hx];omega
   have hrun:=run_copy_rowz (P:=Tryz.prog) w 83 83 ty 104 g ((i+1)*2) (k - i) dc 2 ⟨g,i*2,none⟩ (k+1 - i) sc cur 104 (xs.drop (i*2)) Tryz.underlying83 hinf hg (by rw [hn];exact hcs)
    (fun j v hv=>by
     have e:Addr.add ⟨g,i*2,none⟩ j=⟨g,i*2+j,none⟩:=by unfold Addr.add;split <;> simp [*]
     have hj:=(List.getElem?_eq_some_iff.1 hv).1;rw [hcs] at hj;rw [e,r5 (i*2+j) (by omega),List.getElem?_append_left (by rw [hx];omega)];rw [List.getElem?_drop] at hv;exact hv) (by rw [hcs,q3];have:(k+1)*2<=c*2:=Nat.mul_le_mul_right 2 q1;omega) (fun v hv=>h1 v (List.mem_of_mem_drop hv))
   rw [hn] at hrun;refine ⟨_,by rw [hd (by omega),hs];exact hrun,?_,chg_setRow w g _⟩
   have hx1:cur.toList.take (k*2)=xs:=by
    have:cur.toList.take ((k+1)*2)=xs++z:=q4;have h2:=congrArg (List.take (k*2)) this;rw [List.take_take,Nat.min_eq_left (by omega),List.take_append_of_le_length (by omega),List.take_of_length_le (l:=xs) (by omega)] at h2;exact h2
   have hl:((cur.toList.take ((i+1)*2)++xs.drop (i*2)++cur.toList.drop ((i+1)*2+(xs.drop (i*2)).length))).length=cur.size:=by
    rw [List.length_append,List.length_append,List.length_take,List.length_drop (l:=cur.toList),hcs,Array.length_toList,q3];have:(k+1)*2<=c*2:=Nat.mul_le_mul_right 2 q1;omega
   have hlen:(xs.take ((i+1)*2)++(if i=k then z else xs.drop (i*2))).length=(k+1)*2:=by
    rw [if_neg hik,List.length_append,List.length_take,hcs,hx];omega
   refine ⟨hlen,.inr ⟨g,c,_,rfl,hb,setRow_heap w g cur _ 104 (0,0) hg,q1,q2,by simpa using hl.trans q3,?_⟩⟩;rw [if_neg hik,List.toList_toArray];have hle:(i+1)*2<=k*2:=Nat.mul_le_mul_right 2 (by omega)
   have e5:cur.toList.take ((i+1)*2)=xs.take ((i+1)*2):=by
    rw [<- hx1,List.take_take,Nat.min_eq_left hle]
   rw [e5,List.take_append_of_le_length (by rw [List.length_append,List.length_take,hcs,hx];omega),List.take_of_length_le (by rw [List.length_append,List.length_take,hcs,hx];omega)]
theorem wpList_appB {ops:Array Oper} {rest:List Oper} {o:Oper} {a:Act} {w:World} {Q:Exit->Act->World->Prop} (hg:o.guard=none) (s x:Operand) (t:TypeId)
  (hop:o.op = .call { callee := .builtin .append,args:=#[s,x],argTypes:=#[t,t] }) (hty:o.type=t) {base size n m bytes:Nat} {e:TypeId} {z v xv:Value} {xs news:List Value}
  (ht:Tryz.prog.underlying t=some (.slice e)) (hinfo:(Tryz.prog.info? e).map (fun i=>(i.zero,i.size,i.bytes))=some (some z,size,bytes)) (hzs:z.cells.size=size) (hsz:0<size)
  (hs:a.eval s=v) (hx:a.eval x=xv) (hown:w.ownsRow base e size v n xs) (hsrc:AppSrc w size xv m news) (hbytes:(n+m)*bytes<=140737488355328) (hnm:n+m<=maxLen) (hbase:base<=w.heap.size)
  (hK:∀ v' w',w'.ownsRow base e size v' (n+m) (xs++news)->w.grownBy w' v.ownBlock->(v'.ownBlock=v.ownBlock∨v'.ownBlock=some w.heap.size)->wpList Tryz.prog ops Q rest (a.put o.dst v') w'):wpList Tryz.prog ops Q (o::rest) a w:=by
 have hrun:∃ v' w',(Builtin.append_ #[t,t] t #[v,xv]).run Tryz.prog w = .ok v' w'/\w'.ownsRow base e size v' (n+m) (xs++news)/\w.grownBy w' v.ownBlock/\(v'.ownBlock=v.ownBlock∨v'.ownBlock=some w.heap.size):=by
  obtain ⟨i,h1,h2,h3,h4⟩:=info_parts hinfo;obtain ⟨s1,s2,s3⟩:=hsrc;rcases s3 with ⟨g,o,c,rfl,hg,hc⟩ | ⟨c,rfl,rfl⟩
  ·obtain ⟨v',w',hr,ho,hgr,_,hob⟩:=run_append_own_at (P:=Tryz.prog) w base t t e i z size bytes ht h1 h2 h3 h4 hzs hsz v n xs hown ⟨g,o,none⟩ m c news s1 (fun j u hu=>by have e:Addr.add ⟨g,o,none⟩ j=⟨g,o+j,none⟩:=(by unfold Addr.add;split <;> simp [*]);rw [e];exact hc j u hu) s2 hnm hbytes hbase
   exact ⟨v',w',hr,ho,hgr,hob⟩
  ·have hn:news=[]:=List.eq_nil_of_length_eq_zero (by simpa using s1)
   subst hn;obtain ⟨a,k,hv,hk,_⟩:=zos hown;rw [hv];refine ⟨_,w,run_append_nothing w t t t e i ht h1 a n k hk _ (Src.ofNil w ht c),?_,⟨rfl,rfl,rfl,zLr _,fun _ _ _=>rfl⟩,.inl rfl⟩;rw [List.append_nil,<- hv];exact hown
 refine wpList_plain hg fun K hK'=>?_;obtain ⟨v',w',hrun,r1,r2,r3⟩:=hrun;unfold Oper.wp;simp [execOp,hop,resolve,invoke,builtin,hs,hx,hty,hrun,Result.andThen];exact hK' _ _ (hK _ _ r1 r2 r3)
theorem ownRow_set {w:World} {base n size i g c:Nat} {e:TypeId} {xs:List Value} {v:Value} (h:w.ownsRow base e size (.slice (some ⟨g,0,none⟩) n c) n xs) (hi:i<n*size):(w.setCell ⟨g,i,none⟩ v).ownsRow base e size (.slice (some ⟨g,0,none⟩) n c) n (xs.set i v):=by
 obtain ⟨h1,hh⟩:=h;rcases hh with ⟨q,_⟩ | ⟨g2,c2,cur,q,hb,hg,q1,q2,q3,q4⟩
 ·cases q
 ·injection q with e1 e2 e3
  injection e1 with e1;injection e1 with e1;subst e1;subst e3;refine ⟨by rw [List.length_set];exact h1,.inr ⟨g,c,cur.setIfInBounds i v,rfl,hb,?_,q1,q2,by simpa using q3,?_⟩⟩
  ·rw [setCell_eq_setRow w g i cur e (0,0) v hg]
   exact setRow_heap w g cur _ e (0,0) hg
  ·rw [Array.toList_setIfInBounds,List.take_set,q4]
theorem set_two {α:Type} (A r:List α) (u v a b:α):((A++u::v::r).set A.length a).set (A.length+1) b=A++a::b::r:=by
 rw [List.set_append_right _ _ (zLr _),Nat.sub_self,List.set_cons_zero,List.set_append_right _ _ (Nat.le_succ _),show A.length.succ - A.length=1 by omega];rfl
theorem itVs_take (l:List (Nat × Nat)) (i:Nat):itVs (l.take i)=(itVs l).take (i*2):=by
 conv=>rhs;rw [<- List.take_append_drop i l,itVs_app]
 by_cases h:i<=l.length
 ·rw [List.take_append_of_le_length (by rw [itVs_len,List.length_take];omega),List.take_of_length_le (l:=itVs (l.take i)) (by rw [itVs_len,List.length_take];omega)]
 ·rw [List.take_of_length_le (l:=l) (by omega),List.drop_eq_nil_of_le (by omega),List.take_of_length_le (by rw [List.length_append,itVs_len];simp [itVs];omega)]
  simp [itVs]
theorem itVs_drop (l:List (Nat × Nat)) (i:Nat):itVs (l.drop i)=(itVs l).drop (i*2):=by
 have h:=itVs_app (l.take i) (l.drop i);rw [List.take_append_drop,itVs_take] at h;have h2:=List.take_append_drop (i*2) (itVs l);rw [<- h2] at h
 conv at h=>rhs;rw [List.take_append_drop]
 exact (List.append_cancel_left h).symm
theorem store_two {w:World} {base k i c:Nat} {L:List (Nat × Nat)} {g:Nat} {p:Nat × Nat} (hk:k=L.length) (hi:i<=k) (h:w.ownsRow base 104 2 (.slice (some ⟨g,0,none⟩) (k+1) c) (k+1) ((itVs L).take ((i+1)*2)++(if i=k then [.int .u64 0,.int .u64 0] else (itVs L).drop (i*2)))) :
  ((w.setCell ⟨g,i*2,none⟩ (.int .u64 (p.1:Int))).setCell ⟨g,i*2+1,none⟩ (.int .u64 (p.2:Int))).ownsRow base 104 2 (.slice (some ⟨g,0,none⟩) (k+1) c) (k+1) (itVs (L.take i++p::L.drop i)):=by
 have hX:=itVs_len L;rw [<- hk] at hX;have h1:=ownRow_set (v := .int .u64 (p.1:Int)) h (i:=i*2) (by omega);have h2:=ownRow_set (v := .int .u64 (p.2:Int)) h1 (i:=i*2+1) (by omega)
 have e:itVs (L.take i++p::L.drop i)=(((itVs L).take ((i+1)*2)++(if i=k then [.int .u64 0,.int .u64 0] else (itVs L).drop (i*2))).set (i*2) (.int .u64 (p.1:Int))).set (i*2+1) (.int .u64 (p.2:Int)):=by
  rw [itVs_app,itVs_cons,itVs_take,itVs_drop];generalize itVs L=X at hX;have hl:(X.take (i*2)).length=i*2:=by rw [List.length_take,hX];omega
  by_cases hik:i=k
  ·subst hik
   rw [if_pos rfl,List.take_of_length_le (i:=(i+1)*2) (by omega),List.take_of_length_le (i:=i*2) (by omega),List.drop_eq_nil_of_le (by omega)];have:=set_two X [] (.int .u64 0) (.int .u64 0) (.int .u64 (p.1:Int)) (.int .u64 (p.2:Int));rw [hX] at this;exact this.symm
  ·rw [if_neg hik]
   have hd:(X.drop (i*2)).length=(k - i)*2:=by rw [List.length_drop,hX];omega
   match hq:X.drop (i*2),hd with
   | [],hd=>exfalso;simp at hd;omega
   | [_],hd=>exfalso;simp at hd;omega
   | u::v::r,hd =>
    have e2:X.take ((i+1)*2)=X.take (i*2)++[u,v]:=by
     rw [show (i+1)*2=i*2+2 by omega,List.take_add,hq];rfl
    rw [e2,List.append_assoc];have:=set_two (X.take (i*2)) (u::v::r) u v (.int .u64 (p.1:Int)) (.int .u64 (p.2:Int));rw [hl] at this;exact this.symm
 rw [e];exact h2
theorem rising13_at {A:List Nat} {w:World} {v:Value} {l:List (Nat × Nat)} (hit:ItemsIn A w v l) (hl:l.length<=8796093021952) :
  Calls Tryz.prog 50 #[v] w fun e w'=>∃ u,e = .returned u/\w'.ownsRow w.heap.size 104 2 u (risL l).length (itVs (risL l))/\Chg [] w w':=by
 obtain ⟨a,c,rfl,h1,h2⟩:=hit.len;have H:=zh hit;have HU:=zh hit.u;obtain ⟨n,hn⟩:∃ n,n=l.length:=⟨_,rfl⟩;rw [<- hn] at h1 hl ⊢;replace H:Hid (ItemsIn A w (.slice a n c) l):=by rw [hn];exact H
 have HN:=zh hn;clear hit hn;go_enter Tryz.func50,Tryz.ntmps50;go_wp2_with fail;go_loopg [3,9] n (fun gg s3 s9 wr=>∃ i:Nat,gg=n - i/\i<=n/\s9 = .int .i64 (i:Int)/\Hid (wr.ownsRow w.heap.size 104 2 s3 (risL (l.take i)).length (itVs (risL (l.take i)))/\Chg [] w wr))
 case atStart=>exact ⟨0,rfl,Nat.zero_le _,rfl,zh ⟨World.ownsRow_nil _ _ _ _,Chg.refl _ _⟩⟩
 case round =>
  obtain ⟨i,hgg,hi,rfl,HX⟩:=hrel;have HGG:=zh hgg;clear hgg;by_cases hin:i<n
  ·have i1:(i:Int)<(n:Int):=by omega
   have hstep:=risL_take (l:=l) (i:=i) (by rw [<- HN.out];exact hin);have hlen:=(risL_ok HU.out i (by rw [<- HN.out];exact hi)).2.2.1;obtain ⟨L,hL⟩:∃ L,L=risL (l.take i):=⟨_,rfl⟩;obtain ⟨k,hk⟩:∃ k,k=L.length:=⟨_,rfl⟩;rw [<- hL] at HX hstep hlen;rw [<- hk] at HX hlen;obtain ⟨sa,sc,rfl,s1,s2⟩:=zos HX.out.1;obtain ⟨b,o,rfl,hb,hbA,c0,c1⟩:=(H.out.chg HX.out.2 (by simp)).get (i:=i) (by rw [<- HN.out];exact hin);obtain ⟨x,hx⟩:∃ x,x=l.getD i (0,0):=⟨_,rfl⟩;rw [<- hx] at c0 c1 hstep;have HL:=zh (zA hL (zA hk (zA hstep hx)));clear hL hk hstep hx;obtain ⟨p,hp⟩:∃ p,p=atOf L x.1 k:=⟨_,rfl⟩;have hsp:=atOf_spec (out:=L) (key:=x.1) k (fun j hj hl=>by have:=HL.out.2.1;omega);rw [<- hp] at hsp;have HP:=zh (zA hp hsp);have hpk:p<=k:=hsp.1;clear hp hsp;go_upto_block 2 with fail;have hB1:=(Chg.refl [] wr).alloc (.cells #[.int .u64 (x.1:Int),.int .u64 (x.2:Int)] 104);have hXB:=znb wr (.cells #[.int .u64 (x.1:Int),.int .u64 (x.2:Int)] 104);generalize wr.alloc (.cells #[.int .u64 (x.1:Int),.int .u64 (x.2:Int)] 104)=w1 at hB1 hXB ⊢;obtain ⟨xb,hxb⟩:∃ xb,xb=wr.heap.size:=⟨_,rfl⟩;rw [<- hxb] at hXB ⊢;have HW:Hid (w1.ownsRow w.heap.size 104 2 (.slice sa k sc) k (itVs L)/\Chg [] w w1/\w1.heap[xb]?=some (.cells #[.int .u64 (x.1:Int),.int .u64 (x.2:Int)] 104 (0,0))/\w.heap.size<=xb/\∀ q,(Value.slice sa k sc).ownBlock=some q->q<xb):=zh ⟨zoc HX.out.1 hB1 (by simp),HX.out.2.trans hB1,hXB,by rw [hxb];exact HX.out.2.size,fun q hq=>by rw [hxb];exact (HX.out.1.lt q hq).2⟩
   have HCL:Hid (∀ wz,Chg [] w1 wz->wz.cell? ⟨xb,0,none⟩=some (.int .u64 (x.1:Int))/\wz.cell? ⟨xb,1,none⟩=some (.int .u64 (x.2:Int))/\∀ j,j<k->∃ g,sa=some ⟨g,0,none⟩/\wz.cell? ⟨g,j*2,none⟩=some (.int .u64 (kOf L j:Int))):=zh fun wz hz=>by
    have hb:=(hz.block xb (zhl HW.out.2.2.1) (by simp)).trans HW.out.2.2.1;refine ⟨(zcb hb 0).trans rfl,(zcb hb 1).trans rfl,fun j hj=>?_⟩;obtain ⟨g,c',e,_,_,_,hlt,hc⟩:=zol HW.out.1 (by omega);injection e with e _ _;exact ⟨g,e,(hz.cell (p:=⟨g,j*2,none⟩) hlt (by simp)).trans ((hc (j*2) (by omega)).trans (itVs_get L j (by rw [<- HL.out.2.1];exact hj)).1)⟩
   clear hB1 hXB hxb c0 c1;go_cut [6] from 15 to 29 (fun s wx=>s = .int .i64 (p:Int)/\Hid (Chg [] w1 wx))
   case first =>
    go_wp2_with fail;go_loopg [6] k (fun gg s wz=>∃ j:Nat,gg=j/\j<=k/\s = .int .i64 (j:Int)/\Hid (atOf L x.1 j=p/\Chg [] w1 wz))
    case atStart=>exact ⟨k,rfl,zLr _,rfl,zh ⟨HP.out.1.symm,Chg.refl _ _⟩⟩
    case round =>
     obtain ⟨j,hgj,hj,rfl,HJ⟩:=hrel;have HGJ:=zh hgj;clear hgj;obtain ⟨y0,-,hcl⟩:=HCL.out wr HJ.out.2;by_cases h0:j=0
     ·subst h0
      have hp0:p=0:=HJ.out.1.symm;have i2:¬ (0:Int)<((0:Nat):Int):=by omega
      have d2:decide ((0:Int)<((0:Nat):Int))=false:=by simp
      subst hp0;have HJC:=zh HJ.out.2;clear hcl;rw [show ((0:Nat):Int)=0 from rfl] at *;go_upto_region 6 with fail
      go_quiet (fail)
      go_wp2_with fail;go_meet;exact ⟨rfl,zh (HJC.out.drewN _)⟩
     ·obtain ⟨i3,rfl⟩:∃ i3,j=i3+1:=⟨j - 1,by omega⟩
      obtain ⟨g,rfl,hc⟩:=hcl i3 (by omega);have e1:(((i3+1:Nat):Int) - 1)=(i3:Int):=by omega
      have i2:(0:Int)<((i3+1:Nat):Int):=by omega
      have i3k:(i3:Int)<(k:Int):=by omega
      have HJ2:=HJ.out.1;have HJC:=zh HJ.out.2;unfold atOf at HJ2;clear hcl;by_cases hle:x.1<=kOf L i3
      ·rw [if_pos hle] at HJ2
       obtain ⟨z,hz⟩:∃ z,z=kOf L i3:=⟨_,rfl⟩;rw [<- hz] at hle hc;have k2:(x.1:Int)<=(z:Int):=by omega
       have d2:decide ((x.1:Int)<=(z:Int))=true:=by simp;omega
       have HJ3:=zh HJ2;clear hz HJ2 HJ;go_upto_region 6 with fail
       go_quiet (fail)
       go_wp2_with fail;go_roundg i3
       case measure=>have:=HGJ.out;omega
       case rel=>exact ⟨i3,rfl,by omega,by go_num,zh ⟨HJ3.out,HJC.out.drewN _⟩⟩
      ·rw [if_neg hle] at HJ2
       obtain ⟨z,hz⟩:∃ z,z=kOf L i3:=⟨_,rfl⟩;rw [<- hz] at hle hc;have k2:¬ (x.1:Int)<=(z:Int):=by omega
       have d2:decide ((x.1:Int)<=(z:Int))=false:=by simp;omega
       have HJ3:=zh HJ2;clear hz HJ2 HJ;go_upto_region 6 with fail
       go_quiet (fail)
       go_wp2_with fail;go_meet;exact ⟨by rw [<- HJ3.out];go_num,zh (HJC.out.drewN _)⟩
   case rest =>
    obtain ⟨rfl,hwx⟩:=hcut;obtain ⟨y0,y1,hcl⟩:=HCL.out wc hwx.out;by_cases heq:p<k/\kOf L p=x.1
    ·obtain ⟨g,rfl,hc⟩:=hcl p heq.1
     have i2:(p:Int)<(k:Int):=by have:=heq.1;omega
     have hrs:risS L x=L:=by
      unfold risS insAt;rw [<- HL.out.2.1,<- HP.out.1,if_pos heq]
     rw [heq.2] at hc;have HRS:=zh hrs;clear hrs hcl heq;go_upto_region 8 with fail
     go_quiet (fail)
     go_wp2_with fail;go_roundg (n - (i+1))
     case measure=>have:=HGG.out;omega
     case rel =>
      refine ⟨i+1,rfl,hin,by go_num,zh ?_⟩;rw [HL.out.2.2.1,HRS.out,<- HL.out.2.1];exact ⟨zoc HW.out.1 (hwx.out.drewN _) (by simp),HW.out.2.1.trans (hwx.out.drewN _)⟩
    ·have hrs:risS L x=L.take p++x::L.drop p:=by
      unfold risS insAt;rw [<- HL.out.2.1,<- HP.out.1,if_neg heq]
     have HRS:=zh hrs
     have hor:¬ p<k∨(p<k/\¬ kOf L p=x.1):=by
      by_cases q:p<k
      ·exact .inr ⟨q,fun e=>heq ⟨q,e⟩⟩
      ·exact .inl q
     clear hrs heq;rcases hor with q | ⟨q,q2⟩
     case' inl =>
      have i2:¬ (p:Int)<(k:Int):=by omega
      clear hcl;go_upto_region 8 with fail
      go_quiet (fail)
     case' inr =>
      obtain ⟨g,hsa,hc⟩:=hcl p q;have hsa2:=zh hsa;subst hsa;have i2:(p:Int)<(k:Int):=by omega
      obtain ⟨z,hz⟩:∃ z,z=kOf L p:=⟨_,rfl⟩;rw [<- hz] at hc q2;have i3:¬ ((z:Int)=(x.1:Int)):=by omega
      clear hcl hz;go_upto_region 8 with fail
      go_quiet (fail)
     all_goals
      have hcd:Chg [] w1 (wc.drewN nq):=hwx.out.drewN nq;clear y0 y1 i2;generalize wc.drewN nq=wd at hcd ⊢;have hn4:=znb wd (.cells #[.int .u64 0,.int .u64 0] 104);have hc4:Chg [] wd (wd.alloc (.cells #[.int .u64 0,.int .u64 0] 104)):=(Chg.refl [] wd).alloc _;have H4:=zh (zA (zoc (zoc HW.out.1 hcd (by simp)) hc4 (by simp)) (zA hn4 (zA (hcd.trans hc4) (zLt HW.out.2.1.size (zLt hcd.size hc4.size)))));clear hn4 hc4 hcd;go_wp2_with (at_builtin;refine wpList_appB rfl _ _ 83 rfl rfl (base:=w.heap.size) (size:=2) (n:=k) (m:=1) (bytes:=16) (xs:=itVs L) (news:=[.int .u64 0,.int .u64 0]) Tryz.underlying83 infoItem rfl (by omega) rfl rfl H4.out.1 (AppSrc.blk H4.out.2.1 rfl (fun u hu=>by simp at hu;subst hu;rfl)) (by omega) (by unfold maxLen;omega) H4.out.2.2.2 ?_;intro v' w5 hown5 hg5 ho5;obtain ⟨g5,c5,rfl,r51,r52,r53,r54,r55⟩:=zol hown5 (by omega);have H5:=zh (zA hown5 (zA hg5 (zA r53 ho5)));clear hown5 hg5 ho5 r53 r54 r55);have hcp:¬ c5=p:=by omega
      obtain ⟨q1,hq1⟩:∃ q1,q1=p+1:=⟨_,rfl⟩;have e1:IntKind.i64.wrap ((p:Int)+1)=(q1:Int):=by rw [IntWalk.i64_in _ (by omega)];omega
      have hA:(p:Int)<=(k:Int)+1:=by omega
      have hB:(q1:Int)<=(k:Int)+1:=by omega
      obtain ⟨dd,hdd⟩:∃ dd:Option Addr,(if c5=q1 then some ⟨g5,0,none⟩ else some ⟨g5,q1*2,none⟩)=dd:=⟨_,rfl⟩;obtain ⟨w7,hrun,hrow7,hc7⟩:=run_shift (z:=[.int .u64 0,.int .u64 0]) (zoc H5.out.1 (Chg.refl [] w5).drew (by simp)) (by rw [itVs_len,<- HL.out.2.1]) itVs_one rfl hpk dd (fun q=>by rw [<- hdd,if_neg (by omega),hq1]) (some ⟨g5,p*2,none⟩) rfl (c5 - q1) (c5 - p) 3;rw [show k - p=k+1 - q1 by omega] at hrun;have H7:=zh (zA hrow7 hc7);have HDD:=zh (zA hq1 hcp);clear hrow7 hc7 hq1;refine wp_region_held_drew (S:=fun _=>True) (by kernel_rfl) (by exact trivial) (fun hHeld=>?_);refine wV 0 ?_ (hy:=by intro w hSw;go_simp;first | done | with_reducible rfl);refine wV 1 ?_ (hy:=by intro w hSw;go_simp;first | done | with_reducible rfl);refine wV 2 ?_ (hy:=by intro w hSw;go_simp;first | done | with_reducible rfl);refine wV 4 ?_ (hy:=by intro w hSw;go_simp;first | done | with_reducible rfl);refine wV 5 ?_ (hy:=by intro w hSw;go_simp;first | done | with_reducible rfl);refine wV 6 ?_ (hy:=by intro w hSw;go_simp;first | done | with_reducible rfl);refine wV 3 ?_ (hy:=by intro w hSw;go_simp;first | done | with_reducible rfl);try simp only [Act.put,sA1,sA2,sA3]
      refine wE 7 (fun K hK=>?_)
      (go_simp)
      refine hK.out _ _ trivial (fun hHeld=>?_);clear hK K;try simp only [Act.put,sA1,sA2,sA3]
      refine wpAnyH_done (by kernel_rfl) ?_ _
      have hxg:xb≠g5:=fun e=>by
       rcases H5.out.2.2.2 with q3 | q3
       ·have h1:=HW.out.2.2.2.2 g5 (q3.symm.trans rfl);omega
       ·have h1:g5=(wd.alloc (.cells #[.int .u64 0,.int .u64 0] 104)).heap.size:=Option.some.inj q3
        have h2:=zhl HW.out.2.2.1;have h3:=H4.out.2.2.1.size;omega
      have hb4:=(H4.out.2.2.1.block xb (zhl HW.out.2.2.1) (by simp)).trans HW.out.2.2.1;have hc5:Chg (ownL (Value.slice _ k sc)) (wd.alloc (.cells #[.int .u64 0,.int .u64 0] 104)) w5:=(Chg.refl _ _).grown H5.out.2.1 (fun q hq => .inl (zml.2 hq));have hb5:=(hc5.block xb (zhl hb4) (fun hm=>by have:=HW.out.2.2.2.2 xb (zml.1 hm);omega)).trans hb4;have hb7:=(H7.out.2.block xb (show xb<w5.drew.heap.size from zhl hb5) (by simpa using hxg)).trans hb5;have y0:=zcb hb7 0;have y1:=zcb hb7 1;simp only [tA1,tA3,tA2] at y0 y1
      obtain ⟨cur,hcur,hcs⟩:∃ cur:Array Value,w7.heap[g5]?=some (.cells cur 104 (0,0))/\cur.size=c5*2:=by
       rcases H7.out.1.2 with ⟨q3,_⟩ | ⟨g6,c6,cur,q3,_,hg6,_,_,hs6,_⟩
       ·cases q3
       ·injection q3 with q4 _ q5
        injection q4 with q4;injection q4 with q4;subst q4;subst q5;exact ⟨cur,hg6,hs6⟩
      have f0:=zfb hcur (p*2);have f1:=zfb hcur (p*2+1);obtain ⟨v0,k0⟩:∃ v,w7.cell? ⟨g5,p*2,none⟩=some v:=⟨_,(zcb hcur (p*2)).trans (Array.getElem?_eq_getElem (by omega))⟩;obtain ⟨v1,k1⟩:∃ v,w7.cell? ⟨g5,p*2+1,none⟩=some v:=⟨_,(zcb hcur (p*2+1)).trans (Array.getElem?_eq_getElem (by omega))⟩;have i4:(p:Int)<(k:Int)+1:=by omega
      clear hxg hb4 hc5 hb5 hb7 e1 hA hB hrun;have HC7:Hid (Chg [] w w7):=zh ((((HW.out.2.1.trans H4.out.2.2.1).grown H5.out.2.1 (fun q hq => .inr (H4.out.1.lt q hq).1)).drew).then H7.out.2 (fun q hq => .inr (by rw [zms] at hq;rw [hq];exact H5.out.2.2.1)));go_wp2_with fail;go_roundg (n - (i+1))
      case measure=>have:=HGG.out;omega
      case rel =>
       refine ⟨i+1,rfl,hin,by go_num,zh ?_⟩;rw [HL.out.2.2.1,HRS.out,show (L.take p++x::L.drop p).length=k+1 by rw [List.length_append,List.length_take,List.length_cons,List.length_drop,<- HL.out.2.1];omega];exact ⟨store_two HL.out.2.1 hpk H7.out.1,(HC7.out.setCell (.inr H5.out.2.2.1) _).setCell (.inr H5.out.2.2.1) _⟩
  ·obtain rfl:i=n:=by omega
   have i1:¬ (i:Int)<(i:Int):=by omega
   have hall:risL (l.take i)=risL l:=by rw [HN.out,List.take_length]
   rw [hall] at HX;go_wp2_with fail;go_ret;exact ⟨_,rfl,HX.out⟩
def fSet (f:Nat->Option Nat) (d b:Nat):Nat->Option Nat:=fun i=>if i=d then some b else f i
noncomputable def grwP:List (Nat × Nat)->Bs->(Nat->Option Nat)->Bs × List (Nat × Nat)
 | [],B,f=>(B,[])
 | p::r,B,f=>match f p.2 with
  | some b=>((grwP r (B.up (b:Int)) f).1,(p.1,b)::(grwP r (B.up (b:Int)) f).2)
  | none=>((grwP r (B.put (blkF p.2)) (fSet f p.2 B.at_)).1,(p.1,B.at_)::(grwP r (B.put (blkF p.2)) (fSet f p.2 B.at_)).2)
def noHt:Ht:=fun _=>none
structure GI (N:Nat) (B:Bs) (f:Nat->Option Nat) (out:List (Nat × Nat)) (todo:Nat) (c:Int):Prop where
 gr:Gr N 1 B noHt (cv out)
 hM:N<=4096
 has:∀ d b,f d=some b->2<=b/\b<N/\1<=cv out b
 val:∀ p,p∈out->2<=p.2/\p.2<N
 len:out.length+todo<=200
 room:(todo:Int)+c<=B.room
 pos:0<=c
theorem blk_le (n:Nat):∀ i,i<128->blkF n i<=255:=fun i _=>blkF_le n i
theorem cv_le (l:List (Nat × Nat)) (b:Nat):cv l b<=l.length:=List.countP_le_length
section
variable {N:Nat} {B:Bs} {f:Nat->Option Nat} {out:List (Nat × Nat)} {todo:Nat} {c:Int}
theorem GI.up (g:GI N B f out (todo+1) c) {k d b:Nat} (h:f d=some b):GI N (B.up (b:Int)) f (out++[(k,b)]) todo c:=by
 obtain ⟨h2,hN,hc⟩:=g.has d b h;have hl:=g.gr.live_of h2 hN (by omega);have hn:=g.gr.now_le h2 hN hl;have hcl:=cv_le out b;have hlen:=g.len;have hM:=g.hM;obtain ⟨-,u2,-,-,-,u6,-⟩:=g.gr.up hN hl (by omega);refine ⟨u2.pendc fun x _ _=>?_,g.hM,fun d' b' h'=>?_,fun p hp=>?_,by simp;omega,by rw [u6];have:=g.room;omega,g.pos⟩
 ·rw [cv_app,cv_one]
  by_cases e:x=b
  ·rw [if_pos e,if_pos e.symm]
  ·rw [if_neg e,if_neg (fun q=>e q.symm)];rfl
 ·have:=g.has d' b' h'
  rw [cv_app];omega
 ·rcases List.mem_append.1 hp with hp | hp
  ·exact g.val p hp
  ·rw [zms] at hp;subst hp;exact ⟨h2,hN⟩
theorem GI.new (g:GI N B f out (todo+1) c) {k d:Nat} (h:f d=none):0<B.room/\2<=B.at_/\B.at_<N/\GI N (B.put (blkF d)) (fSet f d B.at_) (out++[(k,B.at_)]) todo c:=by
 have hr:0<B.room:=by have:=g.room;have:=g.pos;omega
 obtain ⟨d1,d2,d3,d4,d5,d6,d7,d8,d9,d10⟩:=g.gr.data hr (blk_le d);have hlen:=g.len;refine ⟨hr,d4,d5,d1.pendc fun x _ _=>?_,g.hM,fun d' b' h'=>?_,fun p hp=>?_,by simp;omega,by rw [d8];have:=g.room;omega,g.pos⟩
 ·rw [cv_app,cv_one]
  by_cases e:x=B.at_
  ·rw [if_pos e,if_pos e.symm,e,d6]
  ·rw [if_neg e,if_neg (fun q=>e q.symm)];rfl
 ·unfold fSet at h'
  rw [cv_app,cv_one];by_cases e:d'=d
  ·rw [if_pos e] at h'
   obtain rfl:=Option.some.inj h';rw [if_pos rfl];exact ⟨d4,d5,by omega⟩
  ·rw [if_neg e] at h'
   have:=g.has d' b' h';omega
 ·rcases List.mem_append.1 hp with hp | hp
  ·exact g.val p hp
  ·rw [zms] at hp;subst hp;exact ⟨d4,d5⟩
end
theorem grw_all {N:Nat} {c:Int} : ∀ (r:List (Nat × Nat)) (B:Bs) (f:Nat->Option Nat) (out:List (Nat × Nat)),GI N B f out r.length c ->
  ∃ f',GI N (grwP r B f).1 f' (out++(grwP r B f).2) 0 c/\(grwP r B f).2.map Prod.fst=r.map Prod.fst
 | [],B,f,out,g=>⟨f,by unfold grwP;rw [List.append_nil];exact g,rfl⟩
 | p::r,B,f,out,g=>by
  unfold grwP
  cases h:f p.2 with
  | some b =>
   obtain ⟨f',g',e⟩:=grw_all r (B.up (b:Int)) f (out++[(p.1,b)]) (g.up h);refine ⟨f',?_,by simp only [List.map_cons];rw [e]⟩;rw [List.append_assoc] at g';exact g'
  | none =>
   obtain ⟨f',g',e⟩:=grw_all r (B.put (blkF p.2)) (fSet f p.2 B.at_) (out++[(p.1,B.at_)]) (g.new h).2.2.2;refine ⟨f',?_,by simp only [List.map_cons];rw [e]⟩;rw [List.append_assoc] at g';exact g'
theorem grw_step {p:Nat × Nat} {r:List (Nat × Nat)} {B:Bs} {f:Nat->Option Nat} :
  (∀ b,f p.2=some b->grwP (p::r) B f=((grwP r (B.up (b:Int)) f).1,(p.1,b)::(grwP r (B.up (b:Int)) f).2)) /\
  (f p.2=none->grwP (p::r) B f=((grwP r (B.put (blkF p.2)) (fSet f p.2 B.at_)).1,(p.1,B.at_)::(grwP r (B.put (blkF p.2)) (fSet f p.2 B.at_)).2)) :=
 ⟨fun b h=>by conv=>lhs;unfold grwP;rw [h],fun h=>by conv=>lhs;unfold grwP;rw [h]⟩
theorem gr_fmt {N:Nat} (h:16<=N/\N<=4096):Gr N 1 (Bs.fmt N) noHt (fun _=>0):=by
 obtain ⟨g1,g2,g3⟩:=good_fmt h;refine ⟨g1,fun n c hn=>(by cases hn),fun b _ _=>?_⟩;rw [g2,if_neg (fun h=>by cases h),Nat.zero_add];exact sumTo_zero fun n _=>rfl
structure GwIs (N:Nat) (raw items:List (Nat × Nat)) (B:Bs) (x:Nat):Prop where
 asc:Asc items
 u:It64 items
 keys:items.map Prod.fst=(risL raw).map Prod.fst
 len:items.length<=raw.length
 nil:items=[]->x=0/\Gr N 1 B noHt (fun _=>0)
 cons:items≠[]->∃ ht c,Built N 1 noHt (fun _=>0) items B x ht c
 val:∀ p,p∈items->2<=p.2/\p.2<N
 room:(Bs.fmt N).room - 2*raw.length<=B.room
theorem asc_keys {a b:List (Nat × Nat)} (h:a.map Prod.fst=b.map Prod.fst) (hb:Asc b):Asc a:=by
 unfold Asc at hb ⊢;have h1:=List.pairwise_map.2 hb;rw [<- h] at h1;exact List.pairwise_map.1 h1
noncomputable def grownP (N:Nat) (raw:List (Nat × Nat)):Bs × List (Nat × Nat):=grwP (risL raw) (Bs.fmt N) (fun _=>none)
theorem gi_start {N:Nat} (hN:16<=N/\N<=4096) {raw:List (Nat × Nat)} (hu:It64 raw) (h200:raw.length<=200) (hr:2*(raw.length:Int)+2<=(Bs.fmt N).room) :
  GI N (Bs.fmt N) (fun _=>none) [] (risL raw).length ((Bs.fmt N).room - raw.length):=by
 have hl:=(ris_all hu).2.2.1;exact ⟨(gr_fmt hN).pendc fun b _ _=>rfl,hN.2,fun d b h=>(by cases h),fun p hp=>(by cases hp),by simp;omega,by omega,by omega⟩
theorem gw_is {N:Nat} (hN:16<=N/\N<=4096) {raw:List (Nat × Nat)} (hu:It64 raw) (h200:raw.length<=200) (hr:2*(raw.length:Int)+2<=(Bs.fmt N).room) :
  Asc (grownP N raw).2/\It64 (grownP N raw).2/\(grownP N raw).2.length=(risL raw).length/\Good N 1 (grownP N raw).1/\((grownP N raw).2.length:Int)+1<=2*(grownP N raw).1.room /\
  ∀ B x,((grownP N raw).2≠[]->(B,x)=bldP 8 0 (grownP N raw).2 (grownP N raw).1)->((grownP N raw).2=[]->B=(grownP N raw).1/\x=0)->GwIs N raw (grownP N raw).2 B x:=by
 obtain ⟨r1,r2,r3,r4,r5⟩:=ris_all hu;obtain ⟨f',g,hk⟩:=grw_all (risL raw) (Bs.fmt N) (fun _=>none) [] (gi_start hN hu h200 hr);rw [List.nil_append] at g
 change GI N (grownP N raw).1 f' (grownP N raw).2 0 _ at g
 change (grownP N raw).2.map Prod.fst=_ at hk
 have hlen:(grownP N raw).2.length=(risL raw).length:=by
  have:=congrArg List.length hk;simpa using this
 have ha:=asc_keys hk r1
 have h64:It64 (grownP N raw).2:=fun p hp=>by
  have h1:=g.val p hp;have hM:=g.hM;refine ⟨?_,by omega⟩;have h2:p.1∈(grownP N raw).2.map Prod.fst:=List.mem_map_of_mem hp;rw [hk] at h2;obtain ⟨q,hq,e⟩:=List.mem_map.1 h2;rw [<- e];exact (r2 q hq).1
 have hroom:=g.room;refine ⟨ha,h64,hlen,g.gr.good,by omega,fun B x h1 h0=>?_⟩;by_cases he:(grownP N raw).2=[]
 ·obtain ⟨rfl,rfl⟩:=h0 he
  refine ⟨ha,h64,hk,by omega,fun _=>⟨rfl,?_⟩,fun q=>absurd he q,g.val,by omega⟩;have:=g.gr;rw [he] at this;exact this.pendc fun b _ _=>rfl
 ·have hb:=h1 he
  have hpos:1<=(grownP N raw).2.length:=by
   cases hq:(grownP N raw).2 with
   | nil=>exact absurd hq he
   | cons a b=>simp
  have I:BI N 1 0 (grownP N raw).2 (grownP N raw).2 (grownP N raw).1:=⟨g.gr.good,by omega,hpos,.inl ⟨rfl,rfl,ha,h64⟩⟩
  obtain ⟨ht,c,t,hrm⟩:=bld_gr (p:=fun _=>0) hN.2 (items:=(grownP N raw).2) (m0:=(grownP N raw).2.length) (by omega) 8 0 (grownP N raw).2 (grownP N raw).1 noHt rfl I (BH.start hpos) (g.gr.pendc fun b _ _=>by show 0+cv _ b=_;omega) (fun q hq=>by
   rw [if_pos rfl];exact .inr ⟨(g.val q hq).1,(g.val q hq).2,rfl⟩)
  rw [<- hb] at t hrm;exact ⟨ha,h64,hk,by omega,fun q=>absurd q he,fun _=>⟨ht,c,t⟩,g.val,by show _<=B.room;have:(grownP N raw).1.room - (grownP N raw).2.length<=B.room:=hrm;omega⟩
def pendL (l:List Nat):Nat->Nat:=fun b=>l.count b
theorem pendL_app (l:List Nat) (y:Nat):mor (pendL l) y=pendL (l++[y]):=by
 funext b
 unfold mor pendL;rw [List.count_append,List.count_singleton];by_cases e:b=y
 ·subst e;simp
 ·have e':¬ y=b:=fun q=>e q.symm
  simp [e,e']
theorem pendL_le (l:List Nat) (b:Nat):pendL l b<=l.length:=List.count_le_length
theorem pendL_pos {l:List Nat} {b:Nat} (h:b∈l):1<=pendL l b:=List.count_pos_iff.2 h
end Go.Proofs.YtkhcaclndepgbaaGreat
