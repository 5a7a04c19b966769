/- A pick and its tally together: one pred -/
import Derived.Test.YtegpiomkmfhadaaGreatZo07
import Derived.Lib.SlKeysI
import Derived.Test.YtegpiomkmfhadaaGreatIt
import Derived.Lib.AppendZerosOnto
import Derived.Lib.Walk
set_option linter.all false
set_option maxRecDepth 100000
set_option maxHeartbeats 20000000
namespace Go.Proofs.YtegpiomkmfhadaaGreat
open Go.RowKit
variable {T:zW} {K:Pk} {w:World} {bk b n i k:Nat} {f:Nat->Bool}
structure PT (w:World) (p t bc bk:Nat) (K:Pk) (T:zW):Prop where
 hp:Yb w p t K
 ht:zJ w t bc bk T
 f:K.first<=K.next
 n:K.next<=T.n
 a:K.asked<=4096
theorem QF (hf:K.first<=K.next) (hn:K.next<=T.n):(Z2 T K).first<=(Z2 T K).next/\(Z2 T K).next<=T.n/\(Z2 T K).asked=K.asked/\(Z2 T K).first=K.first:=by
 unfold Z2
 cases hr:Ye T K with
 | none=>exact ⟨hf,hn,rfl,rfl⟩
 | some b =>
  obtain ⟨h1,h2,_⟩:=Qa hf hn hr;by_cases e:b+1=T.n
  ·simp [e];omega
  ·simp [e];omega
theorem mB (T:zW) (K:Pk):(Qo T K).n=T.n:=by
 unfold Qo;cases Ye T K <;> rfl
theorem AT (T:zW) (b:Int):(up T b).n=T.n:=by unfold up;split <;> rfl
theorem kR (T:zW) (b:Int):(down T b).n=T.n:=by unfold down;split <;> rfl
section
variable {w:World} {p t bc bk:Nat} {K:Pk} {T:zW} (h:PT w p t bc bk K T)
include h
theorem PT.chg {w':World} {L:List Nat} (c:zv L w w') (h0:p∉L:=by simp) (h1:t∉L:=by simp) (h2:bc∉L:=by simp) (h3:bk∉L:=by simp):PT w' p t bc bk K T :=
 ⟨h.hp.chg c h0,h.ht.chg c h1 h2 h3,h.f,h.n,h.a⟩
theorem PT.room:zC 52 #[zP p] w fun e w'=>e = .returned (.int .i64 (xO T K.first))/\w=w' :=
 uL h.hp h.ht (qh h.f h.n)
theorem PT.take:zC 57 #[zP p] w fun e w'=>e = .returned (.tuple #[.int .i64 (Va T K),.int .i64 (Jp T K)])/\PT w' p t bc bk (Z2 T K) (Qo T K)/\zv [p,t,bc,bk] w w':=by
 refine (uO h.hp h.ht h.f h.n).mono fun e w' ⟨he,EL,B6,hc⟩=>⟨he,?_,hc⟩;obtain ⟨b1,b2,b3,_⟩:=QF h.f h.n;exact ⟨EL,B6,b1,by rw [mB];exact b2,by rw [b3];exact h.a⟩
theorem PT.up (b:Int):zC 66 #[zP t,.int .i64 b] w fun e w'=>e = .returned (.int .i64 (upE T b))/\PT w' p t bc bk K (up T b)/\zv [p,t,bc,bk] w w' :=
 (wB h.ht b).mono fun _ _ ⟨he,B6,hc⟩=>⟨he,⟨h.hp.chg hc (Vd h.hp h.ht),B6,h.f,by rw [AT];exact h.n,h.a⟩,hc.mo⟩
theorem PT.down (b:Int):zC 74 #[zP t,.int .i64 b] w fun e w'=>e = .returned (.int .i64 (downE T b))/\PT w' p t bc bk K (down T b)/\zv [p,t,bc,bk] w w' :=
 (uI h.ht b).mono fun _ _ ⟨he,B6,hc⟩=>⟨he,⟨h.hp.chg hc (Vd h.hp h.ht),B6,h.f,by rw [kR];exact h.n,h.a⟩,hc.mo⟩
end
theorem mC (n:Nat) (w:World) (h1:1<=n) (h2:n<=4096) :
  zC 86 #[.int .i64 (n:Int)] w fun e w'=>∃ t bc bk,e = .returned (.tuple #[zP t,.int .i64 0]) /\
   zJ w' t bc bk (zW.new n)/\zv [] w w'/\w.heap.size<=t/\w.heap.size<=bc/\w.heap.size<=bk :=
 (uJ n w h1 h2).mono fun _ _ ⟨he,ht,hc⟩=>⟨_,_,_,he,ht,hc,zo,zo,zo⟩
theorem uP {t bc m:Nat} (h:zJ w t bc bk (zW.new m)) (n:Nat) (hn:n<=m) :
  zC 87 #[zP t,.int .i64 (n:Int)] w fun e w'=>∃ p,e = .returned (.tuple #[zP p,.int .i64 0]) /\
   PT w' p t bc bk ⟨n,n,0⟩ (zW.new m)/\zv [] w w'/\w.heap.size<=p :=
 (mA h n hn).mono fun _ _ ⟨he,hp,hc⟩=>⟨_,he,⟨hp,h.chg hc,xd _,hn,yg _⟩,hc,xd _⟩
theorem iw {p:Nat->Bool} {a:Nat} : ∀ {b:Nat},a<=b->(∀ i,a<=i->i<b->p i=false)->cnt b p=cnt a p
  | 0, h, _ => by obtain rfl : a = 0 := by omega
                  rfl
  | b+1,h,hp=>by
    by_cases e:a=b+1
    · subst e;rfl
    · rw [qO,hp b zo zo,iw (b:=b) zo (fun i h1 h2=>hp i h1 zo)]
      rfl
theorem O6 (hf:K.first<=K.next) (hn:K.next<=T.n) (h:Ye T K=none):∀ i,K.first<=i->i<T.n->T.free i=false:=by
 unfold Ye at h
 split at h
 ·cases h
 ·rename_i h0
  intro i h1 h2;by_cases e:K.next<=i
  ·exact Yl h0 i e zo
  ·exact Yl h i h1 zo
theorem dQ (hf:K.first<=K.next) (hn:K.next<=T.n) (h:Ye T K=none):xO T K.first=0:=by
 unfold xO zW.frees;rw [iw (a:=K.first) (b:=T.n) zo (O6 hf hn h)];omega
theorem dR {f:Nat} (hf:f<=b) (hb:b<T.n) (h:T.free b=true):xO (T.set b 1) f=xO T f - 1:=by
 have h1:=Q6 T 1 hb;have h2:(T.set b 1).free b=false:=by simp [zW.free,zW.set]
 rw [h,h2] at h1
 have h3:cnt f (T.set b 1).free=cnt f T.free:=zZ fun i hi=>by
  have:i≠b:=zo;simp [zW.free,zW.set,this]
 unfold xO;rw [h3];simp at h1;omega
def XN (n:Nat) (f:Nat->Bool):Array Value:=Array.ofFn (n:=n) fun i => .bool (f i)
theorem Q7 (h:i<n):(XN n f)[i]?=some (.bool (f i)):=by
 simp [XN,h]
theorem og {v:Bool} (h:i<n):(XN n f).setIfInBounds i (.bool v)=XN n (fun j=>if j=i then v else f j):=by
 apply yM;intro j;by_cases hj:j<n
 ·rw [Q7 hj,yP]
  by_cases e:j=i
  ·subst e;simp [XN,h]
  ·rw [if_neg (fun q=>e q.symm),Q7 hj];simp [e]
 ·simp [XN,hj]
theorem aO (n:Nat):zO n (.bool false)=XN n (fun _=>false):=by
 apply Array.ext
 ·simp [zO,XN]
 ·intro i h1 h2
  simp [zO,XN]
def pg (n:Nat):Nat:=(n+60) / 61
def qu (n:Nat):Nat:=pg n+pg (pg n)
def Jr (p:Nat->Bool) (n i:Nat):Bool:=(List.range 61).any fun j=>decide (61*i+j<n)&&p (61*i+j)
theorem Q8 {p:Nat->Bool} : Jr p n i=true↔∃ b,61*i<=b/\b<61*i+61/\b<n/\p b=true:=by
 unfold Jr;rw [List.any_eq_true];constructor
 ·rintro ⟨j,hj,h⟩
  simp only [ye,Bool.and_eq_true,decide_eq_true_eq] at hj h;exact ⟨61*i+j,zo,zo,h.1,h.2⟩
 ·rintro ⟨b,h1,h2,h3,h4⟩
  refine ⟨b - 61*i,by simp;omega,?_⟩;rw [show 61*i+(b - 61*i)=b by omega];simp [h3,h4]
structure PS where
 T:zW
 K:Pk
 n:Nat->Nat
 a:Nat->Nat->Nat
 p:Nat->Nat->Bool
def PS.want (S:PS) (k i:Nat):Bool := !S.p k i&&(S.a k i==0||(if k=1 then Jr (S.p 0) (S.n 0) i else Jr S.T.changed S.T.n i))
def XO {α:Type} (f:Nat->Nat->α) (k i:Nat) (v:α):Nat->Nat->α:=fun k' i'=>if k'=k/\i'=i then v else f k' i'
theorem Yw {α:Type} (f:Nat->Nat->α) (k i:Nat) (v:α):XO f k i v k i=v:=by simp [XO]
theorem xS {α:Type} (f:Nat->Nat->α) {k' i':Nat} (v:α) (h:¬ (k'=k/\i'=i)):XO f k i v k' i'=f k' i':=by unfold XO;rw [if_neg h]
def PS.T1 (S:PS) (k i:Nat):zW:=if S.a k i=0 then S.T else down S.T (S.a k i:Int)
def PS.new (S:PS) (k i:Nat):Nat:=(Ye (S.T1 k i) S.K).getD 0
def PS.step (S:PS) (k i:Nat):PS:=⟨Qo (S.T1 k i) S.K,Z2 (S.T1 k i) S.K,S.n,XO S.a k i (S.new k i),XO S.p k i true⟩
def PS.next (S:PS):Option (Nat × Nat) :=
 match Jo (S.want 0) 0 (S.n 0) with
 | some i=>some (0,i)
 | none=>match Jo (S.want 1) 0 (S.n 1) with | some i=>some (1,i) | none=>none
def PS.run:Nat->PS->PS
 | 0,S=>S
 | f+1,S=>match S.next with | some (k,i)=>PS.run f (S.step k i) | none=>S
def PS.left (S:PS):Nat:=cnt (S.n 0) (fun i => !S.p 0 i)+cnt (S.n 1) (fun i => !S.p 1 i)
theorem PS.next_some {S:PS} (h:S.next=some (k,i)):k<2/\i<S.n k/\S.want k i=true:=by
 unfold PS.next at h
 cases h0:Jo (S.want 0) 0 (S.n 0) with
 | some j =>
  rw [h0] at h;simp only [Option.some.injEq,Prod.mk.injEq] at h;obtain ⟨rfl,rfl⟩:=h;have:=Yk h0;exact ⟨zo,zo,this.2.2.1⟩
 | none =>
  rw [h0] at h;simp only at h
  cases h1:Jo (S.want 1) 0 (S.n 1) with
  | some j =>
   rw [h1] at h;simp only [Option.some.injEq,Prod.mk.injEq] at h;obtain ⟨rfl,rfl⟩:=h;have:=Yk h1;exact ⟨zo,zo,this.2.2.1⟩
  | none=>rw [h1] at h;cases h
theorem PS.next_none {S:PS} (h:S.next=none):∀ k i,k<2->i<S.n k->S.want k i=false:=by
 unfold PS.next at h
 cases h0:Jo (S.want 0) 0 (S.n 0) with
 | some j=>rw [h0] at h;cases h
 | none =>
  rw [h0] at h;simp only at h
  cases h1:Jo (S.want 1) 0 (S.n 1) with
  | some j=>rw [h1] at h;cases h
  | none =>
   intro k i hk hi;have Cy:k=0∨k=1:=zo;rcases Cy with rfl | rfl
   ·exact Yl h0 i zo zo
   ·exact Yl h1 i zo zo
theorem kT {S:PS} (h:S.want k i=true):S.p k i=false:=by
 unfold PS.want at h;simp only [Bool.and_eq_true,Bool.not_eq_true'] at h;exact h.1
theorem PS.left_step {S:PS} (hk:k<2) (hi:i<S.n k) (h:S.want k i=true):(S.step k i).left+1=S.left:=by
 have hp:=kT h;have Cy:k=0∨k=1:=zo
 unfold PS.left PS.step
 dsimp only
 rcases Cy with rfl | rfl
 ·have e1:cnt (S.n 1) (fun j => !XO S.p 0 i true 1 j)=cnt (S.n 1) (fun j => !S.p 1 j):=zZ fun j _=>by rw [xS _ _ zo]
  have e0:=xN (p:=fun j => !S.p 0 j) (q:=fun j => !XO S.p 0 i true 0 j) hi (fun j _ hj=>by rw [xS _ _ zo]);simp only [Yw,hp,Bool.not_true,Bool.not_false,if_true] at e0;simp at e0;omega
 ·have e1:cnt (S.n 0) (fun j => !XO S.p 1 i true 0 j)=cnt (S.n 0) (fun j => !S.p 0 j):=zZ fun j _=>by rw [xS _ _ zo]
  have e0:=xN (p:=fun j => !S.p 1 j) (q:=fun j => !XO S.p 1 i true 1 j) hi (fun j _ hj=>by rw [xS _ _ zo]);simp only [Yw,hp,Bool.not_true,Bool.not_false,if_true] at e0;simp at e0;omega
theorem PS.left_pos {S:PS} (hk:k<2) (hi:i<S.n k) (h:S.want k i=true):0<S.left:=zq (PS.left_step hk hi h)
theorem PS.run_none {S:PS} (h:S.next=none):∀ f,S.run f=S
 | 0=>rfl
 | f+1=>by unfold PS.run;rw [h]
theorem PS.run_some {S:PS} (h:S.next=some (k,i)):S.run S.left=(S.step k i).run (S.step k i).left:=by
 have ⟨hk,hi,hw⟩:=PS.next_some h;rw [<- PS.left_step hk hi hw]
 show PS.run (_+1) S=_
 unfold PS.run;rw [h];cases (S.step k i).left <;> rfl
def PS.fin (S:PS):PS:=S.run S.left
theorem PS.fin_none {S:PS} (h:S.next=none):S.fin=S:=PS.run_none h _
theorem PS.fin_some {S:PS} (h:S.next=some (k,i)):S.fin=(S.step k i).fin:=PS.run_some h
theorem PS.fin_ind {Q:PS->Prop} (hs:∀ S k i,Q S->k<2->i<S.n k->S.want k i=true->Q (S.step k i)):∀ (m:Nat) (S:PS),S.left<=m->Q S->Q S.fin/\S.fin.next=none:=by
 intro m
 induction m with
 | zero =>
  intro S hl hq
  cases h:S.next with
  | none=>rw [PS.fin_none h];exact ⟨hq,h⟩
  | some ki=>have ⟨a,b,c⟩:=PS.next_some h;have:=PS.left_pos a b c;omega
 | succ m ih =>
  intro S hl hq
  cases h:S.next with
  | none=>rw [PS.fin_none h];exact ⟨hq,h⟩
  | some ki =>
   obtain ⟨k,i⟩:=ki;have ⟨a,b,c⟩:=PS.next_some h;have:=PS.left_step a b c;rw [PS.fin_some h];exact ih _ zo (hs S k i hq a b c)
structure JL (T:zW) (n:zF) (a:Nat->Nat->Nat):Prop where
 n0:n 0=pg T.n
 n1:n 1=pg (pg T.n)
 has:∀ k i,k<2->i<n k->a k i≠0->a k i<T.n/\T.now (a k i)≠0
 apart:∀ k i k' i',k<2->i<n k->k'<2->i'<n k'->a k i≠0->a k i=a k' i'->k=k'/\i=i'
theorem aP (hb:b<T.n) (h:T.now b≠0):down T (b:Int)=T.set b (T.now b - 1):=by
 have e:XA T (b:Int)=true:=(x7 T b).2 zo;unfold down downE;simp [e,h]
theorem Xp (T:zW) (b v i:Nat):(T.set b v).now i=if i=b then v else T.now i:=rfl
theorem XP {S:PS} (ht:Ye (S.T1 k i) S.K=some b):(S.step k i).T=(S.T1 k i).set b 1/\S.new k i=b:=by
 unfold PS.step PS.new Qo;rw [ht];exact ⟨rfl,rfl⟩
theorem O7 (S:PS) (k i:Nat):(S.T1 k i).n=S.T.n:=by
 unfold PS.T1;split
 ·rfl
 ·exact kR _ _
theorem Ad {S:PS} (h:JL S.T S.n S.a) (hk:k<2) (hi:i<S.n k) (x:Nat):(S.T1 k i).now x=if x=S.a k i/\S.a k i≠0 then S.T.now x - 1 else S.T.now x:=by
 unfold PS.T1;by_cases h0:S.a k i=0
 ·rw [if_pos h0,if_neg (by rintro ⟨_,h⟩;exact h h0)]
 ·have ⟨h1,h2⟩:=h.has k i hk hi h0
  rw [if_neg h0,aP h1 h2,Xp];by_cases hx:x=S.a k i
  ·rw [if_pos hx,if_pos ⟨hx,h0⟩,hx]
  ·rw [if_neg hx,if_neg (fun h=>hx h.1)]
theorem JM (h:1<=n):1<=pg n:=by unfold pg;omega
theorem Js : pg n<=n:=by unfold pg;omega
open Go.RowKit Go.Maps
def YB (T:zW):List Nat:=(List.range T.n).filter T.changed
theorem QG : b∈YB T↔b<T.n/\T.changed b=true:=by
 simp [YB]
theorem Zt (T:zW):(YB T).Pairwise (· < ·):=List.Pairwise.filter _ List.pairwise_lt_range
theorem oh {P:Program} {kt et:Nat} {D:DataW Unit} (BT:w.ownsMap P kt (plainElem P et) bk (Maps.size D) D) (Dr:P.underlying kt=some (.int .i64))
  (h3:∀ l,Maps.has D l=true->∃ k,k<T.n/\l = .int .i64 (k:Int)/\(T.keptAt k).isSome=true)
  (h4:∀ k v,k<T.n->T.keptAt k=some v->Maps.has D (.int .i64 (k:Int))=true/\∀ z,D.atKey (.int .i64 (k:Int)) z = .lit (.int .u16 (v:Int))) :
  ((YB T).map (fun b:Nat=>(b:Int))).Perm (intKeys D):=by
 obtain ⟨es,rfl,hp,EC⟩:=BT.entries (int_keyed Dr);refine perm_intKeys hp ?_ ?_ ?_
 ·intro p hpm
  have hh:Maps.has (.map es) p.1=true:=by
   rw [has_eq,List.any_eq_true];exact ⟨p,hpm,WideAt.sameKey_self (EC p hpm)⟩
  obtain ⟨k,_,hl,_⟩:=h3 _ hh;exact ⟨_,hl⟩
 ·rw [List.Nodup,List.pairwise_map]
  exact (Zt T).imp (fun {a b} h e=>zo)
 ·intro x
  constructor
  ·intro hx
   obtain ⟨b,hb,rfl⟩:=yw.1 hx;obtain ⟨h1,h2⟩:=QG.1 hb
   have:T.keptAt b=some (T.kept b):=by
    simp [zW.changed] at h2;simp [zW.keptAt,h2]
   exact (h4 b _ h1 this).1
  ·intro hx
   obtain ⟨k,hk,hl,hs⟩:=h3 _ hx;injection hl with _ hl;rw [hl];refine yw.2 ⟨k,QG.2 ⟨hk,?_⟩,rfl⟩;unfold zW.keptAt at hs;unfold zW.changed;by_cases e:T.now k=T.kept k
   ·rw [if_pos e] at hs;cases hs
   ·simp [e]
theorem iy (T:zW) {ss:List Int} (h:ss.Perm ((YB T).map (fun b:Nat=>(b:Int)))):ss.mergeSort (fun x y=>decide (x<=y))=(YB T).map (fun b:Nat=>(b:Int)):=by
 have e:=mergeSort_of_perm_i h
 have s:((YB T).map (fun b:Nat=>(b:Int))).mergeSort leI=(YB T).map (fun b:Nat=>(b:Int)):=by
  refine List.mergeSort_of_pairwise ?_;rw [List.pairwise_map];exact (Zt T).imp (fun {a b} h=>by simp [leI];omega)
 exact e.trans s
end Go.Proofs.YtegpiomkmfhadaaGreat
namespace Go.Proofs.YtegpiomkmfhadaaGreat
open Go.RowKit Go.Maps Go.Sort Go.Shelf
theorem rO (m:Nat):AnyZI.SortsIn Tryz.prog Tryz.sortedA_ren Fence.wide m :=
  ⟨fun blk off cap ss W hH hblk Dg=>callsIn_wide.2 (AnyM.slices_Sort_int Tryz.sortA blk off cap ss W hH hblk Dg),
   fun p cap W=>callsIn_wide.2 (AnyM.slices_Sort_int_none Tryz.sortA p cap W)⟩
def xC (l:List Nat):List Value:=l.map (fun b:Nat => .int .i64 (b:Int))
theorem aQ {w:World} {t bc bk:Nat} {T:zW} (h:zJ w t bc bk T) :
  Calls Tryz.prog 192 #[.pointer (some ⟨t,0,none⟩)] w fun e w'=>∃ v,e = .returned v /\
   w'.ownsRow w.heap.size 3 1 v (YB T).length (xC (YB T))/\Below w.heap.size w w':=by
 obtain ⟨D,BT,h2,h3,h4⟩:=h.map;have IB:=oh BT Tryz.underlying3 h3 h4;have Dg:Maps.size D<=4096:=by rw [h2];exact qh (Yj _ _) h.n2
 have N8:Maps.size D<=maxLen:=by unfold maxLen;omega
 have Em:Maps.size D*8<=140737488355328:=by omega
 have FE:=BT.lt;have c1:=h.c1;have HP:=zh IB;clear IB h3 h4 h2;refine (callsIn_wide (n:=6)).1 ?_
 have EM:SeqGives Fence.wide 2 Tryz.prog 233 #[.pointer (some ⟨w.heap.size,0,none⟩)] encZ (fun ss=>ss.Perm (intKeys D)) (Maps.size D) (w.alloc (.cells #[.map (some bk)] 215)) :=
  AnyZI.keys_gives (ρ:=Tryz.keysA_ren) { Tryz.keysA with } Fence.wide _ trivial rfl (by omega) w.heap.size bk (Maps.size D) D _ (by simp) (by simp) (by
   obtain ⟨es,Dn,hb,Ft,hs,hD⟩:=BT;exact ⟨es,Dn,(Below.heap_alloc _ _ bk FE).trans hb,Ft,hs,hD⟩)
 have cK:∀ mb W,CallsIn Fence.wide 5 Tryz.prog 226 #[.map mb] W fun e w'=>e = .returned (.func (.func 233) #[] #[.pointer (some ⟨W.heap.size,0,none⟩)])/\w'=W.alloc (.cells #[.map mb] 215):=fun mb W=>AnyZI.keys_in Tryz.keysA Fence.wide 5 trivial rfl mb W;have cS:=AnyZI.sorted_in Tryz.sortedA Fence.wide 5 trivial trivial trivial trivial rfl (by omega) (rO _) (enters_of Tryz.func71 (by kernel_rfl) rfl) 233 #[.pointer (some ⟨w.heap.size,0,none⟩)] trivial (enters_of Tryz.func233 (by kernel_rfl) rfl) _ _ N8 Em _ EM
 change CallsIn _ _ Tryz.prog 36 _ _ _ at cS
 have hfK:Fence.wide.fn 226:=trivial;have hfS:Fence.wide.fn 36:=trivial;refine callsIn_of_wp Tryz.func192 rfl trivial ?_ rfl;simp only [Tryz.ntmps192,List.size_toArray,yu,List.length_nil,Nat.reduceAdd,Nat.reduceSub,Array.replicate_succ,Array.replicate_zero,List.push_toArray,yE,yy,yK]
 gi_wp2_with (first
  | (gi_at_call 226;refine (cK _ _).mono ?_;rintro e w' ⟨rfl,rfl⟩)
  | (gi_at_call 36;refine cS.mono ?_;rintro e w' ⟨v,ss,rfl,hS,Cc,Ep,hb⟩))
 go_ret;have hs:=iy T (ss:=ss) (hS.trans HP.o.symm)
 have hl:ss.length=(YB T).length:=by
  have:=(hS.trans HP.o.symm).length_eq;simpa using this
 have hm:(ss.mergeSort (fun x y=>decide (x<=y))).map encZ=xC (YB T):=by
  rw [hs];simp [xC,encZ]
 have EG:=ownsRow_base_a (base':=w.heap.size) Cc (by simp);rw [hl] at EG;refine ⟨v,rfl,?_,((Below.refl _ w).alloc (xd _) _).trans (hb.mono (by simp))⟩;rw [<- hm];exact EG
end Go.Proofs.YtegpiomkmfhadaaGreat
namespace Go.Proofs.YtegpiomkmfhadaaGreat
open Go.RowKit
variable {w w':World} {base T n k b o cap g c:Nat} {v:Value} {l L:List Nat} {xs:List Value} {p:Nat->Bool}
def Y9 (w:World) (v:Value) (l:List Nat):Prop :=
 (v = .slice none 0 0/\l=[])∨∃ g cap,v = zS g l.length cap/\l.length<=cap/\cap<=maxLen/\g<w.heap.size/\∀ i,i<l.length->w.cell? ⟨g,i,none⟩=some (.int .i64 ((l.getD i 0:Nat):Int))
theorem Y9.of_own (h:w.ownsRow base T 1 v l.length (xC l)):Y9 w v l:=by
 rcases h.2 with ⟨rfl,hl⟩ | ⟨g,cap,BV,rfl,hb,hg,h1,h2,h3,h4⟩
 ·exact .inl ⟨rfl,List.eq_nil_of_length_eq_zero hl⟩
 ·refine .inr ⟨g,cap,rfl,h1,h2,zz hg,fun i hi=>?_⟩
  rw [zM hg];have:(BV.toList.take (l.length*1))[i]?=(xC l)[i]?:=by rw [h4]
  rw [List.getElem?_take,if_pos zo] at this;rw [<- yB,this];simp [xC,yT,zgD,yt hi]
theorem Y9.len (h:Y9 w v l):∃ a cap,v = .slice a l.length cap:=by
 rcases h with ⟨rfl,rfl⟩ | ⟨g,cap,rfl,_⟩
 ·exact ⟨none,0,rfl⟩
 ·exact ⟨_,_,rfl⟩
theorem Y9.chg (h:Y9 w v l) (c:zv L w w') (hv:∀ g,v.ownBlock=some g->g∉L:=by simp):Y9 w' v l:=by
 rcases h with h | ⟨g,cap,rfl,h1,h2,h3,h4⟩
 ·exact .inl h
 ·exact .inr ⟨g,cap,rfl,h1,h2,qe h3 c.size,fun i hi=>(c.cell (p:=⟨g,i,none⟩) h3 (hv g rfl)).trans (h4 i hi)⟩
theorem Qb (h:w.ownsRow base T 1 v n xs):∀ g,v.ownBlock=some g->base<=g/\g<w.heap.size:=h.lt
theorem zJ.congr {w:World} {t bc bk:Nat} {T T':zW} (h:zJ w t bc bk T) (hn:T'.n=T.n) (h1:∀ b,b<T.n->T'.now b=T.now b) (h2:∀ b,b<T.n->T'.kept b=T.kept b):zJ w t bc bk T':=by
 have ef:T'.frees=T.frees:=by
  unfold zW.frees;rw [hn];exact zZ fun i hi=>by simp [zW.free,h1 i hi,h2 i hi]
 have ew:T'.waits=T.waits:=by
  unfold zW.waits;rw [hn];exact zZ fun i hi=>by simp [zW.waitB,h1 i hi,h2 i hi]
 have ec:Jh T'.n T'.now=Jh T.n T.now:=by
  rw [hn];unfold Jh;congr 1;funext i;rw [h1 i i.2]
 refine ⟨by rw [hn];exact h.n1,by rw [hn];exact h.n2,fun i hi=>by rw [hn] at hi;rw [h1 i hi];exact h.now i hi,fun i hi=>by rw [hn] at hi;rw [h2 i hi];exact h.kept i hi,by rw [hn,ef,ew];exact h.top,by rw [ec];exact h.cs,?_,h.ne⟩;rw [hn];exact h.map.congr fun i hi=>by simp [zW.keptAt,h1 i hi,h2 i hi]
theorem YH:(Tryz.prog.info? 3).map (fun i=>(i.zero,i.size,i.bytes))=some (some (.int .i64 0),1,8):=zab
theorem Ve {T:zW} (hk:k<T.n):getV T (k:Int)=T.now k:=by
 have:XA T (k:Int)=true:=(x7 T k).2 zo;simp [getV,this]
theorem Zx (w:World) (h1:1<=n) (h2:n<=4096):zC 88 #[.int .i64 (n:Int)] w fun e w'=>e = .returned (.int .i64 (pg n:Int))/\w=w':=by
 have:¬ (n:Int)<1:=zo;go_enter Tryz.func88,Tryz.ntmps88;go_wp2_with fail;go_ret;refine ⟨?_,rfl⟩;have e:((n:Int) - 1) / 61+1=((pg n:Nat):Int):=by unfold pg;omega
 simp [e]
theorem fU (w:World) (h1:1<=n) (h2:n<=4096):zC 53 #[.int .i64 (n:Int)] w fun e w'=>e = .returned (.int .i64 (qu n:Int))/\w=w':=by
 have:¬ (n:Int)<1:=zo;have p1:=JM h1;have p2:=Js (n:=n);have:=Js (n:=pg n);go_enter Tryz.func53,Tryz.ntmps53;go_wp2_with fail;refine zm (Zx w h1 h2) ?_;go_wp2_with fail;refine zm (Zx w p1 (qh p2 h2)) ?_;go_wp2_with fail;go_ret;refine ⟨?_,rfl⟩;unfold qu;go_num
theorem uQ (a b:Int) (w:World):zC 175 #[.int .i64 a,.int .i64 b] w fun e w'=>e = .returned (.bool (decide (a<b)))/\w=w':=by
 have hn:∀ x:Int,zC 218 #[.int .i64 x] w fun e w'=>e = .returned (.bool false)/\w=w':=fun x=>by
  go_enter Tryz.func218,Tryz.ntmps218;go_wp2_with fail;go_ret;simp
 go_enter Tryz.func175,Tryz.ntmps175;go_wp2_with fail;refine zm (hn _) ?_;go_wp2_with fail;go_ret;simp
theorem uR {y x:Nat} : ((y:Int)==(x:Int))=true↔y=x:=by rw [beq_iff_eq];omega
def Bl (l : List Nat) (x : Nat) (w : World) (e : Ending) (w' : World) : Prop := ∃ (k : Nat) (b : Bool), e = .returned (.tuple #[.int .i64 (k : Int), .bool b]) /\ k <= l.length /\ (∀ i, i < k -> l.getD i 0 < x) /\ (∀ i, k <= i -> i < l.length -> x <= l.getD i 0) /\
      (b=true↔k<l.length/\l.getD k 0=x)/\w=w'
theorem Ae (h:Y9 w v l) (hs:l.Pairwise (· < ·)) (hl:l.length<=4096) (x:Nat) (hx:x<=1000000) :
  zC 191 #[v,.int .i64 (x:Int)] w (Bl l x w):=by
 obtain ⟨a,c,rfl⟩:=h.len
 have hc:∀ i,i<l.length->∃ g,a=some ⟨g,0,none⟩/\w.cell? ⟨g,i,none⟩=some (.int .i64 ((l.getD i 0:Nat):Int)):=by
  rcases h with ⟨h1,rfl⟩ | ⟨g,cap,h1,_,_,_,h5⟩
  ·intro i hi;simp at hi
  ·injection h1 with h1 h2 h3
   intro i hi;exact ⟨g,h1,h5 i hi⟩
 have hcap:l.length<=c/\c<=maxLen:=by
  rcases h with ⟨h1,rfl⟩ | ⟨g,cap,h1,h2,h3,_,h5⟩
  ·injection h1 with h1 h2 h3;subst h3;simp [maxLen]
  ·injection h1 with h1 h4 h3;subst h3;exact ⟨h2,h3⟩
 have hn:∀ x:Int,zC 225 #[.int .i64 x] w fun e w'=>e = .returned (.bool false)/\w=w':=fun x=>by
  go_enter Tryz.func225,Tryz.ntmps225;go_wp2_with fail;go_ret;simp
 have hm:∀ i j,i<j->j<l.length->l.getD i 0<l.getD j 0:=fun i j DP hj=>by
  have:=List.pairwise_iff_getElem.1 hs i j zo hj DP;simpa [zgD,yt,hj,show i<l.length by omega] using this
 clear h hs;have HC:=zh hc;have HM:=zh hm;have Un:=zh hcap;clear hc hm hcap;go_enter Tryz.func191,Tryz.ntmps191;go_wp2_with fail
 go_loop [7,8] (fun i j=>∃ p q:Nat,i = zI p/\j = zI q/\p<=q/\q<=l.length/\(∀ i,i<p->l.getD i 0<x)/\(∀ i,q<=i->i<l.length->x<=l.getD i 0)) (fun i j=>(intOf j).toNat - (intOf i).toNat)
 case atStart=>exact ⟨0,l.length,rfl,rfl,yg _,xd _,fun i hi=>zo,fun i h1 h2=>zo⟩
 case round =>
  obtain ⟨p,q,rfl,rfl,hpq,hq,ED,FH⟩:=hrel;have Lo:=zh ED;have Tw:=zh FH;clear ED FH;by_cases BY:p<q
  ·obtain ⟨g,rfl,BX⟩:=HC ((p+q) / 2) zo
   have Eo:=Un.1;have e1:IntKind.u64.wrap ((p:Int)+(q:Int))=((p+q:Nat):Int):=by rw [IntKind.wrap_u64];omega
   have e2:((p+q:Nat):Int) / 2=(((p+q) / 2:Nat):Int):=zo;go_wp2_with (go_at_call 175;refine zm (uQ _ _ _) ?_)
   ·have hx:l.getD ((p+q) / 2) 0<x:=by simpa [zgD] using ‹l[(p+q) / 2]?.getD 0<x›
    refine ⟨⟨(p+q) / 2+1,q,zac,rfl,zo,hq,fun i hi=>?_,Tw⟩,by simp [intOf];omega⟩;by_cases e:i=(p+q) / 2
    ·rw [e];exact hx
    ·exact Nat.lt_trans (HM i ((p+q) / 2) zo zo) hx
   ·have hx:¬ l.getD ((p+q) / 2) 0<x:=by simpa [zgD] using ‹¬ l[(p+q) / 2]?.getD 0<x›
    refine ⟨⟨p,(p+q) / 2,rfl,zac,zo,zo,Lo.o,fun i h1 h2=>?_⟩,by simp [intOf];omega⟩;by_cases e:i=(p+q) / 2
    ·rw [e];omega
    ·have:=HM ((p+q) / 2) i zo h2
     omega
  ·obtain rfl:p=q:=zo
   by_cases F0:p<l.length
   ·obtain ⟨g,rfl,BX⟩:=HC p F0
    have Eo:=Un.1;obtain ⟨y,hy⟩:=zE (l.getD p 0);rw [<- hy] at BX;have HY:=zh hy;clear hy;by_cases No:y=x
    ·subst No
     go_wp2_with (go_at_call 225;refine zm (hn _) ?_)
     go_ret2
     exact ⟨p,true,rfl,hq,Lo.o,Tw.o,⟨fun _=>⟨F0,HY.symm⟩,fun _=>rfl⟩,rfl⟩
    ·have hx':¬ (y:Int)=(x:Int):=zo
     go_wp2_with (go_at_call 225;refine zm (hn _) ?_)
     go_ret2
     exact ⟨p,((y:Int)==(x:Int)),rfl,hq,Lo.o,Tw.o,⟨fun h=>absurd (uR.1 h) No,fun h=>absurd (HY.trans h.2) No⟩,rfl⟩
   ·obtain rfl:p=l.length:=zo
    go_wp2_with (go_at_call 225;refine zm (hn _) ?_)
    go_ret2
    exact ⟨l.length,false,rfl,hq,Lo.o,Tw.o,zaa,rfl⟩
theorem rP (hn:n<=4096) (hcap:n<=cap) (hm:cap<=maxLen) (hc:∀ i,i<n->w.cell? ⟨b,o+i,none⟩=some (.bool (p i))) :
  zC 224 #[.slice (some ⟨b,o,none⟩) n cap,.bool true] w fun e w'=>(∃ z:Int,e = .returned (.int .i64 z)/\(0<=z↔∃ i,i<n/\p i=true))/\w=w':=by
 have HC:=zh hc;clear hc;go_enter Tryz.func224,Tryz.ntmps224;go_wp2_with fail
 go_loop [8] (fun s=>∃ k:Nat,k<=n/\s = zI k/\∀ i,i<k->p i=false) (fun s=>n - (intOf s).toNat)
 case atStart=>exact ⟨0,yg _,rfl,fun i hi=>zo⟩
 case round =>
  obtain ⟨k,hk,rfl,hno⟩:=hrel;have HNO:=zh hno;clear hno;by_cases BY:k<n
  ·have BX:=HC k BY
   cases hp:p k with
   | true =>
    rw [hp] at BX;go_wp2_with fail;go_ret;exact ⟨⟨(k:Int),rfl,⟨fun _=>⟨k,BY,hp⟩,fun _=>zo⟩⟩,rfl⟩
   | false =>
    rw [hp] at BX;go_wp2_with fail;refine ⟨⟨k+1,zo,zac,fun i hi=>?_⟩,by simp [intOf];omega⟩;by_cases e:i=k
    ·rw [e];exact hp
    ·exact HNO i zo
  ·obtain rfl:k=n:=zo
   go_wp2_with fail;go_ret;exact ⟨⟨-1,rfl,⟨fun h=>zo,fun ⟨i,hi,h⟩=>by rw [HNO.o i hi] at h;cases h⟩⟩,rfl⟩
theorem iz (hn:n<=4096) (hcap:n<=cap) (hm:cap<=maxLen) (hc:∀ i,i<n->w.cell? ⟨b,o+i,none⟩=some (.bool (p i))) :
  zC 190 #[.slice (some ⟨b,o,none⟩) n cap,.bool true] w fun e w'=>(∃ r:Bool,e = .returned (.bool r)/\(r=true↔∃ i,i<n/\p i=true))/\w=w':=by
 go_enter Tryz.func190,Tryz.ntmps190;go_wp2_with fail;refine (rP hn hcap hm hc).mono ?_;rintro e w' ⟨⟨z,rfl,hz⟩,rfl⟩;by_cases h0:0<=z
 ·have:¬ z<0:=zo
  go_wp2_with fail;go_ret;exact ⟨⟨_,rfl,by simp [h0,<- hz]⟩,rfl⟩
 ·go_wp2_with fail
  go_ret;exact ⟨⟨_,rfl,by simp [h0,<- hz]⟩,rfl⟩
theorem AU:∃ i0,Tryz.prog.info? 3=some i0/\i0.zero=some (.int .i64 0)/\i0.size=1/\i0.bytes=8:=by
 obtain ⟨i,h1,h2,h3,h4⟩:=info_parts YH;exact ⟨i,h1,h2,h3,h4⟩
theorem kV (n:Nat) (w:World) (h1:1<=n) (h2:n<=100000) :
  zC 204 #[.slice none 0 0,.int .i64 (n:Int)] w fun e w'=>∃ v,e = .returned v/\w'.ownsRow w.heap.size 3 1 v 0 []/\zv [] w w':=by
 obtain ⟨i0,hi,hz,hs,hb⟩:=AU;have fo:(Builtin.firstCells i0.size 0 (.slice none 0 0)).run Tryz.prog w.drew = .ok #[] w.drew:=run_firstCells_none w.drew i0.size 0 0 0;have KG:=fun ty=>Lib.run_append_grow_zeros w 32 3 ty 3 i0 (.int .i64 0) .i64 .i64 Tryz.underlying32 Tryz.underlying3 hi hz none 0 0 [] fo n zo zo zo zo (by rw [hb];omega) (growslice_fits zo (by rw [hb];omega));have hG:=grownCap_ge w (0+n) 0 3;have hM:=grownCap_le_maxLen w (0+n) 0 3 zam;generalize hGG:grownCap w (0+n) 0 3=G at KG hG hM;clear hGG;rw [yn] at KG hG;have:G<=9223372036854775807:=by unfold maxLen at hM;omega
 have:¬ (n:Int)<0:=zo;have:(0:Int)<(n:Int):=zo;go_enter Tryz.func204,Tryz.ntmps204;go_wp2_with (at_builtin;refine Lib.wpList_append_run _ rfl _ _ _ _ rfl _ _ rfl rfl _ _ (KG _) ?_);go_ret;refine ⟨_,rfl,⟨rfl,.inr ⟨w.heap.size,G,_,rfl,xd _,xo w.drew _,yg _,hM,?_,rfl⟩⟩,((zv.refl [] w).drew.alloc _)⟩;simp [Builtin.zeroCells];omega
theorem XQ (a b:List Nat):xC (a++b)=xC a++xC b:=by simp [xC]
theorem Y9.cells (h:Y9 w (zS g l.length c) l):∀ j q,(xC l)[j]?=some q->w.cell? ((⟨g,0,none⟩:Addr).add j)=some q:=by
 intro j q hj;rcases h with ⟨h1,_⟩ | ⟨g',cap,h1,_,_,_,h5⟩
 ·cases h1
 ·injection h1 with h1 _ _
  injection h1 with h1;injection h1 with h1 _ _;subst h1
  have hjl:j<l.length:=by
   have:=List.getElem?_eq_some_iff.1 hj;obtain ⟨h,_⟩:=this;simpa [xC] using h
  rw [show (⟨g,0,none⟩:Addr).add j=⟨g,j,none⟩ from by unfold Addr.add;split <;> simp_all];rw [h5 j hjl,<- hj];simp [xC,zgD,hjl]
theorem Xq {ops:Array Oper} {rest:List Oper} {o:Oper} {a:Act} {Q:Exit->Act->World->Prop} (Eg:o.guard=none) (s x:Operand)
  (ho:o.op = .call { callee := .builtin .append,args:=#[s,x],argTypes:=#[32,32] })
  (base:Nat) (v:Value) (l:List Nat) (hs:a.eval s=v) (BT:w.ownsRow base 3 1 v l.length (xC l))
  (g c:Nat) (m:List Nat) (hx:a.eval x = zS g m.length c) (Cm:Y9 w (zS g m.length c) m) (Ni:l.length+m.length<=100000) (Dp:base<=w.heap.size)
  (h:∀ v' w',w'.ownsRow base 3 1 v' (l++m).length (xC (l++m))->w.grownBy w' v.ownBlock->wpList Tryz.prog ops Q rest (a.put o.dst v') w'):wpList Tryz.prog ops Q (o::rest) a w:=by
 obtain ⟨i,h1,h2,h3,h4⟩:=info_parts YH;refine wpList_append_own w Eg s x 32 ho base 3 i (.int .i64 0) 1 8 Tryz.underlying32 h1 h2 h3 h4 rfl zaf v l.length _ hs BT ⟨g,0,none⟩ m.length c (xC m) hx (by simp [xC]) Cm.cells ?_ ?_ ?_ Dp fun v' w' a1 a2 _=>h v' w' (by rw [XQ,ym];exact a1) a2
 ·intro u hu
  obtain ⟨q,_,rfl⟩:=yw.1 hu;rfl
 ·unfold maxLen;omega
 ·omega
theorem fV (h:w.ownsRow base 3 1 v n xs) (c:zv L w w') (hL:∀ k,v.ownBlock=some k->k∉L):w'.ownsRow base 3 1 v n xs:=by
 refine ⟨h.1,?_⟩;rcases h.2 with h | ⟨g,cap,BV,h1,h2,h3,h4⟩
 ·exact .inl h
 ·exact .inr ⟨g,cap,BV,h1,h2,(c.block g (zz h3) (hL g (by rw [h1];rfl))).trans h3,h4⟩
theorem kW {B g0 c0 g1 c1 n0 n1:Nat} {m:List Nat} (e0:n0=l.length) (e1:n1=m.length) (hB:w.heap[B]?=some (.cells #[zS g0 n0 c0,zS g1 n1 c1] 32 (0,0)))
  (h0:Y9 w (zS g0 n0 c0) l) (h1:Y9 w (zS g1 n1 c1) m) (hl:1<=l.length) (hlm:l.length+m.length<=10000) :
  zC 155 #[zS B 2 2] w fun e w'=>∃ v,e = .returned v/\w'.ownsRow w.heap.size 3 1 v (l++m).length (xC (l++m))/\zv [] w w':=by
 subst e0 e1;obtain ⟨x0,x1⟩:=uj hB;have lB:=zz hB;have:=zh hB;have H0:=zh h0;have H1:=zh h1;clear hB h0 h1;go_enter Tryz.func155,Tryz.ntmps155;go_wp2_with fail
 go_loop [3,11] (fun n s=>∃ k c:Nat,s = zI k/\n = zI c/\((k=0/\c=0)∨(k=1/\c=l.length)∨(k=2/\c=l.length+m.length))) (fun _ s=>2 - (intOf s).toNat)
 case atStart=>exact ⟨0,0,rfl,rfl,.inl ⟨rfl,rfl⟩⟩
 case round =>
  obtain ⟨k,c,rfl,rfl,⟨rfl,rfl⟩ | ⟨rfl,rfl⟩ | ⟨rfl,rfl⟩⟩:=hrel
  ·have i1:¬ (l.length:Int)<0:=zo
   go_wp2_with fail
   go_round
   case rel=>exact ⟨1,l.length,rfl,zac,.inr (.inl ⟨rfl,rfl⟩)⟩
   case measure=>simp [intOf]
  ·have i1:¬ (l.length:Int)+(m.length:Int)<0:=zo
   go_wp2_with fail
   go_round
   case rel=>exact ⟨2,l.length+m.length,rfl,zac,.inr (.inr ⟨rfl,rfl⟩)⟩
   case measure=>simp [intOf]
  ·go_wp2_with fail
   have cG:=kV (l.length+m.length) w zo zo;rw [Int.natCast_add] at cG;refine cG.mono ?_;clear cG;rintro e w1 ⟨v,rfl,BT,hC⟩;have RO:=zh BT;have HC:=zh hC;clear BT hC;go_wp2_with fail;have y0:=HC.ce x0 lB;have y1:=HC.ce x1 lB
   go_loopw [6,27] (fun v s wr=>∃ k:Nat,s = zI k/\∃ L,((k=0/\L=[])∨(k=1/\L=l)∨(k=2/\L=l++m))/\Hd (wr.ownsRow w.heap.size 3 1 v L.length (xC L)/\zv [] w wr)) (fun _ s _=>2 - (intOf s).toNat)
   case atStart=>exact ⟨0,rfl,[],.inl ⟨rfl,rfl⟩,⟨RO.o,HC⟩⟩
   case round =>
    obtain ⟨k,rfl,L,hk,hH⟩:=hrel;have BT:=hH.1;have hC:=hH.2;clear hH;have Fq:=zh BT;have DQ:=zh hC;have y0:=hC.ce x0 lB;have y1:=hC.ce x1 lB;have Dg:=hC.size;have I6:∀ k,(Value.ownBlock _=some k)->w.heap.size<=k:=fun k hk=>(BT.lt k hk).1;have I1:=zh I6;clear BT hC I6;rcases hk with ⟨rfl,rfl⟩ | ⟨rfl,rfl⟩ | ⟨rfl,rfl⟩
    ·go_wp2_with (at_builtin;refine Xq rfl _ _ rfl w.heap.size _ [] rfl Fq g0 c0 l rfl (H0.chg DQ) zae Dg ?_;intro v' w2 Ck C8;have C9:=zh Ck;have BZ:=zh (DQ.grown C8 (fun k hk => .inr (I1 k hk)));clear Ck C8)
     go_roundw
     case rel=>exact ⟨1,zac,l,.inr (.inl ⟨rfl,rfl⟩),⟨C9.o,BZ⟩⟩
     case measure=>simp [intOf]
    ·go_wp2_with (at_builtin;refine Xq rfl _ _ rfl w.heap.size _ L rfl Fq g1 c1 m rfl (H1.chg DQ) zo Dg ?_;intro v' w2 Ck C8;have C9:=zh Ck;have BZ:=zh (DQ.grown C8 (fun k hk => .inr (I1 k hk)));clear Ck C8)
     go_roundw
     case rel=>exact ⟨2,zac,L++m,.inr (.inr ⟨rfl,rfl⟩),⟨C9.o,BZ⟩⟩
     case measure=>simp [intOf]
    ·go_wp2_with fail
     go_ret;exact ⟨_,rfl,Fq.o,DQ⟩
theorem om (w:World):(w.alloc (.cells #[] 3)).ownsRow w.heap.size 3 1 (zS w.heap.size 0 0) 0 [] :=
 ⟨rfl,.inr ⟨w.heap.size,0,#[],rfl,xd _,xo w _,yg _,by unfold maxLen;omega,rfl,rfl⟩⟩
theorem oo (e:n=l.length) (h:Y9 w (zS g n c) l) (hl:l.length<=10000) :
  zC 138 #[zS g n c] w fun e w'=>∃ v,e = .returned v/\w'.ownsRow w.heap.size 3 1 v l.length (xC l)/\zv [] w w':=by
 subst e;have H:=zh h;clear h;have Ep:=fun w=>Lib.run_eql_slice_nil (P:=Tryz.prog) w 32 3 (some ⟨g,0,none⟩) l.length c 0 0 Tryz.underlying32;simp only [Option.isNone_some] at Ep;have HE:=zh (om w);have Df:=zh ((zv.refl [] w).alloc (.cells #[] 3));go_enter Tryz.func138,Tryz.ntmps138;go_wp2_with (at_builtin;refine Xq rfl _ _ rfl w.heap.size _ [] rfl HE g c l rfl (H.chg Df) zae zaa ?_;intro v' w2 Ck C8;have C9:=zh Ck;have BZ:=zh (Df.grown C8 (fun k hk => .inr (HE.lt k hk).1));clear Ck C8);go_ret;exact ⟨_,rfl,C9.o,BZ⟩
def xm (p:Nat->Bool) (k:Nat):List Nat:=(List.range k).filter p
theorem dS (h:p k=true):xm p (k+1)=xm p k++[k]:=by simp [xm,zn,List.filter_append,h]
theorem aR (h:p k=false):xm p (k+1)=xm p k:=by simp [xm,zn,List.filter_append,h]
theorem XR (p:Nat->Bool) (k:Nat):(xm p k).length<=k:=qh (List.length_filter_le _ _) zaa
theorem x8 : b∈xm p k↔b<k/\p b=true:=by simp [xm]
theorem iA {h:Nat} (hb:w.heap[h]?=some (.cells (XN n p) 4 (0,0))) (hn:n<=4096) :
  zC 142 #[zS h n n] w fun e w'=>∃ v,e = .returned v/\w'.ownsRow w.heap.size 3 1 v (xm p n).length (xC (xm p n))/\zv [] w w':=by
 have HB:=zh hb;have lh:=zz hb;clear hb;go_enter Tryz.func142,Tryz.ntmps142;go_wp2_with fail
 go_loopw [3,8] (fun v s wr=>∃ k:Nat,k<=n/\s = zI k/\Hd (wr.ownsRow w.heap.size 3 1 v (xm p k).length (xC (xm p k))/\zv [] w wr)) (fun _ s _=>n - (intOf s).toNat)
 case atStart=>exact ⟨0,yg _,rfl,⟨yO _ _ _ _,zv.refl _ _⟩⟩
 case round =>
  obtain ⟨k,hk,rfl,hH⟩:=hrel;have BT:=hH.1;have hC:=hH.2;have Fq:=zh BT;have DQ:=zh hC;have:=hC.size;have I1:=zh (fun k hk=>(BT.lt k hk).1:∀ k,(Value.ownBlock _=some k)->w.heap.size<=k);by_cases BY:k<n
  ·have BX:=(hC.cell (p:=⟨h,k,none⟩) lh zaa).trans ((zM HB k).trans (Q7 BY))
   have:=XR p k;clear BT hC hH
   cases hp:p k with
   | true =>
    rw [hp] at BX;have HY:=zh (dS hp);have HN:=zh (xo wr (.cells #[zI k] 3));go_wp2_with (at_builtin;refine Xo _ rfl _ _ 32 rfl w.heap.size 3 (.int .i64 0) 8 Tryz.underlying32 YH rfl _ _ _ rfl (fV Fq ((zv.refl [] wr).alloc _) zaa) wr.heap.size 1 (zI k) rfl (zM HN 0) rfl zo zo zae ?_;intro v' w2 Ck C8;have C9:=zh Ck;have BZ:=zh ((DQ.alloc _).grown C8 (fun k hk => .inr (I1 k hk)));clear Ck C8)
    go_roundw
    case rel=>exact ⟨k+1,zo,zac,⟨by rw [HY.o,XQ,ym];exact C9.o,BZ⟩⟩
    case measure=>simp [intOf];omega
   | false =>
    rw [hp] at BX;have HY:=zh (aR hp);go_wp2_with fail
    go_roundw
    case rel=>exact ⟨k+1,zo,zac,⟨by rw [HY.o];exact Fq.o,DQ⟩⟩
    case measure=>simp [intOf];omega
  ·obtain rfl:k=n:=zo
   clear BT hC hH;go_wp2_with fail;go_ret;exact ⟨_,rfl,Fq.o,DQ⟩
open Go.RowKit Go.Maps
def qP (P:Program) (kt et:TypeId) (w:World) (b n:Nat) (f:Nat->Option Nat):Prop :=
 ∃ D:DataW Unit,w.ownsMap P kt (plainElem P et) b (Maps.size D) D/\Maps.size D=cnt n (fun k=>(f k).isSome) /\
  (∀ l,Maps.has D l=true->∃ k,k<n/\l = .int .i64 (k:Int)/\(f k).isSome=true) /\
  (∀ k v,k<n->f k=some v->Maps.has D (.int .i64 (k:Int))=true/\∀ z,D.atKey (.int .i64 (k:Int)) z = .lit (.int .i64 (v:Int)))
section
variable {P:Program} {kt et t:TypeId} {w:World} {b n:Nat} {f:Nat->Option Nat}
theorem qP.lt (h:qP P kt et w b n f):b<w.heap.size:=by
 obtain ⟨D,h1,_⟩:=h;exact h1.lt
theorem qP.same (h:qP P kt et w b n f) (e:w'.heap[b]?=w.heap[b]?):qP P kt et w' b n f:=by
 obtain ⟨D,⟨es,c,hb,hr⟩,hh⟩:=h;exact ⟨D,⟨es,c,e.trans hb,hr⟩,hh⟩
theorem qP.congr {g:Nat->Option Nat} (h:qP P kt et w b n f) (e:∀ i,i<n->f i=g i):qP P kt et w b n g:=by
 obtain ⟨D,h1,h2,h3,h4⟩:=h;refine ⟨D,h1,h2.trans (zZ fun i hi=>by rw [e i hi]),fun l hl=>?_,fun k v hk hv=>h4 k v hk (by rw [e k hk];exact hv)⟩;obtain ⟨k,hk,hl',hs⟩:=h3 l hl;exact ⟨k,hk,hl',by rw [<- e k hk];exact hs⟩
theorem qP.has (_h:qP P kt et w b n f) {D:DataW Unit} (h3:∀ l,Maps.has D l=true->∃ k,k<n/\l = .int .i64 (k:Int)/\(f k).isSome=true)
  (h4:∀ k v,k<n->f k=some v->Maps.has D (.int .i64 (k:Int))=true/\∀ z,D.atKey (.int .i64 (k:Int)) z = .lit (.int .i64 (v:Int))) {k:Nat} (hk:k<n) :
  Maps.has D (.int .i64 (k:Int))=(f k).isSome:=by
 cases hf:f k with
 | some v=>exact (h4 k v hk hf).1
 | none =>
  cases hh:Maps.has D (.int .i64 (k:Int)) with
  | false=>rfl
  | true =>
   obtain ⟨k',De,e,hs⟩:=h3 _ hh;injection e with _ e;have:k=k':=zo
   subst this;rw [hf] at hs;cases hs
theorem qP.look (h:qP P kt et w b n f) (Dr:P.underlying kt=some (.int .i64)) (Mk:P.underlying et=some (.int .i64)) (ht:P.underlying t=some (.map kt et))
  (hz:(zeroValue et).run P w = .ok (.int .i64 0) w) (hk:k<n) (hn:n<=4096) :
  (Instr.lookup t (.map (some b)) (.int .i64 (k:Int)) true).run P w = .ok (.tuple #[.int .i64 (((f k).getD 0:Nat):Int),.bool (f k).isSome]) w /\
  (Instr.lookup t (.map (some b)) (.int .i64 (k:Int)) false).run P w = .ok (.int .i64 (((f k).getD 0:Nat):Int)) w:=by
 have hh:=h;obtain ⟨D,h1,h2,h3,h4⟩:=h;have Ch:keyOf P kt (.int .i64 (k:Int))=some (.int .i64 (k:Int)):=Maps.keyOf_int_mk Dr (WalkArith.wf_i64 zo);have K:=Maps.int_keyed Dr;obtain ⟨v,ps,B8,hv⟩:=h1.look_ok K ht hz (plainElem_int Mk zaf) Ch;obtain ⟨c,Es,DT,_⟩:=h1.lookup_int K ht Mk hz Ch;obtain ⟨a,rfl,ha,hw⟩:=plainElem_int_inv Mk hv;simp only [Prod.mk.injEq] at ha
 have hc:c=a:=by
  have:=DT.symm.trans ha.1;injection this with this;injection this
 subst hc;rw [hh.has h3 h4 hk] at B8
 have e:c=(((f k).getD 0:Nat):Int):=by
  cases hf:f k with
  | some v =>
   have:=((h4 k v hk hf).2 _).symm.trans DT;injection this with this;injection this with _ this;simpa using this.symm
  | none =>
   have hn:Maps.has D (.int .i64 (k:Int))=false:=by rw [hh.has h3 h4 hk,hf];rfl
   have:=(Maps.atKey_of_not_has hn (.lit (.int .i64 0))).symm.trans DT;injection this with this;injection this with _ this;simpa using this.symm
 subst e;exact ⟨B8,Es⟩
theorem qP.put (h:qP P kt et w b n f) (Dr:P.underlying kt=some (.int .i64)) (Mk:P.underlying et=some (.int .i64)) (ht:P.underlying t=some (.map kt et)) {v:Nat} (hk:k<n) (hn:n<=4096) (hv:v<=1000000) :
  ∃ w',(Instr.mapUpdate t (.map (some b)) (.int .i64 (k:Int)) (.int .i64 (v:Int))).run P w = .ok () w'/\qP P kt et w' b n (fun i=>if i=k then some v else f i)/\w.mapTurned w' b:=by
 have hh:=h;obtain ⟨D,h1,h2,h3,h4⟩:=h;have Ch:keyOf P kt (.int .i64 (k:Int))=some (.int .i64 (k:Int)):=Maps.keyOf_int_mk Dr (WalkArith.wf_i64 zo);have K:=Maps.int_keyed Dr;have Dl:=Yj (fun k=>(f k).isSome) n;have FV:WideAt.IsKeyLit (.int .i64 (k:Int)):=K.key Ch;obtain ⟨w',B8,BT,CQ⟩:=h1.store K ht zam Ch (plainElem_int Mk ((show (Lit.int .i64 (v:Int)).wf=true from WalkArith.wf_i64 zo)));refine ⟨w',B8,⟨_,Xz BT,?_,?_,?_⟩,CQ⟩
 ·have e1:=Maps.size_put (k := .int .i64 (k:Int)) (h1.tidy K) (.lit (.int .i64 (v:Int)))
  have e2:=xN (p:=fun i=>(f i).isSome) (q:=fun i=>(if i=k then some v else f i).isSome) hk (fun i _ BU=>by simp [BU]);rw [hh.has h3 h4 hk] at e1;simp only [if_true,Option.isSome_some] at e2;rw [e1]
  split at e2 <;> split <;> simp_all <;> omega
 ·intro l hl
  by_cases e:l = .int .i64 (k:Int)
  ·exact ⟨k,hk,e,zaa⟩
  ·rw [Maps.has_put_other e] at hl
   obtain ⟨k',De,rfl,hs⟩:=h3 l hl;have BU:k'≠k:=fun q=>e (by rw [q]);exact ⟨k',De,rfl,zay⟩
 ·intro i v' hi EH
  by_cases e:i=k
  ·subst e
   simp only [if_true,Option.some.injEq] at EH;subst EH;exact ⟨Maps.has_put_same h1.isMap FV _,fun z=>Maps.atKey_put_same h1.isMap FV _ z⟩
  ·simp only [e,if_false] at EH
   have BU:Lit.int .i64 (i:Int) ≠ .int .i64 (k:Int):=fun q=>by injection q with _ q;omega
   obtain ⟨g1,g2⟩:=h4 i v' hi EH;exact ⟨by rw [Maps.has_put_other BU];exact g1,fun z=>by rw [Maps.atKey_put_other BU];exact g2 z⟩
theorem qP.ofEmpty (h:w.ownsMap P kt (plainElem P et) b 0 (.map []:DataW Unit)) (n:Nat):qP P kt et w b n (fun _=>none):=by
 refine ⟨.map [],h,(qM fun _ _=>rfl).symm,?_,?_⟩
 ·intro l hl;cases hl
 ·intro k v _ hv;cases hv
theorem qP.made (w:World) (n:Nat):qP P kt et (w.alloc (.map #[] 0)) w.heap.size n (fun _=>none) :=
 qP.ofEmpty (World.ownsMap_made _ _ _ _) n
end
end Go.Proofs.YtegpiomkmfhadaaGreat
