/- A pick and its tally together: one predicate, one contract for each call. · Plain facts on room, for PickAll. · Layer 10 in plain words: what is placed, one page after the other. No program in sight. · Which blocks have changed, as a list: plain facts. · tally.Changed: the changed blocks, rising, in a slice of its own. · One block's count up and down: contracts for TallyMost. · tally.Back, and Changed in a handier form; what is done to a tally. · What the reference's tally leans on. · Layer 10: what is small: pages, Need, searching, lists put together. -/
import Derived.Test.YtkhcaclndepgbaaGreatZn10
import Derived.Lib.SlKeysI
import Derived.Test.YtkhcaclndepgbaaGreatIt
import Derived.Lib.AppendZerosOnto
import Derived.Lib.Walk
set_option linter.unusedVariables false
set_option linter.unusedSimpArgs false
set_option maxRecDepth 100000
set_option maxHeartbeats 20000000
namespace Go.Proofs.YtkhcaclndepgbaaGreat
open Go.RowKit
structure PT (w:World) (p t bc bk:Nat) (K:Pk) (T:Tal):Prop where
 hp:PickAt w p t K
 ht:TallyAt w t bc bk T
 f:K.first<=K.next
 n:K.next<=T.n
 a:K.asked<=4096
theorem takeK_bd {T:Tal} {K:Pk} (hf:K.first<=K.next) (hn:K.next<=T.n):(takeK T K).first<=(takeK T K).next/\(takeK T K).next<=T.n/\(takeK T K).asked=K.asked/\(takeK T K).first=K.first:=by
 unfold takeK
 cases hr:takeR T K with
 | none=>exact ⟨hf,hn,rfl,rfl⟩
 | some b =>
  obtain ⟨h1,h2,_⟩:=takeR_spec hf hn hr;by_cases e:b+1=T.n
  ·simp [e];omega
  ·simp [e];omega
theorem takeT_n (T:Tal) (K:Pk):(takeT T K).n=T.n:=by
 unfold takeT;cases takeR T K <;> rfl
theorem up_n (T:Tal) (b:Int):(up T b).n=T.n:=by unfold up;split <;> rfl
theorem down_n (T:Tal) (b:Int):(down T b).n=T.n:=by unfold down;split <;> rfl
section
variable {w:World} {p t bc bk:Nat} {K:Pk} {T:Tal} (h:PT w p t bc bk K T)
include h
theorem PT.chg {w':World} {L:List Nat} (c:Chg L w w') (h0:p∉L) (h1:t∉L) (h2:bc∉L) (h3:bk∉L):PT w' p t bc bk K T :=
 ⟨h.hp.chg c h0,h.ht.chg c h1 h2 h3,h.f,h.n,h.a⟩
theorem PT.room:Calls Tryz.prog 75 #[.pointer (some ⟨p,0,none⟩)] w fun e w'=>e = .returned (.int .i64 (roomI T K.first))/\w=w' :=
 room_at h.hp h.ht (zLt h.f h.n)
theorem PT.take:Calls Tryz.prog 77 #[.pointer (some ⟨p,0,none⟩)] w fun e w'=>e = .returned (.tuple #[.int .i64 (takeB T K),.int .i64 (takeE T K)])/\PT w' p t bc bk (takeK T K) (takeT T K)/\Chg [p,t,bc,bk] w w':=by
 refine (take_at h.hp h.ht h.f h.n).mono fun e w' ⟨he,hp',ht',hc⟩=>⟨he,?_,hc⟩;obtain ⟨b1,b2,b3,_⟩:=takeK_bd h.f h.n;exact ⟨hp',ht',b1,by rw [takeT_n];exact b2,by rw [b3];exact h.a⟩
theorem PT.up (b:Int):Calls Tryz.prog 96 #[.pointer (some ⟨t,0,none⟩),.int .i64 b] w fun e w'=>e = .returned (.int .i64 (upE T b))/\PT w' p t bc bk K (up T b)/\Chg [p,t,bc,bk] w w' :=
 (up_at h.ht b).mono fun _ _ ⟨he,ht',hc⟩=>⟨he,⟨h.hp.chg hc (pick_ne h.hp h.ht),ht',h.f,by rw [up_n];exact h.n,h.a⟩,hc.mono (by simp)⟩
theorem PT.down (b:Int):Calls Tryz.prog 94 #[.pointer (some ⟨t,0,none⟩),.int .i64 b] w fun e w'=>e = .returned (.int .i64 (downE T b))/\PT w' p t bc bk K (down T b)/\Chg [p,t,bc,bk] w w' :=
 (down_at h.ht b).mono fun _ _ ⟨he,ht',hc⟩=>⟨he,⟨h.hp.chg hc (pick_ne h.hp h.ht),ht',h.f,by rw [down_n];exact h.n,h.a⟩,hc.mono (by simp)⟩
theorem PT.keep:Calls Tryz.prog 89 #[.pointer (some ⟨t,0,none⟩)] w fun e w'=>e = .returned (.tuple #[])/\PT w' p t bc bk K T.keep/\Chg [p,t,bc,bk] w w':=by
 have hne:=pick_ne h.hp h.ht;refine (keep_at h.ht).mono fun _ _ ⟨he,ht',hc⟩=>⟨he,⟨h.hp.chg hc (by simp at hne ⊢;exact ⟨hne.1,hne.2.2⟩),ht',h.f,h.n,h.a⟩,hc.mono (by simp)⟩
end
theorem tnew_ex (n:Nat) (w:World) (h1:1<=n) (h2:n<=4096) :
  Calls Tryz.prog 106 #[.int .i64 (n:Int)] w fun e w'=>∃ t bc bk,e = .returned (.tuple #[.pointer (some ⟨t,0,none⟩),.int .i64 0]) /\
   TallyAt w' t bc bk (Tal.new n)/\Chg [] w w'/\w.heap.size<=t/\w.heap.size<=bc/\w.heap.size<=bk :=
 (tnew_at n w h1 h2).mono fun _ _ ⟨he,ht,hc⟩=>⟨_,_,_,he,ht,hc,by omega,by omega,by omega⟩
theorem pnew_ex {w:World} {t bc bk m:Nat} (h:TallyAt w t bc bk (Tal.new m)) (n:Nat) (hn:n<=m) :
  Calls Tryz.prog 103 #[.pointer (some ⟨t,0,none⟩),.int .i64 (n:Int)] w fun e w'=>∃ p,e = .returned (.tuple #[.pointer (some ⟨p,0,none⟩),.int .i64 0]) /\
   PT w' p t bc bk ⟨n,n,0⟩ (Tal.new m)/\Chg [] w w'/\w.heap.size<=p :=
 (pnew_at h n hn).mono fun _ _ ⟨he,hp,hc⟩=>⟨_,he,⟨hp,h.chg hc (by simp) (by simp) (by simp),zLr _,hn,Nat.zero_le _⟩,hc,zLr _⟩
theorem cnt_flat {p:Nat->Bool} {a:Nat} : ∀ {b:Nat},a<=b->(∀ i,a<=i->i<b->p i=false)->cnt b p=cnt a p
  | 0, h, _ => by obtain rfl : a = 0 := by omega
                  rfl
  | b+1,h,hp=>by
    by_cases e:a=b+1
    · subst e;rfl
    · rw [cnt_step,hp b (by omega) (by omega),cnt_flat (b:=b) (by omega) (fun i h1 h2=>hp i h1 (by omega))]
      rfl
theorem takeR_none_free {T:Tal} {K:Pk} (hf:K.first<=K.next) (hn:K.next<=T.n) (h:takeR T K=none):∀ i,K.first<=i->i<T.n->T.free i=false:=by
 unfold takeR at h
 split at h
 ·cases h
 ·rename_i h0
  intro i h1 h2;by_cases e:K.next<=i
  ·exact firstFree_none h0 i e (by omega)
  ·exact firstFree_none h i h1 (by omega)
theorem room_none {T:Tal} {K:Pk} (hf:K.first<=K.next) (hn:K.next<=T.n) (h:takeR T K=none):roomI T K.first=0:=by
 unfold roomI Tal.frees;rw [cnt_flat (a:=K.first) (b:=T.n) (by omega) (takeR_none_free hf hn h)];omega
theorem room_some {T:Tal} {f b:Nat} (hf:f<=b) (hb:b<T.n) (h:T.free b=true):roomI (T.set b 1) f=roomI T f - 1:=by
 have h1:=frees_set T 1 hb;have h2:(T.set b 1).free b=false:=by simp [Tal.free,Tal.set]
 rw [h,h2] at h1
 have h3:cnt f (T.set b 1).free=cnt f T.free:=cnt_congr fun i hi=>by
  have:i≠b:=by omega
  simp [Tal.free,Tal.set,this]
 unfold roomI;rw [h3];simp at h1;omega
def bools (n:Nat) (f:Nat->Bool):Array Value:=Array.ofFn (n:=n) fun i => .bool (f i)
theorem bools_get {n:Nat} {f:Nat->Bool} {i:Nat} (h:i<n):(bools n f)[i]?=some (.bool (f i)):=by
 simp [bools,h]
theorem bools_set {n:Nat} {f:Nat->Bool} {i:Nat} {v:Bool} (h:i<n):(bools n f).setIfInBounds i (.bool v)=bools n (fun j=>if j=i then v else f j):=by
 apply Array.ext_getElem?;intro j;by_cases hj:j<n
 ·rw [bools_get hj,Array.getElem?_setIfInBounds]
  by_cases e:j=i
  ·subst e;simp [bools,h]
  ·rw [if_neg (fun q=>e q.symm),bools_get hj];simp [e]
 ·simp [bools,hj]
theorem zrow_bools (n:Nat):zrow n (.bool false)=bools n (fun _=>false):=by
 apply Array.ext
 ·simp [zrow,bools]
 ·intro i h1 h2
  simp [zrow,bools]
def pg (n:Nat):Nat:=(n+60) / 61
def needN (n:Nat):Nat:=pg n+pg (pg n)
def anyIn (p:Nat->Bool) (n i:Nat):Bool:=(List.range 61).any fun j=>decide (61*i+j<n)&&p (61*i+j)
theorem anyIn_iff {p:Nat->Bool} {n i:Nat} : anyIn p n i=true↔∃ b,61*i<=b/\b<61*i+61/\b<n/\p b=true:=by
 unfold anyIn;rw [List.any_eq_true];constructor
 ·rintro ⟨j,hj,h⟩
  simp only [List.mem_range,Bool.and_eq_true,decide_eq_true_eq] at hj h;exact ⟨61*i+j,by omega,by omega,h.1,h.2⟩
 ·rintro ⟨b,h1,h2,h3,h4⟩
  refine ⟨b - 61*i,by simp;omega,?_⟩;rw [show 61*i+(b - 61*i)=b by omega];simp [h3,h4]
theorem anyIn_false {p:Nat->Bool} {n i:Nat} : anyIn p n i=false↔∀ b,61*i<=b->b<61*i+61->b<n->p b=false:=by
 rw [<- Bool.not_eq_true,anyIn_iff];constructor
 ·intro h b h1 h2 h3
  cases hp:p b with
  | false=>rfl
  | true=>exact absurd ⟨b,h1,h2,h3,hp⟩ h
 ·rintro h ⟨b,h1,h2,h3,h4⟩
  rw [h b h1 h2 h3] at h4;cases h4
structure PS where
 T:Tal
 K:Pk
 n:Nat->Nat
 a:Nat->Nat->Nat
 p:Nat->Nat->Bool
def PS.want (S:PS) (k i:Nat):Bool := !S.p k i&&(S.a k i==0||(if k=1 then anyIn (S.p 0) (S.n 0) i else anyIn S.T.changed S.T.n i))
def upd2 {α:Type} (f:Nat->Nat->α) (k i:Nat) (v:α):Nat->Nat->α:=fun k' i'=>if k'=k/\i'=i then v else f k' i'
theorem upd2_same {α:Type} (f:Nat->Nat->α) (k i:Nat) (v:α):upd2 f k i v k i=v:=by simp [upd2]
theorem upd2_other {α:Type} (f:Nat->Nat->α) {k i k' i':Nat} (v:α) (h:¬ (k'=k/\i'=i)):upd2 f k i v k' i'=f k' i':=by unfold upd2;rw [if_neg h]
def PS.T1 (S:PS) (k i:Nat):Tal:=if S.a k i=0 then S.T else down S.T (S.a k i:Int)
def PS.new (S:PS) (k i:Nat):Nat:=(takeR (S.T1 k i) S.K).getD 0
def PS.step (S:PS) (k i:Nat):PS:=⟨takeT (S.T1 k i) S.K,takeK (S.T1 k i) S.K,S.n,upd2 S.a k i (S.new k i),upd2 S.p k i true⟩
def PS.next (S:PS):Option (Nat × Nat) :=
 match zff (S.want 0) 0 (S.n 0) with
 | some i=>some (0,i)
 | none=>match zff (S.want 1) 0 (S.n 1) with | some i=>some (1,i) | none=>none
def PS.run:Nat->PS->PS
 | 0,S=>S
 | f+1,S=>match S.next with | some (k,i)=>PS.run f (S.step k i) | none=>S
def PS.left (S:PS):Nat:=cnt (S.n 0) (fun i => !S.p 0 i)+cnt (S.n 1) (fun i => !S.p 1 i)
theorem PS.next_some {S:PS} {k i:Nat} (h:S.next=some (k,i)):k<2/\i<S.n k/\S.want k i=true:=by
 unfold PS.next at h
 cases h0:zff (S.want 0) 0 (S.n 0) with
 | some j =>
  rw [h0] at h;simp only [Option.some.injEq,Prod.mk.injEq] at h;obtain ⟨rfl,rfl⟩:=h;have:=firstFree_some h0;exact ⟨by omega,by omega,this.2.2.1⟩
 | none =>
  rw [h0] at h;simp only at h
  cases h1:zff (S.want 1) 0 (S.n 1) with
  | some j =>
   rw [h1] at h;simp only [Option.some.injEq,Prod.mk.injEq] at h;obtain ⟨rfl,rfl⟩:=h;have:=firstFree_some h1;exact ⟨by omega,by omega,this.2.2.1⟩
  | none=>rw [h1] at h;cases h
theorem PS.next_none {S:PS} (h:S.next=none):∀ k i,k<2->i<S.n k->S.want k i=false:=by
 unfold PS.next at h
 cases h0:zff (S.want 0) 0 (S.n 0) with
 | some j=>rw [h0] at h;cases h
 | none =>
  rw [h0] at h;simp only at h
  cases h1:zff (S.want 1) 0 (S.n 1) with
  | some j=>rw [h1] at h;cases h
  | none =>
   intro k i hk hi;have hk2:k=0∨k=1:=by omega
   rcases hk2 with rfl | rfl
   ·exact firstFree_none h0 i (by omega) (by omega)
   ·exact firstFree_none h1 i (by omega) (by omega)
theorem want_p {S:PS} {k i:Nat} (h:S.want k i=true):S.p k i=false:=by
 unfold PS.want at h;simp only [Bool.and_eq_true,Bool.not_eq_true'] at h;exact h.1
theorem PS.left_step {S:PS} {k i:Nat} (hk:k<2) (hi:i<S.n k) (h:S.want k i=true):(S.step k i).left+1=S.left:=by
 have hp:=want_p h;have hk2:k=0∨k=1:=by omega
 unfold PS.left PS.step
 dsimp only
 rcases hk2 with rfl | rfl
 ·have e1:cnt (S.n 1) (fun j => !upd2 S.p 0 i true 1 j)=cnt (S.n 1) (fun j => !S.p 1 j):=cnt_congr fun j _=>by rw [upd2_other _ _ (by omega)]
  have e0:=cnt_upd (p:=fun j => !S.p 0 j) (q:=fun j => !upd2 S.p 0 i true 0 j) hi (fun j _ hj=>by rw [upd2_other _ _ (by omega)]);simp only [upd2_same,hp,Bool.not_true,Bool.not_false,if_true] at e0;simp at e0;omega
 ·have e1:cnt (S.n 0) (fun j => !upd2 S.p 1 i true 0 j)=cnt (S.n 0) (fun j => !S.p 0 j):=cnt_congr fun j _=>by rw [upd2_other _ _ (by omega)]
  have e0:=cnt_upd (p:=fun j => !S.p 1 j) (q:=fun j => !upd2 S.p 1 i true 1 j) hi (fun j _ hj=>by rw [upd2_other _ _ (by omega)]);simp only [upd2_same,hp,Bool.not_true,Bool.not_false,if_true] at e0;simp at e0;omega
theorem PS.left_pos {S:PS} {k i:Nat} (hk:k<2) (hi:i<S.n k) (h:S.want k i=true):0<S.left:=by have:=PS.left_step hk hi h;omega
theorem PS.run_none {S:PS} (h:S.next=none):∀ f,S.run f=S
 | 0=>rfl
 | f+1=>by unfold PS.run;rw [h]
theorem PS.run_some {S:PS} {k i:Nat} (h:S.next=some (k,i)):S.run S.left=(S.step k i).run (S.step k i).left:=by
 have ⟨hk,hi,hw⟩:=PS.next_some h;rw [<- PS.left_step hk hi hw]
 show PS.run (_+1) S=_
 unfold PS.run;rw [h];cases (S.step k i).left <;> rfl
def PS.fin (S:PS):PS:=S.run S.left
theorem PS.fin_none {S:PS} (h:S.next=none):S.fin=S:=PS.run_none h _
theorem PS.fin_some {S:PS} {k i:Nat} (h:S.next=some (k,i)):S.fin=(S.step k i).fin:=PS.run_some h
theorem PS.fin_ind {Q:PS->Prop} (hs:∀ S k i,Q S->k<2->i<S.n k->S.want k i=true->Q (S.step k i)):∀ (m:Nat) (S:PS),S.left<=m->Q S->Q S.fin/\S.fin.next=none:=by
 intro m
 induction m with
 | zero =>
  intro S hl hq
  cases h:S.next with
  | none=>rw [PS.fin_none h];exact ⟨hq,h⟩
  | some ki=>have ⟨a,b,c⟩:=PS.next_some h;have:=PS.left_pos a b c;omega
 | succ m ih =>
  intro S hl hq
  cases h:S.next with
  | none=>rw [PS.fin_none h];exact ⟨hq,h⟩
  | some ki =>
   obtain ⟨k,i⟩:=ki;have ⟨a,b,c⟩:=PS.next_some h;have:=PS.left_step a b c;rw [PS.fin_some h];exact ih _ (by omega) (hs S k i hq a b c)
structure ShOk (T:Tal) (n:Nat->Nat) (a:Nat->Nat->Nat):Prop where
 n0:n 0=pg T.n
 n1:n 1=pg (pg T.n)
 has:∀ k i,k<2->i<n k->a k i≠0->a k i<T.n/\T.now (a k i)≠0
 apart:∀ k i k' i',k<2->i<n k->k'<2->i'<n k'->a k i≠0->a k i=a k' i'->k=k'/\i=i'
theorem down_now {T:Tal} {b:Nat} (hb:b<T.n) (h:T.now b≠0):down T (b:Int)=T.set b (T.now b - 1):=by
 have e:hasB T (b:Int)=true:=(hasB_iff T b).2 (by omega);unfold down downE;simp [e,h]
theorem set_now (T:Tal) (b v i:Nat):(T.set b v).now i=if i=b then v else T.now i:=rfl
theorem step_some {S:PS} {k i b:Nat} (ht:takeR (S.T1 k i) S.K=some b):(S.step k i).T=(S.T1 k i).set b 1/\S.new k i=b:=by
 unfold PS.step PS.new takeT;rw [ht];exact ⟨rfl,rfl⟩
theorem T1_n (S:PS) (k i:Nat):(S.T1 k i).n=S.T.n:=by
 unfold PS.T1;split
 ·rfl
 ·exact down_n _ _
theorem T1_now {S:PS} {k i:Nat} (h:ShOk S.T S.n S.a) (hk:k<2) (hi:i<S.n k) (x:Nat):(S.T1 k i).now x=if x=S.a k i/\S.a k i≠0 then S.T.now x - 1 else S.T.now x:=by
 unfold PS.T1;by_cases h0:S.a k i=0
 ·rw [if_pos h0,if_neg (by rintro ⟨_,h⟩;exact h h0)]
 ·have ⟨h1,h2⟩:=h.has k i hk hi h0
  rw [if_neg h0,down_now h1 h2,set_now];by_cases hx:x=S.a k i
  ·rw [if_pos hx,if_pos ⟨hx,h0⟩,hx]
  ·rw [if_neg hx,if_neg (fun h=>hx h.1)]
theorem T1_kept {S:PS} {k i:Nat} (x:Nat):(S.T1 k i).kept x=S.T.kept x:=by
 unfold PS.T1 down
 split
 ·rfl
 ·split <;> rfl
theorem pg_pos {n:Nat} (h:1<=n):1<=pg n:=by unfold pg;omega
theorem pg_le {n:Nat} : pg n<=n:=by unfold pg;omega
open Go.RowKit Go.Maps
def chgs (T:Tal):List Nat:=(List.range T.n).filter T.changed
theorem mem_chgs {T:Tal} {b:Nat} : b∈chgs T↔b<T.n/\T.changed b=true:=by
 simp [chgs]
theorem chgs_pairwise (T:Tal):(chgs T).Pairwise (· < ·):=List.Pairwise.filter _ List.pairwise_lt_range
theorem chgs_perm {P:Program} {w:World} {kt et bk:Nat} {T:Tal} {D:DataW Unit} (hown:w.ownsMap P kt (plainElem P et) bk (Maps.size D) D) (hkt:P.underlying kt=some (.int .i64))
  (h3:∀ l,Maps.has D l=true->∃ k,k<T.n/\l = .int .i64 (k:Int)/\(T.keptAt k).isSome=true)
  (h4:∀ k v,k<T.n->T.keptAt k=some v->Maps.has D (.int .i64 (k:Int))=true/\∀ z,D.atKey (.int .i64 (k:Int)) z = .lit (.int .u16 (v:Int))) :
  ((chgs T).map (fun b:Nat=>(b:Int))).Perm (intKeys D):=by
 obtain ⟨es,rfl,hp,hkeys⟩:=hown.entries (int_keyed hkt);refine perm_intKeys hp ?_ ?_ ?_
 ·intro p hpm
  have hh:Maps.has (.map es) p.1=true:=by
   rw [has_eq,List.any_eq_true];exact ⟨p,hpm,WideAt.sameKey_self (hkeys p hpm)⟩
  obtain ⟨k,_,hl,_⟩:=h3 _ hh;exact ⟨_,hl⟩
 ·rw [List.Nodup,List.pairwise_map]
  exact (chgs_pairwise T).imp (fun {a b} h e=>by omega)
 ·intro x
  constructor
  ·intro hx
   obtain ⟨b,hb,rfl⟩:=List.mem_map.1 hx;obtain ⟨h1,h2⟩:=mem_chgs.1 hb
   have:T.keptAt b=some (T.kept b):=by
    simp [Tal.changed] at h2;simp [Tal.keptAt,h2]
   exact (h4 b _ h1 this).1
  ·intro hx
   obtain ⟨k,hk,hl,hs⟩:=h3 _ hx;injection hl with _ hl;rw [hl];refine List.mem_map.2 ⟨k,mem_chgs.2 ⟨hk,?_⟩,rfl⟩;unfold Tal.keptAt at hs;unfold Tal.changed;by_cases e:T.now k=T.kept k
   ·rw [if_pos e] at hs;cases hs
   ·simp [e]
theorem chgs_sorted (T:Tal) {ss:List Int} (h:ss.Perm ((chgs T).map (fun b:Nat=>(b:Int)))):ss.mergeSort (fun x y=>decide (x<=y))=(chgs T).map (fun b:Nat=>(b:Int)):=by
 have e:=mergeSort_of_perm_i h
 have s:((chgs T).map (fun b:Nat=>(b:Int))).mergeSort leI=(chgs T).map (fun b:Nat=>(b:Int)):=by
  refine List.mergeSort_of_pairwise ?_;rw [List.pairwise_map];exact (chgs_pairwise T).imp (fun {a b} h=>by simp [leI];omega)
 exact e.trans s
end Go.Proofs.YtkhcaclndepgbaaGreat
namespace Go.Proofs.YtkhcaclndepgbaaGreat
open Go.RowKit Go.Maps Go.Sort Go.Shelf
theorem sortsA (m:Nat):AnyZI.SortsIn Tryz.prog Tryz.sortedA_ren Fence.wide m :=
  ⟨fun blk off cap ss W hH hblk hsz=>callsIn_wide.2 (AnyM.slices_Sort_int Tryz.sortA blk off cap ss W hH hblk hsz),
   fun p cap W=>callsIn_wide.2 (AnyM.slices_Sort_int_none Tryz.sortA p cap W)⟩
def intVs (l:List Nat):List Value:=l.map (fun b:Nat => .int .i64 (b:Int))
theorem changed_at {w:World} {t bc bk:Nat} {T:Tal} (h:TallyAt w t bc bk T) :
  Calls Tryz.prog 79 #[.pointer (some ⟨t,0,none⟩)] w fun e w'=>∃ v,e = .returned v /\
   w'.ownsRow w.heap.size 3 1 v (chgs T).length (intVs (chgs T))/\Below w.heap.size w w':=by
 obtain ⟨D,hown,h2,h3,h4⟩:=h.map;have hperm:=chgs_perm hown Tryz.underlying3 h3 h4;have hsz:Maps.size D<=4096:=by rw [h2];exact zLt (cnt_le _ _) h.n2
 have hmax:Maps.size D<=maxLen:=by unfold maxLen;omega
 have hbytes:Maps.size D*8<=140737488355328:=by omega
 have hbl:=hown.lt;have c1:=h.c1;have HP:=zh hperm;clear hperm h3 h4 h2;refine (callsIn_wide (n:=6)).1 ?_
 have hseq:SeqGives Fence.wide 2 Tryz.prog 167 #[.pointer (some ⟨w.heap.size,0,none⟩)] encZ (fun ss=>ss.Perm (intKeys D)) (Maps.size D) (w.alloc (.cells #[.map (some bk)] 213)) :=
  AnyZI.keys_gives (ρ:=Tryz.keysA_ren) { Tryz.keysA with } Fence.wide _ trivial rfl (by omega) w.heap.size bk (Maps.size D) D _ (by simp) (by simp) (by
   obtain ⟨es,clock,hb,Ft,hs,hD⟩:=hown;exact ⟨es,clock,(Below.heap_alloc _ _ bk hbl).trans hb,Ft,hs,hD⟩)
 have cK:∀ mb W,CallsIn Fence.wide 5 Tryz.prog 131 #[.map mb] W fun e w'=>e = .returned (.func (.func 167) #[] #[.pointer (some ⟨W.heap.size,0,none⟩)])/\w'=W.alloc (.cells #[.map mb] 213):=fun mb W=>AnyZI.keys_in Tryz.keysA Fence.wide 5 trivial rfl mb W;have cS:=AnyZI.sorted_in Tryz.sortedA Fence.wide 5 trivial trivial trivial trivial rfl (by omega) (sortsA _) (enters_of Tryz.func138 (by kernel_rfl) rfl) 167 #[.pointer (some ⟨w.heap.size,0,none⟩)] trivial (enters_of Tryz.func167 (by kernel_rfl) rfl) _ _ hmax hbytes _ hseq
 change CallsIn _ _ Tryz.prog 82 _ _ _ at cS
 have hfK:Fence.wide.fn 131:=trivial;have hfS:Fence.wide.fn 82:=trivial;refine callsIn_of_wp Tryz.func79 rfl trivial ?_ rfl;simp only [Tryz.ntmps79,List.size_toArray,List.length_cons,List.length_nil,Nat.reduceAdd,Nat.reduceSub,Array.replicate_succ,Array.replicate_zero,List.push_toArray,List.append_toArray,List.nil_append,List.cons_append]
 gi_wp2_with (first
  | (gi_at_call 131;refine (cK _ _).mono ?_;rintro e w' ⟨rfl,rfl⟩)
  | (gi_at_call 82;refine cS.mono ?_;rintro e w' ⟨v,ss,rfl,hS,hrow,hnil,hb⟩))
 go_ret;have hs:=chgs_sorted T (ss:=ss) (hS.trans HP.out.symm)
 have hl:ss.length=(chgs T).length:=by
  have:=(hS.trans HP.out.symm).length_eq;simpa using this
 have hm:(ss.mergeSort (fun x y=>decide (x<=y))).map encZ=intVs (chgs T):=by
  rw [hs];simp [intVs,encZ]
 have hrow':=ownsRow_base_a (base':=w.heap.size) hrow (by simp);rw [hl] at hrow';refine ⟨v,rfl,?_,((Below.refl _ w).alloc (zLr _) _).trans (hb.mono (by simp))⟩;rw [<- hm];exact hrow'
end Go.Proofs.YtkhcaclndepgbaaGreat
namespace Go.Proofs.YtkhcaclndepgbaaGreat
open Go.RowKit
def SlI (w:World) (v:Value) (l:List Nat):Prop :=
 (v = .slice none 0 0/\l=[])∨∃ g cap,v = .slice (some ⟨g,0,none⟩) l.length cap/\l.length<=cap/\cap<=maxLen/\g<w.heap.size/\∀ i,i<l.length->w.cell? ⟨g,i,none⟩=some (.int .i64 ((l.getD i 0:Nat):Int))
theorem SlI.of_own {w:World} {base T:Nat} {v:Value} {l:List Nat} (h:w.ownsRow base T 1 v l.length (intVs l)):SlI w v l:=by
 rcases h.2 with ⟨rfl,hl⟩ | ⟨g,cap,cur,rfl,hb,hg,h1,h2,h3,h4⟩
 ·exact .inl ⟨rfl,List.eq_nil_of_length_eq_zero hl⟩
 ·refine .inr ⟨g,cap,rfl,h1,h2,zhl hg,fun i hi=>?_⟩
  rw [zcb hg];have:(cur.toList.take (l.length*1))[i]?=(intVs l)[i]?:=by rw [h4]
  rw [List.getElem?_take,if_pos (by omega)] at this;rw [<- Array.getElem?_toList,this];simp [intVs,List.getElem?_map,zgD,List.getElem?_eq_getElem hi]
theorem SlI.len {w:World} {v:Value} {l:List Nat} (h:SlI w v l):∃ a cap,v = .slice a l.length cap:=by
 rcases h with ⟨rfl,rfl⟩ | ⟨g,cap,rfl,_⟩
 ·exact ⟨none,0,rfl⟩
 ·exact ⟨_,_,rfl⟩
theorem SlI.chg {w w':World} {v:Value} {l:List Nat} {L:List Nat} (h:SlI w v l) (c:Chg L w w') (hv:∀ g,v.ownBlock=some g->g∉L):SlI w' v l:=by
 rcases h with h | ⟨g,cap,rfl,h1,h2,h3,h4⟩
 ·exact .inl h
 ·exact .inr ⟨g,cap,rfl,h1,h2,zLl h3 c.size,fun i hi=>(c.cell (p:=⟨g,i,none⟩) h3 (hv g rfl)).trans (h4 i hi)⟩
theorem ownBlock_new {w:World} {base T n:Nat} {v:Value} {xs:List Value} (h:w.ownsRow base T 1 v n xs):∀ g,v.ownBlock=some g->base<=g/\g<w.heap.size:=h.lt
theorem TallyAt.congr {w:World} {t bc bk:Nat} {T T':Tal} (h:TallyAt w t bc bk T) (hn:T'.n=T.n) (h1:∀ b,b<T.n->T'.now b=T.now b) (h2:∀ b,b<T.n->T'.kept b=T.kept b):TallyAt w t bc bk T':=by
 have ef:T'.frees=T.frees:=by
  unfold Tal.frees;rw [hn];exact cnt_congr fun i hi=>by simp [Tal.free,h1 i hi,h2 i hi]
 have ew:T'.waits=T.waits:=by
  unfold Tal.waits;rw [hn];exact cnt_congr fun i hi=>by simp [Tal.waitB,h1 i hi,h2 i hi]
 have ec:u16s T'.n T'.now=u16s T.n T.now:=by
  rw [hn];unfold u16s;congr 1;funext i
  rw [h1 i i.2]
 refine ⟨by rw [hn];exact h.n1,by rw [hn];exact h.n2,fun i hi=>by rw [hn] at hi;rw [h1 i hi];exact h.now i hi,fun i hi=>by rw [hn] at hi;rw [h2 i hi];exact h.kept i hi,by rw [hn,ef,ew];exact h.top,by rw [ec];exact h.cs,?_,h.ne⟩;rw [hn];exact h.map.congr fun i hi=>by simp [Tal.keptAt,h1 i hi,h2 i hi]
theorem infoInt8:(Tryz.prog.info? 3).map (fun i=>(i.zero,i.size,i.bytes))=some (some (.int .i64 0),1,8):=by kernel_rfl
theorem getV_nat {T:Tal} {k:Nat} (hk:k<T.n):getV T (k:Int)=T.now k:=by
 have:hasB T (k:Int)=true:=(hasB_iff T k).2 (by omega);simp [getV,this]
theorem pages_at {n:Nat} (w:World) (h1:1<=n) (h2:n<=4096):Calls Tryz.prog 91 #[.int .i64 (n:Int)] w fun e w'=>e = .returned (.int .i64 (pg n:Int))/\w=w':=by
 have a1:¬ (n:Int)<1:=by omega
 go_enter Tryz.func91,Tryz.ntmps91;go_wp2_with fail;go_ret;refine ⟨?_,rfl⟩;have e:((n:Int) - 1) / 61+1=((pg n:Nat):Int):=by unfold pg;omega
 simp [e]
theorem need_at {n:Nat} (w:World) (h1:1<=n) (h2:n<=4096):Calls Tryz.prog 21 #[.int .i64 (n:Int)] w fun e w'=>e = .returned (.int .i64 (needN n:Int))/\w=w':=by
 have a1:¬ (n:Int)<1:=by omega
 have p1:=pg_pos h1;have p2:=pg_le (n:=n);have p3:=pg_le (n:=pg n);go_enter Tryz.func21,Tryz.ntmps21;go_wp2_with fail;refine (pages_at w h1 h2).mono ?_;rintro e w' ⟨rfl,rfl⟩;go_wp2_with fail;refine (pages_at w p1 (zLt p2 h2)).mono ?_;rintro e w' ⟨rfl,rfl⟩;go_wp2_with fail;go_ret;refine ⟨?_,rfl⟩;unfold needN;go_num
theorem less_at (a b:Int) (w:World):Calls Tryz.prog 195 #[.int .i64 a,.int .i64 b] w fun e w'=>e = .returned (.bool (decide (a<b)))/\w=w':=by
 have hn:∀ x:Int,Calls Tryz.prog 211 #[.int .i64 x] w fun e w'=>e = .returned (.bool false)/\w=w':=fun x=>by
  go_enter Tryz.func211,Tryz.ntmps211;go_wp2_with fail;go_ret;simp
 go_enter Tryz.func195,Tryz.ntmps195;go_wp2_with fail;refine (hn _).mono ?_;rintro e w' ⟨rfl,rfl⟩;go_wp2_with fail;go_ret;simp
theorem beq_nat {y x:Nat} : ((y:Int)==(x:Int))=true↔y=x:=by rw [beq_iff_eq];omega
def BinR (l : List Nat) (x : Nat) (w : World) (e : Ending) (w' : World) : Prop := ∃ (k : Nat) (b : Bool), e = .returned (.tuple #[.int .i64 (k : Int), .bool b]) /\ k <= l.length /\ (∀ i, i < k -> l.getD i 0 < x) /\ (∀ i, k <= i -> i < l.length -> x <= l.getD i 0) /\
      (b=true↔k<l.length/\l.getD k 0=x)/\w=w'
theorem bin_at {w:World} {v:Value} {l:List Nat} (h:SlI w v l) (hs:l.Pairwise (· < ·)) (hl:l.length<=4096) (x:Nat) (hx:x<=1000000) :
  Calls Tryz.prog 169 #[v,.int .i64 (x:Int)] w (BinR l x w):=by
 obtain ⟨a,c,rfl⟩:=h.len
 have hc:∀ i,i<l.length->∃ g,a=some ⟨g,0,none⟩/\w.cell? ⟨g,i,none⟩=some (.int .i64 ((l.getD i 0:Nat):Int)):=by
  rcases h with ⟨h1,rfl⟩ | ⟨g,cap,h1,_,_,_,h5⟩
  ·intro i hi;simp at hi
  ·injection h1 with h1 h2 h3
   intro i hi;exact ⟨g,h1,h5 i hi⟩
 have hcap:l.length<=c/\c<=maxLen:=by
  rcases h with ⟨h1,rfl⟩ | ⟨g,cap,h1,h2,h3,_,h5⟩
  ·injection h1 with h1 h2 h3;subst h3;simp [maxLen]
  ·injection h1 with h1 h4 h3;subst h3;exact ⟨h2,h3⟩
 have hn:∀ x:Int,Calls Tryz.prog 196 #[.int .i64 x] w fun e w'=>e = .returned (.bool false)/\w=w':=fun x=>by
  go_enter Tryz.func196,Tryz.ntmps196;go_wp2_with fail;go_ret;simp
 have hm:∀ i j,i<j->j<l.length->l.getD i 0<l.getD j 0:=fun i j hij hj=>by
  have:=List.pairwise_iff_getElem.1 hs i j (by omega) hj hij;simpa [zgD,List.getElem?_eq_getElem,hj,show i<l.length by omega] using this
 clear h hs;have HC:=zh hc;have HM:=zh hm;have HCAP:=zh hcap;clear hc hm hcap;go_enter Tryz.func169,Tryz.ntmps169;go_wp2_with fail
 go_loop [7,8] (fun i j=>∃ p q:Nat,i = .int .i64 (p:Int)/\j = .int .i64 (q:Int)/\p<=q/\q<=l.length/\(∀ i,i<p->l.getD i 0<x)/\(∀ i,q<=i->i<l.length->x<=l.getD i 0)) (fun i j=>(intOf j).toNat - (intOf i).toNat)
 case atStart=>exact ⟨0,l.length,rfl,rfl,Nat.zero_le _,zLr _,fun i hi=>by omega,fun i h1 h2=>by omega⟩
 case round =>
  obtain ⟨p,q,rfl,rfl,hpq,hq,hlo,hhi⟩:=hrel;have HLO:=zh hlo;have HHI:=zh hhi;clear hlo hhi;by_cases hlt:p<q
  ·obtain ⟨g,rfl,hcell⟩:=HC.out ((p+q) / 2) (by omega)
   have hcl:=HCAP.out.1;have e1:IntKind.u64.wrap ((p:Int)+(q:Int))=((p+q:Nat):Int):=by rw [IntKind.wrap_u64];omega
   have e2:((p+q:Nat):Int) / 2=(((p+q) / 2:Nat):Int):=by omega
   go_wp2_with (go_at_call 195;refine (less_at _ _ _).mono ?_;rintro e w' ⟨rfl,rfl⟩)
   ·have hx:l.getD ((p+q) / 2) 0<x:=by simpa [zgD] using ‹l[(p+q) / 2]?.getD 0<x›
    refine ⟨⟨(p+q) / 2+1,q,by go_num,rfl,by omega,hq,fun i hi=>?_,HHI.out⟩,by simp [intOf];omega⟩;by_cases e:i=(p+q) / 2
    ·rw [e];exact hx
    ·exact Nat.lt_trans (HM.out i ((p+q) / 2) (by omega) (by omega)) hx
   ·have hx:¬ l.getD ((p+q) / 2) 0<x:=by simpa [zgD] using ‹¬ l[(p+q) / 2]?.getD 0<x›
    refine ⟨⟨p,(p+q) / 2,rfl,by go_num,by omega,by omega,HLO.out,fun i h1 h2=>?_⟩,by simp [intOf];omega⟩;by_cases e:i=(p+q) / 2
    ·rw [e];omega
    ·have:=HM.out ((p+q) / 2) i (by omega) h2
     omega
  ·obtain rfl:p=q:=by omega
   by_cases hpl:p<l.length
   ·obtain ⟨g,rfl,hcell⟩:=HC.out p hpl
    have hcl:=HCAP.out.1;obtain ⟨y,hy⟩:∃ y,y=l.getD p 0:=⟨_,rfl⟩;rw [<- hy] at hcell;have HY:=zh hy;clear hy;by_cases hxy:y=x
    ·subst hxy
     go_wp2_with (go_at_call 196;refine (hn _).mono ?_;rintro e w' ⟨rfl,rfl⟩)
     go_ret2
     exact ⟨p,true,rfl,hq,HLO.out,HHI.out,⟨fun _=>⟨hpl,HY.out.symm⟩,fun _=>rfl⟩,rfl⟩
    ·have hx':¬ (y:Int)=(x:Int):=by omega
     go_wp2_with (go_at_call 196;refine (hn _).mono ?_;rintro e w' ⟨rfl,rfl⟩)
     go_ret2
     exact ⟨p,((y:Int)==(x:Int)),rfl,hq,HLO.out,HHI.out,⟨fun h=>absurd (beq_nat.1 h) hxy,fun h=>absurd (HY.out.trans h.2) hxy⟩,rfl⟩
   ·obtain rfl:p=l.length:=by omega
    go_wp2_with (go_at_call 196;refine (hn _).mono ?_;rintro e w' ⟨rfl,rfl⟩)
    go_ret2
    exact ⟨l.length,false,rfl,hq,HLO.out,HHI.out,by simp,rfl⟩
theorem index_at {w:World} {b o n cap:Nat} {p:Nat->Bool} (hn:n<=4096) (hcap:n<=cap) (hm:cap<=maxLen) (hc:∀ i,i<n->w.cell? ⟨b,o+i,none⟩=some (.bool (p i))) :
  Calls Tryz.prog 194 #[.slice (some ⟨b,o,none⟩) n cap,.bool true] w fun e w'=>(∃ z:Int,e = .returned (.int .i64 z)/\(0<=z↔∃ i,i<n/\p i=true))/\w=w':=by
 have HC:=zh hc;clear hc;go_enter Tryz.func194,Tryz.ntmps194;go_wp2_with fail
 go_loop [8] (fun s=>∃ k:Nat,k<=n/\s = .int .i64 (k:Int)/\∀ i,i<k->p i=false) (fun s=>n - (intOf s).toNat)
 case atStart=>exact ⟨0,Nat.zero_le _,rfl,fun i hi=>by omega⟩
 case round =>
  obtain ⟨k,hk,rfl,hno⟩:=hrel;have HNO:=zh hno;clear hno;by_cases hlt:k<n
  ·have hcell:=HC.out k hlt
   cases hp:p k with
   | true =>
    rw [hp] at hcell;go_wp2_with fail;go_ret;exact ⟨⟨(k:Int),rfl,⟨fun _=>⟨k,hlt,hp⟩,fun _=>by omega⟩⟩,rfl⟩
   | false =>
    rw [hp] at hcell;go_wp2_with fail;refine ⟨⟨k+1,by omega,by go_num,fun i hi=>?_⟩,by simp [intOf];omega⟩;by_cases e:i=k
    ·rw [e];exact hp
    ·exact HNO.out i (by omega)
  ·obtain rfl:k=n:=by omega
   go_wp2_with fail;go_ret;exact ⟨⟨-1,rfl,⟨fun h=>by omega,fun ⟨i,hi,h⟩=>by rw [HNO.out i hi] at h;cases h⟩⟩,rfl⟩
theorem contains_at {w:World} {b o n cap:Nat} {p:Nat->Bool} (hn:n<=4096) (hcap:n<=cap) (hm:cap<=maxLen) (hc:∀ i,i<n->w.cell? ⟨b,o+i,none⟩=some (.bool (p i))) :
  Calls Tryz.prog 168 #[.slice (some ⟨b,o,none⟩) n cap,.bool true] w fun e w'=>(∃ r:Bool,e = .returned (.bool r)/\(r=true↔∃ i,i<n/\p i=true))/\w=w':=by
 go_enter Tryz.func168,Tryz.ntmps168;go_wp2_with fail;refine (index_at hn hcap hm hc).mono ?_;rintro e w' ⟨⟨z,rfl,hz⟩,rfl⟩;by_cases h0:0<=z
 ·have h0':¬ z<0:=by omega
  go_wp2_with fail;go_ret;exact ⟨⟨_,rfl,by simp [h0,<- hz]⟩,rfl⟩
 ·go_wp2_with fail
  go_ret;exact ⟨⟨_,rfl,by simp [h0,<- hz]⟩,rfl⟩
theorem infoI:∃ i0,Tryz.prog.info? 3=some i0/\i0.zero=some (.int .i64 0)/\i0.size=1/\i0.bytes=8:=by
 obtain ⟨i,h1,h2,h3,h4⟩:=info_parts infoInt8;exact ⟨i,h1,h2,h3,h4⟩
theorem growNil_at (n:Nat) (w:World) (h1:1<=n) (h2:n<=100000) :
  Calls Tryz.prog 186 #[.slice none 0 0,.int .i64 (n:Int)] w fun e w'=>∃ v,e = .returned v/\w'.ownsRow w.heap.size 3 1 v 0 []/\Chg [] w w':=by
 obtain ⟨i0,hi,hz,hs,hb⟩:=infoI;have hold:(Builtin.firstCells i0.size 0 (.slice none 0 0)).run Tryz.prog w.drew = .ok #[] w.drew:=run_firstCells_none w.drew i0.size 0 0 0;have hrz:=fun ty=>Lib.run_append_grow_zeros w 27 3 ty 3 i0 (.int .i64 0) .i64 .i64 Tryz.underlying27 Tryz.underlying3 hi hz none 0 0 [] hold n (by omega) (by omega) (by omega) (by omega) (by rw [hb];omega) (growslice_fits (by omega) (by rw [hb];omega));have hG:=grownCap_ge w (0+n) 0 3;have hM:=grownCap_le_maxLen w (0+n) 0 3 (by unfold maxLen;omega);generalize hGG:grownCap w (0+n) 0 3=G at hrz hG hM;clear hGG;rw [Nat.zero_add] at hrz hG;have hG63:G<=9223372036854775807:=by unfold maxLen at hM;omega
 have i1:¬ (n:Int)<0:=by omega
 have i2:(0:Int)<(n:Int):=by omega
 go_enter Tryz.func186,Tryz.ntmps186;go_wp2_with (at_builtin;refine Lib.wpList_append_run _ rfl _ _ _ _ rfl _ _ rfl rfl _ _ (hrz _) ?_);go_ret;refine ⟨_,rfl,⟨rfl,.inr ⟨w.heap.size,G,_,rfl,zLr _,znb w.drew _,Nat.zero_le _,hM,?_,rfl⟩⟩,((Chg.refl [] w).drew.alloc _)⟩;simp [Builtin.zeroCells];omega
theorem intVs_app (a b:List Nat):intVs (a++b)=intVs a++intVs b:=by simp [intVs]
theorem SlI.cells {w:World} {g c:Nat} {l:List Nat} (h:SlI w (.slice (some ⟨g,0,none⟩) l.length c) l):∀ j q,(intVs l)[j]?=some q->w.cell? ((⟨g,0,none⟩:Addr).add j)=some q:=by
 intro j q hj;rcases h with ⟨h1,_⟩ | ⟨g',cap,h1,_,_,_,h5⟩
 ·cases h1
 ·injection h1 with h1 _ _
  injection h1 with h1;injection h1 with h1 _ _;subst h1
  have hjl:j<l.length:=by
   have:=List.getElem?_eq_some_iff.1 hj;obtain ⟨h,_⟩:=this;simpa [intVs] using h
  rw [show (⟨g,0,none⟩:Addr).add j=⟨g,j,none⟩ from by unfold Addr.add;split <;> simp_all];rw [h5 j hjl,<- hj];simp [intVs,zgD,hjl]
theorem wpList_appI {w:World} {ops:Array Oper} {rest:List Oper} {o:Oper} {a:Act} {Q:Exit->Act->World->Prop} (hgd:o.guard=none) (s x:Operand)
  (ho:o.op = .call { callee := .builtin .append,args:=#[s,x],argTypes:=#[27,27] })
  (base:Nat) (v:Value) (l:List Nat) (hs:a.eval s=v) (hown:w.ownsRow base 3 1 v l.length (intVs l))
  (g c:Nat) (m:List Nat) (hx:a.eval x = .slice (some ⟨g,0,none⟩) m.length c) (hin:SlI w (.slice (some ⟨g,0,none⟩) m.length c) m) (hnm:l.length+m.length<=100000) (hbase:base<=w.heap.size)
  (h:∀ v' w',w'.ownsRow base 3 1 v' (l++m).length (intVs (l++m))->w.grownBy w' v.ownBlock->wpList Tryz.prog ops Q rest (a.put o.dst v') w'):wpList Tryz.prog ops Q (o::rest) a w:=by
 obtain ⟨i,h1,h2,h3,h4⟩:=info_parts infoInt8;refine wpList_append_own w hgd s x 27 ho base 3 i (.int .i64 0) 1 8 Tryz.underlying27 h1 h2 h3 h4 rfl (by decide) v l.length _ hs hown ⟨g,0,none⟩ m.length c (intVs m) hx (by simp [intVs]) hin.cells ?_ ?_ ?_ hbase fun v' w' a1 a2 _=>h v' w' (by rw [intVs_app,List.length_append];exact a1) a2
 ·intro u hu
  obtain ⟨q,_,rfl⟩:=List.mem_map.1 hu;rfl
 ·unfold maxLen;omega
 ·omega
theorem own_chg {w w':World} {base n:Nat} {v:Value} {xs:List Value} {L:List Nat} (h:w.ownsRow base 3 1 v n xs) (c:Chg L w w') (hL:∀ k,v.ownBlock=some k->k∉L):w'.ownsRow base 3 1 v n xs:=by
 refine ⟨h.1,?_⟩;rcases h.2 with h | ⟨g,cap,cur,h1,h2,h3,h4⟩
 ·exact .inl h
 ·exact .inr ⟨g,cap,cur,h1,h2,(c.block g (zhl h3) (hL g (by rw [h1];rfl))).trans h3,h4⟩
theorem concat2_at {w:World} {B g0 c0 g1 c1 n0 n1:Nat} {l m:List Nat} (e0:n0=l.length) (e1:n1=m.length) (hB:w.heap[B]?=some (.cells #[.slice (some ⟨g0,0,none⟩) n0 c0,.slice (some ⟨g1,0,none⟩) n1 c1] 27 (0,0)))
  (h0:SlI w (.slice (some ⟨g0,0,none⟩) n0 c0) l) (h1:SlI w (.slice (some ⟨g1,0,none⟩) n1 c1) m) (hl:1<=l.length) (hlm:l.length+m.length<=10000) :
  Calls Tryz.prog 153 #[.slice (some ⟨B,0,none⟩) 2 2] w fun e w'=>∃ v,e = .returned v/\w'.ownsRow w.heap.size 3 1 v (l++m).length (intVs (l++m))/\Chg [] w w':=by
 subst e0 e1;have x0:=zcb hB 0;have x1:=zcb hB 1;simp only [tA1,tA3,tA2] at x0 x1;have lB:=zhl hB;have HB:=zh hB;have H0:=zh h0;have H1:=zh h1;clear hB h0 h1;go_enter Tryz.func153,Tryz.ntmps153;go_wp2_with fail
 go_loop [3,11] (fun n s=>∃ k c:Nat,s = .int .i64 (k:Int)/\n = .int .i64 (c:Int)/\((k=0/\c=0)∨(k=1/\c=l.length)∨(k=2/\c=l.length+m.length))) (fun _ s=>2 - (intOf s).toNat)
 case atStart=>exact ⟨0,0,rfl,rfl,.inl ⟨rfl,rfl⟩⟩
 case round =>
  obtain ⟨k,c,rfl,rfl,⟨rfl,rfl⟩ | ⟨rfl,rfl⟩ | ⟨rfl,rfl⟩⟩:=hrel
  ·have i1:¬ (l.length:Int)<0:=by omega
   go_wp2_with fail
   go_round
   case rel=>exact ⟨1,l.length,rfl,by go_num,.inr (.inl ⟨rfl,rfl⟩)⟩
   case measure=>simp [intOf]
  ·have i1:¬ (l.length:Int)+(m.length:Int)<0:=by omega
   go_wp2_with fail
   go_round
   case rel=>exact ⟨2,l.length+m.length,rfl,by go_num,.inr (.inr ⟨rfl,rfl⟩)⟩
   case measure=>simp [intOf]
  ·go_wp2_with fail
   have cG:=growNil_at (l.length+m.length) w (by omega) (by omega);rw [Int.natCast_add] at cG;refine cG.mono ?_;clear cG;rintro e w1 ⟨v,rfl,hown,hC⟩;have HOWN:=zh hown;have HC:=zh hC;clear hown hC;go_wp2_with fail;have y0:=(HC.out.cell (p:=⟨B,0,none⟩) lB (by simp)).trans x0;have y1:=(HC.out.cell (p:=⟨B,1,none⟩) lB (by simp)).trans x1
   go_loopw [6,27] (fun v s wr=>∃ k:Nat,s = .int .i64 (k:Int)/\∃ L,((k=0/\L=[])∨(k=1/\L=l)∨(k=2/\L=l++m))/\Hid (wr.ownsRow w.heap.size 3 1 v L.length (intVs L)/\Chg [] w wr)) (fun _ s _=>2 - (intOf s).toNat)
   case atStart=>exact ⟨0,rfl,[],.inl ⟨rfl,rfl⟩,⟨HOWN.out,HC.out⟩⟩
   case round =>
    obtain ⟨k,rfl,L,hk,hH⟩:=hrel;have hown:=hH.out.1;have hC:=hH.out.2;clear hH;have HOW:=zh hown;have HCW:=zh hC;have y0:=(hC.cell (p:=⟨B,0,none⟩) lB (by simp)).trans x0;have y1:=(hC.cell (p:=⟨B,1,none⟩) lB (by simp)).trans x1;have hsz:=hC.size;have hbk:∀ k,(Value.ownBlock _=some k)->w.heap.size<=k:=fun k hk=>(hown.lt k hk).1;have HBK:=zh hbk;clear hown hC hbk;rcases hk with ⟨rfl,rfl⟩ | ⟨rfl,rfl⟩ | ⟨rfl,rfl⟩
    ·go_wp2_with (at_builtin;refine wpList_appI rfl _ _ rfl w.heap.size _ [] rfl HOW.out g0 c0 l rfl (H0.out.chg HCW.out (by simp)) (by simp;omega) hsz ?_;intro v' w2 hown2 hg2;have HOWN2:=zh hown2;have HC2:=zh (HCW.out.grown hg2 (fun k hk => .inr (HBK.out k hk)));clear hown2 hg2)
     go_roundw
     case rel=>exact ⟨1,by go_num,l,.inr (.inl ⟨rfl,rfl⟩),⟨HOWN2.out,HC2.out⟩⟩
     case measure=>simp [intOf]
    ·go_wp2_with (at_builtin;refine wpList_appI rfl _ _ rfl w.heap.size _ L rfl HOW.out g1 c1 m rfl (H1.out.chg HCW.out (by simp)) (by omega) hsz ?_;intro v' w2 hown2 hg2;have HOWN2:=zh hown2;have HC2:=zh (HCW.out.grown hg2 (fun k hk => .inr (HBK.out k hk)));clear hown2 hg2)
     go_roundw
     case rel=>exact ⟨2,by go_num,L++m,.inr (.inr ⟨rfl,rfl⟩),⟨HOWN2.out,HC2.out⟩⟩
     case measure=>simp [intOf]
    ·go_wp2_with fail
     go_ret;exact ⟨_,rfl,HOW.out,HCW.out⟩
end Go.Proofs.YtkhcaclndepgbaaGreat
