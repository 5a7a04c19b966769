/- Layer 11 in plain words: a base's state, what the disk has, and what a commit makes of both. · Package base: steps of a commit, and all of them done. · Package base: all steps are done. -/
import Derived.Test.YtkhcaclndepgbaaGreatZn15
set_option linter.unusedVariables false
set_option linter.unusedSimpArgs false
set_option maxRecDepth 100000
set_option maxHeartbeats 20000000
namespace Go.Proofs.YtkhcaclndepgbaaGreat
theorem fl_miss {d:Nat->Nat->Nat} {b:Nat} : ∀ {l:List (Nat × (Nat->Nat))},(∀ x,x∈l->x.1≠b)->fl d l b=d b
 | [],_=>rfl
 | x::r,h=>by
  show fl (fun b=>if b=x.1 then x.2 else d b) r b=d b
  rw [fl_miss (fun y hy=>h y (by simp [hy])),if_neg (fun e=>h x (by simp) e.symm)]
theorem fl_hit {d:Nat->Nat->Nat} {x:Nat × (Nat->Nat)} : ∀ {l:List (Nat × (Nat->Nat))},x∈l->(∀ y,y∈l->y.1=x.1->y.2=x.2)->fl d l x.1=x.2
 | [],h,_=>by cases h
 | y::r,h,hu=>by
  show fl (fun b=>if b=y.1 then y.2 else d b) r x.1=x.2
  by_cases hr:∃ z,z∈r/\z.1=x.1
  ·obtain ⟨z,hz,e⟩:=hr
   have e2:=hu z (by simp [hz]) e;have:=fl_hit (d:=fun b=>if b=y.1 then y.2 else d b) (x:=z) hz (fun u hu' eu=>(hu u (by simp [hu']) (eu.trans e)).trans e2.symm);rw [<- e,this,e2]
  ·rw [fl_miss (fun z hz e=>hr ⟨z,hz,e⟩)]
   rcases List.mem_cons.1 h with rfl | h
   ·rw [if_pos rfl]
   ·exact absurd ⟨x,h,rfl⟩ hr
theorem idxB_congr {n:Nat} {l m:Nat->Nat} (h:∀ i,i<n->l i=m i):idxB n l=idxB n m:=by
 funext i
 unfold idxB idxK;by_cases h0:i=0
 ·rw [if_pos h0,if_pos h0]
 ·rw [if_neg h0,if_neg h0]
  by_cases h1:i<1+2*n
  ·rw [if_pos h1,if_pos h1,h _ (by omega)]
  ·rw [if_neg h1,if_neg h1]
theorem pageI_congr {kind n:Nat} {l m:Nat->Nat} (h:∀ i,i<n->l i=m i):pageI kind n l=pageI kind n m:=by
 unfold pageI;rw [idxB_congr h]
def rowP (kind N:Nat) (l:Nat->Nat) (i:Nat):Nat->Nat:=pageI kind (min 61 (N - 61*i)) fun k=>l (61*i+k)
theorem rowP_congr {kind N:Nat} {l m:Nat->Nat} {i:Nat} (h:∀ b,b<N->b / 61=i->l b=m b):rowP kind N l i=rowP kind N m i :=
 pageI_congr fun k hk=>h _ (by omega) (by omega)
theorem pageI_le {kind n:Nat} {l:Nat->Nat} (hk:kind<=255) (hn:n<=255) (i:Nat):pageI kind n l i<=255:=sealP_le hk (fun i _=>idxK_le hn i) i
structure DiskOk (D:Nat->Nat->Nat) (S:Sup) (N:Nat) (a:Nat->Nat->Nat) (kept:Nat->Nat):Prop where
 sup:∀ i,i<128->D (S.gen % 2) i=pageS S i
 oth:D (1 - S.gen % 2) 0≠6∨∃ S':Sup,S'.Ok/\S'.gen<S.gen/\∀ i,i<128->D (1 - S.gen % 2) i=pageS S' i
 cnt:∀ i,i<pg N->∀ j,j<128->D (a 0 i) j=rowP 5 N kept i j
 dir:∀ i,i<pg (pg N)->∀ j,j<128->D (a 1 i) j=rowP 4 (pg N) (a 0) i j
structure Bs where
 T:Tal
 K:Pk
 a:Nat->Nat->Nat
 fr:Nat->Option (Nat->Nat)
 S:Sup
 Kp:Sup
 D:Nat->Nat->Nat
structure SupOf (S:Sup) (N:Nat) (a:Nat->Nat->Nat):Prop where
 ok:S.Ok
 b:S.blocks=N
 r:∀ i,i<2->S.roots i=if i<pg (pg N) then a 1 i else 0
structure Bs.Ok (B:Bs):Prop where
 n:16<=B.T.n/\B.T.n<=4096
 own:Own B.T (nOf B.T.n) B.a
 a2:∀ k i,k<2->i<nOf B.T.n k->2<=B.a k i
 low:∀ b,b<2->B.T.now b=0/\B.T.kept b=0
 le:∀ b,b<B.T.n->B.T.now b<=65535/\B.T.kept b<=65535
 first:B.K.first=2
 nx:2<=B.K.next/\B.K.next<=B.T.n
 fr:∀ b,b<B.T.n->((B.fr b).isSome=true↔B.T.kept b=0/\B.T.now b≠0)
 fle:∀ b f,b<B.T.n->B.fr b=some f->∀ i,i<128->f i<=255
 s:SupOf B.S B.T.n B.a
 kp:SupOf B.Kp B.T.n B.a
 sg:B.S.gen=B.Kp.gen
 disk:DiskOk B.D B.Kp B.T.n B.a B.T.kept
 dle:∀ b,b<B.T.n->∀ i,i<128->B.D b i<=255
noncomputable def Bs.F (B:Bs):PS:=(PS.start B.T B.K (nOf B.T.n) B.a).fin
noncomputable def Bs.nextS (B:Bs):Sup:=⟨B.S.gen+1,B.S.blocks,fun i=>if i<2 then (if i<pg (pg B.T.n) then B.F.a 1 i else 0) else B.S.roots i,B.S.marks⟩
def Bs.frs (B:Bs):List Nat:=yesTo (fun b=>(B.fr b).isSome) B.T.n
def Bs.frW (B:Bs):List (Nat × (Nat->Nat)):=B.frs.map fun b=>(b,(B.fr b).getD fun _=>0)
def pagesW (F:PS) (N:Nat):List (Nat × (Nat->Nat)):=(yesTo (F.p 0) (pg N)).map fun i=>(F.a 0 i,rowP 5 N F.T.now i)
def dirsW (F:PS) (N:Nat):List (Nat × (Nat->Nat)):=(yesTo (F.p 1) (pg (pg N))).map fun i=>(F.a 1 i,rowP 4 (pg N) (F.a 0) i)
noncomputable def Bs.wr (B:Bs):List (Nat × (Nat->Nat)):=B.frW++(pagesW B.F B.T.n++dirsW B.F B.T.n)
noncomputable def Bs.done (B:Bs):Bs:=⟨B.F.T.keep,B.F.K,B.F.a,fun _=>none,B.nextS,B.nextS,fl (fl B.D B.wr) [(1 - B.Kp.gen % 2,pageS B.nextS)]⟩
def Bs.back (B:Bs):Bs := { B with T:=B.T.back,fr:=fun _=>none,S:=B.Kp }
def Bs.open_ (B:Bs):Bs := { B with T:=B.T.back,K:=⟨2,2,0⟩,fr:=fun _=>none,S:=B.Kp }
def Bs.read (B:Bs) (b:Nat):Nat->Nat:=(B.fr b).getD (B.D b)
def Bs.page (B:Bs) (b:Nat):Prop:=∃ k i,k<2/\i<nOf B.T.n k/\B.a k i=b
theorem pgpg_le {N:Nat} (h:N<=4096):pg (pg N)<=2:=by unfold pg;omega
section
variable {B:Bs}
structure Fins (B:Bs) (F:PS):Prop where
 mid:Mid B.T (nOf B.T.n) B.a F
 next:F.next=none
 fin:Fin B.T (nOf B.T.n) B.a F
 first:F.K.first=2
 a2:∀ k i,k<2->i<nOf B.T.n k->2<=F.a k i
theorem Bs.Ok.fins (h:B.Ok) (hr:(needN B.T.n:Int)<=roomI B.T 2):Fins B B.F:=by
 have hr':(needN B.T.n:Int)<=roomI B.T B.K.first:=by rw [h.first];exact hr
 have hf:B.K.first<=B.K.next:=by rw [h.first];exact h.nx.1
 have h1:1<=B.K.first:=by rw [h.first];omega
 have m:=Mid.fin (K:=B.K) h.own hf h.nx.2 h1 hr';have f:=fin_own (K:=B.K) h.own hf h.nx.2 h1 hr'
 have q:=(PS.fin_ind (Q:=fun S=>PInv S/\S.n=nOf B.T.n/\S.K.first=2/\∀ k i,k<2->i<nOf B.T.n k->2<=S.a k i) (fun S k i hS hk hi hw=>by
   obtain ⟨q1,q2,q3,q4⟩:=hS;obtain ⟨b,ht,b1,b2,b3⟩:=q1.block hk hi hw;have ⟨e1,e2⟩:=step_some ht;refine ⟨q1.step hk hi hw,q2,?_,fun k' i' hk' hi'=>?_⟩
   ·show (takeK (S.T1 k i) S.K).first=2
    rw [(takeK_bd (T:=S.T1 k i) q1.f (by rw [T1_n];exact q1.nx)).2.2.2];exact q3
   ·show 2<=upd2 S.a k i (S.new k i) k' i'
    by_cases e:k'=k/\i'=i
    ·obtain ⟨rfl,rfl⟩:=e
     rw [upd2_same,e2];omega
    ·rw [upd2_other _ _ e];exact q4 k' i' hk' hi') _ (PS.start B.T B.K (nOf B.T.n) B.a) (zLr _)
   ⟨PInv.start h.own.ok hf h.nx.2 hr',rfl,h.first,h.a2⟩).1
 exact ⟨m.1,m.2,f,q.2.2.1,q.2.2.2⟩
theorem Bs.Ok.wr_block (h:B.Ok) (hr:(needN B.T.n:Int)<=roomI B.T 2):∀ x,x∈B.wr->2<=x.1/\x.1<B.T.n/\B.T.kept x.1=0/\(∀ i,i<128->x.2 i<=255):=by
 have f:=h.fins hr;intro x hx;unfold Bs.wr at hx;rw [List.mem_append,List.mem_append] at hx
 have pgx:∀ k i,k<2->i<nOf B.T.n k->B.F.p k i=true->2<=B.F.a k i/\B.F.a k i<B.T.n/\B.T.kept (B.F.a k i)=0:=fun k i hk hi hp=>by
  have:=f.fin.own.ok.has k i hk hi (f.fin.own.nz k i hk hi);refine ⟨f.a2 k i hk hi,?_,(f.mid.new k i hk hi hp).1⟩;have e:=f.fin.tn;have:=this.1
  show B.F.a k i<B.T.n
  rw [<- e];exact this
 rcases hx with hx | hx | hx
 ·obtain ⟨b,hb,rfl⟩:=List.mem_map.1 hx
  obtain ⟨hb,hs⟩:=mem_yesTo.1 hb;have hq:=(h.fr b hb).1 hs;refine ⟨?_,hb,hq.1,?_⟩
  ·show 2<=b
   by_cases e:b<2
   ·exact absurd (h.low b e).1 hq.2
   ·omega
  ·cases hf:B.fr b with
   | none=>rw [hf] at hs;cases hs
   | some f=>intro i hi;simp only [hf,Option.getD_some];exact h.fle b f hb hf i hi
 ·obtain ⟨i,hi,rfl⟩:=List.mem_map.1 hx
  obtain ⟨hi,hp⟩:=mem_yesTo.1 hi;have q:=pgx 0 i (by omega) hi hp;exact ⟨q.1,q.2.1,q.2.2,fun j _=>pageI_le (by omega) (by omega) j⟩
 ·obtain ⟨i,hi,rfl⟩:=List.mem_map.1 hx
  obtain ⟨hi,hp⟩:=mem_yesTo.1 hi;have q:=pgx 1 i (by omega) hi hp;exact ⟨q.1,q.2.1,q.2.2,fun j _=>pageI_le (by omega) (by omega) j⟩
theorem Bs.Ok.wr_fr (h:B.Ok) (hr:(needN B.T.n:Int)<=roomI B.T 2) {b:Nat} {f:Nat->Nat} (hb:b<B.T.n) (hf:B.fr b=some f):fl B.D B.wr b=f:=by
 have F:=h.fins hr;have hs:(B.fr b).isSome=true:=by rw [hf];rfl
 have hx:(b,(B.fr b).getD fun _=>0)∈B.wr:=List.mem_append.2 (.inl (List.mem_map.2 ⟨b,mem_yesTo.2 ⟨hb,hs⟩,rfl⟩))
 have:=fl_hit (d:=B.D) hx (fun y hy e=>by
  unfold Bs.wr at hy;rw [List.mem_append,List.mem_append] at hy;have hn:B.T.now b≠0:=((h.fr b hb).1 hs).2;rcases hy with hy | hy | hy
  ·obtain ⟨c,hc,rfl⟩:=List.mem_map.1 hy
   cases e;rfl
  ·obtain ⟨i,hi,rfl⟩:=List.mem_map.1 hy
   obtain ⟨hi,hp⟩:=mem_yesTo.1 hi;exact absurd ((F.mid.new 0 i (by omega) hi hp).2.1) (by rw [show B.F.a 0 i=b from e];exact hn)
  ·obtain ⟨i,hi,rfl⟩:=List.mem_map.1 hy
   obtain ⟨hi,hp⟩:=mem_yesTo.1 hi;exact absurd ((F.mid.new 1 i (by omega) hi hp).2.1) (by rw [show B.F.a 1 i=b from e];exact hn))
 simp only [hf,Option.getD_some] at this;exact this
theorem Bs.Ok.wr_page (h:B.Ok) (hr:(needN B.T.n:Int)<=roomI B.T 2) {k i:Nat} (hk:k<2) (hi:i<nOf B.T.n k) (hp:B.F.p k i=true) :
  fl B.D B.wr (B.F.a k i)=if k=0 then rowP 5 B.T.n B.F.T.now i else rowP 4 (pg B.T.n) (B.F.a 0) i:=by
 have F:=h.fins hr
 have hx:(B.F.a k i,if k=0 then rowP 5 B.T.n B.F.T.now i else rowP 4 (pg B.T.n) (B.F.a 0) i)∈B.wr:=by
  refine List.mem_append.2 (.inr (List.mem_append.2 ?_))
  match k,hk with
  | 0,_=>exact .inl (List.mem_map.2 ⟨i,mem_yesTo.2 ⟨hi,hp⟩,rfl⟩)
  | 1,_=>exact .inr (List.mem_map.2 ⟨i,mem_yesTo.2 ⟨hi,hp⟩,rfl⟩)
 refine fl_hit (d:=B.D) hx (fun y hy e=>?_);have hn:=(F.mid.new k i hk hi hp);unfold Bs.wr at hy;rw [List.mem_append,List.mem_append] at hy;rcases hy with hy | hy | hy
 ·obtain ⟨c,hc,rfl⟩:=List.mem_map.1 hy
  obtain ⟨hc,hs⟩:=mem_yesTo.1 hc;exact absurd hn.2.1 (by rw [<- show c=B.F.a k i from e];exact ((h.fr c hc).1 hs).2)
 ·obtain ⟨i',hi',rfl⟩:=List.mem_map.1 hy
  obtain ⟨hi',hp'⟩:=mem_yesTo.1 hi';obtain ⟨rfl,rfl⟩:=F.fin.own.ok.apart k i 0 i' hk hi (by omega) hi' (F.fin.own.nz k i hk hi) (show B.F.a k i=B.F.a 0 i' from e.symm);rfl
 ·obtain ⟨i',hi',rfl⟩:=List.mem_map.1 hy
  obtain ⟨hi',hp'⟩:=mem_yesTo.1 hi';obtain ⟨rfl,rfl⟩:=F.fin.own.ok.apart k i 1 i' hk hi (by omega) hi' (F.fin.own.nz k i hk hi) (show B.F.a k i=B.F.a 1 i' from e.symm);rfl
theorem Bs.Ok.wr_kept (h:B.Ok) (hr:(needN B.T.n:Int)<=roomI B.T 2) {b:Nat} (hb:B.T.kept b≠0∨b<2):fl B.D B.wr b=B.D b :=
 fl_miss fun x hx e=>by
  have:=h.wr_block hr x hx;rw [e] at this;rcases hb with hb | hb
  ·exact hb this.2.2.1
  ·omega
theorem Bs.done_D {b:Nat} (hb:2<=b):B.done.D b=fl B.D B.wr b:=by
 show fl (fl B.D B.wr) [(1 - B.Kp.gen % 2,pageS B.nextS)] b=_
 exact fl_miss fun x hx e=>by simp only [zms] at hx;subst hx;simp at e;omega
theorem Bs.Ok.now_done (h:B.Ok) (hr:(needN B.T.n:Int)<=roomI B.T 2) {b:Nat} (h1:¬ B.page b) (h2:¬ B.done.page b):B.done.T.now b=B.T.now b:=by
 have F:=h.fins hr;refine F.mid.rest b fun k i hk hi hp=>⟨fun e=>h2 ⟨k,i,hk,?_,e.symm⟩,fun e=>h1 ⟨k,i,hk,hi,e.symm⟩⟩
 show i<nOf B.F.T.n k
 rw [F.fin.tn];exact hi
theorem Bs.Ok.page_free (h:B.Ok) (hr:(needN B.T.n:Int)<=roomI B.T 2) {b:Nat} (h2:B.done.page b):B.page b∨B.T.now b=0/\B.T.kept b=0:=by
 have F:=h.fins hr;obtain ⟨k,i,hk,hi,rfl⟩:=h2;have hi':i<nOf B.T.n k:=by have:=F.fin.tn;change i<nOf B.F.T.n k at hi;rw [this] at hi;exact hi
 show B.page (B.F.a k i)∨_
 cases hp:B.F.p k i with
 | true=>exact .inr ⟨(F.mid.new k i hk hi' hp).2.1,(F.mid.new k i hk hi' hp).1⟩
 | false=>exact .inl ⟨k,i,hk,hi',(F.mid.same k i hk hi' hp).symm⟩
theorem Bs.Ok.page_gone (h:B.Ok) (hr:(needN B.T.n:Int)<=roomI B.T 2) {b:Nat} (h1:B.page b) (h2:¬ B.done.page b):B.done.T.now b=0:=by
 have F:=h.fins hr;obtain ⟨k,i,hk,hi,rfl⟩:=h1
 cases hp:B.F.p k i with
 | true=>exact (F.mid.new k i hk hi hp).2.2.2.2
 | false =>
  refine absurd ⟨k,i,hk,?_,F.mid.same k i hk hi hp⟩ h2
  show i<nOf B.F.T.n k
  rw [F.fin.tn];exact hi
theorem Bs.Ok.done_ok (h:B.Ok) (hr:(needN B.T.n:Int)<=roomI B.T 2) (hg:B.Kp.gen+1<18446744073709551616):B.done.Ok:=by
 have F:=h.fins hr;have tn:B.done.T.n=B.T.n:=F.fin.tn;have e1:B.done.T.now=B.F.T.now:=rfl;have e2:B.done.T.kept=B.F.T.now:=rfl;have e3:B.done.a=B.F.a:=rfl
 have hal:∀ k i,k<2->i<nOf B.T.n k->B.F.a k i<B.T.n:=fun k i hk hi=>by
  have:=(F.fin.own.ok.has k i hk hi (F.fin.own.nz k i hk hi)).1;have e:=F.fin.tn
  change B.F.a k i<B.F.T.n at this
  rw [e] at this;exact this
 have now_le:∀ b,b<B.T.n->B.F.T.now b<=65535:=fun b hb=>by
  by_cases h2:B.done.page b
  ·obtain ⟨k,i,hk,hi,rfl⟩:=h2
   rw [tn] at hi;have:=F.fin.own.now k i hk hi
   change B.F.T.now (B.F.a k i)=1 at this
   show B.F.T.now (B.F.a k i)<=_
   omega
  ·by_cases h1:B.page b
   ·have:=h.page_gone hr h1 h2
    rw [e1] at this;omega
   ·have:=h.now_done hr h1 h2
    rw [e1] at this;have:=(h.le b hb).1;omega
 have hs:SupOf B.nextS B.T.n B.F.a:=by
  refine ⟨⟨⟨by show 0<B.S.gen+1;omega,by show B.S.gen+1<_;rw [h.sg];exact hg⟩,h.s.ok.blocks,fun i hi=>?_,h.s.ok.marks⟩,h.s.b,fun i hi=>?_⟩
  ·show (if i<2 then (if i<pg (pg B.T.n) then B.F.a 1 i else 0) else B.S.roots i)<B.S.blocks
   rw [h.s.b]
   split
   ·split
    ·exact hal 1 i (by omega) (by assumption)
    ·have:=h.n;omega
   ·have:=h.s.ok.roots i hi
    rw [h.s.b] at this;exact this
  ·show (if i<2 then (if i<pg (pg B.T.n) then B.F.a 1 i else 0) else B.S.roots i)=_
   rw [if_pos hi]
 have lowD:∀ b,b<2->fl B.D B.wr b=B.D b:=fun b hb=>h.wr_kept hr (.inr hb);have pr:B.nextS.gen % 2=1 - B.Kp.gen % 2:=by show (B.S.gen+1) % 2=_;rw [h.sg];omega
 have pr2:1 - B.nextS.gen % 2=B.Kp.gen % 2:=by rw [pr];omega
 have dd:∀ b,2<=b->B.done.D b=fl B.D B.wr b:=fun b hb=>Bs.done_D hb
 have d0:B.done.D (1 - B.Kp.gen % 2)=pageS B.nextS:=by
  show fl (fl B.D B.wr) [(1 - B.Kp.gen % 2,pageS B.nextS)] (1 - B.Kp.gen % 2)=_
  exact if_pos rfl
 have d1:B.done.D (B.Kp.gen % 2)=B.D (B.Kp.gen % 2):=by
  have:B.done.D (B.Kp.gen % 2)=fl B.D B.wr (B.Kp.gen % 2):=fl_miss fun x hx e=>by
   simp only [zms] at hx;subst hx
   change 1 - B.Kp.gen % 2=B.Kp.gen % 2 at e;omega
  rw [this,lowD _ (by omega)]
 have unp:∀ k i,k<2->i<nOf B.T.n k->B.F.p k i=false->B.F.a k i=B.a k i/\B.done.D (B.F.a k i)=B.D (B.a k i):=fun k i hk hi hp=>by
  have e:=F.mid.same k i hk hi hp;refine ⟨e,?_⟩;rw [dd _ (F.a2 k i hk hi),e,h.wr_kept hr (.inl (by rw [h.own.kept k i hk hi];omega))]
 have pld:∀ k i,k<2->i<nOf B.T.n k->B.F.p k i=true->B.done.D (B.F.a k i)=if k=0 then rowP 5 B.T.n B.F.T.now i else rowP 4 (pg B.T.n) (B.F.a 0) i:=fun k i hk hi hp=>by
  rw [dd _ (F.a2 k i hk hi),h.wr_page hr hk hi hp]
 refine { n:=by rw [tn];exact h.n,own:=by rw [tn];exact F.fin.own,a2:=by rw [tn];exact F.a2,low:=?_,le:=?_,first:=F.first,nx:=?_,fr:=?_,fle:=?_,s:=by rw [tn];exact hs,kp:=by rw [tn];exact hs,sg:=rfl,disk:=?_,dle:=?_ }
 ·intro b hb
  have:B.F.T.now b=0:=by
   have:=F.mid.rest b fun k i hk hi hp=>⟨fun e=>by have:=F.a2 k i hk hi;omega,fun e=>by have:=h.a2 k i hk hi;omega⟩;rw [this];exact (h.low b hb).1
  exact ⟨this,this⟩
 ·intro b hb
  rw [tn] at hb;exact ⟨now_le b hb,now_le b hb⟩
 ·have i1:=F.mid.inv.f
  have i2:=F.mid.inv.nx;rw [F.first] at i1;rw [F.fin.tn] at i2;exact ⟨i1,by rw [tn];exact i2⟩
 ·intro b hb
  constructor
  ·intro h;cases h
  ·rintro ⟨h1,h2⟩
   exact absurd h1 h2
 ·intro b f hb hf;cases hf
 ·rw [tn]
  refine ⟨?_,.inr ⟨B.Kp,h.kp.ok,?_,?_⟩,?_,?_⟩
  ·intro i hi
   show B.done.D (B.nextS.gen % 2) i=_
   rw [pr,d0];rfl
  ·show B.Kp.gen<B.S.gen+1
   rw [h.sg];omega
  ·intro i hi
   show B.done.D (1 - B.nextS.gen % 2) i=_
   rw [pr2,d1,h.disk.sup i hi]
  ·intro i hi j hj
   rw [e3,e2]
   cases hp:B.F.p 0 i with
   | true =>
    rw [pld 0 i (by omega) hi hp,if_pos rfl]
   | false =>
    obtain ⟨ea,ed⟩:=unp 0 i (by omega) hi hp;rw [ed,h.disk.cnt i hi j hj];refine congrFun (rowP_congr fun b hb hbi=>?_) j
    have:B.F.T.changed b=false:=by
     cases hc:B.F.T.changed b with
     | false=>rfl
     | true=>have:=F.fin.chg b hb hc;rw [hbi,hp] at this;cases this
    simp only [Tal.changed,bne_eq_false_iff_eq] at this;rw [this,F.mid.kept]
  ·intro i hi j hj
   rw [e3]
   cases hp:B.F.p 1 i with
   | true =>
    rw [pld 1 i (by omega) hi hp,if_neg (by omega)]
   | false =>
    obtain ⟨ea,ed⟩:=unp 1 i (by omega) hi hp;rw [ed,h.disk.dir i hi j hj];refine congrFun (rowP_congr fun b hb hbi=>?_) j;have hw:=want_false (PS.next_none F.next 1 i (by omega) (by rw [F.mid.sn];exact hi)) (F.fin.own.nz 1 i (by omega) hi) hp;rw [if_pos rfl,F.mid.sn] at hw;have:=anyIn_false.1 hw b (by omega) (by omega) hb;exact (F.mid.same 0 b (by omega) hb this).symm
 ·intro b hb i hi
  rw [tn] at hb;by_cases e0:b=1 - B.Kp.gen % 2
  ·rw [e0,d0];exact sealP_le (by omega) (fun i _=>supB_le _ i) i
  ·have:B.done.D b=fl B.D B.wr b:=fl_miss fun x hx e=>by simp only [zms] at hx;subst hx;exact e0 e.symm
   rw [this];exact fl_le (d:=B.D) (n:=B.T.n) B.wr B.D h.dle (fun x hx=>(h.wr_block hr x hx).2.2.2) b hb i hi
theorem Bs.Ok.read_done (h:B.Ok) (hr:(needN B.T.n:Int)<=roomI B.T 2) {b:Nat} (hb:b<B.T.n) (h0:B.T.now b≠0) (h1:¬ B.page b):B.done.read b=B.read b:=by
 have F:=h.fins hr
 have hb2:2<=b:=by
  by_cases e:b<2
  ·exact absurd (h.low b e).1 h0
  ·omega
 show B.done.D b=(B.fr b).getD (B.D b)
 rw [Bs.done_D hb2]
 cases hf:B.fr b with
 | some f=>rw [h.wr_fr hr hb hf];rfl
 | none =>
  rw [h.wr_kept hr]
  ·rfl
  ·refine .inl fun e=>?_
   have:=(h.fr b hb).2 ⟨e,h0⟩;rw [hf] at this;cases this
end
open Go.RowKit
def StepIs (w:World) (dp n:Nat) (v:Value):Option (Nat × (Nat->Nat))->Prop
 | none=>v = .func (.func 87) #[.pointer (some ⟨dp,0,none⟩)] #[]
 | some x=>∃ a b c k o cap:Nat,v = .func (.func 140) #[] #[.pointer (some ⟨a,0,none⟩),.pointer (some ⟨b,0,none⟩),.pointer (some ⟨c,0,none⟩)]/\w.heap[a]?=some (.cells #[.pointer (some ⟨dp,0,none⟩)] 23 (0,0)) /\
   w.heap[b]?=some (.cells #[.int .i64 (x.1:Int)] 3 (0,0))/\w.heap[c]?=some (.cells #[.slice (some ⟨k,o,none⟩) 128 cap] 22 (0,0))/\x.1<n/\128<=cap/\BytesAt w k o 128 x.2/\∃ cur z,w.heap[k]?=some (.cells cur 5 z)
def exec1 (D:Dk):Option (Nat × (Nat->Nat))->Dk
 | none => { D with data:=fl D.data D.waits,waits:=[] }
 | some x => { D with waits:=D.waits++[x] }
def exec (D:Dk) (l:List (Option (Nat × (Nat->Nat)))):Dk:=l.foldl exec1 D
def dkL (dp bb:Nat) (wv:Value) (k:Nat):Prop:=k=dp∨k=bb∨wv.ownBlock=some k
theorem cells_ne {w:World} {a b:Nat} {cs ds:Array Value} {T U:TypeId} {y z:Nat × Nat} (ha:w.heap[a]?=some (.cells cs T y)) (hb:w.heap[b]?=some (.cells ds U z)) (h:T≠U):a≠b:=by
 rintro rfl;rw [ha] at hb;injection hb with hb;injection hb with _ hb;exact h hb
section
variable {w w':World} {dp bb n:Nat} {wv v:Value} {op:Option (Nat × (Nat->Nat))} {D:Dk}
theorem row_neZ {w:World} {base n size p:Nat} {e:TypeId} {v:Value} {xs:List Value} {T:TypeId} {ps:Array Value} {z:Nat × Nat} (h:w.ownsRow base e size v n xs) (hp:w.heap[p]?=some (.cells ps T z)) (hT:e≠T):v.ownBlock≠some p:=by
 rcases h.2 with ⟨rfl,_⟩ | ⟨g,c,cur,rfl,_,hg,_⟩
 ·intro h;cases h
 ·intro e'
  have:g=p:=by simpa [Value.ownBlock] using e'
  subst this;exact cells_ne hg hp hT rfl
theorem StepIs.chg (h:StepIs w dp n v op) (hd:DiskAt w dp bb wv D) {L:List Nat} (c:Chg L w w') (hL:∀ k,k∈L->dkL dp bb wv k∨w.heap.size<=k):StepIs w' dp n v op:=by
 cases op with
 | none=>exact h
 | some x =>
  obtain ⟨a,b,cc,k,o,cap,rfl,h1,h2,h3,h4,h5,h6,cur,z,h7⟩:=h
  have out:∀ {q:Nat} {cs:Array Value} {T:TypeId} {y:Nat × Nat},w.heap[q]?=some (.cells cs T y)->156≠T->169≠T->171≠T->q∉L:=fun {q cs T y} hq t1 t2 t3 hm=>by
   rcases hL q hm with (rfl | rfl | e) | e
   ·exact cells_ne hd.top hq t1 rfl
   ·exact cells_ne hd.blk hq t2 rfl
   ·exact row_neZ hd.wts hq t3 e
   ·have:=zhl hq;omega
  have o1:=out h1 (by decide) (by decide) (by decide);have o2:=out h2 (by decide) (by decide) (by decide);have o3:=out h3 (by decide) (by decide) (by decide);have o7:=out h7 (by decide) (by decide) (by decide);exact ⟨a,b,cc,k,o,cap,rfl,(c.block _ (zhl h1) o1).trans h1,(c.block _ (zhl h2) o2).trans h2,(c.block _ (zhl h3) o3).trans h3,h4,h5,h6.chg c o7,cur,z,(c.block _ (zhl h7) o7).trans h7⟩
theorem StepIs.far (h:StepIs w dp n v op) {L:List Nat} (c:Chg L w w') (hL:∀ k,k∈L->∀ cs T y,w.heap[k]?=some (.cells cs T y)->T≠23/\T≠3/\T≠22/\T≠5):StepIs w' dp n v op:=by
 cases op with
 | none=>exact h
 | some x =>
  obtain ⟨a,b,cc,k,o,cap,rfl,h1,h2,h3,h4,h5,h6,cur,z,h7⟩:=h;have o1:a∉L:=fun hm=>(hL a hm _ _ _ h1).1 rfl;have o2:b∉L:=fun hm=>(hL b hm _ _ _ h2).2.1 rfl;have o3:cc∉L:=fun hm=>(hL cc hm _ _ _ h3).2.2.1 rfl;have o7:k∉L:=fun hm=>(hL k hm _ _ _ h7).2.2.2 rfl;exact ⟨a,b,cc,k,o,cap,rfl,(c.block _ (zhl h1) o1).trans h1,(c.block _ (zhl h2) o2).trans h2,(c.block _ (zhl h3) o3).trans h3,h4,h5,h6.chg c o7,cur,z,(c.block _ (zhl h7) o7).trans h7⟩
theorem StepIs.on (h:StepIs w dp n v op) (c:Chg [] w w'):StepIs w' dp n v op:=h.far c (fun k hk=>by simp at hk)
end
theorem baPut_at {w:World} {dp n at' k o cap:Nat} {f:Nat->Nat} (h4:at'<n) (h5:128<=cap) (h6:BytesAt w k o 128 f) (h7:∃ cur z,w.heap[k]?=some (.cells cur 5 z)) :
  Calls Tryz.prog 84 #[.pointer (some ⟨dp,0,none⟩),.int .i64 (at':Int),.slice (some ⟨k,o,none⟩) 128 cap] w fun e w'=>∃ gf lb,e = .returned (.agg #[.func gf #[] lb])/\StepIs w' dp n (.func gf #[] lb) (some (at',f))/\Chg [] w w':=by
 have hc:=(((Chg.refl [] w).alloc (.cells #[.pointer (some ⟨dp,0,none⟩)] 23)).alloc (.cells #[.int .i64 (at':Int)] 3)).alloc (.cells #[.slice (some ⟨k,o,none⟩) 128 cap] 22);have k2:=znc (w.alloc (.cells #[.pointer (some ⟨dp,0,none⟩)] 23)) (.cells #[.int .i64 (at':Int)] 3) (.cells #[.slice (some ⟨k,o,none⟩) 128 cap] 22);have k1:=znd (w.alloc (.cells #[.pointer (some ⟨dp,0,none⟩)] 23)) (.cells #[.int .i64 (at':Int)] 3) (.cells #[.slice (some ⟨k,o,none⟩) 128 cap] 22);have k0:=((((Chg.refl [] (w.alloc (.cells #[.pointer (some ⟨dp,0,none⟩)] 23))).alloc (.cells #[.int .i64 (at':Int)] 3)).alloc (.cells #[.slice (some ⟨k,o,none⟩) 128 cap] 22)).block w.heap.size (by simp) (by simp)).trans (znb w _);rw [size_alloc'] at k1 k2;obtain ⟨cur,z,hz⟩:=h7;have HK:=zh (zA k0 (zA k1 (zA k2 (zA hc (zA h6 hz)))));clear hc k2 k1 k0 h6 hz;go_enter Tryz.func84,Tryz.ntmps84;go_wp2_with (refine wpList_storeNew rfl 142 (.tmp 6) (.tmp 8) rfl #[.nilFunc] #[.func (.func 140) #[] #[.pointer (some ⟨w.heap.size,0,none⟩),.pointer (some ⟨w.heap.size+1,0,none⟩),.pointer (some ⟨w.heap.size+1+1,0,none⟩)]] (w.heap.size+1+1+1) 1 (by simp) rfl rfl (by kernel_rfl) rfl rfl (by simp [Value.oneCell']) ?_);have k3:=znb (((w.alloc (.cells #[.pointer (some ⟨dp,0,none⟩)] 23)).alloc (.cells #[.int .i64 (at':Int)] 3)).alloc (.cells #[.slice (some ⟨k,o,none⟩) 128 cap] 22)) (.cells #[.func (.func 140) #[] #[.pointer (some ⟨w.heap.size,0,none⟩),.pointer (some ⟨w.heap.size+1,0,none⟩),.pointer (some ⟨w.heap.size+1+1,0,none⟩)]] 142)
 rw [size_alloc',size_alloc',size_alloc'] at k3;have c3:=zcb k3 0;simp only [tA1,tA3] at c3;have hc:=(Chg.refl [] (((w.alloc (.cells #[.pointer (some ⟨dp,0,none⟩)] 23)).alloc (.cells #[.int .i64 (at':Int)] 3)).alloc (.cells #[.slice (some ⟨k,o,none⟩) 128 cap] 22))).alloc (.cells #[.func (.func 140) #[] #[.pointer (some ⟨w.heap.size,0,none⟩),.pointer (some ⟨w.heap.size+1,0,none⟩),.pointer (some ⟨w.heap.size+1+1,0,none⟩)]] 142);refine bodyPost_ret (v := .agg #[.func (.func 140) #[] #[.pointer (some ⟨w.heap.size,0,none⟩),.pointer (some ⟨w.heap.size+1,0,none⟩),.pointer (some ⟨w.heap.size+1+1,0,none⟩)]]) (by simp [results,Tryz.results84,go_sem,Act.put,c3]) rfl ⟨_,_,rfl,?_,HK.out.2.2.2.1.trans hc⟩;have q:=HK.out
 exact ⟨_,_,_,k,o,cap,rfl,(hc.block _ (zhl q.1) (by simp)).trans q.1,(hc.block _ (zhl q.2.1) (by simp)).trans q.2.1,(hc.block _ (zhl q.2.2.1) (by simp)).trans q.2.2.1,h4,h5,(q.2.2.2.2.1.chg q.2.2.2.1 (by simp)).chg hc (by simp),cur,z,
  (hc.block _ (zLl (zhl q.2.2.2.2.2) q.2.2.2.1.size) (by simp)).trans ((q.2.2.2.1.block _ (zhl q.2.2.2.2.2) (by simp)).trans q.2.2.2.2.2)⟩
def ownL (v:Value):List Nat:=match v.ownBlock with | some g=>[g] | none=>[]
theorem zml {v:Value} {g:Nat} : g∈ownL v↔v.ownBlock=some g:=by
 unfold ownL
 cases h:v.ownBlock with
 | none=>simp
 | some x=>simp [eq_comm]
def dkLs (dp bb:Nat) (wv:Value):List Nat:=dp::bb::ownL wv
theorem baPut1_at {w:World} {dp bb a b c k o cap:Nat} {x:Nat × (Nat->Nat)} {wv:Value} {D:Dk} (hd:DiskAt w dp bb wv D) (h1:w.heap[a]?=some (.cells #[.pointer (some ⟨dp,0,none⟩)] 23 (0,0)))
  (h2:w.heap[b]?=some (.cells #[.int .i64 (x.1:Int)] 3 (0,0))) (h3:w.heap[c]?=some (.cells #[.slice (some ⟨k,o,none⟩) 128 cap] 22 (0,0))) (h4:x.1<D.n) (h5:128<=cap) (h6:BytesAt w k o 128 x.2) (hN:D.waits.length<=900000) :
  Calls Tryz.prog 140 #[.pointer (some ⟨a,0,none⟩),.pointer (some ⟨b,0,none⟩),.pointer (some ⟨c,0,none⟩)] w fun e w'=>e = .returned (.int .i64 0)/\∃ wv',DiskAt w' dp bb wv' (exec1 D (some x))/\(∀ g,wv'.ownBlock=some g->wv.ownBlock=some g∨w.heap.size<=g)/\Chg (dkLs dp bb wv) w w':=by
 have cw:=dWrite_at hd h4 h6 h5 hN;have c1:=zcb h1 0;have c2:=zcb h2 0;have c3:=zcb h3 0;simp only [tA1,tA3] at c1 c2 c3;have CW:=zh cw;clear cw hd h1 h2 h3 h6;go_enter Tryz.func140,Tryz.ntmps140;go_wp2_with fail;refine CW.out.mono ?_;rintro e w' ⟨rfl,wv',hd',ho,hc⟩;have HD:=zh (zA hd' (zA ho hc));clear hd' ho hc CW;go_wp2_with fail;go_ret;exact ⟨rfl,wv',HD.out.1,HD.out.2.1,HD.out.2.2 _ (by simp [dkLs]) (fun g hg=>by simp [dkLs,zml,hg])⟩
theorem exec1_n (D:Dk) (x:Option (Nat × (Nat->Nat))):(exec1 D x).n=D.n:=by cases x <;> rfl
theorem exec_snoc (D:Dk) (l:List (Option (Nat × (Nat->Nat)))) (x:Option (Nat × (Nat->Nat))):exec D (l++[x])=exec1 (exec D l) x:=by unfold exec;rw [List.foldl_append];rfl
theorem exec_n (D:Dk):∀ l:List (Option (Nat × (Nat->Nat))),(exec D l).n=D.n
 | []=>rfl
 | x::r=>by
  show (exec (exec1 D x) r).n=D.n
  rw [exec_n (exec1 D x) r,exec1_n]
theorem exec1_waits (D:Dk) (x:Option (Nat × (Nat->Nat))):(exec1 D x).waits.length<=D.waits.length+1:=by
 cases x with
 | none=>simp [exec1]
 | some x=>simp [exec1]
theorem exec_waits:∀ (l:List (Option (Nat × (Nat->Nat)))) (D:Dk),(exec D l).waits.length<=D.waits.length+l.length
 | [],D=>by simp [exec]
 | x::r,D=>by
  show (exec (exec1 D x) r).waits.length<=_
  have:=exec_waits r (exec1 D x);have:=exec1_waits D x;simp only [List.length_cons];omega
theorem baAll_at {w:World} {dp bb base:Nat} {wv v:Value} {D:Dk} {ops:List (Option (Nat × (Nat->Nat)))} {vs:List Value} (hd:DiskAt w dp bb wv D) (hv:w.ownsRow base 142 1 v ops.length vs)
  (hst:∀ (i:Nat) (x:Option (Nat × (Nat->Nat))),ops[i]?=some x->∃ u:Value,vs[i]?=some u/\StepIs w dp D.n u x) (hN:D.waits.length+ops.length<=800000) :
  Calls Tryz.prog 88 #[v] w fun e w'=>e = .returned (.int .i64 0)/\∃ wv',DiskAt w' dp bb wv' (exec D ops)/\(∀ g,wv'.ownBlock=some g->wv.ownBlock=some g∨w.heap.size<=g)/\Chg (dkLs dp bb wv) w w'/\(ops.getLast?=some none->wv' = .slice none 0 0):=by
 obtain ⟨va,vc,rfl,vc1,vc2⟩:=zos hv;have H:=zh (zA hd (zA hv hst));obtain ⟨N,hNN⟩:∃ N,N=ops.length:=⟨_,rfl⟩;rw [<- hNN] at vc1 hN ⊢;have HNN:=zh hNN;clear hd hv hst hNN;go_enter Tryz.func88,Tryz.ntmps88;go_wp2_with fail;go_loopg [8] N (fun gg s wr=>∃ k:Nat,gg=N - k/\k<=N/\s = .int .i64 (k:Int)/\Hid (∃ wk,DiskAt wr dp bb wk (exec D (ops.take k))/\(∀ g,wk.ownBlock=some g->wv.ownBlock=some g∨w.heap.size<=g)/\Chg (dkLs dp bb wv) w wr/\((ops.take k).getLast?=some none->wk = .slice none 0 0)))
 case atStart=>exact ⟨0,rfl,Nat.zero_le _,by go_num,zh ⟨wv,H.out.1,fun g hg => .inl hg,Chg.refl _ _,fun h=>by simp at h⟩⟩
 case round =>
  obtain ⟨k,hgg,hkN,rfl,hX⟩:=hrel;by_cases hk:k<N
  ·obtain ⟨wk,hdk,hok,hck,-⟩:=hX.out
   obtain ⟨x,hx⟩:∃ x,ops[k]?=some x:=⟨_,List.getElem?_eq_getElem (by have:=HNN.out;omega)⟩;obtain ⟨u,hu,hsu⟩:=H.out.2.2 k x hx;have hrow:=H.out.2.1;obtain ⟨g,c,eg,_,_,_,hgl,hcell⟩:=zol hrow (by have:=HNN.out;omega);injection eg with eg1 eg2 eg3;clear eg2 eg3
   have hgs:g∉dkLs dp bb wv:=fun hm=>by
    obtain ⟨g',c',cur,eg',hg'⟩:∃ g' c' cur,(Value.slice va ops.length vc) = .slice (some ⟨g',0,none⟩) ops.length c'/\w.heap[g']?=some (.cells cur 142 (0,0)):=by
     rcases hrow.2 with ⟨_,h0⟩ | ⟨g',c',cur,e',_,hg',_⟩
     ·have:=HNN.out;omega
     ·exact ⟨g',c',cur,e',hg'⟩
    injection eg' with eg' _ _;rw [eg1] at eg';injection eg' with eg';injection eg' with eg';subst eg';simp only [dkLs,List.mem_cons,zml] at hm;rcases hm with e | e | e
    ·exact cells_ne hg' H.out.1.top (by decide) e
    ·exact cells_ne hg' H.out.1.blk (by decide) e
    ·exact row_neZ H.out.1.wts hg' (by decide) e
   have hcu:=(hck.cell (p:=⟨g,k,none⟩) hgl hgs).trans ((hcell k (by have:=HNN.out;omega)).trans hu);have hsk:=hsu.chg H.out.1 hck (fun q hq => .inl (by simpa [dkLs,dkL,zml] using hq));have eN:(exec D (ops.take k)).n=D.n:=exec_n _ _;have eW:(exec D (ops.take k)).waits.length<=800000:=by have:=exec_waits (ops.take k) D;have:=List.length_take_le k ops;have:=HNN.out;omega
   have eT:ops.take (k+1)=ops.take k++[x]:=by rw [List.take_add_one,hx];rfl
   have i1:(k:Int)<(N:Int):=by omega
   have HE:=zh (zA eT (zA hok hck));clear hX hx hu hsu hrow hcell hgs hgl eT hok hck;subst eg1
   cases x with
   | none =>
    obtain rfl:u = .func (.func 87) #[.pointer (some ⟨dp,0,none⟩)] #[]:=hsk;have hcA:=(Chg.refl [] wr).alloc (.cells #[.func (.func 87) #[.pointer (some ⟨dp,0,none⟩)] #[]] 142);have hdA:=hdk.chg hcA (by simp) (by simp) (by simp);have cF:=dFlush_at hdA;have hsb:=znb wr (.cells #[.func (.func 87) #[.pointer (some ⟨dp,0,none⟩)] #[]] 142);have hcb:=zcb hsb 0;simp only [tA1,tA3] at hcb;have HS:=zh (zA hcA cF);clear hdk hcA hdA cF hsb;go_wp2_with (refine wpList_storeNew rfl 142 (.tmp 4) (.tmp 11) rfl #[.nilFunc] #[.func (.func 87) #[.pointer (some ⟨dp,0,none⟩)] #[]] wr.heap.size 1 rfl rfl rfl (by kernel_rfl) rfl rfl (by simp [Value.oneCell']) ?_);refine HS.out.2.mono ?_;rintro e w3 ⟨rfl,hd3,hc3⟩;have HE3:=zh (zA hd3 hc3);clear hd3 hc3 hcb;go_wp2_with fail;go_roundg (N - (k+1))
    case measure=>omega
    case rel =>
     refine ⟨k+1,rfl,by omega,by go_num,zh ⟨.slice none 0 0,?_,(fun g hg=>by cases hg),?_,fun _=>rfl⟩⟩
     ·rw [HE.out.1,exec_snoc];exact HE3.out.1
     ·exact (HE.out.2.2.trans (HS.out.1.mono (by simp))).trans (HE3.out.2.mono (by simp [dkLs]))
   | some x =>
    obtain ⟨a,b,cc,k1,o,cap,rfl,h1,h2,h3,h4,h5,h6,_⟩:=hsk;have hcA:=(Chg.refl [] wr).alloc (.cells #[.func (.func 140) #[] #[.pointer (some ⟨a,0,none⟩),.pointer (some ⟨b,0,none⟩),.pointer (some ⟨cc,0,none⟩)]] 142);have hdA:=hdk.chg hcA (by simp) (by simp) (by simp);have cP:=baPut1_at hdA ((hcA.block a (zhl h1) (by simp)).trans h1) ((hcA.block b (zhl h2) (by simp)).trans h2) ((hcA.block cc (zhl h3) (by simp)).trans h3) (by rw [eN];exact h4) h5 (h6.chg hcA (by simp)) (by omega);have hsb:=znb wr (.cells #[.func (.func 140) #[] #[.pointer (some ⟨a,0,none⟩),.pointer (some ⟨b,0,none⟩),.pointer (some ⟨cc,0,none⟩)]] 142);have hcb:=zcb hsb 0;simp only [tA1,tA3] at hcb;have HS:=zh (zA hcA (zA cP hdk.wlt));have hdw:=hdk;have HDK:=zh hdw;clear hdk hcA hdA cP hsb h1 h2 h3 h4 h5 h6 hdw;go_wp2_with (refine wpList_storeNew rfl 142 (.tmp 4) (.tmp 11) rfl #[.nilFunc] #[.func (.func 140) #[] #[.pointer (some ⟨a,0,none⟩),.pointer (some ⟨b,0,none⟩),.pointer (some ⟨cc,0,none⟩)]] wr.heap.size 1 rfl rfl rfl (by kernel_rfl) rfl rfl (by simp [Value.oneCell']) ?_);refine HS.out.2.1.mono ?_;rintro e w3 ⟨rfl,wv3,hd3,ho3,hc3⟩;have HE3:=zh (zA hd3 (zA ho3 hc3));clear hd3 hc3 hcb ho3;go_wp2_with fail;go_roundg (N - (k+1))
    case measure=>omega
    case rel =>
     have hwl:w.heap.size<=wr.heap.size:=HE.out.2.2.size;refine ⟨k+1,rfl,by omega,by go_num,zh ⟨wv3,?_,(fun g hg=>?_),?_,fun h=>?_⟩⟩
     ·rw [HE.out.1,exec_snoc];exact HE3.out.1
     ·rcases HE3.out.2.1 g hg with h | h
      ·exact HE.out.2.1 g h
      ·exact .inr (by have:=HS.out.1.size;omega)
     ·refine (HE.out.2.2.trans (HS.out.1.mono (by simp))).then HE3.out.2.2 (fun q hq=>?_)
      simp only [dkLs,List.mem_cons,zml] at hq ⊢;rcases hq with e | e | e
      ·exact .inl (.inl e)
      ·exact .inl (.inr (.inl e))
      ·rcases HE.out.2.1 q e with h | h
       ·exact .inl (.inr (.inr h))
       ·exact .inr h
     ·rw [HE.out.1] at h
      simp at h
  ·obtain rfl:k=N:=by omega
   obtain ⟨wk,hdk,hok,hck,hlk⟩:=hX.out;rw [HNN.out,List.take_length] at hdk hlk;have HZ:=zh (zA hdk (zA hok (zA hck hlk)));clear hX hdk hok hck hlk;go_wp2_with fail;go_ret;exact ⟨rfl,wk,HZ.out.1,HZ.out.2.1,HZ.out.2.2.1,HZ.out.2.2.2⟩
end Go.Proofs.YtkhcaclndepgbaaGreat
