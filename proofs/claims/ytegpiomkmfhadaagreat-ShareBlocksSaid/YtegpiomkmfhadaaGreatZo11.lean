/- Layer 10 in plain words: what Place lea -/
import Derived.Test.YtegpiomkmfhadaaGreatZo10
set_option linter.all false
set_option maxRecDepth 100000
set_option maxHeartbeats 20000000
namespace Go.Proofs.YtegpiomkmfhadaaGreat
variable {b n kind N a base size p dp at' k o cap g bb c i m cs x:Nat} {l A:zF} {w:World} {z:Nat × Nat} {v wv:Value} {xs:List Value} {D:Dk} {S:xj}
structure rY (T:zW) (n:zF) (a:Nat->Nat->Nat):Prop where
 ok:JL T n a
 nz:∀ k i,k<2->i<n k->a k i≠0
 now:∀ k i,k<2->i<n k->T.now (a k i)=1
 kept:∀ k i,k<2->i<n k->T.kept (a k i)=1
theorem rY.set {T:zW} {n:zF} {a:Nat->Nat->Nat} (h:rY T n a) {b:Nat} (v:Nat) (hb:∀ k i,k<2->i<n k->a k i≠b):rY (T.set b v) n a:=by
 have e:∀ k i,k<2->i<n k->(T.set b v).now (a k i)=T.now (a k i):=fun k i hk hi=>by rw [Xp,if_neg (hb k i hk hi)]
 refine ⟨⟨h.ok.n0,h.ok.n1,fun k i hk hi h0=>⟨(h.ok.has k i hk hi h0).1,by rw [e k i hk hi];exact (h.ok.has k i hk hi h0).2⟩,h.ok.apart⟩,h.nz,fun k i hk hi=>(e k i hk hi).trans (h.now k i hk hi),h.kept⟩
theorem rY.take {T:zW} {n:zF} {a:Nat->Nat->Nat} (h:rY T n a) (hf:T.free b=true):rY (T.set b 1) n a :=
 h.set 1 fun k i hk hi e=>by
  have:=h.now k i hk hi;rw [e] at this;simp [zW.free,this] at hf
structure BQ (T:zW) (n:zF) (a:Nat->Nat->Nat) (S:PS):Prop where
 inv:Z3 S
 sn:S.n=n
 tn:S.T.n=T.n
 kept:∀ x,S.T.kept x=T.kept x
 same:∀ k i,k<2->i<n k->S.p k i=false->S.a k i=a k i
 new:∀ k i,k<2->i<n k->S.p k i=true->T.kept (S.a k i)=0/\T.now (S.a k i)=0/\S.a k i≠0/\S.T.now (S.a k i)=1/\S.T.now (a k i)=0
 rest:∀ x,(∀ k i,k<2->i<n k->S.p k i=true->x≠S.a k i/\x≠a k i)->S.T.now x=T.now x
 first:1<=S.K.first
structure AQ (n:zF) (S:PS):Prop where
 inv:Z3 S
 sn:S.n=n
 none:∀ k i,k<2->i<n k->S.p k i=false->S.a k i=0
 some:∀ k i,k<2->i<n k->S.p k i=true->S.a k i≠0/\S.T.now (S.a k i)=1
 first:1<=S.K.first
theorem AQ.step {n:zF} {S:PS} (h:AQ n S) {k i:Nat} (hk:k<2) (hi:i<S.n k) (hw:S.want k i=true):AQ n (S.step k i):=by
 have hi':i<n k:=by rw [<- h.sn];exact hi
 have hp:=kT hw;have ea:=h.none k i hk hi' hp;obtain ⟨b,ht,h1,h2,h3⟩:=h.inv.block hk hi hw;have ⟨e1,e2⟩:=XP ht;have eT:S.T1 k i=S.T:=by unfold PS.T1;rw [if_pos ea]
 rw [eT] at h3;simp only [zW.free,Bool.and_eq_true,beq_iff_eq] at h3;have hkb:=(QF (T:=S.T1 k i) h.inv.f (by rw [O7];exact h.inv.nx)).2.2.2;refine ⟨h.inv.step hk hi hw,h.sn,?_,?_,?_⟩
 ·intro k' i' De Iu EL
  by_cases e:k'=k/\i'=i
  ·obtain ⟨rfl,rfl⟩:=e
   have q:(S.step k' i').p k' i'=true:=Yw _ _ _ _;rw [q] at EL;cases EL
  ·have q:(S.step k i).p k' i'=S.p k' i':=xS _ _ e
   have q2:(S.step k i).a k' i'=S.a k' i':=xS _ _ e;rw [q] at EL;rw [q2];exact h.none k' i' De Iu EL
 ·intro k' i' De Iu EL
  rw [e1,eT];by_cases e:k'=k/\i'=i
  ·obtain ⟨rfl,rfl⟩:=e
   have q2:(S.step k' i').a k' i'=b:=by show XO S.a k' i' _ k' i'=b;rw [Yw,e2]
   rw [q2];exact ⟨by have:=h.first;omega,by rw [Xp,if_pos rfl]⟩
  ·have q:(S.step k i).p k' i'=S.p k' i':=xS _ _ e
   have q2:(S.step k i).a k' i'=S.a k' i':=xS _ _ e;rw [q] at EL;rw [q2];have r:=h.some k' i' De Iu EL;refine ⟨r.1,?_⟩;rw [Xp]
   split
   ·rfl
   ·exact r.2
 ·show 1<=(Z2 (S.T1 k i) S.K).first
  rw [hkb];exact h.first
theorem uY (h:16<=n):rY (xH n).T.keep (xH n).n (xH n).a:=by
 have B:=PS.fin_ind (Q:=AQ (qd n)) (fun S k i h hk hi hw=>h.step hk hi hw) _ (PS.start (zW.new n) ⟨2,2,0⟩ (qd n) (fun _ _=>0)) (xd _)
  ⟨Z3.start (Vj (zW.new n)) (xd _) (show 2<=n by omega) (Vk h),rfl,fun _ _ _ _ _=>rfl,(fun _ _ _ _ h=>by cases h),by show 1<=2;omega⟩
 change AQ (qd n) (xH n)/\(xH n).next=none at B
 revert B
 generalize xH n=F;rintro ⟨B,hN⟩
 have hp:∀ k i,k<2->i<F.n k->F.p k i=true:=fun k i hk hi=>by
  cases hp:F.p k i with
  | true=>rfl
  | false =>
   have e:=B.none k i hk (by rw [<- B.sn];exact hi) hp;have w:=PS.next_none hN k i hk hi;unfold PS.want at w;rw [hp,e] at w;simp at w
 have hs:=fun k i hk hi=>B.some k i hk (by rw [<- B.sn];exact hi) (hp k i hk hi);exact ⟨uX B.inv.ok,fun k i hk hi=>(hs k i hk hi).1,fun k i hk hi=>(hs k i hk hi).2,fun k i hk hi=>(hs k i hk hi).2⟩
theorem Vl {d:Nat->Nat->Nat} {b:Nat} : ∀ {l:List (Nat × (Nat->Nat))},(∀ x,x∈l->x.1≠b)->fl d l b=d b
 | [],_=>rfl
 | x::r,h=>by
  show fl (fun b=>if b=x.1 then x.2 else d b) r b=d b
  rw [Vl (fun y hy=>h y (by simp [hy])),if_neg (fun e=>h x zaa e.symm)]
theorem rZ {d:Nat->Nat->Nat} {x:Nat × (Nat->Nat)} : ∀ {l:List (Nat × (Nat->Nat))},x∈l->(∀ y,y∈l->y.1=x.1->y.2=x.2)->fl d l x.1=x.2
 | [],h,_=>by cases h
 | y::r,h,hu=>by
  show fl (fun b=>if b=y.1 then y.2 else d b) r x.1=x.2
  by_cases hr:∃ z,z∈r/\z.1=x.1
  ·obtain ⟨z,hz,e⟩:=hr
   have e2:=hu z (by simp [hz]) e;have:=rZ (d:=fun b=>if b=y.1 then y.2 else d b) (x:=z) hz (fun u hu' eu=>(hu u (by simp [hu']) (eu.trans e)).trans e2.symm);rw [<- e,this,e2]
  ·rw [Vl (fun z hz e=>hr ⟨z,hz,e⟩)]
   rcases ya.1 h with rfl | h
   ·rw [if_pos rfl]
   ·exact absurd ⟨x,h,rfl⟩ hr
def Xi (kind N:Nat) (l:zF) (i:Nat):Nat->Nat:=Qy kind (min 61 (N - 61*i)) fun k=>l (61*i+k)
theorem Vm (hk:kind<=255) (hn:n<=255) (i:Nat):Qy kind n l i<=255:=YY hk (fun i _=>mu hn i) i
structure Ak (D:Nat->Nat->Nat) (S:xj) (N:Nat) (a:Nat->Nat->Nat) (kept:zF):Prop where
 sup:∀ i,i<128->D (S.gen % 2) i=Y8 S i
 oth:D (1 - S.gen % 2) 0≠6∨∃ S':xj,S'.Ok/\S'.gen<S.gen/\∀ i,i<128->D (1 - S.gen % 2) i=Y8 S' i
 cnt:∀ i,i<pg N->∀ j,j<128->D (a 0 i) j=Xi 5 N kept i j
 dir:∀ i,i<pg (pg N)->∀ j,j<128->D (a 1 i) j=Xi 4 (pg N) (a 0) i j
structure Bs where
 T:zW
 K:Pk
 a:Nat->Nat->Nat
 fr:Nat->Option (Nat->Nat)
 S:xj
 Kp:xj
 D:Nat->Nat->Nat
structure iJ (S:xj) (N:Nat) (a:Nat->Nat->Nat):Prop where
 ok:S.Ok
 b:S.blocks=N
 r:∀ i,i<2->S.roots i=if i<pg (pg N) then a 1 i else 0
structure Bs.Ok (B:Bs):Prop where
 n:16<=B.T.n/\B.T.n<=4096
 own:rY B.T (qd B.T.n) B.a
 a2:∀ k i,k<2->i<qd B.T.n k->2<=B.a k i
 low:∀ b,b<2->B.T.now b=0/\B.T.kept b=0
 le:∀ b,b<B.T.n->B.T.now b<=65535/\B.T.kept b<=65535
 first:B.K.first=2
 nx:2<=B.K.next/\B.K.next<=B.T.n
 fr:∀ b,b<B.T.n->((B.fr b).isSome=true↔B.T.kept b=0/\B.T.now b≠0)
 fle:∀ b f,b<B.T.n->B.fr b=some f->∀ i,i<128->f i<=255
 s:iJ B.S B.T.n B.a
 kp:iJ B.Kp B.T.n B.a
 sg:B.S.gen=B.Kp.gen
 disk:Ak B.D B.Kp B.T.n B.a B.T.kept
 dle:∀ b,b<B.T.n->∀ i,i<128->B.D b i<=255
def aV (F:PS) (N:Nat):List (Nat × (Nat->Nat)):=(xm (F.p 0) (pg N)).map fun i=>(F.a 0 i,Xi 5 N F.T.now i)
def iK (F:PS) (N:Nat):List (Nat × (Nat->Nat)):=(xm (F.p 1) (pg (pg N))).map fun i=>(F.a 1 i,Xi 4 (pg N) (F.a 0) i)
def Bs.back (B:Bs):Bs := { B with T:=B.T.back,fr:=fun _=>none,S:=B.Kp }
def Bs.open_ (B:Bs):Bs := { B with T:=B.T.back,K:=⟨2,2,0⟩,fr:=fun _=>none,S:=B.Kp }
def Bs.read (B:Bs) (b:Nat):Nat->Nat:=(B.fr b).getD (B.D b)
def Bs.page (B:Bs) (b:Nat):Prop:=∃ k i,k<2/\i<qd B.T.n k/\B.a k i=b
theorem fW (h:N<=4096):pg (pg N)<=2:=by unfold pg;omega
open Go.RowKit
def qk (w:World) (dp n:Nat) (v:Value):Option (Nat × (Nat->Nat))->Prop
 | none=>v = .func (.func 93) #[zP dp] #[]
 | some x=>∃ a b c k o cap:Nat,v = .func (.func 145) #[] #[zP a,zP b,zP c]/\w.heap[a]?=some (.cells #[zP dp] 46 (0,0)) /\
   w.heap[b]?=some (.cells #[.int .i64 (x.1:Int)] 3 (0,0))/\w.heap[c]?=some (.cells #[.slice (some ⟨k,o,none⟩) 128 cap] 81 (0,0))/\x.1<n/\128<=cap/\zB w k o 128 x.2/\∃ BV z,w.heap[k]?=some (.cells BV 5 z)
def Z5 (D:Dk):Option (Nat × (Nat->Nat))->Dk
 | none => { D with data:=fl D.data D.waits,waits:=[] }
 | some x => { D with waits:=D.waits++[x] }
def ZH (D:Dk) (l:List (Option (Nat × (Nat->Nat)))):Dk:=l.foldl Z5 D
def BA (dp bb:Nat) (wv:Value) (k:Nat):Prop:=k=dp∨k=bb∨wv.ownBlock=some k
theorem xr {cs ds:Array Value} {T U:TypeId} {y:Nat × Nat} (ha:w.heap[a]?=some (.cells cs T y)) (hb:w.heap[b]?=some (.cells ds U z)) (h:T≠U):a≠b:=by
 rintro rfl;rw [ha] at hb;injection hb with hb;injection hb with _ hb;exact h hb
section
variable {w w':World} {dp bb n:Nat} {wv v:Value} {op:Option (Nat × (Nat->Nat))} {D:Dk}
theorem mJ {e:TypeId} {T:TypeId} {ps:Array Value} (h:w.ownsRow base e size v n xs) (hp:w.heap[p]?=some (.cells ps T z)) (hT:e≠T):v.ownBlock≠some p:=by
 rcases h.2 with ⟨rfl,_⟩ | ⟨g,c,BV,rfl,_,hg,_⟩
 ·intro h;cases h
 ·intro e'
  have:g=p:=by simpa [Value.ownBlock] using e'
  subst this;exact xr hg hp hT rfl
theorem qk.chg (h:qk w dp n v op) (hd:xE w dp bb wv D) {L:List Nat} (c:zv L w w') (hL:∀ k,k∈L->BA dp bb wv k∨w.heap.size<=k:=by simp):qk w' dp n v op:=by
 cases op with
 | none=>exact h
 | some x =>
  obtain ⟨a,b,cc,k,o,cap,rfl,h1,h2,h3,h4,h5,h6,BV,z,h7⟩:=h
  have out:∀ {q:Nat} {cs:Array Value} {T:TypeId} {y:Nat × Nat},w.heap[q]?=some (.cells cs T y)->171≠T->227≠T->229≠T->q∉L:=fun {q cs T y} hq t1 t2 t3 hm=>by
   rcases hL q hm with (rfl | rfl | e) | e
   ·exact xr hd.top hq t1 rfl
   ·exact xr hd.blk hq t2 rfl
   ·exact mJ hd.wts hq t3 e
   ·have:=zz hq;omega
  have o1:=out h1 zaf zaf zaf;have o2:=out h2 zaf zaf zaf;have o3:=out h3 zaf zaf zaf;have o7:=out h7 zaf zaf zaf;exact ⟨a,b,cc,k,o,cap,rfl,(c.block _ (zz h1) o1).trans h1,(c.block _ (zz h2) o2).trans h2,(c.block _ (zz h3) o3).trans h3,h4,h5,h6.chg c o7,BV,z,(c.block _ (zz h7) o7).trans h7⟩
theorem qk.far (h:qk w dp n v op) {L:List Nat} (c:zv L w w') (hL:∀ k,k∈L->∀ cs T y,w.heap[k]?=some (.cells cs T y)->T≠46/\T≠3/\T≠81/\T≠5):qk w' dp n v op:=by
 cases op with
 | none=>exact h
 | some x =>
  obtain ⟨a,b,cc,k,o,cap,rfl,h1,h2,h3,h4,h5,h6,BV,z,h7⟩:=h;have o1:a∉L:=fun hm=>(hL a hm _ _ _ h1).1 rfl;have o2:b∉L:=fun hm=>(hL b hm _ _ _ h2).2.1 rfl;have o3:cc∉L:=fun hm=>(hL cc hm _ _ _ h3).2.2.1 rfl;have o7:k∉L:=fun hm=>(hL k hm _ _ _ h7).2.2.2 rfl;exact ⟨a,b,cc,k,o,cap,rfl,(c.block _ (zz h1) o1).trans h1,(c.block _ (zz h2) o2).trans h2,(c.block _ (zz h3) o3).trans h3,h4,h5,h6.chg c o7,BV,z,(c.block _ (zz h7) o7).trans h7⟩
theorem qk.on (h:qk w dp n v op) (c:zv [] w w'):qk w' dp n v op:=h.far c (fun k hk=>by simp at hk)
end
theorem Vn {f:zF} (h4:at'<n) (h5:128<=cap) (h6:zB w k o 128 f) (h7:∃ BV z,w.heap[k]?=some (.cells BV 5 z)) :
  zC 92 #[zP dp,.int .i64 (at':Int),.slice (some ⟨k,o,none⟩) 128 cap] w fun e w'=>∃ gf lb,e = .returned (.agg #[.func gf #[] lb])/\qk w' dp n (.func gf #[] lb) (some (at',f))/\zv [] w w':=by
 have hc:=(((zv.refl [] w).alloc (.cells #[zP dp] 46)).alloc (.cells #[zI at'] 3)).alloc (.cells #[.slice (some ⟨k,o,none⟩) 128 cap] 81);have k2:=cZ (w.alloc (.cells #[zP dp] 46)) (.cells #[zI at'] 3) (.cells #[.slice (some ⟨k,o,none⟩) 128 cap] 81);have k1:=kC (w.alloc (.cells #[zP dp] 46)) (.cells #[zI at'] 3) (.cells #[.slice (some ⟨k,o,none⟩) 128 cap] 81);have k0:=((((zv.refl [] (w.alloc (.cells #[zP dp] 46))).alloc (.cells #[zI at'] 3)).alloc (.cells #[.slice (some ⟨k,o,none⟩) 128 cap] 81)).block w.heap.size zaa zaa).trans (xo w _);rw [zD] at k1 k2;obtain ⟨BV,z,hz⟩:=h7;have HK:=zh (zA k0 (zA k1 (zA k2 (zA hc (zA h6 hz)))));clear hc k2 k1 k0 h6 hz;go_enter Tryz.func92,Tryz.ntmps92;go_wp2_with (refine qZ rfl 181 (.tmp 6) (.tmp 8) rfl #[.nilFunc] #[.func (.func 145) #[] #[zP w.heap.size,zP (w.heap.size+1),zP (w.heap.size+1+1)]] (w.heap.size+1+1+1) 1 zaa rfl rfl zab rfl rfl zaC ?_);have k3:=xo (((w.alloc (.cells #[zP dp] 46)).alloc (.cells #[zI at'] 3)).alloc (.cells #[.slice (some ⟨k,o,none⟩) 128 cap] 81)) (.cells #[.func (.func 145) #[] #[zP w.heap.size,zP (w.heap.size+1),zP (w.heap.size+1+1)]] 181)
 rw [zD,zD,zD] at k3;have c3:=zM k3 0;simp only [tA1,tA3] at c3;have hc:=(zv.refl [] (((w.alloc (.cells #[zP dp] 46)).alloc (.cells #[zI at'] 3)).alloc (.cells #[.slice (some ⟨k,o,none⟩) 128 cap] 81))).alloc (.cells #[.func (.func 145) #[] #[zP w.heap.size,zP (w.heap.size+1),zP (w.heap.size+1+1)]] 181);refine bodyPost_ret (v := .agg #[.func (.func 145) #[] #[zP w.heap.size,zP (w.heap.size+1),zP (w.heap.size+1+1)]]) (by simp [results,Tryz.results92,go_sem,Act.put,c3]) rfl ⟨_,_,rfl,?_,HK.2.2.2.1.trans hc⟩;have q:=HK.o
 exact ⟨_,_,_,k,o,cap,rfl,hc.kp q.1,hc.kp q.2.1,hc.kp q.2.2.1,h4,h5,(q.2.2.2.2.1.chg q.2.2.2.1).chg hc,BV,z,
  (hc.bl (qe (zz q.2.2.2.2.2) q.2.2.2.1.size)).trans (q.2.2.2.1.kp q.2.2.2.2.2)⟩
def qm (v:Value):List Nat:=match v.ownBlock with | some g=>[g] | none=>[]
theorem Xj : g∈qm v↔v.ownBlock=some g:=by
 unfold qm
 cases h:v.ownBlock with
 | none=>simp
 | some x=>simp [eq_comm]
def di (dp bb:Nat) (wv:Value):List Nat:=dp::bb::qm wv
theorem oy {x:Nat × (Nat->Nat)} (hd:xE w dp bb wv D) (h1:w.heap[a]?=some (.cells #[zP dp] 46 (0,0)))
  (h2:w.heap[b]?=some (.cells #[.int .i64 (x.1:Int)] 3 (0,0))) (h3:w.heap[c]?=some (.cells #[.slice (some ⟨k,o,none⟩) 128 cap] 81 (0,0))) (h4:x.1<D.n) (h5:128<=cap) (h6:zB w k o 128 x.2) (hN:D.waits.length<=900000) :
  zC 145 #[zP a,zP b,zP c] w fun e w'=>e = .returned (.int .i64 0)/\∃ LS,xE w' dp bb LS (Z5 D (some x))/\(∀ g,LS.ownBlock=some g->wv.ownBlock=some g∨w.heap.size<=g)/\zv (di dp bb wv) w w':=by
 have cw:=nT hd h4 h6 h5 hN;have c1:=zM h1 0;have c2:=zM h2 0;have c3:=zM h3 0;simp only [tA1,tA3] at c1 c2 c3;have CW:=zh cw;clear cw hd h1 h2 h3 h6;go_enter Tryz.func145,Tryz.ntmps145;go_wp2_with fail;refine CW.mono ?_;rintro e w' ⟨rfl,LS,hd',ho,hc⟩;have HD:=zh (zA hd' (zA ho hc));clear hd' ho hc CW;go_wp2_with fail;go_ret;exact ⟨rfl,LS,HD.1,HD.2.1,HD.2.2 _ (by simp [di]) (fun g hg=>by simp [di,Xj,hg])⟩
theorem uZ (D:Dk) (x:Option (Nat × (Nat->Nat))):(Z5 D x).n=D.n:=by cases x <;> rfl
theorem dV (D:Dk) (l:List (Option (Nat × (Nat->Nat)))) (x:Option (Nat × (Nat->Nat))):ZH D (l++[x])=Z5 (ZH D l) x:=by unfold ZH;rw [List.foldl_append];rfl
theorem r7 (D:Dk):∀ l:List (Option (Nat × (Nat->Nat))),(ZH D l).n=D.n
 | []=>rfl
 | x::r=>by
  show (ZH (Z5 D x) r).n=D.n
  rw [r7 (Z5 D x) r,uZ]
theorem iL (D:Dk) (x:Option (Nat × (Nat->Nat))):(Z5 D x).waits.length<=D.waits.length+1:=by
 cases x with
 | none=>simp [Z5]
 | some x=>simp [Z5]
theorem aW:∀ (l:List (Option (Nat × (Nat->Nat)))) (D:Dk),(ZH D l).waits.length<=D.waits.length+l.length
 | [],D=>by simp [ZH]
 | x::r,D=>by
  show (ZH (Z5 D x) r).waits.length<=_
  have:=aW r (Z5 D x);have:=iL D x;simp only [yu];omega
theorem r8 {ops:List (Option (Nat × (Nat->Nat)))} {vs:List Value} (hd:xE w dp bb wv D) (hv:w.ownsRow base 181 1 v ops.length vs)
  (Ev:∀ (i:Nat) (x:Option (Nat × (Nat->Nat))),ops[i]?=some x->∃ u:Value,vs[i]?=some u/\qk w dp D.n u x) (hN:D.waits.length+ops.length<=800000) :
  zC 95 #[v] w fun e w'=>e = .returned (.int .i64 0)/\∃ LS,xE w' dp bb LS (ZH D ops)/\(∀ g,LS.ownBlock=some g->wv.ownBlock=some g∨w.heap.size<=g)/\zv (di dp bb wv) w w'/\(ops.getLast?=some none->LS = .slice none 0 0):=by
 obtain ⟨va,vc,rfl,vc1,Ns⟩:=XI hv;have H:=zh (zA hd (zA hv Ev));obtain ⟨N,hNN⟩:=zE ops.length;rw [<- hNN] at vc1 hN ⊢;have Gz:=zh hNN;clear hd hv Ev hNN;go_enter Tryz.func95,Tryz.ntmps95;go_wp2_with fail;go_loopg [8] N (fun gg s wr=>∃ k:Nat,gg=N - k/\k<=N/\s = zI k/\Hd (∃ wk,xE wr dp bb wk (ZH D (ops.take k))/\(∀ g,wk.ownBlock=some g->wv.ownBlock=some g∨w.heap.size<=g)/\zv (di dp bb wv) w wr/\((ops.take k).getLast?=some none->wk = .slice none 0 0)))
 case atStart=>exact ⟨0,rfl,yg _,zac,zh ⟨wv,H.1,fun g hg => .inl hg,zv.refl _ _,fun h=>by simp at h⟩⟩
 case round =>
  obtain ⟨k,DM,Fw,rfl,hX⟩:=hrel;by_cases hk:k<N
  ·obtain ⟨wk,IU,Dm,M9,-⟩:=hX.o
   obtain ⟨x,hx⟩:∃ x,ops[k]?=some x:=⟨_,yt (zq Gz.o)⟩;obtain ⟨u,hu,hsu⟩:=H.2.2 k x hx;have Cc:=H.2.1;obtain ⟨g,c,eg,_,_,_,EQ,BX⟩:=aE Cc (zq Gz.o);injection eg with eg1 eg2 eg3;clear eg2 eg3
   have P5:g∉di dp bb wv:=fun hm=>by
    obtain ⟨g',c',BV,PJ,Gp⟩:∃ g' c' BV,(Value.slice va ops.length vc) = zS g' ops.length c'/\w.heap[g']?=some (.cells BV 181 (0,0)):=by
     rcases Cc.2 with ⟨_,h0⟩ | ⟨g',c',BV,e',_,Gp,_⟩
     ·have:=Gz.o;omega
     ·exact ⟨g',c',BV,e',Gp⟩
    injection PJ with PJ _ _;rw [eg1] at PJ;injection PJ with PJ;injection PJ with PJ;subst PJ;simp only [di,ya,Xj] at hm;rcases hm with e | e | e
    ·exact xr Gp H.1.top zaf e
    ·exact xr Gp H.1.blk zaf e
    ·exact mJ H.1.wts Gp zaf e
   have:=(M9.cell (p:=⟨g,k,none⟩) EQ P5).trans ((BX k (zq Gz.o)).trans hu);have Pi:=hsu.chg H.1 M9 (fun q hq => .inl (by simpa [di,BA,Xj] using hq));have eN:(ZH D (ops.take k)).n=D.n:=r7 _ _;have:(ZH D (ops.take k)).waits.length<=800000:=by have:=aW (ops.take k) D;have:=List.length_take_le k ops;have:=Gz.o;omega
   have eT:ops.take (k+1)=ops.take k++[x]:=by rw [List.take_add_one,hx];rfl
   have:(k:Int)<(N:Int):=zo;have HE:=zh (zA eT (zA Dm M9));clear hX hx hu hsu Cc BX P5 EQ eT Dm M9;subst eg1
   cases x with
   | none =>
    obtain rfl:u = .func (.func 93) #[zP dp] #[]:=Pi;have Da:=(zv.refl [] wr).alloc (.cells #[.func (.func 93) #[zP dp] #[]] 181);have WN:=IU.chg Da;have cF:=nU WN;have D8:=xo wr (.cells #[.func (.func 93) #[zP dp] #[]] 181);have Cn:=zM D8 0;simp only [tA1,tA3] at Cn;have HS:=zh (zA Da cF);clear IU Da WN cF D8;go_wp2_with (refine qZ rfl 181 (.tmp 4) (.tmp 11) rfl #[.nilFunc] #[.func (.func 93) #[zP dp] #[]] wr.heap.size 1 rfl rfl rfl zab rfl rfl zaC ?_);refine HS.2.mono ?_;rintro e w3 ⟨rfl,Sv,Ci⟩;have Tv:=zh (zA Sv Ci);clear Sv Ci Cn;go_wp2_with fail;go_roundg (N - (k+1))
    case measure=>omega
    case rel =>
     refine ⟨k+1,rfl,zo,zac,zh ⟨.slice none 0 0,?_,(fun g hg=>by cases hg),?_,fun _=>rfl⟩⟩
     ·rw [HE.1,dV];exact Tv.1
     ·exact (HE.2.2.trans (HS.1.mo)).trans (Tv.2.mono (by simp [di]))
   | some x =>
    obtain ⟨a,b,cc,k1,o,cap,rfl,h1,h2,h3,h4,h5,h6,_⟩:=Pi;have Da:=(zv.refl [] wr).alloc (.cells #[.func (.func 145) #[] #[zP a,zP b,zP cc]] 181);have WN:=IU.chg Da;have cP:=oy WN ((Da.block a (zz h1) zaa).trans h1) ((Da.block b (zz h2) zaa).trans h2) ((Da.block cc (zz h3) zaa).trans h3) (by rw [eN];exact h4) h5 (h6.chg Da) zo;have D8:=xo wr (.cells #[.func (.func 145) #[] #[zP a,zP b,zP cc]] 181);have Cn:=zM D8 0;simp only [tA1,tA3] at Cn;have HS:=zh (zA Da (zA cP IU.wlt));have hdw:=IU;have:=zh hdw;clear IU Da WN cP D8 h1 h2 h3 h4 h5 h6 hdw;go_wp2_with (refine qZ rfl 181 (.tmp 4) (.tmp 11) rfl #[.nilFunc] #[.func (.func 145) #[] #[zP a,zP b,zP cc]] wr.heap.size 1 rfl rfl rfl zab rfl rfl zaC ?_);refine HS.2.1.mono ?_;rintro e w3 ⟨rfl,wv3,Sv,ho3,Ci⟩;have Tv:=zh (zA Sv (zA ho3 Ci));clear Sv Ci Cn ho3;go_wp2_with fail;go_roundg (N - (k+1))
    case measure=>omega
    case rel =>
     have:w.heap.size<=wr.heap.size:=HE.2.2.size;refine ⟨k+1,rfl,zo,zac,zh ⟨wv3,?_,(fun g hg=>?_),?_,fun h=>?_⟩⟩
     ·rw [HE.1,dV];exact Tv.1
     ·rcases Tv.2.1 g hg with h | h
      ·exact HE.2.1 g h
      ·exact .inr (zq HS.1.size)
     ·refine (HE.2.2.trans (HS.1.mo)).then Tv.2.2 (fun q hq=>?_)
      simp only [di,ya,Xj] at hq ⊢;rcases hq with e | e | e
      ·exact .inl (.inl e)
      ·exact .inl (.inr (.inl e))
      ·rcases HE.2.1 q e with h | h
       ·exact .inl (.inr (.inr h))
       ·exact .inr h
     ·rw [HE.1] at h
      simp at h
  ·obtain rfl:k=N:=zo
   obtain ⟨wk,IU,Dm,M9,Co⟩:=hX.o;rw [Gz.o,List.take_length] at IU Co;have HZ:=zh (zA IU (zA Dm (zA M9 Co)));clear hX IU Dm M9 Co;go_wp2_with fail;go_ret;exact ⟨rfl,wk,HZ.1,HZ.2.1,HZ.2.2.1,HZ.2.2.2⟩
def JN (n:Nat) (l:zF):List Nat:=(List.range n).map l
theorem qx (n:Nat) (l:zF):(JN n l).length=n:=by simp [JN]
theorem mK (h:i<n):(JN n l).getD i 0=l i:=by simp [JN,h]
theorem aX (n:Nat) (l:zF):JN (n+1) l=JN n l++[l n]:=by simp [JN,zn]
theorem OD {W:World} {base':Nat} {e:TypeId} (h:W.ownsRow base e size v n xs) (hb:base'<=base):W.ownsRow base' e size v n xs:=by
 refine ⟨h.1,?_⟩;rcases h.2 with h' | ⟨g,cap,BV,rfl,hg,r⟩
 ·exact .inl h'
 ·exact .inr ⟨g,cap,BV,rfl,qh hb hg,r⟩
def aY (n:Nat) (l:zF):List Value:=(List.range n).map fun i => .int .u16 (l i:Int)
theorem k9 (n:Nat) (l:zF):aY (n+1) l=aY n l++[.int .u16 (l n:Int)]:=by simp [aY,zn]
theorem VX (h:w.ownsRow base 98 1 v n (aY n l)) (hl:∀ i,i<n->l i<65536):∃ a c,v = .slice a n c/\n<=c/\c<=maxLen/\ii w a n l:=by
 obtain ⟨a,c,rfl,h1,h2⟩:=XI h;refine ⟨a,c,rfl,h1,h2,hl,fun h0=>?_⟩;obtain ⟨g,c',e,_,_,_,hg,hc⟩:=aE h h0;injection e with e _ _;subst e;refine ⟨g,0,rfl,hg,fun i hi=>?_⟩;rw [yn,hc i zo];simp [aY,hi]
theorem Vo {a:Option Addr} (hn:n<=5000) (hc:n<=c) (hl:∀ i,i<n->l i<65536) (ha:0<n->a=some ⟨g,o,none⟩/\g<w.heap.size/\∀ i,i<n->w.cell? ⟨g,o+i,none⟩=some (.int .i64 (l i:Int))) :
  zC 99 #[.slice a n c] w fun e w'=>∃ v,e = .returned v/\w'.ownsRow w.heap.size 98 1 v n (aY n l)/\zv [] w w':=by
 have HA:=zh ha;have HL:=zh hl;clear ha hl;go_enter Tryz.func99,Tryz.ntmps99;go_wp2_with fail
 go_loopw [3,8] (fun v s wr=>∃ k:Nat,k<=n/\s = zI k/\Hd (wr.ownsRow w.heap.size 98 1 v k (aY k l)/\zv [] w wr)) (fun _ s _=>n - (intOf s).toNat)
 case atStart=>exact ⟨0,yg _,rfl,⟨yO _ _ _ _,zv.refl _ _⟩⟩
 case round =>
  obtain ⟨k,hk,rfl,hH⟩:=hrel;have Fq:=zh hH.1;have DQ:=zh hH.2;have:=hH.2.size;have I1:=zh (fun k hk=>(hH.1.lt k hk).1:∀ k,(Value.ownBlock _=some k)->w.heap.size<=k);by_cases BY:k<n
  ·obtain ⟨rfl,hg,Cs⟩:=HA zo
   have BX:=(hH.2.cell (p:=⟨g,o+k,none⟩) hg zaa).trans (Cs k BY);have hv:=HL k BY;obtain ⟨x,hx⟩:=zE (l k);rw [<- hx] at BX hv;have:IntKind.u16.wrap (x:Int)=(x:Int):=by rw [IntKind.wrap_u16];omega
   have HX:=zh hx;clear Cs hH hx;have HN:=zh (xo wr (.cells #[.int .u16 (x:Int)] 98));have:(k:Int)<(n:Int):=zo
   go_wp2_with (at_builtin;refine Xo _ rfl _ _ 190 rfl w.heap.size 98 (.int .u16 0) 2 Tryz.underlying190 mI rfl _ _ _ rfl (Z4 Fq ((zv.refl [] wr).alloc _) zaa) wr.heap.size 1 (.int .u16 (x:Int)) rfl (zM HN 0) rfl zo zo zae ?_;intro v' w2 Ck C8;have C9:=zh Ck;have BZ:=zh ((DQ.alloc _).grown C8 (fun k hk => .inr (I1 k hk)));clear Ck C8)
   go_roundw
   case rel=>exact ⟨k+1,zo,zac,⟨by rw [k9,<- HX.o];exact C9.o,BZ⟩⟩
   case measure=>simp [intOf];omega
  ·obtain rfl:k=n:=zo
   clear hH;go_wp2_with fail;go_ret;exact ⟨_,rfl,Fq.o,DQ⟩
theorem oA (hi:61*i<n) (hn:n<=5000) (hc:n<=c) (hm:c<=maxLen) :
  zC 151 #[zS g n c,.int .i64 (i:Int)] w fun e w'=>e = .returned (.slice (some ⟨g,61*i,none⟩) (min 61 (n - 61*i)) (c - 61*i))/\w=w':=by
 have:(i:Int)*61=((61*i:Nat):Int):=zo;have:min (((i:Int)+1)*61) (n:Int)=((61*i+min 61 (n - 61*i):Nat):Int):=zo;have:((61*i:Nat):Int)<=((61*i+min 61 (n - 61*i):Nat):Int):=zo;have:((61*i+min 61 (n - 61*i):Nat):Int)<=(c:Int):=zo;have:¬ (61*i=c):=zo;have e3:61*i+min 61 (n - 61*i) - 61*i=min 61 (n - 61*i):=zo;generalize min 61 (n - 61*i)=m at *;go_enter Tryz.func151,Tryz.ntmps151;go_wp2_with fail;rw [e3];go_ret;exact ⟨rfl,rfl⟩
theorem oB (h:ZG w p bb cap wv D) (ha:at'<D.n) (hk:kind=4∨kind=5) (hn:n<=61) (hl:∀ i,i<n->l i<65536) (hf:∀ i,i<128->D.rd at' i=Qy kind n l i) :
  zC 154 #[zP p,.int .u8 (kind:Int),.int .i64 (at':Int),.int .i64 (n:Int)] w fun e w'=>∃ v,e = .returned (.tuple #[v,.int .i64 0])/\w'.ownsRow w.heap.size 3 1 v n (xC (JN n l))/\zv [] w w':=by
 have cr:=J2 h ha;have Dl:=h.rd_le ha;have CR:=zh cr;have HF:=zh (zA Dl hf);have HL:=zh hl;clear cr Dl hf h hl;go_enter Tryz.func154,Tryz.ntmps154;go_wp2_with fail;refine CR.mono ?_;clear CR;rintro e w1 ⟨rfl,al,B5⟩;have D5:zB w1 w.heap.size 0 128 (D.rd at'):=fun i hi=>⟨by rw [yn,zM al,xL hi],HF.1 i hi⟩;have cd:=ir hk hn HL D5 (xd _) zo HF.2;have CD:=zh cd;have Ce:=zh B5;clear cd D5 al B5 hk;go_wp2_with fail;refine CD.mono ?_;clear CD;rintro e w2 ⟨g,c,rfl,q1,q2,q3,q4,q5⟩;have HU:=zh (zA q4 (Ce.trans q5));clear q3 q4 q5 Ce;have:((n:Int) != (n:Int))=false:=zaa
 go_wp2_with fail
 go_loopw [13,41] (fun v s wr=>∃ k:Nat,k<=n/\s = zI k/\Hd (wr.ownsRow w2.heap.size 3 1 v k (xC (JN k l))/\zv [] w2 wr)) (fun _ s _=>n - (intOf s).toNat)
 case atStart=>exact ⟨0,yg _,zac,⟨yO _ _ _ _,zv.refl _ _⟩⟩
 case round =>
  obtain ⟨k,hk,rfl,hH⟩:=hrel;have Fq:=zh hH.1;have DQ:=zh hH.2;have:=hH.2.size;have hsz2:=HU.2.size;have I1:=zh (fun k hk=>(hH.1.lt k hk).1:∀ k,(Value.ownBlock _=some k)->w2.heap.size<=k);by_cases BY:k<n
  ·obtain ⟨g',o,e,hg,Cs⟩:=HU.1.2 zo
   injection e with e;injection e with e1 e2;subst e1;subst e2;have BX:=(hH.2.cell (p:=⟨g,0+k,none⟩) hg zaa).trans (Cs k BY);rw [yn] at BX;have hv:=HL k BY;obtain ⟨x,hx⟩:=zE (l k);rw [<- hx] at BX hv;have HX:=zh hx;clear Cs hH hx;have HN:=zh (xo wr (.cells #[zI x] 3));have:(k:Int)<(n:Int):=zo
   go_wp2_with (at_builtin;refine Xo _ rfl _ _ 32 rfl w2.heap.size 3 (.int .i64 0) 8 Tryz.underlying32 YH rfl _ _ _ rfl (fV Fq ((zv.refl [] wr).alloc _) zaa) wr.heap.size 1 (zI x) rfl (zM HN 0) rfl zo zo zae ?_;intro v' w3 Ck C8;have C9:=zh Ck;have BZ:=zh ((DQ.alloc _).grown C8 (fun k hk => .inr (I1 k hk)));clear Ck C8)
   go_roundw
   case rel=>exact ⟨k+1,zo,zac,⟨by rw [aX,XQ,<- HX.o];exact C9.o,BZ⟩⟩
   case measure=>simp [intOf];omega
  ·obtain rfl:k=n:=zo
   clear hH;go_wp2_with fail;refine bodyPost_ret (by simp [results,Tryz.results154,go_sem]) rfl ⟨_,rfl,OD Fq hsz2,HU.2.trans DQ⟩
theorem vd (hk:61*k<=N):JN (61*k) l++JN (min 61 (N - 61*k)) (fun j=>l (61*k+j))=JN (min (61*(k+1)) N) l:=by
 apply List.ext_getElem?;intro i;by_cases h1:i<61*k
 ·rw [yI (by rw [qx];exact h1)]
  simp only [JN,yT,za h1,za (show i<min (61*(k+1)) N by omega)]
 ·rw [yF (by rw [qx];omega),qx]
  by_cases h2:i<min (61*(k+1)) N
  ·simp only [JN,yT,za h2,za (show i - 61*k<min 61 (N - 61*k) by omega),Option.map_some]
   rw [show 61*k+(i - 61*k)=i by omega]
  ·rw [List.getElem?_eq_none (by rw [qx];omega),List.getElem?_eq_none (by rw [qx];omega)]
theorem Vp {gs:Nat} (h:ZG w p bb cap wv D) (hk:kind=4∨kind=5) (hN:N<=4096) (hm:m=pg N) (DG:m<=cs) (hl:∀ i,i<N->l i<65536) (hg:gs<w.heap.size)
  (ha:∀ i,i<m->w.cell? ⟨gs,i,none⟩=some (.int .i64 (A i:Int))/\2<=A i/\A i<D.n/\∀ j,j<128->D.rd (A i) j=Xi kind N l i j) :
  zC 97 #[zP p,.int .u8 (kind:Int),zS gs m cs,.int .i64 (N:Int)] w fun e w'=>∃ v,e = .returned (.tuple #[v,.int .i64 0])/\w'.ownsRow w.heap.size 3 1 v N (xC (JN N l))/\zv [] w w':=by
 have H:=zh h;have HA:=zh ha;have HL:=zh hl;have HK:=zh hk;have HM:=zh hm;clear h ha hl hk hm;go_enter Tryz.func97,Tryz.ntmps97;go_wp2_with fail
 go_loopw [10,17] (fun v s wr=>∃ k:Nat,k<=m/\s = zI k/\Hd (wr.ownsRow w.heap.size 3 1 v (min (61*k) N) (xC (JN (min (61*k) N) l))/\zv [] w wr)) (fun _ s _=>m - (intOf s).toNat)
 case atStart=>exact ⟨0,yg _,zac,⟨by rw [Nat.mul_zero,Nat.zero_min];exact yO _ _ _ _,zv.refl _ _⟩⟩
 case round =>
  obtain ⟨k,Mr,rfl,hH⟩:=hrel;have Fq:=zh hH.1;have DQ:=zh hH.2;have Dg:=hH.2.size;have I1:=zh (fun k hk=>(hH.1.lt k hk).1:∀ k,(Value.ownBlock _=some k)->w.heap.size<=k);by_cases BY:k<m
  ·obtain ⟨Ef,h2,hn,Rf⟩:=HA k BY
   have BX:=hH.2.ce Ef hg;have Fw:61*k<N:=by have:=HM.o;unfold pg at this;omega
   have HD:=H.chg hH.2;have cl:=ia HD;have cr:=oB (at':=A k) (kind:=kind) (n:=min 61 (N - 61*k)) (l:=fun j=>l (61*k+j)) HD hn HK zo (fun j hj=>HL _ zo) Rf;obtain ⟨x,hx⟩:=zE (A k);obtain ⟨q,hq⟩:=zE (min 61 (N - 61*k));rw [<- hx] at BX hn h2 cr;rw [<- hq] at cr;have CR:=zh (zA cl cr);have hmi:min ((N:Int) - (k:Int)*61) 61=(q:Int):=zo
   have i1:(k:Int)<(m:Int):=zo;have i2:¬ (x:Int)<2:=zo;have i3:¬ (D.n:Int)<=(x:Int):=zo;have HQ:=zh hq;clear Ef Rf hH HD cl cr hx hq;go_wp2_with fail;refine zm CR.1 ?_;go_wp2_with fail;refine CR.2.mono ?_;clear CR;rintro e w1 ⟨v1,rfl,Hg,B5⟩;have hqp:0<q:=zq HQ.o
   have GH:=Y9.of_own (l:=JN q (fun j=>l (61*k+j))) (by rw [qx];exact Hg);obtain ⟨g1,c1,rfl,_⟩:=aE Hg hqp;have ho:=fV Fq B5 zaa;have HS:=zh (zA Hg (zA GH (zA ho B5)));clear Hg GH ho B5;go_wp2_with (at_builtin;refine Xq rfl _ _ rfl w.heap.size _ (JN (min (61*k) N) l) rfl (by rw [qx];exact HS.2.2.1) g1 c1 (JN q (fun j=>l (61*k+j))) (by rw [qx];rfl) (by rw [qx];exact HS.2.1) (by rw [qx,qx];omega) (zq HS.2.2.2.size) ?_;intro v' w3 Ck C8;have C9:=zh Ck;have BZ:=zh (((DQ.trans HS.2.2.2)).grown C8 (fun k hk => .inr (I1 k hk)));clear Ck C8)
   go_roundw
   case rel =>
    refine ⟨k+1,zo,zac,⟨?_,BZ⟩⟩;have h:=C9.o;rw [HQ.o,Nat.min_eq_left (Nat.le_of_lt Fw),vd (Nat.le_of_lt Fw),qx] at h;exact h
   case measure=>simp [intOf];omega
  ·obtain rfl:k=m:=zo
   clear hH;go_wp2_with fail;have eN:min (61*k) N=N:=by have:=HM.o;unfold pg at this;omega
   have ho:=Fq.o;rw [eN] at ho;refine bodyPost_ret (by simp [results,Tryz.results97,go_sem]) rfl ⟨_,rfl,ho,DQ⟩
def Qq (S:xj) (m:Nat) (A:zF) (k:Nat):xj:=⟨S.gen,S.blocks,fun i=>if i<k then (if i<m then A i else 0) else S.roots i,S.marks⟩
def Vq (S:xj) (m:Nat) (A:zF) (k x:Nat):xj:=⟨S.gen,S.blocks,fun i=>if i=k then x else (Qq S m A k).roots i,S.marks⟩
theorem QI {r r' u:zF} (h:2<=i->i<10->r (i - 2)=r' (i - 2)):(xj.mk g b r u).valS i=(xj.mk g b r' u).valS i:=by
 unfold xj.valS;by_cases h0:i=0
 ·rw [if_pos h0,if_pos h0]
 ·rw [if_neg h0,if_neg h0]
  by_cases h1:i=1
  ·rw [if_pos h1,if_pos h1]
  ·rw [if_neg h1,if_neg h1]
   by_cases h2:i<10
   ·rw [if_pos h2,if_pos h2];exact h zo h2
   ·rw [if_neg h2,if_neg h2]
theorem mL (g b:Nat) (r u:zF) (hk:k<8):(xj.mk g b r u).valS (2+k)=r k:=by
 unfold xj.valS;rw [if_neg zo,if_neg zo,if_pos zo,yA]
theorem iM (hk:k<8):n8 (2+k) x = .int .u32 (x:Int):=by unfold n8;rw [if_neg zo,if_pos zo]
theorem iO (hk:k<8) (x:Nat):(Qq S m A k).row.setIfInBounds (2+k) (.int .u32 (x:Int))=(Vq S m A k x).row:=by
 have:=Q2 (S:=Qq S m A k) (S':=Vq S m A k x) (k:=2+k) zo (fun i hi BU=>QI (fun h2 h10=>if_neg zo));rw [show (Vq S m A k x).valS (2+k)=x from (mL _ _ _ _ hk).trans (if_pos rfl),iM hk] at this;exact this
theorem iP (hk:k<8) (x y:Nat):(Vq S m A k x).row.setIfInBounds (2+k) (.int .u32 (y:Int))=(Vq S m A k y).row:=by
 have:=Q2 (S:=Vq S m A k x) (S':=Vq S m A k y) (k:=2+k) zo (fun i hi BU=>QI (fun h2 h10=>by rw [if_neg zo,if_neg zo]));rw [show (Vq S m A k y).valS (2+k)=y from (mL _ _ _ _ hk).trans (if_pos rfl),iM hk] at this;exact this
theorem aZ (hx:x=if k<m then A k else 0):(Vq S m A k x).row=(Qq S m A (k+1)).row :=
 XK fun i hi=>QI fun h2 h10=>by
  show (if i - 2=k then x else if i - 2<k then (if i - 2<m then A (i - 2) else 0) else S.roots (i - 2))=if i - 2<k+1 then (if i - 2<m then A (i - 2) else 0) else S.roots (i - 2)
  by_cases e:i - 2=k
  ·rw [if_pos e,if_pos (show i - 2<k+1 by omega),hx,e]
  ·rw [if_neg e]
   by_cases e2:i - 2<k
   ·rw [if_pos e2,if_pos (show i - 2<k+1 by omega)]
   ·rw [if_neg e2,if_neg (show ¬ i - 2<k+1 by omega)]
theorem OE {a:Option Addr} (hm:m<=2) (hc:m<=cs) (ha:∀ i,i<m->∃ g,a=some ⟨g,0,none⟩/\g<w.heap.size/\w.cell? ⟨g,i,none⟩=some (.int .i64 (A i:Int))/\A i<4294967296) :
  zC 91 #[.agg S.row,.slice a m cs] w fun e w'=>e = .returned (.agg (Qq S m A 2).row)/\zv [] w w':=by
 have HA:=zh ha;clear ha;have k0:=kC w (.cells S.row 56) (.cells YA 56);have k1:=cZ w (.cells S.row 56) (.cells YA 56);have hcC:=((zv.refl [] w).alloc (.cells S.row 56)).alloc (.cells YA 56);obtain ⟨W0,D4⟩:=zE ((w.alloc (.cells S.row 56)).alloc (.cells YA 56));rw [<- D4] at k0 k1 hcC;rw [<- q9] at k1;have FI:S.row=(Qq S m A 0).row:=XK fun i hi=>QI (r:=S.roots) (fun _ _=>by rw [if_neg zo]);rw [FI] at k0;have HK:=zh (zA k0 (zA k1 hcC));unfold YA at D4;clear k0 k1 hcC FI;go_enter Tryz.func91,Tryz.ntmps91;go_upto_region 1 with fail;rw [<- D4];clear D4;obtain ⟨xb,C5⟩:=zE w.heap.size;rw [<- C5] at HK ⊢;have If:=zh C5;clear C5;go_wp2_with fail;go_loopg [6] 2 (fun gg s wr=>∃ k:Nat,gg=2 - k/\k<=2/\s = .int .i64 (k:Int)/\Hd (zv [xb] W0 wr/\wr.heap[xb]?=some (.cells (Qq S m A k).row 56 (0,0))))
 case atStart=>exact ⟨0,rfl,yg _,zac,zh ⟨zv.refl _ _,HK.1⟩⟩
 case round =>
  obtain ⟨k,DM,Cy,rfl,hX⟩:=hrel;by_cases hk:k<2
  ·have c0:=xj.cell hX.2 (i:=2+k) zo
   have f0:=xB hX.2 (2+k);have l0:=zz hX.2;have:(k:Int)<2:=zo
   have:(k:Int)<8:=zo;have h1:=Yh hX.2 (2+k) (.int .u32 ((0:Nat):Int));rw [iO zo] at h1;have B5:zv [xb] W0 (wr.setCell ⟨xb,2+k,none⟩ (.int .u32 ((0:Nat):Int))):=hX.1.setCell (.inl zaa) _;have H1:=zh (zA h1 B5);have:xb<(wr.setCell ⟨xb,2+k,none⟩ (.int .u32 ((0:Nat):Int))).heap.size:=zz h1;clear hX h1 B5;go_upto_region 5 with fail;rw [show (0:Int)=((0:Nat):Int) from rfl];generalize wr.setCell ⟨xb,2+k,none⟩ (.int .u32 ((0:Nat):Int))=w1 at *;clear c0 f0 l0;by_cases Mr:k<m
   ·obtain ⟨g,rfl,hg,BX,hA⟩:=HA k Mr
    have Dv:=HK.2.2.ce BX hg;have Ss:=(H1.2.cell (p:=⟨g,k,none⟩) (by show g<W0.heap.size;have:=HK.2.2.size;omega) (by simp only [zms];have:=If.o;omega)).trans Dv;have c0:=xj.cell H1.1 (i:=2+k) zo;have f0:=xB H1.1 (2+k);obtain ⟨x,hx⟩:=zE (A k);rw [<- hx] at Ss hA;have:IntKind.u32.wrap (x:Int)=(x:Int):=by rw [IntKind.wrap_u32];omega
    have h2:=Yh H1.1 (2+k) (.int .u32 (x:Int));rw [iP zo,aZ (by rw [if_pos Mr];exact hx)] at h2;have H2:=zh (zA h2 (H1.2.setCell (.inl zaa) (.int .u32 (x:Int)) (p:=⟨xb,2+k,none⟩)));have i3:(k:Int)<(m:Int):=zo
    clear Dv BX h2 hx;go_wp2_with fail;go_roundg (2 - (k+1))
    case measure=>omega
    case rel=>exact ⟨k+1,rfl,zo,zac,zh ⟨H2.2,H2.1⟩⟩
   ·have i3:¬ (k:Int)<(m:Int):=zo
    have h2:=H1.1;rw [aZ (by rw [if_neg Mr])] at h2;have H2:=zh h2;clear h2;go_wp2_with fail;go_roundg (2 - (k+1))
    case measure=>omega
    case rel=>exact ⟨k+1,rfl,zo,zac,zh ⟨H1.2,H2⟩⟩
  ·obtain rfl:k=2:=zo
   have Dz:=(hX.1.block (xb+1) (zz HK.2.1) zaa).trans HK.2.1;have HX:=zh (zA hX.1 (zA hX.2 Dz));clear hX Dz
   go_wp2_with (first
    | (refine YZ (S:=Qq S m A 2) rfl (.tmp 2) rfl (k:=xb) (o:=0) rfl (xj.cells HX.2.1) ?_)
    | (refine xY (t:=56) (T:=56) (b:=xb+1) (o:=0) (n:=18) (N:=18) (V:=Xh.cellV) (U:=(Qq S m A 2).cellV) rfl (.tmp 4) (.tmp 25) rfl rfl rfl HX.2.2 zo Yv (fun i _=>xj.cell_one _ i) ?_;intro w9 EF FU;have H9:=zh (zA EF FU);clear EF FU))
   have EF:=H9.1;rw [YF] at EF;refine bodyPost_ret (VU (a:=4) zab rfl (QB (xj.cells EF))) rfl ⟨rfl,?_⟩;exact HK.2.2.then ((HX.1.mono (L':=[xb,xb+1]) zaa).trans (H9.2.mo)) (fun q hq=>by simp only [ya,yk,or_false] at hq;have:=If.o;rcases hq with e | e <;> exact .inr zo)
end Go.Proofs.YtegpiomkmfhadaaGreat
