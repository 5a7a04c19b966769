/- Layer 11 in plain words: what Format le -/
import Derived.Test.YtegpiomkmfhadaaGreatZo19
set_option linter.all false
set_option maxRecDepth 100000
set_option maxHeartbeats 20000000
namespace Go.Proofs.YtegpiomkmfhadaaGreat
variable {N:Nat} {F:PS}
structure sZ (n:zF) (S:PS):Prop where
 beg:AQ n S
 first:S.K.first=2
 le:∀ x,S.T.now x<=1
 low:∀ x,x<2->S.T.now x=0
 a2:∀ k i,k<2->i<n k->S.p k i=true->2<=S.a k i
 own:∀ x,S.T.now x≠0->∃ k i,k<2/\i<n k/\S.p k i=true/\S.a k i=x
 kept:∀ x,S.T.kept x=0
theorem sZ.step {n:zF} {S:PS} (h:sZ n S) {k i:Nat} (hk:k<2) (hi:i<S.n k) (hw:S.want k i=true):sZ n (S.step k i):=by
 have hi':i<n k:=by rw [<- h.beg.sn];exact hi
 have hp:=kT hw;have ea:=h.beg.none k i hk hi' hp;obtain ⟨b,ht,h1,h2,h3⟩:=h.beg.inv.block hk hi hw;have ⟨e1,e2⟩:=XP ht;have eT:S.T1 k i=S.T:=by unfold PS.T1;rw [if_pos ea]
 rw [h.first] at h1;have R2:∀ x,(S.step k i).T.now x=if x=b then 1 else S.T.now x:=fun x=>by rw [e1,eT];exact Xp ..
 have epo:∀ k' i',¬ (k'=k/\i'=i)->(S.step k i).p k' i'=S.p k' i':=fun k' i' e=>xS _ _ e;have eao:∀ k' i',¬ (k'=k/\i'=i)->(S.step k i).a k' i'=S.a k' i':=fun k' i' e=>xS _ _ e;have eas:(S.step k i).a k i=b:=by show XO S.a k i _ k i=b;rw [Yw,e2]
 refine ⟨h.beg.step hk hi hw,(aU h.beg.inv).trans h.first,fun x=>?_,fun x hx=>?_,fun k' i' De Iu EL=>?_,fun x hx=>?_,fun x=>?_⟩
 ·rw [R2];split
  ·exact xd _
  ·exact h.le x
 ·rw [R2,if_neg zo];exact h.low x hx
 ·by_cases e:k'=k/\i'=i
  ·obtain ⟨rfl,rfl⟩:=e
   rw [eas];exact h1
  ·rw [epo _ _ e] at EL
   rw [eao _ _ e];exact h.a2 k' i' De Iu EL
 ·rw [R2] at hx
  by_cases e:x=b
  ·exact ⟨k,i,hk,hi',Yw _ _ _ _,by rw [eas,e]⟩
  ·rw [if_neg e] at hx
   obtain ⟨k',i',q1,q2,q3,q4⟩:=h.own x hx;have ne:¬ (k'=k/\i'=i):=fun e=>by obtain ⟨rfl,rfl⟩:=e;rw [hp] at q3;cases q3
   exact ⟨k',i',q1,q2,by rw [epo _ _ ne];exact q3,by rw [eao _ _ ne];exact q4⟩
 ·rw [e1,eT];exact h.kept x
structure ta (N:Nat) (F:PS):Prop where
 own:rY F.T.keep (qd N) F.a
 sn:F.n=qd N
 tn:F.T.n=N
 p:∀ k i,k<2->i<qd N k->F.p k i=true
 a2:∀ k i,k<2->i<qd N k->2<=F.a k i
 le:∀ x,F.T.now x<=1
 low:∀ x,x<2->F.T.now x=0
 pages:∀ x,F.T.now x≠0->∃ k i,k<2/\i<qd N k/\F.a k i=x
theorem Ja (h:16<=N):ta N (xH N):=by
 have o:=uY h;have ok:=rX h
 have B:=PS.fin_ind (Q:=sZ (qd N)) (fun S k i h hk hi hw=>h.step hk hi hw) _ (PS.start (zW.new N) ⟨2,2,0⟩ (qd N) (fun _ _=>0)) (xd _)
  ⟨⟨Z3.start (Vj (zW.new N)) (xd _) (show 2<=N by omega) (Vk h),rfl,fun _ _ _ _ _=>rfl,(fun _ _ _ _ h=>by cases h),by show 1<=2;omega⟩,rfl,fun _=>yg _,fun _ _=>rfl,(fun _ _ _ _ h=>by cases h),(fun x h=>absurd rfl h),fun _=>rfl⟩
 change sZ (qd N) (xH N)/\(xH N).next=none at B
 revert B o ok
 generalize xH N=F;rintro o ⟨-,-,sn,tn,-⟩ ⟨B,hN⟩
 have hp:∀ k i,k<2->i<F.n k->F.p k i=true:=fun k i hk hi=>by
  cases hp:F.p k i with
  | true=>rfl
  | false =>
   have e:=B.beg.none k i hk (by rw [<- sn];exact hi) hp;have w:=PS.next_none hN k i hk hi;unfold PS.want at w;rw [hp,e] at w;simp at w
 rw [sn] at o hp;exact ⟨o,sn,tn,hp,fun k i hk hi=>B.a2 k i hk hi (hp k i hk hi),B.le,B.low,fun x hx=>by obtain ⟨k,i,q1,q2,_,q4⟩:=B.own x hx;exact ⟨k,i,q1,q2,q4⟩⟩
noncomputable def O9 (N:Nat):xj:=⟨1,N,fun i=>if i<2 then (if i<pg (pg N) then (xH N).a 1 i else 0) else 0,fun _=>0⟩
noncomputable def lH (N:Nat):List (Nat × (Nat->Nat)):=aV (xH N) N++iK (xH N) N
noncomputable def Bs.fmt (N:Nat):Bs:=⟨(xH N).T.keep,⟨2,2,0⟩,(xH N).a,fun _=>none,O9 N,O9 N,fl (fl (fun _ _=>0) (lH N)) [(1,Y8 (O9 N))]⟩
theorem eJ (h:ta N F):∀ x,x∈aV F N++iK F N->2<=x.1/\x.1<N/\(∀ i,i<128->x.2 i<=255):=by
 have BY:∀ k i,k<2->i<qd N k->F.a k i<N:=fun k i hk hi=>by
  have:=(h.own.ok.has k i hk hi (h.own.nz k i hk hi)).1
  change F.a k i<F.T.n at this
  rw [h.tn] at this;exact this
 intro x hx;rw [yx] at hx;rcases hx with hx | hx
 ·obtain ⟨i,hi,rfl⟩:=yw.1 hx
  obtain ⟨hi,hp⟩:=x8.1 hi;exact ⟨h.a2 0 i zo hi,BY 0 i zo hi,fun j _=>Vm zo zo j⟩
 ·obtain ⟨i,hi,rfl⟩:=yw.1 hx
  obtain ⟨hi,hp⟩:=x8.1 hi;exact ⟨h.a2 1 i zo hi,BY 1 i zo hi,fun j _=>Vm zo zo j⟩
theorem jd (h:ta N F) {d:Nat->Nat->Nat} {k i:Nat} (hk:k<2) (hi:i<qd N k) :
  fl d (aV F N++iK F N) (F.a k i)=if k=0 then Xi 5 N F.T.now i else Xi 4 (pg N) (F.a 0) i:=by
 have hx:(F.a k i,if k=0 then Xi 5 N F.T.now i else Xi 4 (pg N) (F.a 0) i)∈aV F N++iK F N:=by
  refine yx.2 ?_
  match k,hk with
  | 0,_=>exact .inl (yw.2 ⟨i,x8.2 ⟨hi,h.p 0 i zo hi⟩,rfl⟩)
  | 1,_=>exact .inr (yw.2 ⟨i,x8.2 ⟨hi,h.p 1 i zo hi⟩,rfl⟩)
 refine rZ (d:=d) hx fun y hy e=>?_;rw [yx] at hy;rcases hy with hy | hy
 ·obtain ⟨i',hi',rfl⟩:=yw.1 hy
  obtain ⟨hi',EL⟩:=x8.1 hi';obtain ⟨rfl,rfl⟩:=h.own.ok.apart k i 0 i' hk hi zo hi' (h.own.nz k i hk hi) (show F.a k i=F.a 0 i' from e.symm);rfl
 ·obtain ⟨i',hi',rfl⟩:=yw.1 hy
  obtain ⟨hi',EL⟩:=x8.1 hi';obtain ⟨rfl,rfl⟩:=h.own.ok.apart k i 1 i' hk hi zo hi' (h.own.nz k i hk hi) (show F.a k i=F.a 1 i' from e.symm);rfl
theorem mY (h:16<=N/\N<=4096):iJ (O9 N) N (xH N).a:=by
 have F:=Ja h.1;refine ⟨⟨⟨by show 0<1;omega,by show 1<_;omega⟩,h,fun i hi=>?_,fun i hi=>by show 0<_;omega⟩,rfl,fun i hi=>?_⟩
 ·show (if i<2 then (if i<pg (pg N) then (xH N).a 1 i else 0) else 0)<N
  split
  ·split
   ·rename_i h1 h2
    have:=(F.own.ok.has 1 i zo h2 (F.own.nz 1 i zo h2)).1
    change _<(xH N).T.n at this
    rw [F.tn] at this;exact this
   ·omega
  ·omega
 ·show (if i<2 then (if i<pg (pg N) then (xH N).a 1 i else 0) else 0)=_
  rw [if_pos hi]
theorem tc (h:16<=N/\N<=4096):(Bs.fmt N).Ok:=by
 have F:=Ja h.1;have hs:=mY h;have tn:(Bs.fmt N).T.n=N:=F.tn;have eD:∀ b,2<=b->(Bs.fmt N).D b=fl (fun _ _=>0) (lH N) b:=fun b hb=>Vl fun x hx e=>by simp only [zms] at hx;subst hx;simp at e;omega
 have e0:(Bs.fmt N).D 0=fun _=>0:=by
  show fl (fl (fun _ _=>0) (lH N)) [(1,Y8 (O9 N))] 0=_
  rw [Vl (fun x hx e=>by simp only [zms] at hx;subst hx;simp at e)];exact Vl fun x hx e=>by have:=eJ F x hx;omega
 have e1:(Bs.fmt N).D 1=Y8 (O9 N):=by
  show (if (1:Nat)=1 then Y8 (O9 N) else fl (fun _ _=>0) (lH N) 1)=_
  exact if_pos rfl
 refine { n:=by rw [tn];exact h,own:=by rw [tn];exact F.own,a2:=by rw [tn];exact F.a2,low:=fun b hb=>⟨F.low b hb,F.low b hb⟩,le:=fun b _=>⟨by have:=F.le b;show (xH N).T.now b<=_;omega,by have:=F.le b;show (xH N).T.now b<=_;omega⟩,first:=rfl,nx:=⟨xd _,by rw [tn];show 2<=N;omega⟩,fr:=?_,fle:=(fun b f _ hf=>by cases hf),s:=by rw [tn];exact hs,kp:=by rw [tn];exact hs,sg:=rfl,disk:=?_,dle:=?_ }
 ·intro b hb
  constructor
  ·intro h;cases h
  ·rintro ⟨h1,h2⟩
   exact absurd h1 h2
 ·rw [tn]
  refine ⟨fun i hi=>?_,.inl ?_,fun i hi j hj=>?_,fun i hi j hj=>?_⟩
  ·show (Bs.fmt N).D 1 i=_
   rw [e1];rfl
  ·show (Bs.fmt N).D 0 0≠6
   rw [e0];simp
  ·show (Bs.fmt N).D ((xH N).a 0 i) j=_
   rw [eD _ (F.a2 0 i zo hi)];have:=jd F (d:=fun _ _=>0) (k:=0) (i:=i) zo hi;rw [if_pos rfl] at this;exact congrFun this j
  ·show (Bs.fmt N).D ((xH N).a 1 i) j=_
   rw [eD _ (F.a2 1 i zo hi)];have:=jd F (d:=fun _ _=>0) (k:=1) (i:=i) zo hi;rw [if_neg zo] at this;exact congrFun this j
 ·intro b hb i hi
  refine gY (d:=fun _ _=>0) (n:=(Bs.fmt N).T.n) [(1,Y8 (O9 N))] _ (gY (d:=fun _ _=>0) (n:=(Bs.fmt N).T.n) (lH N) _ (fun _ _ _ _=>yg _) (fun x hx=>(eJ F x hx).2.2)) (fun x hx=>?_) b hb i hi;simp only [zms] at hx;subst hx;exact fun i _=>YY zo (fun i _=>fQ _ i) i
theorem je (D:Dk) (l m:List (Option (Nat × (Nat->Nat)))):ZH D (l++m)=ZH (ZH D l) m:=by unfold ZH;rw [List.foldl_append]
theorem eK:∀ (l:List (Nat × (Nat->Nat))) (D:Dk),ZH D (l.map some) = { D with waits:=D.waits++l }
 | [],D=>by simp [ZH]
 | x::r,D=>by
  show ZH (Z5 D (some x)) (r.map some)=_
  rw [eK r];simp [Z5]
theorem jf (n:Nat) (d:Nat->Nat->Nat) (l:List (Nat × (Nat->Nat))) (x:Nat × (Nat->Nat)):ZH ⟨n,d,[]⟩ (l.map some++[none,some x,none])=⟨n,fl (fl d l) [x],[]⟩:=by
 rw [je,eK];simp [ZH,Z5]
theorem jg (n:Nat) (l:List (Nat × (Nat->Nat))) (x:Nat × (Nat->Nat)) :
  ZH ⟨n,fun _ _=>0,[]⟩ ([some (0,fun _=>0),some (1,fun _=>0),none]++(l.map some++[none,some x,none]))=⟨n,fl (fl (fun _ _=>0) l) [x],[]⟩:=by
 rw [je]
 have:ZH ⟨n,fun _ _=>0,[]⟩ [some (0,fun _=>0),some (1,fun _=>0),none]=⟨n,fun _ _=>0,[]⟩:=by
  simp only [ZH,Z5,List.foldl_cons,List.foldl_nil,yy,yK];congr 1;funext b;simp [fl]
 rw [this,jf]
open Go.RowKit Go.Maps Go.Sort Go.Shelf
theorem Y5 (p:Nat->Bool) (n:Nat):(xm p n).Pairwise (· < ·):=by
 unfold xm;exact List.Pairwise.filter _ List.pairwise_lt_range
theorem lI {P:Program} {w:World} {kt b n:Nat} {good:Value->Bool} {f:Nat->Option Value} {D:DataW Value} (BT:w.ownsMap P kt (RG good) b (Maps.size D) D) (Dr:P.underlying kt=some (.int .i64))
  (h3:∀ l,Maps.has D l=true->∃ k,k<n/\l = .int .i64 (k:Int)/\(f k).isSome=true)
  (h4:∀ k v,k<n->f k=some v->Maps.has D (.int .i64 (k:Int))=true/\∀ z,D.atKey (.int .i64 (k:Int)) z = .held v) :
  ((xm (fun k=>(f k).isSome) n).map (fun b:Nat=>(b:Int))).Perm (intKeys D):=by
 obtain ⟨es,rfl,hp,EC⟩:=BT.entries (int_keyed Dr);refine perm_intKeys hp ?_ ?_ ?_
 ·intro p hpm
  have hh:Maps.has (.map es) p.1=true:=by
   rw [has_eq,List.any_eq_true];exact ⟨p,hpm,WideAt.sameKey_self (EC p hpm)⟩
  obtain ⟨k,_,hl,_⟩:=h3 _ hh;exact ⟨_,hl⟩
 ·rw [List.Nodup,List.pairwise_map]
  exact (Y5 _ n).imp (fun {a b} h e=>zo)
 ·intro x
  constructor
  ·intro hx
   obtain ⟨b,hb,rfl⟩:=yw.1 hx;obtain ⟨h1,h2⟩:=x8.1 hb
   cases hf:f b with
   | none=>rw [hf] at h2;cases h2
   | some v=>exact (h4 b v h1 hf).1
  ·intro hx
   obtain ⟨k,hk,hl,hs⟩:=h3 _ hx;injection hl with _ hl;rw [hl];exact yw.2 ⟨k,x8.2 ⟨hk,hs⟩,rfl⟩
theorem gm (p:Nat->Bool) (n:Nat) {ss:List Int} (h:ss.Perm ((xm p n).map (fun b:Nat=>(b:Int)))):ss.mergeSort (fun x y=>decide (x<=y))=(xm p n).map (fun b:Nat=>(b:Int)):=by
 have e:=mergeSort_of_perm_i h
 have s:((xm p n).map (fun b:Nat=>(b:Int))).mergeSort leI=(xm p n).map (fun b:Nat=>(b:Int)):=by
  refine List.mergeSort_of_pairwise ?_;rw [List.pairwise_map];exact (Y5 p n).imp (fun {a b} h=>by simp [leI];omega)
 exact e.trans s
end Go.Proofs.YtegpiomkmfhadaaGreat
namespace Go.Proofs.YtegpiomkmfhadaaGreat
open Go.RowKit
variable {base dp n:Nat} {v:Value} {vs:List Value} {ops:List (Option (Nat × (Nat->Nat)))} {w:World}
theorem eL {W w5:World} {k m:Nat} {v':Value} {vs2:List Value} {IM:List (Option (Nat × (Nat->Nat)))} (hk:ops.length=k) (hm:IM.length=m) (Cc:W.ownsRow base 181 1 v k vs)
  (DC:∀ (i:Nat) (x:Option (Nat × (Nat->Nat))),ops[i]?=some x->∃ u:Value,vs[i]?=some u/\qk W dp n u x) (Ik:∀ (i:Nat) (x:Option (Nat × (Nat->Nat))),IM[i]?=some x->∃ u:Value,vs2[i]?=some u/\qk W dp n u x)
  (BT:w5.ownsRow base 181 1 v' (k+m) (vs++vs2)) (hg:W.grownBy w5 v.ownBlock):Yf w5 base dp n v' (ops++IM):=by
 have B9:vs.length=k:=by have:=Cc.1;simpa using this
 refine ⟨vs++vs2,by rw [ym,hk,hm];exact BT,fun i y hy=>?_⟩;by_cases hi:i<k
 ·rw [yI zo] at hy
  obtain ⟨u,h1,h2⟩:=DC i y hy;exact ⟨u,by rw [yI zo];exact h1,Xu Cc hg h2⟩
 ·rw [yF zo] at hy
  obtain ⟨u,h1,h2⟩:=Ik _ y hy;exact ⟨u,by rw [yF zo,B9,<- hk];exact h1,Xu Cc hg h2⟩
theorem qk.one {u:Value} {x:Option (Nat × (Nat->Nat))} (h:qk w dp n u x):u.oneCell'=true:=by
 cases x with
 | none=>obtain rfl:u=_:=h;rfl
 | some x=>obtain ⟨a,b,c,k,o,cap,rfl,_⟩:=h;rfl
theorem o5 (Cc:w.ownsRow base 181 1 v ops.length vs)
  (DC:∀ (i:Nat) (x:Option (Nat × (Nat->Nat))),ops[i]?=some x->∃ u:Value,vs[i]?=some u/\qk w dp n u x):∀ u,u∈vs->u.oneCell'=true:=by
 intro u hu;have B9:vs.length=ops.length:=by have:=Cc.1;simpa using this
 obtain ⟨i,hi,rfl⟩:=List.mem_iff_getElem.1 hu;obtain ⟨u',h1,h2⟩:=DC i _ (yt zo);rw [yt hi] at h1;injection h1 with h1;rw [h1];exact h2.one
theorem Yf.chg {w':World} (h:Yf w base dp n v ops) (c:zv [] w w'):Yf w' base dp n v ops:=by
 obtain ⟨vs,h1,h2⟩:=h;exact ⟨vs,Z4 h1 c zaa,fun i x hx=>by obtain ⟨u,q1,q2⟩:=h2 i x hx;exact ⟨u,q1,q2.on c⟩⟩
theorem Au (T:zW):T.keep.n=T.n:=rfl
end Go.Proofs.YtegpiomkmfhadaaGreat
