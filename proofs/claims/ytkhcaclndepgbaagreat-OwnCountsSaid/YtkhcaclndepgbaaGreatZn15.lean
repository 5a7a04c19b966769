/- catchmentlaw08.same: two lists of numbers. · Layer 10: the counts of a page; a sheet of pages that stand nowhere. · Layer 10: a sheet of pages that stand nowhere. (Printed by mkple.py.) · Layer 10: the stage of a statement: begun; what is left of room. · Layer 10 in plain words: what Place leaves of pages, and of counts. -/
import Derived.Test.YtkhcaclndepgbaaGreatZn14
set_option linter.unusedVariables false
set_option linter.unusedSimpArgs false
set_option maxRecDepth 100000
set_option maxHeartbeats 20000000
namespace Go.Proofs.YtkhcaclndepgbaaGreat
open Go.RowKit
theorem SlI.get {w:World} {a:Option Addr} {n cap:Nat} {l:List Nat} (h:SlI w (.slice a n cap) l):n=l.length/\∀ i,i<n->∃ g,a=some ⟨g,0,none⟩/\w.cell? ⟨g,i,none⟩=some (.int .i64 ((l.getD i 0:Nat):Int)):=by
 rcases h with ⟨hv,rfl⟩ | ⟨g,cap',hv,_,_,_,hc⟩
 ·cases hv;exact ⟨rfl,fun i hi=>by omega⟩
 ·injection hv with h1 h2 h3
  subst h1 h2;exact ⟨rfl,fun i hi=>⟨g,rfl,hc i hi⟩⟩
theorem infoU16:(Tryz.prog.info? 33).map (fun i=>(i.zero,i.size,i.bytes))=some (some (.int .u16 0),1,2):=by kernel_rfl
def cntVs (T:Tal) (lo m:Nat):List Value:=(List.range m).map fun j => .int .u16 (T.now (lo+j):Int)
theorem cntVs_succ (T:Tal) (lo m:Nat):cntVs T lo (m+1)=cntVs T lo m++[.int .u16 (T.now (lo+m):Int)]:=by simp [cntVs,List.range_succ]
theorem own_chgT {w w':World} {base n e:Nat} {v:Value} {xs:List Value} {L:List Nat} (h:w.ownsRow base e 1 v n xs) (c:Chg L w w') (hL:∀ k,v.ownBlock=some k->k∉L):w'.ownsRow base e 1 v n xs:=by
 refine ⟨h.1,?_⟩;rcases h.2 with h | ⟨g,cap,cur,h1,h2,h3,h4⟩
 ·exact .inl h
 ·exact .inr ⟨g,cap,cur,h1,h2,(c.block g (zhl h3) (hL g (by rw [h1];rfl))).trans h3,h4⟩
theorem counts_at {w:World} {t bc bk:Nat} {T:Tal} (H:TallyAt w t bc bk T) (p:Nat) (hp:61*p<T.n) :
  Calls Tryz.prog 144 #[.pointer (some ⟨t,0,none⟩),.int .i64 (p:Int)] w fun e w'=>∃ v,e = .returned v /\
   w'.ownsRow w.heap.size 33 1 v (min (61*p+61) T.n - 61*p) (cntVs T (61*p) (min (61*p+61) T.n - 61*p))/\Chg [] w w':=by
 have n2:=H.n2;have HH:=zh H;have p0:¬ (p:Int)<0:=by omega
 have e1:(p:Int)*61=((61*p:Nat):Int):=by omega
 have hmi:min (((p:Int)+1)*61) (T.n:Int)=((min (61*p+61) T.n:Nat):Int):=by omega
 clear H;go_enter Tryz.func144,Tryz.ntmps144;go_wp2_with fail
 go_loopw [5,6] (fun v s wr=>∃ m:Nat,m<=min (61*p+61) T.n - 61*p/\s = .int .i64 ((61*p+m:Nat):Int)/\Hid (wr.ownsRow w.heap.size 33 1 v m (cntVs T (61*p) m)/\Chg [] w wr)) (fun _ s _=>T.n - (intOf s).toNat)
 case atStart=>exact ⟨0,Nat.zero_le _,by simp,⟨World.ownsRow_nil _ _ _ _,Chg.refl _ _⟩⟩
 case round =>
  obtain ⟨m,hm,rfl,hH⟩:=hrel;have HT:=zh (HH.out.chg hH.out.2 (by simp) (by simp) (by simp));have HOW:=zh hH.out.1;have HCW:=zh hH.out.2;have hsz:=hH.out.2.size;have HBK:=zh (fun k hk=>(hH.out.1.lt k hk).1:∀ k,(Value.ownBlock _=some k)->w.heap.size<=k);clear hH;by_cases hlt:m<min (61*p+61) T.n - 61*p
  ·have hbn:61*p+m<T.n:=by omega
   have i1:((61*p+m:Nat):Int)<((min (61*p+61) T.n:Nat):Int):=by omega
   have hgv:=get_at HT.out ((61*p+m:Nat):Int);rw [getV_nat hbn] at hgv;have hb:=HT.out.now _ hbn;have hw16:IntKind.u16.wrap (T.now (61*p+m):Int)=(T.now (61*p+m):Int):=by rw [IntKind.wrap_u16];omega
   go_wp2_with fail;refine (blocks_at HT.out).mono ?_;rintro e w' ⟨rfl,rfl⟩;go_wp2_with fail;refine hgv.mono ?_;rintro e w' ⟨rfl,rfl⟩;have HN:=zh (znb wr (.cells #[.int .u16 (T.now (61*p+m):Int)] 33));go_wp2_with (at_builtin;refine wpList_app1 _ rfl _ _ 163 rfl w.heap.size 33 (.int .u16 0) 2 Tryz.underlying163 infoU16 rfl _ _ _ rfl (own_chgT HOW.out ((Chg.refl [] wr).alloc _) (by simp)) wr.heap.size 1 (.int .u16 (T.now (61*p+m):Int)) rfl (zcb HN.out 0) rfl (by omega) (by omega) (by simp;omega) ?_;intro v' w2 hown2 hg2;have HOWN2:=zh hown2;have HC2:=zh ((HCW.out.alloc _).grown hg2 (fun k hk => .inr (HBK.out k hk)));clear hown2 hg2)
   go_roundw
   case rel=>exact ⟨m+1,by omega,by go_num,⟨by rw [cntVs_succ];exact HOWN2.out,HC2.out⟩⟩
   case measure=>simp [intOf];omega
  ·obtain rfl:m=min (61*p+61) T.n - 61*p:=by omega
   have i1:¬ ((61*p+(min (61*p+61) T.n - 61*p):Nat):Int)<((min (61*p+61) T.n:Nat):Int):=by omega
   go_wp2_with fail;refine (blocks_at HT.out).mono ?_;rintro e w' ⟨rfl,rfl⟩;go_wp2_with fail;go_ret;exact ⟨_,rfl,HOW.out,HCW.out⟩
def nOf (n:Nat) (k:Nat):Nat:=if k=0 then pg n else pg (pg n)
theorem empty_ok (T:Tal):ShOk T (nOf T.n) (fun _ _=>0):=⟨rfl,rfl,fun k i _ _ h=>absurd rfl h,fun k i k' i' _ _ _ _ h=>absurd rfl h⟩
theorem need_new {n:Nat} (h:16<=n):(needN n:Int)<=roomI (Tal.new n) 2:=by
 have h2:cnt 2 (Tal.new n).free=2:=cnt_all fun i _=>by simp [Tal.free,Tal.new]
 unfold roomI;rw [new_frees,h2];unfold needN pg;omega
theorem room_set_le {T:Tal} {b v f:Nat} (hb:b<T.n):roomI (T.set b v) f<=roomI T f+1:=by
 have h1:=frees_set T v hb;unfold roomI;by_cases hf:b<f
 ·have h2:=cnt_upd (p:=T.free) (q:=(T.set b v).free) (n:=f) hf (fun i _ hne=>by simp [Tal.free,Tal.set,hne])
  cases h3:T.free b <;> cases h4:(T.set b v).free b <;> simp [h3,h4] at h1 h2 <;> omega
 ·have h2:cnt f (T.set b v).free=cnt f T.free:=cnt_congr fun i hi=>by
   have:i≠b:=by omega
   simp [Tal.free,Tal.set,this]
  rw [h2];cases h3:T.free b <;> cases h4:(T.set b v).free b <;> simp [h3,h4] at h1 <;> omega
theorem T1_room_le {S:PS} {k i:Nat} (h:ShOk S.T S.n S.a) (hk:k<2) (hi:i<S.n k) (f:Nat):roomI (S.T1 k i) f<=roomI S.T f+1:=by
 unfold PS.T1
 split
 ·omega
 ·rename_i h0
  have ⟨h1,h2⟩:=h.has k i hk hi h0;rw [down_now h1 h2];exact room_set_le h1
theorem step_first {S:PS} (H:PInv S) {k i:Nat} : (S.step k i).K.first=S.K.first:=(takeK_bd (T:=S.T1 k i) H.f (by rw [T1_n];exact H.nx)).2.2.2
theorem step_room {S:PS} (H:PInv S) {k i:Nat} (hk:k<2) (hi:i<S.n k) (hw:S.want k i=true):roomI (S.step k i).T S.K.first<=roomI S.T S.K.first:=by
 obtain ⟨b,ht,h1,h2,h3⟩:=H.block hk hi hw;have ⟨e1,e2⟩:=step_some ht;have hs:=room_some (T:=S.T1 k i) h1 (by rw [T1_n];exact h2) h3;have:=T1_room_le H.ok hk hi S.K.first;rw [e1,hs];omega
theorem step_n {S:PS} (H:PInv S) {k i:Nat} (hk:k<2) (hi:i<S.n k) (hw:S.want k i=true):(S.step k i).T.n=S.T.n:=by
 obtain ⟨b,ht,_⟩:=H.block hk hi hw;rw [(step_some ht).1];exact T1_n S k i
theorem fin_ok {T:Tal} {K:Pk} {n:Nat->Nat} {a:Nat->Nat->Nat} (h:ShOk T n a) (hf:K.first<=K.next) (hn:K.next<=T.n) (hr:(needN T.n:Int)<=roomI T K.first) :
  PInv (PS.start T K n a).fin/\(PS.start T K n a).fin.next=none/\(PS.start T K n a).fin.n=n/\(PS.start T K n a).fin.T.n=T.n/\(PS.start T K n a).fin.K.first=K.first/\roomI (PS.start T K n a).fin.T K.first<=roomI T K.first:=by
 have:=PS.fin_ind (Q:=fun S=>PInv S/\S.n=n/\S.T.n=T.n/\S.K.first=K.first/\roomI S.T K.first<=roomI T K.first)
  (fun S k i ⟨q1,q2,q3,q4,q5⟩ hk hi hw=>⟨q1.step hk hi hw,q2,(step_n q1 hk hi hw).trans q3,(step_first q1).trans q4,by
   have:=step_room q1 hk hi hw;rw [q4] at this;omega⟩) _ (PS.start T K n a) (zLr _) ⟨PInv.start h hf hn hr,rfl,rfl,rfl,Int.le_refl _⟩
 exact ⟨this.1.1,this.2,this.1.2.1,this.1.2.2.1,this.1.2.2.2.1,this.1.2.2.2.2⟩
theorem keep_ok {T:Tal} {n:Nat->Nat} {a:Nat->Nat->Nat} (h:ShOk T n a):ShOk T.keep n a:=⟨h.n0,h.n1,h.has,h.apart⟩
noncomputable def begF (n:Nat):PS:=(PS.start (Tal.new n) ⟨2,2,0⟩ (nOf n) (fun _ _=>0)).fin
theorem beg_ok {n:Nat} (h:16<=n):PInv (begF n)/\(begF n).next=none/\(begF n).n=nOf n/\(begF n).T.n=n/\(begF n).K.first=2 :=
 have:=fin_ok (empty_ok (Tal.new n)) (K:=⟨2,2,0⟩) (zLr _) (show 2<=n by omega) (need_new h)
 ⟨this.1,this.2.1,this.2.2.1,this.2.2.2.1,this.2.2.2.2.1⟩
structure Own (T:Tal) (n:Nat->Nat) (a:Nat->Nat->Nat):Prop where
 ok:ShOk T n a
 nz:∀ k i,k<2->i<n k->a k i≠0
 now:∀ k i,k<2->i<n k->T.now (a k i)=1
 kept:∀ k i,k<2->i<n k->T.kept (a k i)=1
theorem Own.set {T:Tal} {n:Nat->Nat} {a:Nat->Nat->Nat} (h:Own T n a) {b:Nat} (v:Nat) (hb:∀ k i,k<2->i<n k->a k i≠b):Own (T.set b v) n a:=by
 have e:∀ k i,k<2->i<n k->(T.set b v).now (a k i)=T.now (a k i):=fun k i hk hi=>by rw [set_now,if_neg (hb k i hk hi)]
 refine ⟨⟨h.ok.n0,h.ok.n1,fun k i hk hi h0=>⟨(h.ok.has k i hk hi h0).1,by rw [e k i hk hi];exact (h.ok.has k i hk hi h0).2⟩,h.ok.apart⟩,h.nz,fun k i hk hi=>(e k i hk hi).trans (h.now k i hk hi),h.kept⟩
theorem Own.take {T:Tal} {n:Nat->Nat} {a:Nat->Nat->Nat} (h:Own T n a) {b:Nat} (hf:T.free b=true):Own (T.set b 1) n a :=
 h.set 1 fun k i hk hi e=>by
  have:=h.now k i hk hi;rw [e] at this;simp [Tal.free,this] at hf
structure Mid (T:Tal) (n:Nat->Nat) (a:Nat->Nat->Nat) (S:PS):Prop where
 inv:PInv S
 sn:S.n=n
 tn:S.T.n=T.n
 kept:∀ x,S.T.kept x=T.kept x
 same:∀ k i,k<2->i<n k->S.p k i=false->S.a k i=a k i
 new:∀ k i,k<2->i<n k->S.p k i=true->T.kept (S.a k i)=0/\T.now (S.a k i)=0/\S.a k i≠0/\S.T.now (S.a k i)=1/\S.T.now (a k i)=0
 rest:∀ x,(∀ k i,k<2->i<n k->S.p k i=true->x≠S.a k i/\x≠a k i)->S.T.now x=T.now x
 first:1<=S.K.first
theorem Mid.step {T:Tal} {n:Nat->Nat} {a:Nat->Nat->Nat} (ho:Own T n a) {S:PS} (h:Mid T n a S) {k i:Nat} (hk:k<2) (hi:i<S.n k) (hw:S.want k i=true):Mid T n a (S.step k i):=by
 have hi':i<n k:=by rw [<- h.sn];exact hi
 have hp:=want_p hw;have ea:=h.same k i hk hi' hp;obtain ⟨b,ht,h1,h2,h3⟩:=h.inv.block hk hi hw;have ⟨e1,e2⟩:=step_some ht;have hnow:=fun x=>T1_now h.inv.ok hk hi x;simp only [Tal.free,Bool.and_eq_true,beq_iff_eq] at h3;rw [T1_kept,h.kept] at h3;obtain ⟨hb0,hbk⟩:=h3
 have bne:∀ k' i',k'<2->i'<n k'->b≠a k' i':=fun k' i' hk' hi' e=>by
  have:=ho.kept k' i' hk' hi';rw [<- e] at this;omega
 have eold:S.T.now (a k i)=1:=by
  rw [h.rest]
  ·exact ho.now k i hk hi'
  ·intro k' i' hk' hi'' hp'
   constructor
   ·intro e
    have:=(h.new k' i' hk' hi'' hp').1;rw [<- e,ho.kept k i hk hi'] at this;omega
   ·intro e
    obtain ⟨rfl,rfl⟩:=ho.ok.apart k i k' i' hk hi' hk' hi'' (ho.nz k i hk hi') e;rw [hp] at hp';cases hp'
 rw [ea] at hnow;have n1:∀ x,x≠a k i->(S.T1 k i).now x=S.T.now x:=fun x hx=>by rw [hnow,if_neg (fun q=>hx q.1)]
 have n2:(S.T1 k i).now (a k i)=0:=by rw [hnow,if_pos ⟨rfl,ho.nz k i hk hi'⟩,eold]
 have cne:∀ k' i',k'<2->i'<n k'->S.p k' i'=true->S.a k' i'≠a k i/\S.a k' i'≠b:=fun k' i' hk' hi'' hp'=>by
  have q:=h.new k' i' hk' hi'' hp'
  have q1:S.a k' i'≠a k i:=fun e=>by
   have:=q.1;rw [e,ho.kept k i hk hi'] at this;omega
  refine ⟨q1,fun e=>?_⟩;have:=n1 _ q1;rw [q.2.2.2.1,e,hb0] at this;omega
 have hbT:T.now b=0:=by
  rw [<- h.rest b (fun k' i' hk' hi'' hp'=>⟨fun e=>(cne k' i' hk' hi'' hp').2 e.symm,bne k' i' hk' hi''⟩),<- n1 b (bne k i hk hi'),hb0]
 have hkb:=(takeK_bd (T:=S.T1 k i) h.inv.f (by rw [T1_n];exact h.inv.nx)).2.2.2;refine ⟨h.inv.step hk hi hw,h.sn,(step_n h.inv hk hi hw).trans h.tn,fun x=>?_,?_,?_,?_,?_⟩
 ·rw [e1]
  show (S.T1 k i).kept x=_
  rw [T1_kept,h.kept]
 ·intro k' i' hk' hi'' hp'
  by_cases e:k'=k/\i'=i
  ·obtain ⟨rfl,rfl⟩:=e
   have q:(S.step k' i').p k' i'=true:=upd2_same _ _ _ _;rw [q] at hp';cases hp'
  ·have q:(S.step k i).p k' i'=S.p k' i':=upd2_other _ _ e
   have q2:(S.step k i).a k' i'=S.a k' i':=upd2_other _ _ e;rw [q] at hp';rw [q2];exact h.same k' i' hk' hi'' hp'
 ·intro k' i' hk' hi'' hp'
  rw [e1];by_cases e:k'=k/\i'=i
  ·obtain ⟨rfl,rfl⟩:=e
   have q2:(S.step k' i').a k' i'=b:=by show upd2 S.a k' i' _ k' i'=b;rw [upd2_same,e2]
   rw [q2];refine ⟨hbk,hbT,by have:=h.first;omega,by rw [set_now,if_pos rfl],?_⟩;rw [set_now,if_neg (fun q=>bne k' i' hk' hi'' q.symm),n2]
  ·have q:(S.step k i).p k' i'=S.p k' i':=upd2_other _ _ e
   have q2:(S.step k i).a k' i'=S.a k' i':=upd2_other _ _ e;rw [q] at hp';rw [q2];have r:=h.new k' i' hk' hi'' hp';have c:=cne k' i' hk' hi'' hp';refine ⟨r.1,r.2.1,r.2.2.1,?_,?_⟩
   ·rw [set_now,if_neg c.2,n1 _ c.1];exact r.2.2.2.1
   ·rw [set_now,if_neg (fun q=>bne k' i' hk' hi'' q.symm),n1]
    ·exact r.2.2.2.2
    ·intro q
     exact e (ho.ok.apart k' i' k i hk' hi'' hk hi' (ho.nz k' i' hk' hi'') q)
 ·intro x hx
  have q1:=hx k i hk hi' (upd2_same _ _ _ _);have q2:(S.step k i).a k i=b:=by show upd2 S.a k i _ k i=b;rw [upd2_same,e2]
  rw [q2] at q1;rw [e1,set_now,if_neg q1.1,n1 _ q1.2];refine h.rest x fun k' i' hk' hi'' hp'=>?_
  have e:¬ (k'=k/\i'=i):=by
   rintro ⟨rfl,rfl⟩;rw [hp] at hp';cases hp'
  have q:(S.step k i).p k' i'=S.p k' i':=upd2_other _ _ e;have q3:(S.step k i).a k' i'=S.a k' i':=upd2_other _ _ e;have:=hx k' i' hk' hi'' (by rw [q];exact hp');rw [q3] at this;exact this
 ·show 1<=(takeK (S.T1 k i) S.K).first
  rw [hkb];exact h.first
theorem Mid.fin {T:Tal} {K:Pk} {n:Nat->Nat} {a:Nat->Nat->Nat} (ho:Own T n a) (hf:K.first<=K.next) (hn:K.next<=T.n) (h1:1<=K.first) (hr:(needN T.n:Int)<=roomI T K.first) :
  Mid T n a (PS.start T K n a).fin/\(PS.start T K n a).fin.next=none :=
 PS.fin_ind (Q:=Mid T n a) (fun S k i h hk hi hw=>h.step ho hk hi hw) _ (PS.start T K n a) (zLr _)
  ⟨PInv.start ho.ok hf hn hr,rfl,rfl,fun _=>rfl,fun _ _ _ _ _=>rfl,(fun _ _ _ _ h=>by cases h),fun _ _=>rfl,h1⟩
theorem want_false {S:PS} {k i:Nat} (h:S.want k i=false) (ha:S.a k i≠0) (hp:S.p k i=false):(if k=1 then anyIn (S.p 0) (S.n 0) i else anyIn S.T.changed S.T.n i)=false:=by
 unfold PS.want at h;rw [hp] at h;have:(S.a k i==0)=false:=by simpa using ha
 rw [this] at h;simpa using h
structure Fin (T:Tal) (n:Nat->Nat) (a:Nat->Nat->Nat) (F:PS):Prop where
 sn:F.n=n
 tn:F.T.n=T.n
 own:Own F.T.keep n F.a
 moved:∀ i,i<n 0->F.p 0 i=true->F.a 0 i≠a 0 i/\F.T.now (F.a 0 i)=1/\F.T.now (a 0 i)=0
 stays:∀ i,i<n 0->F.p 0 i=false->F.a 0 i=a 0 i
 chg:∀ b,b<T.n->F.T.changed b=true->F.p 0 (b / 61)=true
 pages:(∃ i,i<n 0/\F.p 0 i=true)↔∃ b,b<T.n/\T.changed b=true
 dirs:(∃ i,i<n 1/\F.p 1 i=true)↔∃ b,b<T.n/\T.changed b=true
theorem firstFree_all {p:Nat->Bool} : ∀ {c lo:Nat},(∀ i,lo<=i->i<lo+c->p i=false)->zff p lo c=none
 | 0,_,_=>rfl
 | c+1,lo,h=>by
  unfold zff;rw [if_neg (by rw [h lo (by omega) (by omega)];simp)];exact firstFree_all fun i h1 h2=>h i (by omega) (by omega)
theorem PS.next_all {S:PS} (h:∀ k i,k<2->i<S.n k->S.want k i=false):S.next=none:=by
 unfold PS.next;rw [firstFree_all fun i _ hi=>h 0 i (by omega) (by omega),firstFree_all fun i _ hi=>h 1 i (by omega) (by omega)]
theorem start_still {T:Tal} {K:Pk} {n:Nat->Nat} {a:Nat->Nat->Nat} (ho:Own T n a) (hc:∀ b,b<T.n->T.changed b=false):(PS.start T K n a).fin=PS.start T K n a:=by
 refine PS.fin_none (PS.next_all fun k i hk hi=>?_);have ha:((PS.start T K n a).a k i==0)=false:=by have:=ho.nz k i hk hi;rw [beq_eq_false_iff_ne];exact this
 unfold PS.want;rw [ha];simp only [Bool.false_or]
 have:(if k=1 then anyIn ((PS.start T K n a).p 0) ((PS.start T K n a).n 0) i else anyIn (PS.start T K n a).T.changed (PS.start T K n a).T.n i)=false:=by
  split
  ·exact anyIn_false.2 fun _ _ _ _=>rfl
  ·exact anyIn_false.2 fun b _ _ hb=>hc b hb
 rw [this];simp
theorem fin_own {T:Tal} {K:Pk} {n:Nat->Nat} {a:Nat->Nat->Nat} (ho:Own T n a) (hf:K.first<=K.next) (hn:K.next<=T.n) (h1:1<=K.first) (hr:(needN T.n:Int)<=roomI T K.first):Fin T n a (PS.start T K n a).fin:=by
 obtain ⟨M,hN⟩:=Mid.fin ho hf hn h1 hr;have HS:=fun hc=>start_still (K:=K) ho hc
 revert M hN HS
 generalize (PS.start T K n a).fin=F;intro M hN HS
 have nz:∀ k i,k<2->i<n k->F.a k i≠0:=fun k i hk hi=>by
  cases hp:F.p k i with
  | true=>exact (M.new k i hk hi hp).2.2.1
  | false=>rw [M.same k i hk hi hp];exact ho.nz k i hk hi
 have nowOld:∀ k i,k<2->i<n k->F.p k i=false->F.T.now (a k i)=1:=fun k i hk hi hp=>by
  rw [M.rest]
  ·exact ho.now k i hk hi
  ·intro k' i' hk' hi' hp'
   constructor
   ·intro e
    have:=(M.new k' i' hk' hi' hp').1;rw [<- e,ho.kept k i hk hi] at this;omega
   ·intro e
    obtain ⟨rfl,rfl⟩:=ho.ok.apart k i k' i' hk hi hk' hi' (ho.nz k i hk hi) e;rw [hp] at hp';cases hp'
 have now1:∀ k i,k<2->i<n k->F.T.now (F.a k i)=1:=fun k i hk hi=>by
  cases hp:F.p k i with
  | true=>exact (M.new k i hk hi hp).2.2.2.1
  | false=>rw [M.same k i hk hi hp];exact nowOld k i hk hi hp
 have hn0:n 0=pg T.n:=ho.ok.n0;have hn1:n 1=pg (pg T.n):=ho.ok.n1;have hW:=PS.next_none hN
 have chg:∀ b,b<T.n->F.T.changed b=true->F.p 0 (b / 61)=true:=fun b hb hc=>by
  have hi:b / 61<n 0:=by rw [hn0];unfold pg;omega
  cases hp:F.p 0 (b / 61) with
  | true=>rfl
  | false =>
   have:=want_false (hW 0 (b / 61) (by omega) (by rw [M.sn];exact hi)) (nz 0 _ (by omega) hi) hp;rw [if_neg (by omega)] at this;have:=anyIn_false.1 this b (by omega) (by omega) (by rw [M.tn];exact hb);rw [hc] at this;cases this
 have some_chg:(∃ b,b<T.n/\T.changed b=true)->∃ i,i<n 0/\F.p 0 i=true:=by
  rintro ⟨b,hb,hc⟩;refine ⟨b / 61,by rw [hn0];unfold pg;omega,?_⟩;apply chg b hb;simp only [Tal.changed,bne_iff_ne] at hc ⊢;rw [M.kept,M.rest]
  ·exact hc
  ·intro k i hk hi hp
   constructor
   ·rintro rfl
    have:=M.new k i hk hi hp;rw [this.1,this.2.1] at hc;exact hc rfl
   ·rintro rfl
    rw [ho.now k i hk hi,ho.kept k i hk hi] at hc;exact hc rfl
 have some_dir:(∃ i,i<n 0/\F.p 0 i=true)->∃ i,i<n 1/\F.p 1 i=true:=by
  rintro ⟨j,hj,hp⟩;have hi:j / 61<n 1:=by rw [hn1];rw [hn0] at hj;unfold pg at hj ⊢;omega
  refine ⟨j / 61,hi,?_⟩
  cases hq:F.p 1 (j / 61) with
  | true=>rfl
  | false =>
   have:=want_false (hW 1 (j / 61) (by omega) (by rw [M.sn];exact hi)) (nz 1 _ (by omega) hi) hq;rw [if_pos rfl] at this;have:=anyIn_false.1 this j (by omega) (by omega) (by rw [M.sn];exact hj);rw [hp] at this;cases this
 have none_any:∀ k i,F.p k i=true->∃ b,b<T.n/\T.changed b=true:=fun k i hp=>by
  apply Classical.byContradiction;intro hno
  have:=HS fun b hb=>by
   cases hc:T.changed b with
   | false=>rfl
   | true=>exact absurd ⟨b,hb,hc⟩ hno
  rw [this] at hp;cases hp
 refine ⟨M.sn,M.tn,⟨keep_ok (by rw [<- M.sn];exact M.inv.ok),nz,now1,now1⟩,?_,fun i hi hp=>M.same 0 i (by omega) hi hp,chg,⟨fun ⟨i,_,hp⟩=>none_any 0 i hp,some_chg⟩,⟨fun ⟨i,_,hp⟩=>none_any 1 i hp,fun h=>some_dir (some_chg h)⟩⟩;intro i hi hp;have q:=M.new 0 i (by omega) hi hp;refine ⟨fun e=>?_,q.2.2.2.1,q.2.2.2.2⟩;have:=q.1;rw [e,ho.kept 0 i (by omega) hi] at this;omega
structure Beg (n:Nat->Nat) (S:PS):Prop where
 inv:PInv S
 sn:S.n=n
 none:∀ k i,k<2->i<n k->S.p k i=false->S.a k i=0
 some:∀ k i,k<2->i<n k->S.p k i=true->S.a k i≠0/\S.T.now (S.a k i)=1
 first:1<=S.K.first
theorem Beg.step {n:Nat->Nat} {S:PS} (h:Beg n S) {k i:Nat} (hk:k<2) (hi:i<S.n k) (hw:S.want k i=true):Beg n (S.step k i):=by
 have hi':i<n k:=by rw [<- h.sn];exact hi
 have hp:=want_p hw;have ea:=h.none k i hk hi' hp;obtain ⟨b,ht,h1,h2,h3⟩:=h.inv.block hk hi hw;have ⟨e1,e2⟩:=step_some ht;have eT:S.T1 k i=S.T:=by unfold PS.T1;rw [if_pos ea]
 rw [eT] at h3;simp only [Tal.free,Bool.and_eq_true,beq_iff_eq] at h3;have hkb:=(takeK_bd (T:=S.T1 k i) h.inv.f (by rw [T1_n];exact h.inv.nx)).2.2.2;refine ⟨h.inv.step hk hi hw,h.sn,?_,?_,?_⟩
 ·intro k' i' hk' hi'' hp'
  by_cases e:k'=k/\i'=i
  ·obtain ⟨rfl,rfl⟩:=e
   have q:(S.step k' i').p k' i'=true:=upd2_same _ _ _ _;rw [q] at hp';cases hp'
  ·have q:(S.step k i).p k' i'=S.p k' i':=upd2_other _ _ e
   have q2:(S.step k i).a k' i'=S.a k' i':=upd2_other _ _ e;rw [q] at hp';rw [q2];exact h.none k' i' hk' hi'' hp'
 ·intro k' i' hk' hi'' hp'
  rw [e1,eT];by_cases e:k'=k/\i'=i
  ·obtain ⟨rfl,rfl⟩:=e
   have q2:(S.step k' i').a k' i'=b:=by show upd2 S.a k' i' _ k' i'=b;rw [upd2_same,e2]
   rw [q2];exact ⟨by have:=h.first;omega,by rw [set_now,if_pos rfl]⟩
  ·have q:(S.step k i).p k' i'=S.p k' i':=upd2_other _ _ e
   have q2:(S.step k i).a k' i'=S.a k' i':=upd2_other _ _ e;rw [q] at hp';rw [q2];have r:=h.some k' i' hk' hi'' hp';refine ⟨r.1,?_⟩;rw [set_now]
   split
   ·rfl
   ·exact r.2
 ·show 1<=(takeK (S.T1 k i) S.K).first
  rw [hkb];exact h.first
theorem beg_own {n:Nat} (h:16<=n):Own (begF n).T.keep (begF n).n (begF n).a:=by
 have B:=PS.fin_ind (Q:=Beg (nOf n)) (fun S k i h hk hi hw=>h.step hk hi hw) _ (PS.start (Tal.new n) ⟨2,2,0⟩ (nOf n) (fun _ _=>0)) (zLr _)
  ⟨PInv.start (empty_ok (Tal.new n)) (zLr _) (show 2<=n by omega) (need_new h),rfl,fun _ _ _ _ _=>rfl,(fun _ _ _ _ h=>by cases h),by show 1<=2;omega⟩
 change Beg (nOf n) (begF n)/\(begF n).next=none at B
 revert B
 generalize begF n=F;rintro ⟨B,hN⟩
 have hp:∀ k i,k<2->i<F.n k->F.p k i=true:=fun k i hk hi=>by
  cases hp:F.p k i with
  | true=>rfl
  | false =>
   have e:=B.none k i hk (by rw [<- B.sn];exact hi) hp;have w:=PS.next_none hN k i hk hi;unfold PS.want at w;rw [hp,e] at w;simp at w
 have hs:=fun k i hk hi=>B.some k i hk (by rw [<- B.sn];exact hi) (hp k i hk hi);exact ⟨keep_ok B.inv.ok,fun k i hk hi=>(hs k i hk hi).1,fun k i hk hi=>(hs k i hk hi).2,fun k i hk hi=>(hs k i hk hi).2⟩
end Go.Proofs.YtkhcaclndepgbaaGreat
