/- catchmentlaw08.same: two lists of numbers. · Layer 10: the counts of a page; a sheet of pages that stand nowhere. · Layer 10: a sheet of pages that stand nowhere. (Printed by mkple.py.) · Layer 10: the stage of a statement: begun; what is left of room. · Layer 10 in plain words: what Place leaves of pages, and of counts. · Layer 11 in plain words: a base's state, what the disk has, and what a commit makes of both. · Package base: steps of a commit, and all of them done. -/
import Derived.Test.YtkhcaclndepgbaaGreatZg16
import Derived.Test.YtkhcaclndepgbaaGreatZg14
import Derived.Test.YtkhcaclndepgbaaGreatZg20
import Derived.Test.YtkhcaclndepgbaaGreatZg07
import Derived.Test.YtkhcaclndepgbaaGreatZg05
import Derived.Test.YtkhcaclndepgbaaGreatZg06
import Derived.Test.YtkhcaclndepgbaaGreatZg04
set_option linter.unusedVariables false
set_option linter.unusedSimpArgs false
set_option maxRecDepth 100000
set_option maxHeartbeats 20000000
namespace Go.Proofs.YtkhcaclndepgbaaGreat
open Go.RowKit
theorem SlI.get {w:World} {a:Option Addr} {n cap:Nat} {l:List Nat} (h:SlI w (.slice a n cap) l):n=l.length∧∀ i,i<n→∃ g,a=some ⟨g,0,none⟩∧w.cell? ⟨g,i,none⟩=some (.int .i64 ((l.getD i 0:Nat):Int)):=by
 rcases h with ⟨hv,rfl⟩ | ⟨g,cap',hv,_,_,_,hc⟩
 ·cases hv;exact ⟨rfl,fun i hi=>by omega⟩
 ·injection hv with h1 h2 h3
  subst h1 h2
  exact ⟨rfl,fun i hi=>⟨g,rfl,hc i hi⟩⟩
theorem infoU16:(Tryz.prog.info? 33).map (fun i=>(i.zero,i.size,i.bytes))=some (some (.int .u16 0),1,2):=by kernel_rfl
def cntVs (T:Tal) (lo m:Nat):List Value:=(List.range m).map fun j => .int .u16 (T.now (lo+j):Int)
theorem cntVs_succ (T:Tal) (lo m:Nat):cntVs T lo (m+1)=cntVs T lo m++[.int .u16 (T.now (lo+m):Int)]:=by simp [cntVs,List.range_succ]
theorem own_chgT {w w':World} {base n e:Nat} {v:Value} {xs:List Value} {L:List Nat} (h:w.ownsRow base e 1 v n xs) (c:Chg L w w') (hL:∀ k,v.ownBlock=some k→k∉L):w'.ownsRow base e 1 v n xs:=by
 refine ⟨h.1,?_⟩
 rcases h.2 with h | ⟨g,cap,cur,h1,h2,h3,h4⟩
 ·exact .inl h
 ·exact .inr ⟨g,cap,cur,h1,h2,(c.block g (zhl h3) (hL g (by rw [h1];rfl))).trans h3,h4⟩
theorem counts_at {w:World} {t bc bk:Nat} {T:Tal} (H:TallyAt w t bc bk T) (p:Nat) (hp:61*p<T.n) :
  Calls Tryz.prog 144 #[.pointer (some ⟨t,0,none⟩),.int .i64 (p:Int)] w fun e w'=>∃ v,e = .returned v ∧
   w'.ownsRow w.heap.size 33 1 v (min (61*p+61) T.n - 61*p) (cntVs T (61*p) (min (61*p+61) T.n - 61*p))∧Chg [] w w':=by
 have n2:=H.n2
 have HH:=Lib.hid H
 have p0:¬ (p:Int)<0:=by omega
 have e1:(p:Int)*61=((61*p:Nat):Int):=by omega
 have hmi:min (((p:Int)+1)*61) (T.n:Int)=((min (61*p+61) T.n:Nat):Int):=by omega
 clear H
 go_enter Tryz.func144,Tryz.ntmps144
 go_wp2_with fail
 go_loopw [5,6] (fun v s wr=>∃ m:Nat,m≤min (61*p+61) T.n - 61*p∧s = .int .i64 ((61*p+m:Nat):Int)∧Hid (wr.ownsRow w.heap.size 33 1 v m (cntVs T (61*p) m)∧Chg [] w wr)) (fun _ s _=>T.n - (intOf s).toNat)
 case atStart=>exact ⟨0,Nat.zero_le _,by simp,⟨World.ownsRow_nil _ _ _ _,Chg.refl _ _⟩⟩
 case round =>
  obtain ⟨m,hm,rfl,hH⟩:=hrel
  have HT:=Lib.hid (HH.out.chg hH.out.2 (by simp) (by simp) (by simp))
  have HOW:=Lib.hid hH.out.1
  have HCW:=Lib.hid hH.out.2
  have hsz:=hH.out.2.size
  have HBK:=Lib.hid (fun k hk=>(hH.out.1.lt k hk).1:∀ k,(Value.ownBlock _=some k)→w.heap.size≤k)
  clear hH
  by_cases hlt:m<min (61*p+61) T.n - 61*p
  ·have hbn:61*p+m<T.n:=by omega
   have i1:((61*p+m:Nat):Int)<((min (61*p+61) T.n:Nat):Int):=by omega
   have hgv:=get_at HT.out ((61*p+m:Nat):Int)
   rw [getV_nat hbn] at hgv
   have hb:=HT.out.now _ hbn
   have hw16:IntKind.u16.wrap (T.now (61*p+m):Int)=(T.now (61*p+m):Int):=by rw [IntKind.wrap_u16];omega
   go_wp2_with fail
   refine (blocks_at HT.out).mono ?_
   rintro e w' ⟨rfl,rfl⟩
   go_wp2_with fail
   refine hgv.mono ?_
   rintro e w' ⟨rfl,rfl⟩
   have HN:=Lib.hid (znb wr (.cells #[.int .u16 (T.now (61*p+m):Int)] 33))
   go_wp2_with (at_builtin;refine wpList_app1 _ rfl _ _ 163 rfl w.heap.size 33 (.int .u16 0) 2 Tryz.underlying163 infoU16 rfl _ _ _ rfl (own_chgT HOW.out ((Chg.refl [] wr).alloc _) (by simp)) wr.heap.size 1 (.int .u16 (T.now (61*p+m):Int)) rfl (zcb HN.out 0) rfl (by omega) (by omega) (by simp;omega) ?_;intro v' w2 hown2 hg2;have HOWN2:=Lib.hid hown2;have HC2:=Lib.hid ((HCW.out.alloc _).grown hg2 (fun k hk => .inr (HBK.out k hk)));clear hown2 hg2)
   go_roundw
   case rel=>exact ⟨m+1,by omega,by go_num,⟨by rw [cntVs_succ];exact HOWN2.out,HC2.out⟩⟩
   case measure=>simp [intOf];omega
  ·obtain rfl:m=min (61*p+61) T.n - 61*p:=by omega
   have i1:¬ ((61*p+(min (61*p+61) T.n - 61*p):Nat):Int)<((min (61*p+61) T.n:Nat):Int):=by omega
   go_wp2_with fail
   refine (blocks_at HT.out).mono ?_
   rintro e w' ⟨rfl,rfl⟩
   go_wp2_with fail
   go_ret
   exact ⟨_,rfl,HOW.out,HCW.out⟩
def nOf (n:Nat) (k:Nat):Nat:=if k=0 then pg n else pg (pg n)
theorem empty_ok (T:Tal):ShOk T (nOf T.n) (fun _ _=>0):=⟨rfl,rfl,fun k i _ _ h=>absurd rfl h,fun k i k' i' _ _ _ _ h=>absurd rfl h⟩
theorem need_new {n:Nat} (h:16≤n):(needN n:Int)≤roomI (Tal.new n) 2:=by
 have h2:cnt 2 (Tal.new n).free=2:=cnt_all fun i _=>by simp [Tal.free,Tal.new]
 unfold roomI
 rw [new_frees,h2]
 unfold needN pg
 omega
theorem room_set_le {T:Tal} {b v f:Nat} (hb:b<T.n):roomI (T.set b v) f≤roomI T f+1:=by
 have h1:=frees_set T v hb
 unfold roomI
 by_cases hf:b<f
 ·have h2:=cnt_upd (p:=T.free) (q:=(T.set b v).free) (n:=f) hf (fun i _ hne=>by simp [Tal.free,Tal.set,hne])
  cases h3:T.free b <;> cases h4:(T.set b v).free b <;> simp [h3,h4] at h1 h2 <;> omega
 ·have h2:cnt f (T.set b v).free=cnt f T.free:=cnt_congr fun i hi=>by
   have:i≠b:=by omega
   simp [Tal.free,Tal.set,this]
  rw [h2]
  cases h3:T.free b <;> cases h4:(T.set b v).free b <;> simp [h3,h4] at h1 <;> omega
theorem T1_room_le {S:PS} {k i:Nat} (h:ShOk S.T S.n S.a) (hk:k<2) (hi:i<S.n k) (f:Nat):roomI (S.T1 k i) f≤roomI S.T f+1:=by
 unfold PS.T1
 split
 ·omega
 ·rename_i h0
  have ⟨h1,h2⟩:=h.has k i hk hi h0
  rw [down_now h1 h2]
  exact room_set_le h1
theorem step_first {S:PS} (H:PInv S) {k i:Nat} : (S.step k i).K.first=S.K.first:=(takeK_bd (T:=S.T1 k i) H.f (by rw [T1_n];exact H.nx)).2.2.2
theorem step_room {S:PS} (H:PInv S) {k i:Nat} (hk:k<2) (hi:i<S.n k) (hw:S.want k i=true):roomI (S.step k i).T S.K.first≤roomI S.T S.K.first:=by
 obtain ⟨b,ht,h1,h2,h3⟩:=H.block hk hi hw
 have ⟨e1,e2⟩:=step_some ht
 have hs:=room_some (T:=S.T1 k i) h1 (by rw [T1_n];exact h2) h3
 have:=T1_room_le H.ok hk hi S.K.first
 rw [e1,hs]
 omega
theorem step_n {S:PS} (H:PInv S) {k i:Nat} (hk:k<2) (hi:i<S.n k) (hw:S.want k i=true):(S.step k i).T.n=S.T.n:=by
 obtain ⟨b,ht,_⟩:=H.block hk hi hw
 rw [(step_some ht).1]
 exact T1_n S k i
theorem fin_ok {T:Tal} {K:Pk} {n:Nat→Nat} {a:Nat→Nat→Nat} (h:ShOk T n a) (hf:K.first≤K.next) (hn:K.next≤T.n) (hr:(needN T.n:Int)≤roomI T K.first) :
  PInv (PS.start T K n a).fin∧(PS.start T K n a).fin.next=none∧(PS.start T K n a).fin.n=n∧(PS.start T K n a).fin.T.n=T.n∧(PS.start T K n a).fin.K.first=K.first∧roomI (PS.start T K n a).fin.T K.first≤roomI T K.first:=by
 have:=PS.fin_ind (Q:=fun S=>PInv S∧S.n=n∧S.T.n=T.n∧S.K.first=K.first∧roomI S.T K.first≤roomI T K.first)
  (fun S k i ⟨q1,q2,q3,q4,q5⟩ hk hi hw=>⟨q1.step hk hi hw,q2,(step_n q1 hk hi hw).trans q3,(step_first q1).trans q4,by
   have:=step_room q1 hk hi hw
   rw [q4] at this
   omega⟩) _ (PS.start T K n a) (Nat.le_refl _) ⟨PInv.start h hf hn hr,rfl,rfl,rfl,Int.le_refl _⟩
 exact ⟨this.1.1,this.2,this.1.2.1,this.1.2.2.1,this.1.2.2.2.1,this.1.2.2.2.2⟩
theorem keep_ok {T:Tal} {n:Nat→Nat} {a:Nat→Nat→Nat} (h:ShOk T n a):ShOk T.keep n a:=⟨h.n0,h.n1,h.has,h.apart⟩
noncomputable def begF (n:Nat):PS:=(PS.start (Tal.new n) ⟨2,2,0⟩ (nOf n) (fun _ _=>0)).fin
theorem beg_ok {n:Nat} (h:16≤n):PInv (begF n)∧(begF n).next=none∧(begF n).n=nOf n∧(begF n).T.n=n∧(begF n).K.first=2 :=
 have:=fin_ok (empty_ok (Tal.new n)) (K:=⟨2,2,0⟩) (Nat.le_refl _) (show 2≤n by omega) (need_new h)
 ⟨this.1,this.2.1,this.2.2.1,this.2.2.2.1,this.2.2.2.2.1⟩
structure Own (T:Tal) (n:Nat→Nat) (a:Nat→Nat→Nat):Prop where
 ok:ShOk T n a
 nz:∀ k i,k<2→i<n k→a k i≠0
 now:∀ k i,k<2→i<n k→T.now (a k i)=1
 kept:∀ k i,k<2→i<n k→T.kept (a k i)=1
theorem Own.set {T:Tal} {n:Nat→Nat} {a:Nat→Nat→Nat} (h:Own T n a) {b:Nat} (v:Nat) (hb:∀ k i,k<2→i<n k→a k i≠b):Own (T.set b v) n a:=by
 have e:∀ k i,k<2→i<n k→(T.set b v).now (a k i)=T.now (a k i):=fun k i hk hi=>by rw [set_now,if_neg (hb k i hk hi)]
 refine ⟨⟨h.ok.n0,h.ok.n1,fun k i hk hi h0=>⟨(h.ok.has k i hk hi h0).1,by rw [e k i hk hi];exact (h.ok.has k i hk hi h0).2⟩,h.ok.apart⟩,h.nz,fun k i hk hi=>(e k i hk hi).trans (h.now k i hk hi),h.kept⟩
theorem Own.take {T:Tal} {n:Nat→Nat} {a:Nat→Nat→Nat} (h:Own T n a) {b:Nat} (hf:T.free b=true):Own (T.set b 1) n a :=
 h.set 1 fun k i hk hi e=>by
  have:=h.now k i hk hi
  rw [e] at this
  simp [Tal.free,this] at hf
structure Mid (T:Tal) (n:Nat→Nat) (a:Nat→Nat→Nat) (S:PS):Prop where
 inv:PInv S
 sn:S.n=n
 tn:S.T.n=T.n
 kept:∀ x,S.T.kept x=T.kept x
 same:∀ k i,k<2→i<n k→S.p k i=false→S.a k i=a k i
 new:∀ k i,k<2→i<n k→S.p k i=true→T.kept (S.a k i)=0∧T.now (S.a k i)=0∧S.a k i≠0∧S.T.now (S.a k i)=1∧S.T.now (a k i)=0
 rest:∀ x,(∀ k i,k<2→i<n k→S.p k i=true→x≠S.a k i∧x≠a k i)→S.T.now x=T.now x
 first:1≤S.K.first
theorem Mid.step {T:Tal} {n:Nat→Nat} {a:Nat→Nat→Nat} (ho:Own T n a) {S:PS} (h:Mid T n a S) {k i:Nat} (hk:k<2) (hi:i<S.n k) (hw:S.want k i=true):Mid T n a (S.step k i):=by
 have hi':i<n k:=by rw [← h.sn];exact hi
 have hp:=want_p hw
 have ea:=h.same k i hk hi' hp
 obtain ⟨b,ht,h1,h2,h3⟩:=h.inv.block hk hi hw
 have ⟨e1,e2⟩:=step_some ht
 have hnow:=fun x=>T1_now h.inv.ok hk hi x
 simp only [Tal.free,Bool.and_eq_true,beq_iff_eq] at h3
 rw [T1_kept,h.kept] at h3
 obtain ⟨hb0,hbk⟩:=h3
 have bne:∀ k' i',k'<2→i'<n k'→b≠a k' i':=fun k' i' hk' hi' e=>by
  have:=ho.kept k' i' hk' hi'
  rw [← e] at this
  omega
 have eold:S.T.now (a k i)=1:=by
  rw [h.rest]
  ·exact ho.now k i hk hi'
  ·intro k' i' hk' hi'' hp'
   constructor
   ·intro e
    have:=(h.new k' i' hk' hi'' hp').1
    rw [← e,ho.kept k i hk hi'] at this
    omega
   ·intro e
    obtain ⟨rfl,rfl⟩:=ho.ok.apart k i k' i' hk hi' hk' hi'' (ho.nz k i hk hi') e
    rw [hp] at hp'
    cases hp'
 rw [ea] at hnow
 have n1:∀ x,x≠a k i→(S.T1 k i).now x=S.T.now x:=fun x hx=>by rw [hnow,if_neg (fun q=>hx q.1)]
 have n2:(S.T1 k i).now (a k i)=0:=by rw [hnow,if_pos ⟨rfl,ho.nz k i hk hi'⟩,eold]
 have cne:∀ k' i',k'<2→i'<n k'→S.p k' i'=true→S.a k' i'≠a k i∧S.a k' i'≠b:=fun k' i' hk' hi'' hp'=>by
  have q:=h.new k' i' hk' hi'' hp'
  have q1:S.a k' i'≠a k i:=fun e=>by
   have:=q.1
   rw [e,ho.kept k i hk hi'] at this
   omega
  refine ⟨q1,fun e=>?_⟩
  have:=n1 _ q1
  rw [q.2.2.2.1,e,hb0] at this
  omega
 have hbT:T.now b=0:=by
  rw [← h.rest b (fun k' i' hk' hi'' hp'=>⟨fun e=>(cne k' i' hk' hi'' hp').2 e.symm,bne k' i' hk' hi''⟩),← n1 b (bne k i hk hi'),hb0]
 have hkb:=(takeK_bd (T:=S.T1 k i) h.inv.f (by rw [T1_n];exact h.inv.nx)).2.2.2
 refine ⟨h.inv.step hk hi hw,h.sn,(step_n h.inv hk hi hw).trans h.tn,fun x=>?_,?_,?_,?_,?_⟩
 ·rw [e1]
  show (S.T1 k i).kept x=_
  rw [T1_kept,h.kept]
 ·intro k' i' hk' hi'' hp'
  by_cases e:k'=k∧i'=i
  ·obtain ⟨rfl,rfl⟩:=e
   have q:(S.step k' i').p k' i'=true:=upd2_same _ _ _ _
   rw [q] at hp'
   cases hp'
  ·have q:(S.step k i).p k' i'=S.p k' i':=upd2_other _ _ e
   have q2:(S.step k i).a k' i'=S.a k' i':=upd2_other _ _ e
   rw [q] at hp'
   rw [q2]
   exact h.same k' i' hk' hi'' hp'
 ·intro k' i' hk' hi'' hp'
  rw [e1]
  by_cases e:k'=k∧i'=i
  ·obtain ⟨rfl,rfl⟩:=e
   have q2:(S.step k' i').a k' i'=b:=by show upd2 S.a k' i' _ k' i'=b;rw [upd2_same,e2]
   rw [q2]
   refine ⟨hbk,hbT,by have:=h.first;omega,by rw [set_now,if_pos rfl],?_⟩
   rw [set_now,if_neg (fun q=>bne k' i' hk' hi'' q.symm),n2]
  ·have q:(S.step k i).p k' i'=S.p k' i':=upd2_other _ _ e
   have q2:(S.step k i).a k' i'=S.a k' i':=upd2_other _ _ e
   rw [q] at hp'
   rw [q2]
   have r:=h.new k' i' hk' hi'' hp'
   have c:=cne k' i' hk' hi'' hp'
   refine ⟨r.1,r.2.1,r.2.2.1,?_,?_⟩
   ·rw [set_now,if_neg c.2,n1 _ c.1];exact r.2.2.2.1
   ·rw [set_now,if_neg (fun q=>bne k' i' hk' hi'' q.symm),n1]
    ·exact r.2.2.2.2
    ·intro q
     exact e (ho.ok.apart k' i' k i hk' hi'' hk hi' (ho.nz k' i' hk' hi'') q)
 ·intro x hx
  have q1:=hx k i hk hi' (upd2_same _ _ _ _)
  have q2:(S.step k i).a k i=b:=by show upd2 S.a k i _ k i=b;rw [upd2_same,e2]
  rw [q2] at q1
  rw [e1,set_now,if_neg q1.1,n1 _ q1.2]
  refine h.rest x fun k' i' hk' hi'' hp'=>?_
  have e:¬ (k'=k∧i'=i):=by
   rintro ⟨rfl,rfl⟩
   rw [hp] at hp'
   cases hp'
  have q:(S.step k i).p k' i'=S.p k' i':=upd2_other _ _ e
  have q3:(S.step k i).a k' i'=S.a k' i':=upd2_other _ _ e
  have:=hx k' i' hk' hi'' (by rw [q];exact hp')
  rw [q3] at this
  exact this
 ·show 1≤(takeK (S.T1 k i) S.K).first
  rw [hkb]
  exact h.first
theorem Mid.fin {T:Tal} {K:Pk} {n:Nat→Nat} {a:Nat→Nat→Nat} (ho:Own T n a) (hf:K.first≤K.next) (hn:K.next≤T.n) (h1:1≤K.first) (hr:(needN T.n:Int)≤roomI T K.first) :
  Mid T n a (PS.start T K n a).fin∧(PS.start T K n a).fin.next=none :=
 PS.fin_ind (Q:=Mid T n a) (fun S k i h hk hi hw=>h.step ho hk hi hw) _ (PS.start T K n a) (Nat.le_refl _)
  ⟨PInv.start ho.ok hf hn hr,rfl,rfl,fun _=>rfl,fun _ _ _ _ _=>rfl,(fun _ _ _ _ h=>by cases h),fun _ _=>rfl,h1⟩
structure Beg (n:Nat→Nat) (S:PS):Prop where
 inv:PInv S
 sn:S.n=n
 none:∀ k i,k<2→i<n k→S.p k i=false→S.a k i=0
 some:∀ k i,k<2→i<n k→S.p k i=true→S.a k i≠0∧S.T.now (S.a k i)=1
 first:1≤S.K.first
theorem Beg.step {n:Nat→Nat} {S:PS} (h:Beg n S) {k i:Nat} (hk:k<2) (hi:i<S.n k) (hw:S.want k i=true):Beg n (S.step k i):=by
 have hi':i<n k:=by rw [← h.sn];exact hi
 have hp:=want_p hw
 have ea:=h.none k i hk hi' hp
 obtain ⟨b,ht,h1,h2,h3⟩:=h.inv.block hk hi hw
 have ⟨e1,e2⟩:=step_some ht
 have eT:S.T1 k i=S.T:=by unfold PS.T1;rw [if_pos ea]
 rw [eT] at h3
 simp only [Tal.free,Bool.and_eq_true,beq_iff_eq] at h3
 have hkb:=(takeK_bd (T:=S.T1 k i) h.inv.f (by rw [T1_n];exact h.inv.nx)).2.2.2
 refine ⟨h.inv.step hk hi hw,h.sn,?_,?_,?_⟩
 ·intro k' i' hk' hi'' hp'
  by_cases e:k'=k∧i'=i
  ·obtain ⟨rfl,rfl⟩:=e
   have q:(S.step k' i').p k' i'=true:=upd2_same _ _ _ _
   rw [q] at hp'
   cases hp'
  ·have q:(S.step k i).p k' i'=S.p k' i':=upd2_other _ _ e
   have q2:(S.step k i).a k' i'=S.a k' i':=upd2_other _ _ e
   rw [q] at hp'
   rw [q2]
   exact h.none k' i' hk' hi'' hp'
 ·intro k' i' hk' hi'' hp'
  rw [e1,eT]
  by_cases e:k'=k∧i'=i
  ·obtain ⟨rfl,rfl⟩:=e
   have q2:(S.step k' i').a k' i'=b:=by show upd2 S.a k' i' _ k' i'=b;rw [upd2_same,e2]
   rw [q2]
   exact ⟨by have:=h.first;omega,by rw [set_now,if_pos rfl]⟩
  ·have q:(S.step k i).p k' i'=S.p k' i':=upd2_other _ _ e
   have q2:(S.step k i).a k' i'=S.a k' i':=upd2_other _ _ e
   rw [q] at hp'
   rw [q2]
   have r:=h.some k' i' hk' hi'' hp'
   refine ⟨r.1,?_⟩
   rw [set_now]
   split
   ·rfl
   ·exact r.2
 ·show 1≤(takeK (S.T1 k i) S.K).first
  rw [hkb]
  exact h.first
theorem beg_own {n:Nat} (h:16≤n):Own (begF n).T.keep (begF n).n (begF n).a:=by
 have B:=PS.fin_ind (Q:=Beg (nOf n)) (fun S k i h hk hi hw=>h.step hk hi hw) _ (PS.start (Tal.new n) ⟨2,2,0⟩ (nOf n) (fun _ _=>0)) (Nat.le_refl _)
  ⟨PInv.start (empty_ok (Tal.new n)) (Nat.le_refl _) (show 2≤n by omega) (need_new h),rfl,fun _ _ _ _ _=>rfl,(fun _ _ _ _ h=>by cases h),by show 1≤2;omega⟩
 change Beg (nOf n) (begF n)∧(begF n).next=none at B
 revert B
 generalize begF n=F
 rintro ⟨B,hN⟩
 have hp:∀ k i,k<2→i<F.n k→F.p k i=true:=fun k i hk hi=>by
  cases hp:F.p k i with
  | true=>rfl
  | false =>
   have e:=B.none k i hk (by rw [← B.sn];exact hi) hp
   have w:=PS.next_none hN k i hk hi
   unfold PS.want at w
   rw [hp,e] at w
   simp at w
 have hs:=fun k i hk hi=>B.some k i hk (by rw [← B.sn];exact hi) (hp k i hk hi)
 exact ⟨keep_ok B.inv.ok,fun k i hk hi=>(hs k i hk hi).1,fun k i hk hi=>(hs k i hk hi).2,fun k i hk hi=>(hs k i hk hi).2⟩
theorem fl_miss {d:Nat→Nat→Nat} {b:Nat} : ∀ {l:List (Nat × (Nat→Nat))},(∀ x,x∈l→x.1≠b)→fl d l b=d b
 | [],_=>rfl
 | x::r,h=>by
  show fl (fun b=>if b=x.1 then x.2 else d b) r b=d b
  rw [fl_miss (fun y hy=>h y (by simp [hy])),if_neg (fun e=>h x (by simp) e.symm)]
theorem fl_hit {d:Nat→Nat→Nat} {x:Nat × (Nat→Nat)} : ∀ {l:List (Nat × (Nat→Nat))},x∈l→(∀ y,y∈l→y.1=x.1→y.2=x.2)→fl d l x.1=x.2
 | [],h,_=>by cases h
 | y::r,h,hu=>by
  show fl (fun b=>if b=y.1 then y.2 else d b) r x.1=x.2
  by_cases hr:∃ z,z∈r∧z.1=x.1
  ·obtain ⟨z,hz,e⟩:=hr
   have e2:=hu z (by simp [hz]) e
   have:=fl_hit (d:=fun b=>if b=y.1 then y.2 else d b) (x:=z) hz (fun u hu' eu=>(hu u (by simp [hu']) (eu.trans e)).trans e2.symm)
   rw [← e,this,e2]
  ·rw [fl_miss (fun z hz e=>hr ⟨z,hz,e⟩)]
   rcases List.mem_cons.1 h with rfl | h
   ·rw [if_pos rfl]
   ·exact absurd ⟨x,h,rfl⟩ hr
def rowP (kind N:Nat) (l:Nat→Nat) (i:Nat):Nat→Nat:=pageI kind (min 61 (N - 61*i)) fun k=>l (61*i+k)
theorem pageI_le {kind n:Nat} {l:Nat→Nat} (hk:kind≤255) (hn:n≤255) (i:Nat):pageI kind n l i≤255:=sealP_le hk (fun i _=>idxK_le hn i) i
structure DiskOk (D:Nat→Nat→Nat) (S:Sup) (N:Nat) (a:Nat→Nat→Nat) (kept:Nat→Nat):Prop where
 sup:∀ i,i<128→D (S.gen % 2) i=pageS S i
 oth:D (1 - S.gen % 2) 0≠6∨∃ S':Sup,S'.Ok∧S'.gen<S.gen∧∀ i,i<128→D (1 - S.gen % 2) i=pageS S' i
 cnt:∀ i,i<pg N→∀ j,j<128→D (a 0 i) j=rowP 5 N kept i j
 dir:∀ i,i<pg (pg N)→∀ j,j<128→D (a 1 i) j=rowP 4 (pg N) (a 0) i j
structure Bs where
 T:Tal
 K:Pk
 a:Nat→Nat→Nat
 fr:Nat→Option (Nat→Nat)
 S:Sup
 Kp:Sup
 D:Nat→Nat→Nat
structure SupOf (S:Sup) (N:Nat) (a:Nat→Nat→Nat):Prop where
 ok:S.Ok
 b:S.blocks=N
 r:∀ i,i<2→S.roots i=if i<pg (pg N) then a 1 i else 0
structure Bs.Ok (B:Bs):Prop where
 n:16≤B.T.n∧B.T.n≤4096
 own:Own B.T (nOf B.T.n) B.a
 a2:∀ k i,k<2→i<nOf B.T.n k→2≤B.a k i
 low:∀ b,b<2→B.T.now b=0∧B.T.kept b=0
 le:∀ b,b<B.T.n→B.T.now b≤65535∧B.T.kept b≤65535
 first:B.K.first=2
 nx:2≤B.K.next∧B.K.next≤B.T.n
 fr:∀ b,b<B.T.n→((B.fr b).isSome=true↔B.T.kept b=0∧B.T.now b≠0)
 fle:∀ b f,b<B.T.n→B.fr b=some f→∀ i,i<128→f i≤255
 s:SupOf B.S B.T.n B.a
 kp:SupOf B.Kp B.T.n B.a
 sg:B.S.gen=B.Kp.gen
 disk:DiskOk B.D B.Kp B.T.n B.a B.T.kept
 dle:∀ b,b<B.T.n→∀ i,i<128→B.D b i≤255
noncomputable def Bs.F (B:Bs):PS:=(PS.start B.T B.K (nOf B.T.n) B.a).fin
noncomputable def Bs.nextS (B:Bs):Sup:=⟨B.S.gen+1,B.S.blocks,fun i=>if i<2 then (if i<pg (pg B.T.n) then B.F.a 1 i else 0) else B.S.roots i,B.S.marks⟩
def Bs.frs (B:Bs):List Nat:=yesTo (fun b=>(B.fr b).isSome) B.T.n
def Bs.frW (B:Bs):List (Nat × (Nat→Nat)):=B.frs.map fun b=>(b,(B.fr b).getD fun _=>0)
def pagesW (F:PS) (N:Nat):List (Nat × (Nat→Nat)):=(yesTo (F.p 0) (pg N)).map fun i=>(F.a 0 i,rowP 5 N F.T.now i)
def dirsW (F:PS) (N:Nat):List (Nat × (Nat→Nat)):=(yesTo (F.p 1) (pg (pg N))).map fun i=>(F.a 1 i,rowP 4 (pg N) (F.a 0) i)
noncomputable def Bs.wr (B:Bs):List (Nat × (Nat→Nat)):=B.frW++(pagesW B.F B.T.n++dirsW B.F B.T.n)
noncomputable def Bs.done (B:Bs):Bs:=⟨B.F.T.keep,B.F.K,B.F.a,fun _=>none,B.nextS,B.nextS,fl (fl B.D B.wr) [(1 - B.Kp.gen % 2,pageS B.nextS)]⟩
def Bs.back (B:Bs):Bs := { B with T:=B.T.back,fr:=fun _=>none,S:=B.Kp }
def Bs.open_ (B:Bs):Bs := { B with T:=B.T.back,K:=⟨2,2,0⟩,fr:=fun _=>none,S:=B.Kp }
def Bs.read (B:Bs) (b:Nat):Nat→Nat:=(B.fr b).getD (B.D b)
def Bs.page (B:Bs) (b:Nat):Prop:=∃ k i,k<2∧i<nOf B.T.n k∧B.a k i=b
theorem pgpg_le {N:Nat} (h:N≤4096):pg (pg N)≤2:=by unfold pg;omega
def StepIs (w:World) (dp n:Nat) (v:Value):Option (Nat × (Nat→Nat))→Prop
 | none=>v = .func (.func 87) #[.pointer (some ⟨dp,0,none⟩)] #[]
 | some x=>∃ a b c k o cap:Nat,v = .func (.func 140) #[] #[.pointer (some ⟨a,0,none⟩),.pointer (some ⟨b,0,none⟩),.pointer (some ⟨c,0,none⟩)]∧w.heap[a]?=some (.cells #[.pointer (some ⟨dp,0,none⟩)] 23 (0,0)) ∧
   w.heap[b]?=some (.cells #[.int .i64 (x.1:Int)] 3 (0,0))∧w.heap[c]?=some (.cells #[.slice (some ⟨k,o,none⟩) 128 cap] 22 (0,0))∧x.1<n∧128≤cap∧BytesAt w k o 128 x.2∧∃ cur z,w.heap[k]?=some (.cells cur 5 z)
def exec1 (D:Dk):Option (Nat × (Nat→Nat))→Dk
 | none => { D with data:=fl D.data D.waits,waits:=[] }
 | some x => { D with waits:=D.waits++[x] }
def exec (D:Dk) (l:List (Option (Nat × (Nat→Nat)))):Dk:=l.foldl exec1 D
def dkL (dp bb:Nat) (wv:Value) (k:Nat):Prop:=k=dp∨k=bb∨wv.ownBlock=some k
theorem cells_ne {w:World} {a b:Nat} {cs ds:Array Value} {T U:TypeId} {y z:Nat × Nat} (ha:w.heap[a]?=some (.cells cs T y)) (hb:w.heap[b]?=some (.cells ds U z)) (h:T≠U):a≠b:=by
 rintro rfl
 rw [ha] at hb
 injection hb with hb
 injection hb with _ hb
 exact h hb
section
variable {w w':World} {dp bb n:Nat} {wv v:Value} {op:Option (Nat × (Nat→Nat))} {D:Dk}
theorem row_neZ {w:World} {base n size p:Nat} {e:TypeId} {v:Value} {xs:List Value} {T:TypeId} {ps:Array Value} {z:Nat × Nat} (h:w.ownsRow base e size v n xs) (hp:w.heap[p]?=some (.cells ps T z)) (hT:e≠T):v.ownBlock≠some p:=by
 rcases h.2 with ⟨rfl,_⟩ | ⟨g,c,cur,rfl,_,hg,_⟩
 ·intro h;cases h
 ·intro e'
  have:g=p:=by simpa [Value.ownBlock] using e'
  subst this
  exact cells_ne hg hp hT rfl
theorem StepIs.chg (h:StepIs w dp n v op) (hd:DiskAt w dp bb wv D) {L:List Nat} (c:Chg L w w') (hL:∀ k,k∈L→dkL dp bb wv k∨w.heap.size≤k):StepIs w' dp n v op:=by
 cases op with
 | none=>exact h
 | some x =>
  obtain ⟨a,b,cc,k,o,cap,rfl,h1,h2,h3,h4,h5,h6,cur,z,h7⟩:=h
  have out:∀ {q:Nat} {cs:Array Value} {T:TypeId} {y:Nat × Nat},w.heap[q]?=some (.cells cs T y)→156≠T→169≠T→171≠T→q∉L:=fun {q cs T y} hq t1 t2 t3 hm=>by
   rcases hL q hm with (rfl | rfl | e) | e
   ·exact cells_ne hd.top hq t1 rfl
   ·exact cells_ne hd.blk hq t2 rfl
   ·exact row_neZ hd.wts hq t3 e
   ·have:=zhl hq;omega
  have o1:=out h1 (by decide) (by decide) (by decide)
  have o2:=out h2 (by decide) (by decide) (by decide)
  have o3:=out h3 (by decide) (by decide) (by decide)
  have o7:=out h7 (by decide) (by decide) (by decide)
  exact ⟨a,b,cc,k,o,cap,rfl,(c.block _ (zhl h1) o1).trans h1,(c.block _ (zhl h2) o2).trans h2,(c.block _ (zhl h3) o3).trans h3,h4,h5,h6.chg c o7,cur,z,(c.block _ (zhl h7) o7).trans h7⟩
theorem StepIs.far (h:StepIs w dp n v op) {L:List Nat} (c:Chg L w w') (hL:∀ k,k∈L→∀ cs T y,w.heap[k]?=some (.cells cs T y)→T≠23∧T≠3∧T≠22∧T≠5):StepIs w' dp n v op:=by
 cases op with
 | none=>exact h
 | some x =>
  obtain ⟨a,b,cc,k,o,cap,rfl,h1,h2,h3,h4,h5,h6,cur,z,h7⟩:=h
  have o1:a∉L:=fun hm=>(hL a hm _ _ _ h1).1 rfl
  have o2:b∉L:=fun hm=>(hL b hm _ _ _ h2).2.1 rfl
  have o3:cc∉L:=fun hm=>(hL cc hm _ _ _ h3).2.2.1 rfl
  have o7:k∉L:=fun hm=>(hL k hm _ _ _ h7).2.2.2 rfl
  exact ⟨a,b,cc,k,o,cap,rfl,(c.block _ (zhl h1) o1).trans h1,(c.block _ (zhl h2) o2).trans h2,(c.block _ (zhl h3) o3).trans h3,h4,h5,h6.chg c o7,cur,z,(c.block _ (zhl h7) o7).trans h7⟩
theorem StepIs.on (h:StepIs w dp n v op) (c:Chg [] w w'):StepIs w' dp n v op:=h.far c (fun k hk=>by simp at hk)
end
theorem baPut_at {w:World} {dp n at' k o cap:Nat} {f:Nat→Nat} (h4:at'<n) (h5:128≤cap) (h6:BytesAt w k o 128 f) (h7:∃ cur z,w.heap[k]?=some (.cells cur 5 z)) :
  Calls Tryz.prog 84 #[.pointer (some ⟨dp,0,none⟩),.int .i64 (at':Int),.slice (some ⟨k,o,none⟩) 128 cap] w fun e w'=>∃ gf lb,e = .returned (.agg #[.func gf #[] lb])∧StepIs w' dp n (.func gf #[] lb) (some (at',f))∧Chg [] w w':=by
 have hc:=(((Chg.refl [] w).alloc (.cells #[.pointer (some ⟨dp,0,none⟩)] 23)).alloc (.cells #[.int .i64 (at':Int)] 3)).alloc (.cells #[.slice (some ⟨k,o,none⟩) 128 cap] 22)
 have k2:=znc (w.alloc (.cells #[.pointer (some ⟨dp,0,none⟩)] 23)) (.cells #[.int .i64 (at':Int)] 3) (.cells #[.slice (some ⟨k,o,none⟩) 128 cap] 22)
 have k1:=znd (w.alloc (.cells #[.pointer (some ⟨dp,0,none⟩)] 23)) (.cells #[.int .i64 (at':Int)] 3) (.cells #[.slice (some ⟨k,o,none⟩) 128 cap] 22)
 have k0:=((((Chg.refl [] (w.alloc (.cells #[.pointer (some ⟨dp,0,none⟩)] 23))).alloc (.cells #[.int .i64 (at':Int)] 3)).alloc (.cells #[.slice (some ⟨k,o,none⟩) 128 cap] 22)).block w.heap.size (by simp) (by simp)).trans (znb w _)
 rw [size_alloc'] at k1 k2
 obtain ⟨cur,z,hz⟩:=h7
 have HK:=Lib.hid (And.intro k0 (And.intro k1 (And.intro k2 (And.intro hc (And.intro h6 hz)))))
 clear hc k2 k1 k0 h6 hz
 go_enter Tryz.func84,Tryz.ntmps84
 go_wp2_with (refine wpList_storeNew rfl 142 (.tmp 6) (.tmp 8) rfl #[.nilFunc] #[.func (.func 140) #[] #[.pointer (some ⟨w.heap.size,0,none⟩),.pointer (some ⟨w.heap.size+1,0,none⟩),.pointer (some ⟨w.heap.size+1+1,0,none⟩)]] (w.heap.size+1+1+1) 1 (by simp) rfl rfl (by kernel_rfl) rfl rfl (by simp [Value.oneCell']) ?_)
 have k3:=znb (((w.alloc (.cells #[.pointer (some ⟨dp,0,none⟩)] 23)).alloc (.cells #[.int .i64 (at':Int)] 3)).alloc (.cells #[.slice (some ⟨k,o,none⟩) 128 cap] 22)) (.cells #[.func (.func 140) #[] #[.pointer (some ⟨w.heap.size,0,none⟩),.pointer (some ⟨w.heap.size+1,0,none⟩),.pointer (some ⟨w.heap.size+1+1,0,none⟩)]] 142)
 rw [size_alloc',size_alloc',size_alloc'] at k3
 have c3:=zcb k3 0
 simp only [List.getElem?_toArray,List.getElem?_cons_zero] at c3
 have hc:=(Chg.refl [] (((w.alloc (.cells #[.pointer (some ⟨dp,0,none⟩)] 23)).alloc (.cells #[.int .i64 (at':Int)] 3)).alloc (.cells #[.slice (some ⟨k,o,none⟩) 128 cap] 22))).alloc (.cells #[.func (.func 140) #[] #[.pointer (some ⟨w.heap.size,0,none⟩),.pointer (some ⟨w.heap.size+1,0,none⟩),.pointer (some ⟨w.heap.size+1+1,0,none⟩)]] 142)
 refine bodyPost_ret (v := .agg #[.func (.func 140) #[] #[.pointer (some ⟨w.heap.size,0,none⟩),.pointer (some ⟨w.heap.size+1,0,none⟩),.pointer (some ⟨w.heap.size+1+1,0,none⟩)]]) (by simp [results,Tryz.results84,go_sem,Act.put,c3]) rfl ⟨_,_,rfl,?_,HK.out.2.2.2.1.trans hc⟩
 have q:=HK.out
 exact ⟨_,_,_,k,o,cap,rfl,(hc.block _ (zhl q.1) (by simp)).trans q.1,(hc.block _ (zhl q.2.1) (by simp)).trans q.2.1,(hc.block _ (zhl q.2.2.1) (by simp)).trans q.2.2.1,h4,h5,(q.2.2.2.2.1.chg q.2.2.2.1 (by simp)).chg hc (by simp),cur,z,
  (hc.block _ (Nat.lt_of_lt_of_le (zhl q.2.2.2.2.2) q.2.2.2.1.size) (by simp)).trans ((q.2.2.2.1.block _ (zhl q.2.2.2.2.2) (by simp)).trans q.2.2.2.2.2)⟩
end Go.Proofs.YtkhcaclndepgbaaGreat
