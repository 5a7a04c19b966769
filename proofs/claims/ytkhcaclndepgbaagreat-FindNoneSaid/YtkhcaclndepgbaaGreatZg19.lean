/- Layer 10 in plain words: there is a block for each page; what is left behind. -/
import Derived.Test.YtkhcaclndepgbaaGreatZg15
set_option linter.unusedVariables false
set_option linter.unusedSimpArgs false
set_option maxRecDepth 100000
set_option maxHeartbeats 20000000
namespace Go.Proofs.YtkhcaclndepgbaaGreat
theorem room_set_ge {T:Tal} {b v f:Nat} (hb:b<T.n) (h:T.free b=false):roomI T f≤roomI (T.set b v) f:=by
 have h1:=frees_set T v hb
 rw [h] at h1
 unfold roomI
 by_cases hf:b<f
 ·have h2:=cnt_upd (p:=T.free) (q:=(T.set b v).free) (n:=f) hf (fun i _ hne=>by simp [Tal.free,Tal.set,hne])
  rw [h] at h2
  simp only [Bool.false_eq_true,if_false] at h1 h2
  omega
 ·have h2:cnt f (T.set b v).free=cnt f T.free:=cnt_congr fun i hi=>by
   have:i≠b:=by omega
   simp [Tal.free,Tal.set,this]
  rw [h2]
  simp only [Bool.false_eq_true,if_false] at h1
  omega
structure PInv (S:PS):Prop where
 ok:ShOk S.T S.n S.a
 f:S.K.first≤S.K.next
 nx:S.K.next≤S.T.n
 room:(S.left:Int)≤roomI S.T S.K.first
theorem T1_room {S:PS} {k i:Nat} (h:ShOk S.T S.n S.a) (hk:k<2) (hi:i<S.n k) (f:Nat):roomI S.T f≤roomI (S.T1 k i) f:=by
 unfold PS.T1
 split
 ·exact Int.le_refl _
 ·rename_i h0
  have ⟨h1,h2⟩:=h.has k i hk hi h0
  rw [down_now h1 h2]
  exact room_set_ge h1 (by simp [Tal.free,h2])
theorem PInv.block {S:PS} (H:PInv S) {k i:Nat} (hk:k<2) (hi:i<S.n k) (hw:S.want k i=true):∃ b,takeR (S.T1 k i) S.K=some b∧S.K.first≤b∧b<S.T.n∧(S.T1 k i).free b=true:=by
 have hl:=PS.left_pos hk hi hw
 have hr:=T1_room H.ok hk hi S.K.first
 have hrm:=H.room
 cases ht:takeR (S.T1 k i) S.K with
 | none =>
  have:=room_none H.f (by rw [T1_n];exact H.nx) ht
  omega
 | some b =>
  obtain ⟨h1,h2,h3⟩:=takeR_spec H.f (by rw [T1_n];exact H.nx) ht
  rw [T1_n] at h2
  exact ⟨b,rfl,h1,h2,h3⟩
theorem PInv.err {S:PS} (H:PInv S) {k i:Nat} (hk:k<2) (hi:i<S.n k) (hw:S.want k i=true):takeE (S.T1 k i) S.K=0:=by
 obtain ⟨b,h,_⟩:=H.block hk hi hw
 unfold takeE;rw [h]
theorem PInv.step {S:PS} (H:PInv S) {k i:Nat} (hk:k<2) (hi:i<S.n k) (hw:S.want k i=true):PInv (S.step k i):=by
 obtain ⟨b,ht,h1,h2,h3⟩:=H.block hk hi hw
 have ⟨e1,e2⟩:=step_some ht
 have hKb:=takeK_bd (T:=S.T1 k i) H.f (by rw [T1_n];exact H.nx)
 have hnow:=fun x=>T1_now H.ok hk hi x
 have hb0:(S.T1 k i).now b=0:=by
  simp only [Tal.free,Bool.and_eq_true,beq_iff_eq] at h3
  exact h3.1
 have keep:∀ k' i',k'<2→i'<S.n k'→¬ (k'=k∧i'=i)→S.a k' i'≠0→(S.T1 k i).now (S.a k' i')≠0∧S.a k' i'≠b:=by
  intro k' i' hk' hi' hne h0
  have hh:=(H.ok.has k' i' hk' hi' h0).2
  have e:(S.T1 k i).now (S.a k' i')=S.T.now (S.a k' i'):=by
   rw [hnow,if_neg]
   rintro ⟨e,_⟩
   exact hne (H.ok.apart k' i' k i hk' hi' hk hi h0 e)
  refine ⟨by rw [e];exact hh,fun q=>?_⟩
  rw [q] at e
  rw [hb0,← q] at e
  exact hh e.symm
 have hn:(S.step k i).T.n=S.T.n:=by rw [e1];exact T1_n S k i
 refine ⟨⟨?_,?_,?_,?_⟩,hKb.1,?_,?_⟩
 ·rw [hn];exact H.ok.n0
 ·rw [hn];exact H.ok.n1
 ·intro k' i' hk' hi' h0
  rw [hn,e1]
  show _<S.T.n∧((S.T1 k i).set b 1).now _≠0
  by_cases e:k'=k∧i'=i
  ·obtain ⟨rfl,rfl⟩:=e
   have ea:(S.step k' i').a k' i'=b:=by show upd2 S.a k' i' _ k' i'=b;rw [upd2_same,e2]
   rw [ea,set_now,if_pos rfl]
   exact ⟨h2,by omega⟩
  ·have ea:(S.step k i).a k' i'=S.a k' i':=upd2_other _ _ e
   rw [ea] at h0 ⊢
   have ⟨q1,q2⟩:=keep k' i' hk' hi' e h0
   rw [set_now,if_neg q2]
   exact ⟨(H.ok.has k' i' hk' hi' h0).1,q1⟩
 ·intro k' i' k'' i'' hk' hi' hk'' hi'' h0 he
  by_cases e:k'=k∧i'=i
  ·obtain ⟨rfl,rfl⟩:=e
   have ea:(S.step k' i').a k' i'=b:=by show upd2 S.a k' i' _ k' i'=b;rw [upd2_same,e2]
   by_cases e':k''=k'∧i''=i'
   ·exact ⟨e'.1.symm,e'.2.symm⟩
   ·have ea':(S.step k' i').a k'' i''=S.a k'' i'':=upd2_other _ _ e'
    rw [ea'] at he
    exact absurd (he.symm.trans ea) (keep k'' i'' hk'' hi'' e' (by rw [← he];exact h0)).2
  ·have ea:(S.step k i).a k' i'=S.a k' i':=upd2_other _ _ e
   by_cases e':k''=k∧i''=i
   ·obtain ⟨rfl,rfl⟩:=e'
    have ea':(S.step k'' i'').a k'' i''=b:=by show upd2 S.a k'' i'' _ k'' i''=b;rw [upd2_same,e2]
    rw [ea] at he h0
    exact absurd (he.trans ea') (keep k' i' hk' hi' e h0).2
   ·have ea':(S.step k i).a k'' i''=S.a k'' i'':=upd2_other _ _ e'
    rw [ea] at he h0
    rw [ea'] at he
    exact H.ok.apart k' i' k'' i'' hk' hi' hk'' hi'' h0 he
 ·have:=hKb.2.1
  rw [T1_n] at this
  rw [hn];exact this
 ·have hl:=PS.left_step hk hi hw
  have hr:=T1_room H.ok hk hi S.K.first
  have hrm:=H.room
  have hs:=room_some (T:=S.T1 k i) h1 (by rw [T1_n];exact h2) h3
  have ef:(S.step k i).K.first=S.K.first:=hKb.2.2.2
  rw [ef,e1,hs]
  omega
theorem PInv.start {T:Tal} {K:Pk} {n:Nat→Nat} {a:Nat→Nat→Nat} (h:ShOk T n a) (hf:K.first≤K.next) (hn:K.next≤T.n) (hr:(needN T.n:Int)≤roomI T K.first):PInv ⟨T,K,n,a,fun _ _=>false⟩:=by
 refine ⟨h,hf,hn,?_⟩
 have h0:cnt (n 0) (fun i=>true)=n 0:=cnt_true _
 have h1:cnt (n 1) (fun i=>true)=n 1:=cnt_true _
 have:(PS.left ⟨T,K,n,a,fun _ _=>false⟩)=needN T.n:=by
  unfold PS.left needN
  simp only [Bool.not_false]
  rw [h0,h1,h.n0,h.n1]
 rw [this]
 exact hr
end Go.Proofs.YtkhcaclndepgbaaGreat
