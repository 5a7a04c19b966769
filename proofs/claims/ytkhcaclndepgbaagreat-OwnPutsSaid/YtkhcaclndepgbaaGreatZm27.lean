/- Layer 11 in plain words: what Format leaves on a disk, and the base that Open makes of it. · Package base, in plain words: what all steps of a commit leave on the disk. · Package base: the fresh blocks, rising. · Package base: steps, put together; a super whose Gen is one more. -/
import Derived.Test.YtkhcaclndepgbaaGreatZm17
import Derived.Test.YtkhcaclndepgbaaGreatZm19
import Derived.Test.YtkhcaclndepgbaaGreatZm11
import Derived.Test.YtkhcaclndepgbaaGreatZm26
set_option linter.unusedVariables false
set_option linter.unusedSimpArgs false
set_option maxRecDepth 100000
set_option maxHeartbeats 20000000
namespace Go.Proofs.YtkhcaclndepgbaaGreat
structure BegM (n:Nat→Nat) (S:PS):Prop where
 beg:Beg n S
 first:S.K.first=2
 le:∀ x,S.T.now x≤1
 low:∀ x,x<2→S.T.now x=0
 a2:∀ k i,k<2→i<n k→S.p k i=true→2≤S.a k i
 own:∀ x,S.T.now x≠0→∃ k i,k<2∧i<n k∧S.p k i=true∧S.a k i=x
 kept:∀ x,S.T.kept x=0
theorem BegM.step {n:Nat→Nat} {S:PS} (h:BegM n S) {k i:Nat} (hk:k<2) (hi:i<S.n k) (hw:S.want k i=true):BegM n (S.step k i):=by
 have hi':i<n k:=by rw [← h.beg.sn];exact hi
 have hp:=want_p hw
 have ea:=h.beg.none k i hk hi' hp
 obtain ⟨b,ht,h1,h2,h3⟩:=h.beg.inv.block hk hi hw
 have ⟨e1,e2⟩:=step_some ht
 have eT:S.T1 k i=S.T:=by unfold PS.T1;rw [if_pos ea]
 rw [h.first] at h1
 have enow:∀ x,(S.step k i).T.now x=if x=b then 1 else S.T.now x:=fun x=>by rw [e1,eT];exact set_now ..
 have epo:∀ k' i',¬ (k'=k∧i'=i)→(S.step k i).p k' i'=S.p k' i':=fun k' i' e=>upd2_other _ _ e
 have eao:∀ k' i',¬ (k'=k∧i'=i)→(S.step k i).a k' i'=S.a k' i':=fun k' i' e=>upd2_other _ _ e
 have eas:(S.step k i).a k i=b:=by show upd2 S.a k i _ k i=b;rw [upd2_same,e2]
 refine ⟨h.beg.step hk hi hw,(step_first h.beg.inv).trans h.first,fun x=>?_,fun x hx=>?_,fun k' i' hk' hi'' hp'=>?_,fun x hx=>?_,fun x=>?_⟩
 ·rw [enow];split
  ·exact Nat.le_refl _
  ·exact h.le x
 ·rw [enow,if_neg (by omega)];exact h.low x hx
 ·by_cases e:k'=k∧i'=i
  ·obtain ⟨rfl,rfl⟩:=e
   rw [eas];exact h1
  ·rw [epo _ _ e] at hp'
   rw [eao _ _ e]
   exact h.a2 k' i' hk' hi'' hp'
 ·rw [enow] at hx
  by_cases e:x=b
  ·exact ⟨k,i,hk,hi',upd2_same _ _ _ _,by rw [eas,e]⟩
  ·rw [if_neg e] at hx
   obtain ⟨k',i',q1,q2,q3,q4⟩:=h.own x hx
   have ne:¬ (k'=k∧i'=i):=fun e=>by obtain ⟨rfl,rfl⟩:=e;rw [hp] at q3;cases q3
   exact ⟨k',i',q1,q2,by rw [epo _ _ ne];exact q3,by rw [eao _ _ ne];exact q4⟩
 ·rw [e1,eT];exact h.kept x
structure FmtOk (N:Nat) (F:PS):Prop where
 own:Own F.T.keep (nOf N) F.a
 sn:F.n=nOf N
 tn:F.T.n=N
 p:∀ k i,k<2→i<nOf N k→F.p k i=true
 a2:∀ k i,k<2→i<nOf N k→2≤F.a k i
 le:∀ x,F.T.now x≤1
 low:∀ x,x<2→F.T.now x=0
 pages:∀ x,F.T.now x≠0→∃ k i,k<2∧i<nOf N k∧F.a k i=x
theorem beg_fmt {N:Nat} (h:16≤N):FmtOk N (begF N):=by
 have o:=beg_own h
 have ok:=beg_ok h
 have B:=PS.fin_ind (Q:=BegM (nOf N)) (fun S k i h hk hi hw=>h.step hk hi hw) _ (PS.start (Tal.new N) ⟨2,2,0⟩ (nOf N) (fun _ _=>0)) (Nat.le_refl _)
  ⟨⟨PInv.start (empty_ok (Tal.new N)) (Nat.le_refl _) (show 2≤N by omega) (need_new h),rfl,fun _ _ _ _ _=>rfl,(fun _ _ _ _ h=>by cases h),by show 1≤2;omega⟩,rfl,fun _=>Nat.zero_le _,fun _ _=>rfl,(fun _ _ _ _ h=>by cases h),(fun x h=>absurd rfl h),fun _=>rfl⟩
 change BegM (nOf N) (begF N)∧(begF N).next=none at B
 revert B o ok
 generalize begF N=F
 rintro o ⟨-,-,sn,tn,-⟩ ⟨B,hN⟩
 have hp:∀ k i,k<2→i<F.n k→F.p k i=true:=fun k i hk hi=>by
  cases hp:F.p k i with
  | true=>rfl
  | false =>
   have e:=B.beg.none k i hk (by rw [← sn];exact hi) hp
   have w:=PS.next_none hN k i hk hi
   unfold PS.want at w
   rw [hp,e] at w
   simp at w
 rw [sn] at o hp
 exact ⟨o,sn,tn,hp,fun k i hk hi=>B.a2 k i hk hi (hp k i hk hi),B.le,B.low,fun x hx=>by obtain ⟨k,i,q1,q2,_,q4⟩:=B.own x hx;exact ⟨k,i,q1,q2,q4⟩⟩
noncomputable def fmtS (N:Nat):Sup:=⟨1,N,fun i=>if i<2 then (if i<pg (pg N) then (begF N).a 1 i else 0) else 0,fun _=>0⟩
noncomputable def fmtW (N:Nat):List (Nat × (Nat→Nat)):=pagesW (begF N) N++dirsW (begF N) N
noncomputable def Bs.fmt (N:Nat):Bs:=⟨(begF N).T.keep,⟨2,2,0⟩,(begF N).a,fun _=>none,fmtS N,fmtS N,fl (fl (fun _ _=>0) (fmtW N)) [(1,pageS (fmtS N))]⟩
theorem fmt_block {N:Nat} {F:PS} (h:FmtOk N F):∀ x,x∈pagesW F N++dirsW F N→2≤x.1∧x.1<N∧(∀ i,i<128→x.2 i≤255):=by
 have hlt:∀ k i,k<2→i<nOf N k→F.a k i<N:=fun k i hk hi=>by
  have:=(h.own.ok.has k i hk hi (h.own.nz k i hk hi)).1
  change F.a k i<F.T.n at this
  rw [h.tn] at this;exact this
 intro x hx
 rw [List.mem_append] at hx
 rcases hx with hx | hx
 ·obtain ⟨i,hi,rfl⟩:=List.mem_map.1 hx
  obtain ⟨hi,hp⟩:=mem_yesTo.1 hi
  exact ⟨h.a2 0 i (by omega) hi,hlt 0 i (by omega) hi,fun j _=>pageI_le (by omega) (by omega) j⟩
 ·obtain ⟨i,hi,rfl⟩:=List.mem_map.1 hx
  obtain ⟨hi,hp⟩:=mem_yesTo.1 hi
  exact ⟨h.a2 1 i (by omega) hi,hlt 1 i (by omega) hi,fun j _=>pageI_le (by omega) (by omega) j⟩
theorem fmt_page {N:Nat} {F:PS} (h:FmtOk N F) {d:Nat→Nat→Nat} {k i:Nat} (hk:k<2) (hi:i<nOf N k) :
  fl d (pagesW F N++dirsW F N) (F.a k i)=if k=0 then rowP 5 N F.T.now i else rowP 4 (pg N) (F.a 0) i:=by
 have hx:(F.a k i,if k=0 then rowP 5 N F.T.now i else rowP 4 (pg N) (F.a 0) i)∈pagesW F N++dirsW F N:=by
  refine List.mem_append.2 ?_
  match k,hk with
  | 0,_=>exact .inl (List.mem_map.2 ⟨i,mem_yesTo.2 ⟨hi,h.p 0 i (by omega) hi⟩,rfl⟩)
  | 1,_=>exact .inr (List.mem_map.2 ⟨i,mem_yesTo.2 ⟨hi,h.p 1 i (by omega) hi⟩,rfl⟩)
 refine fl_hit (d:=d) hx (fun y hy e=>?_)
 rw [List.mem_append] at hy
 rcases hy with hy | hy
 ·obtain ⟨i',hi',rfl⟩:=List.mem_map.1 hy
  obtain ⟨hi',hp'⟩:=mem_yesTo.1 hi'
  obtain ⟨rfl,rfl⟩:=h.own.ok.apart k i 0 i' hk hi (by omega) hi' (h.own.nz k i hk hi) (show F.a k i=F.a 0 i' from e.symm)
  rfl
 ·obtain ⟨i',hi',rfl⟩:=List.mem_map.1 hy
  obtain ⟨hi',hp'⟩:=mem_yesTo.1 hi'
  obtain ⟨rfl,rfl⟩:=h.own.ok.apart k i 1 i' hk hi (by omega) hi' (h.own.nz k i hk hi) (show F.a k i=F.a 1 i' from e.symm)
  rfl
theorem fmtS_of {N:Nat} (h:16≤N∧N≤4096):SupOf (fmtS N) N (begF N).a:=by
 have F:=beg_fmt h.1
 refine ⟨⟨⟨by show 0<1;omega,by show 1<_;omega⟩,h,fun i hi=>?_,fun i hi=>by show 0<_;omega⟩,rfl,fun i hi=>?_⟩
 ·show (if i<2 then (if i<pg (pg N) then (begF N).a 1 i else 0) else 0)<N
  split
  ·split
   ·rename_i h1 h2
    have:=(F.own.ok.has 1 i (by omega) h2 (F.own.nz 1 i (by omega) h2)).1
    change _<(begF N).T.n at this
    rw [F.tn] at this;exact this
   ·omega
  ·omega
 ·show (if i<2 then (if i<pg (pg N) then (begF N).a 1 i else 0) else 0)=_
  rw [if_pos hi]
theorem fmt_ok {N:Nat} (h:16≤N∧N≤4096):(Bs.fmt N).Ok:=by
 have F:=beg_fmt h.1
 have hs:=fmtS_of h
 have tn:(Bs.fmt N).T.n=N:=F.tn
 have eD:∀ b,2≤b→(Bs.fmt N).D b=fl (fun _ _=>0) (fmtW N) b:=fun b hb=>fl_miss fun x hx e=>by simp only [List.mem_singleton] at hx;subst hx;simp at e;omega
 have e0:(Bs.fmt N).D 0=fun _=>0:=by
  show fl (fl (fun _ _=>0) (fmtW N)) [(1,pageS (fmtS N))] 0=_
  rw [fl_miss (fun x hx e=>by simp only [List.mem_singleton] at hx;subst hx;simp at e)]
  exact fl_miss fun x hx e=>by have:=fmt_block F x hx;omega
 have e1:(Bs.fmt N).D 1=pageS (fmtS N):=by
  show (if (1:Nat)=1 then pageS (fmtS N) else fl (fun _ _=>0) (fmtW N) 1)=_
  exact if_pos rfl
 refine { n:=by rw [tn];exact h,own:=by rw [tn];exact F.own,a2:=by rw [tn];exact F.a2,low:=fun b hb=>⟨F.low b hb,F.low b hb⟩,le:=fun b _=>⟨by have:=F.le b;show (begF N).T.now b≤_;omega,by have:=F.le b;show (begF N).T.now b≤_;omega⟩,first:=rfl,nx:=⟨Nat.le_refl _,by rw [tn];show 2≤N;omega⟩,fr:=?_,fle:=(fun b f _ hf=>by cases hf),s:=by rw [tn];exact hs,kp:=by rw [tn];exact hs,sg:=rfl,disk:=?_,dle:=?_ }
 ·intro b hb
  constructor
  ·intro h;cases h
  ·rintro ⟨h1,h2⟩
   exact absurd h1 h2
 ·rw [tn]
  refine ⟨fun i hi=>?_,.inl ?_,fun i hi j hj=>?_,fun i hi j hj=>?_⟩
  ·show (Bs.fmt N).D 1 i=_
   rw [e1];rfl
  ·show (Bs.fmt N).D 0 0≠6
   rw [e0];simp
  ·show (Bs.fmt N).D ((begF N).a 0 i) j=_
   rw [eD _ (F.a2 0 i (by omega) hi)]
   have:=fmt_page F (d:=fun _ _=>0) (k:=0) (i:=i) (by omega) hi
   rw [if_pos rfl] at this
   exact congrFun this j
  ·show (Bs.fmt N).D ((begF N).a 1 i) j=_
   rw [eD _ (F.a2 1 i (by omega) hi)]
   have:=fmt_page F (d:=fun _ _=>0) (k:=1) (i:=i) (by omega) hi
   rw [if_neg (by omega)] at this
   exact congrFun this j
 ·intro b hb i hi
  refine fl_le (d:=fun _ _=>0) (n:=(Bs.fmt N).T.n) [(1,pageS (fmtS N))] _ (fl_le (d:=fun _ _=>0) (n:=(Bs.fmt N).T.n) (fmtW N) _ (fun _ _ _ _=>Nat.zero_le _) (fun x hx=>(fmt_block F x hx).2.2)) (fun x hx=>?_) b hb i hi
  simp only [List.mem_singleton] at hx
  subst hx
  exact fun i _=>sealP_le (by omega) (fun i _=>supB_le _ i) i
theorem exec_app (D:Dk) (l m:List (Option (Nat × (Nat→Nat)))):exec D (l++m)=exec (exec D l) m:=by unfold exec;rw [List.foldl_append]
theorem exec_some:∀ (l:List (Nat × (Nat→Nat))) (D:Dk),exec D (l.map some) = { D with waits:=D.waits++l }
 | [],D=>by simp [exec]
 | x::r,D=>by
  show exec (exec1 D (some x)) (r.map some)=_
  rw [exec_some r]
  simp [exec1]
theorem exec_commit (n:Nat) (d:Nat→Nat→Nat) (l:List (Nat × (Nat→Nat))) (x:Nat × (Nat→Nat)):exec ⟨n,d,[]⟩ (l.map some++[none,some x,none])=⟨n,fl (fl d l) [x],[]⟩:=by
 rw [exec_app,exec_some]
 simp [exec,exec1]
theorem exec_format (n:Nat) (l:List (Nat × (Nat→Nat))) (x:Nat × (Nat→Nat)) :
  exec ⟨n,fun _ _=>0,[]⟩ ([some (0,fun _=>0),some (1,fun _=>0),none]++(l.map some++[none,some x,none]))=⟨n,fl (fl (fun _ _=>0) l) [x],[]⟩:=by
 rw [exec_app]
 have:exec ⟨n,fun _ _=>0,[]⟩ [some (0,fun _=>0),some (1,fun _=>0),none]=⟨n,fun _ _=>0,[]⟩:=by
  simp only [exec,exec1,List.foldl_cons,List.foldl_nil,List.nil_append,List.cons_append]
  congr 1
  funext b
  simp [fl]
 rw [this,exec_commit]
open Go.RowKit Go.Maps Go.Sort Go.Shelf
theorem yesTo_pairwise (p:Nat→Bool) (n:Nat):(yesTo p n).Pairwise (· < ·):=by
 unfold yesTo
 exact List.Pairwise.filter _ List.pairwise_lt_range
theorem mkeys_perm {P:Program} {w:World} {kt b n:Nat} {good:Value→Bool} {f:Nat→Option Value} {D:DataW Value} (hown:w.ownsMap P kt (RG good) b (Maps.size D) D) (hkt:P.underlying kt=some (.int .i64))
  (h3:∀ l,Maps.has D l=true→∃ k,k<n∧l = .int .i64 (k:Int)∧(f k).isSome=true)
  (h4:∀ k v,k<n→f k=some v→Maps.has D (.int .i64 (k:Int))=true∧∀ z,D.atKey (.int .i64 (k:Int)) z = .held v) :
  ((yesTo (fun k=>(f k).isSome) n).map (fun b:Nat=>(b:Int))).Perm (intKeys D):=by
 obtain ⟨es,rfl,hp,hkeys⟩:=hown.entries (int_keyed hkt)
 refine perm_intKeys hp ?_ ?_ ?_
 ·intro p hpm
  have hh:Maps.has (.map es) p.1=true:=by
   rw [has_eq,List.any_eq_true]
   exact ⟨p,hpm,WideAt.sameKey_self (hkeys p hpm)⟩
  obtain ⟨k,_,hl,_⟩:=h3 _ hh
  exact ⟨_,hl⟩
 ·rw [List.Nodup,List.pairwise_map]
  exact (yesTo_pairwise _ n).imp (fun {a b} h e=>by omega)
 ·intro x
  constructor
  ·intro hx
   obtain ⟨b,hb,rfl⟩:=List.mem_map.1 hx
   obtain ⟨h1,h2⟩:=mem_yesTo.1 hb
   cases hf:f b with
   | none=>rw [hf] at h2;cases h2
   | some v=>exact (h4 b v h1 hf).1
  ·intro hx
   obtain ⟨k,hk,hl,hs⟩:=h3 _ hx
   injection hl with _ hl
   rw [hl]
   exact List.mem_map.2 ⟨k,mem_yesTo.2 ⟨hk,hs⟩,rfl⟩
theorem yesTo_sorted (p:Nat→Bool) (n:Nat) {ss:List Int} (h:ss.Perm ((yesTo p n).map (fun b:Nat=>(b:Int)))):ss.mergeSort (fun x y=>decide (x≤y))=(yesTo p n).map (fun b:Nat=>(b:Int)):=by
 have e:=mergeSort_of_perm_i h
 have s:((yesTo p n).map (fun b:Nat=>(b:Int))).mergeSort leI=(yesTo p n).map (fun b:Nat=>(b:Int)):=by
  refine List.mergeSort_of_pairwise ?_
  rw [List.pairwise_map]
  exact (yesTo_pairwise p n).imp (fun {a b} h=>by simp [leI];omega)
 exact e.trans s
theorem keysFresh_at (w:World) (mb:Option Nat):Calls Tryz.prog 83 #[.map mb] w fun e w'=>e = .returned (.func (.func 139) #[] #[.pointer (some ⟨w.heap.size,0,none⟩)])∧w'=w.alloc (.cells #[.map mb] 43) :=
 (callsIn_wide (n:=5)).1 (AnyZI.keys_in Tryz.keysF Fence.wide 5 trivial rfl mb w)
theorem sortedFresh_at {w:World} {b n:Nat} {f:Nat→Option Value} (h:KMapV Tryz.prog 3 goodF w b n f) (hn:n≤4096) :
  Calls Tryz.prog 82 #[.func (.func 139) #[] #[.pointer (some ⟨w.heap.size,0,none⟩)]] (w.alloc (.cells #[.map (some b)] 43)) fun e w'=>∃ v,e = .returned v ∧
   w'.ownsRow w.heap.size 3 1 v (yesTo (fun k=>(f k).isSome) n).length (intVs (yesTo (fun k=>(f k).isSome) n))∧Below w.heap.size w w':=by
 have hbl:=h.lt
 obtain ⟨D,hown,h2,h3,h4⟩:=h
 have hperm:=mkeys_perm hown Tryz.underlying3 h3 h4
 have hsz:Maps.size D≤4096:=by rw [h2];exact Nat.le_trans (cnt_le _ _) hn
 have hmax:Maps.size D≤maxLen:=by unfold maxLen;omega
 have hbytes:Maps.size D*8≤140737488355328:=by omega
 have hseq:SeqGives Fence.wide 2 Tryz.prog 139 #[.pointer (some ⟨w.heap.size,0,none⟩)] encZ (fun ss=>ss.Perm (intKeys D)) (Maps.size D) (w.alloc (.cells #[.map (some b)] 43)) :=
  AnyZI.keys_gives (ρ:=Tryz.keysF_ren) { Tryz.keysF with } Fence.wide _ trivial rfl (by omega) w.heap.size b (Maps.size D) D _ (by simp) (by simp) (by
   obtain ⟨es,clock,hb,Ft,hs,hD⟩:=hown
   exact ⟨es,clock,(Below.heap_alloc _ _ b hbl).trans hb,Ft,hs,hD⟩)
 have cS:=AnyZI.sorted_in Tryz.sortedA Fence.wide 5 trivial trivial trivial trivial rfl (by omega) (sortsA _) (enters_of Tryz.func138 (by kernel_rfl) rfl) 139 #[.pointer (some ⟨w.heap.size,0,none⟩)] trivial (enters_of Tryz.func139 (by kernel_rfl) rfl) _ _ hmax hbytes _ hseq
 refine ((callsIn_wide (n:=_)).1 cS).mono ?_
 rintro e w' ⟨v,ss,rfl,hS,hrow,hnil,hb⟩
 have hs:=yesTo_sorted _ n (ss:=ss) (hS.trans hperm.symm)
 have hl:ss.length=(yesTo (fun k=>(f k).isSome) n).length:=by
  have:=(hS.trans hperm.symm).length_eq
  simpa using this
 have hm:(ss.mergeSort (fun x y=>decide (x≤y))).map encZ=intVs (yesTo (fun k=>(f k).isSome) n):=by
  rw [hs];simp [intVs,encZ]
 have hrow':=ownsRow_base_a (base':=w.heap.size) hrow (by simp)
 rw [hl] at hrow'
 refine ⟨v,rfl,?_,((Below.refl _ w).alloc (Nat.le_refl _) _).trans (hb.mono (by simp))⟩
 rw [← hm]
 exact hrow'
end Go.Proofs.YtkhcaclndepgbaaGreat
namespace Go.Proofs.YtkhcaclndepgbaaGreat
open Go.RowKit
theorem steps_app {W w5:World} {base dp n k m:Nat} {v v':Value} {vs vs2:List Value} {ops ops2:List (Option (Nat × (Nat→Nat)))} (hk:ops.length=k) (hm:ops2.length=m) (hrow:W.ownsRow base 142 1 v k vs)
  (hall:∀ (i:Nat) (x:Option (Nat × (Nat→Nat))),ops[i]?=some x→∃ u:Value,vs[i]?=some u∧StepIs W dp n u x) (hall2:∀ (i:Nat) (x:Option (Nat × (Nat→Nat))),ops2[i]?=some x→∃ u:Value,vs2[i]?=some u∧StepIs W dp n u x)
  (hown:w5.ownsRow base 142 1 v' (k+m) (vs++vs2)) (hg:W.grownBy w5 v.ownBlock):StepsAt w5 base dp n v' (ops++ops2):=by
 have hlen:vs.length=k:=by have:=hrow.1;simpa using this
 refine ⟨vs++vs2,by rw [List.length_append,hk,hm];exact hown,fun i y hy=>?_⟩
 by_cases hi:i<k
 ·rw [List.getElem?_append_left (by omega)] at hy
  obtain ⟨u,h1,h2⟩:=hall i y hy
  exact ⟨u,by rw [List.getElem?_append_left (by omega)];exact h1,stepRow_far hrow hg h2⟩
 ·rw [List.getElem?_append_right (by omega)] at hy
  obtain ⟨u,h1,h2⟩:=hall2 _ y hy
  exact ⟨u,by rw [List.getElem?_append_right (by omega),hlen,← hk];exact h1,stepRow_far hrow hg h2⟩
theorem StepIs.one {w:World} {dp n:Nat} {u:Value} {x:Option (Nat × (Nat→Nat))} (h:StepIs w dp n u x):u.oneCell'=true:=by
 cases x with
 | none=>obtain rfl:u=_:=h;rfl
 | some x=>obtain ⟨a,b,c,k,o,cap,rfl,_⟩:=h;rfl
theorem steps_one {w:World} {base dp n:Nat} {v:Value} {vs:List Value} {ops:List (Option (Nat × (Nat→Nat)))} (hrow:w.ownsRow base 142 1 v ops.length vs)
  (hall:∀ (i:Nat) (x:Option (Nat × (Nat→Nat))),ops[i]?=some x→∃ u:Value,vs[i]?=some u∧StepIs w dp n u x):∀ u,u∈vs→u.oneCell'=true:=by
 intro u hu
 have hlen:vs.length=ops.length:=by have:=hrow.1;simpa using this
 obtain ⟨i,hi,rfl⟩:=List.mem_iff_getElem.1 hu
 obtain ⟨u',h1,h2⟩:=hall i _ (List.getElem?_eq_getElem (by omega))
 rw [List.getElem?_eq_getElem hi] at h1
 injection h1 with h1
 rw [h1];exact h2.one
theorem StepsAt.chg {w w':World} {base dp n:Nat} {v:Value} {ops:List (Option (Nat × (Nat→Nat)))} (h:StepsAt w base dp n v ops) (c:Chg [] w w'):StepsAt w' base dp n v ops:=by
 obtain ⟨vs,h1,h2⟩:=h
 exact ⟨vs,own_chgT h1 c (by simp),fun i x hx=>by obtain ⟨u,q1,q2⟩:=h2 i x hx;exact ⟨u,q1,q2.on c⟩⟩
theorem keep_now (T:Tal):T.keep.now=T.now:=rfl
theorem keep_n (T:Tal):T.keep.n=T.n:=rfl
theorem done_T (B:Bs):B.done.T=B.F.T.keep:=by unfold Bs.done;rfl
theorem done_K (B:Bs):B.done.K=B.F.K:=by unfold Bs.done;rfl
theorem done_a (B:Bs):B.done.a=B.F.a:=by unfold Bs.done;rfl
theorem done_now_le {B:Bs} (h:B.done.Ok) {i:Nat} (hi:i<B.F.T.n):B.F.T.now i<65536:=by
 have:=(h.le i (by rw [done_T,keep_n];exact hi)).1
 rw [done_T,keep_now] at this
 exact Nat.lt_of_le_of_lt this (by decide)
theorem sup_gen1 (S:Sup) (g:Nat):S.row.setIfInBounds 0 (.int .u64 (g:Int))=(Sup.mk g S.blocks S.roots S.marks).row:=by
 rw [row_lit,row_lit]
 rfl
theorem next_row {B:Bs} {N:Nat} (hN:N=B.T.n):(rootK B.S (nOf N 1) (B.F.a 1) 2).row.setIfInBounds 0 (.int .u64 ((B.S.gen+1:Nat):Int))=B.nextS.row:=by
 rw [sup_gen1]
 subst hN
 rfl
theorem base_done {M:Bm} {R R':Br} {B B':Bs} {S:Sup} {SX:Nat→Value} {v:Value} (hn:B'.T.n=B.T.n) (h0:SX 0 = .slice (some ⟨R'.g 0,0,none⟩) (nOf B'.T.n 0) (R'.c 0)) (h1:SX 1 = .slice (some ⟨R'.g 1,0,none⟩) (nOf B'.T.n 1) (R'.c 1))
  (hS:B'.S=S) (hK:B'.Kp=S) (hv:v = .int .i64 ((B'.Kp.gen % 2:Nat):Int)) :
  (fnRow 44 (laid (laid (laid (baseV M R B) SX 3 2) S.cellV 6 18) S.cellV 24 18)).setIfInBounds 42 v=fnRow 44 (baseV M R' B'):=by
 refine base_set (by omega) (by rw [hv];rfl) (fun j hj hne=>?_)
 unfold laid
 by_cases a:24≤j∧j<24+18
 ·rw [if_pos a]
  have e:j=24+(j - 24):=by omega
  rw [e,baseV_K _ _ _ (by omega),hK,Nat.add_sub_cancel_left]
 ·rw [if_neg a]
  by_cases b:6≤j∧j<6+18
  ·rw [if_pos b]
   have e:j=6+(j - 6):=by omega
   rw [e,baseV_S _ _ _ (by omega),hS,Nat.add_sub_cancel_left]
  ·rw [if_neg b]
   by_cases c:3≤j∧j<3+2
   ·rw [if_pos c]
    rcases (show j=3∨j=4 by omega) with rfl | rfl
    ·exact h0.symm
    ·exact h1.symm
   ·rw [if_neg c]
    unfold baseV
    by_cases j0:j=0
    ·subst j0;rfl
    by_cases j1:j=1
    ·subst j1;rfl
    by_cases j2:j=2
    ·subst j2;rfl
    by_cases j5:j=5
    ·subst j5;rfl
    obtain rfl:j=43:=by omega
    rfl
theorem frV_some {R:Br} {B:Bs} (k:Nat):(frV R B k).isSome=(B.fr k).isSome:=by
 unfold frV
 cases h:(B.fr k).isSome <;> simp
theorem ops_wr {R:Br} {B:Bs} {frs l0 l1:List Nat} {N:Nat} (hN:N=B.T.n) (hf:frs=yesTo (fun k=>(frV R B k).isSome) N) (h0:l0=yesTo (B.F.p 0) (nOf N 0)) (h1:l1=yesTo (B.F.p 1) (nOf N 1)) :
  frs.map (fun b=>some (b,(B.fr b).getD fun _=>0))++((l0.map fun i=>some (B.F.a 0 i,rowP 5 N B.F.T.now i))++(l1.map fun i=>some (B.F.a 1 i,rowP 4 (pg N) (B.F.a 0) i)))=B.wr.map some:=by
 have e:frs=B.frs:=by
  rw [hf,hN]
  unfold Bs.frs
  congr 1
  funext k
  exact frV_some k
 subst hN
 rw [e,h0,h1]
 unfold Bs.wr Bs.frW pagesW dirsW
 simp only [List.map_append,List.map_map]
 rfl
end Go.Proofs.YtkhcaclndepgbaaGreat
