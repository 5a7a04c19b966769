/- What a page tells of the node whose page it is. No program in sight. · Package find: the node at a block, as plain data; find.Node. · Layer 13 in plain words: what find tells of a tree. · catchmentlow.EqualNumbers, EqualNodes, AgainNumbers. · Package node: Right, At; slices.BinarySearch of numbers. -/
import Derived.Test.YtkhcaclndepgbaaGreatZn21
set_option linter.unusedVariables false
set_option linter.unusedSimpArgs false
set_option maxRecDepth 100000
set_option maxHeartbeats 20000000
namespace Go.Proofs.YtkhcaclndepgbaaGreat
open Go.RowKit
theorem num_bytes {g:Nat->Nat} {p v:Nat} : ∀ {k:Nat} (s:Nat),k<=s->(∀ i,i<s->g (p+i)=byteAt v (s - 1 - i))->v<256 ^ s->num g p k=v / 256 ^ (s - k)
 | 0,s,_,_,hv=>by
  unfold num;rw [Nat.sub_zero,Nat.div_eq_of_lt hv]
 | k+1,s,hk,hg,hv=>by
  unfold num;rw [num_bytes s (by omega) hg hv,hg k (by omega)];unfold byteAt;have e:s - k=(s - (k+1))+1:=by omega
  have e2:s - 1 - k=s - (k+1):=by omega
  rw [e,e2,Nat.pow_succ,<- Nat.div_div_eq_div_mul];omega
theorem num_all {g:Nat->Nat} {p v s:Nat} (hg:∀ i,i<s->g (p+i)=byteAt v (s - 1 - i)) (hv:v<256 ^ s):num g p s=v:=by
 rw [num_bytes s (zLr _) hg hv,Nat.sub_self,Nat.pow_zero,Nat.div_one]
theorem sumB_congrL {f g:Nat->Nat} : ∀ {k:Nat},(∀ i,i<k->f i=g i)->sumB f k=sumB g k
 | 0,_=>rfl
 | k+1,h=>by unfold sumB;rw [sumB_congrL (k:=k) fun i hi=>h i (by omega),h k (by omega)]
theorem sealP_low (kind n:Nat) (f:Nat->Nat) {i:Nat} (h:i<124):sealP kind n f i=preP kind n f i:=by
 unfold sealP putF;rw [if_neg (by omega)]
theorem seal_okL (kind n:Nat) (f:Nat->Nat):pageOK (sealP kind n f):=by
 unfold pageOK;rw [show sumB (sealP kind n f) 124=sumB (preP kind n f) 124 from sumB_congrL fun i hi=>sealP_low kind n f (by omega)];have hlt:=sumB_lt (preP kind n f) 124;refine num_all (fun i hi=>?_) (by rw [show (256:Nat) ^ 4=4294967296 by decide];omega);unfold sealP putF;rw [if_pos (by omega)];congr 1 <;> omega
theorem page_low (leaf:Bool) (n:Nat) (keys vals:Nat->Nat) {i:Nat} (h:i<123):pageF leaf n keys vals (1+i)=bodyF n keys vals n i:=by
 unfold pageF;rw [sealP_low _ _ _ (by omega)];unfold preP;rw [if_neg (by omega),if_pos (by omega)];congr 1 <;> omega
theorem page_kind (leaf:Bool) (n:Nat) (keys vals:Nat->Nat):pageF leaf n keys vals 0=kindL leaf:=by
 unfold pageF;rw [sealP_low _ _ _ (by omega)];unfold preP;rw [if_pos rfl]
theorem page_many (leaf:Bool) (n:Nat) (keys vals:Nat->Nat):pageF leaf n keys vals 1=n:=by
 have:=page_low leaf n keys vals (i:=0) (by omega);rw [this];unfold bodyF;rw [if_pos rfl]
theorem kindL_eq (leaf:Bool):decide (kindL leaf=1)=leaf:=by cases leaf <;> rfl
section
variable {leaf:Bool} {n:Nat} {keys vals:Nat->Nat} (hn:n<=7)
include hn
theorem pkey_page (hk:∀ i,i<n->keys i<18446744073709551616) {j:Nat} (hj:j<n):pkey (pageF leaf n keys vals) j=keys j:=by
 unfold pkey keyF;rw [page_many,if_pos hj];refine num_all (fun i hi=>?_) (by rw [show (256:Nat) ^ 8=18446744073709551616 by decide];exact hk j hj);rw [page_low _ _ _ _ (by omega)];unfold bodyF;rw [if_neg (by omega),if_pos (by omega),show (1+16*j+i - 1) / 16=j by omega,show (1+16*j+i - 1) % 16=i by omega,if_pos (by omega)]
theorem pval_page (hv:∀ i,i<n->vals i<18446744073709551616) {j:Nat} (hj:j<n):pval (pageF leaf n keys vals) j=vals j:=by
 unfold pval valF;rw [page_many,if_pos hj];refine num_all (fun i hi=>?_) (by rw [show (256:Nat) ^ 8=18446744073709551616 by decide];exact hv j hj);rw [page_low _ _ _ _ (by omega)];unfold bodyF;rw [if_neg (by omega),if_pos (by omega),show (1+16*j+8+i - 1) / 16=j by omega,show (1+16*j+8+i - 1) % 16=8+i by omega,if_neg (by omega)];congr 1 <;> omega
end
theorem kidsB_congr {f g:Nat->Nat} {n:Nat} (h:∀ i,i<n->f i=g i):kidsB f n=kidsB g n:=by
 refine kidsB_eq ?_;rw [kidsB_iff];unfold GoodK;constructor
 ·rintro ⟨a,b,c⟩
  exact ⟨a,fun i hi=>by rw [<- h i hi];exact b i hi,fun i j hij hj=>by rw [<- h i (by omega),<- h j hj];exact c i j hij hj⟩
 ·rintro ⟨a,b,c⟩
  exact ⟨a,fun i hi=>by rw [h i hi];exact b i hi,fun i j hij hj=>by rw [h i (by omega),h j hj];exact c i j hij hj⟩
theorem ascB_congr {f g:Nat->Nat} {n:Nat} (h:∀ i,i<n->f i=g i):ascB f n=ascB g n:=by
 rw [Bool.eq_iff_iff,ascB_iff,ascB_iff];unfold ascTo;constructor
 ·intro a i h1 h2
  rw [<- h i h2,<- h (i - 1) (by omega)];exact a i h1 h2
 ·intro a i h1 h2
  rw [h i h2,h (i - 1) (by omega)];exact a i h1 h2
theorem rightB_congr {leaf:Bool} {n m:Nat} {keys vals keys' vals':Nat->Nat} (hk:∀ i,i<n->keys i=keys' i) (hv:∀ i,i<m->vals i=vals' i):rightB leaf n m keys vals=rightB leaf n m keys' vals':=by
 unfold rightB;rw [kidsB_congr hv,ascB_congr hk]
theorem bodyF_congr {n:Nat} {keys vals keys' vals':Nat->Nat} (hk:∀ i,i<n->keys i=keys' i) (hv:∀ i,i<n->vals i=vals' i):bodyF n keys vals n=bodyF n keys' vals' n:=by
 funext i
 unfold bodyF;by_cases h0:i=0
 ·rw [if_pos h0,if_pos h0]
 ·rw [if_neg h0,if_neg h0]
  by_cases h1:i<1+16*n
  ·rw [if_pos h1,if_pos h1,hk _ (by omega),hv _ (by omega)]
  ·rw [if_neg h1,if_neg h1]
theorem pageF_congr {leaf:Bool} {n:Nat} {keys vals keys' vals':Nat->Nat} (hk:∀ i,i<n->keys i=keys' i) (hv:∀ i,i<n->vals i=vals' i):pageF leaf n keys vals=pageF leaf n keys' vals':=by
 unfold pageF;rw [bodyF_congr hk hv]
theorem rightB_bd {leaf:Bool} {n m:Nat} {keys vals:Nat->Nat} (h:rightB leaf n m keys vals=true):n<=7/\m=n:=by
 unfold rightB at h;simp only [Bool.and_eq_true,decide_eq_true_eq] at h;exact ⟨h.1,h.2.1⟩
def decB (n:Nat) (f:Nat->Nat):Bool :=
 decide (n=128/\num f 124 4=sumB f 124/\(f 0=1∨f 0=2)/\f 1<=7)&&(rightB (decide (f 0=1)) (f 1) (f 1) (pkey f) (pval f)&&eqF 128 128 (pageF (decide (f 0=1)) (f 1) (pkey f) (pval f)) f)
theorem decB_page {leaf:Bool} {n:Nat} {keys vals:Nat->Nat} (h:rightB leaf n n keys vals=true) (hk:∀ i,i<n->keys i<18446744073709551616) (hv:∀ i,i<n->vals i<18446744073709551616) :
  decB 128 (pageF leaf n keys vals)=true:=by
 have hn:=(rightB_bd h).1;unfold decB;rw [page_many,page_kind,kindL_eq];have e1:∀ i,i<n->pkey (pageF leaf n keys vals) i=keys i:=fun i hi=>pkey_page hn hk hi;have e2:∀ i,i<n->pval (pageF leaf n keys vals) i=vals i:=fun i hi=>pval_page hn hv hi;rw [rightB_congr e1 e2,h,pageF_congr e1 e2];have hs:=seal_okL (kindL leaf) 123 (bodyF n keys vals n);have e:eqF 128 128 (pageF leaf n keys vals) (pageF leaf n keys vals)=true:=eqF_iff.2 ⟨rfl,fun _ _=>rfl⟩;rw [e];simp only [Bool.and_true,decide_eq_true_eq];exact ⟨trivial,hs,by cases leaf <;> simp [kindL],hn⟩
theorem dec_at {w:World} {a:Option Addr} {n cap:Nat} {f:Nat->Nat} (h:BytesIn w a n cap f):Calls Tryz.prog 116 #[.slice a n cap] w (DecEnd w (decide (f 0=1)) f (decB n f)):=by
 by_cases hn:n=128
 ·subst hn
  obtain ⟨h1,h2,h3,h4⟩:=h
  cases a with
  | none=>have:=(h3 rfl).1;omega
  | some q =>
   obtain ⟨b,off,rfl,hb⟩:=h4 q rfl (by omega);have hN:cap<=9223372036854775807:=by unfold maxLen at h2;omega
   by_cases hp:pageOK f
   ·by_cases hk:f 0=1∨f 0=2
    ·by_cases hm:f 1<=7
     ·have e:decide (128=128/\num f 124 4=sumB f 124/\(f 0=1∨f 0=2)/\f 1<=7)=true:=by simp only [decide_eq_true_eq];exact ⟨trivial,hp,hk,hm⟩
      unfold decB;rw [e,Bool.true_and];rcases hk with hk | hk
      ·have e2:decide (f 0=1)=true:=by simp [hk]
       rw [e2];exact dec_leaf hb h1 hN hp (by rw [hk];rfl) hm
      ·have e2:decide (f 0=1)=false:=by simp [hk]
       rw [e2];exact dec_inner hb h1 hN hp (by rw [hk];rfl) hm
     ·exact (dec_many hb h1 hN hp hk (by omega)).mono fun _ _ r=>dec_neg (by unfold decB;simp [hm]) r
    ·exact (dec_kind hb h1 hN hp (by omega)).mono fun _ _ r=>dec_neg (by unfold decB;simp [hk]) r
   ·exact (dec_sum hb h1 hN hp).mono fun _ _ r=>dec_neg (by unfold decB;unfold pageOK at hp;simp [hp]) r
 ·exact (dec_len hn).mono fun _ _ r=>dec_neg (by unfold decB;simp [hn]) r
structure Nd where
 leaf:Bool
 n:Nat
 k:Nat->Nat
 v:Nat->Nat
def decN (f:Nat->Nat):Option Nd:=if decB 128 f then some ⟨decide (f 0=1),f 1,pkey f,pval f⟩ else none
structure Nd.Ok (d:Nd):Prop where
 n:d.n<=7
 k:∀ i,i<d.n->d.k i<18446744073709551616
 v:∀ i,i<d.n->d.v i<18446744073709551616
 asc:ascTo d.k d.n
 kids:d.leaf=false->kidsB d.v d.n=true
def Bs.inI (B:Bs) (x:Int):Bool:=decide (2<=x)&&decide (x<(B.T.n:Int))
def Bs.nodeI (B:Bs) (x:Int):Option Nd:=if B.inI x then decN (B.read x.toNat) else none
def Bs.nodeE (B:Bs) (x:Int):Int:=if B.inI x then 130 else 2
theorem num8_lt {f:Nat->Nat} {p:Nat} (h:∀ i,i<8->f (p+i)<=255):num f p 8<18446744073709551616:=by
 have:=num_lt (f:=f) (p:=p) (k:=8) h;rwa [show (256:Nat) ^ 8=18446744073709551616 by decide] at this
theorem decN_some {f:Nat->Nat} {d:Nd} (h:decN f=some d):decB 128 f=true/\d=⟨decide (f 0=1),f 1,pkey f,pval f⟩:=by
 unfold decN at h
 split at h
 ·rename_i e;injection h with h;exact ⟨e,h.symm⟩
 ·cases h
theorem decN_ok {f:Nat->Nat} {d:Nd} (h:decN f=some d) (hf:∀ i,i<128->f i<=255):d.Ok:=by
 obtain ⟨e,rfl⟩:=decN_some h;unfold decB at e;simp only [Bool.and_eq_true,decide_eq_true_eq] at e;obtain ⟨⟨_,_,_,h7⟩,hr,_⟩:=e;have hr':=hr;unfold rightB at hr';simp only [Bool.and_eq_true,decide_eq_true_eq,Bool.or_eq_true] at hr';refine ⟨h7,fun i hi=>?_,fun i hi=>?_,(ascB_iff _ _).1 hr'.2.2.2,fun hl=>?_⟩
 ·change i<f 1 at hi
  show pkey f i<_
  unfold pkey keyF;rw [if_pos hi];exact num8_lt fun j hj=>hf _ (by omega)
 ·change i<f 1 at hi
  show pval f i<_
  unfold pval valF;rw [if_pos hi];exact num8_lt fun j hj=>hf _ (by omega)
 ·rcases hr'.2.2.1 with q | q
  ·rw [decide_eq_true q] at hl;cases hl
  ·exact q
theorem Bs.Ok.read_le {B:Bs} (h:B.Ok) {b:Nat} (hb:b<B.T.n):∀ i,i<128->B.read b i<=255:=by
 intro i hi;unfold Bs.read
 cases hf:B.fr b with
 | none=>exact h.dle b hb i hi
 | some f=>exact h.fle b f hb hf i hi
theorem inI_iff {B:Bs} {x:Int} : B.inI x=true↔2<=x/\x<(B.T.n:Int):=by unfold Bs.inI;simp
theorem Bs.Ok.node_ok {B:Bs} (h:B.Ok) {x:Int} {d:Nd} (hd:B.nodeI x=some d):d.Ok/\2<=x/\x<(B.T.n:Int):=by
 unfold Bs.nodeI at hd
 split at hd
 ·rename_i e
  have e:=inI_iff.1 e;exact ⟨decN_ok hd (h.read_le (by omega)),e⟩
 ·cases hd
def NodeEnd (w:World) (o:Option Nd) (E:Int) (e:Ending) (w':World):Prop :=
 (∃ d kb vb,o=some d/\e = .returned (.tuple #[.agg #[.bool d.leaf,.slice (some ⟨kb,0,none⟩) d.n d.n,.slice (some ⟨vb,0,none⟩) d.n d.n],.int .i64 0])/\w.heap.size<=kb/\w.heap.size<=vb/\kb≠vb/\Row64 w' kb d.n d.k/\Row64 w' vb d.n d.v/\Chg [] w w') ∨
 (o=none/\e = .returned (.tuple #[.agg #[.bool false,.slice none 0 0,.slice none 0 0],.int .i64 E])/\Chg [] w w')
theorem bRead_bad {w:World} {M:Bm} {R:Br} {B:Bs} (h:BaseC w M R B) {x:Int} (hx:x<0∨(B.T.n:Int)<=x) :
  Calls Tryz.prog 26 #[.pointer (some ⟨M.b,0,none⟩),.int .i64 x] w fun e w'=>e = .returned (.tuple #[.slice none 0 0,.int .i64 2])/\w=w':=by
 have cn:=bNone_at h;have cb:=bBlocks_at h;by_cases i0:x<0
 ·go_enter Tryz.func26,Tryz.ntmps26
  go_wp2_with fail;refine (cn).mono ?_;rintro e w' ⟨rfl,rfl⟩;go_wp2_with fail
  go_ret2
  exact ⟨rfl,rfl⟩
 ·have i1:(B.T.n:Int)<=x:=by omega
  go_enter Tryz.func26,Tryz.ntmps26;go_wp2_with fail;refine (cn).mono ?_;rintro e w' ⟨rfl,rfl⟩;go_wp2_with fail;refine (cb).mono ?_;rintro e w' ⟨rfl,rfl⟩;go_wp2_with fail
  go_ret2
  exact ⟨rfl,rfl⟩
theorem set3 {w:World} {r:Nat} {x y z:Value} {T:TypeId} (h:w.heap[r]?=some (.cells #[x,y,z] T (0,0))) (a b c:Value) :
  (((w.setCell ⟨r,0,none⟩ a).setCell ⟨r,1,none⟩ b).setCell ⟨r,2,none⟩ c).heap[r]?=some (.cells #[a,b,c] T (0,0)):=by
 have h3:=zsb (zsb (zsb h 0 a) 1 b) 2 c;simpa using h3
theorem set3_chg (w:World) (r:Nat) (a b c:Value):Chg [r] w (((w.setCell ⟨r,0,none⟩ a).setCell ⟨r,1,none⟩ b).setCell ⟨r,2,none⟩ c) :=
 (((Chg.refl _ _).setCell (.inl (by simp)) _).setCell (.inl (by simp)) _).setCell (.inl (by simp)) _
theorem infoNode:(Tryz.prog.info? 107).map (·.size)=some 3:=by kernel_rfl
theorem load3 {w:World} {r:Nat} {a b c:Value} (h:w.heap[r]?=some (.cells #[a,b,c] 107 (0,0))):(loadVar 107 ⟨r,0,none⟩).run Tryz.prog w = .ok (.agg #[a,b,c]) w:=by
 have hr:=run_loadVar_mid (P:=Tryz.prog) w r 0 107 [a,b,c] _ (fun j v hv=>by
  rw [Nat.zero_add,zcb h,<- hv,<- Array.getElem?_toList]) Tryz.underlying107 rfl infoNode
 exact hr
section
variable {w:World} {x:Int}
theorem fNode_in {M:Bm} {R:Br} {B:Bs} (h:BaseIn w M R B):Calls Tryz.prog 61 #[.pointer (some ⟨M.b,0,none⟩),.int .i64 x] w (NodeEnd w (B.nodeI x) (B.nodeE x)):=by
 have hX:=znb w (.cells #[.bool false,.slice none 0 0,.slice none 0 0] 107);have hW:=(Chg.refl [] w).alloc (.cells #[.bool false,.slice none 0 0,.slice none 0 0] 107);have hs:=zhl hX;have h:=h.chg hW (fun _ _=>by simp);have HX:=zh (zA hX hW);have n1:=h.c.ok.n;have cb:=bBlocks_at h.c;have i0:¬ B.T.n=0:=by omega
 have f0:=zfb hX 0;have f1:=zfb hX 1;have f2:=zfb hX 2;have x0:=zcb hX 0;have x1:=zcb hX 1;have x2:=zcb hX 2;simp only [tA1,tA3,tA2] at x0 x1 x2;clear hX hW;have bad:∀ W2,Chg [w.heap.size] (w.alloc (.cells #[.bool false,.slice none 0 0,.slice none 0 0] 107)) W2->Chg [] w W2:=fun W2 c=>HX.out.2.then c (fun q hq=>by simp only [zms] at hq;subst hq;exact .inr (zLr _));by_cases i1:x<2
 ·have hI:B.inI x=false:=by unfold Bs.inI;rw [decide_eq_false (by omega)];rfl
  unfold Bs.nodeI Bs.nodeE;rw [hI];clear h;go_enter Tryz.func61,Tryz.ntmps61;go_upto_region 1 with fail;generalize w.alloc (.cells #[.bool false,.slice none 0 0,.slice none 0 0] 107)=W at *;go_wp2_with fail;refine (cb).mono ?_;rintro e w' ⟨rfl,rfl⟩;go_wp2_with fail;exact bodyPost_ret (results_ct (a:=4) (b:=5) (by kernel_rfl) rfl (load3 (set3 HX.out.1 _ _ _))) rfl (.inr ⟨rfl,rfl,bad _ (set3_chg _ _ _ _ _)⟩)
 by_cases i2:(B.T.n:Int)<=x
 ·have hI:B.inI x=false:=by unfold Bs.inI;rw [decide_eq_true (by omega),decide_eq_false (by omega)];rfl
  unfold Bs.nodeI Bs.nodeE;rw [hI];have cr:=bRead_bad h.c (.inr i2);clear h;go_enter Tryz.func61,Tryz.ntmps61;go_upto_region 1 with fail;generalize w.alloc (.cells #[.bool false,.slice none 0 0,.slice none 0 0] 107)=W at *;go_wp2_with fail;refine (cb).mono ?_;rintro e w' ⟨rfl,rfl⟩;go_wp2_with fail;refine (cr).mono ?_;rintro e w' ⟨rfl,rfl⟩;go_wp2_with fail;exact bodyPost_ret (results_ct (a:=4) (b:=5) (by kernel_rfl) rfl (load3 (set3 HX.out.1 _ _ _))) rfl (.inr ⟨rfl,rfl,bad _ (set3_chg _ _ _ _ _)⟩)
 ·obtain ⟨a,rfl⟩:=Int.eq_ofNat_of_zero_le (show 0<=x by omega)
  have hI:B.inI (a:Int)=true:=inI_iff.2 (by omega);unfold Bs.nodeI Bs.nodeE;rw [hI,if_pos rfl,if_pos rfl,Int.toNat_natCast];have cr:=bRead_at h (a:=a) (by omega);have CR:=zh cr;clear cr h hI;go_enter Tryz.func61,Tryz.ntmps61;go_upto_region 1 with fail;generalize w.alloc (.cells #[.bool false,.slice none 0 0,.slice none 0 0] 107)=W at *;go_wp2_with fail;refine (cb).mono ?_;rintro e w' ⟨rfl,rfl⟩;go_wp2_with fail;refine CR.out.mono ?_;rintro e w1 ⟨g,c,rfl,q1,q2,q3,q4,q5,q6⟩;have hin:BytesIn w1 (some ⟨g,0,none⟩) 128 c (B.read a):=⟨q1,q2,(fun e=>by cases e),(fun b hb _=>by injection hb with hb;exact ⟨g,0,hb.symm,q5⟩)⟩;have cd:=zh (dec_at hin);have hX1:=(q6.block _ hs (by simp)).trans HX.out.1;have HC:=zh q6;have hs1:=zhl hX1;clear q1 q2 q3 q4 q5 q6 hin CR x0 x1 x2 f0 f1 f2;go_wp2_with fail;refine cd.out.mono ?_;intro e w2 hd;unfold DecEnd at hd
  cases hb:decB 128 (B.read a) with
  | false =>
   rw [hb,if_neg (by decide)] at hd;obtain ⟨rfl,hc2⟩:=hd;have hx3:=(hc2.block _ hs1 (by simp)).trans hX1;have hy:=hc2.alloc (.cells #[.bool false,.slice none 0 0,.slice none 0 0] 107);have hx4:=(hy.block _ hs1 (by simp)).trans hX1;have hs4:=zhl hx4;have HC2:=zh (zA hx4 (HC.out.trans hy));have f0:=zfb hx4 0;have f1:=zfb hx4 1;have f2:=zfb hx4 2;have x0:=zcb hx4 0;have x1:=zcb hx4 1;have x2:=zcb hx4 2;simp only [tA1,tA3,tA2] at x0 x1 x2;clear hc2 cd hx3 hy hx4;go_wp2_with fail;exact bodyPost_ret (results_ct (a:=4) (b:=5) (by kernel_rfl) rfl (load3 (set3 HC2.out.1 _ _ _))) rfl (.inr ⟨by unfold decN;rw [hb];rfl,rfl,bad _ ((HC2.out.2.mono (by simp)).trans (set3_chg _ _ _ _ _))⟩)
  | true =>
   rw [hb,if_pos rfl] at hd;obtain ⟨kb,vb,rfl,k1,k2,k3,k4,k5,hc2⟩:=hd;have hy:=hc2.alloc (.cells #[.bool (decide (B.read a 0=1)),.slice (some ⟨kb,0,none⟩) (B.read a 1) (B.read a 1),.slice (some ⟨vb,0,none⟩) (B.read a 1) (B.read a 1)] 107);have hx4:=(hy.block _ hs1 (by simp)).trans hX1;have hs4:=zhl hx4;have hs2:=hc2.size;have hW1:=HC.out.size;have HK:=zh (zA k1 (zA k2 (zA k3 (zA k4 k5))));have HC2:=zh (zA hx4 (HC.out.trans hy));have f0:=zfb hx4 0;have f1:=zfb hx4 1;have f2:=zfb hx4 2;have hz:=znb w2 (.cells #[.bool (decide (B.read a 0=1)),.slice (some ⟨kb,0,none⟩) (B.read a 1) (B.read a 1),.slice (some ⟨vb,0,none⟩) (B.read a 1) (B.read a 1)] 107);have x0:=zcb hx4 0;have x1:=zcb hx4 1;have x2:=zcb hx4 2;simp only [tA1,tA3,tA2] at x0 x1 x2;have z0:=zcb hz 0;have z1:=zcb hz 1;have z2:=zcb hz 2;simp only [tA1,tA3,tA2] at z0 z1 z2;have HZ:=zh (hc2.alloc (.cells #[.bool (decide (B.read a 0=1)),.slice (some ⟨kb,0,none⟩) (B.read a 1) (B.read a 1),.slice (some ⟨vb,0,none⟩) (B.read a 1) (B.read a 1)] 107));have HZ2:Hid (Chg [] w2 (w2.alloc (.cells #[.bool (decide (B.read a 0=1)),.slice (some ⟨kb,0,none⟩) (B.read a 1) (B.read a 1),.slice (some ⟨vb,0,none⟩) (B.read a 1) (B.read a 1)] 107))):=zh ((Chg.refl _ _).alloc _);clear hc2 cd hy hx4 hz k1 k2 k3 k4 k5;go_upto_region 9 with fail;generalize w2.alloc (.cells #[.bool (decide (B.read a 0=1)),.slice (some ⟨kb,0,none⟩) (B.read a 1) (B.read a 1),.slice (some ⟨vb,0,none⟩) (B.read a 1) (B.read a 1)] 107)=w3 at *;go_wp2_with fail
   have hnk:kb∉[w.heap.size]:=by have:=HK.out.1;simp only [zms];omega
   have hnv:vb∉[w.heap.size]:=by have:=HK.out.2.1;simp only [zms];omega
   have hr1:=(HK.out.2.2.2.1.chg HZ2.out (by simp)).chg (set3_chg w3 w.heap.size (.bool (decide (B.read a 0=1))) (.slice (some ⟨kb,0,none⟩) (B.read a 1) (B.read a 1)) (.slice (some ⟨vb,0,none⟩) (B.read a 1) (B.read a 1))) hnk;have hr2:=(HK.out.2.2.2.2.chg HZ2.out (by simp)).chg (set3_chg w3 w.heap.size (.bool (decide (B.read a 0=1))) (.slice (some ⟨kb,0,none⟩) (B.read a 1) (B.read a 1)) (.slice (some ⟨vb,0,none⟩) (B.read a 1) (B.read a 1))) hnv
   exact bodyPost_ret (results_ct (a:=4) (b:=5) (by kernel_rfl) rfl (load3 (set3 HC2.out.1 _ _ _))) rfl
    (.inl ⟨⟨decide (B.read a 0=1),B.read a 1,pkey (B.read a),pval (B.read a)⟩,kb,vb,by unfold decN;rw [hb];rfl,rfl,by have:=HK.out.1;omega,by have:=HK.out.2.1;omega,HK.out.2.2.1,hr1,hr2,bad _ ((HC2.out.2.mono (by simp)).trans (set3_chg _ _ _ _ _))⟩)
end
theorem BaseAt.cNode {w:World} {M:Bm} {F:List Nat} {B:Bs} (h:BaseAt w M F B) (x:Int):Calls Tryz.prog 61 #[.pointer (some ⟨M.b,0,none⟩),.int .i64 x] w (NodeEnd w (B.nodeI x) (B.nodeE x)):=by
 obtain ⟨R,hi,_⟩:=h;exact fNode_in hi
theorem asc_lt {k:Nat->Nat} {n:Nat} (h:ascTo k n):∀ {i j:Nat},i<j->j<n->k i<k j
 | i,0,h1,_=>by omega
 | i,j+1,h1,h2=>by
  have h3:=h (j+1) (by omega) h2;rw [Nat.add_sub_cancel] at h3;by_cases e:i=j
  ·rw [e];exact h3
  ·have:=asc_lt h (i:=i) (j:=j) (by omega) (by omega)
   omega
def Nd.items (d:Nd):List (Nat × Nat):=(List.range d.n).map fun i=>(d.k i,d.v i)
def Nd.hi (d:Nd) (hi i:Nat):Nat:=if i+1<d.n then d.k (i+1) - 1 else hi
def kidI (v:Nat):Int:=((min v 2147483647:Nat):Int)
def itemsP (B:Bs) (lo hi:Nat):Nat->Int->List ((Nat × Nat) × Int)
 | 0,x=>match B.nodeI x with
  | none=>[((0,0),B.nodeE x)]
  | some _=>[((0,0),130)]
 | f+1,x=>match B.nodeI x with
  | none=>[((0,0),B.nodeE x)]
  | some d=>(List.range d.n).flatMap fun i=>if hi<d.k i then [] else if d.leaf then (if lo<=d.k i then [((d.k i,d.v i),0)] else [])
   else if i+1=d.n∨lo<d.k (i+1) then itemsP B lo hi f (kidI (d.v i)) else []
def heightP (B:Bs):Nat->Int->Nat × Int
 | 0,x=>if x=0 then (0,0) else match B.nodeI x with
  | none=>(0,B.nodeE x)
  | some _=>(0,130)
 | f+1,x=>if x=0 then (0,0) else match B.nodeI x with
  | none=>(0,B.nodeE x)
  | some d=>if d.leaf then (1,0) else if (heightP B f (kidI (d.v 0))).2=0 then ((heightP B f (kidI (d.v 0))).1+1,0) else (0,(heightP B f (kidI (d.v 0))).2)
def rightP (B:Bs):Nat->Int->Nat->Nat->Nat->Bool
 | 0,x,lo,hi,least=>match B.nodeI x with
  | none=>false
  | some d=>decide (least<=d.n)&&(d.leaf&&(List.range d.n).all fun i=>decide (lo<=d.k i/\d.k i<=hi))
 | h+1,x,lo,hi,least=>match B.nodeI x with
  | none=>false
  | some d=>decide (least<=d.n)&&(!d.leaf&&(List.range d.n).all fun i=>decide (lo<=d.k i/\d.k i<=hi)&&(decide (2<=d.v i/\d.v i<B.T.n)&&rightP B h (d.v i:Int) (d.k i) (d.hi hi i) 3))
def allP (B:Bs):Nat->Int->List (Nat × Nat)
 | 0,x=>match B.nodeI x with
  | none=>[]
  | some d=>d.items
 | h+1,x=>match B.nodeI x with
  | none=>[]
  | some d=>(List.range d.n).flatMap fun i=>allP B h (d.v i:Int)
def blksP (B:Bs):Nat->Int->List Int
 | 0,x=>[x]
 | h+1,x=>match B.nodeI x with
  | none=>[x]
  | some d=>x::(List.range d.n).flatMap fun i=>blksP B h (d.v i:Int)
section
variable {B:Bs}
theorem right_leaf {x:Int} {lo hi least:Nat} (h:rightP B 0 x lo hi least=true):∃ d,B.nodeI x=some d/\d.leaf=true/\least<=d.n/\allP B 0 x=d.items/\∀ i,i<d.n->lo<=d.k i/\d.k i<=hi:=by
 unfold rightP at h
 cases hd:B.nodeI x with
 | none=>rw [hd] at h;cases h
 | some d =>
  rw [hd] at h;simp only [Bool.and_eq_true,decide_eq_true_eq,List.all_eq_true,List.mem_range] at h;exact ⟨d,rfl,h.2.1,h.1,by unfold allP;rw [hd],fun i hi=>h.2.2 i hi⟩
structure Inner (B:Bs) (h:Nat) (x:Int) (lo hi least:Nat) (d:Nd):Prop where
 node:B.nodeI x=some d
 leaf:d.leaf=false
 least:least<=d.n
 all:allP B (h+1) x=(List.range d.n).flatMap fun i=>allP B h (d.v i:Int)
 bd:∀ i,i<d.n->lo<=d.k i/\d.k i<=hi
 kid:∀ i,i<d.n->2<=d.v i/\d.v i<B.T.n
 right:∀ i,i<d.n->rightP B h (d.v i:Int) (d.k i) (d.hi hi i) 3=true
theorem right_inner {h:Nat} {x:Int} {lo hi least:Nat} (hr:rightP B (h+1) x lo hi least=true):∃ d,Inner B h x lo hi least d:=by
 unfold rightP at hr
 cases hd:B.nodeI x with
 | none=>rw [hd] at hr;cases hr
 | some d =>
  rw [hd] at hr;simp only [Bool.and_eq_true,decide_eq_true_eq,List.all_eq_true,List.mem_range,Bool.not_eq_true'] at hr;exact ⟨d,hd,hr.2.1,hr.1,by show (match B.nodeI x with | none=>[] | some d=>_)=_;rw [hd],fun i hi=>(hr.2.2 i hi).1,fun i hi=>(hr.2.2 i hi).2.1,fun i hi=>(hr.2.2 i hi).2.2⟩
theorem right_ge {h:Nat} {x:Int} {lo hi least:Nat} (hr:rightP B h x lo hi least=true):2<=x/\x<(B.T.n:Int)/\∃ d,B.nodeI x=some d/\least<=d.n:=by
 have key:∀ d,B.nodeI x=some d->2<=x/\x<(B.T.n:Int):=fun d hd=>by
  unfold Bs.nodeI at hd
  split at hd
  ·rename_i e;exact inI_iff.1 e
  ·cases hd
 cases h with
 | zero=>obtain ⟨d,h1,h2,h3,_⟩:=right_leaf hr;exact ⟨(key d h1).1,(key d h1).2,d,h1,h3⟩
 | succ h=>obtain ⟨d,I⟩:=right_inner hr;exact ⟨(key d I.node).1,(key d I.node).2,d,I.node,I.least⟩
theorem kidI_lt {v:Nat} (h:v<4097):kidI v=(v:Int):=by unfold kidI;rw [Nat.min_eq_left (by omega)]
theorem hi_next {d:Nd} (hd:d.Ok) {i j p hi:Nat} (hij:i<j) (hj:j<d.n) (hp:p<=d.hi hi i):p<d.k j:=by
 unfold Nd.hi at hp;rw [if_pos (by omega)] at hp;have h0:=asc_lt hd.asc (i:=i) (j:=i+1) (by omega) (by omega);by_cases e:i+1=j
 ·subst e;omega
 ·have:=asc_lt hd.asc (i:=i+1) (j:=j) (by omega) hj
  omega
theorem hi_le {d:Nd} {lo hi i:Nat} (hb:∀ i,i<d.n->lo<=d.k i/\d.k i<=hi):d.hi hi i<=hi:=by
 unfold Nd.hi
 split
 ·have:=hb (i+1) (by assumption);omega
 ·exact zLr _
theorem all_bd (ok:B.Ok):∀ {h:Nat} {x:Int} {lo hi least:Nat},rightP B h x lo hi least=true->(∀ p,p∈allP B h x->lo<=p.1/\p.1<=hi)/\(allP B h x).Pairwise (fun p q=>p.1<q.1)
 | 0,x,lo,hi,least,hr=>by
  obtain ⟨d,h1,h2,h3,h4,h5⟩:=right_leaf hr;have hd:=(ok.node_ok h1).1;rw [h4];unfold Nd.items;refine ⟨fun p hp=>?_,?_⟩
  ·obtain ⟨i,hi,rfl⟩:=List.mem_map.1 hp
   exact h5 i (List.mem_range.1 hi)
  ·rw [List.pairwise_map]
   refine List.Pairwise.imp_of_mem ?_ List.pairwise_lt_range;intro i j hi hj hij;exact asc_lt hd.asc hij (List.mem_range.1 hj)
 | h+1,x,lo,hi,least,hr=>by
  obtain ⟨d,I⟩:=right_inner hr;have hd:=(ok.node_ok I.node).1;rw [I.all];refine ⟨fun p hp=>?_,?_⟩
  ·obtain ⟨i,hi',hp⟩:=List.mem_flatMap.1 hp
   have hi':=List.mem_range.1 hi';have:=(all_bd ok (I.right i hi')).1 p hp;have h1:=I.bd i hi';have h2:=hi_le (i:=i) I.bd;omega
  ·rw [List.pairwise_flatMap]
   refine ⟨fun i hi'=>(all_bd ok (I.right i (List.mem_range.1 hi'))).2,?_⟩;refine List.Pairwise.imp_of_mem ?_ List.pairwise_lt_range;intro i j hi' hj hij p hp q hq;have h1:=(all_bd ok (I.right i (List.mem_range.1 hi'))).1 p hp;have h2:=(all_bd ok (I.right j (List.mem_range.1 hj))).1 q hq;have:=hi_next hd hij (List.mem_range.1 hj) h1.2;omega
theorem flat_pick {α β:Type} (p:β->Bool) (f:α->β):∀ l:List α,(l.flatMap fun i=>if p (f i) then [f i] else [])=(l.map f).filter p
 | []=>rfl
 | a::r=>by
  rw [List.flatMap_cons,List.map_cons,List.filter_cons,flat_pick p f r]
  split <;> rfl
theorem flat_congr {α β:Type} {f g:α->List β} {l:List α} (h:∀ a,a∈l->f a=g a):l.flatMap f=l.flatMap g:=by
 rw [List.flatMap_def,List.flatMap_def,List.map_congr_left h]
theorem items_right (ok:B.Ok) {lo' hi':Nat} : ∀ {h f:Nat} {x:Int} {lo hi least:Nat},rightP B h x lo hi least=true->h<f->itemsP B lo' hi' f x=((allP B h x).filter fun p=>decide (lo'<=p.1)&&decide (p.1<=hi')).map fun p=>(p,0)
 | 0,f+1,x,lo,hi,least,hr,hf=>by
  obtain ⟨d,h1,h2,h3,h4,h5⟩:=right_leaf hr;rw [h4];unfold itemsP Nd.items;rw [h1];simp only [h2,if_true];rw [<- flat_pick (fun p:Nat × Nat=>decide (lo'<=p.1)&&decide (p.1<=hi')) (fun i=>(d.k i,d.v i)),List.map_flatMap];refine flat_congr fun i hi=>?_;by_cases e1:hi'<d.k i
  ·rw [if_pos e1,if_neg (by simp;omega)];rfl
  ·rw [if_neg e1]
   by_cases e2:lo'<=d.k i
   ·rw [if_pos e2,if_pos (by simp;omega)];rfl
   ·rw [if_neg e2,if_neg (by simp;omega)];rfl
 | h+1,f+1,x,lo,hi,least,hr,hf=>by
  obtain ⟨d,I⟩:=right_inner hr;have hd:=(ok.node_ok I.node).1;have hN:=ok.n;rw [I.all,itemsP,I.node];simp only [I.leaf,Bool.false_eq_true,if_false];rw [List.filter_flatMap,List.map_flatMap];refine flat_congr fun i hi=>?_;have hi:=List.mem_range.1 hi;have hk:=I.kid i hi;have hb:=(all_bd ok (I.right i hi)).1;by_cases e1:hi'<d.k i
  ·rw [if_pos e1,List.filter_eq_nil_iff.2 (fun p hp=>by have:=hb p hp;simp;omega)];rfl
  ·rw [if_neg e1]
   by_cases e2:i+1=d.n∨lo'<d.k (i+1)
   ·rw [if_pos e2,kidI_lt (by omega),items_right ok (I.right i hi) (by omega)]
   ·rw [if_neg e2,List.filter_eq_nil_iff.2 (fun p hp=>by
     have:=hb p hp;have h2:=hi_next hd (show i<i+1 by omega) (by omega) this.2;simp;omega)];rfl
theorem height_right (ok:B.Ok):∀ {h f:Nat} {x:Int} {lo hi least:Nat},rightP B h x lo hi least=true->h<f->1<=least->heightP B f x=(h+1,0)
 | 0,f+1,x,lo,hi,least,hr,hf,hl=>by
  obtain ⟨d,h1,h2,h3,h4,h5⟩:=right_leaf hr;have hx:x≠0:=by have:=right_ge hr;omega
  rw [heightP,if_neg hx,h1];simp only [h2,if_true]
 | h+1,f+1,x,lo,hi,least,hr,hf,hl=>by
  obtain ⟨d,I⟩:=right_inner hr;have hx:x≠0:=by have:=right_ge hr;omega
  have hN:=ok.n;have hn:0<d.n:=by have:=I.least;omega
  have hk:=I.kid 0 hn;rw [heightP,if_neg hx,I.node];simp only [I.leaf,Bool.false_eq_true,if_false];rw [kidI_lt (by omega),height_right ok (I.right 0 hn) (by omega) (by omega)];rfl
theorem tree_congr {B':Bs} (hn:B'.T.n=B.T.n):∀ {h:Nat} {x:Int} {lo hi least:Nat},(∀ b,b∈blksP B h x->B'.nodeI b=B.nodeI b)->rightP B' h x lo hi least=rightP B h x lo hi least/\allP B' h x=allP B h x/\blksP B' h x=blksP B h x
 | 0,x,lo,hi,least,hb=>by
  have e:=hb x (by simp [blksP]);refine ⟨?_,?_,rfl⟩
  ·unfold rightP;rw [e]
  ·unfold allP;rw [e]
 | h+1,x,lo,hi,least,hb=>by
  have e:=hb x (by unfold blksP;cases B.nodeI x <;> simp);unfold rightP allP blksP;rw [e]
  cases hd:B.nodeI x with
  | none=>exact ⟨rfl,rfl,rfl⟩
  | some d =>
   have key:∀ i,i<d.n->∀ lo hi least,rightP B' h (d.v i:Int) lo hi least=rightP B h (d.v i:Int) lo hi least/\allP B' h (d.v i:Int)=allP B h (d.v i:Int)/\blksP B' h (d.v i:Int)=blksP B h (d.v i:Int):=fun i hi lo hi' least =>
    tree_congr hn fun b hm=>hb b (by unfold blksP;rw [hd];exact zco _ (List.mem_flatMap.2 ⟨i,List.mem_range.2 hi,hm⟩))
   refine ⟨?_,?_,?_⟩
   ·show (decide (least<=d.n)&&(!d.leaf&&(List.range d.n).all _))=(decide (least<=d.n)&&(!d.leaf&&(List.range d.n).all _))
    congr 2;rw [Bool.eq_iff_iff,List.all_eq_true,List.all_eq_true];constructor
    ·intro q i hi
     have:=q i hi;rw [hn,(key i (List.mem_range.1 hi) _ _ _).1] at this;exact this
    ·intro q i hi
     have:=q i hi;rw [hn,(key i (List.mem_range.1 hi) _ _ _).1];exact this
   ·exact flat_congr fun i hi=>(key i (List.mem_range.1 hi) 0 0 0).2.1
   ·exact congrArg (x :: ·) (flat_congr fun i hi=>(key i (List.mem_range.1 hi) 0 0 0).2.2)
end
theorem NumsIn.cap {A:List Nat} {w:World} {v:Value} {n:Nat} {f:Nat->Nat} (h:NumsIn A w v n f):∃ a cap,v = .slice a n cap/\n<=cap/\cap<=9223372036854775807:=by
 rcases h with ⟨⟨a,c,h,hc,_⟩,rfl⟩ | ⟨b,off,cap,h,h2,h3,_⟩
 ·unfold maxLen at hc;exact ⟨a,c,h,Nat.zero_le _,by omega⟩
 ·unfold maxLen at h3;exact ⟨_,_,h,h2,by omega⟩
theorem NumsIn.get {A:List Nat} {w:World} {a:Option Addr} {n m cap:Nat} {f:Nat->Nat} (h:NumsIn A w (.slice a m cap) n f) {i:Nat} (hi:i<n) :
  ∃ b off,a=some ⟨b,off,none⟩/\b<w.heap.size/\b∉A/\NumsAt w b off n f:=by
 rcases h with ⟨_,h0⟩ | ⟨b,off,c,h1,h2,h3,h4,h5,h6⟩
 ·omega
 ·injection h1 with h1 _ _
  exact ⟨b,off,h1,h4,h5,h6⟩
theorem Row64.numsIn {A:List Nat} {w:World} {g n:Nat} {f:Nat->Nat} (h:Row64 w g n f) (hn:n<=100000) (hA:g∉A) (hf:∀ i,i<n->f i<18446744073709551616):NumsIn A w (.slice (some ⟨g,0,none⟩) n n) n f :=
 .inr ⟨g,0,n,rfl,zLr _,by unfold maxLen;omega,h.lt,hA,fun i hi=>⟨by rw [Nat.zero_add];exact h.cell hi,hf i hi⟩⟩
def rightN (leaf:Bool) (nk nv:Nat) (keys:Nat->Nat):Bool:=decide (nk=nv)&&(decide (nk<=7)&&((leaf||decide (nk≠0))&&ascB keys nk))
theorem ndRight_at {A:List Nat} {w:World} {leaf:Bool} {vk vv:Value} {nk nv:Nat} {keys vals:Nat->Nat} (hk:NumsIn A w vk nk keys) (hv:NumsIn A w vv nv vals) :
  Calls Tryz.prog 115 #[.agg #[.bool leaf,vk,vv]] w fun e w'=>e = .returned (.bool (rightN leaf nk nv keys))/\Chg [] w w':=by
 have hk':=hk;obtain ⟨a,c,rfl,ck1,ck2⟩:=hk.cap;obtain ⟨a2,c2,rfl,cv1,cv2⟩:=hv.cap;have hW:=(Chg.refl [] w).alloc (.cells #[.bool leaf,.slice a nk c,.slice a2 nv c2] 107);have hX:=znb w (.cells #[.bool leaf,.slice a nk c,.slice a2 nv c2] 107)
 have hc:∀ i,i<nk->∃ g o,a=some ⟨g,o,none⟩/\(w.alloc (.cells #[.bool leaf,.slice a nk c,.slice a2 nv c2] 107)).cell? ⟨g,o+i,none⟩=some (.int .u64 (keys i:Int)):=fun i hi=>by
  obtain ⟨g,o,e,_,_,hN⟩:=(hk'.chg hW (by simp)).get hi;exact ⟨g,o,e,(hN i hi).1⟩
 have HC:=zh hc;have HW:=zh hW;obtain ⟨r,hr⟩:∃ r,r=rightN leaf nk nv keys:=⟨_,rfl⟩;have HR:=zh hr;rw [<- hr];unfold rightN at HR;clear hk hv hk' hc hr hW;have hs:w.heap.size<(w.alloc (.cells #[.bool leaf,.slice a nk c,.slice a2 nv c2] 107)).heap.size:=by simp
 go_enter Tryz.func115,Tryz.ntmps115;go_upto_region 1 with fail;have x0:=zcb hX 0;have x1:=zcb hX 1;have x2:=zcb hX 2;simp only [tA1,tA3,tA2] at x0 x1 x2;generalize w.alloc (.cells #[.bool leaf,.slice a nk c,.slice a2 nv c2] 107)=W at *;by_cases e1:nk=nv
 case neg =>
  have i1:¬ (nk:Int)=(nv:Int):=by omega
  go_wp2_with fail;go_ret;refine ⟨by rw [HR.out,decide_eq_false e1];rfl,HW.out⟩
 subst e1;by_cases e2:nk<=7
 case neg =>
  have i1:(7:Int)<(nk:Int):=by omega
  go_wp2_with fail;go_ret;refine ⟨by rw [HR.out,decide_eq_false e2];simp,HW.out⟩
 have i2:¬ (7:Int)<(nk:Int):=by omega
 by_cases e3:leaf=false/\nk=0
 ·obtain ⟨rfl,rfl⟩:=e3
  go_wp2_with fail;go_ret;exact ⟨by rw [HR.out];simp,HW.out⟩
 have hcut:leaf=true∨(leaf=false/\¬ (nk:Int)=0):=by
  cases leaf with
  | true=>exact .inl rfl
  | false=>exact .inr ⟨rfl,fun e=>e3 ⟨rfl,by omega⟩⟩
 have er:r=ascB keys nk:=by
  rw [HR.out,decide_eq_true rfl,decide_eq_true e2]
  cases leaf with
  | true=>simp
  | false =>
   have h0:nk≠0:=fun e=>e3 ⟨rfl,e⟩;simp [h0]
 have HER:=zh er;clear HR e3 er;rcases hcut with rfl | ⟨rfl,i3⟩
 all_goals
  go_wp2_with fail
  go_loopw [31] (fun s wr=>∃ i:Nat,s = .int .i64 (i:Int)/\i<=nk/\ascTo keys i/\Chg [] W wr) (fun s _=>nk - (intOf s).toNat)
  case atStart=>exact ⟨0,rfl,Nat.zero_le _,fun i h1 h2=>by omega,Chg.refl _ _⟩
  case round =>
   obtain ⟨i,rfl,hi,hA,hC⟩:=hrel;have y1:=(hC.cell (p:=⟨w.heap.size,1,none⟩) hs (by simp)).trans x1;have HA:=zh hA;have HCW:=zh hC;by_cases hin:i<nk
   ·obtain ⟨kb,ko,rfl,hcell⟩:=HC.out i hin
    have hcell:=(hC.cell (World.block_lt_of_cell? _ _ hcell) (by simp)).trans hcell;clear hA hC;by_cases h0:i=0
    ·subst h0
     have hd:decide ((0:Int)<((0:Nat):Int))=false:=rfl;go_wp2_with fail
     go_quiet (fail)
     go_wp2_with fail
     go_roundw
     case rel=>exact ⟨1,by go_num,by omega,fun i h1 h2=>by omega,HCW.out.drewN _⟩
     case measure=>simp [intOf];omega
    ·obtain ⟨q,hq⟩:∃ q,i=q+1:=⟨i - 1,by omega⟩
     subst hq;obtain ⟨kb',ko',e',hcell2⟩:=HC.out q (by omega);injection e' with e';injection e' with e1 e2;subst e1 e2;have hcell2:=(HCW.out.cell (World.block_lt_of_cell? _ _ hcell2) (by simp)).trans hcell2;have j0:(0:Int)<(q:Int)+1:=by omega
     have j1:(q:Int)+1<(nk:Int):=by omega
     have j2:(0:Int)<=(q:Int):=by omega
     have j3:(q:Int)<(nk:Int):=by omega
     have e2:IntKind.i64.wrap ((q:Int)+1 - 1)=(q:Int):=by
      rw [show (q:Int)+1 - 1=(q:Int) by omega];exact IntWalk.i64_in _ (by omega)
     by_cases hlt:keys q<keys (q+1)
     ·have hd:decide (keys (q+1)<=keys q)=false:=by simp;omega
      have Hlt:=zh hlt;clear hlt;go_wp2_with fail
      go_quiet (fail)
      go_wp2_with fail
      go_roundw
      case rel =>
       refine ⟨q+2,by go_num,by omega,fun j h1 h2=>?_,HCW.out.drewN _⟩;by_cases e:j=q+1
       ·subst e;exact Hlt.out
       ·exact HA.out j h1 (by omega)
      case measure=>simp [intOf];omega
     ·have hd:decide (keys (q+1)<=keys q)=true:=by simp;omega
      have hrf:r=false:=by
       rw [HER.out]
       cases hb:ascB keys nk with
       | false=>rfl
       | true=>exact absurd ((ascB_iff _ _).1 hb (q+1) (by omega) hin) hlt
      have HRF:=zh hrf;clear hlt hrf;go_wp2_with fail
      go_quiet (fail)
      go_wp2_with fail;go_ret;exact ⟨by rw [HRF.out];rfl,HW.out.trans (HCW.out.drewN _)⟩
   ·obtain rfl:i=nk:=by omega
    have hrt:r=true:=by rw [HER.out];exact (ascB_iff _ _).2 HA.out
    have HRF:=zh hrt;clear hA hC hrt;go_wp2_with fail;go_ret;exact ⟨by rw [HRF.out];rfl,HW.out.trans HCW.out⟩
theorem Nd.Ok.rightN {d:Nd} (h:d.Ok):rightN d.leaf d.n d.n d.k=true:=by
 unfold Proofs.YtkhcaclndepgbaaGreat.rightN;rw [decide_eq_true rfl,decide_eq_true h.n,(ascB_iff _ _).2 h.asc]
 cases hl:d.leaf with
 | true=>rfl
 | false =>
  have:=(kidsB_iff _ _).1 (h.kids hl);have h0:d.n≠0:=by omega
  simp [h0]
end Go.Proofs.YtkhcaclndepgbaaGreat
