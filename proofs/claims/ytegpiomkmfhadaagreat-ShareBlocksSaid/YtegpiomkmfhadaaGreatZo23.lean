/- Layer 13's statements: a base, a node t -/
import Derived.Test.YtegpiomkmfhadaaGreatZo22
import Derived.Maps.RangeWalk
set_option linter.all false
set_option maxRecDepth 100000
set_option maxHeartbeats 20000000
namespace Go.Proofs.YtegpiomkmfhadaaGreat
open Go.RowKit
variable {N n i j hi least h m q k lo G m0:Nat} {F:List Nat} {B:Bs} {keys vals:zF} {x:Int} {g:zL}
theorem o8 (w:World) (NH:16<=N/\N<=4096) (hF:∀ q,q∈F->q<w.heap.size):zC 17 #[.int .i64 (N:Int)] w fun e w'=>∃ M:Bm,e = .returned (.tuple #[zP M.b,.bool true]) /\
  zx w' M F (Bs.fmt N)/\zv [] w w'/\∀ q,q∈M.L->w.heap.size<=q:=by
 have cN:=uq (w:=w) NH.1 NH.2;have HF:=zh hF;clear hF;go_enter Tryz.func17,Tryz.ntmps17;go_wp2_with fail;refine cN.mono ?_;clear cN;rintro e w1 ⟨rfl,hd,B5⟩;have cF:=ji hd NH;have CF:=zh cF;have Ce:=zh B5;clear hd B5 cF;go_wp2_with fail;refine CF.mono ?_;clear CF;rintro e w2 ⟨rfl,EJ,BW⟩;obtain ⟨d,TU⟩:=zE (w.heap.size+1);obtain ⟨bb,EB⟩:=zE w.heap.size;rw [<- TU,<- EB] at EJ BW;rw [<- TU];have tn:(Bs.fmt N).T.n=N:=(Ja NH.1).tn;have cO:=o6 (B:=Bs.fmt N) EJ.rd tn.symm (fun b _ i _=>rfl) (tc NH);rw [tg] at cO;have CO:=zh cO;have H2:=zh (zA EJ (zA (Ce.then BW (fun q hq=>by simp only [ya,yk,or_false] at hq;exact .inr zo)) (zA TU EB)));have HT:=zh tn;clear EJ BW TU EB tn cO;go_wp2_with fail;refine CO.mono ?_;clear CO;rintro e w3 ⟨M,R,rfl,hMd,U6,Ky,Ci,Lc⟩;have Cm:x6 w3 M R (Bs.fmt N):=⟨Ky,by rw [hMd,U6,HT.o];exact H2.1.chg Ci zaa zaa (fun k hk=>by cases hk)⟩
 have BT:∀ q,fX M R (Bs.fmt N) q->w.heap.size<=q:=fun q hq=>by
  by_cases e1:q=d
  ·rw [e1,H2.2.2.1];omega
  ·by_cases e2:q=bb
   ·rw [e2,H2.2.2.2];exact xd _
   ·exact qh H2.2.1.size (Lc q hq e1 e2)
 have H3:=zh (zA Cm (zA BT (H2.2.1.trans Ci)));clear hMd U6 Ky Ci Lc Cm BT;go_wp2_with fail;refine bodyPost_ret (v := .tuple #[zP M.b,.bool true]) (by simp [results,Tryz.results17,go_sem]) rfl ⟨M,rfl,⟨R,H3.1,fun q hq hm=>by have:=H3.2.1 q hq;have:=HF q hm;omega⟩,H3.2.2,fun q hq=>H3.2.1 q (.inl hq)⟩
theorem tj {w:World} {M:Bm} (h:zx w M F B) (hF:∀ q,q∈F->q<w.heap.size) (hr:0<B.room) {A:List Nat} {leaf:Bool} {vk vv:Value} (hk:zT A w vk n keys) (hv:zT A w vv n vals) (hb:zV leaf n n keys vals=true) :
  zC 67 #[zP M.b,.agg #[.bool leaf,vk,vv]] w fun e w'=>e = .returned (.tuple #[.int .i64 (B.at_:Int),.bool true])/\zx w' M F (B.put (xg leaf n keys vals))/\zv M.L w w':=by
 have c0:=(zv.refl [] w).alloc (.cells #[.bool leaf,vk,vv] 42);have k0:=xo w (.cells #[.bool leaf,vk,vv] 42);have ce:=bf (hk.chg c0) (hv.chg c0) hb;have CE:=zh ce;have HB:=zh (zA h (zA hF (zA hr c0)));have HM:=zh (fun q hq=>h.ltL hq:∀ q,q∈M.L->q<w.heap.size);obtain ⟨ak,ck,rfl⟩:=hk.len;obtain ⟨av,cv,rfl⟩:=hv.len;have x0:(w.alloc (.cells #[.bool leaf,.slice ak n ck,.slice av n cv] 42)).cell? ⟨w.heap.size,0,none⟩=some (.bool leaf):=(zM k0 0).trans rfl;have x1:(w.alloc (.cells #[.bool leaf,.slice ak n ck,.slice av n cv] 42)).cell? ⟨w.heap.size,1,none⟩=some (.slice ak n ck):=(zM k0 1).trans rfl;have x2:(w.alloc (.cells #[.bool leaf,.slice ak n ck,.slice av n cv] 42)).cell? ⟨w.heap.size,2,none⟩=some (.slice av n cv):=(zM k0 2).trans rfl;have UB:=zh hb;clear h hF hr ce hk hv hb c0 k0;go_enter Tryz.func67,Tryz.ntmps67;go_wp2_with (refine qJ rfl 42 (.tmp 1) rfl (cells:=#[.bool leaf,.slice ak n ck,.slice av n cv]) rfl ?_);refine CE.mono ?_;clear CE x0 x1 x2;rintro e w1 ⟨g,rfl,hg,IV,B5⟩;have KT:=HB.2.2.2.trans B5
 have cp:=f6 (c:=128) (HB.1.chg KT) (fun q hq=>qe (HB.2.1 q hq) KT.size) (k:=g) (o:=0) (f:=xg leaf n keys vals)
  (fun i hi=>⟨by rw [yn,zM IV,xL hi],YY (by cases leaf <;> decide) (fun j _=>Zy keys vals n j (zq ((XV UB).1))) i⟩) (fun hm=>by have:=HM g hm;have:=HB.2.2.2.size;omega) HB.2.2.1
 have CP:=zh cp;have HC:=zh KT;clear cp KT hg IV B5;go_wp2_with fail;refine CP.mono ?_;clear CP;rintro e w2 ⟨rfl,Cr,BW⟩;have H2:=zh (zA Cr ((HC.mo).trans BW));clear Cr BW;go_wp2_with fail;refine bodyPost_ret (v := .tuple #[.int .i64 (B.at_:Int),.bool true]) (by simp [results,Tryz.results67,go_sem]) rfl ⟨rfl,H2⟩
theorem jj {leaf:Bool} (h2:2<=B.at_) (hN:B.at_<B.T.n) (hb:zV leaf n n keys vals=true) :
  (B.put (xg leaf n keys vals)).nodeI (B.at_:Int)=Y2 (xg leaf n keys vals):=by
 unfold Bs.nodeI;rw [if_pos (Qd.2 ⟨zo,by show (B.at_:Int)<(B.T.n:Int);omega⟩),yz];congr 1;unfold Bs.read Bs.put;simp
theorem Od {f:zF} (hx:x≠(B.at_:Int)):(B.put f).nodeI x=B.nodeI x:=by
 unfold Bs.nodeI;by_cases hi:B.inI x=true
 ·rw [if_pos (show (B.put f).inI x=true from hi),if_pos hi]
  have Rv:=Qd.1 hi;congr 1;unfold Bs.read Bs.put;have:x.toNat≠B.at_:=zo
  simp [this]
 ·rw [if_neg (show ¬ (B.put f).inI x=true from hi),if_neg hi]
theorem YQ {leaf:Bool} (hb:zV leaf n n keys vals=true) (hk:∀ i,i<n->keys i<18446744073709551616) (hv:∀ i,i<n->vals i<18446744073709551616) :
  ∃ d,Y2 (xg leaf n keys vals)=some d/\d.leaf=leaf/\d.n=n/\(∀ i,i<n->d.k i=keys i)/\(∀ i,i<n->d.v i=vals i):=by
 unfold Y2;rw [if_pos (oQ hb hk hv)];have hn:=(XV hb).1;exact ⟨_,rfl,by show decide (xg leaf n keys vals 0=1)=leaf;rw [ep,iX],Q9 leaf n keys vals,fun i hi=>ey hn hk hi,fun i hi=>eA hn hv hi⟩
def xZ (g:zL) (i:Nat):Nat:=(g.getD i (0,0)).1
def qv (g:zL) (i:Nat):Nat:=(g.getD i (0,0)).2
def Jw (g:zL):Prop:=g.Pairwise fun p q=>p.1<q.1
theorem qi (h:i<g.length):g.getD i (0,0)=g[i]:=by rw [zgD,yt h];rfl
theorem Jw.lt (h:Jw g) (DP:i<j) (hj:j<g.length):xZ g i<xZ g j:=by
 unfold xZ;rw [qi zo,qi hj];exact List.pairwise_iff_getElem.1 h i j zo hj DP
theorem Jw.to (h:Jw g):ZA (xZ g) g.length:=fun i h0 hi=>h.lt zo hi
def jk (g:zL) (hi j:Nat):Nat:=if j+1<g.length then xZ g (j+1) - 1 else hi
theorem XD (g:zL):((List.range g.length).map fun i=>(xZ g i,qv g i))=g:=by
 apply List.ext_getElem?;intro i;by_cases hi:i<g.length
 ·rw [yT,za hi,yt hi]
  simp only [Option.map_some];unfold xZ qv;rw [qi hi]
 ·rw [List.getElem?_eq_none zae,List.getElem?_eq_none zo]
theorem QP {β:Type} (g:zL) (f:Nat->List β):((List.range g.length).flatMap fun i=>f (qv g i))=g.flatMap fun p=>f p.2:=by
 conv=>rhs;rw [<- XD g]
 rw [List.flatMap_map]
section
variable {B:Bs} {n:Nat}
theorem lM (h2:2<=B.at_) (hN:B.at_<B.T.n) (hn:g.length<=7) (hl:least<=g.length) (ha:Jw g) (hu:Y4 g) (hh:∀ i,i<g.length->xZ g i<=hi) :
  zG (B.put (xg true g.length (xZ g) (qv g))) 0 (B.at_:Int) (xZ g 0) hi least=true/\zR (B.put (xg true g.length (xZ g) (qv g))) 0 (B.at_:Int)=g:=by
 have hb:zV true g.length g.length (xZ g) (qv g)=true:=by
  unfold zV;rw [yq hn,yq rfl,(Ya _ _).2 ha.to];rfl
 obtain ⟨d,hd,dl,dn,dk,dv⟩:=YQ hb (fun i hi=>(hu.getD i).1) (fun i hi=>(hu.getD i).2);have Cp:=(jj h2 hN hb).trans hd;constructor
 ·refine JQ Cp (by rw [dn];exact hl) (by rw [dl];rfl) (fun i hi=>?_)
  rw [dn] at hi;unfold bz;rw [yq,Bool.true_and];rw [dk i hi];refine ⟨?_,hh i hi⟩;by_cases e:i=0
  ·rw [e];exact xd _
  ·exact Nat.le_of_lt (ha.lt zo hi)
 ·unfold zR
  rw [Cp]
  show d.items=g
  unfold Nd.items;rw [dn]
  conv=>rhs;rw [<- XD g]
  exact yU fun i hi=>by rw [ye] at hi;rw [dk i hi,dv i hi]
theorem jl (h2:2<=B.at_) (hN:B.at_<B.T.n) (hM:B.T.n<=4096) (h0:1<=g.length) (hn:g.length<=7) (hl:least<=g.length) (ha:Jw g) (hu:Y4 g) (hh:∀ i,i<g.length->xZ g i<=hi)
  (hv:∀ i,i<g.length->2<=qv g i/\qv g i<B.T.n) (hap:∀ i j,i<j->j<g.length->qv g i≠qv g j) (ht:∀ i,i<g.length->zG (B.put (xg false g.length (xZ g) (qv g))) h (qv g i:Int) (xZ g i) (jk g hi i) 3=true) :
  zG (B.put (xg false g.length (xZ g) (qv g))) (h+1) (B.at_:Int) (xZ g 0) hi least=true /\
  zR (B.put (xg false g.length (xZ g) (qv g))) (h+1) (B.at_:Int)=g.flatMap (fun p=>zR (B.put (xg false g.length (xZ g) (qv g))) h (p.2:Int)) /\
  z9 (B.put (xg false g.length (xZ g) (qv g))) (h+1) (B.at_:Int)=(B.at_:Int)::g.flatMap (fun p=>z9 (B.put (xg false g.length (xZ g) (qv g))) h (p.2:Int)):=by
 have hb:zV false g.length g.length (xZ g) (qv g)=true:=by
  unfold zV;have hk:ZN (qv g) g.length=true:=(qs _ _).2 ⟨h0,fun i hi=>⟨by have:=hv i hi;omega,by have:=hv i hi;omega⟩,fun i j DP hj=>hap i j DP hj⟩;rw [yq hn,yq rfl,(Ya _ _).2 ha.to,hk];rfl
 obtain ⟨d,hd,dl,dn,dk,dv⟩:=YQ hb (fun i hi=>(hu.getD i).1) (fun i hi=>(hu.getD i).2);have Cp:=(jj h2 hN hb).trans hd;refine ⟨?_,?_,?_⟩
 ·refine JQ Cp (by rw [dn];exact hl) (by rw [dl];rfl) (fun i hi=>?_)
  rw [dn] at hi;have hb:=hv i hi;have hr:=ht i hi;unfold bz;rw [yq,Bool.true_and]
  ·show (decide (2<=d.v i/\d.v i<B.T.n)&&zG _ h (d.v i:Int) (d.k i) (d.hi _ i) 3)=true
   rw [dv i hi,yq hb,Bool.true_and,dk i hi];unfold Nd.hi;unfold jk at hr;rw [dn];by_cases e:i+1<g.length
   ·rw [if_pos e] at hr ⊢;rw [dk _ e];exact hr
   ·rw [if_neg e] at hr ⊢;exact hr
  ·rw [dk i hi]
   refine ⟨?_,hh i hi⟩;by_cases e:i=0
   ·rw [e];exact xd _
   ·exact Nat.le_of_lt (ha.lt zo hi)
 ·show (match (B.put (xg false g.length (xZ g) (qv g))).nodeI (B.at_:Int) with | none=>[] | some d=>(List.range d.n).flatMap fun i=>zR _ h (d.v i:Int))=_
  rw [Cp]
  show ((List.range d.n).flatMap fun i=>zR _ h (d.v i:Int))=_
  rw [dn,<- QP g (fun v=>zR _ h (v:Int))];exact xu fun i hi=>by rw [ye] at hi;rw [dv i hi]
 ·show (match (B.put (xg false g.length (xZ g) (qv g))).nodeI (B.at_:Int) with | none=>_ | some d=>(B.at_:Int)::(List.range d.n).flatMap fun i=>z9 _ h (d.v i:Int))=_
  rw [Cp]
  show (B.at_:Int)::((List.range d.n).flatMap fun i=>z9 _ h (d.v i:Int))=_
  rw [dn,<- QP g (fun v=>z9 _ h (v:Int))];congr 1;exact xu fun i hi=>by rw [ye] at hi;rw [dv i hi]
end
def Yt (m q i:Nat):Nat:=i*m / q
def grp (l:zL) (q i:Nat):List (Nat × Nat):=(l.drop (Yt l.length q i)).take (Yt l.length q (i+1) - Yt l.length q i)
theorem bH (m q i:Nat):Yt m q i<=Yt m q (i+1):=Nat.div_le_div_right (Nat.mul_le_mul_right m (Nat.le_succ i))
theorem ao (hq:0<q):Yt m q q=m:=Nat.mul_div_cancel_left m hq
theorem Oe (hq:0<q) (hi:i<=q):Yt m q i<=m:=by
 have:=Nat.div_le_div_right (c:=q) (Nat.mul_le_mul_right m hi);rwa [Nat.mul_div_cancel_left m hq] at this
theorem Vy (m q:Nat):Yt m q 0=0:=by unfold Yt;simp
theorem jm (hq:0<q) (hm:m<=7*q):Yt m q (i+1)<=Yt m q i+7:=by
 unfold Yt;have h1:(i+1)*m<=i*m+7*q:=by rw [Nat.succ_mul];omega
 refine qh (Nat.div_le_div_right h1) ?_;rw [Nat.add_mul_div_right _ _ hq];exact xd _
theorem OQ (hq:0<q) (hm:k*q<=m):Yt m q i+k<=Yt m q (i+1):=by
 unfold Yt;have h1:i*m+k*q<=(i+1)*m:=by rw [Nat.succ_mul];omega
 have:=Nat.div_le_div_right (c:=q) h1;rwa [Nat.add_mul_div_right _ _ hq] at this
theorem Xv {l:zL} (hq:0<q) (hi:i<q):(grp l q i).length=Yt l.length q (i+1) - Yt l.length q i:=by
 unfold grp;rw [yV,List.length_drop];have:=Oe (m:=l.length) hq (show i+1<=q by omega);omega
theorem jn {l:zL} {q:Nat} (hq:0<q):∀ i,i<=q->((List.range i).flatMap (grp l q))=l.take (Yt l.length q i)
 | 0,_=>by rw [Vy];simp
 | i+1,hi=>by
  rw [zn,zi,jn hq i zo];have h0:=bH l.length q i;have:=Oe (m:=l.length) hq hi;simp only [List.flatMap_cons,List.flatMap_nil,yY];unfold grp;obtain ⟨a,ha⟩:=zE (Yt l.length q i);obtain ⟨b,hb⟩:=zE (Yt l.length q (i+1));have:a<=b:=by rw [ha,hb];exact h0
  rw [<- ha,<- hb];have e:b=a+(b - a):=zo
  conv=>rhs;rw [e]
  rw [List.take_add]
theorem gu {l:zL} (hq:0<q):((List.range q).flatMap (grp l q))=l:=by
 rw [jn hq q (xd _),ao hq,List.take_length]
theorem vE {l:zL} (hq:0<q) (hi:i<q) (hj:j<(grp l q i).length):(grp l q i).getD j (0,0)=l.getD (Yt l.length q i+j) (0,0):=by
 have:=Xv (l:=l) hq hi;have:=Oe (m:=l.length) hq (show i+1<=q by omega);have:=bH l.length q i;rw [zgD,zgD];congr 1;unfold grp;rw [List.getElem?_take,if_pos zo,List.getElem?_drop]
theorem Qh {l:zL} (hq:0<q) (hi:i<q) (hj:j<(grp l q i).length):xZ (grp l q i) j=xZ l (Yt l.length q i+j)/\qv (grp l q i) j=qv l (Yt l.length q i+j):=by
 unfold xZ qv;rw [vE hq hi hj];exact ⟨rfl,rfl⟩
theorem Jw.grp {l:zL} (h:Jw l) (q i:Nat):Jw (grp l q i):=(h.drop).take
theorem Y4.grp {l:zL} (h:Y4 l) (q i:Nat):Y4 (grp l q i):=fun p hp=>h p (List.mem_of_mem_drop (List.mem_of_mem_take hp))
def zw (m:Nat):Nat:=(m+6) / 7
theorem Yn (hm:1<=m):1<=zw m/\m<=7*zw m/\(2<=zw m->4*zw m<=m)/\(zw m=1->m<=7):=by unfold zw;omega
theorem lO (hm:2<=zw m):zw m<m:=by unfold zw at *;omega
theorem ZI {l:zL} (h1:1<=l.length) (hi:i<zw l.length):(grp l (zw l.length) i).length<=7/\1<=(grp l (zw l.length) i).length/\(2<=zw l.length->4<=(grp l (zw l.length) i).length):=by
 obtain ⟨b1,b2,b3,b4⟩:=Yn h1;have hq:0<zw l.length:=zo;rw [Xv hq hi];have:=jm (i:=i) hq b2;refine ⟨zo,?_,fun h2=>?_⟩
 ·have:=OQ (m:=l.length) (q:=zw l.length) (i:=i) (k:=1) hq (by unfold zw;omega)
  omega
 ·have:=OQ (m:=l.length) (q:=zw l.length) (i:=i) (k:=4) hq (b3 h2)
  omega
def Lv (B:Bs) (bs:List Int):Prop:=∀ b,b∈bs->∃ n:Nat,b=(n:Int)/\n<B.T.n/\B.live n=true
section
variable {B:Bs} {N G:Nat}
theorem o9 (hg:qy N G B) (hr:0<B.room) {f:zF} (hf:∀ i,i<128->f i<=255) {bs:List Int} (hb:Lv B bs):(∀ b,b∈bs->(B.put f).nodeI b=B.nodeI b)/\Lv (B.put f) bs:=by
 obtain ⟨-,l0,-,-,hl,-⟩:=hg.put_ hr hf;refine ⟨fun b hm=>?_,fun b hm=>?_⟩
 ·obtain ⟨n,rfl,hn,Dj⟩:=hb b hm
  refine Od fun e=>?_;have:n=B.at_:=zo;rw [this,l0] at Dj;cases Dj
 ·obtain ⟨n,rfl,hn,Dj⟩:=hb b hm
  exact ⟨n,rfl,hn,by rw [hl n,Dj,Bool.or_true]⟩
theorem Vz (hg:qy N G B) (hr:0<B.room) {f:zF} (hf:∀ i,i<128->f i<=255) (hb:Lv B (z9 B h x)) :
  zG (B.put f) h x lo hi least=zG B h x lo hi least/\zR (B.put f) h x=zR B h x/\z9 (B.put f) h x=z9 B h x/\Lv (B.put f) (z9 (B.put f) h x):=by
 obtain ⟨h1,h2⟩:=o9 hg hr hf hb;obtain ⟨t1,t2,t3⟩:=Qf (B:=B) (B':=B.put f) rfl (lo:=lo) (hi:=hi) (least:=least) h1;exact ⟨t1,t2,t3,by rw [t3];exact h2⟩
end
structure jo (B:Bs) (h hi:Nat) (l all:zL):Prop where
 asc:Jw l
 bd:∀ j,j<l.length->xZ l j<=hi
 u:Y4 l
 val:∀ j,j<l.length->2<=qv l j/\qv l j<B.T.n
 apart:∀ i j,i<j->j<l.length->qv l i≠qv l j
 tree:∀ j,j<l.length->zG B h (qv l j:Int) (xZ l j) (jk l hi j) 3=true
 lv:∀ j,j<l.length->Lv B (z9 B h (qv l j:Int))
 all:l.flatMap (fun p=>zR B h (p.2:Int))=all
theorem eM {β:Type} (l:zL) (f g:Nat->List β) (h:∀ j,j<l.length->f (qv l j)=g (qv l j)):(l.flatMap fun p=>f p.2)=l.flatMap fun p=>g p.2:=by
 refine xu fun p hp=>?_;obtain ⟨j,hj,e⟩:=List.getElem_of_mem hp;have:=h j hj;unfold qv at this;rw [qi hj,e] at this;exact this
theorem jo.put {B:Bs} {N G h hi:Nat} {l all:zL} (R:jo B h hi l all) (hg:qy N G B) (hr:0<B.room) {f:zF} (hf:∀ i,i<128->f i<=255):jo (B.put f) h hi l all:=by
 have T:=fun j (hj:j<l.length)=>Vz hg hr hf (lo:=xZ l j) (hi:=jk l hi j) (least:=3) (R.lv j hj);refine { asc:=R.asc,bd:=R.bd,u:=R.u,val:=R.val,apart:=R.apart,tree:=fun j hj=>by rw [(T j hj).1];exact R.tree j hj,lv:=fun j hj=>(T j hj).2.2.2,all:=?_ };rw [<- R.all];exact eM l (fun v=>zR (B.put f) h (v:Int)) (fun v=>zR B h (v:Int)) fun j hj=>(T j hj).2.1
def pX (l:zL) (q hi j:Nat):Nat:=if j+1<q then xZ l (Yt l.length q (j+1)) - 1 else hi
structure jq (B:Bs) (h:Nat) (l:zL) (q hi least i:Nat) (up:zL) (Gh:Nat->List (Nat × Nat)):Prop where
 len:up.length=i
 key:∀ j,j<i->xZ up j=xZ l (Yt l.length q j)
 val:∀ j,j<i->2<=qv up j/\qv up j<B.T.n
 apart:∀ a b,a<b->b<i->qv up a≠qv up b
 own:∀ j,j<i->B.live (qv up j)=true
 tree:∀ j,j<i->zG B h (qv up j:Int) (xZ up j) (pX l q hi j) least=true
 lv:∀ j,j<i->Lv B (z9 B h (qv up j:Int))
 all:∀ j,j<i->zR B h (qv up j:Int)=Gh j
theorem m9 {l:zL} {p:Nat × Nat} : (j<l.length->xZ (l++[p]) j=xZ l j/\qv (l++[p]) j=qv l j)/\(j=l.length->xZ (l++[p]) j=p.1/\qv (l++[p]) j=p.2):=by
 constructor
 ·intro hj
  unfold xZ qv;rw [zgD,zgD,yI hj];exact ⟨rfl,rfl⟩
 ·rintro rfl
  unfold xZ qv;rw [zgD,yF (xd _)];simp
theorem jq.step {l up:zL} {Gh:Nat->List (Nat × Nat)} (U:jq B h l q hi least i up Gh) (hg:qy N G B) (hr:0<B.room) {f:zF} (hf:∀ i,i<128->f i<=255)
  (ht:zG (B.put f) h (B.at_:Int) (xZ l (Yt l.length q i)) (pX l q hi i) least=true) (hl:Lv (B.put f) (z9 (B.put f) h (B.at_:Int))) (ha:zR (B.put f) h (B.at_:Int)=Gh i) :
  jq (B.put f) h l q hi least (i+1) (up++[(xZ l (Yt l.length q i),B.at_)]) Gh:=by
 obtain ⟨-,l0,b2,bN,DD,-⟩:=hg.put_ hr hf;have T:=fun j (hj:j<i)=>Vz hg hr hf (lo:=xZ up j) (hi:=pX l q hi j) (least:=least) (U.lv j hj)
 have cs:∀ j,j<i+1->(j<i/\xZ (up++[(xZ l (Yt l.length q i),B.at_)]) j=xZ up j/\qv (up++[(xZ l (Yt l.length q i),B.at_)]) j=qv up j)∨(j=i/\xZ (up++[(xZ l (Yt l.length q i),B.at_)]) j=xZ l (Yt l.length q i)/\qv (up++[(xZ l (Yt l.length q i),B.at_)]) j=B.at_):=fun j hj=>by
  by_cases e:j<i
  ·exact .inl ⟨e,m9.1 (by rw [U.len];exact e)⟩
  ·exact .inr ⟨zo,m9.2 (by rw [U.len];omega)⟩
 refine { len:=by rw [ym,U.len];rfl,key:=fun j hj=>?_,val:=fun j hj=>?_,apart:=fun a b Cq hb=>?_,own:=fun j hj=>?_,tree:=fun j hj=>?_,lv:=fun j hj=>?_,all:=fun j hj=>?_ }
 ·rcases cs j hj with ⟨c1,c2,c3⟩ | ⟨rfl,c2,c3⟩
  ·rw [c2];exact U.key j c1
  ·rw [c2]
 ·rcases cs j hj with ⟨c1,c2,c3⟩ | ⟨rfl,c2,c3⟩
  ·rw [c3];exact U.val j c1
  ·rw [c3];exact ⟨b2,by show B.at_<B.T.n;rw [hg.n];exact bN⟩
 ·rcases cs b hb with ⟨c1,c2,c3⟩ | ⟨rfl,c2,c3⟩
  ·rcases cs a zo with ⟨d1,d2,d3⟩ | ⟨rfl,d2,d3⟩
   ·rw [c3,d3];exact U.apart a b Cq c1
   ·omega
  ·rcases cs a zo with ⟨d1,d2,d3⟩ | ⟨rfl,d2,d3⟩
   ·rw [c3,d3]
    intro e;have:=U.own a d1;rw [e,l0] at this;cases this
   ·omega
 ·rcases cs j hj with ⟨c1,c2,c3⟩ | ⟨rfl,c2,c3⟩
  ·rw [c3,DD,U.own j c1,Bool.or_true]
  ·rw [c3,DD];simp
 ·rcases cs j hj with ⟨c1,c2,c3⟩ | ⟨rfl,c2,c3⟩
  ·rw [c2,c3,(T j c1).1];exact U.tree j c1
  ·rw [c2,c3];exact ht
 ·rcases cs j hj with ⟨c1,c2,c3⟩ | ⟨rfl,c2,c3⟩
  ·rw [c3];exact (T j c1).2.2.2
  ·rw [c3];exact hl
 ·rcases cs j hj with ⟨c1,c2,c3⟩ | ⟨rfl,c2,c3⟩
  ·rw [c3,(T j c1).2.1];exact U.all j c1
  ·rw [c3];exact ha
section
variable {B:Bs} {N G h q hi:Nat} {l up:List (Nat × Nat)} {Gh:Nat->List (Nat × Nat)}
theorem JR {l:zL} (h1:1<=l.length) (hi:i<zw l.length):Yt l.length (zw l.length) i<Yt l.length (zw l.length) (i+1)/\Yt l.length (zw l.length) (i+1)<=l.length:=by
 obtain ⟨b1,b2,b3,b4⟩:=Yn h1;have hq:0<zw l.length:=zo;have:=Xv (l:=l) hq hi;have:=(ZI h1 hi).2.1;exact ⟨zo,Oe hq zo⟩
theorem Ax {l:zL} (h1:1<=l.length) (DP:i<j) (hj:j<zw l.length):Yt l.length (zw l.length) i<Yt l.length (zw l.length) j:=by
 induction j with
 | zero=>omega
 | succ j ih =>
  have:=(JR h1 (i:=j) zo).1;by_cases e:i=j
  ·rw [e];exact this
  ·have:=ih zo zo;omega
theorem jq.row (U:jq B h l (zw l.length) hi 3 (zw l.length) up Gh) (h1:1<=l.length) (ha:Jw l) (hu:Y4 l) (hb:∀ j,j<l.length->xZ l j<=hi) (hM:B.T.n<=4096):jo B h hi up ((List.range (zw l.length)).flatMap Gh):=by
 have ED:∀ j,j<zw l.length->Yt l.length (zw l.length) j<l.length:=fun j hj=>by have:=JR h1 hj;omega
 have key:∀ i j,i<j->j<up.length->xZ up i<xZ up j:=fun i j DP hj=>by
  rw [U.len] at hj;rw [U.key i zo,U.key j hj];exact ha.lt (Ax h1 DP hj) (ED j hj)
 refine { asc:=?_,bd:=fun j hj=>?_,u:=?_,val:=fun j hj=>U.val j (by rw [<- U.len];exact hj),apart:=fun i j DP hj=>U.apart i j DP (by rw [<- U.len];exact hj),tree:=fun j hj=>?_,lv:=fun j hj=>U.lv j (by rw [<- U.len];exact hj),all:=?_ }
 ·refine List.pairwise_iff_getElem.2 fun i j hi' hj DP=>?_
  have:=key i j DP hj;unfold xZ at this;rwa [qi hi',qi hj] at this
 ·rw [U.len] at hj
  rw [U.key j hj];exact hb _ (ED j hj)
 ·intro p hp
  obtain ⟨j,hj,e⟩:=List.getElem_of_mem hp;have Mo:j<zw l.length:=by rw [<- U.len];exact hj
  have k1:=U.key j Mo;have v1:=U.val j Mo;unfold xZ at k1;unfold qv at v1;rw [qi hj,e] at k1 v1;refine ⟨?_,zo⟩;rw [k1];exact (hu.getD _).1
 ·have Mo:j<zw l.length:=by rw [<- U.len];exact hj
  have:=U.tree j Mo;unfold jk;unfold pX at this;rw [U.len];by_cases e:j+1<zw l.length
  ·rw [if_pos e] at this ⊢
   rw [U.key (j+1) e];exact this
  ·rw [if_neg e] at this ⊢
   exact this
 ·conv=>lhs;rw [<- XD up]
  rw [List.flatMap_map,U.len];exact xu fun j hj=>U.all j (ye.1 hj)
theorem tl (h1:1<=l.length) (ha:Jw l) (hb:∀ j,j<l.length->xZ l j<=hi) (hi':i<zw l.length) (hj:j<(grp l (zw l.length) i).length):xZ (grp l (zw l.length) i) j<=pX l (zw l.length) hi i:=by
 obtain ⟨b1,b2,b3,b4⟩:=Yn h1;have hq:0<zw l.length:=zo;rw [(Qh hq hi' hj).1];rw [Xv hq hi'] at hj;unfold pX;by_cases e:i+1<zw l.length
 ·rw [if_pos e]
  have:=ha.lt (i:=Yt l.length (zw l.length) i+j) (j:=Yt l.length (zw l.length) (i+1)) zo (zq (JR h1 e));omega
 ·rw [if_neg e]
  exact hb _ (zq (JR h1 hi'))
theorem jq.leaf (U:jq B 0 l (zw l.length) hi least i up (grp l (zw l.length))) (hg:qy N G B) (hr:0<B.room) (h1:1<=l.length) (ha:Jw l) (hu:Y4 l) (hb:∀ j,j<l.length->xZ l j<=hi) (hi':i<zw l.length) (hl:least<=(grp l (zw l.length) i).length) :
  jq (B.put (xg true (grp l (zw l.length) i).length (xZ (grp l (zw l.length) i)) (qv (grp l (zw l.length) i)))) 0 l (zw l.length) hi least (i+1) (up++[(xZ l (Yt l.length (zw l.length) i),B.at_)]) (grp l (zw l.length)):=by
 obtain ⟨b1,b2,b3,b4⟩:=Yn h1;have hq:0<zw l.length:=zo;obtain ⟨g1,g2,g3⟩:=ZI h1 hi';have hf:∀ j,j<128->xg true (grp l (zw l.length) i).length (xZ (grp l (zw l.length) i)) (qv (grp l (zw l.length) i)) j<=255:=fun j _=>YY zaf (fun k _=>Zy _ _ _ k zo) j;obtain ⟨-,l0,h2,hN,DD,-⟩:=hg.put_ hr hf;obtain ⟨t1,t2⟩:=lM (B:=B) (hi:=pX l (zw l.length) hi i) (least:=least) h2 (by rw [hg.n];exact hN) g1 hl (ha.grp _ _) (hu.grp _ _) (fun j hj=>tl h1 ha hb hi' hj);have k0:=(Qh (l:=l) hq hi' (j:=0) zo).1;rw [k0] at t1;refine U.step hg hr hf t1 ?_ t2;intro b hm;unfold z9 at hm;simp only [zms] at hm;exact ⟨B.at_,hm,by show B.at_<B.T.n;rw [hg.n];exact hN,by rw [DD];simp⟩
theorem jq.inner {all:zL} {A:Nat->List (Nat × Nat)} (R:jo B h hi l all) (hA:∀ j,j<l.length->zR B h (qv l j:Int)=A (qv l j)) (U:jq B (h+1) l (zw l.length) hi least i up (fun i=>(grp l (zw l.length) i).flatMap fun p=>A p.2)) (hg:qy N G B) (hM:B.T.n<=4096) (hr:0<B.room) (h1:1<=l.length) (hi':i<zw l.length) (hl:least<=(grp l (zw l.length) i).length) :
  jq (B.put (xg false (grp l (zw l.length) i).length (xZ (grp l (zw l.length) i)) (qv (grp l (zw l.length) i)))) (h+1) l (zw l.length) hi least (i+1) (up++[(xZ l (Yt l.length (zw l.length) i),B.at_)]) (fun i=>(grp l (zw l.length) i).flatMap fun p=>A p.2):=by
 obtain ⟨b1,b2,b3,b4⟩:=Yn h1;have hq:0<zw l.length:=zo;obtain ⟨g1,g2,g3⟩:=ZI h1 hi';have gl:=Xv (l:=l) hq hi';have glo:=JR h1 hi';have hf:∀ j,j<128->xg false (grp l (zw l.length) i).length (xZ (grp l (zw l.length) i)) (qv (grp l (zw l.length) i)) j<=255:=fun j _=>YY zaf (fun k _=>Zy _ _ _ k zo) j;obtain ⟨-,l0,h2,hN,DD,-⟩:=hg.put_ hr hf;have R':=R.put hg hr hf;have kg:=fun j (hj:j<(grp l (zw l.length) i).length)=>Qh (l:=l) hq hi' hj
 obtain ⟨t1,t2,t3⟩:=jl (B:=B) (h:=h) (hi:=pX l (zw l.length) hi i) (least:=least) h2 (by rw [hg.n];exact hN) hM g2 g1 hl (R.asc.grp _ _) (R.u.grp _ _) (fun j hj=>tl h1 R.asc R.bd hi' hj)
  (fun j hj=>by rw [(kg j hj).2];exact R.val _ zo) (fun a b Cq hb=>by rw [(kg a zo).2,(kg b hb).2];exact R.apart _ _ zo zo)
  (fun j hj=>by
   have:=R'.tree (Yt l.length (zw l.length) i+j) zo;rw [(kg j hj).1,(kg j hj).2]
   have e:jk (grp l (zw l.length) i) (pX l (zw l.length) hi i) j=jk l hi (Yt l.length (zw l.length) i+j):=by
    unfold jk;by_cases e:j+1<(grp l (zw l.length) i).length
    ·rw [if_pos e,if_pos zo,(kg (j+1) e).1];rfl
    ·rw [if_neg e]
     unfold pX;by_cases e2:i+1<zw l.length
     ·have:=JR h1 e2
      rw [if_pos e2,if_pos zo];congr 2;omega
     ·have e3:i+1=zw l.length:=zo
      rw [if_neg e2,if_neg];rw [e3,ao hq] at gl;omega
   rw [e];exact this)
 rw [(kg 0 zo).1] at t1;refine U.step hg hr hf t1 ?_ ?_
 ·rw [t3]
  intro b hm;rcases ya.1 hm with rfl | hm
  ·exact ⟨B.at_,rfl,by show B.at_<B.T.n;rw [hg.n];exact hN,by rw [DD];simp⟩
  ·obtain ⟨p,hp,hm⟩:=yH.1 hm
   obtain ⟨j,hj,e⟩:=List.getElem_of_mem hp;have:=(kg j hj).2;unfold qv at this;rw [qi hj,e] at this;rw [this] at hm;exact R'.lv _ zo b hm
 ·rw [t2]
  refine eM _ (fun v=>zR _ h (v:Int)) A fun j hj=>?_;rw [(kg j hj).2];have T:=Vz hg hr hf (lo:=0) (hi:=0) (least:=0) (R.lv (Yt l.length (zw l.length) i+j) zo);rw [T.2.1];exact hA _ zo
end
def Qu:Nat:=18446744073709551615
noncomputable def xp (leaf:Bool) (l:zL) (B:Bs):Nat->Bs × List (Nat × Nat)
 | 0=>(B,[])
 | i+1=>((xp leaf l B i).1.put (xg leaf (grp l (zw l.length) i).length (xZ (grp l (zw l.length) i)) (qv (grp l (zw l.length) i))),(xp leaf l B i).2++[(xZ l (Yt l.length (zw l.length) i),(xp leaf l B i).1.at_)])
section
variable {B:Bs} {N G h:Nat} {l items:List (Nat × Nat)}
theorem jq.nil {Gh:Nat->List (Nat × Nat)} : jq B h l q hi least 0 [] Gh :=
 { len:=rfl,key:=fun j hj=>zo,val:=fun j hj=>zo,apart:=fun a b _ hb=>zo,own:=fun j hj=>zo,tree:=fun j hj=>zo,lv:=fun j hj=>zo,all:=fun j hj=>by omega }
theorem ap (leaf:Bool) (hg:g.length<=7):∀ j,j<128->xg leaf g.length (xZ g) (qv g) j<=255:=fun j _=>YY (by cases leaf <;> decide) (fun k _=>Zy _ _ _ k zo) j
theorem VB (hg:qy N G B) (h1:1<=l.length) (ha:Jw l) (hu:Y4 l) {least:Nat} (hl:∀ i,i<zw l.length->least<=(grp l (zw l.length) i).length) (hr:(zw l.length:Int)<=B.room) :
  ∀ i,i<=zw l.length->qy N G (xp true l B i).1/\(xp true l B i).1.room=B.room - i/\jq (xp true l B i).1 0 l (zw l.length) Qu least i (xp true l B i).2 (grp l (zw l.length))
 | 0,_=>⟨hg,by show B.room=B.room - ((0:Nat):Int);omega,jq.nil⟩
 | i+1,hi=>by
  obtain ⟨g1,g2,g3⟩:=VB hg h1 ha hu hl hr i zo;have DA:0<(xp true l B i).1.room:=zo;obtain ⟨p1,-,-,-,-,-,-,p8,-⟩:=g1.put_ DA (ap true (ZI h1 (i:=i) zo).1);refine ⟨p1,?_,g3.leaf g1 DA h1 ha hu (fun j hj=>?_) zo (hl i zo)⟩
  ·show (Bs.put _ _).room=_
   rw [p8,g2];omega
  ·have:=(hu.getD j).1
   unfold Qu xZ;omega
theorem Jc (hg:qy N G B) (hM:N<=4096) (h1:1<=l.length) (R:jo B h Qu l items) {least:Nat} (hl:∀ i,i<zw l.length->least<=(grp l (zw l.length) i).length) (hr:(zw l.length:Int)<=B.room) {A:Nat->List (Nat × Nat)} (hA:∀ j,j<l.length->zR B h (qv l j:Int)=A (qv l j)) :
  ∀ i,i<=zw l.length->qy N G (xp false l B i).1/\(xp false l B i).1.room=B.room - i/\jo (xp false l B i).1 h Qu l items/\(∀ j,j<l.length->zR (xp false l B i).1 h (qv l j:Int)=A (qv l j)) /\
   jq (xp false l B i).1 (h+1) l (zw l.length) Qu least i (xp false l B i).2 (fun i=>(grp l (zw l.length) i).flatMap fun p=>A p.2)
 | 0,_=>⟨hg,by show B.room=B.room - ((0:Nat):Int);omega,R,hA,jq.nil⟩
 | i+1,hi=>by
  obtain ⟨g1,g2,g3,g4,g5⟩:=Jc hg hM h1 R hl hr hA i zo;have DA:0<(xp false l B i).1.room:=zo;have hf:=ap false (g:=grp l (zw l.length) i) (ZI h1 (i:=i) zo).1;obtain ⟨p1,-,-,-,-,-,-,p8,-⟩:=g1.put_ DA hf;refine ⟨p1,?_,g3.put g1 DA hf,fun j hj=>?_,g5.inner g3 g4 g1 (by rw [g1.n];exact hM) DA h1 zo (hl i zo)⟩
  ·show (Bs.put _ _).room=_
   rw [p8,g2];omega
  ·have T:=Vz g1 DA hf (lo:=0) (hi:=0) (least:=0) (g3.lv j hj)
   show zR (Bs.put _ _) h _=_
   rw [T.2.1];exact g4 j hj
structure BI (N G k:Nat) (items l:zL) (B:Bs):Prop where
 good:qy N G B
 room:(l.length:Int)+1<=2*B.room
 len:1<=l.length
 lv:(k=0/\l=items/\Jw l/\Y4 l)∨(∃ h,k=h+1/\2<=l.length/\jo B h Qu l items)
theorem BI.asc {k:Nat} (I:BI N G k items l B):Jw l/\Y4 l:=by
 rcases I.lv with ⟨-,-,h1,h2⟩ | ⟨h,-,-,R⟩
 ·exact ⟨h1,h2⟩
 ·exact ⟨R.asc,R.u⟩
theorem BI.many (I:BI N G k items l B):(zw l.length:Int)<=B.room:=by
 obtain ⟨b1,b2,b3,b4⟩:=Yn I.len;have:=I.room;have:=I.len;by_cases e:2<=zw l.length
 ·have:=b3 e;omega
 ·omega
theorem BI.next (I:BI N G k items l B) (hM:N<=4096) (hq:2<=zw l.length):BI N G (k+1) items (xp (decide (k=0)) l B (zw l.length)).2 (xp (decide (k=0)) l B (zw l.length)).1:=by
 obtain ⟨b1,b2,b3,b4⟩:=Yn I.len;have hl:∀ i,i<zw l.length->3<=(grp l (zw l.length) i).length:=fun i hi=>by have:=(ZI I.len hi).2.2 hq;omega
 have hm:=I.many;have:=I.room;have:=b3 hq;rcases I.lv with ⟨rfl,rfl,ha,hu⟩ | ⟨h,rfl,DI,R⟩
 ·obtain ⟨g1,g2,g3⟩:=VB I.good I.len ha hu hl hm _ (xd _)
  have row:=g3.row I.len ha hu (fun j hj=>by have:=(hu.getD j).1;unfold Qu xZ;omega) (by rw [g1.n];exact hM);rw [gu zo] at row;have B9:=g3.len;refine ⟨g1,?_,?_,.inr ⟨0,rfl,?_,row⟩⟩
  ·show (((xp true l B (zw l.length)).2.length:Nat):Int)+1<=2*(xp true l B (zw l.length)).1.room
   rw [g2,B9];omega
  ·show 1<=(xp true l B (zw l.length)).2.length
   rw [B9];omega
  ·show 2<=(xp true l B (zw l.length)).2.length
   rw [B9];omega
 ·obtain ⟨g1,g2,g3,g4,g5⟩:=Jc I.good hM I.len R hl hm (A:=fun v=>zR B h (v:Int)) (fun j _=>rfl) _ (xd _)
  have row:=g5.row I.len R.asc R.u R.bd (by rw [g1.n];exact hM)
  have e:((List.range (zw l.length)).flatMap fun i=>(grp l (zw l.length) i).flatMap fun p=>zR B h (p.2:Int))=items:=by
   rw [<- R.all,<- List.flatMap_assoc,gu zo]
  rw [e] at row;have B9:=g5.len;refine ⟨g1,?_,?_,.inr ⟨h+1,rfl,?_,row⟩⟩
  ·show (((xp false l B (zw l.length)).2.length:Nat):Int)+1<=2*(xp false l B (zw l.length)).1.room
   rw [g2,B9];omega
  ·show 1<=(xp false l B (zw l.length)).2.length
   rw [B9];omega
  ·show 2<=(xp false l B (zw l.length)).2.length
   rw [B9];omega
end
theorem Og {IZ:Nat} (hr:zG B h x lo hi least=true) (hl:IZ<=lo):zG B h x IZ hi least=true:=by
 cases hd:B.nodeI x with
 | none=>rw [i9 hd] at hr;cases hr
 | some d =>
  rw [OJ hd] at hr;simp only [Bool.and_eq_true,decide_eq_true_eq,yQ,ye] at hr;refine JQ hd hr.1 hr.2.1 fun i hi'=>?_;have:=hr.2.2 i hi';unfold bz at this ⊢;rw [Bool.and_eq_true,decide_eq_true_eq] at this;rw [yq ⟨zo,this.1.2⟩,this.2];rfl
structure Zl (B:Bs) (x:Int) (h:Nat) (items:zL):Prop where
 right:zG B h x 0 Qu (if h=0 then 1 else 2)=true
 all:zR B h x=items
 lv:Lv B (z9 B h x)
theorem BI.last {items l:zL} (I:BI N G k items l B) (hM:N<=4096) (hq:zw l.length=1):qy N G (xp (decide (k=0)) l B 1).1/\Zl (xp (decide (k=0)) l B 1).1 (qv (xp (decide (k=0)) l B 1).2 0:Int) k items/\(xp (decide (k=0)) l B 1).1.room=B.room - 1:=by
 obtain ⟨b1,b2,b3,b4⟩:=Yn I.len;have hm:=I.many;have EQ:(grp l 1 0).length=l.length:=by rw [Xv zo zo,ao zo,Vy];omega
 have Fu:grp l 1 0=l:=by
  have:=gu (l:=l) (q:=1) zo;simpa using this
 rcases I.lv with ⟨rfl,rfl,ha,hu⟩ | ⟨h,rfl,DI,R⟩
 ·obtain ⟨g1,g2,g3⟩:=VB I.good I.len ha hu (least:=1) (fun i hi=>(ZI I.len hi).2.1) hm 1 zo
  rw [hq] at g3;refine ⟨g1,⟨?_,?_,g3.lv 0 zo⟩,g2⟩
  ·have:=g3.tree 0 zo
   unfold pX at this;rw [if_neg zo] at this;exact Og this (yg _)
  ·have:=g3.all 0 zo
   rw [Fu] at this;exact this
 ·obtain ⟨g1,g2,g3,g4,g5⟩:=Jc I.good hM I.len R (least:=2) (fun i hi=>by rw [hq] at hi ⊢;obtain rfl:i=0:=zo;rw [EQ];exact DI) hm (A:=fun v=>zR B h (v:Int)) (fun j _=>rfl) 1 zo
  rw [hq] at g5;refine ⟨g1,⟨?_,?_,g5.lv 0 zo⟩,g2⟩
  ·have:=g5.tree 0 zo
   unfold pX at this;rw [if_neg zo] at this;exact Og this (yg _)
  ·have:=g5.all 0 zo
   rw [Fu,R.all] at this;exact this
section
variable {B:Bs} {x:Int} {h:Nat} {items:List (Nat × Nat)}
theorem Zl.height (T:Zl B x h items) (ok:B.Ok) (h8:h<8):xM B 8 x=(h+1,0):=Qe ok T.right h8 zaA
theorem Zl.ne (T:Zl B x h items):x≠0:=by
 have:=(XW T.right).1;omega
theorem Zl.walk (T:Zl B x h items) (ok:B.Ok) (h8:h<8) (lo hi:Nat):Xb B lo hi x=(items.filter fun p=>decide (lo<=p.1)&&decide (p.1<=hi)).map fun p=>(p,0):=by
 unfold Xb;rw [if_neg T.ne,OI ok T.right h8,T.all]
end
theorem jr:∀ (l acc:zL) (m:Nat),Jv (l.map fun p=>(p,(0:Int))) m acc=(acc++l.take m,0)
 | [],acc,m=>by rw [List.map_nil,eI];simp
 | p::r,acc,0=>by rw [bC];simp
 | p::r,acc,m+1=>by
  show (if (0:Int)=0 then Jv (r.map fun p=>(p,(0:Int))) m (acc++[p]) else _)=_
  rw [if_pos rfl,jr r (acc++[p]) m];simp
structure BH (k m m0:Nat):Prop where
 pw:4 ^ k*m<=m0
 hg:k+jb (10 - k) m=eH m0
theorem BH.start (h:1<=m0):BH 0 m0 m0:=⟨zaa,by unfold eH;rw [if_neg zo];simp⟩
theorem BH.small (h:BH k m m0) (hm:1<=m) (h0:m0<=200):k<=3:=by
 have:=h.pw;by_cases e:k<=3
 ·exact e
 ·have:4 ^ 4<=4 ^ k:=Nat.pow_le_pow_right zo zo
  have:4 ^ k*1<=4 ^ k*m:=Nat.mul_le_mul_left _ hm;have:4 ^ 4=256:=zaf
  omega
theorem BH.next (h:BH k m m0) (hq:2<=zw m) (h0:m0<=200):BH (k+1) (zw m) m0:=by
 have hm:1<=m:=zq (lO hq);have:=h.small hm h0;have b:=(Yn hm).2.2.1 hq;refine ⟨?_,?_⟩
 ·have h1:=h.pw
  have h2:4 ^ (k+1)*zw m=4 ^ k*(4*zw m):=by rw [Nat.pow_succ,Nat.mul_assoc]
  rw [h2];exact qh (Nat.mul_le_mul_left _ b) h1
 ·have h1:=h.hg
  rw [show 10 - k=(10 - (k+1))+1 by omega] at h1;rw [jb,if_pos (by unfold zw at hq;omega)] at h1;unfold zw;omega
theorem BH.last (h:BH k m m0) (hm:1<=m) (hq:zw m=1) (h0:m0<=200):eH m0=k+1:=by
 have:=h.small hm h0;have h1:=h.hg;rw [show 10 - k=(9 - k)+1 by omega,jb,if_neg (by unfold zw at hq;omega)] at h1;exact h1.symm
theorem js (hN:16<=N/\N<=4096):(Bs.fmt N).room=(N:Int) - 2 - 2*(qu N:Int):=by
 obtain ⟨g,hl,hw⟩:=Vw hN;have:=g.room;rw [hw,qM (fun i _=>hl i)] at this;omega
def Jy (out:zL) (x:Nat × Nat) (at':Nat):List (Nat × Nat):=if at'<out.length/\xZ out at'=x.1 then out else out.take at'++x::out.drop at'
theorem pd {out:zL} {x:Nat × Nat} {at':Nat} (ha:Jw out) (hu:Y4 out) (hx:x.1<18446744073709551616/\x.2<18446744073709551616) (h0:at'<=out.length) (h1:∀ j,at'<=j->j<out.length->x.1<=xZ out j) (h2:at'=0∨xZ out (at' - 1)<x.1) :
  Jw (Jy out x at')/\Y4 (Jy out x at')/\(Jy out x at').length<=out.length+1:=by
 unfold Jy;by_cases e:at'<out.length/\xZ out at'=x.1
 ·rw [if_pos e];exact ⟨ha,hu,zo⟩
 ·rw [if_neg e]
  refine ⟨?_,fun p hp=>?_,?_⟩
  ·have BY:∀ p,p∈out.take at'->p.1<x.1:=fun p hp=>by
    obtain ⟨j,hj,e2⟩:=List.getElem_of_mem hp;rw [yV] at hj;rw [List.getElem_take] at e2;rcases h2 with h2 | h2
    ·omega
    ·have h3:xZ out j<=xZ out (at' - 1):=by
      by_cases e3:j=at' - 1
      ·rw [e3];exact xd _
      ·exact Nat.le_of_lt (ha.lt zo zo)
     have h4:xZ out j=p.1:=by unfold xZ;rw [qi zo,e2]
     omega
   have kD:∀ p,p∈out.drop at'->x.1<p.1:=fun p hp=>by
    obtain ⟨j,hj,e2⟩:=List.getElem_of_mem hp;rw [List.length_drop] at hj;rw [List.getElem_drop] at e2;have h4:xZ out (at'+j)=p.1:=by unfold xZ;rw [qi zo,e2]
    have h5:=h1 (at'+j) zo zo;by_cases e3:j=0
    ·subst e3
     have:xZ out at'≠x.1:=fun q=>e ⟨zo,q⟩;rw [Nat.add_zero] at h4 h5;omega
    ·have:=h1 at' (xd _) zo
     have:=ha.lt (i:=at') (j:=at'+j) zo zo;omega
   refine List.pairwise_append.2 ⟨ha.take,List.pairwise_cons.2 ⟨kD,ha.drop⟩,fun p hp q hq=>?_⟩;have h3:=BY p hp;rcases ya.1 hq with rfl | hq
   ·exact h3
   ·have:=kD q hq;omega
  ·rcases yx.1 hp with hp | hp
   ·exact hu p (List.mem_of_mem_take hp)
   ·rcases ya.1 hp with rfl | hp
    ·exact hx
    ·exact hu p (List.mem_of_mem_drop hp)
  ·rw [ym,yV,yu,List.length_drop];omega
open Go.RowKit Go.Maps
def KR (P:Program) (kt:TypeId) (good:Value->Bool) (w:World) (b r n:Nat) (f:Nat->Option Value) (left:Nat->Bool):Prop :=
 ∃ (D:DataW Value) (cnt:Nat) (lf:Lit->Bool),w.ranges P kt (RG good) b r (Maps.size D) D lf cnt/\Maps.size D=Proofs.YtegpiomkmfhadaaGreat.cnt n (fun k=>(f k).isSome) /\
  (∀ l,Maps.has D l=true->∃ k,k<n/\l = .int .i64 (k:Int)/\(f k).isSome=true) /\
  (∀ k v,k<n->f k=some v->Maps.has D (.int .i64 (k:Int))=true/\∀ z,D.atKey (.int .i64 (k:Int)) z = .held v) /\
  (∀ l,lf l=true->∃ k,k<n/\l = .int .i64 (k:Int)/\(f k).isSome=true)/\∀ k,k<n->lf (.int .i64 (k:Int))=left k
section
variable {P:Program} {kt et t:TypeId} {w w':World} {b r n:Nat} {f:Nat->Option Value} {good:Value->Bool} {left:Nat->Bool}
theorem KR.kmap (h:KR P kt good w b r n f left):xJ P kt good w b n f:=by
 obtain ⟨D,c,lf,h1,h2,h3,h4,_⟩:=h;exact ⟨D,h1.owns,h2,h3,h4⟩
theorem KR.same (h:KR P kt good w b r n f left) (eb:w'.heap[b]?=w.heap[b]?) (er:w'.heap[r]?=w.heap[r]?):KR P kt good w' b r n f left:=by
 obtain ⟨D,c,lf,⟨es,Dn,F7,seen,c0,q1,q2,q3,q4,q5,q6⟩,h2⟩:=h;exact ⟨D,c,lf,⟨es,Dn,F7,seen,c0,eb.trans q1,q2,q3,q4,er.trans q5,q6⟩,h2⟩
theorem KR.lt (h:KR P kt good w b r n f left):b<w.heap.size/\r<w.heap.size:=by
 obtain ⟨D,c,lf,⟨es,Dn,F7,seen,c0,q1,q2,q3,q4,q5,q6⟩,h2⟩:=h;exact ⟨zz q1,zz q5⟩
theorem KR.chg {L:List Nat} (h:KR P kt good w b r n f left) (c:zv L w w') (hb:b∉L:=by simp) (hr:r∉L:=by simp):KR P kt good w' b r n f left:=h.same (c.block b h.lt.1 hb) (c.block r h.lt.2 hr)
theorem KR.left_eq (h:KR P kt good w b r n f left) (eb:w'.heap[b]?=w.heap[b]?) (er:w'.heap[r]?=w.heap[r]?):w'.rangeLeft b r=w.rangeLeft b r:=by
 unfold World.rangeLeft;rw [eb,er]
theorem jt (j k:Int):(Lit.int .i64 j).sameKey (.int .i64 k)=decide (j=k):=by
 simp [Lit.sameKey]
variable {ops:Array Oper} {rest:List Oper} {o:Oper} {a:Act} {Q:Exit->Act->World->Prop}
theorem Jz (hg:o.guard=none) (m:Operand) (Gv:o.op=Op.range t m) (Dr:P.underlying kt=some (.int .i64)) (ht:P.underlying t=some (.map kt et)) (h:xJ P kt good w b n f) (hm:a.eval m = .map (some b))
  (hK:∀ w',KR P kt good w' b w.heap.size n f (fun k=>(f k).isSome)->w.grownBy w' none->w'.heap.size=w.heap.size+1->wpList P ops Q rest (a.put o.dst (zP w.heap.size)) w') :
  wpList P ops Q (o::rest) a w:=by
 have hh:=h;obtain ⟨D,h1,h2,h3,h4⟩:=h;refine wpList_range_own w hg m t Gv kt et (Maps.int_keyed Dr) ht (RG good) b _ D hm h1 fun w' hr EU hs=>hK w' ⟨D,_,_,hr,h2,h3,h4,h3,fun k hk=>?_⟩ EU hs;exact hh.has h3 h4 hk
theorem VC (hg:o.guard=none) (it:Operand) (Gv:o.op=Op.next it false) (Dr:P.underlying kt=some (.int .i64)) (h:KR P kt good w b r n f left) (DN:a.eval it = zP r)
  (L5:(∀ k,k<n->left k=false)->wpList P ops Q rest (a.put o.dst (.tuple #[.bool false])) w)
  (L8:∀ (k:Nat) (v:Value) (w':World),k<n->f k=some v->left k=true->good v=true->KR P kt good w' b r n f (fun j=>left j&&decide (j≠k))->w'.rangeLeft b r<w.rangeLeft b r ->
   w.grownBy w' (some r)->w'.heap.size=w.heap.size->(Instr.entry (zP r)).run P w' = .ok (.tuple #[.int .i64 (k:Int),v]) w'->wpList P ops Q rest (a.put o.dst (.tuple #[.bool true,.int .i64 (k:Int),v])) w') :
  wpList P ops Q (o::rest) a w:=by
 obtain ⟨D,c,lf,h1,h2,h3,h4,h5,h6⟩:=h;refine wpList_next_ranges w hg it Gv kt (Maps.int_keyed Dr) (RG good) id id (fun key _ _=>⟨key,rfl⟩) (fun v _ _=>⟨v,rfl⟩) b r _ D lf c DN h1 (fun _ hl=>L5 fun k hk=>by rw [<- h6 k hk];exact hl _) ?_;intro x v kl y w' c' Ch Co hv DT LF BY EU Dg Mj;obtain ⟨k,hk,rfl,hs⟩:=h5 kl Co;obtain ⟨x',ex,R1,_⟩:=Maps.keyOf_int_inv Dr Ch;injection R1 with _ R1;subst R1;obtain rfl:x = .int .i64 (k:Int):=ex;obtain ⟨y1,y2⟩:=y;obtain ⟨hy,_,G9⟩:=XC hv
 cases hf:f k with
 | none=>rw [hf] at hs;cases hs
 | some v' =>
  have e:=(h4 k v' hk hf).2 .nil;rw [DT .nil] at e;have e':(DataW.held v':DataW Value) = .held v:=e.symm.trans hy;injection e' with e';subst e';refine L8 k v' w' hk hf (by rw [<- h6 k hk];exact Co) G9 ⟨D,c',_,LF,h2,h3,h4,fun l hl=>?_,fun j hj=>?_⟩ (by rw [LF.left_eq,h1.left_eq];exact BY) EU Dg Mj
  ·rw [Bool.and_eq_true] at hl
   exact h5 l hl.1
  ·show (lf (.int .i64 (j:Int)) && !(Lit.int .i64 (j:Int)).sameKey (.int .i64 (k:Int)))=_
   rw [h6 j hj,jt];by_cases q:j=k
   ·subst q;simp
   ·rw [yC (show ¬ ((j:Int)=(k:Int)) by omega)]
    simp [q]
end
end Go.Proofs.YtegpiomkmfhadaaGreat
namespace Go.Proofs.YtegpiomkmfhadaaGreat
open Go.RowKit
structure St where
 c:Nat->Nat
 d:Nat->Nat->Nat
 r:Nat->Nat
 m:Nat->Nat
end Go.Proofs.YtegpiomkmfhadaaGreat
