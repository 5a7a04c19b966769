/- Package own: Let, drop. · Package own: -/
import Derived.Test.YtegpiomkmfhadaaGreatZo26
set_option linter.all false
set_option maxRecDepth 100000
set_option maxHeartbeats 20000000
namespace Go.Proofs.YtegpiomkmfhadaaGreat
open Go.RowKit
variable {w:World} {M:Bm} {bx c n i b j:Nat} {F H:List Nat} {B:Bs} {f g:zF} {v:Value} {d:Nd} {deps:Nat->List Nat}
def vG (bx:Nat):Value := .func (.func 39) #[] #[zP bx]
def OT (w:World) (M:Bm) (bx:Nat):Prop:=w.heap[bx]?=some (.cells #[zP M.b] 24 (0,0))/\bx∉M.L
theorem OT.chg {w':World} {L:List Nat} (h:OT w M bx) (c:zv L w w') (hL:∀ q,q∈L->q∈M.L:=by simp):OT w' M bx:=⟨(c.block bx (zz h.1) (fun hm=>h.2 (hL _ hm))).trans h.1,h.2⟩
theorem bT (w:World) (M:Bm) (hM:∀ q,q∈M.L->q<w.heap.size):zC 14 #[zP M.b] w fun e w'=>∃ bx,e = .returned (vG bx)/\OT w' M bx/\zv [] w w':=by
 have hb:=xo w (.cells #[zP M.b] 24);have hc:zv [] w (w.alloc (.cells #[zP M.b] 24)):=(zv.refl [] w).alloc _;have hn:w.heap.size∉M.L:=fun hm=>by have:=hM _ hm;omega
 have H:=zh (zA (zA hb hn:OT _ M w.heap.size) hc);clear hb hc hn;go_enter Tryz.func14,Tryz.ntmps14;go_wp2_with fail;go_ret;exact ⟨w.heap.size,rfl,H⟩
theorem ph {v:Nat} (h:zx w M F B) (hF:∀ q,q∈F->q<w.heap.size) (hb:OT w M bx) (hv:v<4096) :
  zC 39 #[.int .u64 (v:Int),zP bx] w fun e w'=>e = .returned (.int .i64 (B.downE (v:Int)))/\zx w' M F (B.down (v:Int))/\zv M.L w w':=by
 have cb:=bJ v hv w;have cd:=zh (QN h hF (v:Int));have:w.cell? ⟨bx,0,none⟩=some (zP M.b):=(zM hb.1 0).trans rfl;clear h hF hb;go_enter Tryz.func39,Tryz.ntmps39;go_wp2_with fail;refine zm (cb) ?_;go_wp2_with fail;refine cd.mono ?_;rintro e w' ⟨rfl,hq⟩;have HQ:=zh hq;clear hq cd;go_wp2_with fail;go_ret;exact ⟨rfl,HQ⟩
def AA (w:World) (M:Bm) (F:List Nat) (B:Bs) (N G:Nat) (ht:Ht) (BR:zF) (x c y:Nat) (w':World):Prop:=∃ d B' B6,B.nodeI (x:Int)=some d/\zx w' M F B'/\qf N G B ht BR x c d y B' B6/\zv M.L w w'
theorem tz {N G:Nat} {ht:Ht} {BR:zF} {x:Nat} (h:zx w M F B) (hF:∀ q,q∈F->q<w.heap.size) (g:Gr N G B ht BR) (hM:N<=4096) (hm:∀ b,BR b<=30000) (hx:ht x=some c) (hp:1<=BR x) (hr:0<B.room) :
  zC 161 #[zP M.b,.int .i64 (x:Int)] w fun e w'=>∃ y:Nat,e = .returned (.tuple #[.int .i64 (y:Int),.int .i64 0])/\AA w M F B N G ht BR x c y w':=by
 obtain ⟨d,hd,Dm,B6,o⟩:=g.own hM hm hx hp hr;refine (tp h hF (by rw [g.good.n];exact (g.lt hx).1) hd Dm).mono ?_;rintro e w' ⟨rfl,hb,hc⟩;exact ⟨_,rfl,d,_,B6,hd,hb,o,hc⟩
def qS (f:zF) (i j:Nat):Nat:=if j<i then f j else f (j+1)
def eX (n:Nat) (f:zF):List Value:=(List.range n).map fun i => .int .u64 (f i:Int)
def gy (n:Nat) (f g:zF) (i:Nat):Nat:=if i<n then f i else g (i - n)
theorem ng (n:Nat) (f:zF):(eX n f).length=n:=by simp [eX]
theorem nh (h:i<n):(eX n f)[i]?=some (.int .u64 (f i:Int)):=by simp [eX,h]
theorem vH (n m:Nat) (f g:zF):eX n f++eX m g=eX (n+m) (gy n f g):=by
 unfold eX;rw [List.range_add,List.map_append,List.map_map];congr 1
 ·exact yU fun i hi=>by unfold gy;rw [if_pos (ye.1 hi)]
 ·exact yU fun i _=>by show Value.int .u64 _=Value.int .u64 ((gy n f g (n+i):Nat):Int);unfold gy;rw [if_neg zo,yA]
def JB (w:World) (v:Value) (n:Nat) (f:zF):Prop:=∃ b o c,v = .slice (some ⟨b,o,none⟩) n c/\n<=c/\c<=maxLen/\b<w.heap.size/\Zi w b o n f
theorem JB.chg {w w':World} {v:Value} {n:Nat} {f:zF} (h:JB w v n f) (c:zv [] w w'):JB w' v n f:=by
 obtain ⟨b,o,k,rfl,h1,h2,h3,h4⟩:=h;exact ⟨b,o,k,rfl,h1,h2,qe h3 c.size,h4.chg c⟩
theorem JB.app (h:JB w v n f):xQ w 1 v n (eX n f):=by
 obtain ⟨b,o,k,rfl,h1,h2,h3,h4⟩:=h;refine ⟨by rw [ng];omega,fun u hu=>?_,.inl ⟨b,o,k,rfl,h3,fun j u hu=>?_⟩⟩
 ·unfold eX at hu
  obtain ⟨i,_,rfl⟩:=yw.1 hu;rfl
 ·have hj:j<n:=by
   have:=(List.getElem?_eq_some_iff.1 hu).1;rwa [ng] at this
  rw [nh hj] at hu;rw [<- hu];exact (h4 j hj).1
def qw (base:Nat) (w:World) (v:Value) (n:Nat) (f:zF):Prop:=(n=0/\∃ a c,v = .slice a 0 c/\c<=maxLen/\(a=none->c=0))∨∃ g c,v = zS g n c/\n<=c/\c<=maxLen/\base<=g/\zQ w g n f
theorem qw.of {base:Nat} (h:w.ownsRow base 23 1 v n (eX n f)) (hf:∀ i,i<n->f i<18446744073709551616):qw base w v n f:=by
 rcases h.2 with ⟨rfl,h0⟩ | ⟨g,c,BV,rfl,hb,hg,r1,r2,r3,r4⟩
 ·exact .inl ⟨h0,none,0,rfl,by unfold maxLen;omega,fun _=>rfl⟩
 ·refine .inr ⟨g,c,rfl,r1,r2,hb,fun i hi=>⟨?_,hf i hi⟩,BV,hg⟩
  rw [yn,zM hg];have:=congrArg (fun l=>l[i]?) r4;simp only [List.getElem?_take,if_pos (show i<n*1 by omega),nh hi,yB] at this;exact this
theorem qw.chg {base n:Nat} {L:List Nat} {w w':World} {v:Value} {f:zF} (h:qw base w v n f) (c:zv L w w') (hL:∀ q,q∈L->q<base∨w.heap.size<=q:=by simp):qw base w' v n f:=by
 rcases h with h | ⟨g,k,rfl,h1,h2,h3,h4⟩
 ·exact .inl h
 ·exact .inr ⟨g,k,rfl,h1,h2,h3,h4.chg c fun hm=>by have:=hL g hm;have:=h4.lt;omega⟩
theorem qw.row {base:Nat} (h:qw base w v n f) (hn:0<n):∃ g c,v = zS g n c/\n<=c/\c<=maxLen/\base<=g/\zQ w g n f:=by
 rcases h with ⟨h0,_⟩ | h
 ·omega
 ·exact h
theorem qw.base {b':Nat} (h:qw b w v n f) (hb:b'<=b):qw b' w v n f:=by
 rcases h with h | ⟨g,c,e,h1,h2,h3,h4⟩
 ·exact .inl h
 ·exact .inr ⟨g,c,e,h1,h2,zo,h4⟩
theorem qw.len {base:Nat} (h:qw base w v n f):∃ a c,v = .slice a n c:=by
 rcases h with ⟨rfl,a,c,hv,_⟩ | ⟨g,c,hv,_⟩
 ·exact ⟨a,c,hv⟩
 ·exact ⟨_,c,hv⟩
theorem qw.nums {A:List Nat} {base n:Nat} {w:World} {v:Value} {f:zF} (h:qw base w v n f) (hA:∀ q,q∈A->q<base):zT A w v n f:=by
 rcases h with ⟨h0,a,c,hv,hc⟩ | ⟨g,k,rfl,h1,h2,h3,h4⟩
 ·exact .inl ⟨⟨a,c,hv,hc⟩,h0⟩
 ·exact .inr ⟨g,0,k,rfl,h1,h2,h4.lt,fun hm=>by have:=hA g hm;omega,h4.nums⟩
theorem qw.cong {base:Nat} (h:qw base w v n f) (e:∀ i,i<n->g i=f i):qw base w v n g:=by
 rcases h with h | ⟨b,k,rfl,h1,h2,h3,h4⟩
 ·exact .inl h
 ·exact .inr ⟨b,k,rfl,h1,h2,h3,fun i hi=>by rw [e i hi];exact h4.nums i hi,h4.blk⟩
theorem pi (n:Nat) (w:World) (h2:n<=100000) :
  zC 229 #[.slice none 0 0,.int .i64 (n:Int)] w fun e w'=>∃ v,e = .returned v/\w'.ownsRow w.heap.size 23 1 v 0 []/\zv [] w w':=by
 by_cases h1:1<=n
 ·obtain ⟨i0,hi,hz,hs,hb⟩:=info_parts Qc
  have fo:(Builtin.firstCells i0.size 0 (.slice none 0 0)).run Tryz.prog w.drew = .ok #[] w.drew:=run_firstCells_none w.drew i0.size 0 0 0;have KG:=fun ty=>Lib.run_append_grow_zeros w 40 3 ty 23 i0 (.int .u64 0) .i64 .i64 Tryz.underlying40 Tryz.underlying3 hi hz none 0 0 [] fo n zo zo zo zo (by rw [hb];omega) (growslice_fits zo (by rw [hb];omega));have hG:=grownCap_ge w (0+n) 0 23;have hM:=grownCap_le_maxLen w (0+n) 0 23 zam;generalize hGG:grownCap w (0+n) 0 23=G at KG hG hM;clear hGG;rw [yn] at KG hG;have:G<=9223372036854775807:=by unfold maxLen at hM;omega
  have:¬ (n:Int)<0:=zo;have:(0:Int)<(n:Int):=zo;go_enter Tryz.func229,Tryz.ntmps229;go_wp2_with (at_builtin;refine Lib.wpList_append_run _ rfl _ _ _ _ rfl _ _ rfl rfl _ _ (KG _) ?_);go_ret;refine ⟨_,rfl,⟨rfl,.inr ⟨w.heap.size,G,_,rfl,xd _,xo w.drew _,yg _,hM,?_,rfl⟩⟩,((zv.refl [] w).drew.alloc _)⟩;simp [Builtin.zeroCells];omega
 ·obtain rfl:n=0:=zo
  go_enter Tryz.func229,Tryz.ntmps229;go_wp2_with fail;go_ret;exact ⟨_,rfl,aF,zv.refl _ _⟩
theorem QS {B m:Nat} {a b:Option Addr} {c':Nat} (hB:w.heap[B]?=some (.cells #[.slice a n c,.slice b m c'] 40 (0,0)))
  (h0:JB w (.slice a n c) n f) (h1:JB w (.slice b m c') m g) (hlm:n+m<=10000) (hf:∀ i,i<n->f i<18446744073709551616) (hg:∀ i,i<m->g i<18446744073709551616) :
  zC 208 #[zS B 2 2] w fun e w'=>∃ v,e = .returned v/\qw w.heap.size w' v (n+m) (gy n f g)/\zv [] w w':=by
 obtain ⟨x0,x1⟩:=uj hB;have lB:=zz hB;have HB:=zh hB;have H0:=zh h0;have H1:=zh h1
 have HF:Hd (∀ i,i<n+m->gy n f g i<18446744073709551616):=zh fun i hi=>by
  unfold gy
  split
  ·exact hf i zau
  ·exact hg _ zo
 clear hB h0 h1 hf hg;go_enter Tryz.func208,Tryz.ntmps208;go_wp2_with fail
 go_loop [3,11] (fun t s=>∃ k c:Nat,s = zI k/\t = zI c/\((k=0/\c=0)∨(k=1/\n=c)∨(k=2/\n+m=c))) (fun _ s=>2 - (intOf s).toNat)
 case atStart=>exact ⟨0,0,rfl,rfl,.inl ⟨rfl,rfl⟩⟩
 case round =>
  obtain ⟨k,t,rfl,rfl,⟨rfl,rfl⟩ | ⟨rfl,rfl⟩ | ⟨rfl,rfl⟩⟩:=hrel
  ·have i1:¬ (n:Int)<0:=zo
   go_wp2_with fail
   go_round
   case rel=>exact ⟨1,n,rfl,zac,.inr (.inl ⟨rfl,rfl⟩)⟩
   case measure=>simp [intOf]
  ·have i1:¬ (n:Int)+(m:Int)<0:=zo
   go_wp2_with fail
   go_round
   case rel=>exact ⟨2,n+m,rfl,zac,.inr (.inr ⟨rfl,rfl⟩)⟩
   case measure=>simp [intOf]
  ·go_wp2_with fail
   have cG:=pi (n+m) w zo;rw [Int.natCast_add] at cG;refine cG.mono ?_;clear cG;rintro e w1 ⟨v,rfl,BT,hC⟩;have RO:=zh BT;have HC:=zh hC;clear BT hC;go_wp2_with fail;have y0:=HC.ce x0 lB;have y1:=HC.ce x1 lB
   go_loopw [6,27] (fun v s wr=>∃ k q:Nat,s = zI k/\∃ F,((k=0/\q=0)∨(k=1/\n=q/\eX n f=F)∨(k=2/\n+m=q/\eX n f++eX m g=F))/\(k=0->F=[])/\Hd (wr.ownsRow w.heap.size 23 1 v q F/\zv [] w wr)) (fun _ s _=>2 - (intOf s).toNat)
   case atStart=>exact ⟨0,0,rfl,[],.inl ⟨rfl,rfl⟩,fun _=>rfl,⟨RO.o,HC⟩⟩
   case round =>
    obtain ⟨k,q,rfl,F,hk,Fv,hH⟩:=hrel;have BT:=hH.1;have hC:=hH.2;clear hH;have Fq:=zh BT;have DQ:=zh hC;have y0:=hC.ce x0 lB;have y1:=hC.ce x1 lB;have Dg:=hC.size;have I6:∀ k,(Value.ownBlock _=some k)->w.heap.size<=k:=fun k hk=>(BT.lt k hk).1;have I1:=zh I6;clear BT hC I6;rcases hk with ⟨rfl,rfl⟩ | ⟨rfl,rfl,rfl⟩ | ⟨rfl,rfl,rfl⟩
    ·obtain rfl:=Fv rfl
     go_wp2_with (at_builtin;refine x9 rfl _ _ 40 rfl rfl (base:=w.heap.size) (size:=1) (n:=0) (m:=n) (xs:=[]) (news:=eX n f) Tryz.underlying40 Qc rfl zo zo rfl rfl Fq (H0.chg DQ).app zo Dg ?_;intro v' w2 Ck C8 _;rw [yn,yy] at Ck;have C9:=zh Ck;have BZ:=zh (DQ.grown C8 (fun k hk => .inr (I1 k hk)));clear Ck C8)
     go_roundw
     case rel=>exact ⟨1,n,zac,eX n f,.inr (.inl ⟨rfl,rfl,rfl⟩),fun h=>zo,⟨C9.o,BZ⟩⟩
     case measure=>simp [intOf]
    ·clear Fv
     go_wp2_with (at_builtin;refine x9 rfl _ _ 40 rfl rfl (base:=w.heap.size) (size:=1) (n:=n) (m:=m) (xs:=eX n f) (news:=eX m g) Tryz.underlying40 Qc rfl zo zo rfl rfl Fq (H1.chg DQ).app zo Dg ?_;intro v' w2 Ck C8 _;have C9:=zh Ck;have BZ:=zh (DQ.grown C8 (fun k hk => .inr (I1 k hk)));clear Ck C8)
     go_roundw
     case rel=>exact ⟨2,n+m,zac,eX n f++eX m g,.inr (.inr ⟨rfl,rfl,rfl⟩),fun h=>zo,⟨C9.o,BZ⟩⟩
     case measure=>simp [intOf]
    ·clear Fv
     go_wp2_with fail;go_ret;refine ⟨_,rfl,?_,DQ⟩;have h:=Fq.o;rw [vH] at h;exact qw.of h HF.o
theorem VG {k:Nat} (h:zQ w k n f) (hn:n<=1000) (hi:i<n) :
  zC 162 #[zS k n n,.int .i64 (i:Int),.int .i64 ((i:Int)+1)] w fun e w'=>∃ v,e = .returned v/\qw w.heap.size w' v (n - 1) (qS f i)/\zv [] w w':=by
 have hl:=h.lt;obtain ⟨p,hp⟩:∃ p,(if n=i+1 then (some ⟨k,0,none⟩:Option Addr) else some ⟨k,i+1,none⟩)=some p:=by split <;> exact ⟨_,rfl⟩
 have s0:JB w (zS k i n) i f:=⟨k,0,n,rfl,zo,by unfold maxLen;omega,hl,fun j hj=>h.nums j zo⟩
 have s1:JB w (.slice (some p) (n - (i+1)) (n - (i+1))) (n - (i+1)) (fun j=>f (i+1+j)):=by
  by_cases e:n=i+1
  ·rw [if_pos e] at hp
   obtain rfl:=yj hp;exact ⟨k,0,_,rfl,xd _,by unfold maxLen;omega,hl,fun j hj=>zo⟩
  ·rw [if_neg e] at hp
   obtain rfl:=yj hp;refine ⟨k,i+1,_,rfl,xd _,by unfold maxLen;omega,hl,fun j hj=>?_⟩;have:=h.nums (i+1+j) zo;rwa [yn] at this
 obtain ⟨P,hP⟩:=zE (some p);rw [<- hP] at hp s1;have e3:(n:Int) - ((i:Int)+1)=((n - (i+1):Nat):Int):=zo;have S0:=zh s0;have S1:=zh s1;have HFL:=zh (fun j hj=>(h.nums j hj).2:∀ j,j<n->f j<18446744073709551616);clear s0 s1 hP h;have i1:(0:Int)<=(i:Int)+1/\(i:Int)+1<=(n:Int):=zo
 have i2:(i:Int)<=(n:Int):=zo;go_enter Tryz.func162,Tryz.ntmps162;have Cv:(w.alloc (.cells #[zS k i n,.slice P (n - (i+1)) (n - (i+1))] 40)).drew.heap[w.heap.size]?=_:=xo w (.cells #[zS k i n,.slice P (n - (i+1)) (n - (i+1))] 40);have hc:=((zv.refl [] w).alloc (.cells #[zS k i n,.slice P (n - (i+1)) (n - (i+1))] 40)).drew;have cc:=QS Cv (S0.chg hc) (S1.chg hc) zo (fun j hj=>HFL j zo) (fun j hj=>HFL (i+1+j) zo);have CC:=zh cc;have HC:=zh hc;clear cc Cv hc;go_upto_region 1 with fail;refine wp_region_held_drew (S:=fun _=>True) zab (by exact trivial) fun BS=>?_;refine mq 0 ?_;refine mq 1 ?_;refine mq 3 ?_;refine mq 4 ?_;refine mq 2 ?_;refine mq 5 ?_;refine zu ?_
 refine wE 6 (fun K hK=>?_)
 (go_simp;generalize (w.alloc (.cells #[zS k i n,.slice P (n - (i+1)) (n - (i+1))] 40)).drew=W at *)
 refine hK.out _ _ trivial fun BS=>?_;clear hK K;refine zu ?_;refine wE 7 (fun K hK=>?_)
 (go_simp;refine CC.mono ?_;rintro e w2 ⟨v,rfl,ho,BW⟩;have HO:=zh (zA ho BW);clear ho BW)
 refine hK.out _ _ trivial fun BS=>?_;clear hK K;refine zu ?_;refine mq 8 ?_;refine zu ?_;refine wpAnyH_done zab ?_ _;go_wp2_with fail;go_ret;refine ⟨v,rfl,?_,HC.trans HO.2⟩;have h:=HO.1;rw [show i+(n - (i+1))=n - 1 by omega] at h;have hs:=HC.size
 have h2:qw w.heap.size w2 v (n - 1) (gy i f fun j=>f (i+1+j)):=by
  rcases h with h | ⟨g,c,e,h1,h2,h3,h4⟩
  ·exact .inl h
  ·exact .inr ⟨g,c,e,h1,h2,zo,h4⟩
 refine h2.cong fun j hj=>?_;unfold qS gy;by_cases q:j<i
 ·rw [if_pos q,if_pos q]
 ·rw [if_neg q,if_neg q]
  show f (j+1)=f (i+1+(j - i))
  rw [show i+1+(j - i)=j+1 by omega]
theorem xX {o r:Nat} {x y z:Value} (h:w.cell? ⟨b,o,none⟩=some v) (hb:b≠r):(((w.setCell ⟨r,0,none⟩ x).setCell ⟨r,1,none⟩ y).setCell ⟨r,2,none⟩ z).cell? ⟨b,o,none⟩=some v :=
 ((xn w r x y z).cell (p:=⟨b,o,none⟩) (yc _ _ h) (by simpa using hb)).trans h
theorem Nd.Ok.pos_self (hd:d.Ok) (hi:i<d.n):d.pos (d.k i)=i/\d.is (d.k i)=true:=by
 have h1:=(hd.pos_iff (key:=d.k i) hi)
 have h2:d.pos (d.k i)=i:=by
  rcases Nat.lt_trichotomy (d.pos (d.k i)) i with q | q | q
  ·have:=hd.pos_iff (key:=d.k i) (i:=d.pos (d.k i)) zo
   have:=qI hd.asc q hi;omega
  ·exact q
  ·have:=h1.1 q;omega
 exact ⟨h2,hd.is_iff.2 (by rw [h2];exact ⟨hi,rfl⟩)⟩
theorem eY {kb vb:Nat} (hd:d.Ok) (rk:zQ w kb d.n d.k) (rv:zQ w vb d.n d.v) (hi:i<d.n) (hn:d.leaf=true∨2<=d.n) :
  zC 112 #[.agg #[.bool d.leaf,zS kb d.n d.n,zS vb d.n d.n],.int .u64 (d.k i:Int)] w fun e w' =>
   ∃ vk vv,e = .returned (.tuple #[.agg #[.bool d.leaf,vk,vv],.int .u64 (d.v i:Int),.int .i64 0])/\qw w.heap.size w' vk (d.n - 1) (qS d.k i)/\qw w.heap.size w' vv (d.n - 1) (qS d.v i)/\zv [] w w':=by
 obtain ⟨p1,p2⟩:=hd.pos_self hi;have n7:=hd.n;have b0:=xo w (.cells #[.bool d.leaf,zS kb d.n d.n,zS vb d.n d.n] 42);have d0:=(zv.refl [] w).alloc (.cells #[.bool d.leaf,zS kb d.n d.n,zS vb d.n d.n] 42);have s1:(w.alloc (.cells #[.bool d.leaf,zS kb d.n d.n,zS vb d.n d.n] 42)).heap.size=w.heap.size+1:=zD _ _;have b1:=xo (w.alloc (.cells #[.bool d.leaf,zS kb d.n d.n,zS vb d.n d.n] 42)) (.cells #[.bool false,.slice none 0 0,.slice none 0 0] 42);have d1:=d0.alloc (.cells #[.bool false,.slice none 0 0,.slice none 0 0] 42);have b2:=(((zv.refl [] _).alloc (.cells #[.bool false,.slice none 0 0,.slice none 0 0] 42)).block w.heap.size (zz b0) zaa).trans b0;rw [s1] at b1;have hkb:=rk.lt;have hvb:=rv.lt;have kk:d.k i<18446744073709551616:=hd.k i hi;clear b0 d0;obtain ⟨W,hW⟩:=zE ((w.alloc (.cells #[.bool d.leaf,zS kb d.n d.n,zS vb d.n d.n] 42)).alloc (.cells #[.bool false,.slice none 0 0,.slice none 0 0] 42));rw [<- hW] at b1 d1 b2;have Rx:=rk.chg d1;have Ry:=rv.chg d1;have cr:=Xa (leaf:=d.leaf) (Rx.numsIn (A:=[]) zo zaa hd.k) (Ry.numsIn (A:=[]) zo zaa hd.v);rw [hd.rightN] at cr
 have PI:∀ w1,zv [] W w1->zC 108 #[zS kb d.n d.n,.int .u64 (d.k i:Int)] w1 fun e w'=>e = .returned (.tuple #[.int .i64 (i:Int),.bool true])/\w1=w':=fun w1 hc=>by
  have:=bq (A:=[]) hd ((Rx.numsIn (A:=[]) zo zaa hd.k).chg hc) (d.k i) kk;rwa [p1,p2] at this
 have ck:∀ w1,zv [] W w1->_:=fun w1 hc=>VG (Rx.chg hc) zo hi;have cv:∀ w1,zv [] W w1->_:=fun w1 hc=>VG (Ry.chg hc) zo hi;have CR:=zh cr;have Tr:=zh PI;have CK:=zh ck;have CV:=zh cv;have HV:Hd (∀ w1,zv [] W w1->w1.cell? ⟨vb,i,none⟩=some (.int .u64 (d.v i:Int))):=zh fun w1 hc=>(Ry.chg hc).cell hi;have HB:=zh (zA b2 (zA b1 (zA d1 s1)));have DI:=zz b2;have Dj:=zz b1;have hs:=d1.size;obtain ⟨x0,x1,x2⟩:=Za b2;obtain ⟨key,Ch⟩:=zE (d.k i);rw [<- Ch] at Tr kk ⊢;obtain ⟨val,DE⟩:=zE (d.v i);rw [<- DE] at HV ⊢;obtain ⟨lf,hlf⟩:=zE d.leaf;rw [<- hlf] at HB CR x0 hW hn ⊢;obtain ⟨n,Ki⟩:=zE d.n;rw [<- Ki] at HB CR Tr CK CV x1 x2 hW hi hn n7 ⊢;have i1:IntKind.i64.wrap ((i:Int)+1)=(i:Int)+1:=yv _ zo;have i2:(i:Int)<(n:Int):=zo
 clear cr PI ck cv rk rv Rx Ry b1 b2 d1 p1 p2 Ch DE hlf Ki hd s1;go_enter Tryz.func112,Tryz.ntmps112;go_upto_region 1 with fail;rw [<- hW];clear hW;go_wp2_with fail;refine CR.mono ?_;clear CR;rintro e w1 ⟨rfl,B5⟩;have y0:=B5.ce x0 DI;have y1:=B5.ce x1 DI;have y2:=B5.ce x2 DI;have cb:=Tr w1 B5;have c3:=HV w1 B5;have HC:=zh B5;clear x0 x1 x2 B5 Tr;go_wp2_with fail;refine zm (cb) ?_;clear cb
 have Fh:lf=false->((n:Int)==1)=false:=fun h=>by
  rw [yD];rcases hn with q | q
  ·rw [h] at q;cases q
  ·omega
 have PC:=zh Fh;clear Fh hn
 have hcut:lf=true∨(lf=false/\((n:Int)==1)=false):=by
  cases lf with
  | true=>exact .inl rfl
  | false=>exact .inr ⟨rfl,PC rfl⟩
 clear PC;rcases hcut with rfl | ⟨rfl,i3⟩
 all_goals
  go_upto_region 8 with fail;refine wp_region_held_drew (S:=fun W'=>W'.cell? ⟨w.heap.size,0,none⟩=some (.bool _)/\W'.cell? ⟨w.heap.size,1,none⟩=some (zS kb n n)/\W'.cell? ⟨w.heap.size,2,none⟩=some (zS vb n n)/\W'.cell? ⟨vb,i,none⟩=some (.int .u64 (val:Int))) zab (by exact ⟨y0,y1,y2,c3⟩) fun BS=>?_;refine Zq 0 ?_;refine Zq 1 ?_;refine Zq 2 ?_;refine Zq 3 ?_;refine Zq 4 ?_;refine Zq 5 ?_;refine Zq 6 ?_;refine Zq 8 ?_;refine Zq 9 ?_;refine Zq 10 ?_;refine Zq 11 ?_;refine Zq 12 ?_;refine Zq 15 ?_;refine Zq 16 ?_;refine Zq 17 ?_;refine Zq 18 ?_;refine Zq 19 ?_;refine zu ?_
  refine wE 7 (fun K hK=>?_)
  (go_simp;refine (CK _ HC.drew).mono ?_;rintro e w2 ⟨vk,rfl,ho,BW⟩;have HO:=zh (zA ho (HC.drew.trans BW));have z0:=(BW.cell (p:=⟨w.heap.size,0,none⟩) (qe DI HC.drew.size) zaa).trans y0;have z1:=(BW.cell (p:=⟨w.heap.size,1,none⟩) (qe DI HC.drew.size) zaa).trans y1;have z2:=(BW.cell (p:=⟨w.heap.size,2,none⟩) (qe DI HC.drew.size) zaa).trans y2;clear ho BW;obtain ⟨ak,ck,rfl⟩:=HO.1.len)
  refine hK.out _ _ (⟨z0,z1,z2,HV _ HO.2⟩) fun BS=>?_;clear hK K;refine zu ?_;refine wE 13 (fun K hK=>?_)
  (go_simp;refine (CV _ HO.2).mono ?_;rintro e w3 ⟨vv,rfl,ho,Ci⟩;have RM:=zh (zA ho (zA Ci (HO.2.trans Ci)));have z0:=(Ci.cell (p:=⟨w.heap.size,0,none⟩) (qe DI HO.2.size) zaa).trans z0;have z1:=(Ci.cell (p:=⟨w.heap.size,1,none⟩) (qe DI HO.2.size) zaa).trans z1;have z2:=(Ci.cell (p:=⟨w.heap.size,2,none⟩) (qe DI HO.2.size) zaa).trans z2;clear ho Ci;obtain ⟨av,cv,rfl⟩:=RM.1.len)
  refine hK.out _ _ (⟨z0,z1,z2,HV _ RM.2.2⟩) fun BS=>?_;clear hK K;refine zu ?_;refine Zq 14 ?_;refine zu ?_;have Du:=(RM.2.2.bl Dj).trans HB.2.1;have Nh:=zz Du;have f0:=xB Du 0;have f1:=xB Du 1;have f2:=xB Du 2;obtain ⟨r0,r1,r2⟩:=Za Du;refine wE 20 (fun K hK=>?_)
  (go_simp)
  refine hK.out _ _ (⟨xX z0 zo,xX z1 zo,xX z2 zo,xX (HV _ RM.2.2) zo⟩) fun BS=>?_;clear hK K;refine zu ?_;refine Zq 21 ?_;refine Zq 22 ?_;refine zu ?_;refine wpAnyH_done zab ?_ _;go_wp2_with fail;refine bodyPost_ret (OB (a:=4) (b:=5) (c:=6) zab rfl (Ju (JP Du _ _ _))) rfl ⟨_,_,rfl,?_,?_,?_⟩
  ·exact ((HO.1.chg RM.2.1).chg (xn w3 (w.heap.size+1) _ _ _) (fun q hq => .inl (by rw [zms] at hq;have:=HC.drew.size;omega))).base (zq HC.drew.size)
  ·exact (RM.1.chg (xn w3 (w.heap.size+1) _ _ _) (fun q hq => .inl (by rw [zms] at hq;have:=HO.2.size;omega))).base (zq HO.2.size)
  ·exact (HB.2.2.1.trans RM.2.2).tn (xn w3 (w.heap.size+1) _ _ _) zo
section
variable {α:Type}
def xa (g:Nat->α->α):List Nat->α->α
 | [],x=>x
 | i::l,x=>xa g l (g i x)
theorem Oi {g:Nat->α->α} {i:Nat} : ∀ {l:List Nat} {x:α},(∀ j,j∈l->∀ x,g i (g j x)=g j (g i x))->g i (xa g l x)=xa g l (g i x)
 | [],x,_=>rfl
 | j::l,x,h=>by
  show g i (xa g l (g j x))=xa g l (g j (g i x))
  rw [Oi (fun k hk=>h k (zco _ hk)),h j yJ]
theorem OU {g g':Nat->α->α} : ∀ {l:List Nat} {x:α},(∀ j,j∈l->∀ x,g j x=g' j x)->xa g l x=xa g' l x
 | [],x,_=>rfl
 | j::l,x,h=>by
  show xa g l (g j x)=xa g' l (g' j x)
  rw [h j yJ,OU (fun k hk=>h k (zco _ hk))]
theorem JU {g:Nat->α->α} {p q:Nat->Bool} {i:Nat} (hp:p i=false) (hq:q i=true) (hpq:∀ j,j≠i->q j=p j):∀ {l:List Nat} {x:α},i∈l->l.Nodup->(∀ j,j∈l->j≠i->∀ x,g i (g j x)=g j (g i x))->g i (xa g (l.filter p) x)=xa g (l.filter q) x
 | [],x,h,_,_=>by cases h
 | j::l,x,h,hn,hc=>by
  rw [List.nodup_cons] at hn;by_cases e:j=i
  ·subst e
   rw [y7 (by simp [hp]),List.filter_cons_of_pos hq];have:l.filter q=l.filter p:=List.filter_congr fun k hk=>hpq k fun e=>hn.1 (e▸hk);rw [this];exact Oi fun k hk x=>hc k (zco _ (yG.1 hk).1) (fun e=>hn.1 (e▸(yG.1 hk).1)) x
  ·have hi:i∈l:=by
    rcases ya.1 h with q | q
    ·exact absurd q.symm e
    ·exact q
   have ih:∀ x,g i (xa g (l.filter p) x)=xa g (l.filter q) x:=fun x=>JU hp hq hpq hi hn.2 fun k hk=>hc k (zco _ hk)
   cases hj:p j with
   | true=>rw [List.filter_cons_of_pos hj,List.filter_cons_of_pos (by rw [hpq j e];exact hj)];exact ih _
   | false=>rw [y7 (by simp [hj]),y7 (by rw [hpq j e];simp [hj])];exact ih _
theorem bU {g:Nat->α->α} {p q:Nat->Bool} : ∀ {l:List Nat} {x:α},l.Nodup->(∀ j k,j∈l->k∈l->j≠k->∀ x,g j (g k x)=g k (g j x))->(∀ j,q j=true->p j=true)->xa g (l.filter p) x=xa g (l.filter fun j=>p j && !q j) (xa g (l.filter q) x)
 | [],x,_,_,_=>rfl
 | j::l,x,hn,hc,hqp=>by
  rw [List.nodup_cons] at hn;have ih:∀ x,xa g (l.filter p) x=xa g (l.filter fun j=>p j && !q j) (xa g (l.filter q) x):=fun x=>bU hn.2 (fun a b ha hb=>hc a b (zco _ ha) (zco _ hb)) hqp
  cases hp:p j with
  | false =>
   have hq:q j=false:=by
    cases h:q j with
    | false=>rfl
    | true=>rw [hqp j h] at hp;cases hp
   rw [y7 (by simp [hp]),y7 (by simp [hp]),y7 (by simp [hq])];exact ih x
  | true =>
   cases hq:q j with
   | true =>
    rw [List.filter_cons_of_pos hp,y7 (by simp [hq]),List.filter_cons_of_pos hq];exact ih _
   | false =>
    rw [List.filter_cons_of_pos hp,List.filter_cons_of_pos (by simp [hp,hq]),y7 (by simp [hq])]
    show xa g (l.filter p) (g j x)=xa g (l.filter fun j=>p j && !q j) (g j (xa g (l.filter q) x))
    rw [ih,Oi fun k hk x=>hc j k yJ (zco _ (yG.1 hk).1) (fun e=>hn.1 (e▸(yG.1 hk).1)) x]
def eZ:List Nat->List (List Nat)
 | []=>[[]]
 | x::l=>eZ l++(eZ l).map (x :: ·)
theorem OV (p:Nat->Bool):∀ l:List Nat,l.filter p∈eZ l
 | []=>by simp [eZ]
 | x::l=>by
  have ih:=OV p l;unfold eZ
  cases h:p x with
  | true=>rw [List.filter_cons_of_pos h];exact zar _ (yw.2 ⟨_,ih,rfl⟩)
  | false=>rw [y7 (by simp [h])];exact zal _ ih
end
section
variable {P:Program} {ops:Array Oper} {Q:Exit->Act->World->Prop} {md:Region.Mode} {S:World->Prop}
theorem pj {oj:Oper} {d:Option Tmp} (hj:ops[j]?=some oj) (h1:∀ e,d=some e->e∉oj.looksAt ops) (h2:∀ e,d=some e->oj.dst≠some e) (hsj:∀ cs b,oj.op ≠ .select cs b)
  (hQ:∀ c a w d v,Q (.panic c) a w->Q (.panic c) (a.put d v) w) {K:Act->World->Prop} {a:Act} (h:wpOp P ops Q j (fun a' w'=>K (a'.put d v) w') a w):wpOp P ops Q j K (a.put d v) w:=by
 unfold wpOp at *;simp only [hj] at *;rw [wanted_put oj a d v h1]
 split
 ·rename_i hw
  simp only [hw,if_true] at h;rcases h with h | ⟨Wj,hlets⟩
  case inr=>exact .inr ⟨by unfold Oper.asks at *;rw [execOp_put oj hsj a d v h1];exact Wj,hlets⟩
  refine .inl ?_;unfold Oper.wp at *;rw [execOp_put oj hsj a d v h1];generalize (execOp a.eval oj).run P w=r at *
  cases r with
  | ok n w' =>
   cases n <;> simp only [Oper.upon] at h ⊢
   case value u=>rw [Act.put_comm a v u h2];exact h
   case skip=>rw [Act.put_comm a v undef h2];exact h
   case defer dd =>
    rw [Act.put_defers,Act.put_comm _ v undef h2];exact h
   case enter f args =>
    refine Calls.mono h fun e KI he=>?_
    cases e with
    | returned u=>show K ((a.put d v).put oj.dst u) KI;rw [Act.put_comm a v u h2];exact he
    | panicked c=>exact hQ _ _ _ _ _ he
    | outgrown=>exact he
   case row row args=>exact Rows.mono h fun u KI he=>by rw [Act.put_comm a v u h2];exact he
  | halt x w' =>
   cases x <;> simp only [Oper.upon] at h ⊢
   case panic u=>exact hQ _ _ _ _ _ h
 ·rename_i hw
  simp only [hw] at h;rw [Act.put_comm a v undef h2];exact h
def qg (ops:Array Oper) (i:Nat):Option Tmp:=(ops[i]?).bind (·.dst)
def qn (ops:Array Oper) (f:Nat->Value) (i:Nat) (a:Act):Act:=a.put (qg ops i) (f i)
def bV (i:Nat) (l:Array Bool):Array Bool:=l.setIfInBounds i true
def AB (md:Region.Mode) (ops:Array Oper) (listed:Array Bool) (H:List Nat) (deps:Nat->List Nat):Bool :=
 decide H.Nodup &&
 (H.all fun i=>(ops[i]?).isSome&&H.all fun j=>(i==j)||((qg ops j).all fun e=>qg ops i != some e&&((deps i).contains j||(((ops[i]?).map fun o => !(o.looksAt ops).contains e).getD false)))) &&
 ((eZ H).all fun D=>(D==H) || !(D.all fun i=>(deps i).all D.contains)||(let r:=Region.ready md ops (xa bV D listed);!r.isEmpty&&r.all fun i=>H.contains i && !D.contains i&&((deps i).all D.contains)))
structure wO (md:Region.Mode) (ops:Array Oper) (listed:Array Bool) (H:List Nat) (deps:Nat->List Nat):Prop where
 nd:H.Nodup
 op:∀ i,i∈H->∃ o,ops[i]?=some o
 dst:∀ i j,i∈H->j∈H->i≠j->∀ e,qg ops j=some e->qg ops i≠some e/\(j∈deps i∨∀ o,ops[i]?=some o->e∉o.looksAt ops)
 rdy:∀ p:Nat->Bool,H.filter p≠H->(∀ i,i∈H->p i=true->∀ j,j∈deps i->j∈H/\p j=true)->Region.ready md ops (xa bV (H.filter p) listed)≠[]/\∀ i,i∈Region.ready md ops (xa bV (H.filter p) listed)->i∈H/\p i=false/\∀ j,j∈deps i->j∈H/\p j=true
theorem vI {listed:Array Bool} (h:AB md ops listed H deps=true):wO md ops listed H deps:=by
 unfold AB at h;simp only [Bool.and_eq_true,decide_eq_true_eq,yQ,Bool.or_eq_true,beq_iff_eq,Option.all_eq_true_iff_get] at h;obtain ⟨⟨h1,h2⟩,h3⟩:=h;refine ⟨h1,fun i hi=>yR.1 (h2 i hi).1,fun i j hi hj DP e he=>?_,fun p hp Eo=>?_⟩
 ·rcases (h2 i hi).2 j hj with q | q
  ·exact absurd q DP
  ·have q:=q (by rw [he];rfl)
   simp only [he,Option.get_some,bne_iff_ne,ne_eq] at q;refine ⟨q.1,?_⟩;rcases q.2 with q | q
   ·exact .inl (by simpa using q)
   ·refine .inr fun o ho=>?_
    rw [ho] at q;simpa using q
 ·rcases h3 _ (OV p H) with (q | q) | q
  ·exact absurd q hp
  ·exfalso
   rw [Bool.not_eq_true',Bool.eq_false_iff] at q;refine q (yQ.2 fun i hi=>yQ.2 fun j hj=>?_);obtain ⟨i1,i2⟩:=yG.1 hi;have:j∈H.filter p:=yG.2 (Eo i i1 i2 j hj);simpa using this
  ·refine ⟨fun e=>by have:=q.1;rw [e] at this;simp at this,fun i hi=>?_⟩
   obtain ⟨⟨q1,q2⟩,q3⟩:=q.2 i hi;have q1:i∈H:=by simpa using q1
   refine ⟨q1,?_,fun j hj=>?_⟩
   ·cases hpi:p i with
    | false=>rfl
    | true =>
     have:i∈H.filter p:=yG.2 ⟨q1,hpi⟩;simp [this] at q2
   ·have:=q3 j hj
    have hm:j∈H.filter p:=by simpa using this
    exact yG.1 hm
def qo (P:Program) (ops:Array Oper) (Q:Exit->Act->World->Prop) (deps:Nat->List Nat) (C:World->Prop) (R:World->World->Prop) (Post:Nat->Value->World->Prop) (a:Act) (H:List Nat):Prop :=
 ∀ i,i∈H->∀ f w,C w->(∀ j,j∈deps i->Post j (f j) w)->wpOp P ops Q i (fun a' w'=>∃ v,a'=(xa (qn ops f) (deps i) a).put (qg ops i) v/\C w'/\R w w'/\Post i v w') (xa (qn ops f) (deps i) a) w
section
variable {H:List Nat} {deps:Nat->List Nat} {C:World->Prop} {R:World->World->Prop} {Post:Nat->Value->World->Prop} {listed:Array Bool} {a:Act}
theorem qo.nil:qo P ops Q deps C R Post a []:=fun _ h=>by cases h
theorem qo.cons {o:Oper} (ho:ops[i]?=some o)
  (h:∀ f w,C w->(∀ j,j∈deps i->Post j (f j) w)->∀ K':Act->World->Prop,Shut (∀ a' w',(∃ v,a'=(xa (qn ops f) (deps i) a).put o.dst v/\C w'/\R w w'/\Post i v w')->K' a' w')->if Region.wanted o (yielded ops (xa (qn ops f) (deps i) a).tmps)=true then Oper.wp P o (xa (qn ops f) (deps i) a) w K' Q else K' ((xa (qn ops f) (deps i) a).put o.dst undef) w)
  (hs:qo P ops Q deps C R Post a H):qo P ops Q deps C R Post a (i::H):=fun j hj=>by
 rcases ya.1 hj with rfl | hj
 ·exact fun f w hC hd=>wpOp_step ho fun K' hK=>h f w hC hd K' fun a' w' ⟨v,h0,h1⟩=>hK _ _ ⟨v,by rw [h0];unfold qg;rw [ho];rfl,h1⟩
 ·exact hs j hj
theorem fb (f:Nat->Value) (ok:wO md ops listed H deps) (hi:i∈H) (hj:j∈H) (DP:i≠j) (x:Act):qn ops f i (qn ops f j x)=qn ops f j (qn ops f i x):=by
 unfold qn;exact Act.put_comm x (f j) (f i) fun e he=>(ok.dst i j hi hj DP e he).1
theorem fe {i:Nat} {oi:Oper} (SP:ops[i]?=some oi) (hsj:∀ cs b,oi.op ≠ .select cs b) (hQ:∀ c a w d v,Q (.panic c) a w->Q (.panic c) (a.put d v) w) (f:Nat->Value) {w:World} :
  ∀ {L:List Nat} {K:Act->World->Prop} {a:Act},(∀ j,j∈L->∀ e,qg ops j=some e->qg ops i≠some e/\e∉oi.looksAt ops)->wpOp P ops Q i (fun a' w'=>K (xa (qn ops f) L a') w') a w->wpOp P ops Q i K (xa (qn ops f) L a) w
 | [],K,a,_,h=>h
 | j::L,K,a,hL,h=>by
  show wpOp P ops Q i K (xa (qn ops f) L (qn ops f j a)) w
  refine fe SP hsj hQ f (fun k hk=>hL k (zco _ hk)) ?_;have h1:=hL j yJ;refine pj SP (fun e he=>(h1 e he).2) (fun e he=>?_) hsj hQ h;have:=(h1 e he).1;unfold qg at this;rw [SP] at this;exact this
theorem bW {C:World->Prop} {R:World->World->Prop} {Post:Nat->Value->World->Prop} {fuel:Nat} (hs:Region.noSelect ops=true) (hb:AB md ops listed H deps=true) (hdp:(H.all fun i=>H.filter (deps i).contains==deps i)=true)
  (hQ:∀ c a w d v,Q (.panic c) a w->Q (.panic c) (a.put d v) w) (hR:∀ j v w w',R w w'->Post j v w->Post j v w') (hCS:∀ w,C w->S w) (hC:C w) (steps:qo P ops Q deps C R Post a H)
  (last:∀ f w,C w->S w->(∀ i,i∈H->Post i (f i) w)->wpAnyH P md ops Q S fuel (xa bV H listed) (xa (qn ops f) H a) w):wpAnyH P md ops Q S (fuel+H.length) listed a w:=by
 have ok:=vI hb
 have main:∀ (n:Nat) (p:Nat->Bool) (f:Nat->Value) (w:World),(H.filter fun i => !p i).length=n->C w->(∀ i,i∈H->p i=true->Post i (f i) w)->(∀ i,i∈H->p i=true->∀ j,j∈deps i->j∈H/\p j=true)->wpAnyH P md ops Q S (fuel+n) (xa bV (H.filter p) listed) (xa (qn ops f) (H.filter p) a) w:=by
  intro n
  induction n with
  | zero =>
   intro p f w hn hC hp Eo
   have e:H.filter p=H:=by
    rw [List.filter_eq_self];intro i hi
    cases hpi:p i with
    | true=>rfl
    | false =>
     have:i∈H.filter fun i => !p i:=yG.2 ⟨hi,by simp [hpi]⟩;rw [List.eq_nil_of_length_eq_zero hn] at this;cases this
   rw [e]
   exact last f w hC (hCS w hC) fun i hi=>hp i hi (by
    have:i∈H.filter p:=by rw [e];exact hi
    exact (yG.1 this).2)
  | succ n ih =>
   intro p f w hn hC hp Eo
   have BU:H.filter p≠H:=fun e=>by
    rw [List.filter_eq_self] at e;have:H.filter (fun i => !p i)=[]:=List.filter_eq_nil_iff.2 fun i hi=>by simp [e i hi]
    rw [this] at hn;cases hn
   obtain ⟨r1,r2⟩:=ok.rdy p BU Eo;refine ⟨fun e=>absurd e r1,fun i hi=>?_⟩;obtain ⟨iH,ip,idp⟩:=r2 i hi;obtain ⟨oi,SP⟩:=ok.op i iH
   have hd:H.filter (deps i).contains=deps i:=by
    have:=yQ.1 hdp i iH;simpa using this
   have Ph:=Region.noSelect_spec hs i oi;have MD:=bU (g:=qn ops f) (p:=p) (q:=(deps i).contains) (l:=H) (x:=a) ok.nd (fun j k hj hk K9 x=>fb f ok hj hk K9 x) (fun j hj=>(idp j (by simpa using hj)).2);rw [hd] at MD;rw [MD];refine fe SP (fun cs b=>Ph cs b SP) hQ f (fun j hj e he=>?_) (wpOp_mono ?_ (steps i iH f w hC fun j hj=>hp j (idp j hj).1 (idp j hj).2))
   ·obtain ⟨jH,jp⟩:=yG.1 hj
    simp only [Bool.and_eq_true,Bool.not_eq_true'] at jp;have DP:i≠j:=fun q=>by rw [<- q,ip] at jp;cases jp.1
    obtain ⟨d1,d2⟩:=ok.dst i j iH jH DP e he;refine ⟨d1,?_⟩;rcases d2 with d2 | d2
    ·have:(deps i).contains j=true:=by simpa using d2
     rw [this] at jp;cases jp.2
    ·exact d2 oi SP
   ·rintro a' w' ⟨v,rfl,hC',hR',hv⟩
    refine ⟨hCS _ hC',?_⟩
    have hx:=ih (fun j=>p j||decide (j=i)) (fun j=>if j=i then v else f j) w' (by
     have EK:i∈H.filter fun j => !p j:=yG.2 ⟨iH,by simp [ip]⟩;have h1:=List.length_erase_of_mem EK;rw [hn,zg,List.Nodup.erase_eq_filter (ok.nd.sublist List.filter_sublist),List.filter_filter] at h1;rw [<- h1];congr 1;refine List.filter_congr fun j _=>?_;by_cases q:j=i
     ·simp [q]
     ·simp [q]) hC' (fun j hj hpj=>by
     by_cases q:j=i
     ·rw [if_pos q,q];exact hv
     ·rw [if_neg q]
      exact hR j _ w w' hR' (hp j hj (by simpa [q] using hpj))) (fun j hj hpj k hk=>by
     by_cases q:j=i
     ·subst q
      have:=idp k hk;exact ⟨this.1,by simp [this.2]⟩
     ·have:=Eo j hj (by simpa [q] using hpj) k hk
      exact ⟨this.1,by simp [this.2]⟩)
    have e1:bV i (xa bV (H.filter p) listed)=xa bV (H.filter fun j=>p j||decide (j=i)) listed:=JU ip zaa (fun j hj=>by simp [hj]) iH ok.nd fun j _ hj x=>by
     unfold bV;exact Array.setIfInBounds_comm _ _ hj
    have e2:xa (qn ops fun j=>if j=i then v else f j) (H.filter fun j=>p j||decide (j=i)) a=xa (qn ops f) (H.filter fun j=>p j && !(deps i).contains j) ((xa (qn ops f) (deps i) a).put (qg ops i) v):=by
     rw [<- JU (g:=qn ops fun j=>if j=i then v else f j) (p:=p) (q:=fun j=>p j||decide (j=i)) (i:=i) ip zaa (fun j hj=>by simp [hj]) iH ok.nd fun j hj DJ x=>fb _ ok iH hj (fun e=>DJ e.symm) x]
     have c1:xa (qn ops fun j=>if j=i then v else f j) (H.filter p) a=xa (qn ops f) (H.filter p) a:=OU fun j hj x=>by
      have DJ:j≠i:=fun e=>by rw [e] at hj;have:=(yG.1 hj).2;rw [ip] at this;cases this
      show x.put (qg ops j) (if j=i then v else f j)=x.put (qg ops j) (f j)
      rw [if_neg DJ]
     rw [c1,MD];have c2:∀ x:Act,qn ops (fun j=>if j=i then v else f j) i x=x.put (qg ops i) v:=fun x=>by show x.put (qg ops i) (if i=i then v else f i)=_;rw [if_pos rfl]
     rw [c2]
     have hL:∀ (L:List Nat) (x:Act),(∀ j,j∈L->j∈H/\j≠i)->(xa (qn ops f) L x).put (qg ops i) v=xa (qn ops f) L (x.put (qg ops i) v):=fun L=>by
      induction L with
      | nil=>intro x _;rfl
      | cons j L ihL =>
       intro x hx
       show (xa (qn ops f) L (qn ops f j x)).put _ v=xa (qn ops f) L (qn ops f j (x.put _ v))
       rw [ihL _ fun k hk=>hx k (zco _ hk)];congr 1;obtain ⟨jH,jne⟩:=hx j yJ;unfold qn;exact Act.put_comm x (f j) v fun e he=>(ok.dst i j iH jH (fun q=>jne q.symm) e he).1
     exact hL _ _ fun j hj=>by
      obtain ⟨jH,jp⟩:=yG.1 hj;simp only [Bool.and_eq_true] at jp;exact ⟨jH,fun e=>by rw [e,ip] at jp;cases jp.1⟩
    rw [<- e1,e2] at hx;exact hx
 have:=main H.length (fun _=>false) (fun _=>undef) w (by rw [List.filter_eq_self.2 zaa]) hC (fun i _ h=>by cases h) (fun i _ h=>by cases h);rw [List.filter_eq_nil_iff.2 zaa] at this;exact this
end
end
end Go.Proofs.YtegpiomkmfhadaaGreat
