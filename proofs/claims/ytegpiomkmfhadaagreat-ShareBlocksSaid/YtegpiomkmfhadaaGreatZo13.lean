/- Package base: Read, Put, Over, Up, Down -/
import Derived.Test.YtegpiomkmfhadaaGreatZo12
set_option linter.all false
set_option maxRecDepth 100000
set_option maxHeartbeats 20000000
namespace Go.Proofs.YtegpiomkmfhadaaGreat
open Go.RowKit
variable {w:World} {M:Bm} {R:Br} {B:Bs} {f:zF} {F A:List Nat} {x g k o c b off n bb N nb no i j cap:Nat} {v:Value}
theorem si (h:x6 w M R B) {a:Nat} (ha:a<B.T.n) :
  zC 42 #[zP M.b,.int .i64 (a:Int)] w fun e w'=>∃ g c,e = .returned (.tuple #[zS g 128 c,.int .i64 0])/\128<=c/\c<=maxLen/\w.heap.size<=g/\(∃ BV,w'.heap[g]?=some (.cells BV 5 (0,0)))/\zB w' g 0 128 (B.read a)/\zv [] w w':=by
 have n1:=h.c.ok.n;have cn:=Z6 h.c;have cb:=qH h.c;have cf:=VY h.c (a:Int) (WalkArith.wf_i64 zo)
 have TJ:B.freshB (a:Int)=(B.fr a).isSome:=by
  unfold Bs.freshB;rw [yq (show (0:Int)<=(a:Int) by omega),yq (show (a:Int)<(B.T.n:Int) by omega)];rfl
 rw [TJ] at cf;have:¬ (a:Int)<0:=zo;have:¬ (B.T.n:Int)<=(a:Int):=zo
 cases hf:B.fr a with
 | some f =>
  rw [hf] at cf;obtain ⟨f1,f2,f3,_⟩:=h.c.fd a f ha hf;have lk:=(h.c.fm.look (t:=51) Tryz.underlying3 Tryz.underlying51 (fY w) JO ha n1.2).2;rw [show (oC R B a).getD (.slice none 0 0) = zS (R.fg a) 128 (R.fc a) from by unfold oC;rw [hf];rfl] at lk;have c5:=h.c.c5;have cc:=VZ (n:=128) (c:=R.fc a) f3 zo zo;have er:B.read a=f:=by unfold Bs.read;rw [hf];rfl
  rw [er];have CC:=zh cc;clear h TJ er f1 f2 f3 cc hf;go_enter Tryz.func42,Tryz.ntmps42;go_wp2_with fail;refine zm (cn) ?_;go_wp2_with fail;refine zm (cb) ?_;go_wp2_with fail;refine zm (cf) ?_;go_wp2_with fail;refine CC.mono ?_;rintro e w' ⟨g,c,rfl,q1,q2,q3,q4,q5,q6⟩;have HQ:=zh (zA q1 (zA q2 (zA q3 (zA q4 (zA q5 q6)))));clear q1 q2 q3 q4 q5 q6 CC;go_wp2_with fail
  go_ret2
  exact ⟨g,c,rfl,HQ⟩
 | none =>
  rw [hf] at cf;have c0:=h.c.c0;have cr:=J2 (at':=a) h.d.rd ha;have er:B.read a=B.D a:=by unfold Bs.read;rw [hf];rfl
  rw [er];have HD:=zh h.c.ok.dle;have CR:=zh cr;clear h TJ er cr hf;go_enter Tryz.func42,Tryz.ntmps42;go_wp2_with fail;refine zm (cn) ?_;go_wp2_with fail;refine zm (cb) ?_;go_wp2_with fail;refine zm (cf) ?_;go_wp2_with fail;refine CR.mono ?_;rintro e w' ⟨rfl,hb,hc⟩;have HQ:=zh (zA hb hc);clear hb hc CR;go_wp2_with fail
  go_ret2
  refine ⟨w.heap.size,128,rfl,xd _,by unfold maxLen;omega,xd _,⟨_,HQ.1⟩,fun i hi=>⟨?_,HD a ha i hi⟩,HQ.2⟩;rw [yn,zM HQ.1,xL hi];rfl
def Bs.at_ (B:Bs):Nat:=(Ye B.T B.K).getD 0
def Bs.put (B:Bs) (f:zF):Bs := { B with T:=B.T.set B.at_ 1,K:=Z2 B.T B.K,fr:=fun x=>if x=B.at_ then some f else B.fr x }
theorem Bs.Ok.put_spec (h:B.Ok) (hr:0<B.room):Ye B.T B.K=some B.at_/\2<=B.at_/\B.at_<B.T.n/\B.T.free B.at_=true:=by
 have hf:B.K.first<=B.K.next:=by rw [h.first];exact h.nx.1
 cases ht:Ye B.T B.K with
 | none =>
  have:=dQ hf h.nx.2 ht;rw [h.first] at this;unfold Bs.room at hr;omega
 | some b =>
  have e:B.at_=b:=by unfold Bs.at_;rw [ht];rfl
  have:=Qa hf h.nx.2 ht;rw [h.first] at this;rw [e];exact ⟨rfl,this⟩
theorem Bs.Ok.put_ok (h:B.Ok) (hr:0<B.room) (hf:∀ i,i<128->f i<=255):(B.put f).Ok:=by
 obtain ⟨ht,b1,b2,b3⟩:=h.put_spec hr;have Sz:B.K.first<=B.K.next:=by rw [h.first];exact h.nx.1
 have hk:=QF (T:=B.T) (K:=B.K) Sz h.nx.2;have Iq:=b3;simp only [zW.free,Bool.and_eq_true,beq_iff_eq] at Iq;have own:=h.own.take (b:=B.at_) b3;refine { n:=h.n,own:=own,a2:=h.a2,low:=?_,le:=?_,first:=hk.2.2.2.trans h.first,nx:=⟨?_,hk.2.1⟩,fr:=?_,fle:=?_,s:=h.s,kp:=h.kp,sg:=h.sg,disk:=h.disk,dle:=h.dle }
 ·intro b hb
  refine ⟨?_,(h.low b hb).2⟩
  show (if b=B.at_ then 1 else B.T.now b)=0
  rw [if_neg zo];exact (h.low b hb).1
 ·intro b hb
  refine ⟨?_,(h.le b hb).2⟩
  show (if b=B.at_ then 1 else B.T.now b)<=65535
  split
  ·omega
  ·exact (h.le b hb).1
 ·have:=hk.1
  rw [hk.2.2.2,h.first] at this;exact this
 ·intro b hb
  show ((if b=B.at_ then some f else B.fr b).isSome=true↔B.T.kept b=0/\(if b=B.at_ then 1 else B.T.now b)≠0)
  by_cases e:b=B.at_
  ·rw [if_pos e,if_pos e,e]
   simp [Iq.2]
  ·rw [if_neg e,if_neg e];exact h.fr b hb
 ·intro b g hb hg
  have Gp:(if b=B.at_ then some f else B.fr b)=some g:=hg;by_cases e:b=B.at_
  ·rw [if_pos e] at Gp;injection Gp with Gp;rw [<- Gp];exact hf
  ·rw [if_neg e] at Gp;exact h.fle b g hb Gp
theorem x6.anew {w2:World} {B':Bs} {cg:Nat} (h:x6 w M R B) (Gi:∀ q,fX M R B q->q∉F) (c:zv M.L w w2)
  (hn:B'.T.n=B.T.n) (ha:B'.a=B.a) (hS:B'.S=B.S) (hK:B'.Kp=B.Kp) (hD:B'.D=B.D) (Fa:B'.fr=fun y=>if y=x then some f else B.fr y) (pt:PT w2 M.p M.t M.bc M.bk B'.K B'.T)
  (top:w2.heap[M.b]?=some (.cells (zK 44 (Xr M R B)) 58 (0,0))) (fm:xJ Tryz.prog 3 dW w2 M.mf B.T.n (fun i=>if i=x then some (zS g 128 cg) else oC R B i))
  (hg:w.heap.size<=g) (hd:128<=cg/\cg<=maxLen/\zB w2 g 0 128 f/\∃ BV z,w2.heap[g]?=some (.cells BV 5 z)) (d:xE w2 M.d M.bb (.slice none 0 0) ⟨B.T.n,B.D,[]⟩) (ok:B'.Ok) (hF:∀ q,q∈F->q<w.heap.size):zx w2 M F B':=by
 have TW:∀ y,y≠x->B'.fr y=B.fr y:=fun y hy=>by rw [Fa];exact if_neg hy
 have SB:B'.fr x=some f:=by rw [Fa];exact if_pos rfl
 let R':Br := { R with fg:=fun y=>if y=x then g else R.fg y,fc:=fun y=>if y=x then cg else R.fc y }
 have Cm:x6 w2 M R' B':=by
  refine h.remake c hn ha rfl rfl ?_ pt ?_ ?_ ?_ ok
  ·rw [Z8 hn hS hK rfl rfl];exact top
  ·rw [hn]
   refine fm.congr fun i hi=>?_;unfold oC;by_cases e:i=x
   ·subst e
    rw [if_pos rfl,SB]
    show _=some (Value.slice (some ⟨if i=i then g else _,0,none⟩) 128 (if i=i then cg else _))
    rw [if_pos rfl,if_pos rfl]
   ·rw [if_neg e,TW i e]
    cases B.fr i with
    | none=>rfl
    | some f' =>
     show _=some (Value.slice (some ⟨if i=x then g else R.fg i,0,none⟩) 128 (if i=x then cg else R.fc i))
     rw [if_neg e,if_neg e];rfl
  ·intro k f' hk Gm
   rw [hn] at hk;by_cases e:k=x
   ·subst e
    rw [SB] at Gm;injection Gm with Gm;subst Gm
    show 128<=(if k=k then cg else _)/\(if k=k then cg else _)<=maxLen/\zB w2 (if k=k then g else _) 0 128 _/\∃ BV z,w2.heap[if k=k then g else _]?=_
    rw [if_pos rfl,if_pos rfl];exact hd
   ·rw [TW k e] at Gm
    have:=h.fd_keep c hk Gm
    show 128<=(if k=x then cg else R.fc k)/\(if k=x then cg else R.fc k)<=maxLen/\zB w2 (if k=x then g else R.fg k) 0 128 _/\∃ BV z,w2.heap[if k=x then g else R.fg k]?=_
    rw [if_neg e,if_neg e];exact this
  ·rw [hn,hD];exact d
 refine zx.of h Gi Cm hn rfl hF fun k hk hs=>?_;by_cases e:k=x
 ·exact .inr (by show _<=(if k=x then g else R.fg k);rw [if_pos e];exact hg)
 ·exact .inl ⟨by rw [<- TW k e];exact hs,if_neg e⟩
theorem f6 (h:zx w M F B) (hF:∀ q,q∈F->q<w.heap.size) (hd:zB w k o 128 f) (hk:k∉M.L) (hr:0<B.room) :
  zC 25 #[zP M.b,.slice (some ⟨k,o,none⟩) 128 c] w fun e w'=>e = .returned (.tuple #[.int .i64 (B.at_:Int),.int .i64 0])/\zx w' M F (B.put f)/\zv M.L w w':=by
 obtain ⟨R,hB,Gi⟩:=h;have n1:=hB.c.ok.n;have cm:=ah hB.c;have cr:=iS hB.c;have c2:=hB.c.c2;obtain ⟨ht,b1,b2,b3⟩:=hB.c.ok.put_spec hr;have UG:=b2;have cp:=hB.c.pt.take;have e1:Va B.T B.K=(B.at_:Int):=by unfold Va;rw [ht]
 have e2:Jp B.T B.K=0:=by unfold Jp;rw [ht]
 have e3:Qo B.T B.K=B.T.set B.at_ 1:=by unfold Qo;rw [ht]
 rw [e1,e2,e3] at cp;have Dm:=hB.c.ok.put_ok hr (fun i hi=>(hd i hi).2);have i0:¬ (B.room=0):=zo
 have HB:=zh (zA hB Gi);have HH:=zh (zA hd (zA Dm (zA b2 hF)));have CP:=zh cp;obtain ⟨x,hx⟩:=zE B.at_;rw [<- hx] at CP ⊢;have HX:=zh hx;have Pu:x<B.T.n:=by rw [hx];exact UG
 clear hB Gi hd Dm hF e1 e2 e3 ht b1 b2 b3 UG cp hx;go_enter Tryz.func25,Tryz.ntmps25;go_wp2_with fail;refine zm (cm) ?_;go_wp2_with fail;refine zm (cr) ?_;go_wp2_with fail;refine CP.mono ?_;clear CP;rintro e w1 ⟨rfl,Hh,hc⟩;have nd:=HB.1.nodup;simp only [Bm.L,List.nodup_cons,ya,yk,or_false,not_or,List.nodup_nil,and_true] at nd;have HN:=zh nd;have TR:=hc.mono (L':=M.L) zan;have al:=(hc.block M.b (zz HB.1.c.top) (by have:=HN.o;simp only [ya,yk,or_false,not_or];exact ⟨this.1.2.2.1,this.1.2.2.2.1,this.1.2.2.2.2.1,this.1.2.2.2.2.2.1⟩)).trans HB.1.c.top;have c5:w1.cell? ⟨M.b,5,none⟩=some (.map (some M.mf)):=(Q3 al zo).trans rfl;have EE:=HB.1.c.fm.chg hc (by have:=HN.o;simp only [ya,yk,or_false,not_or];exact ⟨fun e=>this.2.2.2.1.2.2.2 e.symm,fun e=>this.2.2.2.2.1.2.2 e.symm,fun e=>this.2.2.2.2.2.1.2 e.symm,HB.1.c.ne⟩);have D6:=HH.1.chg TR hk;have cc:=VZ (c:=c) (D6.chg (zv.refl [] w1).drew zaa) zo zo;have CC:=zh cc;have l1:=zz al;have HKD:=zh hc;have HP:=zh (zA Hh (zA TR (zA al EE)));clear cc nd Hh hc TR al EE D6;go_wp2_with fail;go_upto_region 9 with fail;refine wp_region_held_drew (S:=fun W'=>W'.cell? ⟨M.b,5,none⟩=some (.map (some M.mf))) zab (by exact c5) fun BS=>?_;refine Xy 0 ?_;refine Xy 1 ?_;refine Xy 2 ?_;refine Xy 3 ?_
 refine Xy 4 ?_;refine Xy 5 ?_;refine zu ?_;refine wE 6 (fun K hK=>?_)
 (go_simp;refine CC.mono ?_;rintro e wR ⟨g,cg,rfl,q1,q2,q3,q4,q5,q6⟩;have HQ:=zh (zA q1 (zA q2 (zA q3 (zA q4 (zA q5 ((zv.refl [] w1).drew.trans q6))))));clear q1 q2 q3 q4 q5 q6)
 refine hK.out _ _ (HQ.2.2.2.2.2.ce c5 l1) fun BS=>?_;clear hK K;refine zu ?_;have Wy:=HQ.2.2.2.2.2;have hmR:=HP.2.2.2.chg Wy;obtain ⟨w2,B8,Fy,Cg⟩:=hmR.put (t:=51) (k:=x) (v := zS g 128 cg) Tryz.underlying3 Tryz.underlying51 Pu n1.2 rfl;have BW:=xD Cg;have HZ:=zh (zA Fy BW);clear Wy hmR Fy Cg BW;refine wE 7 (fun K hK=>?_)
 (go_simp)
 refine hK.out _ _ ((HZ.2.cell (p:=⟨M.b,5,none⟩) (qe l1 HQ.2.2.2.2.2.size) (by have:=HN.o;simp only [zms];exact this.1.2.2.2.2.2.2)).trans (HQ.2.2.2.2.2.ce c5 l1)) fun BS=>?_;clear hK K;refine zu ?_;refine wpAnyH_done zab ?_ _;go_wp2_with fail
 go_ret2
 refine ⟨rfl,?_⟩;have TR:=HP.2.1;have GB:zv M.L w w2:=(TR.trans (HQ.2.2.2.2.2.mo)).trans (HZ.2.mono zan);refine ⟨?_,GB⟩;have PH:zv [M.mf] w1 w2:=(HQ.2.2.2.2.2.mo).trans HZ.2;have BU:∀ q,q≠M.mf->q∉[M.mf]:=fun q hq=>by simpa using hq
 have nd:=HN.o;obtain ⟨BV,q5⟩:=HQ.2.2.2.1
 have UV:g∉[M.mf]:=by
  refine BU _ fun e=>?_;have h1:=HP.2.2.2.lt;have h2:=HQ.2.2.1;have h3:w1.drew.heap.size=w1.heap.size:=rfl;omega
 refine HB.1.anew HB.2 (x:=x) (g:=g) (cg:=cg) (f:=f) GB rfl rfl rfl rfl rfl (by rw [HX.o];rfl) ?_ ((PH.block M.b l1 (BU _ nd.1.2.2.2.2.2.2)).trans HP.2.2.1) HZ.1 (qh TR.size HQ.2.2.1) ⟨HQ.1,HQ.2.1,HQ.2.2.2.2.1.chg HZ.2 UV,_,_,(HZ.2.block g (zz q5) UV).trans q5⟩ ((HB.1.d.chg HKD zav zav (fun k hk=>by cases hk)).chg PH zav zav (fun k hk=>by cases hk)) HH.2.1 HH.2.2.2;have:=HP.1.chg PH (BU _ nd.2.2.2.1.2.2.2) (BU _ nd.2.2.2.2.1.2.2) (BU _ nd.2.2.2.2.2.1.2) (BU _ nd.2.2.2.2.2.2.1);rw [HX.o] at this;exact this
def Bs.over (B:Bs) (x:Nat) (f:zF):Bs := { B with fr:=fun y=>if y=x then some f else B.fr y }
theorem Bs.Ok.over_ok (h:B.Ok) (hx:(B.fr x).isSome=true) (hf:∀ i,i<128->f i<=255):(B.over x f).Ok:=by
 refine { h with fr:=?_,fle:=?_ }
 ·intro b hb
  show ((if b=x then some f else B.fr b).isSome=true↔_)
  by_cases e:b=x
  ·subst e;rw [if_pos rfl];exact ⟨fun _=>(h.fr b hb).1 hx,fun _=>rfl⟩
  ·rw [if_neg e];exact h.fr b hb
 ·intro b g hb hg
  have Gp:(if b=x then some f else B.fr b)=some g:=hg;by_cases e:b=x
  ·rw [if_pos e] at Gp;injection Gp with Gp;rw [<- Gp];exact hf
  ·rw [if_neg e] at Gp;exact h.fle b g hb Gp
theorem sk (h:zx w M F B) (hF:∀ q,q∈F->q<w.heap.size) (hd:zB w k o 128 f) (Pu:x<B.T.n) (hx:(B.fr x).isSome=true) :
  zC 209 #[zP M.b,.int .i64 (x:Int),.slice (some ⟨k,o,none⟩) 128 c] w fun e w'=>e = .returned (.int .i64 0)/\zx w' M F (B.over x f)/\zv M.L w w':=by
 obtain ⟨R,hB,Gi⟩:=h;have n1:=hB.c.ok.n;have cm:=ah hB.c;have cb:=qH hB.c;have cf:=VY hB.c (x:Int) (WalkArith.wf_i64 zo)
 have TJ:B.freshB (x:Int)=true:=by
  unfold Bs.freshB;rw [yq (show (0:Int)<=(x:Int) by omega),yq (show (x:Int)<(B.T.n:Int) by omega)];exact hx
 rw [TJ] at cf;have Dm:=hB.c.ok.over_ok hx (fun i hi=>(hd i hi).2);have:¬ (x:Int)<0:=zo
 have:¬ (B.T.n:Int)<=(x:Int):=zo;have c5:=hB.c.c5;have l1:=zz hB.c.top;have nd:=hB.nodup;simp only [Bm.L,List.nodup_cons,ya,yk,or_false,not_or,List.nodup_nil,and_true] at nd;have cc:=VZ (c:=c) (hd.chg (zv.refl [] w).drew zaa) zo zo;have CC:=zh cc;have HB:=zh (zA hB Gi);have HH:=zh (zA Dm (zA hF nd));clear hB Gi Dm hF TJ cc nd hd hx;go_enter Tryz.func209,Tryz.ntmps209;go_wp2_with fail;refine zm (cm) ?_;go_wp2_with fail;refine zm (cb) ?_;go_wp2_with fail;refine zm (cf) ?_;go_wp2_with fail;go_upto_region 8 with fail;refine wp_region_held_drew (S:=fun W'=>W'.cell? ⟨M.b,5,none⟩=some (.map (some M.mf))) zab (by exact c5) fun BS=>?_;refine Xy 0 ?_;refine Xy 1 ?_;refine Xy 2 ?_;refine Xy 3 ?_;refine Xy 4 ?_;refine Xy 5 ?_;refine zu ?_
 refine wE 6 (fun K hK=>?_)
 (go_simp;refine CC.mono ?_;rintro e wR ⟨g,cg,rfl,q1,q2,q3,q4,q5,q6⟩;have HQ:=zh (zA q1 (zA q2 (zA q3 (zA q4 (zA q5 ((zv.refl [] w).drew.trans q6))))));clear q1 q2 q3 q4 q5 q6)
 refine hK.out _ _ (HQ.2.2.2.2.2.ce c5 l1) fun BS=>?_;clear hK K;refine zu ?_;have hmR:=HB.1.c.fm.chg HQ.2.2.2.2.2;obtain ⟨w2,B8,Fy,Cg⟩:=hmR.put (t:=51) (k:=x) (v := zS g 128 cg) Tryz.underlying3 Tryz.underlying51 Pu n1.2 rfl;have BW:=xD Cg;have HZ:=zh (zA Fy BW);clear hmR Fy Cg BW;refine wE 7 (fun K hK=>?_)
 (go_simp)
 refine hK.out _ _ ((HZ.2.cell (p:=⟨M.b,5,none⟩) (qe l1 HQ.2.2.2.2.2.size) (by simp only [zms];exact HH.2.2.1.2.2.2.2.2.2)).trans (HQ.2.2.2.2.2.ce c5 l1)) fun BS=>?_;clear hK K;refine zu ?_;refine wpAnyH_done zab ?_ _;go_wp2_with fail;go_ret;refine ⟨rfl,?_⟩;have PH:zv [M.mf] w w2:=(HQ.2.2.2.2.2.mo).trans HZ.2;have GB:zv M.L w w2:=PH.mono zan;refine ⟨?_,GB⟩;have nd:=HH.2.2;have BU:∀ q,q≠M.mf->q∉[M.mf]:=fun q hq=>by simpa using hq
 obtain ⟨BV,q5⟩:=HQ.2.2.2.1
 have UV:g∉[M.mf]:=by
  refine BU _ fun e=>?_;have:=HB.1.c.fm.lt;have:=HQ.2.2.1;have:w.drew.heap.size=w.heap.size:=rfl;omega
 exact HB.1.anew HB.2 (x:=x) (g:=g) (cg:=cg) (f:=f) GB rfl rfl rfl rfl rfl rfl
  (HB.1.c.pt.chg PH (BU _ nd.2.2.2.1.2.2.2) (BU _ nd.2.2.2.2.1.2.2) (BU _ nd.2.2.2.2.2.1.2) (BU _ nd.2.2.2.2.2.2.1))
  ((PH.block M.b l1 (BU _ nd.1.2.2.2.2.2.2)).trans HB.1.c.top) HZ.1 HQ.2.2.1 ⟨HQ.1,HQ.2.1,HQ.2.2.2.2.1.chg HZ.2 UV,_,_,(HZ.2.block g (zz q5) UV).trans q5⟩
  (HB.1.d.chg PH (BU _ nd.2.1.2.2.2.2.2) (BU _ nd.2.2.1.2.2.2.2) (fun k hk=>by cases hk)) HH.1 HH.2.1
section
variable {w w':World} {M:Bm} {B:Bs} {L F:List Nat}
theorem zx.cRoom (h:zx w M F B):zC 23 #[zP M.b] w fun e w'=>e = .returned (.int .i64 B.room)/\w=w':=by obtain ⟨R,hi,_⟩:=h;exact iS hi.c
theorem zx.cBlocks (h:zx w M F B):zC 34 #[zP M.b] w fun e w'=>e = .returned (.int .i64 (B.T.n:Int))/\w=w':=by obtain ⟨R,hi,_⟩:=h;exact qH hi.c
theorem zx.cCount (h:zx w M F B) (a:Int):zC 33 #[zP M.b,.int .i64 a] w fun e w'=>e = .returned (.int .i64 (getV B.T a))/\w=w':=by obtain ⟨R,hi,_⟩:=h;exact oE hi.c a
theorem zx.cFresh (h:zx w M F B) (a:Int) (ha:(Lit.int .i64 a).wf=true):zC 75 #[zP M.b,.int .i64 a] w fun e w'=>e = .returned (.bool (B.freshB a))/\w=w':=by obtain ⟨R,hi,_⟩:=h;exact VY hi.c a ha
end
def Zi (w:World) (b off n:Nat) (f:zF):Prop:=∀ i,i<n->w.cell? ⟨b,off+i,none⟩=some (.int .u64 (f i:Int))/\f i<18446744073709551616
theorem Zi.chg {w':World} {L:List Nat} (h:Zi w b off n f) (c:zv L w w') (hb:b∉L:=by simp):Zi w' b off n f:=fun i hi=>by
 obtain ⟨h1,h2⟩:=h i hi;exact ⟨(c.cell (p:=⟨b,off+i,none⟩) (yc w _ h1) hb).trans h1,h2⟩
def zT (A:List Nat) (w:World) (v:Value) (n:Nat) (f:zF):Prop :=
 ((∃ a c,v = .slice a 0 c/\c<=maxLen/\(a=none->c=0))/\n=0)∨∃ b off cap,v = .slice (some ⟨b,off,none⟩) n cap/\n<=cap/\cap<=maxLen/\b<w.heap.size/\b∉A/\Zi w b off n f
theorem zT.chg {A L:List Nat} {w w':World} {v:Value} {n:Nat} {f:zF} (h:zT A w v n f) (c:zv L w w') (hL:∀ k,k∈L->k∈A∨w.heap.size<=k:=by simp):zT A w' v n f:=by
 rcases h with h | ⟨b,off,cap,h1,h2,h3,h4,h5,h6⟩
 ·exact .inl h
 ·exact .inr ⟨b,off,cap,h1,h2,h3,qe h4 c.size,h5,h6.chg c fun hm=>by rcases hL b hm with h | h;exact h5 h;omega⟩
theorem zT.more {B:List Nat} (h:zT A w v n f) (hB:∀ k,k∈B->k∈A∨w.heap.size<=k):zT B w v n f:=by
 rcases h with h | ⟨b,off,cap,h1,h2,h3,h4,h5,h6⟩
 ·exact .inl h
 ·exact .inr ⟨b,off,cap,h1,h2,h3,h4,fun hm=>by rcases hB b hm with h | h;exact h5 h;omega,h6⟩
theorem zT.len (h:zT A w v n f):∃ a cap,v = .slice a n cap:=by
 rcases h with ⟨⟨a,c,h,_⟩,rfl⟩ | ⟨b,off,cap,h,_⟩
 ·exact ⟨a,c,h⟩
 ·exact ⟨_,_,h⟩
def Ym (n:Nat) (keys vals:zF) (k i:Nat):Nat :=
 if i=0 then n else if i<1+16*k then (if (i - 1) % 16<8 then qt (keys ((i - 1) / 16)) (7 - (i - 1) % 16) else qt (vals ((i - 1) / 16)) (15 - (i - 1) % 16)) else 0
theorem lc (n:Nat) (keys vals:zF) (k:Nat):YC (YC (Ym n keys vals k) (1+16*k) 8 (keys k)) (1+16*k+8) 8 (vals k)=Ym n keys vals (k+1):=by
 funext i
 unfold YC;by_cases h2:1+16*k+8<=i/\i<1+16*k+8+8
 ·rw [if_pos h2]
  unfold Ym;have e1:(i - 1) / 16=k:=zo;have e2:(i - 1) % 16=i - 1 - 16*k:=zo;rw [if_neg zo,if_pos zo,e1,e2,if_neg zo];congr 1;omega
 ·rw [if_neg h2]
  by_cases h1:1+16*k<=i/\i<1+16*k+8
  ·rw [if_pos h1]
   unfold Ym;have e1:(i - 1) / 16=k:=zo;have e2:(i - 1) % 16=i - 1 - 16*k:=zo;rw [if_neg zo,if_pos zo,e1,e2,if_pos zo];congr 1;omega
  ·rw [if_neg h1]
   unfold Ym;by_cases h0:i=0
   ·rw [if_pos h0,if_pos h0]
   ·rw [if_neg h0,if_neg h0]
    by_cases h3:i<1+16*k
    ·rw [if_pos h3,if_pos (show i<1+16*(k+1) by omega)]
    ·rw [if_neg h3,if_neg (show ¬ i<1+16*(k+1) by omega)]
theorem a9 (v k:Nat):qt v k<=255:=by unfold qt;omega
theorem Zy (keys vals:zF) (k i:Nat) (hn:n<=255):Ym n keys vals k i<=255:=by
 unfold Ym
 split
 ·exact hn
 ·split
  ·split <;> exact a9 _ _
  ·omega
theorem mO {v:Nat} (EB:w.cell? ⟨bb,0,none⟩=some (zS g N N)) (hb:w.heap[g]?=some (.cells (Y7 N f) 5 (0,0))) (at':Nat) (DT:at'+8<=N) (hN:N<=100000)
  (hv:w.cell? ⟨nb,no,none⟩=some (.int .u64 (v:Int))) (BY:v<18446744073709551616) :
  zC 133 #[.int .i64 (at':Int),.pointer (some ⟨nb,no,none⟩),zP bb] w fun e w' =>
   e = .returned (.tuple #[])/\w'.heap[g]?=some (.cells (Y7 N (YC f at' 8 v)) 5 (0,0))/\zv [g] w w':=by
 have HB:Hd (w.drew.heap[g]?=some (.cells (Y7 N f) 5 (0,0))):=zh hb;have cP:=VO HB 0 N N at' 8 v zo hN zo zo zo (by rw [show (256:Nat) ^ 8=18446744073709551616 by decide];exact BY);rw [yn] at cP;clear hb;go_enter Tryz.func133,Tryz.ntmps133;go_wp2_with fail
 go_region_with (go_at_call 134;refine cP.mono ?_;rintro e w2 ⟨rfl,hB2,Do⟩)
 all_goals
  go_wp2_with fail
  go_end0
  exact ⟨rfl,hB2,(zv.drew (zv.refl _ _)).trans Do⟩
theorem Am (x:Int) (w:World):zC 205 #[.int .u64 x] w fun e w'=>e = .returned (.bool false)/\w=w':=by
 go_enter Tryz.func205,Tryz.ntmps205
 go_wp2
 go_ret;exact ⟨zaa,rfl⟩
theorem dY (x y:Int) (w:World):zC 157 #[.int .u64 x,.int .u64 y] w fun e w'=>e = .returned (.bool (decide (x<y)))/\w=w':=by
 go_enter Tryz.func157,Tryz.ntmps157;go_wp2_with (go_at_call 205;refine zm (Am _ _) ?_);go_ret;exact ⟨rfl,rfl⟩
structure zQ (w:World) (g n:Nat) (f:zF):Prop where
 nums:Zi w g 0 n f
 blk:∃ BV,w.heap[g]?=some (.cells BV 23 (0,0))
theorem zQ.lt (h:zQ w g n f):g<w.heap.size:=by obtain ⟨BV,h⟩:=h.blk;exact zz h
theorem zQ.cell (h:zQ w g n f) (hi:i<n):w.cell? ⟨g,i,none⟩=some (.int .u64 (f i:Int)):=by
 have:=(h.nums i hi).1;rwa [yn] at this
theorem zQ.fz (h:zQ w g n f) (i:Nat):w.frozen? ⟨g,i,none⟩=false:=by
 obtain ⟨BV,h⟩:=h.blk;exact xB h i
theorem zQ.chg {w w':World} {g n:Nat} {f:zF} {L:List Nat} (h:zQ w g n f) (c:zv L w w') (hg:g∉L:=by simp):zQ w' g n f :=
 ⟨h.nums.chg c hg,by obtain ⟨BV,hb⟩:=h.blk;exact ⟨BV,(c.block g (zz hb) hg).trans hb⟩⟩
theorem zQ.set {v:Nat} (h:zQ w g n f) (hi:i<n) (hv:v<18446744073709551616):zQ (w.setCell ⟨g,i,none⟩ (.int .u64 (v:Int))) g n (fun j=>if j=i then v else f j):=by
 obtain ⟨BV,hb⟩:=h.blk;have Cr:=Yh hb i (zU v);refine ⟨fun j hj=>?_,_,Cr⟩;rw [yn,zM Cr,yP];have hc:=h.cell hj;rw [zM hb] at hc;by_cases e:i=j
 ·subst e
  have Dg:i<BV.size:=(yL.1 hc).1;rw [if_pos rfl,if_pos Dg,if_pos rfl];exact ⟨rfl,hv⟩
 ·rw [if_neg e,if_neg (fun q=>e q.symm),hc]
  exact ⟨rfl,(h.nums j hj).2⟩
def swp (f:zF) (j k:Nat):Nat:=if k=j then f (j - 1) else if k=j - 1 then f j else f k
theorem zQ.swap (h:zQ w g n f) (h0:0<j) (hj:j<n) :
  zQ ((w.setCell ⟨g,j,none⟩ (.int .u64 (f (j - 1):Int))).setCell ⟨g,j - 1,none⟩ (.int .u64 (f j:Int))) g n (swp f j):=by
 have h1:=h.set (i:=j) hj (h.nums (j - 1) zo).2;have h2:=h1.set (i:=j - 1) zo (h.nums j hj).2
 have e:(fun k=>if k=j - 1 then f j else if k=j then f (j - 1) else f k)=swp f j:=by
  funext k
  unfold swp;by_cases e1:k=j
  ·subst e1;rw [if_neg zo,if_pos rfl,if_pos rfl]
  ·rw [if_neg e1,if_neg e1]
 rw [<- e];exact h2
def YI (f:zF) (n:Nat):Prop:=(∀ i,i<n->f i≠0/\f i<4096)/\∀ i j,i<j->j<n->f i≠f j
theorem sm (h0:0<j) (hj:j<n):YI (swp f j) n↔YI f n:=by
 have key:∀ g:Nat->Nat,YI g n->YI (swp g j) n:=by
  intro g hg;obtain ⟨a,b⟩:=hg;refine ⟨fun i hi=>?_,fun i k FV hk=>?_⟩
  ·unfold swp
   split
   ·exact a _ zo
   ·split
    ·exact a _ hj
    ·exact a _ hi
  ·unfold swp
   have:=b;by_cases e1:i=j
   ·rw [if_pos e1,if_neg zo,if_neg zo]
    exact b _ _ zo hk
   ·rw [if_neg e1]
    by_cases e2:i=j - 1
    ·rw [if_pos e2]
     by_cases e3:k=j
     ·rw [if_pos e3];exact fun q=>b (j - 1) j zo hj q.symm
     ·rw [if_neg e3,if_neg zo];exact b _ _ zo hk
    ·rw [if_neg e2]
     by_cases e3:k=j
     ·rw [if_pos e3];exact b _ _ zo zo
     ·rw [if_neg e3]
      by_cases e4:k=j - 1
      ·rw [if_pos e4];exact b _ _ zo hj
      ·rw [if_neg e4];exact b _ _ FV hk
 refine ⟨fun h=>?_,key f⟩;have h2:=key _ h
 have e:swp (swp f j) j=f:=by
  funext k
  unfold swp;by_cases e1:k=j
  ·rw [if_pos e1,if_neg zo,if_pos rfl,e1]
  ·rw [if_neg e1]
   by_cases e2:k=j - 1
   ·rw [if_pos e2,if_pos rfl,e2]
   ·rw [if_neg e2,if_neg e1,if_neg e2]
 rwa [e] at h2
def Zz (f:zF) (i:Nat):Prop:=∀ a b,a<b->b<i->f a<=f b
def ZV (f:zF) (i j:Nat):Prop:=∀ a b,a<b->b<=i->b≠j->f a<=f b
theorem oJ (h:Zz f i):ZV f i i:=fun a b Cq hb BU=>h a b Cq zo
theorem sq (h:ZV f i 0):Zz f (i+1):=fun a b Cq hb=>h a b Cq zo zo
theorem sr (h:ZV f i j) (h0:0<j) (hj:f (j - 1)<=f j):Zz f (i+1):=fun a b Cq hb=>by
 by_cases e:b=j
 ·subst e
  by_cases e2:a=b - 1
  ·rw [e2];exact hj
  ·exact qh (h a (b - 1) zo zo zo) hj
 ·exact h a b Cq zo e
theorem vh (h:ZV f i j) (h0:0<j) (DJ:j<=i) (hj:f j<f (j - 1)):ZV (swp f j) i (j - 1):=fun a b Cq hb BU=>by
 unfold swp;by_cases e1:b=j
 ·subst e1
  rw [if_neg zo,if_pos rfl];by_cases e2:a=b - 1
  ·rw [if_pos e2];omega
  ·rw [if_neg e2];exact h a (b - 1) zo zo zo
 ·rw [if_neg e1,if_neg BU]
  by_cases e2:a=j
  ·rw [if_pos e2];exact h (j - 1) b zo hb e1
  ·rw [if_neg e2]
   by_cases e3:a=j - 1
   ·rw [if_pos e3];exact h j b zo hb e1
   ·rw [if_neg e3];exact h a b Cq hb e1
theorem mP {h:zF} (EB:w.cell? ⟨bb,0,none⟩=some (zS g N c)) (hb:zB w g 0 N f) (hNc:N<=c) (hc:c<=9223372036854775807) (hN:N<=100000)
  (at':Nat) (DT:at'+8<=N) (hr:zQ w nb n h) (hno:no<n) :
  zC 79 #[.int .i64 (at':Int),.pointer (some ⟨nb,no,none⟩),zP bb] w fun e w' =>
   e = .returned (.tuple #[])/\zQ w' nb n (fun j=>if j=no then Zu f at' 8 else h j)/\zv [nb] w w':=by
 have cG:=Q0 hb hNc hc zo at' 8 zo zo DT
 have BY:Zu f at' 8<18446744073709551616:=by
  have:=VP (f:=f) (p:=at') (k:=8) fun i hi=>(hb (at'+i) zo).2;rwa [show (256:Nat) ^ 8=18446744073709551616 by decide] at this
 have HS:=zh (hr.set hno BY);have cn:=hr.cell hno;have fn:=hr.fz no;clear hb hr;go_enter Tryz.func79,Tryz.ntmps79;go_wp2_with fail;refine cG.mono ?_;clear cG;rintro e w' ⟨rfl,rfl⟩;go_wp2_with fail
 go_end0
 exact ⟨rfl,HS.o,(zv.refl _ _).setCell (.inl zaa) _⟩
def V5 (f:zF) (k j:Nat):Nat:=if j<k then Zu f (1+16*j) 8 else 0
def V6 (f:zF) (k j:Nat):Nat:=if j<k then Zu f (1+16*j+8) 8 else 0
theorem oK (f:zF) (k:Nat):(fun j=>if j=k then Zu f (1+16*k) 8 else V5 f k j)=V5 f (k+1):=by
 funext j
 unfold V5;by_cases e:j=k
 ·subst e;rw [if_pos rfl,if_pos zo]
 ·rw [if_neg e]
  by_cases h:j<k
  ·rw [if_pos h,if_pos zo]
  ·rw [if_neg h,if_neg zo]
theorem oL (f:zF) (k:Nat):(fun j=>if j=k then Zu f (1+16*k+8) 8 else V6 f k j)=V6 f (k+1):=by
 funext j
 unfold V6;by_cases e:j=k
 ·subst e;rw [if_pos rfl,if_pos zo]
 ·rw [if_neg e]
  by_cases h:j<k
  ·rw [if_pos h,if_pos zo]
  ·rw [if_neg h,if_neg zo]
theorem iT {kb vb:Nat} {leaf:Bool} (hn:n<=7) (hk:zQ w kb n (V5 f 0)) (hv:zQ w vb n (V6 f 0)) (EB:w.heap[bb]?=some (.cells #[zS g 123 c] 81 (0,0)))
  (hb:zB w g 0 123 f) (hg:g<w.heap.size) (hNc:123<=c) (hc:c<=9223372036854775807) (d1:kb≠vb) (d2:kb≠bb) (d3:vb≠bb) (d4:kb≠g) (d5:vb≠g) :
  zC 78 #[.agg #[.bool leaf,zS kb n n,zS vb n n],.func (.func 79) #[] #[zP bb]] w fun e w' =>
   e = .returned (.tuple #[])/\zQ w' kb n (V5 f n)/\zQ w' vb n (V6 f n)/\zv [kb,vb] w w':=by
 have hW:=(zv.refl [] w).alloc (.cells #[.bool leaf,zS kb n n,zS vb n n] 42);have HX:=zh (xo w (.cells #[.bool leaf,zS kb n n,zS vb n n] 42));have HK:=zh (hk.chg hW);have HV:=zh (hv.chg hW);have I0:=zh ((hW.block bb (zz EB) zaa).trans EB);have HB:=zh (hb.chg hW);have HW:=zh hW;have:=hk.lt;have:=hv.lt;clear hk hv EB hb hW;go_enter Tryz.func78,Tryz.ntmps78;go_wp2_with fail;generalize w.alloc (.cells #[.bool leaf,zS kb n n,zS vb n n] 42)=W at *
 go_loopw [8] (fun s wr=>∃ k:Nat,k<=n/\s = .int .i64 (k:Int)/\zQ wr kb n (V5 f k)/\zQ wr vb n (V6 f k)/\zv [kb,vb] W wr) (fun s _=>n - (intOf s).toNat)
 case atStart=>exact ⟨0,yg _,rfl,HK.o,HV.o,zv.refl _ _⟩
 case round =>
  obtain ⟨k,hk,rfl,hKk,hVk,GC⟩:=hrel;obtain ⟨wo,rfl⟩:=zE wr;have hX:=(GC.block w.heap.size (zz HX) zae).trans HX.o;have R8:=(GC.block bb (zz I0) zae).trans I0.o;have hB:=HB.chg GC zae;have x1:=zM hX 1;have x2:=zM hX 2;have z0:=zM R8 0;simp only [tA1,tA3,tA2] at x1 x2 z0;have HXk:=zh hX;have RA:=zh R8;have MT:=zh hB;have HVk:=zh hVk;have HKk:=zh hKk;have LU:=zh GC;clear hX R8 hB GC hKk hVk;by_cases Co:k<n
  ·have c1:=mP z0 MT hNc hc zo (1+16*k) zo HKk Co
   rw [show ((1+16*k:Nat):Int)=1+16*(k:Int) by omega,oK] at c1;have:(0:Int)<=(k:Int):=zo;have:(k:Int)<(n:Int):=zo;go_wp2_with fail;refine c1.mono ?_;clear c1;rintro e w3 ⟨rfl,G3,El⟩;have z3:=(El.cell (p:=⟨bb,0,none⟩) (zz RA) zae).trans z0;have:=(El.cell (p:=⟨w.heap.size,2,none⟩) (zz HXk) zae).trans x2;have B3:=MT.chg El zae;have V3:=HVk.chg El zae;have c2:=mP z3 B3 hNc hc zo (1+16*k+8) zo V3 Co;rw [show ((1+16*k+8:Nat):Int)=1+16*(k:Int)+8 by omega,oL] at c2;have Cj:=zh (LU.trans (El.mo));have HK3:=zh G3;clear El G3 B3 V3 x1 x2 z0;go_wp2_with fail;refine c2.mono ?_;clear c2;rintro e w4 ⟨rfl,hV4,Ds⟩;have HV4:=zh hV4;have HK4:=zh (HK3.chg Ds zae);have C6:=zh (Cj.trans (Ds.mo));clear hV4 Ds;go_wp2_with fail
   go_roundw
   case rel=>exact ⟨k+1,zo,zac,HK4.o,HV4.o,C6⟩
   case measure=>simp [intOf];omega
  ·obtain rfl:k=n:=zo
   go_wp2_with fail
   go_end0
   exact ⟨rfl,HKk.o,HVk.o,(HW.mo).trans LU⟩
theorem sw (x y:Int) (w:World) (n:Nat) {b:Bool} (h:decide (x<y)=b):zC 157 #[.int .u64 x,.int .u64 y] (w.drewN n) fun e KI=>e = .returned (.bool b)/\∃ m,KI=w.drewN m :=
 (dY x y _).mono fun _ _ ⟨he,hm⟩=>⟨by rw [he,h],n,hm.symm⟩
theorem An (h:zQ w g n f) (hn:n<=12) (hc:n<=c) :
  zC 182 #[zS g n c,.int .i64 0,.int .i64 (n:Int)] w fun e w' =>
   e = .returned (.tuple #[])/\∃ f',zQ w' g n f'/\Zz f' n/\(YI f' n↔YI f n)/\zv [g] w w':=by
 have H:=zh h;clear h;go_enter Tryz.func182,Tryz.ntmps182;go_wp2_with fail
 go_loopw [6] (fun s wr=>∃ (i:Nat) (f':zF),s = .int .i64 (i:Int)/\1<=i/\(i<=n∨i=1)/\Zz f' i/\zQ wr g n f'/\(YI f' n↔YI f n)/\zv [g] w wr) (fun s _=>13 - (intOf s).toNat)
 case atStart=>exact ⟨1,f,rfl,xd _,.inr rfl,fun a b h1 h2=>zo,H.o,Iff.rfl,zv.refl _ _⟩
 case round =>
  obtain ⟨i,f',rfl,hi1,Mm,hs,hR,hG,hC⟩:=hrel;obtain ⟨wo,rfl⟩:=zE wr;have Hs:=zh hs;have HR:=zh hR;have HG:=zh hG;have HC:=zh hC;clear hs hR hG hC;by_cases Cm:i<n
  ·have:(i:Int)<(n:Int):=zo
   go_wp2_with fail
   go_loopw [7] (fun s wr=>∃ (j:Nat) (f2:zF),s = .int .i64 (j:Int)/\j<=i/\ZV f2 i j/\zQ wr g n f2/\(YI f2 n↔YI f n)/\zv [g] w wr) (fun s _=>(intOf s).toNat)
   case atStart=>exact ⟨i,f',rfl,xd _,oJ Hs.o,HR.o,HG.o,HC⟩
   case round =>
    obtain ⟨j,f2,rfl,DJ,hb,G4,hG2,Do⟩:=hrel;obtain ⟨wi,rfl⟩:=zE wr;have Hb:=zh hb;have Ej:=zh G4;have Uq:=zh hG2;have BZ:=zh Do;clear hb G4 hG2 Do;by_cases Ng:j=0
    ·subst Ng
     have hd:decide ((0:Int)<((0:Nat):Int))=false:=rfl;go_wp2_with fail
     go_quiet (fail)
     go_wp2_with fail
     go_roundw
     case rel=>exact ⟨i+1,f2,zac,zo,.inl zo,sq Hb.o,Ej.chg (zv.drewN (zv.refl [] _) _),Uq.o,BZ.drewN _⟩
     case measure=>simp [intOf];omega
    ·have:0<j:=zo
     have:(0:Int)<(j:Int):=zo;obtain ⟨k,hk⟩:∃ k,j=k+1:=⟨j - 1,zo⟩;subst hk;have c1:=Ej.cell (i:=k+1) zo;have c2:=Ej.cell (i:=k) zo;have:(0:Int)<=(k:Int)+1:=zo
     have:(k:Int)+1<(n:Int):=zo;have:(0:Int)<=(k:Int):=zo;have:(k:Int)<(n:Int):=zo
     have:IntKind.i64.wrap ((k:Int)+1 - 1)=(k:Int):=by
      rw [show (k:Int)+1 - 1=(k:Int) by omega];exact yv _ zo
     by_cases hl:f2 (k+1)<f2 k
     ·have hd:=fun n=>sw (f2 (k+1)) (f2 k) wi n (b:=true) zae
      have Hd:=zh hd;have Hl:=zh hl;clear hd hl;go_wp2_with fail
      go_quiet ((go_at_call 157;exact Hd _))
      go_wp2_with fail;have LX:=zh (Ej.chg (zv.drewN (zv.refl [] _) nq));have Uo:=zh (BZ.drewN nq);clear Hd c1 c2;generalize wi.drewN nq=W at *;have c1:=LX.cell (i:=k+1) zo;have c2:=LX.cell (i:=k) zo;have f1:=LX.fz (k+1);have f2':=LX.fz k
      go_region
      have hs:=LX.swap (j:=k+1) zo zo;have Cr:=vh Hb zo DJ (by rw [zg];exact Hl);simp only [zg] at hs Cr;have HS:=zh (zA hs Cr);clear hs Cr c1 c2 f1 f2';go_wp2_with fail
      go_roundw
      case rel=>exact ⟨k,swp f2 (k+1),zac,zo,HS.2,HS.1.chg (zv.drew (zv.refl [] _)),(sm zo zo).trans Uq.o,((Uo.setCell (.inl zaa) _).setCell (.inl zaa) _).drew⟩
      case measure=>simp [intOf]
     ·have hd:=fun n=>sw (f2 (k+1)) (f2 k) wi n (b:=false) zae
      have Hd:=zh hd;have Hl:=zh hl;clear hd hl;go_wp2_with fail
      go_quiet ((go_at_call 157;exact Hd _))
      go_wp2_with fail
      go_roundw
      case rel=>exact ⟨i+1,f2,zac,zo,.inl zo,sr Hb zo (by have:=Hl.o;rw [zg];omega),Ej.chg (zv.drewN (zv.refl [] _) _),Uq.o,BZ.drewN _⟩
      case measure=>simp [intOf];omega
  ·go_wp2_with fail
   go_end0
   refine ⟨rfl,f',HR.o,fun a b Cq hb=>Hs a b Cq zo,HG.o,HC⟩
def wG (w:World) (e:Ending) (w':World):Prop:=∃ l:Int,e = .returned (.int .i64 l)/\w=w'
theorem sx (n:Nat) (w:World) (hn:n<=12):zC 179 #[.int .u64 (n:Int)] w (wG w):=by
 have h:n=0∨n=1∨n=2∨n=3∨n=4∨n=5∨n=6∨n=7∨n=8∨n=9∨n=10∨n=11∨n=12:=zo;rcases h with rfl | rfl | rfl | rfl | rfl | rfl | rfl | rfl | rfl | rfl | rfl | rfl | rfl
 all_goals
  go_enter Tryz.func179,Tryz.ntmps179
  go_wp2
  go_ret;exact ⟨_,rfl,rfl⟩
theorem f7 (n:Nat) (w:World) (hn:n<=12):zC 123 #[.int .u64 (n:Int)] w (wG w):=by
 go_enter Tryz.func123,Tryz.ntmps123;go_wp2_with (go_at_call 179;refine (sx n _ hn).mono ?_;rintro e w' ⟨l,rfl,rfl⟩);go_ret;exact ⟨_,rfl,rfl⟩
theorem Ao (h:zQ w g n f) (hn:n<=12) (hc:n<=c) (l:Int) :
  zC 137 #[zS g n c,.int .i64 0,.int .i64 (n:Int),.int .i64 l] w fun e w' =>
   e = .returned (.tuple #[])/\∃ f',zQ w' g n f'/\Zz f' n/\(YI f' n↔YI f n)/\zv [g] w w':=by
 have H:=zh h;have:(n:Int)<=12:=zo
 clear h;go_enter Tryz.func137,Tryz.ntmps137;go_wp2_with fail;refine wp_loop_rounds 1 ?_;rw [rounds_succ];go_wp2_with fail;refine (An H hn hc).mono ?_;rintro e w1 ⟨rfl,f',h1,h2,h3,h4⟩;have HH:=zh (zA h1 (zA h2 (zA h3 h4)));clear h1 h2 h3 h4;go_wp2_with fail;exact bodyPost_ret (v := .tuple #[]) zaq rfl ⟨rfl,f',HH.1,HH.2.1,HH.2.2.1,HH.2.2.2⟩
theorem vm (h:zQ w g n f) (hn:n<=12) (hc:n<=c) :
  zC 83 #[zS g n c] w fun e w' =>
   e = .returned (.tuple #[])/\∃ f',zQ w' g n f'/\Zz f' n/\(YI f' n↔YI f n)/\zv [g] w w':=by
 have H:=zh h;clear h;go_enter Tryz.func83,Tryz.ntmps83;go_wp2_with fail;refine (f7 n _ hn).mono ?_;rintro e w' ⟨l,rfl,rfl⟩;go_wp2_with fail;refine (Ao H hn hc l).mono ?_;rintro e w1 ⟨rfl,f',h1,h2,h3,h4⟩;have HH:=zh (zA h1 (zA h2 (zA h3 h4)));clear h1 h2 h3 h4;go_wp2_with fail
 go_end0
 exact ⟨rfl,f',HH.1,HH.2.1,HH.2.2.1,HH.2.2.2⟩
theorem Qc:(Tryz.prog.info? 23).map (fun i=>(i.zero,i.size,i.bytes))=some (some (.int .u64 0),1,8):=zab
theorem iU (h:Zi w b off n f):∀ j u,((List.range n).map fun i=>Value.int .u64 (f i:Int))[j]?=some u->w.cell? ((⟨b,off,none⟩:Addr).add j)=some u:=by
 intro j u hj;simp only [yT] at hj;by_cases BY:j<n
 ·simp [BY] at hj
  subst hj;have e:(⟨b,off,none⟩:Addr).add j=⟨b,off+j,none⟩:=by unfold Addr.add;split <;> simp_all
  rw [e];exact (h j BY).1
 ·simp [BY] at hj
theorem Z9 (h:Zi w b off n f) (hn:n<=100000) (h0:0<n) :
  zC 211 #[.slice (some ⟨b,off,none⟩) n cap] w fun e w'=>∃ g c,e = .returned (zS g n c)/\n<=c/\c<=maxLen/\w.heap.size<=g/\zQ w' g n f/\zv [] w w':=by
 have Cr:=h.chg ((zv.refl [] w).alloc (.cells #[] 23));have Hn:=zh (iU Cr);have H:=zh h;obtain ⟨i0,hi,Ia,Lj,LN⟩:=info_parts Qc;have Hi:=zh hi;have he:=fun w:World=>Lib.run_eql_slice_nil (P:=Tryz.prog) w 40 23 (some ⟨b,off,none⟩) n cap 0 0 Tryz.underlying40;clear h Cr hi;go_enter Tryz.func211,Tryz.ntmps211;go_wp2_with (at_builtin;refine wpList_append_own _ rfl _ _ 40 rfl w.heap.size 23 i0 (.int .u64 0) 1 8 Tryz.underlying40 Hi Ia Lj LN rfl zaf _ 0 [] rfl (World.ownsRow_made w #[] 0 (xd _) (yg _) rfl) ⟨b,off,none⟩ n cap ((List.range n).map fun i=>Value.int .u64 (f i:Int)) rfl ?c0 Hn ?c1 ?c2 ?c3 ?c4 ?_)
 case c0=>simp
 case c1=>intro u hu;obtain ⟨a,_,rfl⟩:=yw.1 hu;rfl
 case c2=>unfold maxLen;omega
 case c3=>omega
 case c4=>simp
 intro v' w1 BT Ff _;obtain ⟨g,c,BV,rfl,q1,q2,q3,q4,q5,q6⟩:=dE (n:=n) (xs:=(List.range n).map fun i=>Value.int .u64 (f i:Int)) (by rw [yn,yy];exact BT) h0;have HO:=zh (zA q2 q6);have HG:=zh Ff;clear q2 q6 BT Ff;go_wp2_with fail;go_ret;refine ⟨g,c,rfl,q3,q4,q1,⟨fun i hi=>⟨?_,(H i hi).2⟩,BV,HO.1⟩,?_⟩
 ·rw [zM HO.1,yn]
  have:=congrArg (fun l=>l[i]?) HO.2;simp only [List.getElem?_take,if_pos hi,yT,za hi,Option.map_some,yB] at this;exact this
 ·exact ((zv.refl [] w).alloc _).grown HG (fun k hk => .inr (by simp [Value.ownBlock] at hk;omega))
def ba (w:World) (e:Ending) (w':World):Prop:=∃ a c,e = .returned (.slice a 0 c)/\zv [] w w'
theorem f8 : zC 211 #[.slice none 0 0] w (ba w):=by
 have:=fun w:World=>Lib.run_eql_slice_nil (P:=Tryz.prog) w 40 23 none 0 0 0 0 Tryz.underlying40;go_enter Tryz.func211,Tryz.ntmps211;go_wp2_with fail;go_ret;exact ⟨_,_,rfl,zv.refl _ _⟩
theorem Jt {x:Addr} : zC 211 #[.slice (some x) 0 cap] w (ba w):=by
 obtain ⟨i0,hi,Ia,Lj,LN⟩:=info_parts Qc;have Hi:=zh hi;have:=fun w:World=>Lib.run_eql_slice_nil (P:=Tryz.prog) w 40 23 (some x) 0 cap 0 0 Tryz.underlying40;clear hi;go_enter Tryz.func211,Tryz.ntmps211;go_wp2_with (at_builtin;refine wpList_append_own _ rfl _ _ 40 rfl w.heap.size 23 i0 (.int .u64 0) 1 8 Tryz.underlying40 Hi Ia Lj LN rfl zaf _ 0 [] rfl (World.ownsRow_made w #[] 0 (xd _) (yg _) rfl) x 0 cap [] rfl rfl zaa zaa zaf zaf ?c4 ?_)
 case c4=>simp
 intro v' w1 BT Ff _;have HC:Hd (zv [] w w1):=zh (((zv.refl [] w).alloc _).grown Ff (fun k hk => .inr (by simp [Value.ownBlock] at hk;omega)))
 obtain ⟨a,c,rfl⟩:∃ a c,v' = .slice a 0 c:=by
  rcases BT.2 with ⟨h,_⟩ | ⟨g,cap,BV,h,_⟩
  ·exact ⟨none,0,h⟩
  ·exact ⟨_,_,h⟩
 clear BT Ff;go_wp2_with fail;go_ret;exact ⟨_,_,rfl,HC⟩
theorem oM {a:Option Addr} : zC 83 #[.slice a 0 c] w fun e w'=>e = .returned (.tuple #[])/\w=w':=by
 have h1:∀ w:World,zC 182 #[.slice a 0 c,.int .i64 0,.int .i64 0] w fun e w'=>e = .returned (.tuple #[])/\w=w':=fun w=>by
  go_enter Tryz.func182,Tryz.ntmps182;go_wp2_with fail;refine wp_loop_rounds 1 ?_;rw [rounds_succ];go_wp2_with fail
  go_end0
  exact ⟨rfl,rfl⟩
 have h2:∀ (l:Int) (w:World),zC 137 #[.slice a 0 c,.int .i64 0,.int .i64 0,.int .i64 l] w fun e w'=>e = .returned (.tuple #[])/\w=w':=fun l w=>by
  go_enter Tryz.func137,Tryz.ntmps137;go_wp2_with fail;refine wp_loop_rounds 1 ?_;rw [rounds_succ];go_wp2_with fail;refine zm (h1 _) ?_;go_wp2_with fail;exact bodyPost_ret (v := .tuple #[]) zaq rfl ⟨rfl,rfl⟩
 go_enter Tryz.func83,Tryz.ntmps83;go_wp2_with fail;refine (f7 0 _ zo).mono ?_;rintro e w' ⟨l,rfl,rfl⟩;go_wp2_with fail;refine zm (h2 l _) ?_;go_wp2_with fail
 go_end0
 exact ⟨rfl,rfl⟩
end Go.Proofs.YtegpiomkmfhadaaGreat
