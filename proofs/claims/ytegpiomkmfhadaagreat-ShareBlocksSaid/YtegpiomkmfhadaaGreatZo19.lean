/- Package base: Up, Down, Back. · Supers -/
import Derived.Test.YtegpiomkmfhadaaGreatZo18
import Derived.Laws.StructEq
import Derived.ChangeKeysEq
import Derived.Laws.Tables
set_option linter.all false
set_option maxRecDepth 100000
set_option maxHeartbeats 20000000
namespace Go.Proofs.YtegpiomkmfhadaaGreat
open Go.RowKit
variable {w W w5:World} {M:Bm} {F:List Nat} {B:Bs} {x k off n N base dp:Nat} {fd:Field} {xs ys cells:Array Value} {r:Bool} {S:xj} {ops:Array Oper} {rest:List Oper} {o:Oper} {a:Act} {Q:Exit->Act->World->Prop} {v u:Value} {vs:List Value}
theorem oX (h:zx w M F B) (hF:∀ q,q∈F->q<w.heap.size) {E:Int} {T':zW} (hx:B.mayC (x:Int)=true) (h0:B.T.now x≠0)
  (hg:∀ w,PT w M.p M.t M.bc M.bk B.K B.T->zC 74 #[zP M.t,.int .i64 (x:Int)] w fun e w'=>e = .returned (.int .i64 E)/\PT w' M.p M.t M.bc M.bk B.K T'/\zv [M.p,M.t,M.bc,M.bk] w w')
  (hn:T'.n=B.T.n) (Dm:(B.counted T' x).Ok) :
  zC 65 #[zP M.b,.int .i64 (x:Int),.func (.func 74) #[zP M.t] #[]] w fun e w'=>e = .returned (.int .i64 E)/\zx w' M F (B.counted T' x)/\zv M.L w w':=by
 obtain ⟨R,hB,Gi⟩:=h;have n1:=hB.c.ok.n;have cb:=qH hB.c;have c1:=hB.c.c1;have c3:=hB.c.c3;have c4:=hB.c.c4;have p0:=hB.c.cont (k:=0) zo (x:Int);have p1:=hB.c.cont (k:=1) zo (x:Int);obtain ⟨j0,j1,e0,e1⟩:=B.mayC_nat hx;have i0:¬ (x:Int)<2:=zo
 have i1:¬ (B.T.n:Int)<=(x:Int):=zo;rw [e0] at p0;rw [e1] at p1;have Pu:x<B.T.n:=zo;have cg:=QD hB.c.pt.ht (x:Int)
 have RZ:∀ T:zW,T.n=B.T.n->getV T (x:Int)=(T.now x:Int):=fun T hT=>by
  unfold getV;rw [(x7 T (x:Int)).2 zo,if_pos rfl,yz]
 rw [RZ _ rfl] at cg;have i2:¬ B.T.now x=0:=h0;have CG:=zh (hg w hB.c.pt);have nd:=hB.nodup;simp only [Bm.L,List.nodup_cons,ya,yk,or_false,not_or,List.nodup_nil,and_true] at nd;have HB:=zh (zA hB Gi);have HH:=zh (zA Dm (zA hF (zA nd RZ)));clear hB Gi Dm hF nd RZ e0 e1 hx hg h0;go_enter Tryz.func65,Tryz.ntmps65;go_wp2_with fail;refine zm (cb) ?_;go_wp2_with fail;refine zm (p0) ?_;go_wp2_with fail;refine zm (p1) ?_;go_wp2_with fail;refine zm (cg) ?_;go_wp2_with fail;go_simp;refine CG.mono ?_;rintro e w1 ⟨rfl,Hh,hc⟩;have nd:=HH.2.2.1;have Cv:∀ q,q≠M.p->q≠M.t->q≠M.bc->q≠M.bk->q∉[M.p,M.t,M.bc,M.bk]:=fun q a b c d=>by simp [a,b,c,d]
 have l1:=zz HB.1.c.top;have al:=(hc.block M.b l1 (Cv _ nd.1.2.2.1 nd.1.2.2.2.1 nd.1.2.2.2.2.1 nd.1.2.2.2.2.2.1)).trans HB.1.c.top;have d1:w1.cell? ⟨M.b,1,none⟩=some (zP M.t):=(Q3 al zo).trans rfl;have d5:w1.cell? ⟨M.b,5,none⟩=some (.map (some M.mf)):=(Q3 al zo).trans rfl;have KQ:=QD Hh.ht (x:Int);rw [HH.2.2.2 _ hn] at KQ;have i3:x<B.T.n:=Pu;have HP:=zh (zA Hh (zA hc (zA al nd)));have l11:=zz al;clear Hh hc al nd Cv;have EE:=HB.1.c.fm.chg HP.2.1 zah;by_cases hz:T'.now x=0
 ·obtain ⟨w2,B8,Fy,Cg⟩:=EE.del (t:=51) (k:=x) Tryz.underlying3 Tryz.underlying51 Pu n1.2 0
  have BW:=xD Cg;have HZ:=zh (zA Fy BW);clear EE Fy Cg BW;go_wp2_with fail;refine zm (KQ) ?_;go_wp2_with fail;go_ret;have nd:=HP.2.2.2;have BU:∀ q,q≠M.mf->q∉[M.mf]:=fun q hq=>by simpa using hq
  have GB:zv M.L w w2:=(HP.2.1.mono zan).trans (HZ.2.mono zan);refine ⟨rfl,HB.1.less HB.2 GB hn rfl rfl (fun y f hy=>?_) (HP.1.chg HZ.2 (BU _ nd.2.2.2.1.2.2.2) (BU _ nd.2.2.2.2.1.2.2) (BU _ nd.2.2.2.2.2.1.2) (BU _ nd.2.2.2.2.2.2.1)) ?_ ?_ ?_ HH.1 HH.2.1,GB⟩
  ·have IK:(if y=x/\T'.now x=0 then none else B.fr y)=some f:=hy
   split at IK
   ·cases IK
   ·exact IK
  ·rw [Z8 (B:=B) (B':=B.counted T' x) hn rfl rfl rfl rfl]
   exact (HZ.2.block M.b l11 (BU _ nd.1.2.2.2.2.2.2)).trans HP.2.2.1
  ·refine HZ.1.congr (fun i hi=>?_)
   unfold oC Bs.counted;by_cases e:i=x
   ·simp [e,hz]
   ·simp [e]
  ·exact (HB.1.d.chg HP.2.1 zav zav (fun k hk=>by cases hk)).chg HZ.2 (BU _ nd.2.1.2.2.2.2.2) (BU _ nd.2.2.1.2.2.2.2) (fun k hk=>by cases hk)
 ·have i4:¬ T'.now x=0:=hz
  have HM:=zh EE;clear EE;go_wp2_with fail;refine zm (KQ) ?_;go_wp2_with fail;go_ret;have nd:=HP.2.2.2;have GB:zv M.L w w1:=HP.2.1.mono zan
  have UU:(B.counted T' x).fr=B.fr:=by
   funext y
   show (if y=x/\T'.now x=0 then none else B.fr y)=B.fr y
   rw [if_neg (fun h=>hz h.2)]
  refine ⟨rfl,HB.1.less HB.2 GB hn rfl rfl (fun y f hy=>by rw [UU] at hy;exact hy) HP.1 ?_ ?_ ?_ HH.1 HH.2.1,GB⟩
  ·rw [Z8 (B:=B) (B':=B.counted T' x) hn rfl rfl rfl rfl]
   exact HP.2.2.1
  ·refine HM.congr (fun i hi=>?_)
   unfold oC;rw [UU]
  ·exact HB.1.d.chg HP.2.1 zav zav (fun k hk=>by cases hk)
def Bs.upE (B:Bs) (x:Int):Int:=if B.mayC x then (if getV B.T x=0 then 82 else Proofs.YtegpiomkmfhadaaGreat.upE B.T x) else 2
def Bs.downE (B:Bs) (x:Int):Int:=if B.mayC x then (if getV B.T x=0 then 82 else Proofs.YtegpiomkmfhadaaGreat.downE B.T x) else 2
def Bs.up (B:Bs) (x:Int):Bs:=if B.mayC x && !decide (getV B.T x=0) then B.counted (Proofs.YtegpiomkmfhadaaGreat.up B.T x) x.toNat else B
def Bs.down (B:Bs) (x:Int):Bs:=if B.mayC x && !decide (getV B.T x=0) then B.counted (Proofs.YtegpiomkmfhadaaGreat.down B.T x) x.toNat else B
theorem jc {i:Nat} (h:Z7 B k (x:Int)=false) (hi:i<qd B.T.n k):B.a k i≠x:=fun e=>by
 have:=Zh.2 ⟨i,hi,(by rw [e]:(B.a k i:Int)=(x:Int))⟩;rw [h] at this;cases this
theorem Bs.Ok.counted_ok (h:B.Ok) {v:Nat} (h0:B.T.now x≠0) (hx:B.mayC (x:Int)=true) (hv:v<=65535):(B.counted (B.T.set x v) x).Ok:=by
 obtain ⟨j0,j1,e0,e1⟩:=B.mayC_nat hx;have Km:∀ y,(B.T.set x v).now y=if y=x then v else B.T.now y:=fun y=>Xp ..
 have hp:∀ k i,k<2->i<qd B.T.n k->B.a k i≠x:=fun k i hk hi=>by
  rcases (show k=0∨k=1 by omega) with rfl | rfl
  ·exact jc e0 hi
  ·exact jc e1 hi
 refine { n:=h.n,own:=h.own.set v hp,a2:=h.a2,low:=?_,le:=?_,first:=h.first,nx:=h.nx,fr:=?_,fle:=?_,s:=h.s,kp:=h.kp,sg:=h.sg,disk:=h.disk,dle:=h.dle }
 ·intro b hb
  refine ⟨?_,(h.low b hb).2⟩
  show (B.T.set x v).now b=0
  rw [Km,if_neg zo];exact (h.low b hb).1
 ·intro b hb
  refine ⟨?_,(h.le b hb).2⟩
  show (B.T.set x v).now b<=65535
  rw [Km]
  split
  ·exact hv
  ·exact (h.le b hb).1
 ·intro b hb
  show ((if b=x/\(B.T.set x v).now x=0 then none else B.fr b).isSome=true↔B.T.kept b=0/\(B.T.set x v).now b≠0)
  have hf:=h.fr b hb;rw [Km,Km,if_pos rfl];by_cases e:b=x
  ·subst e
   rw [if_pos rfl];by_cases e2:v=0
   ·simp [e2]
   ·simp only [e2,and_false,if_false]
    rw [hf];exact ⟨fun q=>⟨q.1,e2⟩,fun q=>⟨q.1,h0⟩⟩
  ·rw [if_neg (fun q=>e q.1),if_neg e];exact hf
 ·intro b f hb hf
  have Gm:(if b=x/\(B.T.set x v).now x=0 then none else B.fr b)=some f:=hf
  split at Gm
  ·cases Gm
  ·exact h.fle b f hb Gm
theorem Bs.Ok.up_counted (h:B.Ok) (h0:B.T.now x≠0) (hx:B.mayC (x:Int)=true):(B.counted (Proofs.YtegpiomkmfhadaaGreat.up B.T (x:Int)) x).Ok:=by
 obtain ⟨j0,j1,e0,e1⟩:=B.mayC_nat hx;have hh:=(x7 B.T (x:Int)).2 zo;unfold Proofs.YtegpiomkmfhadaaGreat.up;by_cases e:B.T.now x=65535
 ·have:Proofs.YtegpiomkmfhadaaGreat.upE B.T (x:Int)=81:=by simp [Proofs.YtegpiomkmfhadaaGreat.upE,hh,e]
  rw [this,if_neg zaf]
  have es:B.T.set x (B.T.now x)=B.T:=by
   show ({ B.T with now:=_ } : zW)=B.T
   rw [show (fun i=>if i=x then B.T.now x else B.T.now i)=B.T.now from funext fun i=>by by_cases q:i=x <;> simp [q]]
  have:=h.counted_ok (v:=B.T.now x) h0 hx zo;rw [es] at this;exact this
 ·have:Proofs.YtegpiomkmfhadaaGreat.upE B.T (x:Int)=0:=by simp [Proofs.YtegpiomkmfhadaaGreat.upE,hh,e]
  rw [this,if_pos rfl,yz];have:=(h.le x zo).1;exact h.counted_ok h0 hx zo
theorem Bs.Ok.down_counted (h:B.Ok) (h0:B.T.now x≠0) (hx:B.mayC (x:Int)=true):(B.counted (Proofs.YtegpiomkmfhadaaGreat.down B.T (x:Int)) x).Ok:=by
 obtain ⟨j0,j1,e0,e1⟩:=B.mayC_nat hx;have hh:=(x7 B.T (x:Int)).2 zo;unfold Proofs.YtegpiomkmfhadaaGreat.down;have:Proofs.YtegpiomkmfhadaaGreat.downE B.T (x:Int)=0:=by simp [Proofs.YtegpiomkmfhadaaGreat.downE,hh,h0]
 rw [this,if_pos rfl,yz];have:=(h.le x zo).1;exact h.counted_ok h0 hx zo
theorem Ar (h:zx w M F B) (hF:∀ q,q∈F->q<w.heap.size) (x:Int) :
  zC 65 #[zP M.b,.int .i64 x,.func (.func 66) #[zP M.t] #[]] w fun e w'=>e = .returned (.int .i64 (B.upE x))/\zx w' M F (B.up x)/\zv M.L w w':=by
 have h':=h;obtain ⟨R,hB,Gi⟩:=h';unfold Bs.upE Bs.up
 cases hx:B.mayC x with
 | false=>exact (bE hB.c hx).mono fun e w' ⟨q1,q2⟩=>by subst q2;exact ⟨q1,h,zv.refl _ _⟩
 | true =>
  by_cases h0:getV B.T x=0
  ·rw [if_pos rfl,if_pos h0,yq h0]
   exact (OM hB.c hx h0).mono fun e w' ⟨q1,q2⟩=>by subst q2;exact ⟨q1,h,zv.refl _ _⟩
  ·rw [if_pos rfl,if_neg h0,yC h0,if_pos (show (true && !false)=true from rfl)]
   obtain ⟨j0,j1,-,-⟩:=B.mayC_nat hx;obtain ⟨y,rfl⟩:=Int.eq_ofNat_of_zero_le (show 0<=x by omega);rw [yz];have Ha:B.T.now y≠0:=fun e=>h0 (by unfold getV;rw [(x7 B.T (y:Int)).2 zo,if_pos rfl,yz,e];rfl);exact oW h hF hx Ha (fun w Hh=>Hh.up _) (AT ..) (hB.c.ok.up_counted Ha hx)
theorem sX (h:zx w M F B) (hF:∀ q,q∈F->q<w.heap.size) (x:Int) :
  zC 65 #[zP M.b,.int .i64 x,.func (.func 74) #[zP M.t] #[]] w fun e w'=>e = .returned (.int .i64 (B.downE x))/\zx w' M F (B.down x)/\zv M.L w w':=by
 have h':=h;obtain ⟨R,hB,Gi⟩:=h';unfold Bs.downE Bs.down
 cases hx:B.mayC x with
 | false=>exact (bE hB.c hx).mono fun e w' ⟨q1,q2⟩=>by subst q2;exact ⟨q1,h,zv.refl _ _⟩
 | true =>
  by_cases h0:getV B.T x=0
  ·rw [if_pos rfl,if_pos h0,yq h0]
   exact (OM hB.c hx h0).mono fun e w' ⟨q1,q2⟩=>by subst q2;exact ⟨q1,h,zv.refl _ _⟩
  ·rw [if_pos rfl,if_neg h0,yC h0,if_pos (show (true && !false)=true from rfl)]
   obtain ⟨j0,j1,-,-⟩:=B.mayC_nat hx;obtain ⟨y,rfl⟩:=Int.eq_ofNat_of_zero_le (show 0<=x by omega);rw [yz];have Ha:B.T.now y≠0:=fun e=>h0 (by unfold getV;rw [(x7 B.T (y:Int)).2 zo,if_pos rfl,yz,e];rfl);exact oX h hF hx Ha (fun w Hh=>Hh.down _) (kR ..) (hB.c.ok.down_counted Ha hx)
theorem lE (h:zx w M F B) (hF:∀ q,q∈F->q<w.heap.size) (x:Int) :
  zC 29 #[zP M.b,.int .i64 x] w fun e w'=>e = .returned (.int .i64 (B.upE x))/\zx w' M F (B.up x)/\zv M.L w w':=by
 have h':=h;obtain ⟨R,hB,Gi⟩:=h';have cm:=ah hB.c;have c1:=hB.c.c1;have cc:=zh (Ar h hF x);clear h hB Gi hF;go_enter Tryz.func29,Tryz.ntmps29;go_wp2_with fail;refine zm (cm) ?_;go_wp2_with fail;refine cc.mono ?_;rintro e w' ⟨rfl,hq⟩;have HQ:=zh hq;clear hq cc;go_wp2_with fail;go_ret;exact ⟨rfl,HQ⟩
theorem QN (h:zx w M F B) (hF:∀ q,q∈F->q<w.heap.size) (x:Int) :
  zC 41 #[zP M.b,.int .i64 x] w fun e w'=>e = .returned (.int .i64 (B.downE x))/\zx w' M F (B.down x)/\zv M.L w w':=by
 have h':=h;obtain ⟨R,hB,Gi⟩:=h';have cm:=ah hB.c;have c1:=hB.c.c1;have cc:=zh (sX h hF x);clear h hB Gi hF;go_enter Tryz.func41,Tryz.ntmps41;go_wp2_with fail;refine zm (cm) ?_;go_wp2_with fail;refine cc.mono ?_;rintro e w' ⟨rfl,hq⟩;have HQ:=zh hq;clear hq cc;go_wp2_with fail;go_ret;exact ⟨rfl,HQ⟩
theorem ON {w:World} {e:TypeId} {k:IntKind} (hu:Tryz.prog.underlying e=some (.int k)) (MG:Tryz.prog.plainKey e=true) (hc:Tryz.prog.cellsOf e=1) {xs ys:Array Value} {f g:Nat->Int} (d:Nat):∀ (is:List Nat),(∀ i∈is,xs[i]?=some (.int k (f i)))->(∀ i∈is,ys[i]?=some (.int k (g i))) ->
  ∃ r:Bool,(Op.eqItems (d+1) e (Tryz.prog.cellsOf e) xs ys is).run Tryz.prog w = .ok r w/\(r=true↔∀ i∈is,f i=g i)
 | [],_,_=>⟨true,by simp [Op.eqItems],zaa⟩
 | i::is,hx,hy=>by
  have ha:=hx i zaa;have hb:=hy i zaa;obtain ⟨r,hr,hi⟩:=ON (w:=w) hu MG hc d is (fun j hj=>hx j (by simp [hj])) (fun j hj=>hy j (by simp [hj]));have p1:(part e xs (i*Tryz.prog.cellsOf e)).run Tryz.prog w = .ok (.int k (f i)) w:=by rw [hc,Nat.mul_one];exact run_part_plain w MG ha
  have p2:(part e ys (i*Tryz.prog.cellsOf e)).run Tryz.prog w = .ok (.int k (g i)) w:=by rw [hc,Nat.mul_one];exact run_part_plain w MG hb
  have p3:(Op.equalIn (d+1) e (.int k (f i)) (.int k (g i))).run Tryz.prog w = .ok (f i==g i) w:=by
   simp [Op.equalIn,run_underlying hu]
  simp only [Op.eqItems,Sem.run_bind,p1,p2,p3,Result.andThen_ok];by_cases e:f i=g i
  ·refine ⟨r,by simpa [e] using hr,?_⟩
   rw [hi];simp [e]
  ·refine ⟨false,by simp [e],?_⟩
   simp [e]
theorem OO {e:TypeId} {k:IntKind} (hn:fd.name ≠ "_") (ht:fd.type=e) (ho:fd.offset=off) (hu:Tryz.prog.underlying e=some (.int k)) (MG:Tryz.prog.plainKey e=true) {a b:Int} (hx:xs[off]?=some (.int k a)) (hy:ys[off]?=some (.int k b)) (d:Nat) (fs:List Field) 
  (hr:(Op.eqFields (d+1) xs ys fs).run Tryz.prog w = .ok r w):(Op.eqFields (d+1) xs ys (fd::fs)).run Tryz.prog w = .ok (decide (a=b)&&r) w:=by
 subst ht;subst ho;have p1:=run_part_plain w MG hx;have p2:=run_part_plain w MG hy;have p3:(Op.equalIn (d+1) fd.type (.int k a) (.int k b)).run Tryz.prog w = .ok (a==b) w:=by simp [Op.equalIn,run_underlying hu]
 simp only [Op.eqFields,ne_eq,hn,not_false_eq_true,if_true,Sem.run_bind,p1,p2,p3,Result.andThen_ok];by_cases e:a=b
 ·subst e;simp [hr]
 ·simp [e]
theorem OP {t e:TypeId} {k:IntKind} (hn:fd.name ≠ "_") (ht:fd.type=t) (ho:fd.offset=off) (hut:Tryz.prog.underlying t=some (.array n e)) (Dg:Tryz.prog.cellsOf t=n) (hu:Tryz.prog.underlying e=some (.int k)) (MG:Tryz.prog.plainKey e=true) (hc:Tryz.prog.cellsOf e=1)
  {f g:Nat->Int} (hx:∀ i,i<n->xs[off+i]?=some (.int k (f i))) (hy:∀ i,i<n->ys[off+i]?=some (.int k (g i))) (d:Nat) (fs:List Field) 
  (hr:(Op.eqFields (d+2) xs ys fs).run Tryz.prog w = .ok r w):∃ q:Bool,(Op.eqFields (d+2) xs ys (fd::fs)).run Tryz.prog w = .ok (q&&r) w/\(q=true↔∀ i,i<n->f i=g i):=by
 subst ht;subst ho;obtain ⟨i0,NX⟩:∃ i,Tryz.prog.info? fd.type=some i:=info_of_underlying hut;obtain ⟨i1,hi1⟩:∃ i,Tryz.prog.info? e=some i:=info_of_underlying hu;have hagg:(isAgg fd.type).run Tryz.prog w = .ok true w:=by unfold isAgg;rw [Sem.run_bind,run_underlying hut w];rfl
 have pp:∀ zs:Array Value,(part fd.type zs fd.offset).run Tryz.prog w = .ok (.agg (zs.extract fd.offset (fd.offset+n))) w:=fun zs=>by
  simp [part,Sem.run_bind,hagg,run_sizeOf w NX,Dg]
 have ext:∀ (zs:Array Value) (h:Nat->Int),(∀ i,i<n->zs[fd.offset+i]?=some (.int k (h i)))->∀ i∈List.range n,(zs.extract fd.offset (fd.offset+n))[i]?=some (.int k (h i)):=fun zs h hz i hi=>by
  have Cm:i<n:=zaD;have:=hz i Cm;have BY:=(yL.1 this).1;rw [Array.getElem?_extract,if_pos zo,this]
 obtain ⟨q,hq,hiff⟩:=ON (w:=w) hu MG hc d (List.range n) (ext xs f hx) (ext ys g hy);have p3:=run_equalIn_array (P:=Tryz.prog) w (d+1) (xs.extract fd.offset (fd.offset+n)) (ys.extract fd.offset (fd.offset+n)) hut hi1;refine ⟨q,?_,by rw [hiff];simp⟩;simp only [Op.eqFields,ne_eq,hn,not_false_eq_true,if_true,Sem.run_bind,pp,Result.andThen_ok];rw [p3,hq];cases q
 ·simp
 ·simp [hr]
theorem As (w:World) (S S':xj):∃ r:Bool,(Op.equalIn 10000 56 (.agg S.row) (.agg S'.row)).run Tryz.prog w = .ok r w/\(r=true↔S.row=S'.row):=by
 have hf:(Tryz.prog.fieldsOf 56).toList=[(Tryz.prog.fieldsOf 56)[0]!,(Tryz.prog.fieldsOf 56)[1]!,(Tryz.prog.fieldsOf 56)[2]!,(Tryz.prog.fieldsOf 56)[3]!]:=zab;have gx:∀ (T:xj) {i:Nat},i<18->T.row[i]?=some (T.cellV i):=fun T {i} hi=>Qn hi
 obtain ⟨q3,h3,i3⟩:=OP (w:=w) (fd:=(Tryz.prog.fieldsOf 56)[3]!) (t:=54) (e:=23) (off:=10) (n:=8) (k := .u64) (xs:=S.row) (ys:=S'.row) (f:=fun i=>(S.marks i:Int)) (g:=fun i=>(S'.marks i:Int)) (by decide +kernel) zab zab Tryz.underlying54 zab Tryz.underlying23 zab zab
  (fun i hi=>(gx S zo).trans (by unfold xj.cellV;rw [if_neg zo,if_neg zo,if_neg zo,yA])) (fun i hi=>(gx S' zo).trans (by unfold xj.cellV;rw [if_neg zo,if_neg zo,if_neg zo,yA])) 9997 [] (r:=true) (by simp [Op.eqFields])
 obtain ⟨q2,h2,i2⟩:=OP (w:=w) (fd:=(Tryz.prog.fieldsOf 56)[2]!) (t:=53) (e:=52) (off:=2) (n:=8) (k := .u32) (xs:=S.row) (ys:=S'.row) (f:=fun i=>(S.roots i:Int)) (g:=fun i=>(S'.roots i:Int)) (by decide +kernel) zab zab Tryz.underlying53 zab Tryz.underlying52 zab zab
  (fun i hi=>(gx S zo).trans zap) (fun i hi=>(gx S' zo).trans zap) 9997 [(Tryz.prog.fieldsOf 56)[3]!] h3
 have h1:=OO (w:=w) (fd:=(Tryz.prog.fieldsOf 56)[1]!) (e:=52) (off:=1) (k := .u32) (xs:=S.row) (ys:=S'.row) (a:=(S.blocks:Int)) (b:=(S'.blocks:Int)) (by decide +kernel) zab zab Tryz.underlying52 zab (gx S zo) (gx S' zo) 9998 _ h2;have h0:=OO (w:=w) (fd:=(Tryz.prog.fieldsOf 56)[0]!) (e:=23) (off:=0) (k := .u64) (xs:=S.row) (ys:=S'.row) (a:=(S.gen:Int)) (b:=(S'.gen:Int)) (by decide +kernel) zab zab Tryz.underlying23 zab (gx S zo) (gx S' zo) 9998 _ h1;have hs:=run_equalIn_struct (P:=Tryz.prog) w 9999 56 S.row S'.row zab zab;rw [hf,h0] at hs;refine ⟨_,hs,?_⟩;simp only [Bool.and_eq_true,decide_eq_true_eq,and_true,i3,i2];constructor
 ·rintro ⟨e0,e1,e2,e3⟩
  refine XK fun i hi=>?_;unfold xj.valS;by_cases c0:i=0
  ·rw [if_pos c0,if_pos c0];omega
  ·rw [if_neg c0,if_neg c0]
   by_cases c1:i=1
   ·rw [if_pos c1,if_pos c1];omega
   ·rw [if_neg c1,if_neg c1]
    by_cases c2:i<10
    ·rw [if_pos c2,if_pos c2];have:=e2 (i - 2) zo;omega
    ·rw [if_neg c2,if_neg c2];have:=e3 (i - 10) zo;omega
 ·intro h
  have e:=mz h
  have v:∀ (T:xj) (i:Nat),i<8->T.valS (2+i)=T.roots i/\T.valS (10+i)=T.marks i:=fun T i hi=>by
   unfold xj.valS;rw [if_neg zo,if_neg zo,if_pos zo,if_neg zo,if_neg zo,if_neg zo,yA,yA];exact ⟨rfl,rfl⟩
  refine ⟨congrArg Nat.cast (e 0 zo),congrArg Nat.cast (e 1 zo),fun i hi=>?_,fun i hi=>?_⟩
  ·rw [<- (v S i hi).1,<- (v S' i hi).1,e _ zo]
  ·rw [<- (v S i hi).2,<- (v S' i hi).2,e _ zo]
theorem Bs.Ok.back_ok (h:B.Ok):B.back.Ok:=by
 have hs:iJ B.Kp B.T.n B.a:=h.kp;refine { n:=h.n,own:=⟨⟨h.own.ok.n0,h.own.ok.n1,fun k i hk hi h0=>⟨(h.own.ok.has k i hk hi h0).1,?_⟩,h.own.ok.apart⟩,h.own.nz,h.own.kept,h.own.kept⟩,a2:=h.a2,low:=fun b hb=>⟨(h.low b hb).2,(h.low b hb).2⟩,le:=fun b hb=>⟨(h.le b hb).2,(h.le b hb).2⟩,first:=h.first,nx:=h.nx,fr:=?_,fle:=(fun b f hb hf=>by cases hf),s:=hs,kp:=hs,sg:=rfl,disk:=h.disk,dle:=h.dle }
 ·show B.T.kept (B.a k i)≠0
  rw [h.own.kept k i hk hi];omega
 ·intro b hb
  constructor
  ·intro h;cases h
  ·rintro ⟨h1,h2⟩
   exact absurd h1 h2
theorem Bs.Ok.open_ok (h:B.Ok):B.open_.Ok:=by
 have hb:=h.back_ok;exact { hb with first:=rfl,nx:=⟨xd _,by show 2<=B.T.n;have:=h.n;omega⟩ }
theorem oY {Kp:xj} {o:Nat->Option xj} (hK:0<Kp.gen) (h1:o (Kp.gen % 2)=some Kp) (h2:∀ S,o (1 - Kp.gen % 2)=some S->S.gen<Kp.gen):xR o 2=Kp:=by
 rcases (show Kp.gen % 2=0∨Kp.gen % 2=1 by omega) with e | e
 ·rw [e] at h1 h2
  have b1:xR o 1=Kp:=Q5 h1 e hK
  cases ho:o 1 with
  | none=>rw [XM ho,b1]
  | some S=>rw [ZZ ho (fun q=>by rw [b1] at q;have:=h2 S ho;omega),b1]
 ·rw [e] at h1 h2
  refine Q5 h1 e ?_
  cases ho:o 0 with
  | none=>rw [XM ho];exact hK
  | some S =>
   by_cases hc:S.gen % 2=0/\(xR o 0).gen<S.gen
   ·rw [Q5 ho hc.1 hc.2];exact h2 S ho
   ·rw [ZZ ho hc];exact hK
theorem Bs.Ok.decs (h:B.Ok) {D:Nat->Nat->Nat} (hD:∀ b,b<B.T.n->∀ i,i<128->D b i=B.D b i):∃ o:Nat->Option xj,(∀ k,k<2->OC (D k) (o k))/\xR o 2=B.Kp:=by
 have:=h.n
 obtain ⟨o1,Hg,hx⟩:∃ o1:Option xj,OC (D (1 - B.Kp.gen % 2)) o1/\∀ S,o1=some S->S.gen<B.Kp.gen:=by
  rcases h.disk.oth with h0 | ⟨S',q1,q2,q3⟩
  ·exact ⟨none,by show D _ 0≠6;rw [hD _ zo 0 zo];exact h0,fun S e=>by cases e⟩
  ·exact ⟨some S',⟨q1,fun i hi=>by rw [hD _ zo i hi];exact q3 i hi⟩,fun S e=>by injection e with e;subst e;exact q2⟩
 refine ⟨fun k=>if k=B.Kp.gen % 2 then some B.Kp else o1,fun k hk=>?_,oY h.kp.ok.gen.1 (if_pos rfl) (fun S e=>hx S (by rw [if_neg zo] at e;exact e))⟩;by_cases e:k=B.Kp.gen % 2
 ·subst e
  show OC _ (if _=_ then _ else _)
  rw [if_pos rfl];exact ⟨h.kp.ok,fun i hi=>by rw [hD _ zo i hi];exact h.disk.sup i hi⟩
 ·obtain rfl:k=1 - B.Kp.gen % 2:=zo
  show OC _ (if _=_ then _ else _)
  rw [if_neg e];exact Hg
theorem sY (w:World) {S':xj} (h:S.row=S'.row):(Op.equalIn 10000 56 (.agg S.row) (.agg S'.row)).run Tryz.prog w = .ok true w:=by
 obtain ⟨r,h1,h2⟩:=As w S S';rw [h1,h2.2 h]
theorem oZ {a:Nat->Nat->Nat} (h:iJ S N a):(Qq S (pg (pg N)) (a 1) 2).row=S.row :=
 XK fun i hi=>QI (r:=fun i=>if i<2 then (if i<pg (pg N) then a 1 i else 0) else S.roots i) (r':=S.roots) fun h2 h10=>by
  show (if i - 2<2 then (if i - 2<pg (pg N) then a 1 (i - 2) else 0) else S.roots (i - 2))=S.roots (i - 2)
  by_cases e:i - 2<2
  ·rw [if_pos e,h.r _ e]
  ·rw [if_neg e]
theorem lF (M:Bm) (R:Br) (B:Bs) (n0 n1:Nat) (h0:n0=qd B.T.n 0) (h1:n1=qd B.T.n 1):Tryz.prog.built 58 [(0,zP M.d),(1,zP M.t),(2,zP M.p),(3,.agg #[zS (R.g 0) n0 (R.c 0),zS (R.g 1) n1 (R.c 1)]),(4,.map (some M.mf)),(5,.agg B.S.row),(6,.agg B.Kp.row),(7,.int .i64 ((B.Kp.gen % 2:Nat):Int))]=some (zK 44 (Xr M R B)):=by
 subst h0;subst h1
 kernel_rfl
theorem qJ (hg:o.guard=none) (t:TypeId) (x:Operand) (ho:o.op = .box t x) (hx:a.eval x = .agg cells)
  (h:wpList Tryz.prog ops Q rest (a.put o.dst (zP w.heap.size)) (w.alloc (.cells cells t))):wpList Tryz.prog ops Q (o::rest) a w:=by
 refine wpList_plain hg fun K hK=>?_;unfold Oper.wp execOp;simp only [ho,hx,Instr.box,newVar,Sem.run_bind,Sem.run_pure];simp [go_sem,Value.cells];exact hK _ _ h
theorem Vu (hg:o.guard=none) (t:TypeId) (Of:Array (Nat × Operand)) (ho:o.op = .build t Of) {ps:List (Nat × Value)} 
  (hp:(Of.map fun (i,x)=>(i,a.eval x)).toList=ps) (hb:Tryz.prog.built t ps=some cells) (h:wpList Tryz.prog ops Q rest (a.put o.dst (.agg cells)) w):wpList Tryz.prog ops Q (o::rest) a w:=by
 refine wpList_build hg t Of ho ?_ ?_
 ·rw [hp,hb];rfl
 ·rw [hp,hb];exact h

theorem am:(Tryz.prog.info? 181).map (fun i=>(i.zero,i.size,i.bytes))=some (some (.agg #[.nilFunc]),1,8):=zab
def Yf (w:World) (base dp n:Nat) (v:Value) (ops:List (Option (Nat × (Nat->Nat)))):Prop :=
 ∃ vs:List Value,w.ownsRow base 181 1 v ops.length vs/\∀ (i:Nat) (x:Option (Nat × (Nat->Nat))),ops[i]?=some x->∃ u:Value,vs[i]?=some u/\qk w dp n u x
theorem Yf.nil (w:World) (base dp n:Nat):Yf w base dp n (.slice none 0 0) []:=⟨[],yO _ _ _ _,fun i x h=>by cases h⟩
theorem Yf.mono {base':Nat} {ops:List (Option (Nat × (Nat->Nat)))} (h:Yf w base dp n v ops) (hb:base'<=base):Yf w base' dp n v ops:=by
 obtain ⟨vs,h1,h2⟩:=h;exact ⟨vs,OD h1 hb,h2⟩
theorem Xu {x:Option (Nat × (Nat->Nat))} (Cc:W.ownsRow base 181 1 v k vs) (hg:W.grownBy w5 v.ownBlock) (h:qk W dp n u x):qk w5 dp n u x:=by
 refine h.far ((zv.refl (qm v) W).grown hg (fun q hq => .inl (Xj.2 hq))) fun q hq cs T y DG=>?_;rw [Xj] at hq;rcases Cc.2 with ⟨rfl,_⟩ | ⟨gg,cc,BV,rfl,_,DM,_⟩
 ·cases hq
 ·have:gg=q:=by simpa [Value.ownBlock] using hq
  subst this;rw [DG] at DM;injection DM with DM;injection DM with _ e _;subst e;decide
theorem bF {wr w3:World} {v':Value} {ops:List (Option (Nat × (Nat->Nat)))} {x:Nat × (Nat->Nat)} (hk:ops.length=k) (Cc:wr.ownsRow base 181 1 v k vs)
  (DC:∀ (i:Nat) (x:Option (Nat × (Nat->Nat))),ops[i]?=some x->∃ u:Value,vs[i]?=some u/\qk wr dp n u x) (Ev:qk w3 dp n u (some x)) (Ci:zv [] w3 W) (Cd:zv [] wr W)
  (BT:w5.ownsRow base 181 1 v' (k+1) (vs++[u])) (hg:W.grownBy w5 v.ownBlock):Yf w5 base dp n v' (ops++[some x]):=by
 have hrW:=Z4 Cc Cd zaa;have B9:vs.length=k:=by have:=Cc.1;simpa using this
 refine ⟨vs++[u],by rw [ym,hk];exact BT,fun i y hy=>?_⟩;by_cases hi:i<ops.length
 ·rw [yI hi] at hy
  obtain ⟨u',h1,h2⟩:=DC i y hy;refine ⟨u',by rw [yI zo];exact h1,Xu hrW hg (h2.on Cd)⟩
 ·rw [yF zo] at hy
  have e:i=ops.length:=by
   by_cases q:i=ops.length
   ·exact q
   ·rw [List.getElem?_eq_none zae] at hy;cases hy
  subst e;rw [Nat.sub_self] at hy;injection hy with hy;subst hy;refine ⟨u,by rw [yF zo,B9,hk,Nat.sub_self];rfl,Xu hrW hg (Ev.on Ci)⟩
theorem lG {t bc bk:Nat} {T:zW} {u0 u1 z0 z1:Value} {A:Nat->Nat->Nat} {g c:zF} {l0 l1:List Nat} (HT:zJ w t bc bk T) (hN:T.n=N) (hn:1<=N/\N<=4096) (Dl:∀ i,i<N->T.now i<65536) (Dt:l0.length<=4096) (Dj:l1.length<=4096) (hv:gQ w u0 u1 A (qd N) g c)
  (s0:Y9 w z0 l0) (s1:Y9 w z1 l1) (h0:∀ i,i<l0.length->l0.getD i 0<qd N 0) (h1:∀ i,i<l1.length->l1.getD i 0<qd N 1) (hA:∀ k i,k<2->i<qd N k->A k i<N) :
  zC 94 #[zP dp,zP t,.agg #[u0,u1],z0,z1] w fun e w'=>∃ v,e = .returned v /\
   Yf w' w.heap.size dp N v ((l0.map fun i=>some (A 0 i,Xi 5 N T.now i))++(l1.map fun i=>some (A 1 i,Xi 4 (pg N) (A 0) i)))/\zv [] w w':=by
 obtain ⟨a0,b0,e0⟩:=s0.len;obtain ⟨a1,b1,e1⟩:=s1.len;have eu0:=hv.e0;have eu1:=hv.e1;subst e0;subst e1;subst eu0;subst eu1;obtain ⟨n0,Ha⟩:=zE l0.length;obtain ⟨n1,Iz⟩:=zE l1.length;rw [<- Ha,<- Iz];have H:=zh (zA HT (zA hv (zA s0 (zA s1 (zA h0 (zA h1 hA))))));have HN:=zh (zA hN (zA Ha Iz));clear HT hv s0 s1 h0 h1 hA hN Ha Iz;go_enter Tryz.func94,Tryz.ntmps94;go_wp2_with fail;have hx:=xo w (.cells #[zS (g 0) (qd N 0) (c 0),zS (g 1) (qd N 1) (c 1)] 50);have hxc:zv [] w (w.alloc (.cells #[zS (g 0) (qd N 0) (c 0),zS (g 1) (qd N 1) (c 1)] 50)):=(zv.refl [] w).alloc _;obtain ⟨wA,hwA⟩:=zE (w.alloc (.cells #[zS (g 0) (qd N 0) (c 0),zS (g 1) (qd N 1) (c 1)] 50));rw [<- hwA] at hx hxc ⊢;have HX:=zh (zA hx hxc);clear hwA hx hxc
 go_loopw [11,22] (fun v s wr=>∃ k:Nat,k<=n0/\s = .int .i64 (k:Int)/\Hd (Yf wr wA.heap.size dp N v ((l0.take k).map fun i=>some (A 0 i,Xi 5 N T.now i))/\zv [] wA wr)) (fun _ s _=>n0 - (intOf s).toNat)
 case atStart=>exact ⟨0,yg _,zac,zh ⟨Yf.nil _ _ _ _,zv.refl _ _⟩⟩
 case round =>
  obtain ⟨k,hk,rfl,hH⟩:=hrel;by_cases BY:k<n0
  ·have Da:=HX.2.trans hH.2
   obtain ⟨x,Pp⟩:=zE (l0.getD k 0)
   have BX:∃ gz,a0=some ⟨gz,0,none⟩/\wr.cell? ⟨gz,k,none⟩=some (.int .i64 (x:Int)):=by
    rcases H.2.2.1 with ⟨e,e2⟩ | ⟨gz,cap,e,q1,q2,q3,q4⟩
    ·have:=HN.2.1;rw [e2] at this;simp at this;omega
    ·injection e with e _ _
     exact ⟨gz,e,(Da.cell (p:=⟨gz,k,none⟩) q3 zaa).trans (by rw [Pp];exact q4 k (zq HN.2.1))⟩
   obtain ⟨gz,rfl,hcz⟩:=BX;have C5:x<qd N 0:=by rw [Pp];exact H.2.2.2.2.1 k (zq HN.2.1)
   have Tc:61*x<N:=by unfold qd pg at C5;simp at C5;omega
   have i1:(k:Int)<(n0:Int):=zo;have ct:=ou (H.1.chg Da) x (by rw [HN.1];exact Tc);have CT:=zh ct;have HXE:=zh Pp;clear ct Pp Da;go_wp2_with fail;refine CT.mono ?_;rintro e w1 ⟨v1,rfl,Cc,B5⟩;rw [HN.1,show min (61*x+61) N - 61*x=min 61 (N - 61*x) by omega] at Cc;obtain ⟨va,vc,rfl,IG,hvm,hU⟩:=VX (l:=fun j=>T.now (61*x+j)) Cc (fun i hi=>Dl _ zo);have ce:=Oz (kind:=5) (cap:=vc) (.inr rfl) (show min 61 (N - 61*x)<=61 by omega) hU;have CE:=zh ce;have Ce:=zh B5;clear Cc hU ce B5 CT;go_wp2_with fail;refine CE.mono ?_;clear CE;rintro e w2 ⟨gp,rfl,IW,P5,BW⟩;have Da:=HX.2.trans (hH.2.trans (Ce.trans BW));have FG:=hH.2.trans (Ce.trans BW);have Et:=zz HX.1;have x0:=(FG.cell (p:=⟨w.heap.size,0,none⟩) Et zaa).trans (zM HX.1 0);simp only [tA1,tA3] at x0;obtain ⟨y,hy⟩:=zE (A 0 x);have Np:y<N:=by rw [hy];exact H.2.2.2.2.2.2 0 x zo C5
   have y0:w2.cell? ⟨g 0,x,none⟩=some (.int .i64 (y:Int)):=by
    rcases H.2.1.l 0 zo with ⟨e,_⟩ | ⟨gg,cap,e,q1,q2,q3,q4⟩
    ·cases e
    ·injection e with e _ _
     injection e with e;injection e with e;have:=q4 x (by rw [xF];exact C5);rw [Y0 _ _ C5,<- e] at this;rw [hy];exact (Da.cell (p:=⟨g 0,x,none⟩) (by rw [e];exact q3) zaa).trans this
   have i2:(x:Int)<(qd N 0:Int):=zo;have D5:zB w2 gp 0 128 (Qy 5 (min 61 (N - 61*x)) fun j=>T.now (61*x+j)):=fun i hi=>⟨by rw [yn,zM IW,xL hi],Vm zo zo i⟩;have cp:=Vn (dp:=dp) (cap:=128) Np (xd _) D5 ⟨_,_,IW⟩;have CP:=zh cp;have BZ:=zh (zA BW (zA hy FG));clear Da FG D5 cp IW P5 BW hy;go_wp2_with fail;refine CP.mono ?_;clear CP;rintro e w3 ⟨gf,lb,rfl,Ev,Ci⟩;obtain ⟨vs,Cc,DC⟩:=hH.1;have GR:=xo w3 (.cells #[.func gf #[] lb] 181);have Cd:zv [] wr (w3.alloc (.cells #[.func gf #[] lb] 181)):=((Ce.trans BZ.1).trans Ci).alloc _;have Dg:=Cd.size;have Hk:=hH.2.size;have FG:=hH.2;rw [show ((l0.take k).map fun i=>some (A 0 i,Xi 5 N T.now i)).length=k by rw [yX,yV];have:=HN.2.1;omega] at Cc;have Gb:k<=4096:=zq HN.2.1
   have HS:=zh (zA Ev (zA Ci (zA Cc (zA DC (zA GR Cd)))));have ES:=zh FG;clear Ev Ci Cc DC GR Cd hH FG;go_wp2_with (at_builtin;refine x9 rfl _ _ 183 rfl rfl (base:=wA.heap.size) (size:=1) (n:=k) (m:=1) (xs:=vs) (news:=[.func gf #[] lb]) Tryz.underlying183 am rfl zo zo rfl rfl (Z4 HS.2.2.1 HS.2.2.2.2.2 zaa) (xQ.blk HS.2.2.2.2.1 rfl (fun u hu=>by simp at hu;subst hu;rfl)) zo (qh Hk Dg) ?_;intro v' w5 Cf Dd Ec;have H5:=zh (zA Cf (zA Dd Ec));clear Cf Dd Ec)
   go_roundw
   case rel =>
    have hce:=HXE.o
    have e1:l0.take (k+1)=l0.take k++[x]:=by
     rw [List.take_add_one];congr 1;have De:k<l0.length:=zq HN.2.1;rw [HXE.o,yt De,zgD,yt De];rfl
    refine ⟨k+1,zo,zac,zh ⟨?_,(ES.trans HS.2.2.2.2.2).grown H5.2.1 (fun q hq => .inr (HS.2.2.1.lt q hq).1)⟩⟩;rw [e1,List.map_append];have:=bF (by rw [yX,yV];have:=HN.2.1;omega) HS.2.2.1 HS.2.2.2.1 HS.1 ((zv.refl [] w3).alloc _) HS.2.2.2.2.2 H5.1 H5.2.1;rw [BZ.2.1] at this;exact this
   case measure=>simp [intOf];omega
  ·obtain rfl:k=n0:=zo
   have Wb:(l0.take k).map (fun i=>some (A 0 i,Xi 5 N T.now i))=l0.map (fun i=>some (A 0 i,Xi 5 N T.now i)):=by rw [ze (zq HN.2.1)]
   have HD:=zh (zA (Wb▸hH.1) hH.2);clear Wb hH;obtain ⟨O0,hO0⟩:=zE (l0.map (fun i=>some (A 0 i,Xi 5 N T.now i)));rw [<- hO0] at HD;have hOl:O0.length=k:=by rw [hO0,yX];exact HN.2.1.symm
   have HO:=zh hO0;clear hO0;go_wp2_with fail
   go_loopw [11,47] (fun v s wr=>∃ m:Nat,m<=n1/\s = .int .i64 (m:Int)/\Hd (Yf wr wA.heap.size dp N v (O0++(l1.take m).map fun i=>some (A 1 i,Xi 4 (pg N) (A 0) i))/\zv [] wA wr)) (fun _ s _=>n1 - (intOf s).toNat)
   case atStart=>exact ⟨0,yg _,zac,zh ⟨by rw [List.take_zero,List.map_nil,yY];exact HD.1,HD.2⟩⟩
   case round =>
    obtain ⟨m,hm,rfl,hH⟩:=hrel;by_cases BY:m<n1
    ·have Da:=HX.2.trans hH.2
     obtain ⟨x,Pp⟩:=zE (l1.getD m 0)
     have BX:∃ gz,a1=some ⟨gz,0,none⟩/\wr.cell? ⟨gz,m,none⟩=some (.int .i64 (x:Int)):=by
      rcases H.2.2.2.1 with ⟨e,e2⟩ | ⟨gz,cap,e,q1,q2,q3,q4⟩
      ·have:=HN.2.2;rw [e2] at this;simp at this;omega
      ·injection e with e _ _
       exact ⟨gz,e,(Da.cell (p:=⟨gz,m,none⟩) q3 zaa).trans (by rw [Pp];exact q4 m (zq HN.2.2))⟩
     obtain ⟨gz,rfl,hcz⟩:=BX;have C5:x<qd N 1:=by rw [Pp];exact H.2.2.2.2.2.1 m (zq HN.2.2)
     have e0:qd N 0=pg N:=rfl;have Tc:61*x<qd N 0:=by rw [e0];have:qd N 1=pg (pg N):=rfl;rw [this] at C5;unfold pg at C5 ⊢;omega
     have hNN:qd N 0<=4096:=by rw [e0];unfold pg;omega
     have i1:(m:Int)<(n1:Int):=zo;have Et:=zz HX.1;have x0:=(hH.2.cell (p:=⟨w.heap.size,0,none⟩) Et zaa).trans (zM HX.1 0);simp only [tA1,tA3] at x0
     have EX:qd N 0<=c 0/\c 0<=maxLen/\g 0<w.heap.size/\∀ i,i<qd N 0->w.cell? ⟨g 0,i,none⟩=some (.int .i64 (A 0 i:Int)):=by
      rcases H.2.1.l 0 zo with ⟨e,_⟩ | ⟨gg,cap,e,q1,q2,q3,q4⟩
      ·cases e
      ·injection e with e e2 e3
       injection e with e;injection e with e;rw [e3,e2,e];refine ⟨q1,q2,q3,fun i hi=>?_⟩;have:=q4 i hi;rw [<- e2] at hi;rw [Y0 _ _ hi] at this;exact this
     have TI:=oA (w:=wr) (g:=g 0) (i:=x) Tc zo EX.1 EX.2.1
     have UM:=Vo (w:=wr) (g:=g 0) (o:=61*x) (a:=some ⟨g 0,61*x,none⟩) (n:=min 61 (qd N 0 - 61*x)) (c:=c 0 - 61*x) (l:=fun j=>A 0 (61*x+j)) zo zo (fun i hi=>by have:=H.2.2.2.2.2.2 0 (61*x+i) zo zo;omega)
      (fun _=>⟨rfl,qe EX.2.2.1 Da.size,fun i hi=>(Da.cell (p:=⟨g 0,61*x+i,none⟩) EX.2.2.1 zaa).trans (EX.2.2.2 _ zo)⟩)
     have CNM:=zh UM;have HXE:=zh Pp;have hG0:=zh EX;have E0:=zh e0;have CPT:=zh TI;clear UM Pp Da EX e0 TI;go_wp2_with fail;refine zm CPT ?_;go_wp2_with fail;refine CNM.mono ?_;rintro e w1 ⟨v1,rfl,Cc,B5⟩;obtain ⟨va,vc,rfl,IG,hvm,hU⟩:=VX Cc (fun i hi=>by have:=H.2.2.2.2.2.2 0 (61*x+i) zo zo;omega);have ce:=Oz (kind:=4) (cap:=vc) (.inl rfl) (show min 61 (qd N 0 - 61*x)<=61 by omega) hU;have CE:=zh ce;have Ce:=zh B5;clear Cc hU ce B5 CNM CPT;go_wp2_with fail;refine CE.mono ?_;clear CE;rintro e w2 ⟨gp,rfl,IW,P5,BW⟩;have Da:=HX.2.trans (hH.2.trans (Ce.trans BW));have FG:=hH.2.trans (Ce.trans BW);have x1:=(FG.cell (p:=⟨w.heap.size,1,none⟩) Et zaa).trans (zM HX.1 1);simp only [tA1,tA3,tA2] at x1;obtain ⟨y,hy⟩:=zE (A 1 x);have Np:y<N:=by rw [hy];exact H.2.2.2.2.2.2 1 x zo C5
     have y0:w2.cell? ⟨g 1,x,none⟩=some (.int .i64 (y:Int)):=by
      rcases H.2.1.l 1 zo with ⟨e,_⟩ | ⟨gg,cap,e,q1,q2,q3,q4⟩
      ·cases e
      ·injection e with e _ _
       injection e with e;injection e with e;have:=q4 x (by rw [xF];exact C5);rw [Y0 _ _ C5,<- e] at this;rw [hy];exact (Da.cell (p:=⟨g 1,x,none⟩) (by rw [e];exact q3) zaa).trans this
     have i2:(x:Int)<(qd N 1:Int):=zo;have D5:zB w2 gp 0 128 (Qy 4 (min 61 (qd N 0 - 61*x)) fun j=>A 0 (61*x+j)):=fun i hi=>⟨by rw [yn,zM IW,xL hi],Vm zo zo i⟩;have cp:=Vn (dp:=dp) (cap:=128) Np (xd _) D5 ⟨_,_,IW⟩;have CP:=zh cp;have BZ:=zh (zA BW (zA hy FG));clear Da FG D5 cp IW P5 BW hy;go_wp2_with fail;refine CP.mono ?_;clear CP;rintro e w3 ⟨gf,lb,rfl,Ev,Ci⟩;obtain ⟨vs,Cc,DC⟩:=hH.1;have GR:=xo w3 (.cells #[.func gf #[] lb] 181);have Cd:zv [] wr (w3.alloc (.cells #[.func gf #[] lb] 181)):=((Ce.trans BZ.1).trans Ci).alloc _;have Dg:=Cd.size;have Hk:=hH.2.size;have FG:=hH.2;have hOm:(O0++(l1.take m).map fun i=>some (A 1 i,Xi 4 (pg N) (A 0) i)).length=k+m:=by rw [ym,hOl,yX,yV];have:=HN.2.2;omega
     rw [hOm] at Cc;have Gb:k+m<=10000:=zq HN.2;have HS:=zh (zA Ev (zA Ci (zA Cc (zA DC (zA GR Cd)))));have ES:=zh (zA FG hOm);clear Ev Ci Cc DC GR Cd hH FG hOm;go_wp2_with (at_builtin;refine x9 rfl _ _ 183 rfl rfl (base:=wA.heap.size) (size:=1) (n:=k+m) (m:=1) (xs:=vs) (news:=[.func gf #[] lb]) Tryz.underlying183 am rfl zo zo rfl rfl (Z4 HS.2.2.1 HS.2.2.2.2.2 zaa) (xQ.blk HS.2.2.2.2.1 rfl (fun u hu=>by simp at hu;subst hu;rfl)) zo (qh Hk Dg) ?_;intro v' w5 Cf Dd Ec;have H5:=zh (zA Cf (zA Dd Ec));clear Cf Dd Ec)
     go_roundw
     case rel =>
      have e1:l1.take (m+1)=l1.take m++[x]:=by
       rw [List.take_add_one];congr 1;have De:m<l1.length:=zq HN.2.2;rw [HXE.o,yt De,zgD,yt De];rfl
      refine ⟨m+1,zo,zac,zh ⟨?_,(ES.1.trans HS.2.2.2.2.2).grown H5.2.1 (fun q hq => .inr (HS.2.2.1.lt q hq).1)⟩⟩;rw [e1,List.map_append,<- zf];have:=bF ES.2 HS.2.2.1 HS.2.2.2.1 HS.1 ((zv.refl [] w3).alloc _) HS.2.2.2.2.2 H5.1 H5.2.1;rw [BZ.2.1,E0.o] at this;exact this
     case measure=>simp [intOf];omega
    ·obtain rfl:m=n1:=zo
     have TO:(l1.take m).map (fun i=>some (A 1 i,Xi 4 (pg N) (A 0) i))=l1.map (fun i=>some (A 1 i,Xi 4 (pg N) (A 0) i)):=by rw [ze (zq HN.2.2)]
     have PA:=zh (zA (TO▸hH.1) hH.2);clear TO hH;go_wp2_with fail;go_ret;refine ⟨_,rfl,?_,HX.2.trans PA.2⟩;have:=PA.1.mono (base':=w.heap.size) HX.2.size;rw [HO.o] at this;exact this
end Go.Proofs.YtegpiomkmfhadaaGreat
