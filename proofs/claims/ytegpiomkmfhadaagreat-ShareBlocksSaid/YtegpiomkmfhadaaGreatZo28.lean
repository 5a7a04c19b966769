/- node.halves. · Layer 13's statements: R -/
import Derived.Test.YtegpiomkmfhadaaGreatZo27
set_option linter.all false
set_option maxRecDepth 100000
set_option maxHeartbeats 20000000
namespace Go.Proofs.YtegpiomkmfhadaaGreat
open Go.RowKit
variable {b n g c k i size:Nat} {w w':World} {v:Value} {f:zF} {P:Program} {l:zL} {p:Nat × Nat} {xs:List Value}
def xP (base:Nat) (w:World) (v:Value) (n:Nat) (f:zF):Prop:=∃ g c,v = zS g n c/\n<=c/\c<=maxLen/\base<=g/\zQ w g n f
theorem xP.chg {base n:Nat} {L:List Nat} {w w':World} {v:Value} {f:zF} (h:xP base w v n f) (c:zv L w w') (hL:∀ q,q∈L->q<base∨w.heap.size<=q:=by simp):xP base w' v n f:=by
 obtain ⟨g,k,rfl,h1,h2,h3,h4⟩:=h;exact ⟨g,k,rfl,h1,h2,h3,h4.chg c fun hm=>by have:=hL g hm;have:=h4.lt;omega⟩
theorem xP.base {b':Nat} (h:xP b w v n f) (hb:b'<=b):xP b' w v n f:=by
 obtain ⟨g,k,rfl,h1,h2,h3,h4⟩:=h;exact ⟨g,k,rfl,h1,h2,zo,h4⟩
theorem xP.nums {A:List Nat} {base n:Nat} {w:World} {v:Value} {f:zF} (h:xP base w v n f) (hA:∀ q,q∈A->q<base:=by simp):zT A w v n f:=by
 obtain ⟨g,k,rfl,h1,h2,h3,h4⟩:=h;exact .inr ⟨g,0,k,rfl,h1,h2,h4.lt,fun hm=>by have:=hA g hm;omega,h4.nums⟩
theorem xP.lt {base:Nat} (h:xP base w v n f):∀ i,i<n->f i<18446744073709551616:=by
 obtain ⟨g,k,rfl,h1,h2,h3,h4⟩:=h;exact fun i hi=>(h4.nums i hi).2
def au (base:Nat) (w:World) (v:Value):Prop:=∃ p,v = zP p/\base<=p/\w.heap[p]?=some (.cells #[.bool false,.slice none 0 0,.slice none 0 0] 42 (0,0))
theorem au.chg {base:Nat} (h:au base w v) (c:zv [] w w'):au base w' v:=by
 obtain ⟨p,rfl,h1,h2⟩:=h;exact ⟨p,rfl,h1,c.kp h2⟩
def vJ (base:Nat) (w:World) (v:Value) (leaf:Bool) (k:Nat) (f f':zF):Prop:=∃ v1 v2,v = .agg #[.bool leaf,v1,v2]/\xP base w v1 k f/\xP base w v2 k f'
theorem vJ.chg {base k:Nat} {w w':World} {v:Value} {leaf:Bool} {f f':zF} (h:vJ base w v leaf k f f') (c:zv [] w w'):vJ base w' v leaf k f f':=by
 obtain ⟨v1,v2,e,h1,h2⟩:=h;exact ⟨v1,v2,e,h1.chg c,h2.chg c⟩
def bX (w:World) (v a b:Value):Prop:=∃ p,v = zS p 2 2/\w.heap[p]?=some (.cells #[a,b] 40 (0,0))
theorem bX.chg {a b:Value} (h:bX w v a b) (c:zv [] w w'):bX w' v a b:=by
 obtain ⟨p,e,h1⟩:=h;exact ⟨p,e,c.kp h1⟩
theorem lU {fn:Func} {tmps:Array Value} {a:Nat} {p q:Addr} {t s:TypeId} {u:Value} (h:fn.results=#[.cell a t,.cell b s]) (ha:tmps.getD a undef = .pointer (some p)) (hb:tmps.getD b undef = .pointer (some q)) (hl:(loadVar t p).run P w = .ok v w) (DI:(loadVar s q).run P w = .ok u w) :
  (results fn tmps).run P w = .ok (.tuple #[v,u]) w:=by
 have M7:tmps[a]?.getD undef = .pointer (some p):=by simpa using ha
 have LA:tmps[b]?.getD undef = .pointer (some q):=by simpa using hb
 simp [results,h,M7,LA,asAddr,hl,DI,Sem.run_bind,Result.andThen]
theorem pk {leaf:Bool} {g' c' t:Nat} {f':zF} (rk:zQ w g t f) (rv:zQ w g' t f') (h2:2<=t) (ht:t<=100) (hc:t<=c) (G7:t<=c') (hm:c<=maxLen) (Fx:c'<=maxLen) (hk:k=(t+1) / 2) :
  zC 210 #[.bool leaf,zS g t c,zS g' t c'] w fun e w'=>∃ v1 v2 v3 v4,e = .returned (.tuple #[.agg #[.bool leaf,v1,v2],.agg #[.bool leaf,v3,v4]]) /\
   xP w.heap.size w' v1 k f/\xP w.heap.size w' v2 k f'/\xP w.heap.size w' v3 (t - k) (fun j=>f (k+j))/\xP w.heap.size w' v4 (t - k) (fun j=>f' (k+j))/\zv [] w w':=by
 have b0:=xo w (.cells #[.bool false,.slice none 0 0,.slice none 0 0] 42);have d0:=(zv.refl [] w).alloc (.cells #[.bool false,.slice none 0 0,.slice none 0 0] 42);have s1:(w.alloc (.cells #[.bool false,.slice none 0 0,.slice none 0 0] 42)).heap.size=w.heap.size+1:=zD _ _;have b1:=xo (w.alloc (.cells #[.bool false,.slice none 0 0,.slice none 0 0] 42)) (.cells #[.bool false,.slice none 0 0,.slice none 0 0] 42);have d1:=d0.alloc (.cells #[.bool false,.slice none 0 0,.slice none 0 0] 42);have b2:=(((zv.refl [] _).alloc (.cells #[.bool false,.slice none 0 0,.slice none 0 0] 42)).block w.heap.size (zz b0) zaa).trans b0;rw [s1] at b1;obtain ⟨W,hW⟩:=zE ((w.alloc (.cells #[.bool false,.slice none 0 0,.slice none 0 0] 42)).alloc (.cells #[.bool false,.slice none 0 0,.slice none 0 0] 42));rw [<- hW] at b1 d1 b2;have n1:Zi W g 0 k f:=fun j hj=>(rk.chg d1).nums j zo;have n2:Zi W g' 0 k f':=fun j hj=>(rv.chg d1).nums j zo;have n3:Zi W g k (t - k) fun j=>f (k+j):=fun j hj=>by have:=(rk.chg d1).nums (k+j) zo;rwa [yn] at this
 have n4:Zi W g' k (t - k) fun j=>f' (k+j):=fun j hj=>by have:=(rv.chg d1).nums (k+j) zo;rwa [yn] at this
 have c1:∀ W1,zv [] W W1->_:=fun W1 q=>Z9 (cap:=c) (n1.chg q) zo zo;have c2:∀ W1,zv [] W W1->_:=fun W1 q=>Z9 (cap:=c') (n2.chg q) zo zo;have c3:∀ W1,zv [] W W1->_:=fun W1 q=>Z9 (cap:=c - k) (n3.chg q) zo zo;have c4:∀ W1,zv [] W W1->_:=fun W1 q=>Z9 (cap:=c' - k) (n4.chg q) zo zo;have C12:=zh (zA c1 c2);have Tq:=zh (zA c3 c4);have HB:=zh (zA b2 (zA b1 (zA d1 s1)));have hs:=d1.size;have Dj:=zz b1;have e1:IntKind.i64.wrap ((t:Int)+1)=(t:Int)+1:=yv _ zo;have e2:Int.tdiv ((t:Int)+1) 2=(k:Int):=by rw [Int.tdiv_eq_ediv_of_nonneg zo];omega
 have e3:((t:Int)+1) / 2=(k:Int):=zo;have e4:(t:Int) - (k:Int)=((t - k:Nat):Int):=zo;have i1:¬ c=k:=zo;have i2:¬ c'=k:=zo;have i3:(k:Int)<=(t:Int):=zo;have i4:k<=c/\k<=c':=zo;clear c1 c2 c3 c4 n1 n2 n3 n4 b1 d1 b2 b0 d0 rk rv s1 hk;go_enter Tryz.func210,Tryz.ntmps210;go_upto_region 2 with fail;rw [<- hW];clear hW;refine wp_region_held_drew (S:=fun _=>True) zab (by exact trivial) fun BS=>?_;refine mq 0 ?_;refine mq 1 ?_;refine mq 2 ?_;refine mq 3 ?_;refine mq 5 ?_;refine mq 6 ?_;refine mq 7 ?_;refine zu ?_
 refine bW (fuel:=1) (H:=[4,8,9,10]) (deps:=fun | 9=>[4,8] | _=>[]) (C:=fun W1=>zv [] W W1) (R:=fun W1 W2=>zv [] W1 W2) (Post:=fun i v W1=>match i with | 4=>xP W.heap.size W1 v k f | 8=>xP W.heap.size W1 v k f' | 9=>vJ W.heap.size W1 v leaf k f f' | _=>au W.heap.size W1 v) zab zab zab (fun _ _ _ d _ h=>by cases d <;> exact h) (fun j v w1 w2 h=>by split <;> intro h1 <;> first | exact h1.chg h | exact h1.chg h) (fun _ _=>trivial) ((zv.refl [] W).drew) ?_ ?_;refine qo.cons (o:=?_) ?_ (fun fv W1 hC hD K hK=>?_) ?_
 rotate_left 1
 ·(simp only [tA1,tA2,tA3];rfl)
 ·simp only [xa,qn,qg,Option.bind_some,tA1,tA2,tA3,Act.put,sA1,sA2,sA3]
  (go_simp;refine (C12.1 _ hC).mono ?_;rintro e W2 ⟨g1,q1,rfl,p1,p2,p3,p4,p5⟩)
  exact hK.out _ _ ⟨zS g1 k q1,by first | rfl | (simp only [xa,qn,qg,Option.bind_some,tA1,tA2,tA3,Act.put,sA1,sA2,sA3] <;> simp only [*]),hC.trans p5,p5,⟨g1,q1,rfl,p1,p2,qh hC.size p3,p4⟩⟩
 refine qo.cons (o:=?_) ?_ (fun fv W1 hC hD K hK=>?_) ?_
 rotate_left 1
 ·(simp only [tA1,tA2,tA3];rfl)
 ·simp only [xa,qn,qg,Option.bind_some,tA1,tA2,tA3,Act.put,sA1,sA2,sA3]
  (go_simp;refine (C12.2 _ hC).mono ?_;rintro e W2 ⟨g1,q1,rfl,p1,p2,p3,p4,p5⟩)
  exact hK.out _ _ ⟨zS g1 k q1,by first | rfl | (simp only [xa,qn,qg,Option.bind_some,tA1,tA2,tA3,Act.put,sA1,sA2,sA3] <;> simp only [*]),hC.trans p5,p5,⟨g1,q1,rfl,p1,p2,qh hC.size p3,p4⟩⟩
 refine qo.cons (o:=?_) ?_ (fun fv W1 hC hD K hK=>?_) ?_
 rotate_left 1
 ·(simp only [tA1,tA2,tA3];rfl)
 ·simp only [xa,qn,qg,Option.bind_some,tA1,tA2,tA3,Act.put,sA1,sA2,sA3]
  (obtain ⟨g1,q1,e1,p1⟩:=hD 4 (show 4∈[4,8] by simp);obtain ⟨g2,q2,e2,p2⟩:=hD 8 (show 8∈[4,8] by simp);rw [e1,e2];go_simp)
  exact hK.out _ _ ⟨.agg #[.bool leaf,zS g1 k q1,zS g2 k q2],by first | rfl | (simp only [xa,qn,qg,Option.bind_some,tA1,tA2,tA3,Act.put,sA1,sA2,sA3] <;> simp only [*]),hC,zv.refl [] _,⟨_,_,rfl,⟨g1,q1,rfl,p1⟩,⟨g2,q2,rfl,p2⟩⟩⟩
 refine qo.cons (o:=?_) ?_ (fun fv W1 hC hD K hK=>?_) ?_
 rotate_left 1
 ·(simp only [tA1,tA2,tA3];rfl)
 ·simp only [xa,qn,qg,Option.bind_some,tA1,tA2,tA3,Act.put,sA1,sA2,sA3]
  go_simp;exact hK.out _ _ ⟨zP _,by first | rfl | (simp only [xa,qn,qg,Option.bind_some,tA1,tA2,tA3,Act.put,sA1,sA2,sA3] <;> simp only [*]),hC.alloc _,(zv.refl [] _).alloc _,⟨_,rfl,hC.size,xo _ _⟩⟩
 ·exact qo.nil
 clear BS;intro F W1 hC BS hP;simp only [xa,bV,qn,qg,Option.bind_some,tA1,tA2,tA3,Act.put,sA1,sA2,sA3];obtain ⟨v1,v2,e9,⟨g1,q1,rfl,a1,a2,a3,a4⟩,⟨g2,q2,rfl,z1,z2,z3,z4⟩⟩:=hP 9 zaa;obtain ⟨p9,e10,hp9,LB⟩:=hP 10 zaa;rw [e9,e10];have hl9:=zz LB;have hX:=JP LB (.bool leaf) (zS g1 k q1) (zS g2 k q2);have hCX:=xn W1 p9 (.bool leaf) (zS g1 k q1) (zS g2 k q2)
 have IW:g1≠p9/\g2≠p9:=by
  obtain ⟨_,b1⟩:=a4.blk;obtain ⟨_,b2⟩:=z4.blk;exact ⟨fun e=>by rw [e,LB] at b1;simp at b1,fun e=>by rw [e,LB] at b2;simp at b2⟩
 have HA:=zh (zA (show xP W.heap.size _ (zS g1 k q1) k f from ⟨g1,q1,rfl,a1,a2,a3,a4.chg hCX (by simpa using IW.1)⟩) (zA (show xP W.heap.size _ (zS g2 k q2) k f' from ⟨g2,q2,rfl,z1,z2,z3,z4.chg hCX (by simpa using IW.2)⟩) (zA (hC.tn hCX hp9) hX)));have f0:=xB LB 0;have f1:=xB LB 1;have f2:=xB LB 2;obtain ⟨u0,u1,u2⟩:=Za LB;clear hP e9 e10 a1 a2 a3 a4 z1 z2 z3 z4 hX hCX hC IW;refine wE 11 fun K hK=>?_;go_simp;refine hK.out _ _ ?_ (fun BS=>?_)
 ·trivial
 clear hK K;refine zu ?_;refine wpAnyH_done zab ?_ _;clear u0 u1 u2 f0 f1 f2 LB;obtain ⟨W2,FP⟩:=zE (((W1.setCell ⟨p9,0,none⟩ (.bool leaf)).setCell ⟨p9,1,none⟩ (zS g1 k q1)).setCell ⟨p9,2,none⟩ (zS g2 k q2));rw [<- FP] at HA;go_upto_region 3 with fail;rw [<- FP];clear FP;have hX:=HA.o.2.2.2;obtain ⟨u0,u1,u2⟩:=Za hX;have DI:=zz hX;have hCW:=HA.o.2.2.1.drew;refine wp_region_held_drew (S:=fun W'=>W'.cell? ⟨p9,0,none⟩=some (.bool leaf)/\W'.cell? ⟨p9,1,none⟩=some (zS g1 k q1)/\W'.cell? ⟨p9,2,none⟩=some (zS g2 k q2)) zab (by exact ⟨u0,u1,u2⟩) fun BS=>?_;refine wV 0 ?_ (hy:=by intro w' ⟨s0,s1,s2⟩;go_simp;first | done | with_reducible rfl);refine wV 1 ?_ (hy:=by intro w' ⟨s0,s1,s2⟩;go_simp;first | done | with_reducible rfl);refine wV 2 ?_ (hy:=by intro w' ⟨s0,s1,s2⟩;go_simp;first | done | with_reducible rfl);refine wV 3 ?_ (hy:=by intro w' ⟨s0,s1,s2⟩;go_simp;first | done | with_reducible rfl);refine wV 4 ?_ (hy:=by intro w' ⟨s0,s1,s2⟩;go_simp;first | done | with_reducible rfl);refine wV 6 ?_ (hy:=by intro w' ⟨s0,s1,s2⟩;go_simp;first | done | with_reducible rfl);refine wV 7 ?_ (hy:=by intro w' ⟨s0,s1,s2⟩;go_simp;first | done | with_reducible rfl);refine wV 8 ?_ (hy:=by intro w' ⟨s0,s1,s2⟩;go_simp;first | done | with_reducible rfl);refine zu ?_
 refine wE 5 (fun K hK=>?_)
 (go_simp;refine (Tq.1 _ hCW).mono ?_;rintro e W3 ⟨g3,q3,rfl,p1,p2,p3,p4,p5⟩;have HD:=zh (zA p1 (zA p2 (zA p3 (zA p4 (zA p5 (hCW.trans p5))))));have z0:=p5.ce u0 DI;have z1:=p5.ce u1 DI;have z2:=p5.ce u2 DI;have Nh:=qe DI p5.size;clear p1 p2 p3 p4 p5)
 refine hK.out _ _ (⟨z0,z1,z2⟩) fun BS=>?_;clear hK K;refine zu ?_;refine wE 9 (fun K hK=>?_)
 (go_simp;refine (Tq.2 _ HD.2.2.2.2.2).mono ?_;rintro e W4 ⟨g4,q4,rfl,p1,p2,p3,p4,p5⟩;have HE:=zh (zA p1 (zA p2 (zA p3 (zA p4 (zA p5 (HD.2.2.2.2.2.trans p5))))));have t0:=p5.ce z0 Nh;have t1:=p5.ce z1 Nh;have t2:=p5.ce z2 Nh;clear p1 p2 p3 p4 p5)
 refine hK.out _ _ (⟨t0,t1,t2⟩) fun BS=>?_;clear hK K;refine zu ?_;refine wV 10 ?_ (hy:=by intro w' ⟨s0,s1,s2⟩;go_simp;first | done | with_reducible rfl);refine zu ?_;have FD:=HE.2.2.2.2.2.kp HB.1;have FQ:=HE.2.2.2.2.2.kp HB.2.1;have f0:=xB FD 0;have f1:=xB FD 1;have f2:=xB FD 2;obtain ⟨r0,r1,r2⟩:=Za FD;have NL:=JP FD (.bool leaf) (zS g1 k q1) (zS g2 k q2);have hC6:=xn W4 w.heap.size (.bool leaf) (zS g1 k q1) (zS g2 k q2);have hb7b:=hC6.kp FQ;have H6:=zh (zA NL (zA hC6 hb7b));clear NL hC6 FQ FD;refine wE 11 fun K hK=>?_;go_simp;refine hK.out _ _ (⟨xX t0 zo,xX t1 zo,xX t2 zo⟩) fun BS=>?_;clear hK K;refine zu ?_
 clear r0 r1 r2 f0 f1 f2;obtain ⟨W5,KX⟩:=zE (((W4.setCell ⟨w.heap.size,0,none⟩ (.bool leaf)).setCell ⟨w.heap.size,1,none⟩ (zS g1 k q1)).setCell ⟨w.heap.size,2,none⟩ (zS g2 k q2));rw [<- KX] at H6 ⊢;have k0:W5.cell? ⟨p9,0,none⟩=some (.bool leaf):=by rw [KX];exact xX t0 zo
 have k1:W5.cell? ⟨p9,1,none⟩=some (zS g1 k q1):=by rw [KX];exact xX t1 zo
 have k2:W5.cell? ⟨p9,2,none⟩=some (zS g2 k q2):=by rw [KX];exact xX t2 zo
 clear KX;have FQ:=H6.2.2;have f0:=xB FQ 0;have f1:=xB FQ 1;have f2:=xB FQ 2;obtain ⟨r0,r1,r2⟩:=Za FQ;refine wE 12 fun K hK=>?_;go_simp;refine hK.out _ _ (⟨xX k0 zo,xX k1 zo,xX k2 zo⟩) fun BS=>?_;clear hK K;refine zu ?_
 refine wpAnyH_done zab ?_ _;go_wp2_with fail;have hC7:=xn W5 (w.heap.size+1) (.bool leaf) (zS g3 (t - k) q3) (zS g4 (t - k) q4);have fin:∀ {v:Value} {n:Nat} {F:zF},xP W.heap.size W4 v n F->xP w.heap.size (((W5.setCell ⟨w.heap.size+1,0,none⟩ (.bool leaf)).setCell ⟨w.heap.size+1,1,none⟩ (zS g3 (t - k) q3)).setCell ⟨w.heap.size+1,2,none⟩ (zS g4 (t - k) q4)) v n F:=fun h=>((h.chg H6.2.1 zad).chg hC7 zad).base zo;have hz:=HA.2.2.1.size;have Uc:=HD.2.2.2.2.2.size;refine bodyPost_ret (lU (a:=6) (b:=7) zab rfl rfl (Ju (hC7.kp H6.1)) (Ju (JP FQ _ _ _))) rfl ⟨_,_,_,_,rfl,fin ((HA.1.chg ((zv.refl [] W2).drew.trans HD.2.2.2.2.1)).chg HE.2.2.2.2.1),fin ((HA.2.1.chg ((zv.refl [] W2).drew.trans HD.2.2.2.2.1)).chg HE.2.2.2.2.1),fin ⟨g3,q3,rfl,HD.1,HD.2.1,qh hz HD.2.2.1,HD.2.2.2.1.chg HE.2.2.2.2.1⟩,fin ⟨g4,q4,rfl,HE.1,HE.2.1,qh Uc HE.2.2.1,HE.2.2.2.1⟩,?_⟩;exact ((HB.2.2.1.trans HE.2.2.2.2.2).then H6.2.1 (fun q hq=>by rw [zms] at hq;exact .inr zo)).then hC7 (fun q hq=>by rw [zms] at hq;exact .inr zo)
def dq (out:zL) (key:Nat):Nat->Nat
 | 0=>0
 | i+1=>if key<=xZ out i then dq out key i else i+1
theorem Oj {out:zL} {key:Nat} : ∀ i,(∀ j,i<=j->j<out.length->key<=xZ out j)->dq out key i<=i/\(∀ j,dq out key i<=j->j<out.length->key<=xZ out j)/\(dq out key i=0∨xZ out (dq out key i - 1)<key)
 | 0,h=>⟨xd _,h,.inl rfl⟩
 | i+1,h=>by
  unfold dq;by_cases e:key<=xZ out i
  ·rw [if_pos e]
   obtain ⟨h1,h2,h3⟩:=Oj i (fun j hj hl=>by
    by_cases e2:j=i
    ·subst e2;exact e
    ·exact h j zo hl)
   exact ⟨zo,h2,h3⟩
  ·rw [if_neg e]
   exact ⟨xd _,h,.inr (by rw [zg];omega)⟩
def jC (out:zL) (x:Nat × Nat):List (Nat × Nat):=Jy out x (dq out x.1 out.length)
def Yg (l:zL):List (Nat × Nat):=l.foldl jC []
theorem fh (hi:i<l.length):Yg (l.take (i+1))=jC (Yg (l.take i)) (l.getD i (0,0)):=by
 unfold Yg;rw [List.take_add_one,List.foldl_append,yt hi,qi hi];rfl
theorem pm {out:zL} {x:Nat × Nat} (h:p∈Jy out x i):p∈out∨p=x:=by
 unfold Jy at h
 split at h
 ·exact .inl h
 ·rcases yx.1 h with h | h
  ·exact .inl (List.mem_of_mem_take h)
  ·rcases ya.1 h with h | h
   ·exact .inr h
   ·exact .inl (List.mem_of_mem_drop h)
theorem gA {l:zL} (hu:Y4 l):∀ i,i<=l.length->Jw (Yg (l.take i))/\Y4 (Yg (l.take i))/\(Yg (l.take i)).length<=i/\(∀ p,p∈Yg (l.take i)->p∈l)/\(0<i->1<=(Yg (l.take i)).length)
 | 0,_=>⟨List.Pairwise.nil,fun p hp=>by simp [Yg] at hp,by simp [Yg],fun p hp=>by simp [Yg] at hp,fun h=>zo⟩
 | i+1,h=>by
  obtain ⟨h1,h2,h3,h4,h5⟩:=gA hu i zo;rw [fh zo];obtain ⟨a1,a2,a3⟩:=Oj (out:=Yg (l.take i)) (key:=(l.getD i (0,0)).1) (Yg (l.take i)).length (fun j hj hl=>zo);obtain ⟨b1,b2,b3⟩:=pd h1 h2 (hu.getD i) a1 a2 a3;refine ⟨b1,b2,by unfold jC;omega,fun p hp=>?_,fun _=>?_⟩
  ·rcases pm hp with q | q
   ·exact h4 p q
   ·rw [q,qi zo];exact zt _
  ·unfold jC Jy
   split
   ·rename_i q;omega
   ·simp;omega
theorem aw (hu:Y4 l):Jw (Yg l)/\Y4 (Yg l)/\(Yg l).length<=l.length/\(∀ p,p∈Yg l->p∈l)/\(0<l.length->1<=(Yg l).length):=by
 have:=gA hu l.length (xd _);rwa [List.take_length] at this
theorem lV (w:World) (g:Nat) (cs:Array Value):zv [g] w (w.setRow g cs):=⟨rfl,rfl,rfl,by simp [World.setRow],fun k _ hk=>setRow_other w g k _ (fun e=>hk (by simp [e]))⟩
theorem dt (w:World) (dT sT ty DS:TypeId) (g o DV E7 sz:Nat) (a:Addr) (DZ Fb:Nat) (BV:Array Value) (t:TypeId) (cs:List Value)
  (hu:P.underlying dT=some (.slice DS)) (hs:(P.info? DS).map (·.size)=some sz)
  (hg:w.heap[g]?=some (.cells BV t (0,0))) (hn:cs.length=Nat.min DZ DV*sz)
  (EN:∀ j v,cs[j]?=some v->w.cell? (a.add j)=some v) (Ea:o+cs.length<=BV.size) (h1:∀ v∈cs,v.oneCell'=true) :
  (Builtin.copy_ #[dT,sT] ty #[.slice (some ⟨g,o,none⟩) DV E7,.slice (some a) DZ Fb]).run P w =
   .ok (goInt (Nat.min DZ DV)) (w.setRow g (BV.toList.take o++cs++BV.toList.drop (o+cs.length)).toArray):=by
 have hl:=run_loadCells_list (P:=P) w a cs EN;have Ev:=run_storeCells_at P g o t cs 0 BV w hg (by simpa using Ea) h1
 cases hq:P.info? DS with
 | none=>simp [hq] at hs
 | some i =>
  have hi:i.size=sz:=by simpa [hq] using hs
  simp [Builtin.copy_,run_underlying hu,Builtin.lenOf,Builtin.firstCells,sizeOf,typeInfo,hq,hi,<- hn,hl,Ev]
theorem bY (w:World) (dT sT ty DS:TypeId) (sz:Nat) (d a:Option Addr) (DV E7 DZ Fb:Nat) (hu:P.underlying dT=some (.slice DS)) (hs:(P.info? DS).map (·.size)=some sz) (hn:Nat.min DZ DV=0) :
  (Builtin.copy_ #[dT,sT] ty #[.slice d DV E7,.slice a DZ Fb]).run P w = .ok (goInt 0) w:=by
 cases hq:P.info? DS with
 | none=>simp [hq] at hs
 | some i =>
  cases a with
  | none=>cases d with
   | none=>simp [Builtin.copy_,run_underlying hu,Builtin.lenOf,Builtin.firstCells,sizeOf,typeInfo,hq,hn,storeCells]
   | some d=>simp [Builtin.copy_,run_underlying hu,Builtin.lenOf,Builtin.firstCells,sizeOf,typeInfo,hq,hn,storeCells,loadCells,loadCellsFrom]
  | some a=>cases d with
   | none=>simp [Builtin.copy_,run_underlying hu,Builtin.lenOf,Builtin.firstCells,sizeOf,typeInfo,hq,hn,storeCells,loadCells,loadCellsFrom]
   | some d=>simp [Builtin.copy_,run_underlying hu,Builtin.lenOf,Builtin.firstCells,sizeOf,typeInfo,hq,hn,storeCells,loadCells,loadCellsFrom]
theorem po {base:Nat} {z:List Value} (h:w.ownsRow base 78 2 (zS g (k+1) c) (k+1) (xs++z)) (hx:xs.length=k*2) (h1:∀ u,u∈xs->u.oneCell'=true) (hz:z.length=2) (hi:i<=k) (d:Option Addr) (hd:i<k->d=some ⟨g,(i+1)*2,none⟩) (s:Option Addr) (hs:s=some ⟨g,i*2,none⟩) (dc sc:Nat) (ty:TypeId) :
  ∃ w',(Builtin.copy_ #[25,25] ty #[.slice d (k - i) dc,.slice s (k+1 - i) sc]).run Tryz.prog w = .ok (goInt (k - i:Nat)) w' /\
   w'.ownsRow base 78 2 (zS g (k+1) c) (k+1) (xs.take ((i+1)*2)++(if i=k then z else xs.drop (i*2)))/\zv [g] w w':=by
 obtain ⟨g',c',e,r1,r2,r3,r4,r5⟩:=aE h zo;injection e with e1 e2 e3;injection e1 with e1;injection e1 with e1;subst e1;subst e3;have hn:Nat.min (k+1 - i) (k - i)=k - i:=Nat.min_eq_right zo;have hinf:(Tryz.prog.info? 78).map (·.size)=some 2:=zab
 by_cases FV:i=k
 ·subst FV
  have e0:i - i=0:=Nat.sub_self i;refine ⟨w,?_,?_,zv.refl _ _⟩
  ·rw [bY w 25 25 ty 78 2 d s (i - i) dc (i+1 - i) sc Tryz.underlying25 hinf zo,e0];rfl
  ·rw [if_pos rfl,ze zo];exact h
 ·obtain ⟨_,hh⟩:=h
  rcases hh with ⟨e,_⟩ | ⟨g2,c2,BV,e,hb,hg,q1,q2,q3,q4⟩
  ·cases e
  ·injection e with e1 e2 e3
   injection e1 with e1;injection e1 with e1;subst e1;subst e3;have DG:(xs.drop (i*2)).length=(k - i)*2:=by rw [List.length_drop,hx];omega
   have B8:=dt (P:=Tryz.prog) w 25 25 ty 78 g ((i+1)*2) (k - i) dc 2 ⟨g,i*2,none⟩ (k+1 - i) sc BV 78 (xs.drop (i*2)) Tryz.underlying25 hinf hg (by rw [hn];exact DG)
    (fun j v hv=>by
     have e:Addr.add ⟨g,i*2,none⟩ j=⟨g,i*2+j,none⟩:=by unfold Addr.add;split <;> simp [*]
     have hj:=(List.getElem?_eq_some_iff.1 hv).1;rw [DG] at hj;rw [e,r5 (i*2+j) zo,yI (by rw [hx];omega)];rw [List.getElem?_drop] at hv;exact hv) (by rw [DG,q3];have:(k+1)*2<=c*2:=Nat.mul_le_mul_right 2 q1;omega) (fun v hv=>h1 v (List.mem_of_mem_drop hv))
   rw [hn] at B8;refine ⟨_,by rw [hd zo,hs];exact B8,?_,lV w g _⟩
   have hx1:BV.toList.take (k*2)=xs:=by
    have:BV.toList.take ((k+1)*2)=xs++z:=q4;have h2:=congrArg (List.take (k*2)) this;rw [List.take_take,Nat.min_eq_left zo,List.take_append_of_le_length zo,ze (l:=xs) zo] at h2;exact h2
   have hl:((BV.toList.take ((i+1)*2)++xs.drop (i*2)++BV.toList.drop ((i+1)*2+(xs.drop (i*2)).length))).length=BV.size:=by
    rw [ym,ym,yV,List.length_drop (l:=BV.toList),DG,Array.length_toList,q3];have:(k+1)*2<=c*2:=Nat.mul_le_mul_right 2 q1;omega
   have B9:(xs.take ((i+1)*2)++(if i=k then z else xs.drop (i*2))).length=(k+1)*2:=by
    rw [if_neg FV,ym,yV,DG,hx];omega
   refine ⟨B9,.inr ⟨g,c,_,rfl,hb,setRow_heap w g BV _ 78 (0,0) hg,q1,q2,by simpa using hl.trans q3,?_⟩⟩;rw [if_neg FV,List.toList_toArray];have Dl:(i+1)*2<=k*2:=Nat.mul_le_mul_right 2 zo
   have e5:BV.toList.take ((i+1)*2)=xs.take ((i+1)*2):=by
    rw [<- hx1,List.take_take,Nat.min_eq_left Dl]
   rw [e5,List.take_append_of_le_length (by rw [ym,yV,DG,hx];omega),ze (by rw [ym,yV,DG,hx];omega)]
theorem jD {ops:Array Oper} {rest:List Oper} {o:Oper} {a:Act} {Q:Exit->Act->World->Prop} (hg:o.guard=none) (s x:Operand) (t:TypeId)
  (Gv:o.op = .call { callee := .builtin .append,args:=#[s,x],argTypes:=#[t,t] }) (S6:o.type=t) {base m bytes:Nat} {e:TypeId} {z xv:Value} {news:List Value}
  (ht:Tryz.prog.underlying t=some (.slice e)) (EV:(Tryz.prog.info? e).map (fun i=>(i.zero,i.size,i.bytes))=some (some z,size,bytes)) (MN:z.cells.size=size) (Dg:0<size)
  (hs:a.eval s=v) (hx:a.eval x=xv) (BT:w.ownsRow base e size v n xs) (EN:xQ w size xv m news) (Em:(n+m)*bytes<=140737488355328) (Ni:n+m<=maxLen) (Dp:base<=w.heap.size)
  (hK:∀ v' w',w'.ownsRow base e size v' (n+m) (xs++news)->w.grownBy w' v.ownBlock->(v'.ownBlock=v.ownBlock∨v'.ownBlock=some w.heap.size)->wpList Tryz.prog ops Q rest (a.put o.dst v') w'):wpList Tryz.prog ops Q (o::rest) a w:=by
 have B8:∃ v' w',(Builtin.append_ #[t,t] t #[v,xv]).run Tryz.prog w = .ok v' w'/\w'.ownsRow base e size v' (n+m) (xs++news)/\w.grownBy w' v.ownBlock/\(v'.ownBlock=v.ownBlock∨v'.ownBlock=some w.heap.size):=by
  obtain ⟨i,h1,h2,h3,h4⟩:=info_parts EV;obtain ⟨s1,s2,s3⟩:=EN;rcases s3 with ⟨g,o,c,rfl,hg,hc⟩ | ⟨c,rfl,rfl⟩
  ·obtain ⟨v',w',hr,ho,EU,_,Dh⟩:=run_append_own_at (P:=Tryz.prog) w base t t e i z size bytes ht h1 h2 h3 h4 MN Dg v n xs BT ⟨g,o,none⟩ m c news s1 (fun j u hu=>by have e:Addr.add ⟨g,o,none⟩ j=⟨g,o+j,none⟩:=(by unfold Addr.add;split <;> simp [*]);rw [e];exact hc j u hu) s2 Ni Em Dp
   exact ⟨v',w',hr,ho,EU,Dh⟩
  ·have hn:news=[]:=List.eq_nil_of_length_eq_zero (by simpa using s1)
   subst hn;obtain ⟨a,k,hv,hk,_⟩:=XI BT;rw [hv];refine ⟨_,w,run_append_nothing w t t t e i ht h1 a n k hk _ (Src.ofNil w ht c),?_,⟨rfl,rfl,rfl,xd _,fun _ _ _=>rfl⟩,.inl rfl⟩;rw [yY,<- hv];exact BT
 refine wpList_plain hg fun K Ii=>?_;obtain ⟨v',w',B8,r1,r2,r3⟩:=B8;unfold Oper.wp;simp [execOp,Gv,resolve,invoke,builtin,hs,hx,S6,B8,Result.andThen];exact Ii _ _ (hK _ _ r1 r2 r3)
theorem JV {base:Nat} {e:TypeId} (h:w.ownsRow base e size (zS g n c) n xs) (hi:i<n*size):(w.setCell ⟨g,i,none⟩ v).ownsRow base e size (zS g n c) n (xs.set i v):=by
 obtain ⟨h1,hh⟩:=h;rcases hh with ⟨q,_⟩ | ⟨g2,c2,BV,q,hb,hg,q1,q2,q3,q4⟩
 ·cases q
 ·injection q with e1 e2 e3
  injection e1 with e1;injection e1 with e1;subst e1;subst e3;refine ⟨by rw [List.length_set];exact h1,.inr ⟨g,c,BV.setIfInBounds i v,rfl,hb,?_,q1,q2,by simpa using q3,?_⟩⟩
  ·rw [setCell_eq_setRow w g i BV e (0,0) v hg]
   exact setRow_heap w g BV _ e (0,0) hg
  ·rw [Array.toList_setIfInBounds,List.take_set,q4]
theorem ni {α:Type} (A r:List α) (u v a b:α):((A++u::v::r).set A.length a).set (A.length+1) b=A++a::b::r:=by
 rw [List.set_append_right _ _ (xd _),Nat.sub_self,List.set_cons_zero,List.set_append_right _ _ (Nat.le_succ _),show A.length.succ - A.length=1 by omega];rfl
theorem fi (l:zL) (i:Nat):qp (l.take i)=(qp l).take (i*2):=by
 conv=>rhs;rw [<- List.take_append_drop i l,ZC]
 by_cases h:i<=l.length
 ·rw [List.take_append_of_le_length (by rw [ZB,yV];omega),ze (l:=qp (l.take i)) (by rw [ZB,yV];omega)]
 ·rw [ze (l:=l) zo,List.drop_eq_nil_of_le zo,ze (by rw [ym,ZB];simp [qp];omega)]
  simp [qp]
theorem pq (l:zL) (i:Nat):qp (l.drop i)=(qp l).drop (i*2):=by
 have h:=ZC (l.take i) (l.drop i);rw [List.take_append_drop,fi] at h;have h2:=List.take_append_drop (i*2) (qp l);rw [<- h2] at h
 conv at h=>rhs;rw [List.take_append_drop]
 exact (List.append_cancel_left h).symm
theorem pu {base:Nat} {L:zL} (hk:k=L.length) (hi:i<=k) (h:w.ownsRow base 78 2 (zS g (k+1) c) (k+1) ((qp L).take ((i+1)*2)++(if i=k then [.int .u64 0,.int .u64 0] else (qp L).drop (i*2)))) :
  ((w.setCell ⟨g,i*2,none⟩ (.int .u64 (p.1:Int))).setCell ⟨g,i*2+1,none⟩ (.int .u64 (p.2:Int))).ownsRow base 78 2 (zS g (k+1) c) (k+1) (qp (L.take i++p::L.drop i)):=by
 have hX:=ZB L;rw [<- hk] at hX;have h1:=JV (v := .int .u64 (p.1:Int)) h (i:=i*2) zo;have h2:=JV (v := .int .u64 (p.2:Int)) h1 (i:=i*2+1) zo
 have e:qp (L.take i++p::L.drop i)=(((qp L).take ((i+1)*2)++(if i=k then [.int .u64 0,.int .u64 0] else (qp L).drop (i*2))).set (i*2) (.int .u64 (p.1:Int))).set (i*2+1) (.int .u64 (p.2:Int)):=by
  rw [ZC,XX,fi,pq];generalize qp L=X at hX;have hl:(X.take (i*2)).length=i*2:=by rw [yV,hX];omega
  by_cases FV:i=k
  ·subst FV
   rw [if_pos rfl,ze (i:=(i+1)*2) zo,ze (i:=i*2) zo,List.drop_eq_nil_of_le zo];have:=ni X [] (.int .u64 0) (.int .u64 0) (.int .u64 (p.1:Int)) (.int .u64 (p.2:Int));rw [hX] at this;exact this.symm
  ·rw [if_neg FV]
   have hd:(X.drop (i*2)).length=(k - i)*2:=by rw [List.length_drop,hX];omega
   match hq:X.drop (i*2),hd with
   | [],hd=>exfalso;simp at hd;omega
   | [_],hd=>exfalso;simp at hd;omega
   | u::v::r,hd =>
    have e2:X.take ((i+1)*2)=X.take (i*2)++[u,v]:=by
     rw [show (i+1)*2=i*2+2 by omega,List.take_add,hq];rfl
    rw [e2,zf];have:=ni (X.take (i*2)) (u::v::r) u v (.int .u64 (p.1:Int)) (.int .u64 (p.2:Int));rw [hl] at this;exact this.symm
 rw [e];exact h2
theorem jE {A:List Nat} (DN:xU A w v l) (hl:l.length<=8796093021952) :
  zC 31 #[v] w fun e w'=>∃ u,e = .returned u/\w'.ownsRow w.heap.size 78 2 u (Yg l).length (qp (Yg l))/\zv [] w w':=by
 obtain ⟨a,c,rfl,h1,h2⟩:=DN.len;have H:=zh DN;have HU:=zh DN.u;obtain ⟨n,hn⟩:=zE l.length;rw [<- hn] at h1 hl ⊢;replace H:Hd (xU A w (.slice a n c) l):=by rw [hn];exact H
 have HN:=zh hn;clear DN hn;go_enter Tryz.func31,Tryz.ntmps31;go_wp2_with fail;go_loopg [3,9] n (fun gg s3 s9 wr=>∃ i:Nat,gg=n - i/\i<=n/\s9 = .int .i64 (i:Int)/\Hd (wr.ownsRow w.heap.size 78 2 s3 (Yg (l.take i)).length (qp (Yg (l.take i)))/\zv [] w wr))
 case atStart=>exact ⟨0,rfl,yg _,rfl,zh ⟨yO _ _ _ _,zv.refl _ _⟩⟩
 case round =>
  obtain ⟨i,DM,hi,rfl,HX⟩:=hrel;have IP:=zh DM;clear DM;by_cases Cm:i<n
  ·have i1:(i:Int)<(n:Int):=zo
   have KH:=fh (l:=l) (i:=i) (by rw [<- HN.o];exact Cm);have B9:=(gA HU i (by rw [<- HN.o];exact hi)).2.2.1;obtain ⟨L,hL⟩:=zE (Yg (l.take i));obtain ⟨k,hk⟩:=zE L.length;rw [<- hL] at HX KH B9;rw [<- hk] at HX B9;obtain ⟨sa,sc,rfl,s1,s2⟩:=XI HX.1;obtain ⟨b,o,rfl,hb,Kx,c0,c1⟩:=(H.chg HX.2).get (i:=i) (by rw [<- HN.o];exact Cm);obtain ⟨x,hx⟩:=zE (l.getD i (0,0));rw [<- hx] at c0 c1 KH;have HL:=zh (zA hL (zA hk (zA KH hx)));clear hL hk KH hx;obtain ⟨p,hp⟩:=zE (dq L x.1 k);have Gx:=Oj (out:=L) (key:=x.1) k (fun j hj hl=>by have:=HL.2.1;omega);rw [<- hp] at Gx;have HP:=zh (zA hp Gx);have MG:p<=k:=Gx.1;clear hp Gx;go_upto_block 2 with fail;have EI:=(zv.refl [] wr).alloc (.cells #[.int .u64 (x.1:Int),.int .u64 (x.2:Int)] 78);have GL:=xo wr (.cells #[.int .u64 (x.1:Int),.int .u64 (x.2:Int)] 78);generalize wr.alloc (.cells #[.int .u64 (x.1:Int),.int .u64 (x.2:Int)] 78)=w1 at EI GL ⊢;obtain ⟨xb,C5⟩:=zE wr.heap.size;rw [<- C5] at GL ⊢;have HW:Hd (w1.ownsRow w.heap.size 78 2 (.slice sa k sc) k (qp L)/\zv [] w w1/\w1.heap[xb]?=some (.cells #[.int .u64 (x.1:Int),.int .u64 (x.2:Int)] 78 (0,0))/\w.heap.size<=xb/\∀ q,(Value.slice sa k sc).ownBlock=some q->q<xb):=zh ⟨Xg HX.1 EI zaa,HX.2.trans EI,GL,by rw [C5];exact HX.2.size,fun q hq=>by rw [C5];exact (HX.1.lt q hq).2⟩
   have Ts:Hd (∀ wz,zv [] w1 wz->wz.cell? ⟨xb,0,none⟩=some (.int .u64 (x.1:Int))/\wz.cell? ⟨xb,1,none⟩=some (.int .u64 (x.2:Int))/\∀ j,j<k->∃ g,sa=some ⟨g,0,none⟩/\wz.cell? ⟨g,j*2,none⟩=some (.int .u64 (xZ L j:Int))):=zh fun wz hz=>by
    have hb:=(hz.block xb (zz HW.2.2.1) zaa).trans HW.2.2.1;refine ⟨(zM hb 0).trans rfl,(zM hb 1).trans rfl,fun j hj=>?_⟩;obtain ⟨g,c',e,_,_,_,BY,hc⟩:=aE HW.1 zo;injection e with e _ _;exact ⟨g,e,(hz.cell (p:=⟨g,j*2,none⟩) BY zaa).trans ((hc (j*2) zo).trans (QM L j (by rw [<- HL.2.1];exact hj)).1)⟩
   clear EI GL C5 c0 c1;go_cut [6] from 15 to 29 (fun s wx=>s = .int .i64 (p:Int)/\Hd (zv [] w1 wx))
   case first =>
    go_wp2_with fail;go_loopg [6] k (fun gg s wz=>∃ j:Nat,gg=j/\j<=k/\s = .int .i64 (j:Int)/\Hd (dq L x.1 j=p/\zv [] w1 wz))
    case atStart=>exact ⟨k,rfl,xd _,rfl,zh ⟨HP.1.symm,zv.refl _ _⟩⟩
    case round =>
     obtain ⟨j,It,hj,rfl,HJ⟩:=hrel;have KJ:=zh It;clear It;obtain ⟨y0,-,Eo⟩:=Ts wr HJ.2;by_cases h0:j=0
     ·subst h0
      have Pe:p=0:=HJ.1.symm;have i2:¬ (0:Int)<((0:Nat):Int):=zo
      have d2:decide ((0:Int)<((0:Nat):Int))=false:=zaa;subst Pe;have HJC:=zh HJ.2;clear Eo;rw [show ((0:Nat):Int)=0 from rfl] at *;go_upto_region 6 with fail
      go_quiet (fail)
      go_wp2_with fail;go_meet;exact ⟨rfl,zh (HJC.drewN _)⟩
     ·obtain ⟨i3,rfl⟩:∃ i3,j=i3+1:=⟨j - 1,zo⟩
      obtain ⟨g,rfl,hc⟩:=Eo i3 zo;have e1:(((i3+1:Nat):Int) - 1)=(i3:Int):=zo;have i2:(0:Int)<((i3+1:Nat):Int):=zo;have:(i3:Int)<(k:Int):=zo;have Ln:=HJ.1;have HJC:=zh HJ.2;unfold dq at Ln;clear Eo;by_cases Dl:x.1<=xZ L i3
      ·rw [if_pos Dl] at Ln
       obtain ⟨z,hz⟩:=zE (xZ L i3);rw [<- hz] at Dl hc;have k2:(x.1:Int)<=(z:Int):=zo;have d2:decide ((x.1:Int)<=(z:Int))=true:=by simp;omega
       have Ks:=zh Ln;clear hz Ln HJ;go_upto_region 6 with fail
       go_quiet (fail)
       go_wp2_with fail;go_roundg i3
       case measure=>have:=KJ.o;omega
       case rel=>exact ⟨i3,rfl,zo,zac,zh ⟨Ks.o,HJC.drewN _⟩⟩
      ·rw [if_neg Dl] at Ln
       obtain ⟨z,hz⟩:=zE (xZ L i3);rw [<- hz] at Dl hc;have k2:¬ (x.1:Int)<=(z:Int):=zo;have d2:decide ((x.1:Int)<=(z:Int))=false:=by simp;omega
       have Ks:=zh Ln;clear hz Ln HJ;go_upto_region 6 with fail
       go_quiet (fail)
       go_wp2_with fail;go_meet;exact ⟨by rw [<- Ks.o];go_num,zh (HJC.drewN _)⟩
   case rest =>
    obtain ⟨rfl,hwx⟩:=hcut;obtain ⟨y0,y1,Eo⟩:=Ts wc hwx.o;by_cases G8:p<k/\xZ L p=x.1
    ·obtain ⟨g,rfl,hc⟩:=Eo p G8.1
     have i2:(p:Int)<(k:Int):=zq G8.1
     have Pg:jC L x=L:=by
      unfold jC Jy;rw [<- HL.2.1,<- HP.1,if_pos G8]
     rw [G8.2] at hc;have HRS:=zh Pg;clear Pg Eo G8;go_upto_region 8 with fail
     go_quiet (fail)
     go_wp2_with fail;go_roundg (n - (i+1))
     case measure=>have:=IP.o;omega
     case rel =>
      refine ⟨i+1,rfl,Cm,zac,zh ?_⟩;rw [HL.2.2.1,HRS.o,<- HL.2.1];exact ⟨Xg HW.1 (hwx.drewN _) zaa,HW.2.1.trans (hwx.drewN _)⟩
    ·have Pg:jC L x=L.take p++x::L.drop p:=by
      unfold jC Jy;rw [<- HL.2.1,<- HP.1,if_neg G8]
     have HRS:=zh Pg
     have hor:¬ p<k∨(p<k/\¬ xZ L p=x.1):=by
      by_cases q:p<k
      ·exact .inr ⟨q,fun e=>G8 ⟨q,e⟩⟩
      ·exact .inl q
     clear Pg G8;rcases hor with q | ⟨q,q2⟩
     case' inl =>
      have i2:¬ (p:Int)<(k:Int):=zo;clear Eo;go_upto_region 8 with fail
      go_quiet (fail)
     case' inr =>
      obtain ⟨g,hsa,hc⟩:=Eo p q;have:=zh hsa;subst hsa;have i2:(p:Int)<(k:Int):=zo
      obtain ⟨z,hz⟩:=zE (xZ L p);rw [<- hz] at hc q2;have i3:¬ ((z:Int)=(x.1:Int)):=zo;clear Eo hz;go_upto_region 8 with fail
      go_quiet (fail)
     all_goals
      have Ss:zv [] w1 (wc.drewN nq):=hwx.drewN nq;clear y0 y1 i2;generalize wc.drewN nq=wd at Ss ⊢;have FY:=xo wd (.cells #[.int .u64 0,.int .u64 0] 78);have Cd:zv [] wd (wd.alloc (.cells #[.int .u64 0,.int .u64 0] 78)):=(zv.refl [] wd).alloc _;have H4:=zh (zA (Xg (Xg HW.1 Ss zaa) Cd zaa) (zA FY (zA (Ss.trans Cd) (qh HW.2.1.size (qh Ss.size Cd.size)))));clear FY Cd Ss;go_wp2_with (at_builtin;refine jD rfl _ _ 25 rfl rfl (base:=w.heap.size) (size:=2) (n:=k) (m:=1) (bytes:=16) (xs:=qp L) (news:=[.int .u64 0,.int .u64 0]) Tryz.underlying25 Vt rfl zo rfl rfl H4.1 (xQ.blk H4.2.1 rfl (fun u hu=>by simp at hu;subst hu;rfl)) zo zam H4.2.2.2 ?_;intro v' w5 Cf Dd Ec;obtain ⟨g5,c5,rfl,r51,r52,r53,r54,r55⟩:=aE Cf zo;have H5:=zh (zA Cf (zA Dd (zA r53 Ec)));clear Cf Dd Ec r53 r54 r55);have hcp:¬ c5=p:=zo
      obtain ⟨q1,Le⟩:=zE (p+1);have e1:IntKind.i64.wrap ((p:Int)+1)=(q1:Int):=by rw [yv _ zo];omega
      have hA:(p:Int)<=(k:Int)+1:=zo;have hB:(q1:Int)<=(k:Int)+1:=zo;obtain ⟨dd,TU⟩:∃ dd:Option Addr,(if c5=q1 then some ⟨g5,0,none⟩ else some ⟨g5,q1*2,none⟩)=dd:=⟨_,rfl⟩;obtain ⟨w7,B8,Rj,E9⟩:=po (z:=[.int .u64 0,.int .u64 0]) (Xg H5.o.1 (zv.refl [] w5).drew zaa) (by rw [ZB,<- HL.o.2.1]) sU rfl MG dd (fun q=>by rw [<- TU,if_neg zo,Le]) (some ⟨g5,p*2,none⟩) rfl (c5 - q1) (c5 - p) 3;rw [show k - p=k+1 - q1 by omega] at B8;have H7:=zh (zA Rj E9);have:=zh (zA Le hcp);clear Rj E9 Le;refine wp_region_held_drew (S:=fun _=>True) zab (by exact trivial) fun BS=>?_;refine wV 0 ?_ (hy:=by intro w I4;go_simp;first | done | with_reducible rfl);refine wV 1 ?_ (hy:=by intro w I4;go_simp;first | done | with_reducible rfl);refine wV 2 ?_ (hy:=by intro w I4;go_simp;first | done | with_reducible rfl);refine wV 4 ?_ (hy:=by intro w I4;go_simp;first | done | with_reducible rfl);refine wV 5 ?_ (hy:=by intro w I4;go_simp;first | done | with_reducible rfl);refine wV 6 ?_ (hy:=by intro w I4;go_simp;first | done | with_reducible rfl);refine wV 3 ?_ (hy:=by intro w I4;go_simp;first | done | with_reducible rfl);refine zu ?_
      refine wE 7 (fun K hK=>?_)
      (go_simp)
      refine hK.out _ _ trivial fun BS=>?_;clear hK K;refine zu ?_;refine wpAnyH_done zab ?_ _
      have hxg:xb≠g5:=fun e=>by
       rcases H5.2.2.2 with q3 | q3
       ·have h1:=HW.2.2.2.2 g5 (q3.symm.trans rfl);omega
       ·have h1:g5=(wd.alloc (.cells #[.int .u64 0,.int .u64 0] 78)).heap.size:=yj q3
        have h2:=zz HW.2.2.1;have:=H4.2.2.1.size;omega
      have Ex:=(H4.2.2.1.block xb (zz HW.2.2.1) zaa).trans HW.2.2.1;have DF:zv (qm (Value.slice _ k sc)) (wd.alloc (.cells #[.int .u64 0,.int .u64 0] 78)) w5:=(zv.refl _ _).grown H5.2.1 (fun q hq => .inl (Xj.2 hq));have Fr:=(DF.block xb (zz Ex) (fun hm=>by have:=HW.2.2.2.2 xb (Xj.1 hm);omega)).trans Ex;have FQ:=(H7.2.block xb (show xb<w5.drew.heap.size from zz Fr) (by simpa using hxg)).trans Fr;obtain ⟨y0,y1⟩:=uj FQ
      obtain ⟨BV,Gl,DG⟩:∃ BV:Array Value,w7.heap[g5]?=some (.cells BV 78 (0,0))/\BV.size=c5*2:=by
       rcases H7.1.2 with ⟨q3,_⟩ | ⟨g6,c6,BV,q3,_,EY,_,_,GU,_⟩
       ·cases q3
       ·injection q3 with q4 _ q5
        injection q4 with q4;injection q4 with q4;subst q4;subst q5;exact ⟨BV,EY,GU⟩
      have:=xB Gl (p*2);have:=xB Gl (p*2+1);obtain ⟨v0,k0⟩:∃ v,w7.cell? ⟨g5,p*2,none⟩=some v:=⟨_,(zM Gl (p*2)).trans (Array.getElem?_eq_getElem zo)⟩;obtain ⟨v1,k1⟩:∃ v,w7.cell? ⟨g5,p*2+1,none⟩=some v:=⟨_,(zM Gl (p*2+1)).trans (Array.getElem?_eq_getElem zo)⟩;have:(p:Int)<(k:Int)+1:=zo
      clear hxg Ex DF Fr FQ e1 hA hB B8;have HC7:Hd (zv [] w w7):=zh ((((HW.2.1.trans H4.2.2.1).grown H5.2.1 (fun q hq => .inr (H4.1.lt q hq).1)).drew).then H7.2 (fun q hq => .inr (by rw [zms] at hq;rw [hq];exact H5.2.2.1)));go_wp2_with fail;go_roundg (n - (i+1))
      case measure=>have:=IP.o;omega
      case rel =>
       refine ⟨i+1,rfl,Cm,zac,zh ?_⟩;rw [HL.2.2.1,HRS.o,show (L.take p++x::L.drop p).length=k+1 by rw [ym,yV,yu,List.length_drop,<- HL.2.1];omega];exact ⟨pu HL.2.1 MG H7.1,(HC7.setCell (.inr H5.2.2.1) _).setCell (.inr H5.2.2.1) _⟩
  ·obtain rfl:i=n:=zo
   have i1:¬ (i:Int)<(i:Int):=zo;have DC:Yg (l.take i)=Yg l:=by rw [HN.o,List.take_length]
   rw [DC] at HX;go_wp2_with fail;go_ret;exact ⟨_,rfl,HX⟩
def AC (B:Bs) (x:Int) (items:zL):Prop:=(x=0/\items=[])∨∃ h,Zl B x h items/\h<8
theorem jF {M:Bm} {F:List Nat} {B:Bs} {N:Nat} {items:zL} (hb:zx w M F B) (hF:∀ q,q∈F->q<w.heap.size) (hg:qy N 1 B) (hr:(items.length:Int)+1<=2*B.room) (hM:N<=4096) (ha:Jw items) (hu:Y4 items) (DN:xU M.L w v items) (E8:items.length<=200) :
  zC 30 #[zP M.b,v] w fun e w'=>∃ (x:Nat) (B':Bs),e = .returned (.tuple #[.int .i64 (x:Int),.bool true])/\zx w' M F B'/\qy N 1 B'/\AC B' (x:Int) items/\xM B' 8 (x:Int)=(eH items.length,0)/\zv M.L w w'/\(items≠[]->(B',x)=ZJ 8 0 items B)/\(items=[]->B'=B/\x=0):=by
 by_cases h0:items=[]
 ·subst h0
  obtain ⟨a,c,rfl,B5,BW⟩:=DN.len;have H:Hd (zx w M F B/\qy N 1 B):=zh ⟨hb,hg⟩;clear hb hF hg hr ha hu DN
  show Calls _ _ #[zP M.b,.slice a 0 c] w _
  go_enter Tryz.func30,Tryz.ntmps30;go_wp2_with fail;refine bodyPost_ret (v := .tuple #[.int .i64 ((0:Nat):Int),.bool true]) (by simp [results,Tryz.results30,go_sem]) rfl ⟨0,B,rfl,H.1,H.2,.inl ⟨rfl,rfl⟩,rfl,zv.refl _ _,fun q=>absurd rfl q,fun _=>⟨rfl,rfl⟩⟩
 ·have hl:1<=items.length:=by
   cases items with
   | nil=>exact absurd rfl h0
   | cons p r=>simp
  refine (lT hb hF ⟨hg,hr,hl,.inl ⟨rfl,rfl,ha,hu⟩⟩ hM DN E8).mono fun e w' ⟨x,h,B',q1,q2,q3,q4,q5,q6,q7,q8⟩=>?_;have q4h:=q4.height q3.ok q5;rw [<- q6] at q4h;exact ⟨x,B',q1,q2,q3,.inr ⟨h,q4,q5⟩,q4h,q7,fun _=>q8,fun q=>absurd q h0⟩
end Go.Proofs.YtegpiomkmfhadaaGreat
