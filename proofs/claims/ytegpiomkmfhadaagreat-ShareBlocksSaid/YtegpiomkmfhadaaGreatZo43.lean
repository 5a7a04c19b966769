/- catchmentlaw16.ShareBlocks: the walk. · -/
import Derived.Test.YtegpiomkmfhadaaGreatZo42
import Derived.Test.YtegpiomkmfhadaaGreatRows
import Derived.ShutString
import Derived.ChangeOld
import Derived.Below
set_option linter.all false
set_option maxRecDepth 100000
set_option maxHeartbeats 20000000
namespace Go.Proofs.YtegpiomkmfhadaaGreat
open Go.RowKit Go.Maps
variable {w:World} {mb N c:Nat} {S:Nat->Bool}
def QZ (w:World) (mb N c:Nat) (S:Nat->Bool):Prop:=∃ f:Nat->Option Nat,qP Tryz.prog 3 3 w mb N f/\∀ k,k<N->(f k).isSome=S k/\(f k).getD 0<=c/\(S k=true->1<=(f k).getD 0)
theorem QZ.chg {w':World} {L:List Nat} (h:QZ w mb N c S) (k:zv L w w') (hb:mb∉L:=by simp):QZ w' mb N c S:=by
 obtain ⟨f,h1,h2⟩:=h;exact ⟨f,h1.same (k.block mb h1.lt hb),h2⟩
theorem QZ.step {S':Nat->Bool} (h:QZ w mb N c S) {k:Nat} (hk:k<N) (hN:N<=4096) (hc:c<=10000) (hS:∀ j,j<N->S' j=(S j||decide (j=k))) :
  ∃ (v:Nat) (w':World),(Instr.lookup 39 (.map (some mb)) (.int .i64 (k:Int)) false).run Tryz.prog w = .ok (.int .i64 (v:Int)) w/\v<=c/\(Instr.mapUpdate 39 (.map (some mb)) (.int .i64 (k:Int)) (.int .i64 ((v:Int)+1))).run Tryz.prog w = .ok () w'/\QZ w' mb N (c+1) S'/\zv [mb] w w':=by
 obtain ⟨f,h1,h2⟩:=h;obtain ⟨a1,a2,a3⟩:=h2 k hk;have hl:=(h1.look Tryz.underlying3 Tryz.underlying3 Tryz.underlying39 (Tryz.zeroValue3 w) hk hN).2;obtain ⟨w',hr,hm,ht⟩:=h1.put Tryz.underlying3 Tryz.underlying3 Tryz.underlying39 (v:=(f k).getD 0+1) hk hN zo;refine ⟨(f k).getD 0,w',hl,a2,hr,⟨_,hm,fun j hj=>?_⟩,xD ht⟩;rw [hS j hj];obtain ⟨b1,b2,b3⟩:=h2 j hj;by_cases e:j=k
 ·simp only [e,if_true,Option.isSome_some,decide_true,Bool.or_true,Option.getD_some,true_and]
  exact ⟨zo,fun _=>zo⟩
 ·simp only [e,if_false,decide_false,Bool.or_false]
  exact ⟨b1,zo,b3⟩
theorem QZ.len {w:World} {mb N c:Nat} {S:Nat->Bool} (h:QZ w mb N c S) (ty:TypeId):(Builtin.len_ #[39] ty #[.map (some mb)]).run Tryz.prog w = .ok (.int .i64 ((cnt N S:Nat):Int)) w:=by
 obtain ⟨f,⟨D,hD,hs,_⟩,h2⟩:=h;have:=hD.len Tryz.underlying39 ty;rw [this,hs,zZ fun k hk=>(h2 k hk).1]
theorem QZ.look {w:World} {mb N c:Nat} {S:Nat->Bool} (h:QZ w mb N c S) {k:Nat} (hk:k<N) (hN:N<=4096):∃ v:Nat,(Instr.lookup 39 (.map (some mb)) (.int .i64 (k:Int)) false).run Tryz.prog w = .ok (.int .i64 (v:Int)) w/\(S k=true->1<=v):=by
 obtain ⟨f,h1,h2⟩:=h;obtain ⟨a1,a2,a3⟩:=h2 k hk;exact ⟨_,(h1.look Tryz.underlying3 Tryz.underlying3 Tryz.underlying39 (Tryz.zeroValue3 w) hk hN).2,a3⟩
theorem Ow (a0:Option Addr) (n0 c0:Nat) (l:zL) (x1 x2:Int) (w:World) (h0:XG [] w (.slice a0 n0 c0) l) (h1:(Lit.int .u64 x1).wf=true) (h2:(Lit.int .u64 x2).wf=true) :
  zC 3 #[.slice a0 n0 c0,.int .u64 x1,.int .u64 x2] w fun e w'=>e = .returned (.bool true)/\Below w.heap.size w w':=by
 obtain ⟨a',c',e,hn,hc⟩:=h0.len;injection e with e1 e2 e3;subst e1;subst e2;subst e3
 obtain ⟨lo,rfl,ED⟩:∃ y:Nat,x1=(y:Int)/\y<18446744073709551616:=by
  have:=mp h1;exact ⟨x1.toNat,zo,zo⟩
 obtain ⟨hi,rfl,FH⟩:∃ y:Nat,x2=(y:Int)/\y<18446744073709551616:=by
  have:=mp h2;exact ⟨x2.toNat,zo,zo⟩
 have cg:=wu (N:=300) (m:=40) zo h0 zo (by rw [js zo];decide) (k:=(min ((l.length:Nat):Int) 40).toNat) zo zo;rw [show (((300:Nat)):Int)=300 from rfl] at cg;have CG:=zh cg;have HLH:=zh (zA ED FH);clear cg h0 h1 h2 ED FH;go_enter Tryz.func3,Tryz.ntmps3;go_wp2_with fail;refine CG.mono ?_;clear CG;rintro e w2 ⟨M,x,B,vi,items,rfl,G⟩;obtain ⟨ht,h0⟩:=G.fst zo zo;obtain ⟨va,vc,rfl,_,_⟩:=G.its.len;have HG:=zh (zA G.chg (zA G.far G.len));have Eh:=(h0.lt (r:=x) zaa).1;have CC:=zh (fH (F:=[]) G.base zaa h0 zaa (x:=x) zaa);clear G h0;go_wp2_with fail;refine CC.mono ?_;clear CC;rintro e w3 ⟨rfl,B1,al,h1,c1,-,-,-⟩;have H1:=zh (zA al (zA h1 (HG.1.then c1 (fun q hq => .inr (HG.2.1 q hq)))));clear al h1 c1;go_wp2_with fail;have k0:=xo w3 (.cells #[.int .i64 (x:Int)] 3);have cA:=(zv.refl [] w3).alloc (.cells #[.int .i64 (x:Int)] 3);generalize w3.alloc (.cells #[.int .i64 (x:Int)] 3)=W at k0 cA ⊢;refine (ZE (H1.1.chg cA) H1.2.1 (S:=[x]) zaa zaa (Y9.lit (l:=[x]) k0 rfl zaa)).mono ?_;rintro e w4 ⟨u4,rfl,KD,c4⟩;have SZ:=kE.of_own (A:=M.L) KD (fun q hq=>qe (H1.1.ltL hq) cA.size);have H4:=zh (zA SZ (cA.trans c4));obtain ⟨p4,d4,rfl⟩:=SZ.len;obtain ⟨X,hX⟩:=zE (xm (nodesB B1 ht [x]) 300);rw [<- hX] at H4 ⊢;have HX:=zh hX;clear hX k0 cA KD c4 SZ;go_wp2_with fail
 have k0:=xo w4 (.cells #[.int .i64 (x:Int),.int .i64 (x:Int)] 3);have cA:=(zv.refl [] w4).alloc (.cells #[.int .i64 (x:Int),.int .i64 (x:Int)] 3);generalize w4.alloc (.cells #[.int .i64 (x:Int),.int .i64 (x:Int)] 3)=W at k0 cA ⊢;refine (ZE ((H1.1.chg H4.2).chg cA) H1.2.1 (S:=[x,x]) zaa zaa (Y9.lit (l:=[x,x]) k0 rfl zaa)).mono ?_;rintro e w5 ⟨u5,rfl,Ec,c5⟩;obtain ⟨p5,d5,rfl,_,_⟩:=XI Ec
 have e5:(xm (nodesB B1 ht [x,x]) 300).length=X.length:=by
  rw [HX.o];refine congrArg List.length (ku fun i _=>?_);rw [Bool.eq_iff_iff,OZ];simp
 rw [e5];have H5:=zh ((H4.2.trans cA).trans c5);have H45:=zh (cA.trans c5);clear k0 cA Ec c5 e5;have CL:=zh (bT w5 M (fun q hq=>qe (H1.1.ltL hq) H5.size));go_wp2_with fail;refine CL.mono ?_;clear CL;rintro e w6 ⟨bx,rfl,Cx,c6⟩
 have cc:=cX (DL:=items.map Prod.snd) (m:=20) (lo:=lo) (hi:=hi) ((H1.1.chg H5).chg c6) zaa (R:=[x]) (x:=x) H1.2.1 HLH.1 HLH.2 Cx (fun r _=>⟨by have:=HG.2.2;omega,fun p hp => .inr (List.mem_map_of_mem hp)⟩) zo (by
  rw [show qu 300=6 by decide,yX];have:=HG.2.2;simp only [yZ];omega)
 unfold nM at cc;have CC:=zh cc;have H6:=zh (H5.trans c6);have H46:=zh (H45.trans c6);clear cc Cx c6;go_wp2_with fail;refine CC.mono ?_;clear CC;rintro e w7 ⟨z,B2,Cg,rfl,FQ,h7,c7,-,kp7,-⟩;have hzN:=(h7.lt (r:=z) zaa).1;have M6:nodesB B2 Cg [x]=nodesB B1 ht [x]:=H1.2.1.nodesB_kept h7 kp7 zaa;have Fd:=zh M6;have H7:=zh (zA FQ (zA h7 (zA ((H1.2.2.trans H6).then c7 (fun q hq => .inr (HG.2.1 q hq))) ((H4.1.chg H46).chg c7 (fun q hq => .inl hq)))));clear FQ h7 c7 kp7 M6;go_wp2_with fail;have k0:=xo w7 (.cells #[.int .i64 (x:Int)] 3);have cA:=(zv.refl [] w7).alloc (.cells #[.int .i64 (x:Int)] 3);generalize w7.alloc (.cells #[.int .i64 (x:Int)] 3)=W at k0 cA ⊢;refine (ZE (H7.1.chg cA) H7.2.1 (S:=[x]) zaa zaa (Y9.lit (l:=[x]) k0 rfl zaa)).mono ?_;rintro e w8 ⟨u8,rfl,ho8,c8⟩;rw [Fd.o,<- HX.o] at ho8;have T9:=kE.of_own (A:=[]) ho8 zaa;have H8:=zh (zA T9 (cA.trans c8));obtain ⟨p8,d8,rfl⟩:=T9.len;clear k0 cA ho8 c8 T9;go_wp2_with fail;have k0:=xo w8 (.cells #[.int .i64 (z:Int)] 3);have cA:=(zv.refl [] w8).alloc (.cells #[.int .i64 (z:Int)] 3);generalize w8.alloc (.cells #[.int .i64 (z:Int)] 3)=W at k0 cA ⊢;refine (ZE ((H7.1.chg H8.2).chg cA) H7.2.1 (S:=[z]) zaa zaa (Y9.lit (l:=[z]) k0 rfl zaa)).mono ?_;rintro e w9 ⟨u9,rfl,ho9,c9⟩;have hs9:=kE.of_own (A:=[]) ho9 zaa
 have H9:=zh (zA hs9 (zA (H8.2.trans (cA.trans c9)) (cA.trans c9)));obtain ⟨p9,d9,rfl⟩:=hs9.len;obtain ⟨Y,hY⟩:=zE (xm (nodesB B2 Cg [z]) 300);rw [<- hY] at H9 ⊢;have HY:=zh hY;clear hY k0 cA ho9 c9 hs9;go_wp2_with fail;have k0:=xo w9 (.cells #[.int .i64 (z:Int),.int .i64 (x:Int),.int .i64 0,.int .i64 (z:Int)] 3);have cA:=(zv.refl [] w9).alloc (.cells #[.int .i64 (z:Int),.int .i64 (x:Int),.int .i64 0,.int .i64 (z:Int)] 3);generalize w9.alloc (.cells #[.int .i64 (z:Int),.int .i64 (x:Int),.int .i64 0,.int .i64 (z:Int)] 3)=W at k0 cA ⊢;refine (ZE ((H7.1.chg H9.2.1).chg cA) H7.2.1 (S:=[z,x,0,z]) zaa zaa (Y9.lit (l:=[z,x,0,z]) k0 rfl zaa)).mono ?_;rintro e wA ⟨uA,rfl,hoA,cA'⟩;have Hk:=kE.of_own (A:=[]) hoA zaa;have HA:=zh (zA Hk (cA.trans cA'));obtain ⟨pA,dA,rfl⟩:=Hk.len;obtain ⟨Z,hZ⟩:=zE (xm (nodesB B2 Cg [z,x,0,z]) 300);rw [<- hZ] at HA ⊢
 have Wi:∀ k,k<300->(nodesB B2 Cg [z,x,0,z] k=(decide (k∈X)||decide (k∈Y))):=fun k hk=>by
  rw [HX.o,HY.o,Bool.eq_iff_iff,OZ,Bool.or_eq_true,decide_eq_true_iff,decide_eq_true_iff,x8,x8,<- Fd.o]
  have Ia:nodesB B2 Cg [0] k=false:=by
   have:=ZD (B:=B2) (R:=[]) H7.2.1.gr.none0;rw [yy] at this;rw [this,Yr]
  constructor
  ·rintro ⟨r,hr,h⟩
   simp only [ya,yk,or_false] at hr;rcases hr with rfl | rfl | rfl | rfl
   ·exact .inr ⟨hk,h⟩
   ·exact .inl ⟨hk,h⟩
   ·rw [Ia] at h;cases h
   ·exact .inr ⟨hk,h⟩
  ·rintro (⟨_,h⟩ | ⟨_,h⟩)
   ·exact ⟨x,zaa,h⟩
   ·exact ⟨z,zaa,h⟩
 have HZ:=zh (zA hZ Wi);have hpX:X.Pairwise (· < ·)/\∀ k,k∈X->k<300:=by rw [HX.o];exact ⟨Y5 _ _,fun k hk=>(x8.1 hk).1⟩
 have hpY:∀ k,k∈Y->k<300:=by rw [HY.o];exact fun k hk=>(x8.1 hk).1
 have hpZ:Z.Pairwise (· < ·)/\∀ k,k∈Z->k<300:=by rw [hZ];exact ⟨Y5 _ _,fun k hk=>(x8.1 hk).1⟩
 have hlX:X.length<=300:=by rw [HX.o];exact XR _ _
 have hlY:Y.length<=300:=by rw [HY.o];exact XR _ _
 have hlZ:Z.length<=300:=by rw [hZ];exact XR _ _
 have HP:=zh (zA hpX (zA hpY hpZ));clear hZ Wi k0 cA hoA cA' Hk hpX hpY hpZ;have EA:=run_makeMap (P:=Tryz.prog) 39 wA;have kk:=qP.made (P:=Tryz.prog) (kt:=3) (et:=3) wA 300;have cM:=(zv.refl [] wA).alloc (.map #[] 0);have UI:∀ q,q∈([]:List Nat)->q∈[wA.heap.size]∨wA.heap.size<=q:=zaa
 have HN:=zh (zA ((((H7.2.2.2.chg H8.2).chg H9.2.2).chg HA.2).fresh.chg cM UI) (zA (((H8.1.chg H9.2.2).chg HA.2).fresh.chg cM UI) (zA ((H9.1.chg HA.2).fresh.chg cM UI) (zA (HA.1.fresh.chg cM UI) (zA (((H7.1.chg (H9.2.1.trans HA.2)).new (xd _)).chg cM) (zA (((H7.2.2.1.trans H9.2.1).trans HA.2).trans cM) kk))))));have HB:=zh (((H7.2.2.1.trans H9.2.1).trans HA.2).size);clear kk cM UI H9 HA H8;go_upto_region 16 with fail;clear EA;generalize wA.alloc (.map #[] 0)=W at HN ⊢;obtain ⟨mb,Iw⟩:=zE wA.heap.size;rw [<- Iw] at HN HB ⊢;clear Iw;have KB:QZ W mb 300 0 (fun k=>decide (k∈X.take 0)):=⟨_,HN.2.2.2.2.2.2,fun k hk=>⟨zaa,zaa,zaa⟩⟩;have RL:=zh KB;obtain ⟨n,hn'⟩:=zE X.length;obtain ⟨m,Fx⟩:=zE Y.length;obtain ⟨r,DA⟩:=zE Z.length;have RK:=zh (zA hn' (zA Fx DA));rw [<- hn'] at hlX HN ⊢;rw [<- Fx] at hlY HN ⊢;rw [<- DA] at hlZ HN ⊢;clear KB hn' Fx DA;go_upto_region 17 with fail;go_loopg [140] n (fun gg s140 wr=>∃ i:Nat,gg=n - i/\i<=n/\s140 = .int .i64 (i:Int)/\Hd (QZ wr mb 300 i (fun k=>decide (k∈X.take i))/\zv [mb] W wr))
 case atStart=>exact ⟨0,rfl,yg _,rfl,zh ⟨RL.o,zv.refl _ _⟩⟩
 case round =>
  obtain ⟨i,Dw,hi',rfl,HR⟩:=hrel;have FK:=zh Dw;clear Dw;have Kn:∀ q,q∈[mb]->q∈[mb]∨W.heap.size<=q:=fun q hq => .inl hq;by_cases Cm:i<n
  ·have i1:(i:Int)<(n:Int):=zo
   have hiX:i<X.length:=by rw [<- RK.1];exact Cm
   have I5:=HP.1.2 _ (Ov hiX);obtain ⟨k,hk⟩:=zE (X.getD i 0);rw [<- hk] at I5
   obtain ⟨v,MS,Co,hv,MH,Mn,Ci⟩:=HR.1.step (S':=fun j=>decide (j∈X.take (i+1))) I5 zo zo (fun j _=>by
    rw [Oo hiX,<- hk,Bool.eq_iff_iff];simp only [yx,zms,Bool.or_eq_true,decide_eq_true_eq])
   have DO:=(HN.2.1.chg (HR.2.trans Ci) Kn);have Cd:=(HN.1.chg (HR.2.trans Ci) Kn);have WJ:=HN.2.1.chg HR.2 Kn;obtain ⟨-,g8,e8,y0⟩:=WJ.get Cm;subst e8;obtain ⟨-,g8',e8,y8⟩:=DO.get Cm;injection e8 with e8;injection e8 with e8;subst e8;obtain ⟨-,g4,e4,y4⟩:=Cd.get Cm;subst e4;rw [<- hk] at y0 y8 y4;have e1:IntKind.i64.wrap ((v:Int)+1)=(v:Int)+1:=yv _ zo;have Fi:Hd (QZ MS.drew mb 300 (i+1) (fun k=>decide (k∈X.take (i+1)))/\zv [mb] W MS.drew):=zh ⟨Mn.chg (zv.refl [] MS).drew zaa,((HR.2.trans Ci).trans ((zv.refl [] MS).drew.mo))⟩;have IC:∀ j,i=j+1->X.getD j 0<k:=fun j hj=>by rw [hk];exact kw HP.1.1 zo hiX
   have PF:=zh (zA IC DO);clear Mn Ci DO Cd WJ hk IC I5;go_upto_region 20 with fail;clear Co MH;by_cases NX:i=0
   ·have j0:¬ (0:Int)<(i:Int):=zo
    have j1:¬ 0<i:=zo;clear NX;refine wp_region_held_drew (S:=fun W'=>W'.cell? ⟨g8,i,none⟩=some (.int .i64 (k:Int))/\W'.cell? ⟨g4,i,none⟩=some (.int .i64 (k:Int))) zab (by exact ⟨y8,y4⟩) fun BS=>?_;refine XH 0 ?_;refine zu ?_;refine XH 1 ?_;refine zu ?_;refine XH 2 ?_;refine zu ?_;refine XH 3 ?_;refine zu ?_;refine XH 4 ?_;refine zu ?_;refine XH 5 ?_;refine zu ?_;refine XH 6 ?_;refine zu ?_;refine XH 7 ?_;refine zu ?_;refine XH 8 ?_;refine zu ?_;refine XH 9 ?_;refine zu ?_;refine XH 10 ?_;refine zu ?_;refine XH 11 ?_;refine zu ?_;refine XH 12 ?_;refine zu ?_;refine wN 13 ?_;refine zu ?_;refine wN 14 ?_;refine zu ?_;refine wN 15 ?_;refine zu ?_;refine wN 16 ?_;refine zu ?_;refine wN 17 ?_;refine zu ?_;refine wN 18 ?_;refine zu ?_;refine wN 19 ?_;refine zu ?_;refine XH 20 ?_;refine zu ?_;refine XH 21 ?_;refine zu ?_;refine wpAnyH_done zab ?_ _;go_wp2_with fail;go_roundg (n - (i+1))
    case measure=>have:=FK.o;omega
    case rel=>exact ⟨i+1,rfl,Cm,zac,Fi⟩
   ·obtain ⟨j,hj⟩:∃ j,i=j+1:=⟨i - 1,zo⟩
    have j0:(0:Int)<(i:Int):=zo;have j1:0<i:=zo;obtain ⟨-,g8',e8,y9⟩:=PF.2.get (i:=j) zo;injection e8 with e8;injection e8 with e8;subst e8;have BY:=PF.1 j hj;obtain ⟨pr,F1⟩:=zE (X.getD j 0);rw [<- F1] at y9 BY;have ew:IntKind.i64.wrap ((i:Int) - 1)=(j:Int):=by rw [show (i:Int) - 1=(j:Int) by omega];exact yv _ zo
    have b0:(0:Int)<=(j:Int):=zo;have b1:(j:Int)<(n:Int):=zo;have q0:¬ (k:Int)<=(pr:Int):=zo;have q1:¬ k<=pr:=zo;clear NX hj F1 BY;refine wp_region_held_drew (S:=fun W'=>W'.cell? ⟨g8,i,none⟩=some (.int .i64 (k:Int))/\W'.cell? ⟨g4,i,none⟩=some (.int .i64 (k:Int))/\W'.cell? ⟨g8,j,none⟩=some (.int .i64 (pr:Int))) zab (by exact ⟨y8,y4,y9⟩) fun BS=>?_;refine Jl 0 ?_;refine zu ?_;refine Jl 1 ?_;refine zu ?_;refine Jl 2 ?_;refine zu ?_;refine Jl 3 ?_;refine zu ?_;refine Jl 4 ?_;refine zu ?_;refine Jl 5 ?_;refine zu ?_;refine Jl 6 ?_;refine zu ?_;refine Jl 7 ?_;refine zu ?_;refine Jl 8 ?_;refine zu ?_;refine Jl 9 ?_;refine zu ?_;refine Jl 10 ?_;refine zu ?_;refine Jl 11 ?_;refine zu ?_;refine Jl 12 ?_;refine zu ?_;refine Jl 13 ?_;refine zu ?_;refine Jl 14 ?_;refine zu ?_;refine Jl 15 ?_;refine zu ?_;refine Jl 16 ?_;refine zu ?_;refine Jl 17 ?_;refine zu ?_;refine Jl 18 ?_;refine zu ?_;refine Jl 19 ?_;refine zu ?_;refine Jl 20 ?_;refine zu ?_;refine Jl 21 ?_;refine zu ?_;refine wpAnyH_done zab ?_ _;go_wp2_with fail;go_roundg (n - (i+1))
    case measure=>have:=FK.o;omega
    case rel=>exact ⟨i+1,rfl,Cm,zac,Fi⟩
  ·obtain rfl:i=n:=zo
   have i1:¬ (i:Int)<(i:Int):=zo;have Mb:X.take i=X:=by rw [RK.1];exact List.take_length
   have HR1:Hd (QZ wr mb 300 i (fun k=>decide (k∈X)||decide (k∈Y.take 0))/\zv [mb] W wr):=zh ⟨by
    have:=HR.1;rw [Mb] at this;simpa using this,HR.2⟩
   have Kn:∀ q,q∈[mb]->q∈[mb]∨W.heap.size<=q:=fun q hq => .inl hq;clear Mb HR RL;obtain ⟨w0r,rfl⟩:=zE wr;go_upto_region 24 with fail;go_loopg [174] m (fun gg s174 wr=>∃ j:Nat,gg=m - j/\j<=m/\s174 = .int .i64 (j:Int)/\Hd (QZ wr mb 300 (i+j) (fun k=>decide (k∈X)||decide (k∈Y.take j))/\zv [mb] W wr))
   case atStart=>exact ⟨0,rfl,yg _,rfl,HR1⟩
   case round =>
    obtain ⟨j,It,hj,rfl,HR⟩:=hrel;have KJ:=zh It;clear It;by_cases hjm:j<m
    ·have i2:(j:Int)<(m:Int):=zo
     have hjY:j<Y.length:=by rw [<- RK.2.1];exact hjm
     have I5:=HP.2.1 _ (Ov hjY);obtain ⟨k,hk⟩:=zE (Y.getD j 0);rw [<- hk] at I5
     obtain ⟨v,MS,Co,hv,MH,Mn,Ci⟩:=HR.1.step (S':=fun q=>decide (q∈X)||decide (q∈Y.take (j+1))) I5 zo zo (fun q _=>by
      rw [Oo hjY,<- hk,Bool.eq_iff_iff];simp only [yx,zms,Bool.or_eq_true,decide_eq_true_eq,or_assoc])
     obtain ⟨-,g9,e9,y0⟩:=(HN.2.2.1.chg HR.2 Kn).get hjm;subst e9;rw [<- hk] at y0;have e1:IntKind.i64.wrap ((v:Int)+1)=(v:Int)+1:=yv _ zo;have Fi:Hd (QZ MS mb 300 (i+(j+1)) (fun q=>decide (q∈X)||decide (q∈Y.take (j+1)))/\zv [mb] W MS):=zh ⟨Mn,HR.2.trans Ci⟩;clear Mn Ci hk I5 HR HR1;go_wp2_with fail;go_roundg (m - (j+1))
     case measure=>have:=KJ.o;omega
     case rel=>exact ⟨j+1,rfl,hjm,zac,Fi⟩
    ·obtain rfl:j=m:=zo
     have i2:¬ (j:Int)<(j:Int):=zo;have hY1:Y.take j=Y:=by rw [RK.2.1];exact List.take_length
     have HI:Hd (QZ wr mb 300 (i+j) (fun k=>decide (k∈X)||decide (k∈Y))/\zv [mb] W wr):=zh (by have:=HR.o;rwa [hY1] at this);have hwc:=HN.2.2.2.2.2.1;have Us:=zh (zA (HN.2.2.2.2.1.chg HI.2 (fun q hq=>hq)) (zA (HN.2.2.2.1.chg HI.2 Kn) (hwc.tn HI.2 HB)));clear hY1 HR HR1 hwc Kn;obtain ⟨w1r,rfl⟩:=zE wr;go_upto_region 29 with fail;go_loopg [185] r (fun gg s185 wr=>∃ q:Nat,gg=r - q/\q<=r/\s185 = .int .i64 (q:Int)/\Hd (zv [] w1r wr))
     case atStart=>exact ⟨0,rfl,yg _,rfl,zh (zv.refl _ _)⟩
     case round =>
      obtain ⟨q,Is,hq,rfl,HR⟩:=hrel;have HGQ:=zh Is;clear Is;have Iv:=HI.1.chg HR.o;by_cases SU:q<r
      ·have i3:(q:Int)<(r:Int):=zo
       have hqZ:q<Z.length:=by rw [<- RK.2.2];exact SU
       have hzm:=Ov hqZ;have Fw:=HP.2.2.2 _ hzm;obtain ⟨k,hk⟩:=zE (Z.getD q 0);rw [<- hk] at hzm Fw;have hnB:nodesB B2 Cg [z,x,0,z] k=true:=by rw [HZ.1] at hzm;exact (x8.1 hzm).2
       have hS:(decide (k∈X)||decide (k∈Y))=true:=by rw [<- HZ.2 k Fw];exact hnB
       obtain ⟨_,d,_,hd,_⟩:=H7.2.1.gr.nodesB_has H7.2.1.low hnB;have CN:=zh (Yp (Us.1.chg HR) hd);have Dg:=Us.2.1.chg HR.o;obtain ⟨-,gz,ez,y0⟩:=Dg.get SU;subst ez;rw [<- hk] at y0;have IC:∀ j,q=j+1->Z.getD j 0<k:=fun j hj=>by rw [hk];exact kw HP.2.2.1 zo hqZ
       have PF:=zh (zA IC (zA Dg (zA Iv (zA Fw hS))));have hatw:IntKind.i64.wrap (k:Int)=(k:Int):=yv _ zo;clear IC Dg Iv hS hk hzm hnB hd;go_wp2_with fail;refine CN.mono ?_;clear CN;rintro e wn ⟨kx,vx,rfl,k1,k2,rk,rv,c5⟩;have Cn:=(zv.refl [] wn).alloc (.cells #[.bool d.leaf,zS kx d.n d.n,zS vx d.n d.n] 42);have HC:=zh (c5.trans Cn);clear k1 k2 rk rv c5 Cn y0;go_upto_region 32 with fail;generalize wn.alloc (.cells #[.bool d.leaf,zS kx d.n d.n,zS vx d.n d.n] 42)=W2 at HC ⊢;obtain ⟨v,Co,EZ⟩:=(PF.2.2.1.chg HC).look PF.2.2.2.1 zo;have EZ:=EZ PF.2.2.2.2;have v0:((v:Int)==0)=false:=by rw [yD];omega
       have HE:=zh (HR.trans HC);by_cases Pf:q=0
       ·have j0:¬ (0:Int)<(q:Int):=zo
        have j1:¬ 0<q:=zo;clear Pf EZ;go_wp2_with fail;go_roundg (r - (q+1))
        case measure=>have:=HGQ.o;omega
        case rel=>exact ⟨q+1,rfl,SU,zac,HE⟩
       ·obtain ⟨j',Mo⟩:∃ j,q=j+1:=⟨q - 1,zo⟩
        have j0:(0:Int)<(q:Int):=zo;have j1:0<q:=zo;obtain ⟨-,gz',ez,y9⟩:=(PF.2.1.chg HC).get (i:=j') zo;injection ez with ez;injection ez with ez;subst ez;have BY:=PF.1 j' Mo;obtain ⟨pr,F1⟩:=zE (Z.getD j' 0);rw [<- F1] at y9 BY;have ew:IntKind.i64.wrap ((q:Int) - 1)=(j':Int):=by rw [show (q:Int) - 1=(j':Int) by omega];exact yv _ zo
        have b0:(0:Int)<=(j':Int):=zo;have b1:(j':Int)<(r:Int):=zo;have q0:¬ (k:Int)<=(pr:Int):=zo;have q1:¬ k<=pr:=zo;clear Pf Mo F1 BY EZ;go_wp2_with fail;go_roundg (r - (q+1))
        case measure=>have:=HGQ.o;omega
        case rel=>exact ⟨q+1,rfl,SU,zac,HE⟩
      ·obtain rfl:q=r:=zo
       have i3:¬ (q:Int)<(q:Int):=zo;have B9:=Iv.len
       have Gk:cnt 300 (fun k=>decide (k∈X)||decide (k∈Y))=q:=by
        rw [RK.2.2,HZ.1,Ou];exact zZ fun k hk=>(HZ.2 k hk).symm
       rw [Gk] at B9;have HF:=zh (Us.2.2.trans HR);clear Iv Gk;go_wp2_with fail;refine (mn _).mono ?_;rintro e wz ⟨rfl,hZ'⟩;have HZ':=zh (HF.trans hZ');clear hZ';go_wp2_with fail;go_ret;exact ⟨rfl,HZ'.below zaa⟩
end Go.Proofs.YtegpiomkmfhadaaGreat
namespace Go.Proofs.YtegpiomkmfhadaaGreat.shareBlocks
open Go.ChangeShapes Go.WideShapes Go.ChangeAt Go.RowKit
open Go.ChangeMaps (open_string shut_string)
theorem own:ownKnob Tryz.prog.godebug=none:=zab
theorem laidOut:laidOutB Tryz.prog=true:=zab
theorem lifted (os:Os) (GZ:os.Started) (H:Type) (enc:TypeId × Value->H) :
  ReturnsInHanded {} Tryz.checked os 3 .any (Rows.shareBlocksSpec.pre6 enc Tryz.prog Tryz.f3 Rows.shareBlocksRow.domain false) (Rows.shareBlocksSpec.post enc Tryz.prog Tryz.f3 false true false false):=by
 refine returnsInHanded_of_change (C:=Tryz.checked) own GZ zab Tryz.func3
  (ChangeSpec.witness6 (enc:=enc) (C:=Tryz.checked) false ⟨#[],#[.slice none 0 0,.int .u64 0,.int .u64 0],[]⟩ 8 zab zab zab zab) ?_
 intro W base args ds gs before Rr hW hcnd _;have DE:∀ (j:Nat) t v,Tryz.f3.params[j]?=some t->args[j]?=some v->Value.okWide Tryz.prog W .any base t v:=Rr;have Sj:=hW;obtain ⟨p,q,hA0,hV,rfl,TX,Cp⟩:=hW;have hA:DataW.TrodAll enc Tryz.prog W 0 (fun _=>true) true Tryz.f3.params.toList args.toList ds p:=hA0;rw [Tryz.params3] at hA DE;obtain ⟨v0,vr0,d0,ds0,p0,q0,hargs,rfl,rfl,h0,r0⟩:=trodAll_cons hA;obtain ⟨v1,vr1,d1,ds1,p1,q1,rfl,rfl,rfl,h1,r1⟩:=trodAll_cons r0;obtain ⟨v2,vr2,d2,ds2,p2,q2,rfl,rfl,rfl,h2,r2⟩:=trodAll_cons r1;obtain ⟨rfl,rfl,rfl⟩:=trodAll_nil r2;obtain rfl:args=#[v0,v1,v2]:=by cases args;simp_all
 obtain ⟨rfl,rfl⟩:=trodVars_none hV;obtain ⟨a0,len0,cap0,rfl⟩:=okWide_slice Tryz.underlying22 (DE 0 22 v0 rfl rfl);have k0:=h0;have lt0:∀ x∈p0,x.block<W.heap.size:=by obtain ⟨m,hm⟩:=k0;exact DataW.trod_lt m _ _ _ hm
 obtain ⟨z0,w0⟩:=pV h0;obtain ⟨a1,rfl,rfl,rfl,w1⟩:=open_int Tryz.underlying23 (DE 1 23 v1 rfl rfl) h1;obtain ⟨a2,rfl,rfl,rfl,w2⟩:=open_int Tryz.underlying23 (DE 2 23 v2 rfl rfl) h2;clear hA0 Rr;refine (Ow a0 len0 cap0 z0 a1 a2 W w0 w1 w2).mono fun e W' ⟨he,bel⟩=>?_;subst he;exact ⟨_,rfl,_,_,_,[],_,[],Sj,trodAll_mk1 (shut_bool Tryz.underlying4 _),(trodAll_cons_mk (Below.trod laidOut zab (of_decide_eq_true zab) k0 bel lt0) (trodAll_cons_mk (shut_int Tryz.underlying23 w1) (trodAll_cons_mk (shut_int Tryz.underlying23 w2) trodAll_mk0))),rfl,bel.frame _,fun h=>by cases h⟩
end Go.Proofs.YtegpiomkmfhadaaGreat.shareBlocks
