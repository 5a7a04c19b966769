/- slices.Compact at []uint64: how many nu -/
import Derived.Test.YtegpiomkmfhadaaGreatZo13
set_option linter.all false
set_option maxRecDepth 100000
set_option maxHeartbeats 20000000
namespace Go.Proofs.YtegpiomkmfhadaaGreat
open Go.RowKit
variable {w w1:World} {g n nk nv:Nat} {A:List Nat} {leaf:Bool} {keys vals:zF} {vk vv:Value}
theorem Vr {L:List Nat} {a:World} {b:Nat} (hb:b∈L):∀ (vs:List Value) (o:Nat) (w:World),zv L a w->zv L a (w.setCells b o vs)
 | [],_,_,h=>h
 | v::r,o,w,h=>Vr hb r (o+1) _ (h.setCell (.inl hb) v)
theorem Ap (w:World):(zeroValue 23).run Tryz.prog w = .ok (.int .u64 0) w:=zab
def sy (f:zF) (n:Nat):Prop:=∀ i,i+1<n->f i≠f (i+1)
def oN (w:World) (g n c:Nat) (f:zF) (e:Ending) (w':World):Prop:=∃ m,e = .returned (zS g m c)/\m<=n/\(m=n↔sy f n)/\zv [g] w w'
theorem ld {c:Nat} {f:zF} (h:zQ w g n f) (h1:1<=n) (hn:n<=12) (hc:n<=c) (F8:c<=9223372036854775807) :
  zC 220 #[zS g n c] w (oN w g n c f):=by
 have H:=zh h;clear h;by_cases Iz:n=1
 ·have BY:(n:Int)<2:=zo
  have Hn1:=zh Iz;clear Iz;go_enter Tryz.func220,Tryz.ntmps220;go_wp2_with fail;go_ret;exact ⟨n,rfl,xd _,⟨fun _ i hi=>by have:=Hn1.o;omega,fun _=>rfl⟩,zv.refl _ _⟩
 ·have BY:¬ (n:Int)<2:=zo
  go_enter Tryz.func220,Tryz.ntmps220;go_wp2_with fail
  go_loopw [3] (fun s wr=>∃ i:Nat,s = .int .i64 (i:Int)/\1<=i/\i<=n/\sy f i/\zv [] w wr) (fun s _=>n - (intOf s).toNat)
  case atStart=>exact ⟨1,rfl,xd _,h1,fun i hi=>zo,zv.refl _ _⟩
  case round =>
   obtain ⟨i,rfl,hi1,Mm,hA,hC⟩:=hrel;obtain ⟨wo,rfl⟩:=zE wr;have HA:=zh hA;have HC:=zh hC;have hR:=H.chg hC;have HR:=zh hR;clear hA hC hR;by_cases Cm:i<n
   ·obtain ⟨k,hk⟩:∃ k,i=k+1:=⟨i - 1,zo⟩
    subst hk;have c1:=HR.cell (i:=k+1) Cm;have c2:=HR.cell (i:=k) zo;have:(0:Int)<=(k:Int)+1:=zo
    have:(k:Int)+1<(n:Int):=zo;have:(0:Int)<=(k:Int):=zo;have:(k:Int)<(n:Int):=zo
    have:IntKind.i64.wrap ((k:Int)+1 - 1)=(k:Int):=by
     rw [show (k:Int)+1 - 1=(k:Int) by omega];exact yv _ zo
    by_cases G8:f (k+1)=f k
    ·have hd:((f (k+1):Int)==(f k:Int))=true:=by simp [G8]
     have Heq:=zh G8;clear G8;go_wp2_with fail
     go_quiet (fail)
     have LX:=zh (HR.chg (zv.drewN (zv.refl [] _) nq));have Uo:=zh (HC.drewN nq);clear c1 c2;generalize wo.drewN nq=W at *;go_wp2_with fail;have:k+1+(n - (k+1))=n:=zo
     have:k+1+(c - (k+1))=c:=zo;generalize n - (k+1)=M at *;generalize c - (k+1)=C at *
     go_loopw [3,5] (fun s t wr=>∃ (i q:Nat) (f2:zF),s = .int .i64 (i:Int)/\t = .int .i64 ((q+1:Nat):Int)/\q+1<=M/\k+1<=i/\i<=k+1+q/\zQ wr g n f2/\zv [g] w wr) (fun _ t _=>M - (intOf t).toNat)
     case atStart=>exact ⟨k+1,0,f,rfl,rfl,zo,xd _,zo,LX.o,Uo.mo⟩
     case round =>
      obtain ⟨i,q,f2,rfl,rfl,hq,GO,hi4,G4,Do⟩:=hrel;obtain ⟨wi,rfl⟩:=zE wr;have Ej:=zh G4;have BZ:=zh Do;clear G4 Do;by_cases hqM:q+1<M
      ·have c1:=Ej.cell (i:=k+1+(q+1)) zo
       have c2:=Ej.cell (i:=k+1+q) zo;have:(0:Int)<=(q:Int)+1:=zo
       have:(q:Int)+1<(M:Int):=zo;have:(0:Int)<=(q:Int):=zo;have:(q:Int)<(M:Int):=zo
       have:IntKind.i64.wrap ((q:Int)+1 - 1)=(q:Int):=by
        rw [show (q:Int)+1 - 1=(q:Int) by omega];exact yv _ zo
       have:=Ej.cell (i:=i) zo;have Kc:(i:Int)<(n:Int):=zo
       have NX:(0:Int)<=(i:Int):=zo;have hv:=(Ej.nums (k+1+(q+1)) zo).2;have:=Ej.fz i;by_cases No:f2 (k+1+(q+1))=f2 (k+1+q)
       ·have hd:((f2 (k+1+(q+1)):Int) != (f2 (k+1+q):Int))=false:=by simp [No]
        clear No;go_wp2_with fail
        go_quiet (fail)
        go_wp2_with fail
        go_roundw
        case rel=>exact ⟨i,q+1,f2,rfl,zac,zo,GO,zo,Ej.chg (zv.drewN (zv.refl [] _) _),BZ.drewN _⟩
        case measure=>simp [intOf];omega
       ·have hd:((f2 (k+1+(q+1)):Int) != (f2 (k+1+q):Int))=true:=by simp;omega
        clear No;go_wp2_with fail
        go_quiet (fail)
        have HR3:=zh (Ej.chg (zv.drewN (zv.refl [] _) nq));have Cj:=zh (BZ.drewN nq);have HS:=zh (HR3.set (i:=i) (v:=f2 (k+1+(q+1))) zo hv);go_wp2_with fail
        go_roundw
        case rel=>exact ⟨i+1,q+1,_,zac,zac,zo,zo,zo,HS.o,Cj.setCell (.inl zaa) _⟩
        case measure=>simp [intOf];omega
      ·have:i<n:=zo
       have:=Lib.run_clear_slice (P:=Tryz.prog) wi 40 23 0 (.int .u64 0) Tryz.underlying40 Ap rfl rfl g i (n - i) (c - i) zo
        (fun j hj=>by rw [Ej.cell (i:=i+j) zo];rfl) (fun j hj=>Ej.fz _)
       have HE:=zh (Vr (L:=[g]) (a:=w) (b:=g) zaa (List.replicate (n - i) (.int .u64 0)) i wi BZ);have Kc:(i:Int)<=(n:Int):=zo
       have NX:(0:Int)<=(i:Int):=zo;go_wp2_with fail;go_ret;exact ⟨i,rfl,zo,⟨fun h=>zo,fun h=>absurd Heq.symm (h k zo)⟩,HE⟩
    ·have hd:((f (k+1):Int)==(f k:Int))=false:=by simp;omega
     have Heq:=zh G8;clear G8;go_wp2_with fail
     go_quiet (fail)
     go_wp2_with fail
     go_roundw
     case rel =>
      refine ⟨k+2,zac,zo,zo,fun j hj=>?_,HC.drewN _⟩;by_cases e:j=k
      ·subst e;exact fun q=>Heq q.symm
      ·exact HA j zo
     case measure=>simp [intOf];omega
   ·obtain rfl:i=n:=zo
    go_wp2_with fail;go_ret;exact ⟨i,rfl,xd _,⟨fun _=>HA.o,fun _=>rfl⟩,HC.mo⟩
theorem iV {f:zF} (hs:Zz f n) (h1:1<=n):YI f n↔f 0≠0/\f (n - 1)<4096/\sy f n:=by
 constructor
 ·rintro ⟨a,b⟩
  exact ⟨(a 0 zo).1,(a (n - 1) zo).2,fun i hi=>b i (i+1) zo hi⟩
 ·rintro ⟨a,b,c⟩
  refine ⟨fun i hi=>⟨?_,?_⟩,fun i j DP hj=>?_⟩
  ·by_cases e:i=0
   ·subst e;exact a
   ·have:=hs 0 i zo hi;omega
  ·by_cases e:i=n - 1
   ·subst e;exact b
   ·have:=hs i (n - 1) zo zo;omega
  ·have h2:=c i zo
   have:=hs i (i+1) zo zo;by_cases e:j=i+1
   ·subst e;exact h2
   ·have:=hs (i+1) j zo hj;omega
def ZN (f:zF) (n:Nat):Bool:=decide (1<=n)&&((List.range n).all (fun i=>decide (f i≠0/\f i<4096))&&(List.range n).all (fun j=>(List.range j).all fun i=>decide (f i≠f j)))
theorem qs (f:zF) (n:Nat):ZN f n=true↔(1<=n/\YI f n):=by
 simp only [ZN,YI,Bool.and_eq_true,decide_eq_true_eq,yQ,ye];constructor
 ·rintro ⟨a,b,c⟩
  exact ⟨a,b,fun i j DP hj=>c j hj i DP⟩
 ·rintro ⟨a,b,c⟩
  exact ⟨a,b,fun j hj i DP=>c i j DP hj⟩
theorem XS {f:zF} {b:Bool} (h:(1<=n/\YI f n)↔b=true):ZN f n=b:=by
 rw [Bool.eq_iff_iff,qs];exact h
theorem vp {v:Value} {f:zF} (h:zT A w v n f) (hn:n<=12) :
  zC 181 #[v] w fun e w'=>e = .returned (.bool (ZN f n))/\zv [] w w':=by
 by_cases h0:n=0
 ·subst h0
  have hk:ZN f 0=false:=XS zaa
  have c1:zC 211 #[v] w (ba w):=by
   rcases h with ⟨⟨a,c,rfl,_,hn⟩,_⟩ | ⟨b,off,cap,rfl,_⟩
   ·cases a with
    | none =>
     obtain rfl:=hn rfl;exact f8
    | some x=>exact Jt
   ·exact Jt
  obtain ⟨a,cap,rfl⟩:=h.len;rw [hk];clear hk h;go_enter Tryz.func181,Tryz.ntmps181;go_wp2_with fail;refine c1.mono ?_;clear c1;rintro e w1 ⟨a',c',rfl,Cz⟩;have Ce:=zh Cz;clear Cz;go_wp2_with fail;refine zm oM ?_;go_wp2_with fail;go_ret;exact ⟨rfl,Ce⟩
 ·rcases h with ⟨_,h⟩ | ⟨b,off,cap,rfl,q1,q2,q3,q4,hN⟩
  ·exact absurd h h0
  ·have h1:1<=n:=zo
   have HN:=zh hN;have:((n:Int)==0)=false:=by simp;omega
   clear hN h0;go_enter Tryz.func181,Tryz.ntmps181;go_wp2_with fail;refine (Z9 HN zo h1).mono ?_;rintro e w1 ⟨g,c,rfl,r1,r2,r3,hR,Cz⟩;have HR:=zh hR;have Ce:=zh Cz;unfold maxLen at r2;clear hR Cz;go_wp2_with fail;refine (vm HR hn r1).mono ?_;rintro e w2 ⟨rfl,f',G4,hs,hG,Do⟩;have Ej:=zh G4;have HG:=zh (hG.symm.trans (iV hs h1));have:=zh hs;have BZ:=zh (Ce.then Do (by simp;exact r3));clear G4 hs hG Do;have:=Ej.cell (i:=0) zo;obtain ⟨k,hk⟩:∃ k,n=k+1:=⟨n - 1,zo⟩;have:=Ej.cell (i:=k) zo;have:(n:Int) - 1=(k:Int):=zo
   have:(0:Int)<=(k:Int):=zo;have:(k:Int)<(n:Int):=zo;have:(0:Int)<(n:Int):=zo;have ek:n - 1=k:=zo;rw [ek] at HG;clear hk ek;by_cases z0:f' 0=0
   ·have hd:((f' 0:Int)==0)=true:=by simp [z0]
    have E:=zh (XS (f:=f) (n:=n) (b:=false) ⟨fun q=>absurd z0 (HG.1 q.2).1,fun q=>by cases q⟩);clear z0;go_wp2_with fail;go_ret;exact ⟨by rw [E.o];rfl,BZ⟩
   ·have hd:((f' 0:Int)==0)=false:=by simp;omega
    by_cases z1:f' k<4096
    ·have EJ:¬ (4096:Int)<=(f' k:Int):=zo
     have Hz:=zh (zA z0 z1);clear z0 z1;go_wp2_with fail;refine (ld Ej h1 hn r1 zo).mono ?_;rintro e w3 ⟨m,rfl,m1,m2,El⟩;have Cj:=zh (BZ.then El (by simp;exact r3));have M2:=zh m2;clear m2 El;by_cases hmn:m=n
     ·have hdm:((m:Int)==(n:Int))=true:=by simp;omega
      have E:=zh (XS (f:=f) (n:=n) (b:=true) ⟨fun _=>rfl,fun _=>⟨h1,HG.2 ⟨Hz.1,Hz.2,M2.1 hmn⟩⟩⟩);clear hmn;go_wp2_with fail;go_ret;exact ⟨by rw [E.o];simp,Cj⟩
     ·have hdm:((m:Int)==(n:Int))=false:=by simp;omega
      have E:=zh (XS (f:=f) (n:=n) (b:=false) ⟨fun q=>absurd (M2.2 (HG.1 q.2).2.2) hmn,fun q=>by cases q⟩);clear hmn;go_wp2_with fail;go_ret;exact ⟨by rw [E.o];simp,Cj⟩
    ·have EJ:(4096:Int)<=(f' k:Int):=zo
     have E:=zh (XS (f:=f) (n:=n) (b:=false) ⟨fun q=>absurd (HG.1 q.2).2.1 z1,fun q=>by cases q⟩);clear z0 z1;go_wp2_with fail;go_ret;exact ⟨by rw [E.o];rfl,BZ⟩
def ZA (f:zF) (n:Nat):Prop:=∀ i,0<i->i<n->f (i - 1)<f i
def iW (f:zF) (n:Nat):Bool:=(List.range n).all fun i=>decide (0<i->f (i - 1)<f i)
theorem Ya (f:zF) (n:Nat):iW f n=true↔ZA f n:=by
 simp only [iW,ZA,yQ,ye,decide_eq_true_eq];exact ⟨fun h i h1 h2=>h i h2 h1,fun h i h2 h1=>h i h1 h2⟩
def zV (leaf:Bool) (nk nv:Nat) (keys vals:zF):Bool:=decide (nk<=7)&&(decide (nv=nk)&&((leaf||ZN vals nv)&&iW keys nk))
theorem Yx {b:Bool} (h:(nk<=7/\nv=nk/\(leaf||ZN vals nv)=true/\ZA keys nk)↔b=true):zV leaf nk nv keys vals=b:=by
 rw [Bool.eq_iff_iff];unfold zV;rw [Bool.and_eq_true,Bool.and_eq_true,Bool.and_eq_true,decide_eq_true_eq,decide_eq_true_eq,Ya];exact h
theorem be (hk:zT A w vk nk keys) (hv:zT A w vv nv vals) :
  zC 132 #[.agg #[.bool leaf,vk,vv]] w fun e w'=>e = .returned (.bool (zV leaf nk nv keys vals))/\zv [] w w':=by
 obtain ⟨ak,ck,rfl⟩:=hk.len;obtain ⟨av,cv,rfl⟩:=hv.len;have hW:=(zv.refl [] w).alloc (.cells #[.bool leaf,.slice ak nk ck,.slice av nv cv] 42);have HX:=zh (xo w (.cells #[.bool leaf,.slice ak nk ck,.slice av nv cv] 42));have HK:=zh (hk.chg hW);have HV:=zh (hv.chg hW);have HW:=zh hW;clear hk hv hW;by_cases h7:7<nk
 ·have h7I:(7:Int)<(nk:Int):=zo
  have E:=zh (Yx (leaf:=leaf) (nk:=nk) (nv:=nv) (keys:=keys) (vals:=vals) (b:=false) ⟨fun h=>zo,fun h=>by cases h⟩);clear h7;go_enter Tryz.func132,Tryz.ntmps132;go_wp2_with fail;go_ret;exact ⟨by rw [E.o];rfl,HW⟩
 by_cases KC:nv=nk
 case neg =>
  have h7I:¬ (7:Int)<(nk:Int):=zo;have BU:((nv:Int) != (nk:Int))=true:=by simp;omega
  have E:=zh (Yx (leaf:=leaf) (nk:=nk) (nv:=nv) (keys:=keys) (vals:=vals) (b:=false) ⟨fun h=>absurd h.2.1 KC,fun h=>by cases h⟩);clear h7 KC;go_enter Tryz.func132,Tryz.ntmps132;go_wp2_with fail;go_ret;exact ⟨by rw [E.o];rfl,HW⟩
 have h7I:¬ (7:Int)<(nk:Int):=zo;have BU:((nv:Int) != (nk:Int))=false:=by simp;omega
 have Hnv:=zh KC;have H7:=zh h7;have hnv12:nv<=12:=zo
 have:nk<=12:=zo;clear KC h7
 cases leaf with
 | true =>
  have RU:Hd (nk<=7/\nv=nk/\(true||ZN vals nv)=true):=zh ⟨by have:=H7.o;omega,Hnv.o,rfl⟩;go_enter Tryz.func132,Tryz.ntmps132;go_wp2_with fail;generalize w.alloc (.cells #[.bool true,.slice ak nk ck,.slice av nv cv] 42)=W at *
  go_loopw [31] (fun s wr=>∃ i:Nat,s = .int .i64 (i:Int)/\i<=nk/\ZA keys i/\zv [] W wr) (fun s _=>nk - (intOf s).toNat)
  case atStart=>exact ⟨0,rfl,yg _,fun i h1 h2=>zo,zv.refl _ _⟩
  case round =>
   obtain ⟨i,rfl,hi,hA,hC⟩:=hrel;have hX:=(hC.block w.heap.size (zz HX) zaa).trans HX.o;have hK:=HK.chg hC;have x1:=zM hX 1;simp only [tA1,tA3,tA2] at x1;have HA:=zh hA;have HC:=zh hC;clear hA hC hX;by_cases Cm:i<nk
   ·rcases hK with ⟨_,h0⟩ | ⟨kb,ko,kc,hke,k1,k2,k3,k4,k5⟩
    ·omega
    ·injection hke with Mp _ Mq
     subst Mp Mq;unfold maxLen at k2;by_cases h0:i=0
     ·subst h0
      have hd:decide ((0:Int)<((0:Nat):Int))=false:=rfl;clear k5;go_wp2_with fail
      go_quiet (fail)
      go_wp2_with fail
      go_roundw
      case rel=>exact ⟨1,zac,zo,fun i h1 h2=>zo,HC.drewN _⟩
      case measure=>simp [intOf];omega
     ·obtain ⟨q,hq⟩:∃ q,i=q+1:=⟨i - 1,zo⟩
      subst hq;have c1:=(k5 (q+1) Cm).1;have c2:=(k5 q zo).1;have j0:(0:Int)<(q:Int)+1:=zo
      have j1:(q:Int)+1<(nk:Int):=zo;have j2:(0:Int)<=(q:Int):=zo;have j3:(q:Int)<(nk:Int):=zo
      have e2:IntKind.i64.wrap ((q:Int)+1 - 1)=(q:Int):=by
       rw [show (q:Int)+1 - 1=(q:Int) by omega];exact yv _ zo
      clear k5;by_cases BY:keys q<keys (q+1)
      ·have hd:decide (keys (q+1)<=keys q)=false:=by simp;omega
       have UD:=zh BY;clear BY;go_wp2_with fail
       go_quiet (fail)
       go_wp2_with fail
       go_roundw
       case rel =>
        refine ⟨q+2,zac,zo,fun j h1 h2=>?_,HC.drewN _⟩;by_cases e:j=q+1
        ·subst e;exact UD.o
        ·exact HA j h1 zo
       case measure=>simp [intOf];omega
      ·have hd:decide (keys (q+1)<=keys q)=true:=by simp;omega
       have E:=zh (Yx (leaf:=true) (nk:=nk) (nv:=nv) (keys:=keys) (vals:=vals) (b:=false) ⟨fun h=>absurd (h.2.2.2 (q+1) zo Cm) BY,fun h=>by cases h⟩);clear BY;go_wp2_with fail
       go_quiet (fail)
       go_wp2_with fail;go_ret;exact ⟨by rw [E.o];rfl,HW.trans (HC.drewN _)⟩
   ·obtain rfl:i=nk:=zo
    have E:=zh (Yx (leaf:=true) (nk:=i) (nv:=nv) (keys:=keys) (vals:=vals) (b:=true) ⟨fun _=>rfl,fun _=>⟨RU.1,RU.2.1,RU.2.2,HA⟩⟩);clear hK;go_wp2_with fail;go_ret;exact ⟨by rw [E.o];rfl,HW.trans HC⟩
 | false =>
  have cK:=vp HV hnv12
  cases hkb:ZN vals nv with
  | false =>
   rw [hkb] at cK;have E:=zh (Yx (leaf:=false) (nk:=nk) (nv:=nv) (keys:=keys) (vals:=vals) (b:=false) ⟨fun h=>by rw [hkb] at h;exact absurd h.2.2.1 zaf,fun h=>by cases h⟩);clear hkb;go_enter Tryz.func132,Tryz.ntmps132;go_wp2_with fail;refine cK.mono ?_;clear cK;rintro e w1 ⟨rfl,Cz⟩;have Ce:=zh (HW.trans Cz);clear Cz;go_wp2_with fail;go_ret;exact ⟨by rw [E.o];rfl,Ce⟩
  | true =>
   rw [hkb] at cK;have RU:Hd (nk<=7/\nv=nk/\(false||ZN vals nv)=true):=zh ⟨by have:=H7.o;omega,Hnv.o,by rw [hkb];rfl⟩;clear hkb;go_enter Tryz.func132,Tryz.ntmps132;go_wp2_with fail;refine cK.mono ?_;clear cK;rintro e W ⟨rfl,Cz⟩;have HX0:=HX;have KL:=HK;have HW0:=HW;clear HX HK HW;have HX:=zh ((Cz.block w.heap.size (zz HX0) zaa).trans HX0);have HK:=zh (KL.chg Cz);have HW:=zh (HW0.trans Cz);have x1':=zM HX 1;simp only [tA1,tA3,tA2] at x1';clear Cz HX0 KL HW0;go_wp2_with fail;clear x1'
   go_loopw [31] (fun s wr=>∃ i:Nat,s = .int .i64 (i:Int)/\i<=nk/\ZA keys i/\zv [] W wr) (fun s _=>nk - (intOf s).toNat)
   case atStart=>exact ⟨0,rfl,yg _,fun i h1 h2=>zo,zv.refl _ _⟩
   case round =>
    obtain ⟨i,rfl,hi,hA,hC⟩:=hrel;have hX:=(hC.block w.heap.size (zz HX) zaa).trans HX.o;have hK:=HK.chg hC;have x1:=zM hX 1;simp only [tA1,tA3,tA2] at x1;have HA:=zh hA;have HC:=zh hC;clear hA hC hX;by_cases Cm:i<nk
    ·rcases hK with ⟨_,h0⟩ | ⟨kb,ko,kc,hke,k1,k2,k3,k4,k5⟩
     ·omega
     ·injection hke with Mp _ Mq
      subst Mp Mq;unfold maxLen at k2;by_cases h0:i=0
      ·subst h0
       have hd:decide ((0:Int)<((0:Nat):Int))=false:=rfl;clear k5;go_wp2_with fail
       go_quiet (fail)
       go_wp2_with fail
       go_roundw
       case rel=>exact ⟨1,zac,zo,fun i h1 h2=>zo,HC.drewN _⟩
       case measure=>simp [intOf];omega
      ·obtain ⟨q,hq⟩:∃ q,i=q+1:=⟨i - 1,zo⟩
       subst hq;have c1:=(k5 (q+1) Cm).1;have c2:=(k5 q zo).1;have j0:(0:Int)<(q:Int)+1:=zo
       have j1:(q:Int)+1<(nk:Int):=zo;have j2:(0:Int)<=(q:Int):=zo;have j3:(q:Int)<(nk:Int):=zo
       have e2:IntKind.i64.wrap ((q:Int)+1 - 1)=(q:Int):=by
        rw [show (q:Int)+1 - 1=(q:Int) by omega];exact yv _ zo
       clear k5;by_cases BY:keys q<keys (q+1)
       ·have hd:decide (keys (q+1)<=keys q)=false:=by simp;omega
        have UD:=zh BY;clear BY;go_wp2_with fail
        go_quiet (fail)
        go_wp2_with fail
        go_roundw
        case rel =>
         refine ⟨q+2,zac,zo,fun j h1 h2=>?_,HC.drewN _⟩;by_cases e:j=q+1
         ·subst e;exact UD.o
         ·exact HA j h1 zo
        case measure=>simp [intOf];omega
       ·have hd:decide (keys (q+1)<=keys q)=true:=by simp;omega
        have E:=zh (Yx (leaf:=false) (nk:=nk) (nv:=nv) (keys:=keys) (vals:=vals) (b:=false) ⟨fun h=>absurd (h.2.2.2 (q+1) zo Cm) BY,fun h=>by cases h⟩);clear BY;go_wp2_with fail
        go_quiet (fail)
        go_wp2_with fail;go_ret;exact ⟨by rw [E.o];rfl,HW.trans (HC.drewN _)⟩
    ·obtain rfl:i=nk:=zo
     have E:=zh (Yx (leaf:=false) (nk:=i) (nv:=nv) (keys:=keys) (vals:=vals) (b:=true) ⟨fun _=>rfl,fun _=>⟨RU.1,RU.2.1,RU.2.2,HA⟩⟩);clear hK;go_wp2_with fail;go_ret;exact ⟨by rw [E.o];rfl,HW.trans HC⟩
theorem sA {bb:Nat} (hn:n<=7) (hk:zT [g] w vk n keys) (hv:zT [g] w vv n vals) (EB:w.heap[bb]?=some (.cells #[zS g 123 123] 81 (0,0)))
  (hb:w.heap[g]?=some (.cells (Y7 123 (Ym n keys vals 0)) 5 (0,0))) (BU:bb≠g) :
  zC 78 #[.agg #[.bool leaf,vk,vv],.func (.func 133) #[] #[zP bb]] w fun e w' =>
   e = .returned (.tuple #[])/\w'.heap[g]?=some (.cells (Y7 123 (Ym n keys vals n)) 5 (0,0))/\zv [g] w w':=by
 obtain ⟨ak,ck,rfl⟩:=hk.len;obtain ⟨av,cv,rfl⟩:=hv.len;have hg:=zz hb;have hW:=(zv.refl [] w).alloc (.cells #[.bool leaf,.slice ak n ck,.slice av n cv] 42);have HX:=zh (xo w (.cells #[.bool leaf,.slice ak n ck,.slice av n cv] 42));have HK:=zh (hk.chg hW);have HV:=zh (hv.chg hW);have I0:=zh ((hW.block bb (zz EB) zaa).trans EB);have HB:=zh ((hW.block g hg zaa).trans hb);have HW:=zh hW;clear hk hv EB hb hW;go_enter Tryz.func78,Tryz.ntmps78;go_wp2_with fail;generalize w.alloc (.cells #[.bool leaf,.slice ak n ck,.slice av n cv] 42)=W at *
 go_loopw [8] (fun s wr=>∃ k:Nat,k<=n/\s = .int .i64 (k:Int)/\wr.heap[g]?=some (.cells (Y7 123 (Ym n keys vals k)) 5 (0,0))/\zv [g] W wr) (fun s _=>n - (intOf s).toNat)
 case atStart=>exact ⟨0,yg _,rfl,HB.o,zv.refl _ _⟩
 case round =>
  obtain ⟨k,hk,rfl,UW,GC⟩:=hrel;obtain ⟨wo,rfl⟩:=zE wr;have hX:=(GC.block w.heap.size (zz HX) zae).trans HX.o;have R8:=(GC.block bb (zz I0) zae).trans I0.o;have hK:=HK.chg GC;have hV:=HV.chg GC;have x1:=zM hX 1;have x2:=zM hX 2;have z0:=zM R8 0;simp only [tA1,tA3,tA2] at x1 x2 z0;have HXk:=zh hX;have RA:=zh R8;have MT:=zh UW;have LU:=zh GC;clear hX R8 UW GC;by_cases Co:k<n
  ·rcases hK with ⟨_,h0⟩ | ⟨kb,ko,kc,hke,k1,k2,k3,k4,k5⟩
   ·omega
   ·rcases hV with ⟨_,h0⟩ | ⟨vb,vo,vc,hve,v1,v2,v3,v4,v5⟩
    ·omega
    ·injection hke with Mp _ Mq
     injection hve with hve1 _ hve3;subst Mp Mq hve1 hve3;obtain ⟨kc1,kc2⟩:=k5 k Co;obtain ⟨vc1,Ns⟩:=v5 k Co;have c1:=mO z0 MT (1+16*k) zo zo kc1 kc2;rw [show ((1+16*k:Nat):Int)=1+16*(k:Int) by omega] at c1;have:(0:Int)<=(k:Int):=zo
     have:(k:Int)<(n:Int):=zo;have:kb≠g:=by simpa using k4
     have:vb≠g:=by simpa using v4
     have E:=zh (lc n keys vals k);unfold maxLen at k2 v2;clear k5 v5 kc1 kc2;go_wp2_with fail;refine c1.mono ?_;clear c1;rintro e w3 ⟨rfl,L4,El⟩;have z3:=(El.cell (p:=⟨bb,0,none⟩) (zz RA) zae).trans z0;have:=(El.cell (p:=⟨w.heap.size,2,none⟩) (zz HXk) zae).trans x2;have Nt:=(El.cell (p:=⟨vb,vo+k,none⟩) v3 zae).trans vc1;have c2:=mO z3 L4 (1+16*k+8) zo zo Nt Ns;rw [show ((1+16*k+8:Nat):Int)=1+16*(k:Int)+8 by omega,E.o] at c2;have Cj:=zh (LU.trans El);clear L4 El x1 x2 z0 vc1;go_wp2_with fail;refine c2.mono ?_;clear c2;rintro e w4 ⟨rfl,G2,Ds⟩;have HB4:=zh G2;have C6:=zh (Cj.trans Ds);clear G2 Ds;go_wp2_with fail
     go_roundw
     case rel=>exact ⟨k+1,zo,zac,HB4.o,C6⟩
     case measure=>simp [intOf];omega
  ·obtain rfl:k=n:=zo
   go_wp2_with fail
   go_end0
   exact ⟨rfl,MT.o,(HW.mo).trans LU⟩
def XT (leaf:Bool):Nat:=if leaf then 1 else 2
def xg (leaf:Bool) (n:Nat) (keys vals:zF):Nat->Nat:=ZM (XT leaf) 123 (Ym n keys vals n)
theorem mQ (hk:zT A w vk nk keys) (hv:zT A w vv nv vals) (hb:zV leaf nk nv keys vals=false) :
  zC 81 #[.agg #[.bool leaf,vk,vv]] w fun e w'=>e = .returned (.tuple #[.slice none 0 0,.int .i64 30])/\zv [] w w':=by
 obtain ⟨ak,ck,rfl⟩:=hk.len;obtain ⟨av,cv,rfl⟩:=hv.len;have hW:=(zv.refl [] w).alloc (.cells #[.bool leaf,.slice ak nk ck,.slice av nv cv] 42);have cR:=be (leaf:=leaf) (hk.chg hW) (hv.chg hW);rw [hb] at cR;have HW:=zh hW;clear hk hv hb hW;go_enter Tryz.func81,Tryz.ntmps81;go_wp2_with fail;refine cR.mono ?_;clear cR;rintro e w1 ⟨rfl,Cz⟩;have Ce:=zh (HW.trans Cz);clear Cz;go_wp2_with fail
 go_ret2
 exact ⟨rfl,Ce⟩
theorem bf (hk:zT A w vk nk keys) (hv:zT A w vv nv vals) (hb:zV leaf nk nv keys vals=true) :
  zC 81 #[.agg #[.bool leaf,vk,vv]] w fun e w'=>∃ g,e = .returned (.tuple #[zS g 128 128,.int .i64 0])/\w.heap.size<=g/\w'.heap[g]?=some (.cells (Y7 128 (xg leaf nk keys vals)) 5 (0,0))/\zv [] w w':=by
 have Nl:nk<=7/\nv=nk:=by
  unfold zV at hb;simp only [Bool.and_eq_true,decide_eq_true_eq] at hb;exact ⟨hb.1,hb.2.1⟩
 obtain ⟨h7,rfl⟩:=Nl;obtain ⟨ak,ck,rfl⟩:=hk.len;obtain ⟨av,cv,rfl⟩:=hv.len;have EA:∀ w:World,(Instr.makeSlice 81 (.int .i64 123) (.int .i64 123)).run Tryz.prog w = .ok (zS w.heap.size 123 123) (w.alloc (.cells (zO 123 (.int .u8 0)) 5)):=xW (P:=Tryz.prog) 81 5 Tryz.underlying81 X7 rfl .i64 .i64 123 zo zo;have z0:(zO 123 (.int .u8 0))[0]?=some (.int .u8 0):=by simp [zO]
 have hW:=(zv.refl [] w).alloc (.cells #[.bool leaf,.slice ak nv ck,.slice av nv cv] 42);have HX:=zh (xo w (.cells #[.bool leaf,.slice ak nv ck,.slice av nv cv] 42));have hK:=hk.chg hW;have hV:=hv.chg hW;have cR:=be (leaf:=leaf) hK hV;rw [hb] at cR;have HK:=zh hK;have HV:=zh hV;have HW:=zh hW;clear hk hv hb hW hK hV;go_enter Tryz.func81,Tryz.ntmps81;go_wp2_with fail;refine cR.mono ?_;clear cR;rintro e w1 ⟨rfl,Cz⟩;have X1:=zh ((Cz.block w.heap.size (zz HX) zaa).trans HX);have K1:=zh (HK.chg Cz);have V1:=zh (HV.chg Cz);have C1:=zh (HW.trans Cz);have x0:=zM X1 0;have x1:=zM X1 1;have x2:=zM X1 2;have lx:=zz X1.o;simp only [tA1,tA3,tA2] at x0 x1 x2;have hu:IntKind.u8.wrap (nv:Int)=(nv:Int):=by simp [IntKind.wrap,IntKind.signed,IntKind.bits];omega
 clear Cz HX HK HV HW;go_wp2_with fail;have NF:zv [] w1 ((w1.alloc (.cells ((zO 123 (.int .u8 0)).setIfInBounds 0 (.int .u8 (nv:Int))) 5)).alloc (.cells #[zS w1.heap.size 123 123] 81)):=((zv.refl _ _).alloc _).alloc _
 have DW:Ym nv keys vals 0=fun j=>if j=0 then nv else 0:=by
  funext j
  unfold Ym;by_cases e:j=0
  ·rw [if_pos e,if_pos e]
  ·rw [if_neg e,if_neg e,if_neg zo]
 have hg:((w1.alloc (.cells ((zO 123 (.int .u8 0)).setIfInBounds 0 (.int .u8 (nv:Int))) 5)).alloc (.cells #[zS w1.heap.size 123 123] 81)).heap[w1.heap.size]?=some (.cells (Y7 123 (Ym nv keys vals 0)) 5 (0,0)):=by
  rw [kC,ZW,DW];have:=ae (n:=123) (f:=fun _=>0) (i:=0) (v:=nv) zo;rw [this]
 have EB:=cZ w1 (.cells ((zO 123 (.int .u8 0)).setIfInBounds 0 (.int .u8 (nv:Int))) 5) (.cells #[zS w1.heap.size 123 123] 81);have K2:=(K1.more (B:=[w1.heap.size]) zaa).chg NF;have V2:=(V1.more (B:=[w1.heap.size]) zaa).chg NF;have X2:=zh ((NF.block w.heap.size lx zaa).trans X1);have C2:=zh (C1.trans NF);have I0:=zh EB;have s1:=C1.size;refine (sA (leaf:=leaf) h7 K2 V2 EB hg zo).mono ?_;clear NF DW hg EB K2 V2 x0 x1 x2 EA z0;rintro e w3 ⟨rfl,L4,El⟩;have X3:=(El.block w.heap.size (zz X2) zae).trans X2.o;have BB3:=(El.block (w1.heap.size+1) (zz I0) zaa).trans I0.o;have x0:=zM X3 0;have y0:=zM BB3 0;simp only [tA1,tA3,tA2] at x0 y0;have HB3:=zh L4;have C3:=zh (C2.then El (by simp;exact s1))
 have Em:Yc w3 (some ⟨w1.heap.size,0,none⟩) 123 123 (Ym nv keys vals nv):=by
  refine ⟨xd _,by unfold maxLen;omega,(fun h=>by cases h),fun b hb _=>?_⟩;injection hb with hb;subst hb;refine ⟨w1.heap.size,0,rfl,?_⟩;have:=zB.of_block HB3 (fun i _=>Zy keys vals nv i zo) (off:=0) (n:=123) zo;simp only [yn] at this;exact this
 have HBy:=zh Em;have s3:=C3.size;clear L4 El X3 BB3 Em
 cases leaf with
 | true =>
  go_wp2_with fail;refine (af HBy zo 1 zo).mono ?_;rintro e w4 ⟨rfl,G2,Ds⟩;have HE:=zh (zA G2 (C3.trans Ds));clear G2 Ds;go_wp2_with fail
  go_ret2
  exact ⟨w3.heap.size,rfl,s3,HE.1,HE.2⟩
 | false =>
  go_wp2_with fail;refine (af HBy zo 2 zo).mono ?_;rintro e w4 ⟨rfl,G2,Ds⟩;have HE:=zh (zA G2 (C3.trans Ds));clear G2 Ds;go_wp2_with fail
  go_ret2
  exact ⟨w3.heap.size,rfl,s3,HE.1,HE.2⟩
def V7 (w:World) (e:Ending) (w':World):Prop:=e = .returned (.tuple #[.agg #[.bool false,.slice none 0 0,.slice none 0 0],.int .i64 30])/\zv [] w w'
theorem AX {o:Obj} (h:zv [] (w.alloc o) w1):w.heap.size<w1.heap.size/\w1.heap[w.heap.size]?=some o :=
 ⟨by have:=h.size;rw [zD] at this;omega,(h.bl zaa).trans (xo w o)⟩
theorem f9 (h:zv [] w w1) (a b c:Value):zv [] w (((w1.setCell ⟨w.heap.size,0,none⟩ a).setCell ⟨w.heap.size,1,none⟩ b).setCell ⟨w.heap.size,2,none⟩ c) :=
 ((h.setCell (.inr (xd _)) _).setCell (.inr (xd _)) _).setCell (.inr (xd _)) _
theorem vt {a:Option Addr} {cap:Nat} (hn:n≠128):zC 43 #[.slice a n cap] w (V7 w):=by
 have cO:=fun w:World=>ri (w:=w) (a:=a) (cap:=cap) hn;clear hn;go_enter Tryz.func43,Tryz.ntmps43;go_wp2_with fail;refine zm (cO _) ?_;clear cO;go_wp2_with fail;exact bodyPost_ret (v := .tuple #[.agg #[.bool false,.slice none 0 0,.slice none 0 0],.int .i64 30]) (by simp [results,Tryz.results43,go_sem]) rfl ⟨rfl,((zv.refl _ _).alloc _).alloc _⟩
section
variable {w:World} {b off cap:Nat} {f:Nat->Nat} (h:zB w b off 128 f) (hcap:128<=cap) (hN:cap<=9223372036854775807)
include h hcap hN
theorem vu (hp:¬ qF f):zC 43 #[.slice (some ⟨b,off,none⟩) 128 cap] w (V7 w):=by
 have hW:=(zv.refl [] w).alloc (.cells #[.bool false,.slice none 0 0,.slice none 0 0] 42);have cO:=aD (h.chg hW) hcap hN hp;have HW:=zh hW;clear h hp hW;go_enter Tryz.func43,Tryz.ntmps43;go_wp2_with fail;refine cO.mono ?_;clear cO;rintro e w1 ⟨rfl,Cz⟩;obtain ⟨l1,hX⟩:=AX Cz;have Ce:=zh (HW.trans Cz);have x0:=zM hX 0;have x1:=zM hX 1;have x2:=zM hX 2;have:=xB hX 0;have:=xB hX 1;have:=xB hX 2;simp only [tA1,tA3,tA2] at x0 x1 x2;clear hX Cz;go_wp2_with fail;exact bodyPost_ret (v := .tuple #[.agg #[.bool false,.slice none 0 0,.slice none 0 0],.int .i64 30]) zas rfl ⟨rfl,(f9 Ce _ _ _).alloc _⟩
theorem sB (hp:qF f) (hk:f 0≠1/\f 0≠2):zC 43 #[.slice (some ⟨b,off,none⟩) 128 cap] w (V7 w):=by
 have hW:=(zv.refl [] w).alloc (.cells #[.bool false,.slice none 0 0,.slice none 0 0] 42);have cO:=YM (h.chg hW) hcap hN hp;have:((f 0:Int) != 1)=true:=by simp;omega
 have:((f 0:Int) != 2)=true:=by simp;omega
 have HW:=zh hW;clear h hp hW hk;go_enter Tryz.func43,Tryz.ntmps43;go_wp2_with fail;refine cO.mono ?_;clear cO;rintro e w1 ⟨g,c,rfl,r1,r2,r3,r4,r5,Cz⟩;obtain ⟨l1,hX⟩:=AX Cz;have Ce:=zh (HW.trans Cz);have x0:=zM hX 0;have x1:=zM hX 1;have x2:=zM hX 2;have:=xB hX 0;have:=xB hX 1;have:=xB hX 2;simp only [tA1,tA3,tA2] at x0 x1 x2;clear hX Cz r5;go_wp2_with fail;exact bodyPost_ret (v := .tuple #[.agg #[.bool false,.slice none 0 0,.slice none 0 0],.int .i64 30]) zas rfl ⟨rfl,(f9 Ce _ _ _).alloc _⟩
theorem sC (hp:qF f) (hk:f 0=1∨f 0=2) (hm:7<f 1):zC 43 #[.slice (some ⟨b,off,none⟩) 128 cap] w (V7 w):=by
 have hW:=(zv.refl [] w).alloc (.cells #[.bool false,.slice none 0 0,.slice none 0 0] 42);have cO:=YM (h.chg hW) hcap hN hp;have HW:=zh hW;have:(7:Int)<(f 1:Int):=zo
 clear h hp hW hm;rcases hk with hk | hk
 case' inl=>have k1:((f 0:Int) != 1)=false:=by simp;omega
 case' inr =>
  have k1:((f 0:Int) != 1)=true:=by simp;omega
  have:((f 0:Int) != 2)=false:=by simp;omega
 all_goals
  clear hk;go_enter Tryz.func43,Tryz.ntmps43;go_wp2_with fail;refine cO.mono ?_;clear cO;rintro e w1 ⟨g,c,rfl,r1,r2,r3,r4,r5,Cz⟩;obtain ⟨l1,hX⟩:=AX Cz;have Ce:=zh (HW.trans Cz);have x0:=zM hX 0;have x1:=zM hX 1;have x2:=zM hX 2;have:=xB hX 0;have:=xB hX 1;have:=xB hX 2;have z0:=(r5 0 zo).1;simp only [tA1,tA3,tA2,Nat.add_zero] at x0 x1 x2 z0;clear hX Cz r5;go_wp2_with fail;exact bodyPost_ret (v := .tuple #[.agg #[.bool false,.slice none 0 0,.slice none 0 0],.int .i64 30]) zas rfl ⟨rfl,(f9 Ce _ _ _).alloc _⟩
end
end Go.Proofs.YtegpiomkmfhadaaGreat
