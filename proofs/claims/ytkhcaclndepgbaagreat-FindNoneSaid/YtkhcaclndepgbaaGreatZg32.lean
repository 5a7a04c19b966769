/- Package node: Right, At; slices.BinarySearch of numbers. -/
import Derived.Test.YtkhcaclndepgbaaGreatZg31
import Derived.BigQuiet
set_option linter.unusedVariables false
set_option linter.unusedSimpArgs false
set_option maxRecDepth 100000
set_option maxHeartbeats 20000000
namespace Go.Proofs.YtkhcaclndepgbaaGreat
open Go.RowKit
theorem Row64.numsIn {A:List Nat} {w:World} {g n:Nat} {f:Nat→Nat} (h:Row64 w g n f) (hn:n≤100000) (hA:g∉A) (hf:∀ i,i<n→f i<18446744073709551616):NumsIn A w (.slice (some ⟨g,0,none⟩) n n) n f :=
 .inr ⟨g,0,n,rfl,Nat.le_refl _,by unfold maxLen;omega,h.lt,hA,fun i hi=>⟨by rw [Nat.zero_add];exact h.cell hi,hf i hi⟩⟩
theorem bsrch64_at {A:List Nat} {w:World} {d:Nd} (hd:d.Ok) {a:Option Addr} {c:Nat} (h:NumsIn A w (.slice a d.n c) d.n d.k) (key:Nat) (hk:key<18446744073709551616) :
  Calls Tryz.prog 155 #[.slice a d.n c,.int .u64 (key:Int)] w fun e w'=>e = .returned (.tuple #[.int .i64 (d.pos key:Int),.bool (d.is key)])∧w=w':=by
 have n7:=hd.n
 obtain ⟨n,hn⟩:∃ n,n=d.n:=⟨_,rfl⟩
 rw [← hn] at h n7 ⊢
 have hcap:n≤c∧c≤9223372036854775807:=by
  obtain ⟨a',c',e,h1,h2⟩:=h.cap
  injection e with e1 e2 e3
  subst e3
  exact ⟨h1,h2⟩
 have hc:∀ i,i<n→∃ g o,a=some ⟨g,o,none⟩∧w.cell? ⟨g,o+i,none⟩=some (.int .u64 (d.k i:Int)):=fun i hi=>by
  obtain ⟨g,o,e,_,_,hN⟩:=h.get hi
  exact ⟨g,o,e,(hN i hi).1⟩
 have hp:∀ i,i<n→(i<d.pos key↔d.k i<key):=fun i hi=>hd.pos_iff (by omega)
 have hple:d.pos key≤n:=by rw [hn];exact d.pos_le key
 have his:d.is key=true↔d.pos key<n∧d.k (d.pos key)=key:=by rw [hn];exact hd.is_iff
 obtain ⟨p0,hp0⟩:∃ p0,p0=d.pos key:=⟨_,rfl⟩
 obtain ⟨b0,hb0⟩:∃ b0,b0=d.is key:=⟨_,rfl⟩
 rw [← hp0] at hp hple his ⊢
 rw [← hb0] at his ⊢
 have HC:=Lib.hid hc
 have HP:=Lib.hid (And.intro hp (And.intro hple his))
 obtain ⟨hcap1,hcap2⟩:=hcap
 clear h hc hp hple his hp0 hb0 hn hd
 go_enter Tryz.func155,Tryz.ntmps155
 go_wp2_with fail
 go_loopw [7,8] (fun i j wr=>∃ p q:Nat,i = .int .i64 (p:Int)∧j = .int .i64 (q:Int)∧p≤p0∧p0≤q∧q≤n∧w=wr) (fun i j _=>(intOf j).toNat - (intOf i).toNat)
 case atStart=>exact ⟨0,n,rfl,rfl,Nat.zero_le _,HP.out.2.1,Nat.le_refl _,rfl⟩
 case round =>
  obtain ⟨p,q,rfl,rfl,hlo,hhi,hq,rfl⟩:=hrel
  by_cases hlt:p<q
  ·obtain ⟨g,o,rfl,hcell⟩:=HC.out ((p+q) / 2) (by omega)
   have e1:IntKind.u64.wrap ((p:Int)+(q:Int))=((p+q:Nat):Int):=by rw [IntKind.wrap_u64];omega
   have e2:((p+q:Nat):Int) / 2=(((p+q) / 2:Nat):Int):=by omega
   have hm:=HP.out.1 ((p+q) / 2) (by omega)
   obtain ⟨m,hm'⟩:∃ m,m=(p+q) / 2:=⟨_,rfl⟩
   rw [← hm'] at hcell hm
   have e3:(p+q) / 2=m:=hm'.symm
   obtain ⟨y,hy⟩:∃ y,y=d.k m:=⟨_,rfl⟩
   rw [← hy] at hcell hm
   have HM:=Lib.hid hm
   have hmn:m<n:=by omega
   have hmq:p≤m∧m<q:=by omega
   clear hy hm
   rw [e3] at e2
   clear hm'
   have cl:=less64_at (y:Int) (key:Int) w
   by_cases hlt2:y<key
   ·rw [decide_eq_true (by omega)] at cl
    go_wp2_with fail
    refine (cl).mono ?_
    rintro e w' ⟨rfl,rfl⟩
    go_wp2_with fail
    go_roundw
    case rel=>exact ⟨m+1,q,by go_num,rfl,by have:=HM.out.2 hlt2;omega,hhi,hq,trivial⟩
    case measure=>simp [intOf];omega
   ·rw [decide_eq_false (by omega)] at cl
    go_wp2_with fail
    refine (cl).mono ?_
    rintro e w' ⟨rfl,rfl⟩
    go_wp2_with fail
    go_roundw
    case rel=>exact ⟨p,m,rfl,by go_num,hlo,by rcases Nat.lt_or_ge m p0 with q | q;exact absurd (HM.out.1 q) hlt2;exact q,by omega,trivial⟩
    case measure=>simp [intOf];omega
  ·obtain rfl:p=q:=by omega
   obtain rfl:p=p0:=by omega
   by_cases hpl:p<n
   ·obtain ⟨g,o,rfl,hcell⟩:=HC.out p hpl
    have his:=HP.out.2.2
    obtain ⟨y,hy⟩:∃ y,y=d.k p:=⟨_,rfl⟩
    rw [← hy] at hcell his
    have HY:=Lib.hid his
    clear hy his
    have cn:Calls Tryz.prog 189 #[.int .u64 (y:Int)] w fun e w'=>e = .returned (.bool false)∧w=w':=by
     go_enter Tryz.func189,Tryz.ntmps189
     go_wp2_with fail
     go_ret
     simp
    by_cases hxy:y=key
    ·subst hxy
     have hb:b0=true:=HY.out.2 ⟨hpl,rfl⟩
     subst hb
     go_wp2_with fail
     go_ret2
     exact ⟨rfl,rfl⟩
    ·have hx':¬ (y:Int)=(key:Int):=by omega
     have hb:b0=false:=by
      cases hb:b0 with
      | false=>rfl
      | true=>exact absurd (HY.out.1 hb).2 hxy
     subst hb
     go_wp2_with (go_at_call 189;refine cn.mono ?_;rintro e w' ⟨rfl,rfl⟩)
     go_ret2
     exact ⟨by simp [hx'],rfl⟩
   ·obtain rfl:p=n:=by omega
    have hb:b0=false:=by
     cases hb:b0 with
     | false=>rfl
     | true=>exact absurd (HP.out.2.2.1 hb).1 (by omega)
    subst hb
    go_wp2_with fail
    go_ret2
    exact ⟨rfl,rfl⟩
def rightN (leaf:Bool) (nk nv:Nat) (keys:Nat→Nat):Bool:=decide (nk=nv)&&(decide (nk≤7)&&((leaf||decide (nk≠0))&&ascB keys nk))
theorem ndRight_at {A:List Nat} {w:World} {leaf:Bool} {vk vv:Value} {nk nv:Nat} {keys vals:Nat→Nat} (hk:NumsIn A w vk nk keys) (hv:NumsIn A w vv nv vals) :
  Calls Tryz.prog 115 #[.agg #[.bool leaf,vk,vv]] w fun e w'=>e = .returned (.bool (rightN leaf nk nv keys))∧Chg [] w w':=by
 have hk':=hk
 obtain ⟨a,c,rfl,ck1,ck2⟩:=hk.cap
 obtain ⟨a2,c2,rfl,cv1,cv2⟩:=hv.cap
 have hW:=(Chg.refl [] w).alloc (.cells #[.bool leaf,.slice a nk c,.slice a2 nv c2] 107)
 have hX:=znb w (.cells #[.bool leaf,.slice a nk c,.slice a2 nv c2] 107)
 have hc:∀ i,i<nk→∃ g o,a=some ⟨g,o,none⟩∧(w.alloc (.cells #[.bool leaf,.slice a nk c,.slice a2 nv c2] 107)).cell? ⟨g,o+i,none⟩=some (.int .u64 (keys i:Int)):=fun i hi=>by
  obtain ⟨g,o,e,_,_,hN⟩:=(hk'.chg hW (by simp)).get hi
  exact ⟨g,o,e,(hN i hi).1⟩
 have HC:=Lib.hid hc
 have HW:=Lib.hid hW
 obtain ⟨r,hr⟩:∃ r,r=rightN leaf nk nv keys:=⟨_,rfl⟩
 have HR:=Lib.hid hr
 rw [← hr]
 unfold rightN at HR
 clear hk hv hk' hc hr hW
 have hs:w.heap.size<(w.alloc (.cells #[.bool leaf,.slice a nk c,.slice a2 nv c2] 107)).heap.size:=by simp
 go_enter Tryz.func115,Tryz.ntmps115
 go_upto_region 1 with fail
 have x0:=zcb hX 0
 have x1:=zcb hX 1
 have x2:=zcb hX 2
 simp only [List.getElem?_toArray,List.getElem?_cons_zero,List.getElem?_cons_succ] at x0 x1 x2
 generalize w.alloc (.cells #[.bool leaf,.slice a nk c,.slice a2 nv c2] 107)=W at *
 by_cases e1:nk=nv
 case neg =>
  have i1:¬ (nk:Int)=(nv:Int):=by omega
  go_wp2_with fail
  go_ret
  refine ⟨by rw [HR.out,decide_eq_false e1];rfl,HW.out⟩
 subst e1
 by_cases e2:nk≤7
 case neg =>
  have i1:(7:Int)<(nk:Int):=by omega
  go_wp2_with fail
  go_ret
  refine ⟨by rw [HR.out,decide_eq_false e2];simp,HW.out⟩
 have i2:¬ (7:Int)<(nk:Int):=by omega
 by_cases e3:leaf=false∧nk=0
 ·obtain ⟨rfl,rfl⟩:=e3
  go_wp2_with fail
  go_ret
  exact ⟨by rw [HR.out];simp,HW.out⟩
 have hcut:leaf=true∨(leaf=false∧¬ (nk:Int)=0):=by
  cases leaf with
  | true=>exact .inl rfl
  | false=>exact .inr ⟨rfl,fun e=>e3 ⟨rfl,by omega⟩⟩
 have er:r=ascB keys nk:=by
  rw [HR.out,decide_eq_true rfl,decide_eq_true e2]
  cases leaf with
  | true=>simp
  | false =>
   have h0:nk≠0:=fun e=>e3 ⟨rfl,e⟩
   simp [h0]
 have HER:=Lib.hid er
 clear HR e3 er
 rcases hcut with rfl | ⟨rfl,i3⟩
 all_goals
  go_wp2_with fail
  go_loopw [31] (fun s wr=>∃ i:Nat,s = .int .i64 (i:Int)∧i≤nk∧ascTo keys i∧Chg [] W wr) (fun s _=>nk - (intOf s).toNat)
  case atStart=>exact ⟨0,rfl,Nat.zero_le _,fun i h1 h2=>by omega,Chg.refl _ _⟩
  case round =>
   obtain ⟨i,rfl,hi,hA,hC⟩:=hrel
   have y1:=(hC.cell (p:=⟨w.heap.size,1,none⟩) hs (by simp)).trans x1
   have HA:=Lib.hid hA
   have HCW:=Lib.hid hC
   by_cases hin:i<nk
   ·obtain ⟨kb,ko,rfl,hcell⟩:=HC.out i hin
    have hcell:=(hC.cell (World.block_lt_of_cell? _ _ hcell) (by simp)).trans hcell
    clear hA hC
    by_cases h0:i=0
    ·subst h0
     have hd:decide ((0:Int)<((0:Nat):Int))=false:=rfl
     go_wp2_with fail
     go_quiet (fail)
     go_wp2_with fail
     go_roundw
     case rel=>exact ⟨1,by go_num,by omega,fun i h1 h2=>by omega,HCW.out.drewN _⟩
     case measure=>simp [intOf];omega
    ·obtain ⟨q,hq⟩:∃ q,i=q+1:=⟨i - 1,by omega⟩
     subst hq
     obtain ⟨kb',ko',e',hcell2⟩:=HC.out q (by omega)
     injection e' with e'
     injection e' with e1 e2
     subst e1 e2
     have hcell2:=(HCW.out.cell (World.block_lt_of_cell? _ _ hcell2) (by simp)).trans hcell2
     have j0:(0:Int)<(q:Int)+1:=by omega
     have j1:(q:Int)+1<(nk:Int):=by omega
     have j2:(0:Int)≤(q:Int):=by omega
     have j3:(q:Int)<(nk:Int):=by omega
     have e2:IntKind.i64.wrap ((q:Int)+1 - 1)=(q:Int):=by
      rw [show (q:Int)+1 - 1=(q:Int) by omega]
      exact IntWalk.i64_in _ (by omega)
     by_cases hlt:keys q<keys (q+1)
     ·have hd:decide (keys (q+1)≤keys q)=false:=by simp;omega
      have Hlt:=Lib.hid hlt
      clear hlt
      go_wp2_with fail
      go_quiet (fail)
      go_wp2_with fail
      go_roundw
      case rel =>
       refine ⟨q+2,by go_num,by omega,fun j h1 h2=>?_,HCW.out.drewN _⟩
       by_cases e:j=q+1
       ·subst e;exact Hlt.out
       ·exact HA.out j h1 (by omega)
      case measure=>simp [intOf];omega
     ·have hd:decide (keys (q+1)≤keys q)=true:=by simp;omega
      have hrf:r=false:=by
       rw [HER.out]
       cases hb:ascB keys nk with
       | false=>rfl
       | true=>exact absurd ((ascB_iff _ _).1 hb (q+1) (by omega) hin) hlt
      have HRF:=Lib.hid hrf
      clear hlt hrf
      go_wp2_with fail
      go_quiet (fail)
      go_wp2_with fail
      go_ret
      exact ⟨by rw [HRF.out];rfl,HW.out.trans (HCW.out.drewN _)⟩
   ·obtain rfl:i=nk:=by omega
    have hrt:r=true:=by rw [HER.out];exact (ascB_iff _ _).2 HA.out
    have HRF:=Lib.hid hrt
    clear hA hC hrt
    go_wp2_with fail
    go_ret
    exact ⟨by rw [HRF.out];rfl,HW.out.trans HCW.out⟩
theorem Nd.Ok.rightN {d:Nd} (h:d.Ok):rightN d.leaf d.n d.n d.k=true:=by
 unfold Proofs.YtkhcaclndepgbaaGreat.rightN
 rw [decide_eq_true rfl,decide_eq_true h.n,(ascB_iff _ _).2 h.asc]
 cases hl:d.leaf with
 | true=>rfl
 | false =>
  have:=(kidsB_iff _ _).1 (h.kids hl)
  have h0:d.n≠0:=by omega
  simp [h0]
theorem ndAt_at {A:List Nat} {w:World} {d:Nd} (hd:d.Ok) {a a2:Option Addr} {c c2:Nat} (hk:NumsIn A w (.slice a d.n c) d.n d.k) (hv:NumsIn A w (.slice a2 d.n c2) d.n d.v) (key:Nat) (hkey:key<18446744073709551616) :
  Calls Tryz.prog 112 #[.agg #[.bool d.leaf,.slice a d.n c,.slice a2 d.n c2],.int .u64 (key:Int)] w fun e w'=>e = .returned (.tuple #[.int .i64 (d.at_ key:Int),.bool (d.is key),.int .i64 0])∧Chg [] w w':=by
 have hW:=(Chg.refl [] w).alloc (.cells #[.bool d.leaf,.slice a d.n c,.slice a2 d.n c2] 107)
 have hX:=znb w (.cells #[.bool d.leaf,.slice a d.n c,.slice a2 d.n c2] 107)
 have cr:=ndRight_at (hk.chg hW (by simp)) (hv.chg hW (by simp)) (leaf:=d.leaf)
 rw [hd.rightN] at cr
 have HK:=Lib.hid (And.intro (hk.chg hW (by simp)) hW)
 have CR:=Lib.hid cr
 have hs:w.heap.size<(w.alloc (.cells #[.bool d.leaf,.slice a d.n c,.slice a2 d.n c2] 107)).heap.size:=by simp
 have hp:=d.pos_le key
 have n7:=hd.n
 have cbs:∀ w1,Chg [] (w.alloc (.cells #[.bool d.leaf,.slice a d.n c,.slice a2 d.n c2] 107)) w1→Calls Tryz.prog 155 #[.slice a d.n c,.int .u64 (key:Int)] w1 fun e w'=>e = .returned (.tuple #[.int .i64 (d.pos key:Int),.bool (d.is key)])∧w1=w':=fun w1 hc=>bsrch64_at hd (HK.out.1.chg hc (by simp)) key hkey
 obtain ⟨r,hr⟩:∃ r,r=d.at_ key:=⟨_,rfl⟩
 rw [← hr]
 unfold Nd.at_ at hr
 obtain ⟨p,hpe⟩:∃ p,p=d.pos key:=⟨_,rfl⟩
 obtain ⟨b,hbe⟩:∃ b,b=d.is key:=⟨_,rfl⟩
 obtain ⟨lf,hlf⟩:∃ l,l=d.leaf:=⟨_,rfl⟩
 rw [← hpe] at hr cbs hp
 rw [← hbe] at hr cbs ⊢
 rw [← hlf] at hr cbs CR HK hX hs ⊢
 have HR:=Lib.hid hr
 have CBS:=Lib.hid cbs
 clear cr hk hv hW hr hpe hbe hlf cbs
 go_enter Tryz.func112,Tryz.ntmps112
 go_upto_region 1 with fail
 have x0:=zcb hX 0
 have x1:=zcb hX 1
 have x2:=zcb hX 2
 simp only [List.getElem?_toArray,List.getElem?_cons_zero,List.getElem?_cons_succ] at x0 x1 x2
 generalize w.alloc (.cells #[.bool lf,.slice a d.n c,.slice a2 d.n c2] 107)=W at *
 clear hX
 go_wp2_with fail
 refine CR.out.mono ?_
 clear CR
 rintro e w1 ⟨rfl,hc1⟩
 have y0:=(hc1.cell (p:=⟨w.heap.size,0,none⟩) hs (by simp)).trans x0
 have y1:=(hc1.cell (p:=⟨w.heap.size,1,none⟩) hs (by simp)).trans x1
 have cb:=CBS.out w1 hc1
 have HC:=Lib.hid (HK.out.2.trans hc1)
 clear x0 x1 x2 hc1
 go_wp2_with fail
 refine (cb).mono ?_
 rintro e w' ⟨rfl,rfl⟩
 clear cb
 by_cases hh:lf=false∧b=false∧0<p
 ·have e:=HR.out
  rw [if_pos hh] at e
  obtain ⟨rfl,rfl,hp0⟩:=hh
  obtain ⟨q,rfl⟩:∃ q,p=q+1:=⟨p - 1,by omega⟩
  obtain rfl:r=q:=by omega
  have i1:(0:Int)<(r:Int)+1:=by omega
  have e2:IntKind.i64.wrap ((r:Int)+1 - 1)=(r:Int):=by
   rw [show (r:Int)+1 - 1=(r:Int) by omega]
   exact IntWalk.i64_in _ (by omega)
  clear e
  go_wp2_with fail
  go_ret3
  exact ⟨rfl,HC.out⟩
 ·have e:=HR.out
  rw [if_neg hh] at e
  subst e
  clear HR
  cases lf with
  | true =>
   go_wp2_with fail
   go_ret3
   exact ⟨rfl,HC.out⟩
  | false =>
   cases b with
   | true =>
    go_wp2_with fail
    go_ret3
    exact ⟨rfl,HC.out⟩
   | false =>
    have hp0:r=0:=by
     by_cases e:0<r
     ·exact absurd ⟨rfl,rfl,e⟩ hh
     ·omega
    subst hp0
    go_wp2_with fail
    go_ret3
    exact ⟨rfl,HC.out⟩
end Go.Proofs.YtkhcaclndepgbaaGreat
