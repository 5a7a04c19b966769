/- catchmentlaw14.OwnPuts: the walk. · The statement 'OwnPuts': the Go function returns true at every input, and leaves what came in as it was. No condition. -/
import Derived.Test.YtkhcaclndepgbaaGreatZm41
import Derived.Test.YtkhcaclndepgbaaGreatZm42
import Derived.Test.YtkhcaclndepgbaaGreatZm44
import Derived.Test.YtkhcaclndepgbaaGreatRows
import Derived.WalkKit
import Derived.ProofKit
import Derived.OpenShut
import Derived.ShutString
import Derived.ChangeOld
import Derived.Below
set_option linter.unusedVariables false
set_option linter.unusedSimpArgs false
set_option maxRecDepth 100000
set_option maxHeartbeats 20000000
namespace Go.Proofs.YtkhcaclndepgbaaGreat
open Go.RowKit
theorem NumsIn.cong {A:List Nat} {w:World} {v:Value} {n:Nat} {f g:Nat→Nat} (h:NumsIn A w v n f) (e:∀ i,i<n→g i=f i):NumsIn A w v n g:=by
 rcases h with h | ⟨b,off,cap,h1,h2,h3,h4,h5,h6⟩
 ·exact .inl h
 ·exact .inr ⟨b,off,cap,h1,h2,h3,h4,h5,fun i hi=>by rw [e i hi];exact h6 i hi⟩
theorem NumsIn.lt {A:List Nat} {w:World} {a:Option Addr} {n c:Nat} {f:Nat→Nat} (h:NumsIn A w (.slice a n c) n f):∀ i,i<n→f i<18446744073709551616:=fun i hi=>by
 obtain ⟨_,_,_,_,_,q⟩:=h.get hi
 exact (q i hi).2
theorem Grew.good {w w':World} {N m:Nat} {M:Bm} {x:Nat} {B:Bs} {vi:Value} {items:List (Nat × Nat)} (G:Grew w N m M x B vi items w'):Good N 1 B:=by
 by_cases h:x=0
 ·exact (G.nil h).2.good
 ·obtain ⟨ht,r⟩:=G.rts h
  exact r.gr.good
theorem node_over {N G:Nat} {B:Bs} (g:Good N G B) {x:Nat} (h2:2≤x) (hN:x<N) (f:Nat→Nat):(B.over x f).nodeI (x:Int)=decN f:=by
 unfold Bs.nodeI
 rw [if_pos (inI_iff.2 ⟨by omega,by show (x:Int)<(B.T.n:Int);rw [g.n];omega⟩),Int.toNat_natCast]
 congr 1
 unfold Bs.read Bs.over
 simp
theorem put_own {N G:Nat} {B:Bs} (g:Good N G B) (hr:0<B.room) {f:Nat→Nat} (hf:∀ i,i<128→f i≤255) {d:Nd} (hd:(B.put f).nodeI (B.at_:Int)=some d):(B.put f).isI (B.at_:Int)=true:=by
 obtain ⟨g2,l0,h2,hN,hlv,-,-,hrm,hk⟩:=g.put_ hr hf
 have hn:getV (B.put f).T (B.at_:Int)=1:=by
  unfold Proofs.YtkhcaclndepgbaaGreat.getV
  rw [(hasB_iff (B.put f).T (B.at_:Int)).2 (by rw [g2.n];omega),if_pos rfl,Int.toNat_natCast]
  show ((if B.at_=B.at_ then 1 else B.T.now B.at_:Nat):Int)=1
  rw [if_pos rfl];rfl
 unfold Bs.isI
 rw [hn,hd]
 unfold Bs.freshB
 rw [decide_eq_true (show (0:Int)≤(B.at_:Int) by omega),decide_eq_true (show (B.at_:Int)<((B.put f).T.n:Int) by rw [g2.n];omega),Int.toNat_natCast]
 show ((true&&true&&(if B.at_=B.at_ then some f else B.fr B.at_).isSome)&&_&&_)=true
 rw [if_pos rfl];rfl
theorem ownPuts_walk (a:Option Addr) (n c:Nat) (l:List (Nat × Nat)) (vn:Value) (lf:Bool) (nk nv:Nat) (ks vs:Nat→Nat) (x0:Int) (w:World) (hl:Its8 [] w (.slice a n c) l) (hnd:IsNode w vn lf nk nv ks vs) (hx0:(Lit.int .i64 x0).wf=true) :
  Calls Tryz.prog 13 #[.slice a n c,vn,.int .i64 x0] w fun e w'=>e = .returned (.bool true)∧Below w.heap.size w w':=by
 obtain ⟨a',c',e,hn,hc⟩:=hl.len
 injection e with e1 e2 e3
 subst e1;subst e2;subst e3
 obtain ⟨vk,vv,rfl,hk,hv⟩:=hnd
 obtain ⟨ka,kc,rfl⟩:=hk.len
 obtain ⟨va,vc,rfl⟩:=hv.len
 have k0:=znb w (.cells #[.bool lf,.slice ka nk kc,.slice va nv vc] 107)
 have c0:=(Chg.refl [] w).alloc (.cells #[.bool lf,.slice ka nk kc,.slice va nv vc] 107)
 have cg:=grew_at (N:=120) (m:=30) (by omega) (hl.chg c0 (by simp)) (by omega) (by rw [room_fmt (by omega)];decide) (k:=(min ((l.length:Nat):Int) 30).toNat) (by omega) (by omega)
 rw [show (((120:Nat)):Int)=120 from rfl] at cg
 have CG:=Lib.hid cg
 have HN:=Lib.hid (And.intro hk hv)
 clear cg hl hk hv
 go_enter Tryz.func13,Tryz.ntmps13
 go_upto_region 1 with (refine wpList_boxAgg rfl 107 (.tmp 1) rfl (cells:=#[.bool lf,.slice ka nk kc,.slice va nv vc]) rfl ?_)
 generalize w.alloc (.cells #[.bool lf,.slice ka nk kc,.slice va nv vc] 107)=W at k0 c0 CG ⊢
 obtain ⟨nb,hnb⟩:∃ nb,nb=w.heap.size:=⟨_,rfl⟩
 rw [← hnb] at k0 ⊢
 have H0:=Lib.hid (And.intro k0 (And.intro c0 hnb))
 clear k0 c0 hnb
 go_wp2_with fail
 refine CG.out.mono ?_
 clear CG
 rintro e w2 ⟨M,x,B,vi,items,rfl,G⟩
 obtain ⟨ia,ic,rfl,_,_⟩:=G.its.len
 have HML:=Lib.hid (fun q hq => .inr (Nat.le_trans H0.out.2.1.size (G.far q hq)):∀ q,q∈M.L→q∈([]:List Nat)∨w.heap.size≤q)
 have crm:=G.base.cRoom
 have hroom:=G.room
 rw [room_fmt (by omega),show (((120:Nat):Int) - 2 - 2*(needN 120:Int))=112 by decide] at hroom
 obtain ⟨rm,hrm⟩:∃ rm,rm=B.room:=⟨_,rfl⟩
 rw [← hrm] at crm hroom
 have H1:=Lib.hid (And.intro G (And.intro (H0.out.2.1.trans G.chg) hrm))
 have kb:=(G.chg.block nb (zhl H0.out.1) (by simp)).trans H0.out.1
 have KB:=Lib.hid kb
 have y0:=zcb kb 0
 have y1:=zcb kb 1
 have y2:=zcb kb 2
 simp only [List.getElem?_toArray,List.getElem?_cons_zero,List.getElem?_cons_succ] at y0 y1 y2
 have hxN:=G.lt
 clear G kb hrm
 go_wp2_with fail
 refine (crm).mono ?_
 rintro e w' ⟨rfl,rfl⟩
 cases hrt:rightB lf nk nv ks vs with
 | false =>
  have cp:=owPut_bad H1.out.1.base (HN.out.1.chg H1.out.2.1 (by simp)) (HN.out.2.chg H1.out.2.1 (by simp)) hrt
  have CP:=Lib.hid cp
  clear cp
  go_wp2_with fail
  refine CP.out.mono ?_
  clear CP
  rintro e w3 ⟨rfl,hc3⟩
  have crm:=(H1.out.1.base.chg hc3 (by simp)).cRoom
  rw [← H1.out.2.2] at crm
  have z0:(rm != rm)=false:=by simp
  have c3:=H1.out.2.1.trans hc3
  have cs:=owSet_bad (H1.out.1.base.chg hc3 (by simp)) (x:Int) (HN.out.1.chg c3 (by simp)) (HN.out.2.chg c3 (by simp)) hrt
  have HC3:=Lib.hid hc3.size
  have kb3:=(hc3.block nb (zhl KB.out) (by simp)).trans KB.out
  clear y0 y1 y2
  have y0:=zcb kb3 0
  have y1:=zcb kb3 1
  have y2:=zcb kb3 2
  simp only [List.getElem?_toArray,List.getElem?_cons_zero,List.getElem?_cons_succ] at y0 y1 y2
  have CS:=Lib.hid cs
  have H3:=Lib.hid c3
  clear cs hc3 c3 kb3
  go_wp2_with fail
  refine crm.mono ?_
  clear crm
  rintro e w' ⟨rfl,rfl⟩
  go_wp2_with fail
  refine CS.out.mono ?_
  clear CS
  rintro e w4 ⟨rfl,hc4⟩
  have H4:=Lib.hid (H3.out.trans hc4)
  clear hc4 y0 y1 y2
  go_wp2_with fail
  refine (awake14_at _).mono ?_
  rintro e wz ⟨rfl,hZ⟩
  have HZ:=Lib.hid (H4.out.trans hZ)
  clear hZ
  go_wp2_with fail
  go_ret
  exact ⟨rfl,HZ.out.below (by simp)⟩
 | true =>
  obtain ⟨n7,rfl⟩:=rightB_bd hrt
  have hg:=H1.out.1.good
  have hr0:0<B.room:=by rw [← H1.out.2.2];omega
  have hup:rm≤118:=by
   have:=hg.room
   have h5:=Int.natCast_nonneg B.T.waits
   have h6:=Int.natCast_nonneg (cnt 120 B.live)
   rw [← H1.out.2.2] at this
   omega
  have hpf:∀ i,i<128→pageF lf nv ks vs i≤255:=fun i _=>pageF_le lf (by omega) _ _ i
  obtain ⟨g2,-,h2,hN,-,-,-,hrm1,-⟩:=hg.put_ hr0 hpf
  obtain ⟨d,hd,f1,f2,f3,f4⟩:=decN_page hrt HN.out.1.lt HN.out.2.lt
  have hnode:=(node_put h2 (by rw [hg.n];exact hN) hrt).trans hd
  have hown:=put_own hg hr0 hpf hnode
  subst f1;subst f2
  have cp:=owPut_at H1.out.1.base (fun q hq=>by cases hq) hr0 (HN.out.1.chg H1.out.2.1 (by simp)) (HN.out.2.chg H1.out.2.1 (by simp)) hrt
  obtain ⟨at_,hat⟩:∃ z,z=B.at_:=⟨_,rfl⟩
  obtain ⟨B1,hB1⟩:∃ z,z=B.put (pageF d.leaf d.n ks vs):=⟨_,rfl⟩
  rw [← hat,← hB1] at cp
  rw [← hat] at h2 hN
  rw [← hB1] at g2 hrm1
  rw [← hat,← hB1] at hnode hown
  have HP:=Lib.hid (And.intro g2 (And.intro hrm1 (And.intro hd (And.intro f3 (And.intro f4 (And.intro hnode hown))))))
  have CP:=Lib.hid cp
  clear cp hg hr0 hpf g2 hrm1 hd f3 f4 hnode hown hat hB1
  go_wp2_with fail
  refine CP.out.mono ?_
  clear CP
  rintro e w3 ⟨rfl,hb3,hc3⟩
  have cn:=Lib.hid (hb3.cNode (at_:Int))
  have H3:=Lib.hid (And.intro hb3 (H1.out.2.1.then hc3 HML.out))
  have HC3:=Lib.hid hc3.size
  have kb3:=(hc3.block nb (zhl KB.out) (fun hm=>by have h1:=H1.out.1.far nb hm;have h2:=zhl H0.out.1;omega)).trans KB.out
  have KB3:=Lib.hid kb3
  clear hb3 hc3 y0 y1 y2
  go_wp2_with fail
  refine cn.out.mono ?_
  clear cn
  rintro e w4 (⟨d',kb,vb,hd',rfl,q1,q2,q3,r1,r2,hc4⟩ | ⟨hd',rfl,hc4⟩)
  case inr=>exact absurd (HP.out.2.2.2.2.2.1.symm.trans hd') (by simp)
  obtain rfl:d'=d:=Option.some.inj (hd'.symm.trans HP.out.2.2.2.2.2.1)
  have k5:=znb w4 (.cells #[.bool d'.leaf,.slice (some ⟨kb,0,none⟩) d'.n d'.n,.slice (some ⟨vb,0,none⟩) d'.n d'.n] 107)
  have c5:=(Chg.refl [] w4).alloc (.cells #[.bool d'.leaf,.slice (some ⟨kb,0,none⟩) d'.n d'.n,.slice (some ⟨vb,0,none⟩) d'.n d'.n] 107)
  have hmk:=(r1.numsIn (A:=[]) (by omega) (by simp) (fun i hi=>by rw [HP.out.2.2.2.1 i hi];exact HN.out.1.lt i hi)).cong (g:=ks) (fun i hi=>(HP.out.2.2.2.1 i hi).symm)
  have hmv:=(r2.numsIn (A:=[]) (by omega) (by simp) (fun i hi=>by rw [HP.out.2.2.2.2.1 i hi];exact HN.out.2.lt i hi)).cong (g:=vs) (fun i hi=>(HP.out.2.2.2.2.1 i hi).symm)
  go_upto_region 11 with fail
  generalize w4.alloc (.cells #[.bool d'.leaf,.slice (some ⟨kb,0,none⟩) d'.n d'.n,.slice (some ⟨vb,0,none⟩) d'.n d'.n] 107)=W4 at k5 c5 ⊢
  obtain ⟨mb,hmb⟩:∃ mb,mb=w4.heap.size:=⟨_,rfl⟩
  rw [← hmb] at k5 ⊢
  have c4:=hc4.trans c5
  have kb4:=(c4.block nb (zhl kb3) (by simp)).trans kb3
  have hcN:Chg [] w W4:=H3.out.2.trans c4
  have csm:=same14_at (lf:=d'.leaf) (hmk.chg c5 (by simp)) (hmv.chg c5 (by simp)) (HN.out.1.chg hcN (by simp)) (HN.out.2.chg hcN (by simp)) (by omega)
  have CSM:=Lib.hid csm
  have H4:=Lib.hid (And.intro k5 (And.intro kb4 (And.intro hcN (And.intro (hmk.chg c5 (by simp)) (And.intro (hmv.chg c5 (by simp)) (H3.out.1.chg c4 (by simp)))))))
  have HD:=Lib.hid hd'
  have HMW:=Lib.hid (show W.heap.size≤mb by rw [hmb];have h1:=H1.out.1.chg.size;have h2:=H3.out.1;have h3:=hc4.size;have h4:=HC3.out;omega)
  have HMB:Hid (mb∉M.L):=Lib.hid (fun hm=>by have h1:=H3.out.1.ltL hm;have h2:=hc4.size;omega)
  have m0:=zcb k5 0
  have m1:=zcb k5 1
  have m2:=zcb k5 2
  simp only [List.getElem?_toArray,List.getElem?_cons_zero,List.getElem?_cons_succ] at m0 m1 m2
  have y0:=zcb kb4 0
  have y1:=zcb kb4 1
  have y2:=zcb kb4 2
  simp only [List.getElem?_toArray,List.getElem?_cons_zero,List.getElem?_cons_succ] at y0 y1 y2
  clear hmk hmv c5 k5 c4 kb4 hcN csm hmb hd' r1 r2 q1 q2 q3 hc4 kb3
  go_wp2_with fail
  refine CSM.out.mono ?_
  clear CSM
  rintro e w5 ⟨rfl,hc5⟩
  have hb5:=H4.out.2.2.2.2.2.chg hc5 (by simp)
  have ci:=owIs_at hb5 (at_:Int) (WalkArith.wf_i64 (by omega))
  rw [HP.out.2.2.2.2.2.2] at ci
  have CI:=Lib.hid ci
  have H5:=Lib.hid (And.intro hb5 hc5)
  clear hb5 hc5 ci m0 m1 m2 y0 y1 y2
  go_wp2_with fail
  refine CI.out.mono ?_
  clear CI
  rintro e w6 ⟨rfl,hc6⟩
  have hb6:=H5.out.1.chg hc6 (by simp)
  have cr6:=hb6.cRoom
  rw [HP.out.2.1,← H1.out.2.2] at cr6
  have e9:IntKind.i64.wrap (rm - 1)=rm - 1:=IntWalk.i64_in _ (by omega)
  have z9:(rm - 1 != rm - 1)=false:=by simp
  have ci:=owIs_at hb6 x0 hx0
  have CI:=Lib.hid ci
  have H6:=Lib.hid (And.intro hb6 (H5.out.2.trans hc6))
  clear hb6 hc6 ci
  go_wp2_with fail
  refine (cr6).mono ?_
  rintro e w' ⟨rfl,rfl⟩
  go_wp2_with fail
  refine CI.out.mono ?_
  clear CI
  rintro e w7 ⟨rfl,hc7⟩
  have hb7:=H6.out.1.chg hc7 (by simp)
  have hc47:=H6.out.2.trans hc7
  have hcN7:=H4.out.2.2.1.trans hc47
  have km:=(hc47.block mb (zhl H4.out.1) (by simp)).trans H4.out.1
  have kn:=(hc47.block nb (zhl H4.out.2.1) (by simp)).trans H4.out.2.1
  have H7:=Lib.hid (And.intro hb7 (And.intro hcN7 (And.intro km (And.intro kn hc47))))
  have y0:=zcb kn 0
  have y1:=zcb kn 1
  have y2:=zcb kn 2
  simp only [List.getElem?_toArray,List.getElem?_cons_zero,List.getElem?_cons_succ] at y0 y1 y2
  clear hb7 hc7 hc47 hcN7 km kn
  cases hi:B1.isI x0 with
  | false =>
   have cs:=owSet_not H7.out.1 x0 hx0 hi (HN.out.1.chg H7.out.2.1 (by simp)) (HN.out.2.chg H7.out.2.1 (by simp)) hrt
   have CS:=Lib.hid cs
   clear cs
   go_wp2_with fail
   refine CS.out.mono ?_
   clear CS
   rintro e w8 ⟨rfl,hc8⟩
   have km:=(hc8.block mb (zhl H7.out.2.2.1) (by simp)).trans H7.out.2.2.1
   have kn:=(hc8.block nb (zhl H7.out.2.2.2.1) (by simp)).trans H7.out.2.2.2.1
   have hc48:=H7.out.2.2.2.2.trans hc8
   have csm:=same14_at (lf:=d'.leaf) (H4.out.2.2.2.1.chg hc48 (by simp)) (H4.out.2.2.2.2.1.chg hc48 (by simp)) (HN.out.1.chg (H7.out.2.1.trans hc8) (by simp)) (HN.out.2.chg (H7.out.2.1.trans hc8) (by simp)) (by omega)
   have CSM:=Lib.hid csm
   have H8:=Lib.hid (H7.out.2.1.trans hc8)
   clear y0 y1 y2
   have m0:=zcb km 0
   have m1:=zcb km 1
   have m2:=zcb km 2
   simp only [List.getElem?_toArray,List.getElem?_cons_zero,List.getElem?_cons_succ] at m0 m1 m2
   have y0:=zcb kn 0
   have y1:=zcb kn 1
   have y2:=zcb kn 2
   simp only [List.getElem?_toArray,List.getElem?_cons_zero,List.getElem?_cons_succ] at y0 y1 y2
   clear csm km kn hc48 hc8
   go_wp2_with fail
   refine CSM.out.mono ?_
   clear CSM
   rintro e w9 ⟨rfl,hc9⟩
   have H9:=Lib.hid (H8.out.trans hc9)
   clear hc9 m0 m1 m2 y0 y1 y2
   go_wp2_with fail
   refine (awake14_at _).mono ?_
   rintro e wz ⟨rfl,hZ⟩
   have HZ:=Lib.hid (H9.out.trans hZ)
   clear hZ
   go_wp2_with fail
   go_ret
   exact ⟨rfl,HZ.out.below (by simp)⟩
  | true =>
   obtain ⟨i0,i1,i2,i3,dq,i4⟩:=Bs.isI_iff hi
   obtain ⟨xn,rfl⟩:=Int.eq_ofNat_of_zero_le i0
   rw [HP.out.1.n] at i1
   have hx2:=(HP.out.1.ok.node_ok i4).2.1
   have hno:=node_over HP.out.1 (x:=xn) (by omega) (by omega) (pageF d'.leaf d'.n ks vs)
   rw [HP.out.2.2.1] at hno
   have cs:=owSet_at H7.out.1 (fun q hq=>by cases hq) hi (HN.out.1.chg H7.out.2.1 (by simp)) (HN.out.2.chg H7.out.2.1 (by simp)) hrt
   have CS:=Lib.hid cs
   have HNO:=Lib.hid hno
   clear cs hno i0 i1 i2 i3 i4 hx2
   go_wp2_with fail
   refine CS.out.mono ?_
   clear CS
   rintro e w8 ⟨rfl,hb8,hc8⟩
   have hnN:nb∉M.L:=fun hm=>by have h1:=H1.out.1.far nb hm;have h2:=zhl H0.out.1;omega
   have cn:=Lib.hid (hb8.cNode (xn:Int))
   have km:=(hc8.block mb (zhl H7.out.2.2.1) HMB.out).trans H7.out.2.2.1
   have kn:=(hc8.block nb (zhl H7.out.2.2.2.1) hnN).trans H7.out.2.2.2.1
   have H8:=Lib.hid (And.intro (H7.out.2.1.then hc8 HML.out) (And.intro km kn))
   clear hb8 hc8 km kn hnN y0 y1 y2
   go_wp2_with fail
   refine cn.out.mono ?_
   clear cn
   rintro e w9 (⟨d9,kb2,vb2,hd9,rfl,q1,q2,q3,r1,r2,hc9⟩ | ⟨hd9,rfl,hc9⟩)
   case inr=>exact absurd (HNO.out.symm.trans hd9) (by simp)
   obtain rfl:d9=d':=Option.some.inj (hd9.symm.trans HNO.out)
   have km:=(hc9.block mb (zhl H8.out.2.1) (by simp)).trans H8.out.2.1
   have kn:=(hc9.block nb (zhl H8.out.2.2) (by simp)).trans H8.out.2.2
   have hmn:nb≠mb:=fun e=>by
    have h1:=zcb H8.out.2.1 0
    have h2:=zhl H0.out.1
    have h3:=HMW.out
    omega
   have f0:=zfb km 0
   have f1:=zfb km 1
   have f2:=zfb km 2
   have m0:=zcb km 0
   have m1:=zcb km 1
   have m2:=zcb km 2
   simp only [List.getElem?_toArray,List.getElem?_cons_zero,List.getElem?_cons_succ] at m0 m1 m2
   have hs3:=set3 km (.bool d9.leaf) (.slice (some ⟨kb2,0,none⟩) d9.n d9.n) (.slice (some ⟨vb2,0,none⟩) d9.n d9.n)
   have cs3:=set3_chg w9 mb (.bool d9.leaf) (.slice (some ⟨kb2,0,none⟩) d9.n d9.n) (.slice (some ⟨vb2,0,none⟩) d9.n d9.n)
   have H9:=Lib.hid (And.intro (H8.out.1.trans hc9) (And.intro r1 (And.intro r2 kn)))
   have HQ:=Lib.hid (And.intro q1 (And.intro q2 (zhl H8.out.2.1)))
   clear hd9 hc9 r1 r2 q1 q2 q3 kn
   go_upto_region 19 with fail
   generalize ((w9.setCell ⟨mb,0,none⟩ (.bool d9.leaf)).setCell ⟨mb,1,none⟩ (.slice (some ⟨kb2,0,none⟩) d9.n d9.n)).setCell ⟨mb,2,none⟩ (.slice (some ⟨vb2,0,none⟩) d9.n d9.n)=WA at hs3 cs3 ⊢
   have hcA:Chg [] w WA:=H9.out.1.then cs3 (fun q hq=>by rw [List.mem_singleton] at hq;subst hq;have h1:=HMW.out;have h2:=H0.out.2.1.size;exact .inr (by omega))
   have knA:=(cs3.block nb (zhl H9.out.2.2.2) (by simp only [List.mem_singleton];exact hmn)).trans H9.out.2.2.2
   have hq1:kb2∉[mb]:=by simp only [List.mem_singleton];have:=HQ.out;omega
   have hq2:vb2∉[mb]:=by simp only [List.mem_singleton];have:=HQ.out;omega
   have hmk:=((H9.out.2.1.chg cs3 hq1).numsIn (A:=[]) (by omega) (by simp) (fun i hi=>by rw [HP.out.2.2.2.1 i hi];exact HN.out.1.lt i hi)).cong (g:=ks) (fun i hi=>(HP.out.2.2.2.1 i hi).symm)
   have hmv:=((H9.out.2.2.1.chg cs3 hq2).numsIn (A:=[]) (by omega) (by simp) (fun i hi=>by rw [HP.out.2.2.2.2.1 i hi];exact HN.out.2.lt i hi)).cong (g:=vs) (fun i hi=>(HP.out.2.2.2.2.1 i hi).symm)
   have csm:=same14_at (lf:=d9.leaf) hmk hmv (HN.out.1.chg hcA (by simp)) (HN.out.2.chg hcA (by simp)) (by omega)
   have CSM:=Lib.hid csm
   have HA:=Lib.hid hcA
   clear m0 m1 m2 f0 f1 f2 csm hmk hmv hq1 hq2 hcA cs3 hmn km
   have m0:=zcb hs3 0
   have m1:=zcb hs3 1
   have m2:=zcb hs3 2
   simp only [List.getElem?_toArray,List.getElem?_cons_zero,List.getElem?_cons_succ] at m0 m1 m2
   have y0:=zcb knA 0
   have y1:=zcb knA 1
   have y2:=zcb knA 2
   simp only [List.getElem?_toArray,List.getElem?_cons_zero,List.getElem?_cons_succ] at y0 y1 y2
   clear hs3 knA
   go_wp2_with fail
   refine CSM.out.mono ?_
   clear CSM
   rintro e wb ⟨rfl,hcb⟩
   have HB:=Lib.hid (HA.out.trans hcb)
   clear hcb m0 m1 m2 y0 y1 y2
   go_wp2_with fail
   refine (awake14_at _).mono ?_
   rintro e wz ⟨rfl,hZ⟩
   have HZ:=Lib.hid (HB.out.trans hZ)
   clear hZ
   go_wp2_with fail
   go_ret
   exact ⟨rfl,HZ.out.below (by simp)⟩
end Go.Proofs.YtkhcaclndepgbaaGreat
namespace Go.Proofs.YtkhcaclndepgbaaGreat.ownPuts
open Go.ChangeShapes Go.WideShapes Go.ChangeAt Go.RowKit
open Go.ChangeMaps (open_string shut_string)
theorem own:ownKnob Tryz.prog.godebug=none:=by kernel_rfl
theorem laidOut:laidOutB Tryz.prog=true:=by kernel_rfl
theorem lifted (os:Os) (started:os.Started) (H:Type) (enc:TypeId × Value→H) :
  ReturnsInHanded {} Tryz.checked os 13 .any (Rows.ownPutsSpec.pre6 enc Tryz.prog Tryz.f13 Rows.ownPutsRow.domain false) (Rows.ownPutsSpec.post enc Tryz.prog Tryz.f13 false true false false):=by
 refine returnsInHanded_of_change (C:=Tryz.checked) own started (by kernel_rfl) Tryz.func13
  (ChangeSpec.witness6 (enc:=enc) (C:=Tryz.checked) false ⟨#[],#[.slice none 0 0,.agg #[.bool false,.slice none 0 0,.slice none 0 0],.int .i64 0],[]⟩ 8 (by kernel_rfl) (by kernel_rfl) (by kernel_rfl) (by kernel_rfl)) ?_
 intro W base args ds gs before hval0 hW hcnd _
 have hval:∀ (j:Nat) t v,Tryz.f13.params[j]?=some t→args[j]?=some v→Value.okWide Tryz.prog W .any base t v:=hval0
 have hW':=hW
 obtain ⟨p,q,hA0,hV,rfl,hfz,hnd⟩:=hW
 have hA:DataW.TrodAll enc Tryz.prog W 0 (fun _=>true) true Tryz.f13.params.toList args.toList ds p:=hA0
 rw [Tryz.params13] at hA hval
 obtain ⟨v0,vr0,d0,ds0,p0,q0,hargs,rfl,rfl,h0,r0⟩:=trodAll_cons hA
 obtain ⟨v1,vr1,d1,ds1,p1,q1,rfl,rfl,rfl,h1,r1⟩:=trodAll_cons r0
 obtain ⟨v2,vr2,d2,ds2,p2,q2,rfl,rfl,rfl,h2,r2⟩:=trodAll_cons r1
 obtain ⟨rfl,rfl,rfl⟩:=trodAll_nil r2
 obtain rfl:args=#[v0,v1,v2]:=by cases args;simp_all
 obtain ⟨rfl,rfl⟩:=trodVars_none hV
 obtain ⟨a0,len0,cap0,rfl⟩:=okWide_slice Tryz.underlying113 (hval 0 113 v0 rfl rfl)
 have k0:=h0
 have lt0:∀ x∈p0,x.block<W.heap.size:=by obtain ⟨m,hm⟩:=k0;exact DataW.trod_lt m _ _ _ hm
 obtain ⟨z0,w0⟩:=open_its8 h0
 have k1:=h1
 have lt1:∀ x∈p1,x.block<W.heap.size:=by obtain ⟨m,hm⟩:=k1;exact DataW.trod_lt m _ _ _ hm
 obtain ⟨lf1,nk1,nv1,ks1,vs1,w1⟩:=open_node (hval 1 107 v1 rfl rfl) h1
 obtain ⟨a2,rfl,rfl,rfl,w2⟩:=open_int Tryz.underlying3 (hval 2 3 v2 rfl rfl) h2
 clear hA0 hval0
 refine (ownPuts_walk a0 len0 cap0 z0 v1 lf1 nk1 nv1 ks1 vs1 a2 W w0 w1 w2).mono fun e W' ⟨he,bel⟩=>?_
 subst he
 exact ⟨_,rfl,_,_,_,[],_,[],hW',trodAll_mk1 (shut_bool Tryz.underlying4 _),(trodAll_cons_mk (Below.trod laidOut (by kernel_rfl) (of_decide_eq_true (by kernel_rfl)) k0 bel lt0) (trodAll_cons_mk (Below.trod laidOut (by kernel_rfl) (of_decide_eq_true (by kernel_rfl)) k1 bel lt1) (trodAll_cons_mk (shut_int Tryz.underlying3 w2) trodAll_mk0))),rfl,bel.frame _,fun h=>by cases h⟩
end Go.Proofs.YtkhcaclndepgbaaGreat.ownPuts
