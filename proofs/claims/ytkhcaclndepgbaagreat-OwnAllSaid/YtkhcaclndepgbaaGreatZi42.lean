/- catchmentlaw14.OwnAll: the walk. · The statement 'OwnAll': the Go function returns true at every input, and leaves what came in as it was. No condition. -/
import Derived.Test.YtkhcaclndepgbaaGreatZi39
import Derived.Test.YtkhcaclndepgbaaGreatZi40
import Derived.Test.YtkhcaclndepgbaaGreatZi41
import Derived.Test.YtkhcaclndepgbaaGreatRows
import Derived.WalkKit
import Derived.ProofKit
import Derived.OpenShut
import Derived.ShutString
import Derived.ChangeOld
import Derived.Below
set_option linter.unusedVariables false
set_option linter.unusedSimpArgs false
set_option maxRecDepth 100000
set_option maxHeartbeats 20000000
namespace Go.Proofs.YtkhcaclndepgbaaGreat
open Go.RowKit
theorem ownAll_walk (a:Option Addr) (n c:Nat) (l:List (Nat × Nat)) (t:Int) (w:World) (hl:Its8 [] w (.slice a n c) l) (ht:(Lit.int .u8 t).wf=true) :
  Calls Tryz.prog 12 #[.slice a n c,.int .u8 t] w fun e w'=>e = .returned (.bool true)∧Below w.heap.size w w':=by
 have hb8:=bd_u8 ht
 obtain ⟨t,rfl⟩:=Int.eq_ofNat_of_zero_le hb8.1
 have cb:=base13_at w (N:=200) (by omega) (F:=[]) (fun q hq=>by cases hq)
 obtain ⟨a',c',e,hn,hc⟩:=hl.len
 injection e with e1 e2 e3
 subst e1;subst e2;subst e3
 have HL:=Lib.hid hl
 rw [show (((200:Nat)):Int)=200 from rfl] at cb
 clear hl
 go_enter Tryz.func12,Tryz.ntmps12
 go_wp2_with fail
 refine cb.mono ?_
 clear cb
 rintro e w1 ⟨M0,rfl,hb0,hc0,hM0⟩
 have cg:=grew_at (N:=200) (m:=60) (by omega) (HL.out.chg hc0 (by simp)) (by omega) (by rw [room_fmt (by omega)];decide) (k:=(min ((l.length:Nat):Int) 60).toNat) (by omega) (by omega)
 rw [show (((200:Nat)):Int)=200 from rfl] at cg
 have CG:=Lib.hid cg
 have H1:=Lib.hid (And.intro hb0 (And.intro hc0 hM0))
 clear cg hb0 hc0 hM0
 go_wp2_with fail
 refine CG.out.mono ?_
 clear CG
 rintro e w2 ⟨M,x,B,vi,items,rfl,G⟩
 have cr:=(H1.out.1.chg G.chg (by simp)).cRoom
 have hM2:∀ q,q∈M.L→q∈([]:List Nat)∨w.heap.size≤q:=fun q hq => .inr (Nat.le_trans H1.out.2.1.size (G.far q hq))
 have H2:=Lib.hid (And.intro G (And.intro (H1.out.2.1.trans G.chg) hM2))
 obtain ⟨va,vc,rfl,_,_⟩:=G.its.len
 obtain ⟨rm,hrm⟩:∃ rm,rm=(Bs.fmt 200).room:=⟨_,rfl⟩
 rw [← hrm] at cr
 have HRM:=Lib.hid hrm
 have hxN:=G.lt
 clear G hM2 hrm
 go_wp2_with fail
 refine cr.mono ?_
 clear cr
 rintro e w' ⟨rfl,rfl⟩
 go_upto_region 7 with fail
 have k0:=znb w2 (.cells #[.int .i64 (x:Int)] 3)
 have c0:=(Chg.refl [] w2).alloc (.cells #[.int .i64 (x:Int)] 3)
 have hb3:=(H2.out.1.base.new (Nat.le_refl _)).chg c0 (by simp)
 generalize w2.alloc (.cells #[.int .i64 (x:Int)] 3)=W at k0 c0 hb3 ⊢
 have ho0:W.ownsRow w2.heap.size 3 1 (.slice (some ⟨w2.heap.size,0,none⟩) ([x]:List Nat).length 1) ([x]:List Nat).length (intVs [x]):=by
  refine ⟨rfl,.inr ⟨w2.heap.size,1,_,rfl,Nat.le_refl _,k0,Nat.le_refl _,by unfold maxLen;decide,rfl,rfl⟩⟩
 have H3:=Lib.hid (And.intro ho0 (And.intro hb3 (H2.out.2.1.trans c0)))
 have e21:Int.tmod (t:Int) 21=((t % 21:Nat):Int):=by rw [Int.tmod_eq_emod_of_nonneg (by omega)];rfl
 obtain ⟨m,hm⟩:∃ m,m=t % 21:=⟨_,rfl⟩
 rw [← hm] at e21
 have hm21:m<21:=by rw [hm];exact Nat.mod_lt _ (by omega)
 clear k0 c0 hb3 ho0 hm
 go_upto_block 0 with fail
 have hs0:OnS 200 1 w2.heap.size w M x (.slice (some ⟨w2.heap.size,0,none⟩) 1 1) [x] W B:=⟨H3.out.1,H3.out.2.1,by
  by_cases h0:x=0
  ·exact .inl ⟨h0,by rw [h0],(H2.out.1.nil h0).2⟩
  ·obtain ⟨ht,r⟩:=H2.out.1.rts h0
   exact .inr ⟨h0,by simp,_,ht,r⟩,H3.out.2.2,Nat.le_of_lt (H3.out.1.lt w2.heap.size rfl).2,by simp⟩
 have HS0:=Lib.hid hs0
 have HML:=Lib.hid H2.out.2.2
 clear hs0
 go_cut [12] (fun s12 wx=>Hid (∃ R B,OnS 200 1 w2.heap.size w M x s12 R wx B))
 case first =>
  go_wp2_with fail
  go_loopg [12,45] m (fun gg s12 s45 wr=>∃ i:Nat,gg=m - i∧i≤m∧s45 = .int .u8 (i:Int)∧Hid (∃ R B,OnS 200 1 w2.heap.size w M x s12 R wr B∧R.length=i+1))
  case atStart=>exact ⟨0,rfl,Nat.zero_le _,rfl,Lib.hid ⟨_,_,HS0.out,rfl⟩⟩
  case round =>
   obtain ⟨i,hgi,hi,rfl,HR⟩:=hrel
   have HGI:=Lib.hid hgi
   clear hgi
   obtain ⟨R,B1,hS,hRl⟩:=HR.out
   obtain ⟨ua,uc,rfl,u1,u2⟩:=zos hS.own
   have HS:=Lib.hid (And.intro hS hRl)
   by_cases hin:i<m
   ·have i1:(i:Int)<(m:Int):=by omega
    rcases hS.st with ⟨h0,-⟩ | ⟨h0,hxR,its,ht1,hr⟩
    ·have z0:((x:Int)==0)=true:=by rw [h0];rfl
     clear hS hRl h0
     go_wp2_with fail
     go_meet
     exact Lib.hid ⟨_,_,HS.out.1⟩
    ·have z0:((x:Int)==0)=false:=by rw [beq_eq_false_iff_ne];omega
     have crm:=hS.bs.cRoom
     obtain ⟨u4,u5,u6⟩:=hr.up (by rw [hRl];omega) hxR
     have cu:=bUp_at hS.bs hS.lt (x:Int)
     rw [u4] at cu
     have CU:=Lib.hid cu
     obtain ⟨cx,hcx,-⟩:=hr.top x hxR
     have HU:=Lib.hid (And.intro u5 (And.intro u6 (And.intro hcx h0)))
     obtain ⟨ro,hro⟩:∃ ro,ro=B1.room:=⟨_,rfl⟩
     rw [← hro] at crm
     have HRO:=Lib.hid hro
     clear hr u4 u5 u6 cu hcx h0 hS hRl hro
     by_cases hrm:ro<12
     ·go_wp2_with fail
      refine crm.mono ?_
      clear crm
      rintro e w' ⟨rfl,rfl⟩
      go_wp2_with fail
      go_meet
      exact Lib.hid ⟨_,_,HS.out.1⟩
     ·go_wp2_with fail
      refine crm.mono ?_
      clear crm
      rintro e w' ⟨rfl,rfl⟩
      go_wp2_with fail
      refine CU.out.mono ?_
      clear CU
      rintro e w4 ⟨rfl,hb4,hc4⟩
      have co:=own14_at hb4 (fun q hq=>Nat.lt_of_lt_of_le (HS.out.1.lt q hq) hc4.size) HU.out.1.gr (by omega) (fun b=>by have h1:=pendL_le (R++[x]) b;have h2:=HS.out.1.few;rw [List.length_append] at h1;have h3:([x]:List Nat).length=1:=rfl;omega) HU.out.2.2.1 (pendL_pos (by simp)) (by rw [HU.out.2.1,← HRO.out];omega)
      have CO:=Lib.hid co
      have HC4:=Lib.hid hc4
      clear co hb4 hc4
      go_wp2_with fail
      refine CO.out.mono ?_
      clear CO
      rintro e w5 ⟨y,rfl,d,B2,ht2,hd,hb5,ho,hc5⟩
      have hnM:∀ q,(Value.slice ua R.length uc).ownBlock=some q→q∉M.L:=fun q hq=>HS.out.1.bs.notL (zml.2 hq)
      have hrm2:=HU.out.1.more ho HU.out.2.2.1
      have ho5:=zoc (zoc HS.out.1.own HC4.out hnM) hc5 hnM
      have c5:Chg [] w w5:=(HS.out.1.chg.then HC4.out HML.out).then hc5 HML.out
      have HW45:=Lib.hid hc5.size
      have hfew:=HS.out.1.few
      have H5:=Lib.hid (And.intro hb5 (And.intro hrm2 (And.intro ho5 c5)))
      clear hb5 ho hc5 hd hrm2 ho5 c5 hnM
      go_upto_region 15 with fail
      have hn6:=znb w5 (.cells #[.int .i64 (y:Int)] 3)
      have hc6:Chg [] w5 (w5.alloc (.cells #[.int .i64 (y:Int)] 3)):=(Chg.refl [] w5).alloc _
      have H6:=Lib.hid (And.intro (zoc H5.out.2.2.1 hc6 (by simp)) (And.intro hn6 (And.intro (H5.out.2.2.2.trans hc6) (And.intro ((H5.out.1.chg hc6 (by simp)).new (Nat.le_refl _)) (Nat.le_trans HS.out.1.low (Nat.le_trans HC4.out.size (Nat.le_trans HW45.out hc6.size)))))))
      clear hn6 hc6
      go_wp2_with (at_builtin;refine wpList_app rfl _ _ 27 rfl rfl (base:=w2.heap.size) (size:=1) (n:=R.length) (m:=1) (xs:=intVs R) (news:=[.int .i64 (y:Int)]) Tryz.underlying27 infoInt8 rfl (by omega) (by omega) rfl rfl H6.out.1 (AppSrc.blk H6.out.2.1 rfl (fun u hu=>by simp at hu;subst hu;rfl)) (by omega) H6.out.2.2.2.2 ?_;intro v' w7 hown7 hg7 ho7;have H7:=Lib.hid (And.intro hown7 (And.intro hg7 ho7));clear hown7 hg7 ho7)
      go_roundg (m - (i+1))
      case measure=>have:=HGI.out;omega
      case rel =>
       refine ⟨i+1,rfl,hin,by go_num,Lib.hid ⟨R++[y],B2,⟨?_,?_,.inr ⟨HU.out.2.2.2,?_,its,ht2,H5.out.2.1⟩,H6.out.2.2.1.grown H7.out.2.1 (fun z hz => .inr (Nat.le_trans (show w.heap.size≤w2.heap.size from H2.out.2.1.size) (H6.out.1.lt z hz).1)),Nat.le_trans H6.out.2.2.2.2 H7.out.2.1.size,by rw [List.length_append,HS.out.2];show i+1+1≤22;omega⟩,by rw [List.length_append,HS.out.2];rfl⟩⟩
       ·have:=H7.out.1
        rw [intVs_one] at this
        rw [List.length_append]
        exact this
       ·refine (H6.out.2.2.2.1.chg ((Chg.refl (ownL (.slice ua R.length uc)) _).grown H7.out.2.1 (fun z hz => .inl (zml.2 hz))) (fun q hq=>List.mem_cons_of_mem _ hq)).sub (fun q hq=>?_)
        have hq:=zml.1 hq
        rcases H7.out.2.2 with e | e
        ·exact List.mem_cons_of_mem _ (zml.2 (e.symm.trans hq))
        ·rw [e] at hq
         rw [← Option.some.inj hq]
         exact List.mem_cons_self
       ·exact List.mem_append_left _ hxR
   ·obtain rfl:i=m:=by omega
    have i1:¬ (i:Int)<(i:Int):=by omega
    clear hS hRl
    go_wp2_with fail
    go_meet
    exact Lib.hid ⟨_,_,HS.out.1⟩
 case rest =>
  obtain ⟨R,B1,hS⟩:=hcut.out
  obtain ⟨ua,uc,rfl,u1,u2⟩:=zos hS.own
  obtain ⟨n,hn'⟩:∃ n,n=R.length:=⟨_,rfl⟩
  have HS:=Lib.hid (And.intro hS hn')
  have hfew:=hS.few
  rw [← hn'] at hfew u1 ⊢
  clear hcut hS hn'
  go_upto_region 18 with fail
  go_loopg [73] n (fun gg s73 wr=>∃ j:Nat,gg=n - j∧j≤n∧s73 = .int .i64 (j:Int)∧Hid (∃ B',BaseAt wr M (ownL (.slice ua n uc)) B'∧Dp 200 1 B' x (R.drop j)∧wr.ownsRow w2.heap.size 3 1 (.slice ua n uc) n (intVs R)∧Chg [] w wr))
  case atStart=>exact ⟨0,rfl,Nat.zero_le _,rfl,Lib.hid ⟨B1,by rw [HS.out.2];exact HS.out.1.bs,HS.out.1.dp,by rw [HS.out.2];exact HS.out.1.own,HS.out.1.chg⟩⟩
  case round =>
   obtain ⟨j,hgj,hj,rfl,HJ⟩:=hrel
   have HGJ:=Lib.hid hgj
   clear hgj
   obtain ⟨B2,hb2,hdp,ho2,hc2⟩:=HJ.out
   have hlt2:∀ q,q∈ownL (.slice ua n uc)→q<wr.heap.size:=fun q hq=>(ho2.lt q (zml.1 hq)).2
   have HJ2:=Lib.hid (And.intro hb2 (And.intro hdp (And.intro ho2 (And.intro hc2 hlt2))))
   by_cases hjn:j<n
   ·have i1:(j:Int)<(n:Int):=by omega
    have hjR:j<R.length:=by rw [← HS.out.2];exact hjn
    obtain ⟨g,c',e,g1,g2,g3,g4,g5⟩:=zol ho2 (by omega)
    injection e with e _ e'
    subst e;subst e'
    have hcc:=(g5 j (by omega)).trans (intVs_get hjR)
    have hdr:=drop_cons hjR
    obtain ⟨r,hr⟩:∃ r,r=R.getD j 0:=⟨_,rfl⟩
    rw [← hr] at hcc hdr
    have HDR:=Lib.hid hdr
    have cl:=Lib.hid (owLet_at wr M (fun q hq=>hb2.ltL hq))
    clear hb2 hdp ho2 hc2 g1 g2 g3 g4 g5 hr hdr hlt2
    go_wp2_with fail
    refine cl.out.mono ?_
    clear cl
    rintro e w3 ⟨bx,rfl,hbx,hc3⟩
    have hb3:=HJ2.out.1.chg hc3 (by simp)
    rcases HJ2.out.2.1 with ⟨h0,h00,g0⟩ | ⟨h0,its,ht3,hrt⟩
    ·have hr0:r=0:=h00 r (by rw [HDR.out];exact List.mem_cons_self)
     have cz:=owDrop_zero hb3 (letV bx)
     subst hr0
     have CZ:=Lib.hid cz
     have HZ:=Lib.hid (And.intro hb3 (And.intro (show Dp 200 1 B2 x (R.drop (j+1)) from .inl ⟨h0,fun q hq=>h00 q (by rw [HDR.out];exact List.mem_cons_of_mem _ hq),g0⟩) (And.intro (zoc HJ2.out.2.2.1 hc3 (by simp)) (HJ2.out.2.2.2.1.trans hc3))))
     clear cz hb3 hbx hc3 g0 h0 h00
     rw [show (((0:Nat)):Int)=0 from rfl] at hcc ⊢
     go_wp2_with fail
     refine CZ.out.mono ?_
     clear CZ
     rintro e w' ⟨rfl,rfl⟩
     go_wp2_with fail
     go_roundg (n - (j+1))
     case measure=>have:=HGJ.out;omega
     case rel=>exact ⟨j+1,rfl,hjn,by go_num,Lib.hid ⟨B2,HZ.out⟩⟩
    ·rw [HDR.out] at hrt
     obtain ⟨cr,hcr,-⟩:=hrt.top r (by simp)
     have cd:=owDrop_at (x:=r) (k:=cr) (bx:=bx) ⟨hb3,fun q hq=>Nat.lt_of_lt_of_le (HJ2.out.2.2.2.2 q hq) hc3.size,hrt.gr,hrt.hM,hcr,pendL_pos (by simp),by have:=hrt.low r cr hcr;omega,hbx⟩
     have CD:=Lib.hid cd
     have HZ:=Lib.hid (And.intro hrt (And.intro h0 (And.intro (zoc HJ2.out.2.2.1 hc3 (by simp)) (And.intro (HJ2.out.2.2.2.1.trans hc3) (fun q hq=>hb3.notL (zml.2 hq):∀ q,(Value.slice (some ⟨g,0,none⟩) n uc).ownBlock=some q→q∉M.L)))))
     clear cd hb3 hbx hc3 hrt hcr h0
     go_wp2_with fail
     refine CD.out.mono ?_
     clear CD
     rintro e w4 ⟨rfl,B3,ht4,hb4,hl4,hc4,-⟩
     have H4:=Lib.hid (And.intro hb4 (And.intro (show Dp 200 1 B3 x (R.drop (j+1)) from .inr ⟨HZ.out.2.1,its,ht4,HZ.out.1.less (a:=[]) hl4⟩) (And.intro (zoc HZ.out.2.2.1 hc4 HZ.out.2.2.2.2) (HZ.out.2.2.2.1.then hc4 HML.out))))
     clear hb4 hl4 hc4
     go_wp2_with fail
     go_roundg (n - (j+1))
     case measure=>have:=HGJ.out;omega
     case rel=>exact ⟨j+1,rfl,hjn,by go_num,Lib.hid ⟨B3,H4.out⟩⟩
   ·obtain rfl:j=n:=by omega
    have i1:¬ (j:Int)<(j:Int):=by omega
    rw [show R.drop j=[] by rw [HS.out.2];exact List.drop_length] at hdp
    have cm:=hdp.good.commit_ (by omega)
    obtain ⟨f1,f2⟩:=hdp.fin (by omega) cm
    have cc:=Lib.hid (bCommit_any hb2 hlt2 hdp.good (by omega))
    have HF:=Lib.hid (And.intro f1 (And.intro f2 hc2))
    clear hb2 hdp ho2 hc2 cm f1 f2 hlt2
    go_wp2_with fail
    refine cc.out.mono ?_
    clear cc
    rintro e w4 ⟨rfl,hb4,hc4⟩
    have cr4:=hb4.cRoom
    have cw4:=hb4.cWaits
    rw [HF.out.1,← HRM.out] at cr4
    rw [HF.out.2.1] at cw4
    have H4:=Lib.hid (HF.out.2.2.then hc4 HML.out)
    clear hb4 hc4
    go_wp2_with fail
    refine cr4.mono ?_
    clear cr4
    rintro e w' ⟨rfl,rfl⟩
    go_wp2_with fail
    refine cw4.mono ?_
    clear cw4
    rintro e w' ⟨rfl,rfl⟩
    go_wp2_with fail
    refine (awake14_at _).mono ?_
    rintro e wz ⟨rfl,hZ⟩
    have HZ:=Lib.hid (H4.out.trans hZ)
    clear hZ
    go_wp2_with fail
    go_ret
    exact ⟨rfl,HZ.out.below (by simp)⟩
end Go.Proofs.YtkhcaclndepgbaaGreat
namespace Go.Proofs.YtkhcaclndepgbaaGreat.ownAll
open Go.ChangeShapes Go.WideShapes Go.ChangeAt Go.RowKit
open Go.ChangeMaps (open_string shut_string)
theorem own:ownKnob Tryz.prog.godebug=none:=by kernel_rfl
theorem laidOut:laidOutB Tryz.prog=true:=by kernel_rfl
theorem lifted (os:Os) (started:os.Started) (H:Type) (enc:TypeId × Value→H) :
  ReturnsInHanded {} Tryz.checked os 12 .any (Rows.ownAllSpec.pre6 enc Tryz.prog Tryz.f12 Rows.ownAllRow.domain false) (Rows.ownAllSpec.post enc Tryz.prog Tryz.f12 false true false false):=by
 refine returnsInHanded_of_change (C:=Tryz.checked) own started (by kernel_rfl) Tryz.func12
  (ChangeSpec.witness6 (enc:=enc) (C:=Tryz.checked) false ⟨#[],#[.slice none 0 0,.int .u8 0],[]⟩ 8 (by kernel_rfl) (by kernel_rfl) (by kernel_rfl) (by kernel_rfl)) ?_
 intro W base args ds gs before hval0 hW hcnd _
 have hval:∀ (j:Nat) t v,Tryz.f12.params[j]?=some t→args[j]?=some v→Value.okWide Tryz.prog W .any base t v:=hval0
 have hW':=hW
 obtain ⟨p,q,hA0,hV,rfl,hfz,hnd⟩:=hW
 have hA:DataW.TrodAll enc Tryz.prog W 0 (fun _=>true) true Tryz.f12.params.toList args.toList ds p:=hA0
 rw [Tryz.params12] at hA hval
 obtain ⟨v0,vr0,d0,ds0,p0,q0,hargs,rfl,rfl,h0,r0⟩:=trodAll_cons hA
 obtain ⟨v1,vr1,d1,ds1,p1,q1,rfl,rfl,rfl,h1,r1⟩:=trodAll_cons r0
 obtain ⟨rfl,rfl,rfl⟩:=trodAll_nil r1
 obtain rfl:args=#[v0,v1]:=by cases args;simp_all
 obtain ⟨rfl,rfl⟩:=trodVars_none hV
 obtain ⟨a0,len0,cap0,rfl⟩:=okWide_slice Tryz.underlying113 (hval 0 113 v0 rfl rfl)
 have k0:=h0
 have lt0:∀ x∈p0,x.block<W.heap.size:=by obtain ⟨m,hm⟩:=k0;exact DataW.trod_lt m _ _ _ hm
 obtain ⟨z0,w0⟩:=open_its8 h0
 obtain ⟨a1,rfl,rfl,rfl,w1⟩:=open_int Tryz.underlying5 (hval 1 5 v1 rfl rfl) h1
 clear hA0 hval0
 refine (ownAll_walk a0 len0 cap0 z0 a1 W w0 w1).mono fun e W' ⟨he,bel⟩=>?_
 subst he
 exact ⟨_,rfl,_,_,_,[],_,[],hW',trodAll_mk1 (shut_bool Tryz.underlying4 _),(trodAll_cons_mk (Below.trod laidOut (by kernel_rfl) (of_decide_eq_true (by kernel_rfl)) k0 bel lt0) (trodAll_cons_mk (shut_int Tryz.underlying5 w1) trodAll_mk0)),rfl,bel.frame _,fun h=>by cases h⟩
end Go.Proofs.YtkhcaclndepgbaaGreat.ownAll
