/- catchmentlaw14.OwnOnce: the walk. · The statement 'OwnOnce': the Go function returns true at every input, and leaves what came in as it was. No condition. -/
import Derived.Test.YtkhcaclndepgbaaGreatZm41
import Derived.Test.YtkhcaclndepgbaaGreatZm42
import Derived.Test.YtkhcaclndepgbaaGreatZm44
import Derived.Test.YtkhcaclndepgbaaGreatRows
import Derived.WalkKit
import Derived.ProofKit
import Derived.OpenShut
import Derived.ShutString
import Derived.ChangeOld
import Derived.Below
set_option linter.unusedVariables false
set_option linter.unusedSimpArgs false
set_option maxRecDepth 100000
set_option maxHeartbeats 20000000
namespace Go.Proofs.YtkhcaclndepgbaaGreat
open Go.RowKit
theorem Rts.ct {N G:Nat} {B:Bs} {R:List Nat} {items:List (Nat × Nat)} {ht:Ht} (h:Rts N G B R items ht) (hN:1≤N) (hR:R.length≤1000):CtIn N G B ht (pendL R) R (fun _=>0) where
 gr:=h.gr
 hM:=⟨hN,h.hM⟩
 top:=fun r hr=>by
  obtain ⟨c,hc,_⟩:=h.top r hr
  exact .inr ⟨c,hc,by have:=h.low r c hc;omega⟩
 all:=fun n _ hp=>List.count_pos_iff.1 hp
 low:=fun n c hn=>by have:=h.low n c hn;omega
 tell:=fun k c hk hc=>by have:=h.low k c hk;omega
 sum:=fun b _ _=>by omega
 o0:=⟨rfl,rfl⟩
 big:=fun b _=>by omega
 len:=hR
theorem nil_lookup (w:World) {b:Int} (hb:(Lit.int .i64 b).wf=true):(Instr.lookup 68 (.map none) (.int .i64 b) false).run Tryz.prog w = .ok (.int .i64 0) w :=
 Maps.look_nil false (Maps.int_keyed Tryz.underlying3) Tryz.underlying68 (Tryz.zeroValue3 w) (Maps.keyOf_int_mk Tryz.underlying3 hb)
theorem ownOnce_walk (a:Option Addr) (n c:Nat) (l:List (Nat × Nat)) (w:World) (hl:Its8 [] w (.slice a n c) l) :
  Calls Tryz.prog 11 #[.slice a n c] w fun e w'=>e = .returned (.bool true)∧Below w.heap.size w w':=by
 obtain ⟨a',c',e,hn,hc⟩:=hl.len
 injection e with e1 e2 e3
 subst e1;subst e2;subst e3
 have cg:=grew_at (N:=200) (m:=60) (by omega) hl (by omega) (by rw [room_fmt (by omega)];decide) (k:=(min ((l.length:Nat):Int) 60).toNat) (by omega) (by omega)
 rw [show (((200:Nat)):Int)=200 from rfl] at cg
 have CG:=Lib.hid cg
 clear cg hl
 go_enter Tryz.func11,Tryz.ntmps11
 go_wp2_with fail
 refine CG.out.mono ?_
 clear CG
 rintro e w2 ⟨M,x,B,vi,items,rfl,G⟩
 obtain ⟨va,vc,rfl,_,_⟩:=G.its.len
 have HML:=Lib.hid (fun q hq => .inr (G.far q hq):∀ q,q∈M.L→q∈([]:List Nat)∨w.heap.size≤q)
 by_cases h0:x=0
 ·have z0:((x:Int)==0)=true:=by rw [h0];rfl
  have HG:=Lib.hid G.chg
  clear G h0
  go_wp2_with fail
  refine (awake14_at _).mono ?_
  rintro e wz ⟨rfl,hZ⟩
  have HZ:=Lib.hid (HG.out.trans hZ)
  clear hZ
  go_wp2_with fail
  go_ret
  exact ⟨rfl,HZ.out.below (by simp)⟩
 ·obtain ⟨ht,hr⟩:=G.rts h0
  have hI:=G.own h0
  have hroom:=G.room
  have hxN:=G.lt
  rw [room_fmt (by omega),show (((200:Nat):Int) - 2 - 2*(needN 200:Int))=188 by decide] at hroom
  obtain ⟨cx,hcx,-⟩:=hr.top x (by simp)
  obtain ⟨hxN,hxl,d0,hd0,-⟩:=hr.gr.node x cx hcx
  have cm:=hr.gr.good.commit_ (by omega)
  have hr2:8≤B.commit.room:=by
   have h1:=hr.gr.good.room
   have h2:=cm.good.room
   have h4:cnt 200 B.commit.live=cnt 200 B.live:=cnt_congr fun b _=>cm.live b
   rw [cm.waits,h4] at h2
   have h5:=Int.natCast_nonneg B.T.waits
   omega
  obtain ⟨d,y,B2,ht2,d2,O⟩:=once_ok hr hI (by omega) (by omega)
  have z0:((x:Int)==0)=false:=by rw [beq_eq_false_iff_ne];omega
  have z1:((x:Int) != (x:Int))=false:=by simp
  have co:=owOwn_at (x:=x) G.base (fun q hq=>by cases hq) (by rw [hr.gr.good.n];exact hxN) hd0 (fun h=>by rw [hI] at h;cases h)
  rw [show ownP B x d0=(x,B) by unfold ownP;rw [hI];rfl] at co
  have CO:=Lib.hid co
  have H:=Lib.hid (And.intro hr (And.intro hI (And.intro O (And.intro G.chg (And.intro hr2 cm)))))
  clear hr hI O hr2 co G hd0 hxl hcx h0 hroom cm
  go_wp2_with fail
  refine CO.out.mono ?_
  clear CO
  rintro e w3 ⟨rfl,hb3,hc3⟩
  have ci:=owIs_at hb3 (x:Int) (WalkArith.wf_i64 (by omega))
  rw [H.out.2.1] at ci
  have H3:=Lib.hid (And.intro hb3 (H.out.2.2.2.1.then hc3 HML.out))
  have CI:=Lib.hid ci
  clear ci hb3 hc3
  go_wp2_with fail
  refine CI.out.mono ?_
  clear CI
  rintro e w4 ⟨rfl,hc4⟩
  have hb4:=H3.out.1.chg hc4 (by simp)
  have cc:=Lib.hid (bCommit_any hb4 (fun q hq=>by cases hq) H.out.1.gr.good (by omega))
  have H4:=Lib.hid (H3.out.2.trans hc4)
  clear hb4 hc4
  go_wp2_with fail
  refine cc.out.mono ?_
  clear cc
  rintro e w5 ⟨rfl,hb5,hc5⟩
  have ci:=owIs_at hb5 (x:Int) (WalkArith.wf_i64 (by omega))
  rw [H.out.2.2.1.no] at ci
  have CI:=Lib.hid ci
  have H5:=Lib.hid (And.intro hb5 (H4.out.then hc5 HML.out))
  clear ci hb5 hc5
  go_wp2_with fail
  refine CI.out.mono ?_
  clear CI
  rintro e w6 ⟨rfl,hc6⟩
  have hb6:=H5.out.1.chg hc6 (by simp)
  have co:=owOwn_at (x:=x) hb6 (fun q hq=>by cases hq) (by rw [H.out.2.2.2.2.2.good.n];exact hxN) H.out.2.2.1.node H.out.2.2.1.ok
  rw [H.out.2.2.1.eq] at co
  have CO:=Lib.hid co
  have H6:=Lib.hid (H5.out.2.trans hc6)
  have hyN:y<200:=by
   obtain ⟨c,hc,_⟩:=H.out.2.2.1.rts.top y (by simp)
   exact (H.out.2.2.1.rts.gr.lt hc).1
  clear co hb6 hc6
  go_wp2_with fail
  refine CO.out.mono ?_
  clear CO
  rintro e w7 ⟨rfl,hb7,hc7⟩
  have co:=owOwn_at (x:=y) hb7 (fun q hq=>by cases hq) (by rw [H.out.2.2.1.rts.gr.good.n];exact hyN) H.out.2.2.1.node2 (fun h=>by rw [H.out.2.2.1.is] at h;cases h)
  rw [show ownP B2 y d2=(y,B2) by unfold ownP;rw [H.out.2.2.1.is];rfl] at co
  have CO:=Lib.hid co
  have H7:=Lib.hid (H6.out.then hc7 HML.out)
  clear co hb7 hc7
  go_wp2_with fail
  refine CO.out.mono ?_
  clear CO
  rintro e w8 ⟨rfl,hb8,hc8⟩
  have y1:((y:Int)==(x:Int))=false:=by rw [beq_eq_false_iff_ne];have:=H.out.2.2.1.ne;omega
  have y2:((y:Int) != (y:Int))=false:=by simp
  have gx:=H.out.2.2.1.rts.gr.getV hxN
  have gy:=H.out.2.2.1.rts.gr.getV hyN
  rw [H.out.2.2.1.z] at gx
  rw [H.out.2.2.1.o] at gy
  have kx:=hb8.cCount (x:Int)
  have ky:=hb8.cCount (y:Int)
  rw [gx,show (((0:Nat)):Int)=0 from rfl] at kx
  rw [gy,show (((1:Nat)):Int)=1 from rfl] at ky
  have hrm2:0<B2.room:=by have h1:=H.out.2.2.1.room;have h2:=H.out.2.2.2.2.1;omega
  obtain ⟨u1,d3,z,B4,ht4,O2⟩:=H.out.2.2.1.more hxN hrm2
  have cu:=bUp_at hb8 (fun q hq=>by cases hq) (y:Int)
  rw [u1] at cu
  have CU:=Lib.hid cu
  have H8:=Lib.hid (And.intro O2 (H7.out.then hc8 HML.out))
  clear hb8 hc8 gx gy hrm2 u1 O2 cu
  go_wp2_with fail
  refine (kx).mono ?_
  rintro e w' ⟨rfl,rfl⟩
  go_wp2_with fail
  refine (ky).mono ?_
  rintro e w' ⟨rfl,rfl⟩
  go_wp2_with fail
  refine CU.out.mono ?_
  clear CU
  rintro e w9 ⟨rfl,hb9,hc9⟩
  have co:=owOwn_at (x:=y) hb9 (fun q hq=>by cases hq) (by rw [(Kp0.up B2 (y:Int)).2.2,H.out.2.2.1.rts.gr.good.n];exact hyN) H8.out.1.node H8.out.1.ok
  rw [H8.out.1.eq] at co
  have CO:=Lib.hid co
  have H9:=Lib.hid (H8.out.2.then hc9 HML.out)
  have hzN:z<200:=by
   obtain ⟨c,hc,_⟩:=H8.out.1.rts.top z (by simp)
   exact (H8.out.1.rts.gr.lt hc).1
  clear co hb9 hc9
  go_wp2_with fail
  refine CO.out.mono ?_
  clear CO
  rintro e wa ⟨rfl,hba,hca⟩
  have y3:((z:Int)==(y:Int))=false:=by rw [beq_eq_false_iff_ne];have:=H8.out.1.ne;omega
  have y4:((z:Int) != (y:Int))=true:=by rw [bne_iff_ne];have:=H8.out.1.ne;omega
  have y5:¬ (z:Int)=(y:Int):=by have:=H8.out.1.ne;omega
  have ci:=owIs_at hba (x:Int) (WalkArith.wf_i64 (by omega))
  rw [H8.out.1.ix] at ci
  have CI:=Lib.hid ci
  have Ha:=Lib.hid (And.intro hba (H9.out.then hca HML.out))
  clear ci hba hca
  go_wp2_with fail
  refine CI.out.mono ?_
  clear CI
  rintro e wb ⟨rfl,hcb⟩
  have hbb:=Ha.out.1.chg hcb (by simp)
  have ci:=owIs_at hbb (z:Int) (WalkArith.wf_i64 (by omega))
  rw [H8.out.1.iz] at ci
  have CI:=Lib.hid ci
  have Hb:=Lib.hid (And.intro hbb (Ha.out.2.trans hcb))
  clear ci hbb hcb
  go_wp2_with fail
  refine CI.out.mono ?_
  clear CI
  rintro e wd ⟨rfl,hcd⟩
  have hbd:=Hb.out.1.chg hcd (by simp)
  have ci:=owIs_at hbd (y:Int) (WalkArith.wf_i64 (by omega))
  rw [H8.out.1.iy] at ci
  have CI:=Lib.hid ci
  have Hd:=Lib.hid (And.intro hbd (Hb.out.2.trans hcd))
  clear ci hbd hcd
  go_wp2_with fail
  refine CI.out.mono ?_
  clear CI
  rintro e wf ⟨rfl,hcf⟩
  have hbf:=Hd.out.1.chg hcf (by simp)
  have kn:=znb wf (.cells #[.int .i64 (y:Int),.int .i64 (z:Int)] 3)
  have cn:=(Chg.refl [] wf).alloc (.cells #[.int .i64 (y:Int),.int .i64 (z:Int)] 3)
  have cct:=counted_at (vo := .map none) (oth:=fun _=>0) (hbf.chg cn (by simp)) (H8.out.1.rts.ct (by omega) (by simp)) (v := .slice (some ⟨wf.heap.size,0,none⟩) 2 2) (.inr ⟨wf.heap.size,2,rfl,by simp,by unfold maxLen;decide,zhl kn,fun i hi=>by
   have hi:i=0∨i=1:=by simp at hi;omega
   rcases hi with rfl | rfl
   ·exact (zcb kn 0).trans rfl
   ·exact (zcb kn 1).trans rfl⟩) (fun w' _ b hb=>nil_lookup w' (WalkArith.wf_i64 (by omega)))
  have CCT:=Lib.hid cct
  have Hf:=Lib.hid ((Hd.out.2.trans hcf).trans cn)
  clear cct kn cn hbf hcf
  go_wp2_with fail
  refine CCT.out.mono ?_
  clear CCT
  rintro e wg ⟨rfl,hcg⟩
  have Hg:=Lib.hid (Hf.out.trans hcg)
  clear hcg
  go_wp2_with fail
  refine (awake14_at _).mono ?_
  rintro e wz ⟨rfl,hZ⟩
  have HZ:=Lib.hid (Hg.out.trans hZ)
  clear hZ
  go_wp2_with fail
  go_ret
  exact ⟨rfl,HZ.out.below (by simp)⟩
end Go.Proofs.YtkhcaclndepgbaaGreat
namespace Go.Proofs.YtkhcaclndepgbaaGreat.ownOnce
open Go.ChangeShapes Go.WideShapes Go.ChangeAt Go.RowKit
open Go.ChangeMaps (open_string shut_string)
theorem own:ownKnob Tryz.prog.godebug=none:=by kernel_rfl
theorem laidOut:laidOutB Tryz.prog=true:=by kernel_rfl
theorem lifted (os:Os) (started:os.Started) (H:Type) (enc:TypeId × Value→H) :
  ReturnsInHanded {} Tryz.checked os 11 .any (Rows.ownOnceSpec.pre6 enc Tryz.prog Tryz.f11 Rows.ownOnceRow.domain false) (Rows.ownOnceSpec.post enc Tryz.prog Tryz.f11 false true false false):=by
 refine returnsInHanded_of_change (C:=Tryz.checked) own started (by kernel_rfl) Tryz.func11
  (ChangeSpec.witness6 (enc:=enc) (C:=Tryz.checked) false ⟨#[],#[.slice none 0 0],[]⟩ 8 (by kernel_rfl) (by kernel_rfl) (by kernel_rfl) (by kernel_rfl)) ?_
 intro W base args ds gs before hval0 hW hcnd _
 have hval:∀ (j:Nat) t v,Tryz.f11.params[j]?=some t→args[j]?=some v→Value.okWide Tryz.prog W .any base t v:=hval0
 have hW':=hW
 obtain ⟨p,q,hA0,hV,rfl,hfz,hnd⟩:=hW
 have hA:DataW.TrodAll enc Tryz.prog W 0 (fun _=>true) true Tryz.f11.params.toList args.toList ds p:=hA0
 rw [Tryz.params11] at hA hval
 obtain ⟨v0,vr0,d0,ds0,p0,q0,hargs,rfl,rfl,h0,r0⟩:=trodAll_cons hA
 obtain ⟨rfl,rfl,rfl⟩:=trodAll_nil r0
 obtain rfl:args=#[v0]:=by cases args;simp_all
 obtain ⟨rfl,rfl⟩:=trodVars_none hV
 obtain ⟨a0,len0,cap0,rfl⟩:=okWide_slice Tryz.underlying113 (hval 0 113 v0 rfl rfl)
 have k0:=h0
 have lt0:∀ x∈p0,x.block<W.heap.size:=by obtain ⟨m,hm⟩:=k0;exact DataW.trod_lt m _ _ _ hm
 obtain ⟨z0,w0⟩:=open_its8 h0
 clear hA0 hval0
 refine (ownOnce_walk a0 len0 cap0 z0 W w0).mono fun e W' ⟨he,bel⟩=>?_
 subst he
 exact ⟨_,rfl,_,_,_,[],_,[],hW',trodAll_mk1 (shut_bool Tryz.underlying4 _),(trodAll_cons_mk (Below.trod laidOut (by kernel_rfl) (of_decide_eq_true (by kernel_rfl)) k0 bel lt0) trodAll_mk0),rfl,bel.frame _,fun h=>by cases h⟩
end Go.Proofs.YtkhcaclndepgbaaGreat.ownOnce
