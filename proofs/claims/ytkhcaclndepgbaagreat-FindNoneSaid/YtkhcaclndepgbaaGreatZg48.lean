/- Layer 13's statements: Rising. · Layer 13's statements: trees that Build makes; the examples' tree. · Layer 13's statements: the chapter's examples; a tree of any items. · What a walk is told of a slice of integers that came in; bounds out of 'wf'. · More on slices of integers that came in. -/
import Derived.Test.YtkhcaclndepgbaaGreatZg46
import Derived.Deep.LoopGhost
import Derived.BigRegion
import Derived.BigQuiet
import Derived.Test.YtkhcaclndepgbaaGreatZg47
import Derived.Deep.RegionHeld3
import Derived.Test.YtkhcaclndepgbaaGreatZg01
import Derived.OpenShut
set_option linter.unusedVariables false
set_option linter.unusedSimpArgs false
set_option maxRecDepth 100000
set_option maxHeartbeats 20000000
namespace Go.Proofs.YtkhcaclndepgbaaGreat
open Go.RowKit
def TreeOf (B:Bs) (x:Int) (items:List (Nat × Nat)):Prop:=(x=0∧items=[])∨∃ h,TreeIs B x h items∧h<8
section
variable {B:Bs} {x:Int} {items:List (Nat × Nat)}
theorem TreeOf.get (T:TreeOf B x items) (ok:B.Ok) (ha:Asc items) (key:Nat):getP B key 8 x=((lookP items key).1,(lookP items key).2,0):=by
 rcases T with ⟨rfl,rfl⟩ | ⟨h,T,h8⟩
 ·rfl
 ·exact get_look ha (T.get ok h8 key)
theorem TreeOf.right (T:TreeOf B x items) (ok:B.Ok):rightT B x=true:=by
 rcases T with ⟨rfl,rfl⟩ | ⟨h,T,h8⟩
 ·unfold rightT;simp
 ·exact T.rightT ok h8
theorem TreeOf.walk (T:TreeOf B x items) (ok:B.Ok) (lo hi:Nat):walkL B lo hi x=(items.filter fun p=>decide (lo≤p.1)&&decide (p.1≤hi)).map fun p=>(p,0):=by
 rcases T with ⟨rfl,rfl⟩ | ⟨h,T,h8⟩
 ·rfl
 ·exact T.walk ok h8 lo hi
theorem TreeOf.bd (T:TreeOf B x items) (ok:B.Ok):0≤x∧x<4096:=by
 rcases T with ⟨rfl,rfl⟩ | ⟨h,T,h8⟩
 ·omega
 ·have:=(right_ge T.right);have:=ok.n;omega
theorem TreeOf.walkR (T:TreeOf B x items) (ok:B.Ok) (lo hi:Nat) (most:Int):(if most<1 then ([],0) else walkR (walkL B lo hi x) most.toNat [])=((items.filter fun p=>decide (lo≤p.1)&&decide (p.1≤hi)).take (max most 0).toNat,(0:Int)):=by
 rw [T.walk ok]
 by_cases h:most<1
 ·rw [if_pos h,show (max most 0).toNat=0 by omega,List.take_zero]
 ·rw [if_neg h,walkR_ok,show max most 0=most by omega,List.nil_append]
end
theorem bldP_one {items:List (Nat × Nat)} {B:Bs} (h1:1≤items.length) (h7:items.length≤7):bldP 8 0 items B=(B.put (pageF true items.length (kOf items) (vOf items)),B.at_):=by
 have hm:manyG items.length=1:=by unfold manyG;omega
 have hg:grp items 1 0=items:=by
  have:=grp_all (l:=items) (q:=1) (by omega)
  simpa using this
 rw [bldP,if_pos hm,lvlP_succ,hm,hg]
 rfl
theorem build13_any {w:World} {M:Bm} {F:List Nat} {B:Bs} {N:Nat} {items:List (Nat × Nat)} {v:Value} (hb:BaseAt w M F B) (hF:∀ q,q∈F→q<w.heap.size) (hg:Good N 1 B) (hr:(items.length:Int)+1≤2*B.room) (hM:N≤4096) (ha:Asc items) (hu:It64 items) (hit:ItemsIn M.L w v items) (h200:items.length≤200) :
  Calls Tryz.prog 51 #[.pointer (some ⟨M.b,0,none⟩),v] w fun e w'=>∃ (x:Nat) (B':Bs),e = .returned (.tuple #[.int .i64 (x:Int),.bool true])∧BaseAt w' M F B'∧Good N 1 B'∧TreeOf B' (x:Int) items∧heightP B' 8 (x:Int)=(highR items.length,0)∧Chg M.L w w'∧(items≠[]→(B',x)=bldP 8 0 items B)∧(items=[]→B'=B∧x=0):=by
 by_cases h0:items=[]
 ·subst h0
  obtain ⟨a,c,rfl,hc1,hc2⟩:=hit.len
  have H:Hid (BaseAt w M F B∧Good N 1 B):=Lib.hid ⟨hb,hg⟩
  clear hb hF hg hr ha hu hit
  show Calls _ _ #[.pointer (some ⟨M.b,0,none⟩),.slice a 0 c] w _
  go_enter Tryz.func51,Tryz.ntmps51
  go_wp2_with fail
  refine bodyPost_ret (v := .tuple #[.int .i64 ((0:Nat):Int),.bool true]) (by simp [results,Tryz.results51,go_sem]) rfl ⟨0,B,rfl,H.out.1,H.out.2,.inl ⟨rfl,rfl⟩,rfl,Chg.refl _ _,fun q=>absurd rfl q,fun _=>⟨rfl,rfl⟩⟩
 ·have hl:1≤items.length:=by
   cases items with
   | nil=>exact absurd rfl h0
   | cons p r=>simp
  refine (build13_at hb hF ⟨hg,hr,hl,.inl ⟨rfl,rfl,ha,hu⟩⟩ hM hit h200).mono fun e w' ⟨x,h,B',q1,q2,q3,q4,q5,q6,q7,q8⟩=>?_
  have q4h:=q4.height q3.ok q5
  rw [← q6] at q4h
  exact ⟨x,B',q1,q2,q3,.inr ⟨h,q4,q5⟩,q4h,q7,fun _=>q8,fun q=>absurd q h0⟩
def aw13:List (Nat × Nat):=[(2,20),(5,50)]
def k13 (i:Nat):Nat:=if i=0 then 0 else 5
def v13 (i:Nat):Nat:=if i=0 then 4 else 9
noncomputable def a13:Bs:=(Bs.fmt 40).put (pageF true 2 (kOf aw13) (vOf aw13))
noncomputable def b13:Bs:=a13.put (pageF false 2 k13 v13)
theorem at40:(Bs.fmt 40).at_=4:=by kernel_rfl
theorem at40b:a13.at_=5:=by
 show ((Bs.fmt 40).put (pageF true 2 (kOf aw13) (vOf aw13))).at_=5
 generalize pageF true 2 (kOf aw13) (vOf aw13)=f
 kernel_rfl
theorem page40:(Bs.fmt 40).a 0 0=2:=by kernel_rfl
theorem asc13:Asc aw13:=by unfold Asc aw13;simp
theorem it13:It64 aw13:=by intro p hp;unfold aw13 at hp;simp at hp;rcases hp with rfl | rfl <;> exact ⟨by decide,by decide⟩
structure Aw13:Prop where
 g0:Good 40 1 (Bs.fmt 40)
 r0:(Bs.fmt 40).room=34
 g1:Good 40 1 a13
 r1:a13.room=33
 rt:rightB false 2 2 k13 v13=true
 g2:Good 40 1 b13
 n2:b13.nodeI 2=none
 e2:b13.nodeE 2=130
 no:rightT b13 5=false
theorem aw13_ok (T:TreeOf a13 4 aw13):Aw13:=by
 have g0:=(good_fmt (N:=40) (by omega)).1
 have r0:(Bs.fmt 40).room=34:=by rw [room_fmt (by omega)];rfl
 have hp:=page_le true (g:=aw13) (by decide)
 obtain ⟨g1,l0,h2,hN,hl,-,-,hr,-⟩:=g0.put_ (by rw [r0];omega) hp
 have g1:Good 40 1 a13:=g1
 have r1:a13.room=33:=by
  show ((Bs.fmt 40).put (pageF true aw13.length (kOf aw13) (vOf aw13))).room=33
  rw [hr,r0];rfl
 have rt:rightB false 2 2 k13 v13=true:=by
  unfold rightB
  have hk:kidsB v13 2=true:=(kidsB_iff _ _).2 ⟨by omega,fun j hj=>by
   unfold v13;split <;> omega,fun i j hij hj=>by
   obtain rfl:i=0:=by omega
   obtain rfl:j=1:=by omega
   decide⟩
  have hs:ascB k13 2=true:=(ascB_iff _ _).2 fun i h0 hi=>by
   obtain rfl:i=1:=by omega
   decide
  rw [hk,hs]
  rfl
 have hp2:∀ j,j<128→pageF false 2 k13 v13 j≤255:=fun j _=>sealP_le (by decide) (fun k _=>bodyF_le _ _ _ k (by omega)) j
 obtain ⟨g2,m0,h22,h2N,hl2,-,-,hr2,-⟩:=g1.put_ (by rw [r1];omega) hp2
 have g2:Good 40 1 b13:=g2
 have tn:(Bs.fmt 40).T.n=40:=g0.n
 have nd2:b13.nodeI 2=none:=by
  have hf:b13.fr 2=none:=by
   show (if 2=a13.at_ then some (pageF false 2 k13 v13) else (if 2=(Bs.fmt 40).at_ then some (pageF true 2 (kOf aw13) (vOf aw13)) else (Bs.fmt 40).fr 2))=none
   rw [at40b,at40]
   rfl
  have e0:b13.read 2 0=5:=by
   unfold Bs.read
   rw [hf]
   show (Bs.fmt 40).D 2 0=5
   have:=g0.ok.disk.cnt 0 (by rw [tn];decide) 0 (by omega)
   rw [page40] at this
   rw [this]
   exact pageI_kind _ _ _
  unfold Bs.nodeI
  rw [if_pos (inI_iff.2 ⟨by omega,by rw [g2.n];omega⟩)]
  unfold decN
  rw [if_neg]
  intro h
  unfold decB at h
  rw [Bool.and_eq_true,decide_eq_true_eq] at h
  have h1:=h.1.2.2.1
  rw [show (2:Int).toNat=2 from rfl,e0] at h1
  omega
 refine ⟨g0,r0,g1,r1,rt,g2,nd2,?_,?_⟩
 ·unfold Bs.nodeE
  rw [if_pos (inI_iff.2 ⟨by omega,by rw [g2.n];omega⟩)]
 ·cases hq:rightT b13 5 with
  | false=>rfl
  | true =>
   unfold rightT at hq
   rw [show ((5:Int)==0)=false from rfl,Bool.false_or,Bool.and_eq_true] at hq
   have hr3:=hq.2
   obtain ⟨d5,hd5,dl,dn,dk,dv⟩:=decN_page rt (fun i hi=>(by unfold k13;split <;> omega)) (fun i hi=>(by unfold v13;split <;> omega))
   have n5:b13.nodeI 5=some d5:=by
    have:=(node_put (B:=a13) h22 (by rw [g1.n];exact h2N) rt).trans hd5
    rw [at40b] at this
    exact this
   generalize (heightP b13 8 5).1 - 1=hh at hr3
   cases hh with
   | zero =>
    obtain ⟨d,e1,e2,-⟩:=right_leaf hr3
    rw [n5] at e1
    replace e1:=Option.some.inj e1
    rw [← e1,dl] at e2
    cases e2
   | succ hh =>
    obtain ⟨d,I⟩:=right_inner hr3
    have e1:=I.node
    rw [n5] at e1
    replace e1:=Option.some.inj e1
    have hk:=I.right 0 (by rw [← e1,dn];omega)
    rw [← e1,dv 0 (by omega)] at hk
    obtain ⟨-,-,d4,n4,hd4⟩:=right_ge hk
    have q4:b13.nodeI ((v13 0:Nat):Int)=a13.nodeI 4:=node_kept (B:=a13) (by rw [at40b];decide)
    obtain ⟨d3,hd3,_,dn3,_,_⟩:=decN_page (leaf:=true) (n:=2) (keys:=kOf aw13) (vals:=vOf aw13) (by
     unfold rightB
     rw [show ascB (kOf aw13) 2=true from (ascB_iff _ _).2 asc13.to];rfl) (fun i _=>(it13.getD i).1) (fun i _=>(it13.getD i).2)
    have n3:a13.nodeI 4=some d3:=by
     have:=(node_put (B:=Bs.fmt 40) (leaf:=true) (n:=2) (keys:=kOf aw13) (vals:=vOf aw13) h2 (by rw [tn];exact hN) (by
      unfold rightB
      rw [show ascB (kOf aw13) 2=true from (ascB_iff _ _).2 asc13.to];rfl)).trans hd3
     rw [at40] at this
     exact this
    rw [q4,n3] at n4
    replace n4:=Option.some.inj n4
    rw [← n4,dn3] at hd4
    omega
theorem items13 {A:List Nat} {w:World} {b:Nat} (h:w.heap[b]?=some (.cells #[.int .u64 2,.int .u64 20,.int .u64 5,.int .u64 50] 104 (0,0))) (hA:b∉A):ItemsIn A w (.slice (some ⟨b,0,none⟩) 2 2) aw13 :=
 ⟨⟨_,_,rfl,Nat.le_refl _,by unfold maxLen;omega,fun _=>⟨b,0,rfl,zhl h,hA,fun j hj=>by rw [Nat.zero_add,zcb h];simp only [List.getElem?_toArray];rfl⟩⟩,it13⟩
theorem nums2 {A:List Nat} {w:World} {b x y:Nat} {f:Nat→Nat} (h:w.heap[b]?=some (.cells #[.int .u64 (x:Int),.int .u64 (y:Int)] 44 (0,0))) (hA:b∉A) (h0:f 0=x) (h1:f 1=y) (hx:x<18446744073709551616) (hy:y<18446744073709551616):NumsIn A w (.slice (some ⟨b,0,none⟩) 2 2) 2 f:=by
 refine .inr ⟨b,0,2,rfl,Nat.le_refl _,by unfold maxLen;omega,zhl h,hA,fun i hi=>?_⟩
 rcases (show i=0∨i=1 by omega) with rfl | rfl
 ·exact ⟨by rw [h0,zcb h];rfl,by rw [h0];exact hx⟩
 ·exact ⟨by rw [h1,zcb h];rfl,by rw [h1];exact hy⟩
theorem awake13_at (w:World):Calls Tryz.prog 48 #[] w fun e w'=>e = .returned (.bool true)∧Chg [] w w':=by
 have c0:=base13_at (N:=40) w (by omega) (F:=[]) (fun q hq=>by cases hq)
 change Calls _ _ #[.int .i64 40] w _ at c0
 go_enter Tryz.func48,Tryz.ntmps48
 go_wp2_with fail
 refine c0.mono ?_
 clear c0
 rintro e w1 ⟨M,rfl,hb0,hc1,hM⟩
 have hI:Hid (BaseAt w1 M [] (Bs.fmt 40)∧Chg [] w w1∧∀ q,q∈M.L→w.heap.size≤q∧q<w1.heap.size):=Lib.hid ⟨hb0,hc1,fun q hq=>⟨hM q hq,hb0.ltL hq⟩⟩
 clear hb0 hc1 hM
 have hn1:=znb w1 (.cells #[.int .u64 2,.int .u64 20,.int .u64 5,.int .u64 50] 104)
 have hc2:Chg [] w1 (w1.alloc (.cells #[.int .u64 2,.int .u64 20,.int .u64 5,.int .u64 50] 104)):=(Chg.refl [] w1).alloc _
 have r40:(Bs.fmt 40).room=34:=by rw [room_fmt (by omega)];rfl
 have cB:=build13_any (items:=aw13) (hI.out.1.chg hc2 (by simp)) (fun q hq=>by cases hq) (good_fmt (N:=40) (by omega)).1 (by rw [r40];decide) (by omega) asc13 it13 (items13 hn1 (fun hm=>by have:=(hI.out.2.2 _ hm).2;omega)) (by decide)
 have CB:=Lib.hid cB
 have HC2:=Lib.hid (hI.out.2.1.trans hc2)
 clear hn1 hc2 cB r40
 go_wp2_with fail
 refine CB.out.mono ?_
 clear CB
 rintro e w2 ⟨x,B',rfl,hb2,-,hT,hH,hc3,hP,-⟩
 have hP:=hP (by simp [aw13])
 rw [bldP_one (by decide) (by decide),at40] at hP
 injection hP with hB hx
 have hB:B'=a13:=hB
 subst hx
 subst hB
 have A:=Lib.hid (aw13_ok hT)
 have hw3:Chg [] w w2:=HC2.out.then hc3 (fun q hq => .inr (hI.out.2.2 q hq).1)
 rw [show ((4:Nat):Int)=4 from rfl] at hT hH ⊢
 have cR0:=fdRight_at hb2 0 (by decide)
 rw [show rightT a13 0=true from rfl] at cR0
 have H2:=Lib.hid (And.intro hb2 (And.intro hT (And.intro hH hw3)))
 clear hb2 hT hH hc3 hw3 HC2 hP hB
 go_wp2_with fail
 refine cR0.mono ?_
 clear cR0
 rintro e w3 ⟨rfl,hc3⟩
 have cR4:=fdRight_at (H2.out.1.chg hc3 (by simp)) 4 (by decide)
 rw [H2.out.2.1.right A.out.g1.ok] at cR4
 have H3:=Lib.hid (And.intro (H2.out.1.chg hc3 (by simp)) (H2.out.2.2.2.trans hc3))
 clear hc3
 go_wp2_with fail
 refine cR4.mono ?_
 clear cR4
 rintro e w4 ⟨rfl,hc4⟩
 have cG:=fGet_at (H3.out.1.chg hc4 (by simp)) 4 (by decide) 5 (by omega)
 rw [H2.out.2.1.get A.out.g1.ok asc13 5,show lookP aw13 5=(50,true) from rfl] at cG
 change Calls _ _ #[_,_,.int .u64 5] w4 (fun e w'=>e = .returned (.tuple #[.int .u64 50,.bool true,.int .i64 0])∧Chg [] w4 w') at cG
 have H4:=Lib.hid (And.intro (H3.out.1.chg hc4 (by simp)) (H3.out.2.trans hc4))
 clear hc4
 go_wp2_with fail
 refine cG.mono ?_
 clear cG
 rintro e w5 ⟨rfl,hc5⟩
 have cW:=fdWalk_at (H4.out.1.chg hc5 (by simp)) (y:=4) (lo:=0) (hi:=9) (most:=9) (by omega) (by omega) (by omega) (.inr (by omega)) rfl
 rw [H2.out.2.1.walkR A.out.g1.ok 0 9 9,show ((aw13.filter fun p=>decide (0≤p.1)&&decide (p.1≤9)).take (max (9:Int) 0).toNat)=aw13 from rfl] at cW
 change Calls _ _ #[_,_,.int .u64 0,.int .u64 9,_] w5 (fun e w'=>∃ v,e = .returned (.tuple #[v,.int .i64 0])∧w'.ownsRow w5.heap.size 104 2 v 2 (itVs aw13)∧Chg [] w5 w') at cW
 have H5:=Lib.hid (And.intro (H4.out.1.chg hc5 (by simp)) (H4.out.2.trans hc5))
 clear hc5
 go_wp2_with fail
 refine cW.mono ?_
 clear cW
 rintro e w6 ⟨va,rfl,hown6,hc6⟩
 obtain ⟨aa,ca,rfl,_,_⟩:=zos hown6
 have cW:=fdWalk_at (H5.out.1.chg hc6 (by simp)) (y:=4) (lo:=3) (hi:=9) (most:=9) (by omega) (by omega) (by omega) (.inr (by omega)) rfl
 rw [H2.out.2.1.walkR A.out.g1.ok 3 9 9,show ((aw13.filter fun p=>decide (3≤p.1)&&decide (p.1≤9)).take (max (9:Int) 0).toNat)=[(5,50)] from rfl] at cW
 change Calls _ _ #[_,_,.int .u64 3,.int .u64 9,_] w6 (fun e w'=>∃ v,e = .returned (.tuple #[v,.int .i64 0])∧w'.ownsRow w6.heap.size 104 2 v 1 (itVs [(5,50)])∧Chg [] w6 w') at cW
 have H6:=Lib.hid (And.intro (H5.out.1.chg hc6 (by simp)) (H5.out.2.trans hc6))
 clear hc6 hown6
 go_wp2_with fail
 refine cW.mono ?_
 clear cW
 rintro e w7 ⟨vb,rfl,hown7,hc7⟩
 obtain ⟨gb,cb,rfl,_,_,hg6,hgb,hcb⟩:=zol hown7 (by omega)
 have hcb0:=hcb 0 (by omega)
 rw [show (itVs [(5,50)])[0]?=some (.int .u64 5) from rfl] at hcb0
 have cH:=fHeight_at (H6.out.1.chg hc7 (by simp)) 4 (by decide)
 rw [H2.out.2.2.1] at cH
 change Calls _ _ _ w7 (fun e w'=>e = .returned (.tuple #[.int .i64 1,.int .i64 0])∧Chg [] w7 w') at cH
 have H7:=Lib.hid (And.intro (H6.out.1.chg hc7 (by simp)) (And.intro (H6.out.2.trans hc7) (And.intro hcb0 hgb)))
 clear hc7 hown7 hcb hcb0 hgb
 go_wp2_with fail
 refine cH.mono ?_
 clear cH
 rintro e w8 ⟨rfl,hc8⟩
 have cG:=fGet_at (H7.out.1.chg hc8 (by simp)) 0 (by decide) 5 (by omega)
 change Calls _ _ #[_,_,.int .u64 5] w8 (fun e w'=>e = .returned (.tuple #[.int .u64 0,.bool false,.int .i64 0])∧Chg [] w8 w') at cG
 have H8:=Lib.hid (And.intro (H7.out.1.chg hc8 (by simp)) (And.intro (H7.out.2.1.trans hc8) (And.intro ((hc8.cell (p:=⟨gb,0,none⟩) H7.out.2.2.2 (by simp)).trans H7.out.2.2.1) (Nat.lt_of_lt_of_le H7.out.2.2.2 hc8.size))))
 clear hc8
 go_wp2_with fail
 refine cG.mono ?_
 clear cG
 rintro e w9 ⟨rfl,hc9⟩
 have H9:=Lib.hid (And.intro (H8.out.1.chg hc9 (by simp)) (And.intro (H8.out.2.1.trans hc9) (And.intro ((hc9.cell (p:=⟨gb,0,none⟩) H8.out.2.2.2 (by simp)).trans H8.out.2.2.1) (Nat.lt_of_lt_of_le H8.out.2.2.2 hc9.size))))
 clear hc9
 have hA:=(Chg.refl [] w9).alloc (.cells #[.int .u64 ((0:Nat):Int),.int .u64 ((5:Nat):Int)] 44)
 have hB:=hA.alloc (.cells #[.int .u64 ((4:Nat):Int),.int .u64 ((9:Nat):Int)] 44)
 have kA:=znd w9 (.cells #[.int .u64 ((0:Nat):Int),.int .u64 ((5:Nat):Int)] 44) (.cells #[.int .u64 ((4:Nat):Int),.int .u64 ((9:Nat):Int)] 44)
 have kB:=znc w9 (.cells #[.int .u64 ((0:Nat):Int),.int .u64 ((5:Nat):Int)] 44) (.cells #[.int .u64 ((4:Nat):Int),.int .u64 ((9:Nat):Int)] 44)
 have cP:=put13_at (A:=[]) (H9.out.1.chg hB (by simp)) (fun q hq=>by cases hq) (by rw [A.out.r1];omega) (nums2 (f:=k13) kA (by simp) rfl rfl (by omega) (by omega)) (nums2 (f:=v13) kB (by simp) rfl rfl (by omega) (by omega)) A.out.rt
 rw [at40b] at cP
 have CP:=Lib.hid cP
 have HB10:=Lib.hid hB
 clear hA hB kA kB cP
 go_wp2_with fail
 refine CP.out.mono ?_
 clear CP
 rintro e w10 ⟨rfl,hb10,hc10⟩
 have hw10:Chg [] w w10:=(H9.out.2.1.trans HB10.out).then hc10 (fun q hq => .inr (hI.out.2.2 q hq).1)
 have hcell:=(hc10.cell (p:=⟨gb,0,none⟩) (Nat.lt_of_lt_of_le H9.out.2.2.2 HB10.out.size) (fun hm=>by have h1:gb<w6.heap.size:=H6.out.1.ltL hm;omega)).trans ((HB10.out.cell (p:=⟨gb,0,none⟩) H9.out.2.2.2 (by simp)).trans H9.out.2.2.1)
 have hb10:BaseAt w10 M [] b13:=hb10
 have cN:=hb10.cNode 2
 have H10:=Lib.hid (And.intro hb10 (And.intro hw10 (And.intro hcell (Nat.lt_of_lt_of_le H9.out.2.2.2 (Nat.le_trans HB10.out.size hc10.size)))))
 clear hb10 hw10 hcell hc10
 go_wp2_with fail
 refine cN.mono ?_
 clear cN
 rintro e w11 (⟨d,kb,vb,hd,-⟩ | ⟨-,rfl,hc11⟩)
 ·rw [A.out.n2] at hd;cases hd
 rw [A.out.e2]
 have h12:=(Chg.refl [] w11).alloc (.cells #[.bool false,.slice none 0 0,.slice none 0 0] 107)
 have hc12:=hc11.trans h12
 have cR:=fdRight_at (H10.out.1.chg hc12 (by simp)) 5 (by decide)
 rw [A.out.no] at cR
 have q:=(hc12.cell (p:=⟨gb,0,none⟩) H10.out.2.2.2 (by simp)).trans H10.out.2.2.1
 have H11:=Lib.hid (H10.out.2.1.trans hc12)
 have CR:=Lib.hid cR
 clear cR hc11 hc12 h12
 go_wp2_with fail
 refine CR.out.mono ?_
 clear CR
 rintro e w13 ⟨rfl,hc13⟩
 have H13:=Lib.hid (H11.out.trans hc13)
 clear hc13
 go_wp2_with fail
 go_ret
 exact ⟨rfl,H13.out⟩
def IsRow (k:IntKind) (w:World) (a:Option Addr) (len cap:Nat) (zs:List Int):Prop :=
 (a=none∧len=0∧cap=0∧zs=[]) ∨
 ∃ x,a=some x∧len≤cap∧cap≤maxLen∧zs.length=cap∧(∀ i,i<zs.length→w.cell? (x.add i)=some (.int k (zs.getD i 0)))∧∀ n∈zs,(Lit.int k n).wf=true
theorem bd_u64 {x:Int} (h:(Lit.int .u64 x).wf=true):0≤x∧x≤18446744073709551615:=by
 simp [Lit.wf,IntKind.min,IntKind.max,IntKind.signed,IntKind.bits] at h;exact h
theorem IsRow.get {k:IntKind} {w:World} {a:Option Addr} {len cap:Nat} {zs:List Int} (h:IsRow k w a len cap zs) {i:Nat} (hi:i<len) :
  ∃ b off,a=some ⟨b,off,none⟩∧b<w.heap.size∧w.cell? ⟨b,off+i,none⟩=some (.int k (zs.getD i 0))∧(Lit.int k (zs.getD i 0)).wf=true:=by
 rcases h with ⟨_,rfl,_⟩ | ⟨⟨b,off,sp⟩,rfl,h1,h2,h3,h4,h5⟩
 ·omega
 ·have hil:i<zs.length:=by omega
  have hspot:sp=none:=by simpa [Addr.add] using World.cell?_spot (h4 0 (by omega))
  subst hspot
  have hc:=h4 i hil
  have e:(⟨b,off,none⟩:Addr).add i=⟨b,off+i,none⟩:=by unfold Addr.add;split <;> simp_all
  rw [e] at hc
  refine ⟨b,off,rfl,World.block_lt_of_cell? w _ hc,hc,h5 _ ?_⟩
  rw [List.getD_eq_getElem?_getD,List.getElem?_eq_getElem hil]
  exact List.getElem_mem hil
end Go.Proofs.YtkhcaclndepgbaaGreat
