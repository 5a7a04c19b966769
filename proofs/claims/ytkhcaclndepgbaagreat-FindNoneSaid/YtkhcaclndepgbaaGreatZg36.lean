/- Package find: items, any tree. · Lists of items in memory; layer 13's reference: Get, Items, Height; Same. -/
import Derived.Test.YtkhcaclndepgbaaGreatZg35
import Derived.BigGuardIn
import Derived.Test.YtkhcaclndepgbaaGreatZg25
import Derived.Deep.LoopGhost
import Derived.Deep.RegionHeld3
import Derived.BigRegion
set_option linter.unusedVariables false
set_option linter.unusedSimpArgs false
set_option maxRecDepth 100000
set_option maxHeartbeats 20000000
namespace Go.Proofs.YtkhcaclndepgbaaGreat
open Go.RowKit Go.Shelf
attribute [local go_sem] Oper.semAt_some
section
variable {M:Bm} {F:List Nat} {B:Bs} {L:Nat→(Nat × Nat) × Int} {N l:Nat} {J Jx:Nat→World→Prop} {W0:World} {Lw:List Nat} {Pv:World→Nat→Prop}
theorem told_leaf {lo hi f:Nat} {d:Nd} {i:Nat} (hl:d.leaf=true) (h1:¬ hi<d.k i) (h2:lo≤d.k i):kidG B lo hi f d i=[((d.k i,d.v i),0)]:=by
 unfold kidG;rw [if_neg h1,hl,if_pos rfl,if_pos h2]
theorem told_skip {lo hi f:Nat} {d:Nd} {i:Nat} (hl:d.leaf=true) (h1:¬ hi<d.k i) (h2:¬ lo≤d.k i):kidG B lo hi f d i=[]:=by
 unfold kidG;rw [if_neg h1,hl,if_pos rfl,if_neg h2]
theorem told_kid {lo hi f:Nat} {d:Nd} {i:Nat} (hl:d.leaf=false) (h1:¬ hi<d.k i) (h2:i+1=d.n∨lo<d.k (i+1)):kidG B lo hi f d i=itemsP B lo hi f (kidI (d.v i)):=by
 unfold kidG;rw [if_neg h1,hl,if_neg (by decide),if_pos h2]
theorem told_over {lo hi f:Nat} {d:Nd} {i:Nat} (hl:d.leaf=false) (h1:¬ hi<d.k i) (h2:¬ (i+1=d.n∨lo<d.k (i+1))):kidG B lo hi f d i=[]:=by
 unfold kidG;rw [if_neg h1,hl,if_neg (by decide),if_neg h2]
theorem told_end {lo hi f:Nat} {d:Nd} (hd:d.Ok) {i:Nat} (h1:hi<d.k i):∀ j,i≤j→j<d.n→kidG B lo hi f d j=[]:=fun j hj hn=>by
 unfold kidG
 rw [if_pos]
 by_cases e:i=j
 ·subst e;exact h1
 ·have:=asc_lt hd.asc (i:=i) (j:=j) (by omega) hn
  omega
def ItAt (l:Nat) (J Jx:Nat→World→Prop) (W0:World) (Lw:List Nat) (Pv:World→Nat→Prop) (M:Bm) (B:Bs) (L:Nat→(Nat × Nat) × Int) (N lo hi f:Nat):Prop:=∀ (y:Int) (k0:Nat) (W:World),W0.heap.size≤W.heap.size→J k0 W→f≤8→k0+(itemsP B lo hi f y).length≤N →
  (∀ i,i<(itemsP B lo hi f y).length→(itemsP B lo hi f y)[i]?=some (L (k0+i)))→Calls Tryz.prog 157 #[.pointer (some ⟨M.b,0,none⟩),.int .i64 y,.int .i64 ((8 - f:Nat):Int),.int .u64 (lo:Int),.int .u64 (hi:Int),.func (.yield l) #[] #[]] W (ItEnd W l Lw Pv J Jx (k0+(itemsP B lo hi f y).length) N)
theorem items_step (ok:B.Ok) (hY:Yld M F B L N l J Jx W0 Lw Pv) {lo hi:Nat} (hlo:lo<18446744073709551616) (hhi:hi<18446744073709551616) {f:Nat} (ih0:ItAt l J Jx W0 Lw Pv M B L N lo hi f) {y:Int} {k0:Nat} {W:World} {d:Nd} (hd:B.nodeI y=some d) (hW:W0.heap.size≤W.heap.size) (hJ:J k0 W) (hf:f+1≤8) (hk:k0+(itemsP B lo hi (f+1) y).length≤N)
  (hL:∀ i,i<(itemsP B lo hi (f+1) y).length→(itemsP B lo hi (f+1) y)[i]?=some (L (k0+i))) :
  Calls Tryz.prog 157 #[.pointer (some ⟨M.b,0,none⟩),.int .i64 y,.int .i64 ((8 - (f+1):Nat):Int),.int .u64 (lo:Int),.int .u64 (hi:Int),.func (.yield l) #[] #[]] W (ItEnd W l Lw Pv J Jx (k0+(itemsP B lo hi (f+1) y).length) N):=by
 have hd1:=(ok.node_ok hd).1
 have cn:=(hY.p _ _ hJ).cNode y
 rw [items_node hd] at hk hL ⊢
 obtain ⟨G,hG⟩:∃ G,G=kidG B lo hi f d:=⟨_,rfl⟩
 rw [← hG] at hk hL ⊢
 have IH:=Lib.hid ih0
 have HY:=Lib.hid hY
 have HJ:=Lib.hid (And.intro hJ hW)
 have CN:=Lib.hid cn
 have HL:=Lib.hid (And.intro hk hL)
 have HG:=Lib.hid hG
 have HD:=Lib.hid hd1
 have HNI:=Lib.hid hd
 have n7:=hd1.n
 obtain ⟨n,hn⟩:∃ n,n=d.n:=⟨_,rfl⟩
 rw [← hn] at HL n7 ⊢
 have HN:=Lib.hid hn
 have i0:¬ (((8 - (f+1):Nat):Int)=8):=by omega
 have i0b:((((7 - f:Nat):Int))==8)=false:=by simp;omega
 have i3:(((7 - f:Nat):Int)+1)=((8 - f:Nat):Int):=by omega
 obtain ⟨tot,htot⟩:∃ tot,tot=k0+(upTo G n).length:=⟨_,rfl⟩
 rw [← htot]
 have HT:=Lib.hid htot
 clear hY hJ cn hk hL hG hd1 hn hd htot ih0
 refine (callsIn_wide (n:=6)).1 ?_
 refine callsIn_of_wp Tryz.func157 rfl trivial ?_ rfl
 simp only [Tryz.ntmps157,List.size_toArray,List.length_cons,List.length_nil,Nat.reduceAdd,Nat.reduceSub,Array.replicate_succ,Array.replicate_zero,List.push_toArray,List.append_toArray,List.nil_append,List.cons_append]
 gi_wp2
 refine ⟨trivial,(callsIn_wide.2 CN.out).mono ?_⟩
 clear CN
 rintro e w1 (⟨d',kb,vb,hd,rfl,k1,k2,k3,r1,r2,c1⟩ | ⟨hd,rfl,c1⟩)
 case inr=>rw [HNI.out] at hd;cases hd
 rw [HNI.out] at hd
 injection hd with hd
 subst hd
 have hnb:=znb w1 (.cells #[.bool d.leaf,.slice (some ⟨kb,0,none⟩) d.n d.n,.slice (some ⟨vb,0,none⟩) d.n d.n] 107)
 have hcb:=(Chg.refl [] w1).alloc (.cells #[.bool d.leaf,.slice (some ⟨kb,0,none⟩) d.n d.n,.slice (some ⟨vb,0,none⟩) d.n d.n] 107)
 have hnd:=NodeEnd.box HD.out k1 k2 r1 r2 c1 hnb (hcb.mono (by simp))
 rw [← HN.out] at hnb hcb hnd ⊢
 have hbel:Below W0.heap.size W (w1.alloc (.cells #[.bool d.leaf,.slice (some ⟨kb,0,none⟩) n n,.slice (some ⟨vb,0,none⟩) n n] 107)):=by
  have c2:=c1.trans hcb
  exact ⟨c2.os,c2.tape,c2.output,c2.size,fun k hk=>c2.block k (Nat.lt_of_lt_of_le hk HJ.out.2) (by simp)⟩
 have HC1:=Lib.hid (c1.trans hcb)
 have HJ1:=Lib.hid (HY.out.j _ _ _ HJ.out.1 (Blv.of_chg hbel HC1.out (fun q hq=>HY.out.q1 _ _ q HJ.out.1 hq)))
 have HY1:Hid (Yfr Pv (l::Lw) W _):=Lib.hid ((Yfr.of HC1.out (fun q hq => .inl (HY.out.q2 _ _ _ q HJ.out.1 hbel hq))).mono (by simp))
 have HPB:=Lib.hid (fun q hq=>HY.out.q1 _ _ q HJ.out.1 (HY.out.q2 _ _ _ q HJ.out.1 hbel hq))
 have HND:=Lib.hid hnd
 obtain ⟨y0,y1,y2⟩:=hnd.c
 rw [← HN.out] at y1 y2
 clear hnb hcb hnd hbel r1 r2 k1 k2 k3 c1
 gi_wp2
 generalize w1.alloc (.cells #[.bool d.leaf,.slice (some ⟨kb,0,none⟩) n n,.slice (some ⟨vb,0,none⟩) n n] 107)=W1 at *
 obtain ⟨xb,hxb⟩:∃ xb,xb=w1.heap.size:=⟨_,rfl⟩
 rw [← hxb] at HND y0 y1 y2 ⊢
 clear hxb
 gi_loopw [47] (fun s wr=>∃ i:Nat,s = .int .i64 (i:Int)∧i≤n∧Hid (J (k0+(upTo G i).length) wr∧Yfr Pv (l::Lw) W1 wr)) (fun s _=>n - (intOf s).toNat)
 case atStart=>exact ⟨0,rfl,Nat.zero_le _,Lib.hid ⟨HJ1.out,Yfr.refl _ _ _⟩⟩
 case round =>
  obtain ⟨i,rfl,hi',HX⟩:=hrel
  obtain ⟨Lx,cx,hLx⟩:=HX.out.2.c
  have hnd2:=HND.out.chg cx (fun q hq => .inl (by
   rcases hLx q hq with h | h
   ·exact Nat.lt_of_lt_of_le (HY.out.below h) HJ.out.2
   ·exact HPB.out q h))
  have HPX:Hid (¬ Pv wr xb):=Lib.hid fun h=>by
   rcases HX.out.2.p _ h with h | h
   ·have h1:=HPB.out _ h;have h2:=HND.out.far.1;omega
   ·have h1:=zhl HND.out.top;omega
  clear cx hLx
  obtain ⟨z0,z1,z2⟩:=hnd2.c
  rw [← HN.out] at z1 z2
  have HN2:=Lib.hid hnd2
  clear hnd2
  by_cases hin:i<n
  ·have hkc:=HN2.out.k.cell (i:=i) (by rw [← HN.out];exact hin)
   have i1:(i:Int)<(n:Int):=by omega
   have hcle:=upTo_le (g:=G) (i:=i+1) (n:=n) (by omega)
   rw [upTo_succ,List.length_append] at hcle
   by_cases hki:hi<d.k i
   ·have hrest:(upTo G n).length=(upTo G i).length:=by rw [HG.out];exact upTo_rest hi' (by rw [HN.out];exact told_end HD.out hki)
    have i2:(hi:Int)<(d.k i:Int):=by omega
    have HZ:Hid (J tot wr):=Lib.hid (by rw [HT.out,hrest];exact HX.out.1)
    clear hki hrest hcle
    gi_wp2_with (first | (refine wpListIn_no (o:=⟨_,_,_,_,_,some _⟩) ?hno ?kno;case hno=>rfl) | with_reducible refine And.intro (wide_fn _) ?_ | with_reducible refine And.intro wide_none ?_)
    go_ret
    exact ⟨HY1.out.trans HX.out.2,.inl ⟨rfl,HZ.out⟩⟩
   ·have i2:¬ (hi:Int)<(d.k i:Int):=by omega
    have hvc:=HN2.out.v.cell (i:=i) (by rw [← HN.out];exact hin)
    have HKI:=Lib.hid hki
    have HCL:=Lib.hid hcle
    clear hki hcle
    cases hl:d.leaf with
    | true =>
     rw [hl] at z0
     by_cases hlk:lo≤d.k i
     ·have hg:G i=[((d.k i,d.v i),0)]:=by rw [HG.out];exact told_leaf hl HKI.out hlk
      have i4:(lo:Int)≤(d.k i:Int):=by omega
      have hcl:=HCL.out
      rw [hg] at hcl
      simp only [List.length_cons,List.length_nil] at hcl
      have hlx:=HL.out.2 (upTo G i).length (by omega)
      have hux:=upTo_get (g:=G) (i:=i) (n:=n) hin (j:=0) (by rw [hg];simp)
      rw [Nat.add_zero,hg,hlx] at hux
      simp only [List.getElem?_cons_zero,Option.some.injEq] at hux
      have hy:=HY.out.y _ wr HX.out.1 (by have:=HL.out.1;omega)
      rw [hux] at hy
      change YieldAt Fence.wide 5 Tryz.prog l #[.agg #[.int .u64 (d.k i:Int),.int .u64 (d.v i:Int),.int .i64 0]] wr _ at hy
      have HS:Hid ((upTo G (i+1)).length=(upTo G i).length+1):=Lib.hid (by rw [upTo_succ,hg,List.length_append];rfl)
      obtain ⟨fn,tmps,assign,body,hrun,hR⟩:=hy
      clear hux hlx hcl hg
      gi_wp2_with (first | (refine wpListIn_no (o:=⟨_,_,_,_,_,some _⟩) ?hno ?kno;case hno=>rfl) | with_reducible refine And.intro (wide_fn _) ?_ | with_reducible refine And.intro wide_none ?_)
      refine hR.mono ?_
      rintro e W' (⟨rfl,hj,hc⟩ | ⟨rfl,hj,hc⟩)
      ·have HZ:=Lib.hid (And.intro hj (HX.out.2.trans hc))
       obtain ⟨Lh,ch,hLh⟩:=hc.c
       have z0':=(ch.cell (p:=⟨xb,0,none⟩) (World.block_lt_of_cell? _ _ z0) (fun hm=>by
        rcases hLh _ hm with hm | hm
        ·have h1:=HY.out.below hm;have h2:=HN2.out.far.1;have h3:=HJ.out.2;change xb<W0.heap.size at h1;omega
        ·exact HPX.out hm)).trans z0
       clear ch hLh
       clear hj hc hrun hR
       gi_wp2_with (first | with_reducible refine And.intro (wide_fn _) ?_ | with_reducible refine And.intro wide_none ?_)
       go_roundw
       case rel =>
        first
         | exact ⟨i+1,by go_num,by omega,Lib.hid ⟨by rw [HS.out];exact HZ.out.1,HZ.out.2⟩⟩
         | exact ⟨_,_,_,.int .i64 ((i+1:Nat):Int),⟨i+1,rfl,by omega,Lib.hid ⟨by rw [HS.out];exact HZ.out.1,HZ.out.2⟩⟩,rfl,rfl,rfl,by go_num⟩
       case measure=>first | (simp [intOf];omega) | omega
      ·have HZ:=Lib.hid (And.intro hj (HX.out.2.trans hc))
       clear hj hc hrun hR
       gi_wp2_with (first | with_reducible refine And.intro (wide_fn _) ?_ | with_reducible refine And.intro wide_none ?_)
       go_ret
       exact ⟨HY1.out.trans HZ.out.2,.inr ⟨rfl,_,by have h1:=HL.out.1;have h2:=HCL.out;have h3:=HS.out;rw [upTo_succ,List.length_append] at h3;omega,HZ.out.1⟩⟩
     ·have hg:G i=[]:=by rw [HG.out];exact told_skip hl HKI.out hlk
      have i4:¬ (lo:Int)≤(d.k i:Int):=by omega
      have HS:Hid ((upTo G (i+1)).length=(upTo G i).length):=Lib.hid (by rw [upTo_succ,hg,List.append_nil])
      clear hg hlk
      gi_wp2_with (first | (refine wpListIn_no (o:=⟨_,_,_,_,_,some _⟩) ?hno ?kno;case hno=>rfl) | with_reducible refine And.intro (wide_fn _) ?_ | with_reducible refine And.intro wide_none ?_)
      go_roundw
      case rel =>
       first
        | exact ⟨i+1,by go_num,by omega,Lib.hid ⟨by rw [HS.out];exact HX.out.1,HX.out.2⟩⟩
        | exact ⟨_,_,_,.int .i64 ((i+1:Nat):Int),⟨i+1,rfl,by omega,Lib.hid ⟨by rw [HS.out];exact HX.out.1,HX.out.2⟩⟩,rfl,rfl,rfl,by go_num⟩
      case measure=>first | (simp [intOf];omega) | omega
    | false =>
     rw [hl] at z0
     have hkn:∀ j,j<n→d.v j<4096:=fun j hj=>((kidsB_iff _ _).1 (HD.out.kids hl)).2.1 j (by rw [← HN.out];exact hj) |>.2
     have hv5:=hkn i hin
     have ck:=kid_at (d.v i) (by omega) wr
     by_cases hin2:i+1=n∨lo<d.k (i+1)
     ·have hg:G i=itemsP B lo hi f (kidI (d.v i)):=by rw [HG.out];exact told_kid hl HKI.out (by rw [← HN.out];exact hin2)
      have hcl:=HCL.out
      rw [hg] at hcl
      have ih:=IH.out (kidI (d.v i)) (k0+(upTo G i).length) wr (Nat.le_trans HJ.out.2 (by have h1:=HC1.out.size;have h2:=HX.out.2.size;omega)) HX.out.1 (by omega) (by have:=HL.out.1;omega) (fun j hj=>by
       have h1:=HL.out.2 ((upTo G i).length+j) (by omega)
       have h2:=upTo_get (g:=G) (i:=i) (n:=n) hin (j:=j) (by rw [hg];exact hj)
       rw [hg] at h2
       rw [← h2,h1,Nat.add_assoc])
      have HS:Hid ((upTo G (i+1)).length=(upTo G i).length+(itemsP B lo hi f (kidI (d.v i))).length):=Lib.hid (by rw [upTo_succ,hg,List.length_append])
      have IHH:=Lib.hid ih
      have CK:=Lib.hid ck
      have hcase:(i:Int)+1=(n:Int)∨(¬ ((i:Int)+1=(n:Int))∧(i:Int)+1<(n:Int)∧(lo:Int)<(d.k (i+1):Int)∧wr.cell? ⟨kb,i+1,none⟩=some (.int .u64 (d.k (i+1):Int))):=by
       by_cases q:i+1=n
       ·exact .inl (by omega)
       ·exact .inr ⟨by omega,by omega,by rcases hin2 with h | h <;> omega,HN2.out.k.cell (i:=i+1) (by have:=HN.out;omega)⟩
      have HNN:=Lib.hid (show k0+(upTo G i).length≤N from by have:=HL.out.1;omega)
      clear hg hcl ih ck hkn hin2
      rcases hcase with i4 | ⟨i4,i5,i6,hk2⟩
      all_goals
       gi_wp2_with (first | (refine wpListIn_no (o:=⟨_,_,_,_,_,some _⟩) ?hno ?kno;case hno=>rfl) | with_reducible refine And.intro wide_none ?_)
       refine ⟨trivial,(callsIn_wide.2 CK.out).mono ?_⟩
       rintro e w' ⟨rfl,rfl⟩
       gi_wp2_with (first | (refine wpListIn_no (o:=⟨_,_,_,_,_,some _⟩) ?hno ?kno;case hno=>rfl) | with_reducible refine And.intro wide_none ?_)
       refine ⟨trivial,(callsIn_wide.2 IHH.out).mono ?_⟩
       rintro e W' ⟨hc,⟨rfl,hj⟩ | ⟨rfl,k,hkN,hjx⟩⟩
       ·have HZ:=Lib.hid (And.intro hj (HX.out.2.trans hc))
        clear hc hj
        gi_wp2_with (first | (refine wpListIn_no (o:=⟨_,_,_,_,_,some _⟩) ?hno ?kno;case hno=>rfl) | with_reducible refine And.intro wide_none ?_)
        go_roundw
        case rel =>
         first
          | exact ⟨i+1,by go_num,by omega,Lib.hid ⟨by rw [HS.out,← Nat.add_assoc];exact HZ.out.1,HZ.out.2⟩⟩
          | exact ⟨_,_,_,.int .i64 ((i+1:Nat):Int),⟨i+1,rfl,by omega,Lib.hid ⟨by rw [HS.out,← Nat.add_assoc];exact HZ.out.1,HZ.out.2⟩⟩,rfl,rfl,rfl,by go_num⟩
        case measure=>first | (simp [intOf];omega) | omega
       ·have HZ:=Lib.hid (And.intro hjx (HX.out.2.trans hc))
        clear hc hjx
        gi_wp2_with (first | (refine wpListIn_no (o:=⟨_,_,_,_,_,some _⟩) ?hno ?kno;case hno=>rfl) | with_reducible refine And.intro wide_none ?_)
        go_ret
        exact ⟨HY1.out.trans HZ.out.2,.inr ⟨rfl,k,hkN,HZ.out.1⟩⟩
     ·have hg:G i=[]:=by rw [HG.out];exact told_over hl HKI.out (by rw [← HN.out];exact hin2)
      have hlt:i+1<n:=by omega
      have i4:¬ ((i:Int)+1=(n:Int)):=by omega
      have hk2:=HN2.out.k.cell (i:=i+1) (by rw [← HN.out];exact hlt)
      have i5:¬ ((lo:Int)<(d.k (i+1):Int)):=by omega
      have i6:(i:Int)+1<(n:Int):=by omega
      have HS:Hid ((upTo G (i+1)).length=(upTo G i).length):=Lib.hid (by rw [upTo_succ,hg,List.append_nil])
      clear hg hin2 hkn ck
      gi_wp2_with (first | (refine wpListIn_no (o:=⟨_,_,_,_,_,some _⟩) ?hno ?kno;case hno=>rfl) | with_reducible refine And.intro (wide_fn _) ?_ | with_reducible refine And.intro wide_none ?_)
      go_roundw
      case rel =>
       first
        | exact ⟨i+1,by go_num,by omega,Lib.hid ⟨by rw [HS.out];exact HX.out.1,HX.out.2⟩⟩
        | exact ⟨_,_,_,.int .i64 ((i+1:Nat):Int),⟨i+1,rfl,by omega,Lib.hid ⟨by rw [HS.out];exact HX.out.1,HX.out.2⟩⟩,rfl,rfl,rfl,by go_num⟩
      case measure=>first | (simp [intOf];omega) | omega
  ·obtain rfl:i=n:=by omega
   have HZ:Hid (J tot wr):=Lib.hid (by rw [HT.out];exact HX.out.1)
   gi_wp2_with (first | (refine wpListIn_no (o:=⟨_,_,_,_,_,some _⟩) ?hno ?kno;case hno=>rfl) | with_reducible refine And.intro (wide_fn _) ?_ | with_reducible refine And.intro wide_none ?_)
   go_ret
   exact ⟨HY1.out.trans HX.out.2,.inl ⟨rfl,HZ.out⟩⟩
theorem items_at (ok:B.Ok) (hY:Yld M F B L N l J Jx W0 Lw Pv) {lo hi:Nat} (hlo:lo<18446744073709551616) (hhi:hi<18446744073709551616):∀ f:Nat,ItAt l J Jx W0 Lw Pv M B L N lo hi f
 | 0=>fun y k0 W hW hJ hf hk hL=>items_err ok hY hW hJ hf (.inr rfl) hk hL
 | f+1=>fun y k0 W hW hJ hf hk hL=>by
  cases hd:B.nodeI y with
  | none=>exact items_err ok hY hW hJ hf (.inl hd) hk hL
  | some d=>exact items_step ok hY hlo hhi (items_at ok hY hlo hhi f) hd hW hJ hf hk hL
end
end Go.Proofs.YtkhcaclndepgbaaGreat
namespace Go.Proofs.YtkhcaclndepgbaaGreat
open Go.RowKit
def itVs (l:List (Nat × Nat)):List Value:=l.flatMap fun p=>[.int .u64 (p.1:Int),.int .u64 (p.2:Int)]
theorem itVs_len:∀ l:List (Nat × Nat),(itVs l).length=l.length*2
 | []=>rfl
 | p::r=>by
  have:=itVs_len r
  show ([Value.int .u64 (p.1:Int),.int .u64 (p.2:Int)]++itVs r).length=_
  rw [List.length_append,this,List.length_cons]
  simp;omega
theorem itVs_app (l m:List (Nat × Nat)):itVs (l++m)=itVs l++itVs m:=List.flatMap_append
theorem itVs_cons (p:Nat × Nat) (r:List (Nat × Nat)):itVs (p::r) = .int .u64 (p.1:Int) :: .int .u64 (p.2:Int)::itVs r:=rfl
theorem itVs_get:∀ (l:List (Nat × Nat)) (i:Nat),i<l.length→(itVs l)[i*2]?=some (.int .u64 ((l.getD i (0,0)).1:Int))∧(itVs l)[i*2+1]?=some (.int .u64 ((l.getD i (0,0)).2:Int))
 | [],i,h=>by simp at h
 | p::r,0,_=>by rw [itVs_cons];exact ⟨rfl,rfl⟩
 | p::r,i+1,h=>by
  have:=itVs_get r i (by simpa using h)
  rw [itVs_cons,show (i+1)*2=i*2+1+1 by omega,show i*2+1+1+1=(i*2+1)+1+1 by omega,List.getElem?_cons_succ,List.getElem?_cons_succ,List.getElem?_cons_succ,List.getElem?_cons_succ,List.getD_cons_succ]
  exact this
theorem itVs_one {l:List (Nat × Nat)} : ∀ u,u∈itVs l→u.oneCell'=true:=by
 intro u hu
 unfold itVs at hu
 obtain ⟨p,_,hp⟩:=List.mem_flatMap.1 hu
 simp only [List.mem_cons,List.not_mem_nil,or_false] at hp
 rcases hp with rfl | rfl <;> rfl
def It64 (l:List (Nat × Nat)):Prop:=∀ p,p∈l→p.1<18446744073709551616∧p.2<18446744073709551616
theorem It64.getD {l:List (Nat × Nat)} (h:It64 l) (i:Nat):(l.getD i (0,0)).1<18446744073709551616∧(l.getD i (0,0)).2<18446744073709551616:=by
 by_cases hi:i<l.length
 ·rw [List.getD_eq_getElem?_getD,List.getElem?_eq_getElem hi]
  exact h _ (List.getElem_mem hi)
 ·rw [List.getD_eq_getElem?_getD,List.getElem?_eq_none (by omega)]
  exact ⟨by decide,by decide⟩
structure ItemsIn (A:List Nat) (w:World) (v:Value) (l:List (Nat × Nat)):Prop where
 e:∃ a c,v = .slice a l.length c∧l.length≤c∧c≤maxLen∧(0<l.length→∃ b o,a=some ⟨b,o,none⟩∧b<w.heap.size∧b∉A∧∀ j,j<l.length*2→w.cell? ⟨b,o+j,none⟩=(itVs l)[j]?)
 u:It64 l
section
variable {A:List Nat} {w w':World} {v:Value} {l:List (Nat × Nat)}
theorem ItemsIn.chg {L:List Nat} (h:ItemsIn A w v l) (c:Chg L w w') (hL:∀ k,k∈L→k∈A∨w.heap.size≤k):ItemsIn A w' v l:=by
 obtain ⟨⟨a,cp,rfl,h1,h2,h3⟩,hu⟩:=h
 refine ⟨⟨a,cp,rfl,h1,h2,fun h0=>?_⟩,hu⟩
 obtain ⟨b,o,rfl,hb,hA,hc⟩:=h3 h0
 refine ⟨b,o,rfl,Nat.lt_of_lt_of_le hb c.size,hA,fun j hj=>(c.cell (p:=⟨b,o+j,none⟩) hb (fun hm=>?_)).trans (hc j hj)⟩
 rcases hL _ hm with q | q
 ·exact hA q
 ·have:b<w.heap.size:=hb
  change w.heap.size≤b at q
  omega
theorem ItemsIn.more {A':List Nat} (h:ItemsIn A w v l) (hL:∀ k,k∈A'→k∈A∨w.heap.size≤k):ItemsIn A' w v l:=by
 obtain ⟨⟨a,cp,rfl,h1,h2,h3⟩,hu⟩:=h
 refine ⟨⟨a,cp,rfl,h1,h2,fun h0=>?_⟩,hu⟩
 obtain ⟨b,o,rfl,hb,hA,hc⟩:=h3 h0
 refine ⟨b,o,rfl,hb,fun hm=>?_,hc⟩
 rcases hL _ hm with q | q
 ·exact hA q
 ·omega
theorem ItemsIn.len (h:ItemsIn A w v l):∃ a c,v = .slice a l.length c∧l.length≤c∧c≤9223372036854775807:=by
 obtain ⟨⟨a,cp,rfl,h1,h2,h3⟩,hu⟩:=h
 exact ⟨a,cp,rfl,h1,by unfold maxLen at h2;omega⟩
theorem ItemsIn.get {a:Option Addr} {n c:Nat} (h:ItemsIn A w (.slice a n c) l) {i:Nat} (hi:i<l.length):∃ b o,a=some ⟨b,o,none⟩∧b<w.heap.size∧b∉A∧w.cell? ⟨b,o+i*2,none⟩=some (.int .u64 ((l.getD i (0,0)).1:Int))∧w.cell? ⟨b,o+i*2+1,none⟩=some (.int .u64 ((l.getD i (0,0)).2:Int)):=by
 obtain ⟨⟨a,cp,e,h1,h2,h3⟩,hu⟩:=h
 injection e with e1 e2 e3
 subst e1
 obtain ⟨b,o,rfl,hb,hA,hc⟩:=h3 (by omega)
 have:=itVs_get l i hi
 refine ⟨b,o,rfl,hb,hA,?_,?_⟩
 ·rw [hc _ (by omega)];exact this.1
 ·rw [Nat.add_assoc,hc _ (by omega)];exact this.2
theorem ItemsIn.of_own {base:Nat} (h:w.ownsRow base 104 2 v l.length (itVs l)) (hu:It64 l) (hA:∀ g,v.ownBlock=some g→g∉A):ItemsIn A w v l:=by
 refine ⟨?_,hu⟩
 by_cases h0:0<l.length
 ·obtain ⟨g,c,rfl,h1,h2,h3,h4,h5⟩:=zol h h0
  exact ⟨_,c,rfl,h1,h2,fun _=>⟨g,0,rfl,h4,hA g rfl,fun j hj=>by rw [Nat.zero_add];exact h5 j hj⟩⟩
 ·obtain ⟨a,c,rfl,h1,h2⟩:=zos h
  exact ⟨a,c,rfl,h1,h2,fun q=>absurd q h0⟩
theorem ItemsIn.src (h:ItemsIn A w v l) (h0:0<l.length):AppSrc w 2 v l.length (itVs l):=by
 obtain ⟨⟨a,cp,rfl,h1,h2,h3⟩,hu⟩:=h
 obtain ⟨b,o,rfl,hb,hA,hc⟩:=h3 h0
 refine ⟨itVs_len l,itVs_one,.inl ⟨b,o,cp,rfl,hb,fun j u hu=>?_⟩⟩
 rw [hc j (by have:=(List.getElem?_eq_some_iff.1 hu).1;rw [itVs_len] at this;exact this),hu]
end
theorem infoItem:(Tryz.prog.info? 104).map (fun i=>(i.zero,i.size,i.bytes))=some (some (.agg #[.int .u64 0,.int .u64 0]),2,16):=by kernel_rfl
def lookP (l:List (Nat × Nat)) (key:Nat):Nat × Bool:=match l.find? (fun p=>p.1==key) with
 | some p=>(p.2,true)
 | none=>(0,false)
theorem look_take {l:List (Nat × Nat)} {key i:Nat} (hi:i<l.length) (h:∀ j,j<i→(l.getD j (0,0)).1≠key) (he:(l.getD i (0,0)).1=key):lookP l key=((l.getD i (0,0)).2,true):=by
 have e:l.find? (fun p=>p.1==key)=some (l.getD i (0,0)):=by
  rw [List.getD_eq_getElem?_getD,List.getElem?_eq_getElem hi] at he ⊢
  rw [List.find?_eq_some_iff_getElem]
  refine ⟨by simpa using he,i,hi,rfl,fun j hj=>?_⟩
  have:=h j hj
  rw [List.getD_eq_getElem?_getD,List.getElem?_eq_getElem (by omega)] at this
  simpa using this
 unfold lookP
 rw [e]
theorem look_none {l:List (Nat × Nat)} {key:Nat} (h:∀ j,j<l.length→(l.getD j (0,0)).1≠key):lookP l key=(0,false):=by
 have e:l.find? (fun p=>p.1==key)=none:=by
  rw [List.find?_eq_none]
  intro p hp
  obtain ⟨j,hj,rfl⟩:=List.mem_iff_getElem.1 hp
  have:=h j hj
  rw [List.getD_eq_getElem?_getD,List.getElem?_eq_getElem hj] at this
  simpa using this
 unfold lookP
 rw [e]
def highN:Nat→Nat→Nat
 | 0,_=>0
 | f+1,n=>if 7<n then highN f ((n+6) / 7)+1 else 1
def highR (n:Nat):Nat:=if n=0 then 0 else highN 10 n
end Go.Proofs.YtkhcaclndepgbaaGreat
