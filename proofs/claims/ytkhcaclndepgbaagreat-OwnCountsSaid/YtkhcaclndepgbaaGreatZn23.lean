/- Package find: kid, Get, Height. -/
import Derived.Test.YtkhcaclndepgbaaGreatZn22
set_option linter.unusedVariables false
set_option linter.unusedSimpArgs false
set_option maxRecDepth 100000
set_option maxHeartbeats 20000000
namespace Go.Proofs.YtkhcaclndepgbaaGreat
open Go.RowKit
theorem kid_at (v:Nat) (hv:v<18446744073709551616) (w:World):Calls Tryz.prog 113 #[.int .u64 (v:Int)] w fun e w'=>e = .returned (.int .i64 (kidI v))/\w=w':=by
 unfold kidI;by_cases h:v<=2147483647
 ·have e1:min (v:Int) 2147483647=(v:Int):=by omega
  have e2:IntKind.i64.wrap (v:Int)=(v:Int):=IntWalk.i64_in _ (by omega);go_enter Tryz.func113,Tryz.ntmps113;go_wp2_with fail;go_ret;exact ⟨by rw [Nat.min_eq_left h];rfl,rfl⟩
 ·have e1:min (v:Int) 2147483647=2147483647:=by omega
  go_enter Tryz.func113,Tryz.ntmps113;go_wp2_with fail;go_ret;exact ⟨by rw [Nat.min_eq_right (by omega)];rfl,rfl⟩
structure NdIn (w:World) (base x kb vb:Nat) (d:Nd):Prop where
 ok:d.Ok
 top:w.heap[x]?=some (.cells #[.bool d.leaf,.slice (some ⟨kb,0,none⟩) d.n d.n,.slice (some ⟨vb,0,none⟩) d.n d.n] 107 (0,0))
 k:Row64 w kb d.n d.k
 v:Row64 w vb d.n d.v
 far:base<=x/\base<=kb/\base<=vb
theorem NdIn.chg {w w':World} {base x kb vb:Nat} {d:Nd} {L:List Nat} (h:NdIn w base x kb vb d) (c:Chg L w w') (hL:∀ q,q∈L->q<base∨w.heap.size<=q):NdIn w' base x kb vb d:=by
 have a1:=zhl h.top;have a2:=h.k.lt;have a3:=h.v.lt;have n1:x∉L:=fun hm=>by have:=hL _ hm;have:=h.far;omega
 have n2:kb∉L:=fun hm=>by have:=hL _ hm;have:=h.far;omega
 have n3:vb∉L:=fun hm=>by have:=hL _ hm;have:=h.far;omega
 exact ⟨h.ok,(c.block _ a1 n1).trans h.top,h.k.chg c n2,h.v.chg c n3,h.far⟩
theorem NdIn.ki {w:World} {base x kb vb:Nat} {d:Nd} (h:NdIn w base x kb vb d):NumsIn [] w (.slice (some ⟨kb,0,none⟩) d.n d.n) d.n d.k:=h.k.numsIn (by have:=h.ok.n;omega) (by simp) h.ok.k
theorem NdIn.vi {w:World} {base x kb vb:Nat} {d:Nd} (h:NdIn w base x kb vb d):NumsIn [] w (.slice (some ⟨vb,0,none⟩) d.n d.n) d.n d.v:=h.v.numsIn (by have:=h.ok.n;omega) (by simp) h.ok.v
theorem NdIn.c {w:World} {base x kb vb:Nat} {d:Nd} (h:NdIn w base x kb vb d):w.cell? ⟨x,0,none⟩=some (.bool d.leaf)/\w.cell? ⟨x,1,none⟩=some (.slice (some ⟨kb,0,none⟩) d.n d.n)/\w.cell? ⟨x,2,none⟩=some (.slice (some ⟨vb,0,none⟩) d.n d.n):=⟨(zcb h.top 0).trans rfl,(zcb h.top 1).trans rfl,(zcb h.top 2).trans rfl⟩
theorem NodeEnd.box {w w1 w2:World} {d:Nd} {kb vb:Nat} (hd:d.Ok) (k1:w.heap.size<=kb) (k2:w.heap.size<=vb) (r1:Row64 w1 kb d.n d.k) (r2:Row64 w1 vb d.n d.v) (c:Chg [] w w1)
  (hx:w2.heap[w1.heap.size]?=some (.cells #[.bool d.leaf,.slice (some ⟨kb,0,none⟩) d.n d.n,.slice (some ⟨vb,0,none⟩) d.n d.n] 107 (0,0))) (c2:Chg [w1.heap.size] w1 w2):NdIn w2 w.heap.size w1.heap.size kb vb d :=
 ⟨hd,hx,r1.chg c2 (by have:=r1.lt;simp only [zms];omega),r2.chg c2 (by have:=r2.lt;simp only [zms];omega),c.size,k1,k2⟩
def hgt (l:Nat) (r:Nat × Int):Nat × Int:=if r.2=0 then (l+r.1,0) else (0,r.2)
theorem height_err {B:Bs} : ∀ (f:Nat) (x:Int),(heightP B f x).2≠0->(heightP B f x).1=0
 | 0,x,h=>by
  unfold heightP at h ⊢
  split
  ·rfl
  ·cases hd:B.nodeI x <;> simp
 | f+1,x,h=>by
  unfold heightP at h ⊢
  split
  ·rfl
  ·rename_i hx
   rw [if_neg hx] at h
   cases hd:B.nodeI x with
   | none=>rfl
   | some d =>
    rw [hd] at h;simp only at h ⊢
    cases hl:d.leaf with
    | true=>rw [hl] at h;simp at h
    | false =>
     rw [hl] at h;simp only [Bool.false_eq_true,if_false] at h ⊢
     split
     ·rename_i q;rw [if_pos q] at h;exact absurd rfl h
     ·rfl
theorem hgt_zero {B:Bs} (f:Nat) (x:Int):hgt 0 (heightP B f x)=heightP B f x:=by
 unfold hgt
 split
 ·rename_i h
  exact Prod.ext (by simp) h.symm
 ·rename_i h
  exact Prod.ext (height_err f x h).symm rfl
theorem fHeight_at {w:World} {M:Bm} {F:List Nat} {B:Bs} (h:BaseAt w M F B) (x:Int) (hx:(Lit.int .i64 x).wf=true) :
  Calls Tryz.prog 56 #[.pointer (some ⟨M.b,0,none⟩),.int .i64 x] w fun e w'=>e = .returned (.tuple #[.int .i64 ((heightP B 8 x).1:Int),.int .i64 (heightP B 8 x).2])/\Chg [] w w':=by
 have cb:=h.cBlocks;have hN:16<=B.T.n/\B.T.n<=4096:=by obtain ⟨R,hi,_⟩:=h;exact hi.c.ok.n
 have ok:B.Ok:=by obtain ⟨R,hi,_⟩:=h;exact hi.c.ok
 have i0:¬ B.T.n=0:=by omega
 have HB:=zh h;obtain ⟨r,hr⟩:∃ r,r=heightP B 8 x:=⟨_,rfl⟩;rw [<- hr];have HR:=zh hr;have HOK:=zh ok;clear h hr ok hN;go_enter Tryz.func56,Tryz.ntmps56;go_wp2_with fail;refine (cb).mono ?_;rintro e w' ⟨rfl,rfl⟩;clear cb;go_wp2_with fail;have hz:((B.T.n:Int)==0)=false:=by rw [beq_eq_false_iff_ne];omega
 rw [hz];go_loopg [6,7] 10 (fun gg s l wr=>∃ (y:Int) (f:Nat),gg=f+2/\f<=8/\s = .int .i64 y/\l = .int .i64 ((8 - f:Nat):Int)/\Hid (hgt (8 - f) (heightP B f y)=r/\Chg [] w wr))
 case atStart=>exact ⟨x,8,rfl,by omega,rfl,rfl,zh ⟨by rw [HR.out];exact hgt_zero 8 x,Chg.refl _ _⟩⟩
 case round =>
  obtain ⟨y,f,rfl,hf,rfl,rfl,H⟩:=hrel;by_cases hy:y=0
  ·subst hy
   have hr:r=(8 - f,0):=by
    rw [<- H.out.1];cases f <;> (unfold heightP hgt;rw [if_pos rfl];simp)
   subst hr;go_wp2_with fail
   go_ret2
   exact ⟨rfl,H.out.2⟩
  ·have i1:(y==0)=false:=by simpa using hy
   have cn:=(HB.out.chg H.out.2 (by simp)).cNode y;go_wp2_with fail;refine cn.mono ?_;clear cn;rintro e w1 (⟨d,kb,vb,hd,rfl,k1,k2,k3,r1,r2,hc1⟩ | ⟨hd,rfl,hc1⟩)
   ·have hd1:=(HOK.out.node_ok hd).1
    have hnb:=znb w1 (.cells #[.bool d.leaf,.slice (some ⟨kb,0,none⟩) d.n d.n,.slice (some ⟨vb,0,none⟩) d.n d.n] 107);have hcb:=(Chg.refl [] w1).alloc (.cells #[.bool d.leaf,.slice (some ⟨kb,0,none⟩) d.n d.n,.slice (some ⟨vb,0,none⟩) d.n d.n] 107);have hnd:=NodeEnd.box hd1 k1 k2 r1 r2 hc1 hnb (hcb.mono (by simp));have HC:=zh ((H.out.2.trans hc1).trans hcb)
    cases f with
    | zero =>
     have hr:r=(0,130):=by
      rw [<- H.out.1];unfold heightP;rw [if_neg hy,hd];rfl
     subst hr;clear hnd hnb hcb hc1 r1 r2 hd k1 k2 k3;go_wp2_with fail
     go_ret2
     exact ⟨rfl,HC.out⟩
    | succ f =>
     have i2:¬ (((8 - (f+1):Nat):Int)=8):=by omega
     have i3:(((7 - f:Nat):Int)+1)=((8 - f:Nat):Int):=by omega
     have cr:=ndRight_at hnd.ki hnd.vi (leaf:=d.leaf);rw [hd1.rightN] at cr;have HND:=zh hnd;have hxs:=zhl hnb;obtain ⟨y0,y1,y2⟩:=hnd.c;have CR:=zh cr;have HD:=zh hd;clear cr hnd hnb hcb hc1 r1 r2 hd k1 k2 k3;go_upto_region 6 with fail;generalize w1.alloc (.cells #[.bool d.leaf,.slice (some ⟨kb,0,none⟩) d.n d.n,.slice (some ⟨vb,0,none⟩) d.n d.n] 107)=W at *;obtain ⟨xb,hxb⟩:∃ xb,xb=w1.heap.size:=⟨_,rfl⟩;rw [<- hxb] at HND hxs y0 y1 y2 ⊢;clear hxb;go_wp2_with fail;refine CR.out.mono ?_;clear CR;rintro e w2 ⟨rfl,hc2⟩;have HND2:=zh (HND.out.chg hc2 (by simp));have HC2:=zh (HC.out.trans hc2);obtain ⟨z0,z1,z2⟩:=HND2.out.c;have hr:=H.out.1;rw [heightP,if_neg hy,HD.out] at hr;clear y0 y1 y2 hc2 HND HC hxs
     cases hl:d.leaf with
     | true =>
      rw [hl] at z0;simp only [hl,if_true] at hr
      have hr2:r=(8 - f,0):=by
       rw [<- hr];unfold hgt;rw [if_pos rfl];exact Prod.ext (by show 8 - (f+1)+1=8 - f;omega) rfl
      subst hr2;clear hr;go_wp2_with fail
      go_ret2
      exact ⟨rfl,HC2.out⟩
     | false =>
      rw [hl] at z0;simp only [hl,Bool.false_eq_true,if_false] at hr
      have hn0:0<d.n:=by
       have:=(kidsB_iff _ _).1 (hd1.kids hl);omega
      have hv:=HND2.out.v.cell hn0;have n7:=hd1.n;have hvl:=hd1.v _ hn0;obtain ⟨u,hu⟩:∃ u,u=d.v 0:=⟨_,rfl⟩;rw [<- hu] at hv hr hvl;obtain ⟨n,hn⟩:∃ n,n=d.n:=⟨_,rfl⟩;rw [<- hn] at z1 z2 hn0 n7
      have hr2:hgt (8 - f) (heightP B f (kidI u))=r:=by
       rw [<- hr];unfold hgt;by_cases q:(heightP B f (kidI u)).2=0
       ·rw [if_pos q,if_pos q,if_pos rfl]
        exact Prod.ext (by show 8 - f+_=8 - (f+1)+(_+1);omega) rfl
       ·rw [if_neg q,if_neg q,if_neg q]
      have j1:(0:Int)<(n:Int):=by omega
      have ck:=kid_at u hvl w2;have HR2:=zh hr2;clear hu hn hr hr2;go_wp2_with fail;refine ck.mono ?_;rintro e w' ⟨rfl,rfl⟩;go_wp2_with fail;go_roundg (f+2)
      case measure=>omega
      case rel=>exact ⟨_,f,rfl,by omega,rfl,by go_num,zh ⟨HR2.out,HC2.out⟩⟩
   ·have hne:¬ B.nodeE y=0:=by unfold Bs.nodeE;split <;> decide
    have hr:r=(0,B.nodeE y):=by
     rw [<- H.out.1];cases f <;> (unfold heightP;rw [if_neg hy,hd];unfold hgt;rw [if_neg hne])
    have hE:(Lit.int .i64 (B.nodeE y)).wf=true:=by unfold Bs.nodeE;split <;> decide
    obtain ⟨E,hE'⟩:∃ E,E=B.nodeE y:=⟨_,rfl⟩;rw [<- hE'] at hne hr hE;subst hr;have HC:=zh (H.out.2.trans hc1);rw [<- hE'];clear hc1 hE' hd;go_wp2_with fail
    go_ret2
    exact ⟨rfl,HC.out.alloc _⟩
end Go.Proofs.YtkhcaclndepgbaaGreat
