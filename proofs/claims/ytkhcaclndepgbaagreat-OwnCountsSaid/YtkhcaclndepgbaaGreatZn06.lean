/- Package super: the iterator over a super's fields. · A struct or an array as a whole, in the middle of a block that is told by a function: loaded and stored, in a walk, in a fenced walk, and in a region that draws. · Package super: Encode. -/
import Derived.Test.YtkhcaclndepgbaaGreatZn05
import Derived.Deep.RegionWith
set_option linter.unusedVariables false
set_option linter.unusedSimpArgs false
set_option maxRecDepth 100000
set_option maxHeartbeats 20000000
namespace Go.Proofs.YtkhcaclndepgbaaGreat
open Go.RowKit Go.Shelf
theorem off_succ {k:Nat} (hk:k<18):offS k+sizS k=offS (k+1):=by
 unfold offS sizS
 repeat' split
 all_goals omega
theorem offS_le {k:Nat} (hk:k<=18):offS k<=108:=by
 unfold offS
 repeat' split
 all_goals omega
theorem suFields_iter (n B0 sb:Nat) (Lw:List Nat) (w:World) (hB:w.cell? ⟨B0,0,none⟩=some (.pointer (some ⟨sb,0,none⟩))) (h1:B0∉Lw) (hsb:sb<w.heap.size) (hsB:sb≠B0) (hLw:∀ x,x∈Lw->x<w.heap.size) :
  IterA Fence.wide n Tryz.prog 175 #[.pointer (some ⟨B0,0,none⟩)] (suPj sb) (suAv B0 sb) 18 Lw w:=by
 intro l J Jx W hW hl0 hl hJ hJx hP hY hJ0;have hBl:B0<w.heap.size:=World.block_lt_of_cell? w ⟨B0,0,none⟩ hB;have hBW:=(hW.cell (p:=⟨B0,0,none⟩) hBl).trans hB;have hWs:=hW.size;clear hB;obtain ⟨St,hSt⟩:∃ St:Nat->Nat->Nat->World->Prop,St=fun ab yb k wr=>J k wr/\Chg (l::Lw) W wr/\wr.heap[ab]?=some (.cells #[.int .i64 (offS k:Int)] 3 (0,0))/\wr.cell? ⟨yb,0,none⟩=some (.func (.yield l) #[] #[]):=⟨_,rfl⟩
 have step:∀ (ab yb ib k:Nat) (wr:World) (S:Sup) (gf:Fn) (lb:Array Value),W.heap.size<=ab->W.heap.size<=yb->yb≠ab->W.heap.size<=ib->ib≠ab->k<18->St ab yb k wr->S.Wf->wr.heap[sb]?=some (.cells S.row 49 (0,0))->setFn k B0 ib = .func gf #[] lb ->
   (2<=k->wr.heap[ib]?=some (.cells #[.int .i64 (if k<10 then ((k - 2:Nat):Int) else ((k - 10:Nat):Int))] 3 (0,0))) ->
   Calls Tryz.prog 176 #[.int .i64 (sizS k:Int),.int .u64 (S.valS k:Int),.func gf #[] lb,.pointer (some ⟨ab,0,none⟩),.pointer (some ⟨yb,0,none⟩)] wr fun e w' =>
    ∃ b:Bool,e = .returned (.bool b)/\Hid ((b=true/\St ab yb (k+1) w')∨(b=false/\Jx (k+1) w')):=by
  intro ab yb ib k wr S gf lb a1 a2 a3 a4 a5 hk hst hS hs hf hib;rw [hSt] at hst ⊢;obtain ⟨s1,s2,s3,s4⟩:=hst;have hbel:Below W.heap.size wr (wr.setCell ⟨ab,0,none⟩ (.int .i64 ((offS k+sizS k:Nat):Int))):=(Below.refl _ wr).setCell (by show W.heap.size<=ab;exact a1) _
  have hy:=YieldAt.any (m:=5) (hY k (wr.setCell ⟨ab,0,none⟩ (.int .i64 ((offS k+sizS k:Nat):Int))) #[.int .i64 (offS k:Int),.agg #[.int .i64 (sizS k:Int),.int .u64 (S.valS k:Int),.func gf #[] lb]] (hJ k wr _ s1 hbel) hk
   ⟨S,ib,hS,(zso 0 _ (by omega)).trans hs,by rw [hf],fun h2=>⟨(zso 0 _ a5).trans (hib h2),by omega⟩⟩)
  have hab:ab∉l::Lw:=by
   simp only [List.mem_cons,not_or];exact ⟨by omega,fun h=>by have:=hLw ab h;omega⟩
  have hyb:yb∉l::Lw:=by
   simp only [List.mem_cons,not_or];exact ⟨by omega,fun h=>by have:=hLw yb h;omega⟩
  have hcW:Chg (l::Lw) W (wr.setCell ⟨ab,0,none⟩ (.int .i64 ((offS k+sizS k:Nat):Int))):=s2.setCell (.inr a1) _;have hx:=zsb s3 0 (.int .i64 ((offS k+sizS k:Nat):Int));have hz:=(World.cell?_of_block (zso (w:=wr) 0 (.int .i64 ((offS k+sizS k:Nat):Int)) a3)).trans s4;refine suNext_at s3 s4 a3 (by have:=(siz_bd k).2;omega) (by have:=offS_le (k:=k) (by omega);omega) (hy.mono fun e w' hr=>?_) ?_
  ·rcases hr with ⟨rfl,r1,r2⟩ | ⟨rfl,r1,r2⟩
   ·refine ⟨true,rfl,zh (.inl ⟨rfl,r1,hcW.trans r2,?_,?_⟩)⟩
    ·rw [<- off_succ hk]
     exact (r2.block ab (zhl hx) hab).trans hx
    ·exact (r2.cell (p:=⟨yb,0,none⟩) (World.block_lt_of_cell? _ ⟨yb,0,none⟩ hz) hyb).trans hz
   ·exact ⟨false,rfl,zh (.inr ⟨rfl,r1⟩)⟩
  ·rintro e w' ⟨b,rfl,_⟩
   exact ⟨b,rfl⟩
 have STEP:=zh step;have HJ:=zh (zA hJ hP);have HST:=zh hSt;have HBW:=zh hBW;have HL:=zh (zA hl0 (zA hl (zA hsb (zA hBl hWs))));have HN:=zh (zA h1 (zA hsB hLw));have HJ0:=zh hJ0;clear step hJ hP hSt hBW hl0 hl hsb hBl hWs h1 hsB hLw hJ0 hY;refine callsIn_wide.2 ?_;go_enter Tryz.func175,Tryz.ntmps175;go_upto_region 2 with fail;have hc1:Chg (l::Lw) W ((W.alloc (.cells #[.func (.yield l) #[] #[]] 273)).alloc (.cells #[.int .i64 0] 3)):=((Chg.refl _ W).alloc _).alloc _;have hb1:Below W.heap.size W ((W.alloc (.cells #[.func (.yield l) #[] #[]] 273)).alloc (.cells #[.int .i64 0] 3)):=((Below.refl _ W).alloc (zLr _) _).alloc (by simp) _;have k0:=znd W (.cells #[.func (.yield l) #[] #[]] 273) (.cells #[.int .i64 0] 3);have k1:=znc W (.cells #[.func (.yield l) #[] #[]] 273) (.cells #[.int .i64 0] 3);have hsz:((W.alloc (.cells #[.func (.yield l) #[] #[]] 273)).alloc (.cells #[.int .i64 0] 3)).heap.size=W.heap.size+2:=by simp
 generalize (W.alloc (.cells #[.func (.yield l) #[] #[]] 273)).alloc (.cells #[.int .i64 0] 3)=W1 at *;obtain ⟨yb,hyb⟩:∃ yb,yb=W.heap.size:=⟨_,rfl⟩;obtain ⟨ab,hab⟩:∃ ab,ab=W.heap.size+1:=⟨_,rfl⟩;rw [<- hab,<- hyb];rw [<- hyb] at k0;rw [<- hab] at k1
 have st0:St ab yb 0 W1:=by
  rw [HST.out];exact ⟨HJ.out.1 0 W W1 HJ0.out hb1,hc1,k1,(zcb k0 0).trans rfl⟩
 have HAB:=zh (zA hyb (zA hab hsz))
 have cbOf:∀ k wr,St ab yb k wr->wr.cell? ⟨B0,0,none⟩=some (.pointer (some ⟨sb,0,none⟩)):=fun k wr h=>by
  rw [HST.out] at h;exact (h.2.1.cell (p:=⟨B0,0,none⟩) (by show B0<W.heap.size;have:=HL.out;omega) (by simp only [List.mem_cons,not_or];exact ⟨by have:=HL.out;omega,HN.out.1⟩)).trans HBW.out
 have sOf:∀ k wr,St ab yb k wr->∃ S:Sup,S.Wf/\wr.heap[sb]?=some (.cells S.row 49 (0,0)):=fun k wr h=>by
  rw [HST.out] at h;exact HJ.out.2 k wr h.1
 have HCB:=zh cbOf;have HSO:=zh sOf;have abl:W.heap.size<=ab:=by omega
 have ybl:W.heap.size<=yb:=by omega
 have yab:yb≠ab:=by omega
 have HO:=zh (zA abl (zA ybl yab));clear hc1 hb1 k0 k1 hsz hyb hab cbOf sOf abl ybl yab;have cB:=HCB.out 0 W1 st0;obtain ⟨S,hS,hs⟩:=HSO.out 0 W1 st0;have c0:=Sup.cell hs (i:=0) (by omega);have cc:=STEP.out ab yb (W.heap.size+2) 0 W1 S (.func 177) #[.pointer (some ⟨B0,0,none⟩)] HO.out.1 HO.out.2.1 HO.out.2.2 (by omega) (by have:=HAB.out.2.1;omega) (by omega) st0 hS hs rfl (fun h=>by omega)
 change Calls _ _ #[.int .i64 8,.int .u64 (S.gen:Int),.func (.func 177) #[] #[.pointer (some ⟨B0,0,none⟩)],_,_] W1 _ at cc
 change W1.cell? ⟨sb,0,none⟩=some (.int .u64 (S.gen:Int)) at c0
 have CC:=zh cc;clear cc hs st0;go_wp2_with fail;refine CC.out.mono ?_;clear CC c0 cB hS;rintro e w2 ⟨b,rfl,HR⟩;rcases HR.out with ⟨rfl,st1⟩ | ⟨rfl,jx⟩
 ·have cB:=HCB.out 1 w2 st1
  obtain ⟨S,hS,hs⟩:=HSO.out 1 w2 st1;have c0:=Sup.cell hs (i:=1) (by omega);have cc:=STEP.out ab yb (W.heap.size+2) 1 w2 S (.func 178) #[.pointer (some ⟨B0,0,none⟩)] HO.out.1 HO.out.2.1 HO.out.2.2 (by omega) (by have:=HAB.out.2.1;omega) (by omega) st1 hS hs rfl (fun h=>by omega)
  change Calls _ _ #[.int .i64 4,.int .u64 (S.blocks:Int),.func (.func 178) #[] #[.pointer (some ⟨B0,0,none⟩)],_,_] w2 _ at cc
  change w2.cell? ⟨sb,1,none⟩=some (.int .u32 (S.blocks:Int)) at c0
  have E1:IntKind.u64.wrap (S.blocks:Int)=(S.blocks:Int):=by
   have:=hS.v 1 (by omega)
   change S.blocks<256 ^ 4 at this
   rw [IntKind.wrap_u64];omega
  have CC:=zh cc;clear cc hs st1;go_wp2_with fail;refine CC.out.mono ?_;clear CC c0 cB hS E1;rintro e w3 ⟨b,rfl,HR⟩;rcases HR.out with ⟨rfl,st2⟩ | ⟨rfl,jx⟩
  ·go_wp2_with fail
   go_loopg [27] 8 (fun gg s wr=>∃ k:Nat,gg=8 - k/\k<=8/\s = .int .i64 (k:Int)/\St ab yb (2+k) wr)
   case atStart=>exact ⟨0,rfl,Nat.zero_le _,by go_num,st2⟩
   case round =>
    obtain ⟨k,hgg,hk8,rfl,st⟩:=hrel;by_cases hk:k<8
    ·have i1:(k:Int)<8:=by omega
     have cB:=HCB.out _ wr st;obtain ⟨S,hS,hs⟩:=HSO.out _ wr st;go_upto_region 7 with fail;have hcA:=(Chg.refl [] wr).alloc (.cells #[.int .i64 (k:Int)] 3);have kib:=znb wr (.cells #[.int .i64 (k:Int)] 3);have hcs:=hcA.size
     have stA:St ab yb (2+k) (wr.alloc (.cells #[.int .i64 (k:Int)] 3)):=by
      rw [HST.out] at st ⊢;obtain ⟨q1,q2,q3,q4⟩:=st;exact ⟨HJ.out.1 _ _ _ q1 ((Below.refl _ wr).alloc q2.size _),q2.trans (hcA.mono (by simp)),(hcA.block ab (zhl q3) (by simp)).trans q3,(hcA.cell (p:=⟨yb,0,none⟩) (World.block_lt_of_cell? wr ⟨yb,0,none⟩ q4) (by simp)).trans q4⟩
     have hsA:=(hcA.block sb (zhl hs) (by simp)).trans hs;have cBA:=(hcA.cell (p:=⟨B0,0,none⟩) (World.block_lt_of_cell? wr ⟨B0,0,none⟩ cB) (by simp)).trans cB;have ibl:W.heap.size<=wr.heap.size:=by rw [HST.out] at st;exact st.2.1.size
     have ibn:wr.heap.size≠ab:=by rw [HST.out] at st;have:=zhl st.2.2.1;omega
     generalize wr.alloc (.cells #[.int .i64 (k:Int)] 3)=wa at *;obtain ⟨ib,hib⟩:∃ ib,ib=wr.heap.size:=⟨_,rfl⟩;rw [<- hib] at kib ibl ibn ⊢;have c0:=Sup.cell hsA (i:=2+k) (by omega);have c1:=zcb kib 0;simp only [tA1,tA3] at c1;have eS:S.valS (2+k)=S.roots k:=by unfold Sup.valS;rw [if_neg (by omega),if_neg (by omega),if_pos (by omega),Nat.add_sub_cancel_left]
     have e4:sizS (2+k)=4:=by unfold sizS;rw [if_neg (by omega),if_pos (by omega)]
     rw [cellV_mk _ (by omega),eS] at c0;unfold mkV at c0;rw [if_neg (by omega),if_pos (by omega)] at c0
     have stD:St ab yb (2+k) wa.drew:=by
      rw [HST.out] at stA ⊢;exact ⟨HJ.out.1 _ _ _ stA.1 ⟨rfl,rfl,rfl,zLr _,fun _ _=>rfl⟩,stA.2.1.drew,stA.2.2.1,stA.2.2.2⟩
     have cc:=STEP.out ab yb ib (2+k) wa.drew S (.func 179) #[.pointer (some ⟨B0,0,none⟩),.pointer (some ⟨ib,0,none⟩)] HO.out.1 HO.out.2.1 HO.out.2.2 ibl ibn (by omega) stD hS hsA (by unfold setFn;rw [if_neg (by omega),if_neg (by omega),if_pos (by omega)]) (fun h=>by rw [if_pos (by omega),Nat.add_sub_cancel_left];exact kib);rw [e4,eS] at cc
     change Calls _ _ #[.int .i64 4,_,_,_,_] wa.drew _ at cc
     have E1:IntKind.u64.wrap (S.roots k:Int)=(S.roots k:Int):=by
      have:=hS.v (2+k) (by omega);rw [eS,e4] at this
      change S.roots k<256 ^ 4 at this
      rw [IntKind.wrap_u64];omega
     have CC:=zh cc;clear cc hcA hcs stA stD hsA cB hib ibl ibn kib hs st
     go_region_with (go_at_call 176;refine CC.out.mono ?_;clear CC c0 c1 cBA;rintro e w4 ⟨b,rfl,HR⟩)
     all_goals
      rcases HR.out with ⟨rfl,st1⟩ | ⟨rfl,jx⟩
      ·go_wp2_with fail
       go_roundg (8 - (k+1))
       case measure=>omega
       case rel=>exact ⟨k+1,rfl,by omega,by go_num,st1⟩
      ·go_wp2_with fail
       refine bodyPost_ret (results_none rfl _ _ _) rfl ?_;exact ⟨⟨_,rfl⟩,.inr ⟨2+k+1,by omega,jx⟩⟩
    ·obtain rfl:k=8:=by omega
     go_wp2_with fail;go_loopg [42] 8 (fun gg s wr=>∃ k:Nat,gg=8 - k/\k<=8/\s = .int .i64 (k:Int)/\St ab yb (10+k) wr)
     case atStart=>exact ⟨0,rfl,Nat.zero_le _,by go_num,st⟩
     case round =>
      clear st;obtain ⟨k,hgg,hk8,rfl,st⟩:=hrel;by_cases hk:k<8
      ·have i1:(k:Int)<8:=by omega
       have cB:=HCB.out _ wr st;obtain ⟨S,hS,hs⟩:=HSO.out _ wr st;go_upto_region 12 with fail;have hcA:=(Chg.refl [] wr).alloc (.cells #[.int .i64 (k:Int)] 3);have kib:=znb wr (.cells #[.int .i64 (k:Int)] 3);have hcs:=hcA.size
       have stA:St ab yb (10+k) (wr.alloc (.cells #[.int .i64 (k:Int)] 3)):=by
        rw [HST.out] at st ⊢;obtain ⟨q1,q2,q3,q4⟩:=st;exact ⟨HJ.out.1 _ _ _ q1 ((Below.refl _ wr).alloc q2.size _),q2.trans (hcA.mono (by simp)),(hcA.block ab (zhl q3) (by simp)).trans q3,(hcA.cell (p:=⟨yb,0,none⟩) (World.block_lt_of_cell? wr ⟨yb,0,none⟩ q4) (by simp)).trans q4⟩
       have hsA:=(hcA.block sb (zhl hs) (by simp)).trans hs;have cBA:=(hcA.cell (p:=⟨B0,0,none⟩) (World.block_lt_of_cell? wr ⟨B0,0,none⟩ cB) (by simp)).trans cB;have ibl:W.heap.size<=wr.heap.size:=by rw [HST.out] at st;exact st.2.1.size
       have ibn:wr.heap.size≠ab:=by rw [HST.out] at st;have:=zhl st.2.2.1;omega
       generalize wr.alloc (.cells #[.int .i64 (k:Int)] 3)=wa at *;obtain ⟨ib,hib⟩:∃ ib,ib=wr.heap.size:=⟨_,rfl⟩;rw [<- hib] at kib ibl ibn ⊢;have c0:=Sup.cell hsA (i:=10+k) (by omega);have c1:=zcb kib 0;simp only [tA1,tA3] at c1;have eS:S.valS (10+k)=S.marks k:=by unfold Sup.valS;rw [if_neg (by omega),if_neg (by omega),if_neg (by omega),Nat.add_sub_cancel_left]
       have e4:sizS (10+k)=8:=by unfold sizS;rw [if_neg (by omega),if_neg (by omega)]
       rw [cellV_mk _ (by omega),eS] at c0;unfold mkV at c0;rw [if_neg (by omega),if_neg (by omega)] at c0
       have stD:St ab yb (10+k) wa.drew:=by
        rw [HST.out] at stA ⊢;exact ⟨HJ.out.1 _ _ _ stA.1 ⟨rfl,rfl,rfl,zLr _,fun _ _=>rfl⟩,stA.2.1.drew,stA.2.2.1,stA.2.2.2⟩
       have cc:=STEP.out ab yb ib (10+k) wa.drew S (.func 180) #[.pointer (some ⟨B0,0,none⟩),.pointer (some ⟨ib,0,none⟩)] HO.out.1 HO.out.2.1 HO.out.2.2 ibl ibn (by omega) stD hS hsA (by unfold setFn;rw [if_neg (by omega),if_neg (by omega),if_neg (by omega)]) (fun h=>by rw [if_neg (by omega),Nat.add_sub_cancel_left];exact kib);rw [e4,eS] at cc
       change Calls _ _ #[.int .i64 8,_,_,_,_] wa.drew _ at cc
       have CC:=zh cc;clear cc hcA hcs stA stD hsA cB hib ibl ibn kib hs st
       go_region_with (go_at_call 176;refine CC.out.mono ?_;clear CC c0 c1 cBA;rintro e w4 ⟨b,rfl,HR⟩)
       all_goals
        rcases HR.out with ⟨rfl,st1⟩ | ⟨rfl,jx⟩
        ·go_wp2_with fail
         go_roundg (8 - (k+1))
         case measure=>omega
         case rel=>exact ⟨k+1,rfl,by omega,by go_num,st1⟩
        ·go_wp2_with fail
         refine bodyPost_ret (results_none rfl _ _ _) rfl ?_;exact ⟨⟨_,rfl⟩,.inr ⟨10+k+1,by omega,jx⟩⟩
      ·obtain rfl:k=8:=by omega
       go_wp2_with fail
       go_end0
       rw [HST.out] at st;exact ⟨⟨_,rfl⟩,.inl st.1⟩
  ·go_wp2_with fail
   refine bodyPost_ret (results_none rfl _ _ _) rfl ?_;exact ⟨⟨_,rfl⟩,.inr ⟨2,by omega,jx⟩⟩
 ·go_wp2_with fail
  refine bodyPost_ret (results_none rfl _ _ _) rfl ?_;exact ⟨⟨_,rfl⟩,.inr ⟨1,by omega,jx⟩⟩
end Go.Proofs.YtkhcaclndepgbaaGreat
namespace Go.Proofs.YtkhcaclndepgbaaGreat
open Go.RowKit
theorem setCells_block {b N:Nat} {t:TypeId} : ∀ (vs:List Value) (o:Nat) (w:World) (V:Nat->Value),w.heap[b]?=some (.cells (fnRow N V) t (0,0)) ->
  (w.setCells b o vs).heap[b]?=some (.cells (fnRow N (fun i=>if o<=i then (vs[i - o]?).getD (V i) else V i)) t (0,0))/\Chg [b] w (w.setCells b o vs)
 | [],o,w,V,h=>by
  refine ⟨?_,Chg.refl _ _⟩
  show w.heap[b]?=_
  rw [h];congr 3;funext i
  simp
 | v::vs,o,w,V,h=>by
  have h1:(w.setCell ⟨b,o,none⟩ v).heap[b]?=some (.cells (fnRow N (fun i=>if i=o then v else V i)) t (0,0)):=by
   rw [zsb h];congr 2;apply Array.ext_getElem?;intro i;rw [Array.getElem?_setIfInBounds];by_cases hi:i<N
   ·rw [zfg hi,zfg hi]
    by_cases e:o=i
    ·subst e;rw [if_pos rfl,if_pos rfl,if_pos (by rw [zfs];exact hi)]
    ·rw [if_neg e,if_neg (fun q=>e q.symm)]
   ·rw [Array.getElem?_eq_none (by rw [zfs];omega),Array.getElem?_eq_none (by rw [zfs];omega)]
    by_cases e:o=i
    ·subst e;rw [if_pos rfl,if_neg (by rw [zfs];omega)]
    ·rw [if_neg e]
  obtain ⟨h2,h3⟩:=setCells_block vs (o+1) (w.setCell ⟨b,o,none⟩ v) _ h1;refine ⟨?_,((Chg.refl [b] w).setCell (.inl (by simp)) v).trans h3⟩
  show ((w.setCell ⟨b,o,none⟩ v).setCells b (o+1) vs).heap[b]?=_
  rw [h2];congr 3;funext i
  by_cases e1:o+1<=i
  ·rw [if_pos e1,if_neg (by omega),if_pos (by omega),show i - o=(i - (o+1))+1 by omega,tA2]
  ·rw [if_neg e1]
   by_cases e2:i=o
   ·subst e2;rw [if_pos rfl,if_pos (zLr _),Nat.sub_self];rfl
   ·rw [if_neg e2,if_neg (by omega)]
theorem setCells_laid {w:World} {b N o n:Nat} {V U:Nat->Value} {t:TypeId} (h:w.heap[b]?=some (.cells (fnRow N V) t (0,0))) :
  (w.setCells b o (fnRow n U).toList).heap[b]?=some (.cells (fnRow N (laid V U o n)) t (0,0))/\Chg [b] w (w.setCells b o (fnRow n U).toList):=by
 obtain ⟨h1,h2⟩:=setCells_block (fnRow n U).toList o w V h;refine ⟨?_,h2⟩;rw [h1];congr 3;funext i
 unfold laid;by_cases e1:o<=i
 ·rw [if_pos e1,Array.getElem?_toList]
  by_cases e2:i<o+n
  ·rw [if_pos ⟨e1,e2⟩,zfg (by omega)];rfl
  ·rw [if_neg (fun q=>e2 q.2),Array.getElem?_eq_none (by rw [zfs];omega)];rfl
 ·rw [if_neg e1,if_neg (fun q=>e1 q.1)]
theorem there_fn {w:World} {b N o n:Nat} {V:Nat->Value} {t:TypeId} (h:w.heap[b]?=some (.cells (fnRow N V) t (0,0))) (hfit:o+n<=N):w.there b o n:=fun j hj =>
 ⟨by rw [zcb h,zfg (by omega)];rfl,zfb h _⟩
theorem cell_fn {w:World} {b N i:Nat} {V:Nat->Value} {t:TypeId} (h:w.heap[b]?=some (.cells (fnRow N V) t (0,0))) (hi:i<N):w.cell? ⟨b,i,none⟩=some (V i):=(zcb h _).trans (zfg hi)
theorem results_ct {P:Program} {fn:Func} {tmps:Array Value} {a b:Nat} {w:World} {p:Addr} {t:TypeId} {v:Value} (h:fn.results=#[.cell a t,.tmp b]) (ha:tmps.getD a undef = .pointer (some p)) (hl:(loadVar t p).run P w = .ok v w) :
  (results fn tmps).run P w = .ok (.tuple #[v,tmps.getD b undef]) w:=by
 have ha':tmps[a]?.getD undef = .pointer (some p):=by simpa using ha
 simp [results,h,ha',asAddr,hl,Sem.run_bind,Result.andThen]
theorem results_c {P:Program} {fn:Func} {tmps:Array Value} {a:Nat} {w:World} {p:Addr} {t:TypeId} {v:Value} (h:fn.results=#[.cell a t]) (ha:tmps.getD a undef = .pointer (some p)) (hl:(loadVar t p).run P w = .ok v w) :
  (results fn tmps).run P w = .ok v w:=by
 have ha':tmps[a]?.getD undef = .pointer (some p):=by simpa using ha
 simp [results,h,ha',asAddr,hl,Sem.run_bind,Result.andThen]
theorem results_ctt {P:Program} {fn:Func} {tmps:Array Value} {a b c:Nat} {w:World} {p:Addr} {t:TypeId} {v:Value} (h:fn.results=#[.cell a t,.tmp b,.tmp c]) (ha:tmps.getD a undef = .pointer (some p)) (hl:(loadVar t p).run P w = .ok v w) :
  (results fn tmps).run P w = .ok (.tuple #[v,tmps.getD b undef,tmps.getD c undef]) w:=by
 have ha':tmps[a]?.getD undef = .pointer (some p):=by simpa using ha
 simp [results,h,ha',asAddr,hl,Sem.run_bind,Result.andThen]
section
variable {t T:TypeId} {b o n N:Nat} {V U:Nat->Value} {w:World} {a:Act}
theorem run_storeRow {P:Program} (hb:w.heap[b]?=some (.cells (fnRow N V) T (0,0))) (hfit:o+n<=N) (hi:(P.info? t).map (·.size)=some n) (h1:∀ i,i<n->(U i).oneCell'=true) :
  (Instr.storeAt t (.pointer (some ⟨b,o,none⟩)) (.agg (fnRow n U))).run P w = .ok () (w.setCells b o (fnRow n U).toList) :=
 run_storeAt_mid w b o t (fnRow n U) (by rw [zfs];exact there_fn hb hfit) (by rw [hi,zfs]) (fnRow_one h1)
theorem run_storeCells_row {P:Program} (hb:w.heap[b]?=some (.cells (fnRow N V) T (0,0))) (hfit:o+n<=N) (h1:∀ i,i<n->(U i).oneCell'=true) :
  (storeCells ⟨b,o,none⟩ (fnRow n U).toList).run P w = .ok () (w.setCells b o (fnRow n U).toList):=by
 have ht:=there_fn (n:=n) hb hfit
 have:=run_storeCells_cells (P:=P) b o (fnRow n U).toList 0 w (fun j hj=>by rw [Array.length_toList,zfs] at hj;simpa using (ht j hj).1) (fun j hj=>by rw [Array.length_toList,zfs] at hj;simpa using (ht j hj).2)
  (fun v hv=>(Array.all_eq_true_iff_forall_mem.1 (fnRow_one h1)) v (by simpa using hv))
 simpa using this
theorem wpList_storeRow {ops:Array Oper} {rest:List Oper} {op:Oper} {Q:Exit->Act->World->Prop} (hgd:op.guard=none) (x y:Operand) (ho:op.op = .store t x y) (hx:a.eval x = .pointer (some ⟨b,o,none⟩)) (hy:a.eval y = .agg (fnRow n U))
  (hb:w.heap[b]?=some (.cells (fnRow N V) T (0,0))) (hfit:o+n<=N) (hi:(Tryz.prog.info? t).map (·.size)=some n) (h1:∀ i,i<n->(U i).oneCell'=true)
  (h:∀ w',w'.heap[b]?=some (.cells (fnRow N (laid V U o n)) T (0,0))->Chg [b] w w'->wpList Tryz.prog ops Q rest (a.put op.dst undef) w'):wpList Tryz.prog ops Q (op::rest) a w:=by
 refine wpList_plain hgd fun K' hK'=>?_;unfold Oper.wp execOp;have hr:=run_storeRow (P:=Tryz.prog) hb hfit hi h1;simp only [ho,hx,hy,Sem.run_bind,hr,Result.andThen_ok,Sem.run_pure];exact hK' _ _ (h _ (setCells_laid hb).1 (setCells_laid hb).2)
theorem wpListIn_storeRow {F:Fence} {m:Nat} {ops:Array Oper} {rest:List Oper} {op:Oper} {Q:Exit->Act->World->Prop} (hgd:op.guard=none) (x y:Operand) (ho:op.op = .store t x y) (hx:a.eval x = .pointer (some ⟨b,o,none⟩)) (hy:a.eval y = .agg (fnRow n U))
  (hb:w.heap[b]?=some (.cells (fnRow N V) T (0,0))) (hfit:o+n<=N) (hi:(Tryz.prog.info? t).map (·.size)=some n) (h1:∀ i,i<n->(U i).oneCell'=true)
  (h:∀ w',w'.heap[b]?=some (.cells (fnRow N (laid V U o n)) T (0,0))->Chg [b] w w'->wpListIn F m Tryz.prog ops Q rest (a.put op.dst undef) w'):wpListIn F m Tryz.prog ops Q (op::rest) a w:=by
 refine wpListIn_plain hgd fun K' hK'=>?_;have hr:=run_storeRow (P:=Tryz.prog) hb hfit hi h1;unfold Oper.wpIn;refine ⟨?_,?_⟩
 ·simp [Oper.about,ho]
 ·rw [Oper.semAt_plain F _ _ (by rw [ho];intro c hc';cases hc')]
  unfold execOp;simp only [ho,hx,hy,Sem.run_bind,hr,Result.andThen,Sem.run_pure];exact hK' _ _ (h _ (setCells_laid hb).1 (setCells_laid hb).2)
end
open Go.RowKit Go.Shelf
attribute [local go_sem] Oper.semAt_some
theorem Sup.Ok.wf {S:Sup} (h:S.Ok):S.Wf:=⟨fun k hk=>h.val hk⟩
theorem Sup.cell_one (S:Sup) (i:Nat):(S.cellV i).oneCell'=true:=by
 unfold Sup.cellV
 repeat' split
 all_goals rfl
theorem Sup.row_size (S:Sup):S.row.size=18:=zfs _ _
theorem row_inj {S S':Sup} (h:S'.row=S.row):∀ k,k<18->S'.valS k=S.valS k:=fun k hk=>by
 have e:=congrArg (fun r:Array Value=>r[k]?) h;simp only [Sup.row] at e;rw [zfg hk,zfg hk,cellV_mk _ hk,cellV_mk _ hk] at e;injection e with e;unfold mkV at e
 split at e
 ·injection e with _ e;omega
 ·split at e
  ·injection e with _ e;omega
  ·injection e with _ e;omega
theorem setFn_one (k B0 ib:Nat):(setFn k B0 ib).oneCell'=true:=by
 unfold setFn
 repeat' split
 all_goals rfl
theorem three_one {a b:Int} {fv:Value} (h:fv.oneCell'=true):(#[Value.int .i64 a,.int .u64 b,fv].all (·.oneCell'))=true:=by
 rw [Array.all_eq_true_iff_forall_mem];intro x hx;simp only [List.mem_toArray,List.mem_cons,List.not_mem_nil,or_false] at hx;rcases hx with rfl | rfl | rfl
 ·rfl
 ·rfl
 ·exact h
theorem infoField:(Tryz.prog.info? 235).map (·.size)=some 3:=by kernel_rfl
theorem infoSup:(Tryz.prog.info? 49).map (·.size)=some 18:=by kernel_rfl
theorem wpListIn_loadSup {F:Fence} {m:Nat} {ops:Array Oper} {rest:List Oper} {op:Oper} {a:Act} {w:World} {Q:Exit->Act->World->Prop} {k o:Nat} {S:Sup} (hgd:op.guard=none) (x:Operand) (ho:op.op = .load 49 x)
  (hx:a.eval x = .pointer (some ⟨k,o,none⟩)) (hS:∀ j,j<18->w.cell? ⟨k,o+j,none⟩=some (S.cellV j)) (h:wpListIn F m Tryz.prog ops Q rest (a.put op.dst (.agg S.row)) w):wpListIn F m Tryz.prog ops Q (op::rest) a w :=
 wpListIn_loadV hgd x ho Tryz.underlying49 rfl infoSup hx hS h
theorem wpList_loadSup {ops:Array Oper} {rest:List Oper} {op:Oper} {a:Act} {w:World} {Q:Exit->Act->World->Prop} {k o:Nat} {S:Sup} (hgd:op.guard=none) (x:Operand) (ho:op.op = .load 49 x)
  (hx:a.eval x = .pointer (some ⟨k,o,none⟩)) (hS:∀ j,j<18->w.cell? ⟨k,o+j,none⟩=some (S.cellV j)) (h:wpList Tryz.prog ops Q rest (a.put op.dst (.agg S.row)) w):wpList Tryz.prog ops Q (op::rest) a w :=
 wpList_loadV hgd x ho Tryz.underlying49 rfl infoSup hx hS h
theorem laid_sup (V:Nat->Value) (S:Sup):fnRow 18 (laid V S.cellV 0 18)=S.row:=by
 apply Array.ext_getElem?;intro i;by_cases hi:i<18
 ·rw [zfg hi,Sup.row,zfg hi]
  unfold laid;rw [if_pos ⟨Nat.zero_le _,by omega⟩,Nat.sub_zero]
 ·rw [Array.getElem?_eq_none (by rw [zfs];omega),Array.getElem?_eq_none (by rw [Sup.row_size];omega)]
theorem load_sup {w:World} {k o:Nat} {S:Sup} (hS:∀ j,j<18->w.cell? ⟨k,o+j,none⟩=some (S.cellV j)):(loadVar 49 ⟨k,o,none⟩).run Tryz.prog w = .ok (.agg S.row) w:=by
 have hr:=run_loadVar_mid (P:=Tryz.prog) w k o 49 S.row.toList _ (fun j v hv=>by
  have hj:j<18:=by
   by_cases hj:j<18
   ·exact hj
   ·rw [Array.getElem?_toList,Array.getElem?_eq_none (by rw [Sup.row_size];omega)] at hv;cases hv
  rw [Array.getElem?_toList,Sup.row,zfg hj] at hv;rw [<- Option.some.inj hv];exact hS j hj) Tryz.underlying49 rfl (by rw [infoSup,Array.length_toList,Sup.row_size])
 rw [Array.toArray_toList] at hr;exact hr
theorem wpListIn_loadSup_w {F:Fence} {m:Nat} {ops:Array Oper} {rest:List Oper} {op:Oper} {a:Act} {w:World} {Q:Exit->Act->World->Prop} {k o:Nat} {S:Sup} (x:Operand) (ho:op.op = .load 49 x) (hw:Region.wanted op (yielded ops a.tmps)=true)
  (hx:a.eval x = .pointer (some ⟨k,o,none⟩)) (hS:∀ j,j<18->w.cell? ⟨k,o+j,none⟩=some (S.cellV j)) (h:wpListIn F m Tryz.prog ops Q rest (a.put op.dst (.agg S.row)) w):wpListIn F m Tryz.prog ops Q (op::rest) a w:=by
 unfold wpListIn;rw [if_pos hw]
 have hr:=run_loadAt_mid (P:=Tryz.prog) w k o 49 S.row.toList _ (fun j v hv=>by
  have hj:j<18:=by
   by_cases hj:j<18
   ·exact hj
   ·rw [Array.getElem?_toList,Array.getElem?_eq_none (by rw [Sup.row_size];omega)] at hv;cases hv
  rw [Array.getElem?_toList,Sup.row,zfg hj] at hv;rw [<- Option.some.inj hv];exact hS j hj) Tryz.underlying49 rfl (by rw [infoSup,Array.length_toList,Sup.row_size])
 rw [Array.toArray_toList] at hr;unfold Oper.wpIn;refine ⟨?_,?_⟩
 ·simp [Oper.about,ho]
 ·rw [Oper.semAt_plain F _ _ (by rw [ho];intro c hc';cases hc')]
  unfold execOp;simp only [ho,hx,Sem.run_bind,hr,Result.andThen];exact h
theorem Sup.cells {w:World} {b:Nat} {S:Sup} {t:TypeId} (h:w.heap[b]?=some (.cells S.row t (0,0))):∀ j,j<18->w.cell? ⟨b,0+j,none⟩=some (S.cellV j):=fun j hj=>by rw [Nat.zero_add];exact Sup.cell h hj
theorem suEncode_at {w:World} {S:Sup} (hok:S.Ok) :
  Calls Tryz.prog 85 #[.agg S.row] w fun e w'=>∃ g,e = .returned (.tuple #[.slice (some ⟨g,0,none⟩) 128 128,.int .i64 0])/\w'.heap[g]?=some (.cells (u8s 128 (pageS S)) 5 (0,0))/\w.heap.size<=g/\Chg [] w w':=by
 refine (callsIn_wide (n:=8)).1 ?_;refine callsIn_of_wp_marks Tryz.func85 rfl trivial ?_ rfl;simp only [Tryz.ntmps85,List.size_toArray,List.length_cons,List.length_nil,Nat.reduceAdd,Nat.reduceSub,Array.replicate_succ,Array.replicate_zero,List.push_toArray,List.append_toArray,List.nil_append,List.cons_append];have hx:=znb w (.cells S.row 49);have hc:=(Chg.refl [] w).alloc (.cells S.row 49);have cR:=suRight_at (w:=w.alloc (.cells S.row 49)) hok;have HX:=zh (zA hx hc);have CR:=zh cR;generalize hW:w.alloc (.cells S.row 49)=W at *;have HW:=zh hW;clear hx hc cR
 gi_wp2_with (refine wpListIn_loadSup (S:=S) rfl (.tmp 1) (k:=w.heap.size) (o:=0) rfl (by simp [Act.eval,Act.put]) (Sup.cells HX.out.1) ?_)
 refine ⟨trivial,(callsIn_wide.2 CR.out).mono ?_⟩;rintro e w' ⟨rfl,rfl⟩
 have hmk:(Instr.makeSlice 22 (.int .i64 123) (.int .i64 123)).run Tryz.prog (W.alloc (.cells S.row 49)) = .ok (.slice (some ⟨(W.alloc (.cells S.row 49)).heap.size,0,none⟩) 123 123) ((W.alloc (.cells S.row 49)).alloc (.cells (u8s 123 (fun _=>0)) 5)):=by
  have:=run_make1 (P:=Tryz.prog) 22 5 Tryz.underlying22 infoU8 rfl .i64 .i64 123 (by omega) (by omega) (W.alloc (.cells S.row 49));rw [zrow_u8s] at this;exact this
 rw [size_alloc'] at hmk
 gi_wp2
 obtain ⟨W3,hW3⟩:∃ W3,W3=((W.alloc (.cells S.row 49)).alloc (.cells (u8s 123 fun _=>0) 5)).alloc (.cells #[.slice (some ⟨W.heap.size+1,0,none⟩) 123 123] 22):=⟨_,rfl⟩;have hcW:Chg [] w W:=HX.out.2;have hc3:Chg [] W W3:=by rw [hW3];exact (((Chg.refl [] W).alloc _).alloc _).alloc _
 have kb:W3.heap[W.heap.size+1]?=some (.cells (u8s 123 fun _=>0) 5 (0,0)):=by
  rw [hW3];have:=znd (W.alloc (.cells S.row 49)) (.cells (u8s 123 fun _=>0) 5) (.cells #[.slice (some ⟨W.heap.size+1,0,none⟩) 123 123] 22);rw [size_alloc'] at this;exact this
 have kc:W3.heap[W.heap.size+2]?=some (.cells #[.slice (some ⟨W.heap.size+1,0,none⟩) 123 123] 22 (0,0)):=by
  rw [hW3];have:=znc (W.alloc (.cells S.row 49)) (.cells (u8s 123 fun _=>0) 5) (.cells #[.slice (some ⟨W.heap.size+1,0,none⟩) 123 123] 22);rw [size_alloc'] at this;exact this
 have ks:W3.heap[w.heap.size]?=some (.cells S.row 49 (0,0)):=(hc3.block w.heap.size (zhl HX.out.1) (by simp)).trans HX.out.1;have hs3:W3.heap.size=W.heap.size+3:=by rw [hW3];simp
 have hWs:W.heap.size=w.heap.size+1:=by rw [<- hW];simp
 rw [<- hW3];clear hW3 hmk;refine ⟨trivial,(callsIn_wide.2 (suFields_at (w:=W3) (sb:=w.heap.size))).mono ?_⟩;rintro e w' ⟨rfl,rfl⟩;have hc4:Chg [] W3 (W3.alloc (.cells #[.pointer (some ⟨w.heap.size,0,none⟩)] 232)):=(Chg.refl _ _).alloc _;have kp:=znb W3 (.cells #[.pointer (some ⟨w.heap.size,0,none⟩)] 232);have kb4:=(hc4.block _ (zhl kb) (by simp)).trans kb;have kc4:=(hc4.block _ (zhl kc) (by simp)).trans kc;have ks4:=(hc4.block _ (zhl ks) (by simp)).trans ks;have hs4:(W3.alloc (.cells #[.pointer (some ⟨w.heap.size,0,none⟩)] 232)).heap.size=W3.heap.size+1:=by simp
 generalize W3.alloc (.cells #[.pointer (some ⟨w.heap.size,0,none⟩)] 232)=W4 at *;obtain ⟨sb,hsb⟩:∃ sb,sb=w.heap.size:=⟨_,rfl⟩;obtain ⟨bb,hbb⟩:∃ bb,bb=W.heap.size+1:=⟨_,rfl⟩;obtain ⟨cb,hcb⟩:∃ cb,cb=W.heap.size+2:=⟨_,rfl⟩;obtain ⟨pb,hpb⟩:∃ pb,pb=W3.heap.size:=⟨_,rfl⟩;rw [<- hsb] at ks4;rw [<- hbb] at kb4 kc4;rw [<- hcb] at kc4;rw [<- hpb] at kp;rw [<- hsb] at kp;have it:=suFields_iter 7 pb sb [bb] W4 ((zcb kp 0).trans rfl) (by simp;omega) (zhl ks4) (by omega) (by intro x hx;simp only [zms] at hx;subst hx;exact zhl kb4);have hs5:∀ k,k<18->S.valS k<256 ^ sizS k:=hok.wf.v;have HA:=zh (zA hsb (zA hbb (zA hcb (zA hpb (zA hWs hs3)))));have HC4:=zh ((hcW.trans hc3).trans hc4);have HI:=zh it;have HS4:=zh (zA ks4 (zA kb4 kc4));have HW5:=zh hs5;have HG:=zh hok.gen.2;have esb:w.heap.size=sb:=hsb.symm;have ebb:sb+1+1=bb:=by omega
 have ecb:sb+1+1+1=cb:=by omega
 have epb:W3.heap.size=pb:=hpb.symm;have eWb:W.heap.size+1=bb:=hbb.symm;have hlt:sb<bb/\bb<cb/\cb<pb/\pb<W4.heap.size:=by omega
 clear hsb hbb hcb hpb hWs hs3 hs4 hcW hc3 hc4 it ks4 kb4 kc4 kp ks kb kc hok HX hs5
 gi_wp2
 have HLT:=zh hlt;clear esb ebb ecb epb eWb hlt hW CR
 refine wpIn_rangeFunc_av rfl (by omega) (gf:=175) (lb:=#[.pointer (some ⟨pb,0,none⟩)]) rfl trivial (enters_of Tryz.func175 (by kernel_rfl) rfl) HI.out (by intro x hx;simp only [zms] at hx;have:=HLT.out;omega) (by rintro k W av ⟨S',ib,_,_,rfl,_⟩;rfl)
  (fun k W=>Chg [bb] W4 W/\W.heap[bb]?=some (.cells (u8s 123 (sbK S k)) 5 (0,0)))
  (fun c k W=>False)
  (fun k A B h hab=>⟨h.1.afar hab,(hab.block _ (by have:=HLT.out;omega)).trans h.2⟩)
  (fun c k A B h hab=>h)
  ⟨Chg.refl _ _,HS4.out.2.1⟩ (fun k A h=>⟨S,⟨HW5.out⟩,(h.1.block sb (by have:=HLT.out;omega) (by simp only [zms];have:=HLT.out;omega)).trans HS4.out.1⟩) ?round ?done (fun D c k W hD hk h hK=>h.elim)
 case round =>
  intro l' k W' av hl1 hl2 hI hk hav _;obtain ⟨S',ib,hS',hs',rfl,_⟩:=hav;obtain ⟨hcI,hbI⟩:=hI;have hsS:=(hcI.block sb (by have:=HLT.out;omega) (by simp only [zms];have:=HLT.out;omega)).trans HS4.out.1;have hcS:=(hcI.block cb (by have:=HLT.out;omega) (by simp only [zms];have:=HLT.out;omega)).trans HS4.out.2.2
  have ev:S'.valS k=S.valS k:=by
   rw [hs'] at hsS;injection hsS with hsS;injection hsS with hsS;exact row_inj hsS k hk
  rw [ev];obtain ⟨fv,hfv⟩:∃ fv,fv=setFn k pb ib:=⟨_,rfl⟩;have hf1:fv.oneCell'=true:=by rw [hfv];exact setFn_one _ _ _
  rw [<- hfv];have HX:=zh (zA hcI (zA hbI (zA hcS hl1)));clear hcI hbI hcS hs' hsS ev hfv hS'
  gi_wp2_with (refine wpListIn_storeNew rfl 235 (.tmp 6) (.tmp 13) rfl #[.int .i64 0,.int .u64 0,.nilFunc] #[.int .i64 (sizS k:Int),.int .u64 (S.valS k:Int),fv] W'.heap.size 3 rfl rfl rfl infoField rfl rfl (three_one hf1) ?_)
  have hfb:=znb W' (.cells #[.int .i64 (sizS k:Int),.int .u64 (S.valS k:Int),fv] 235);have hcF:=(Chg.refl [] W').alloc (.cells #[.int .i64 (sizS k:Int),.int .u64 (S.valS k:Int),fv] 235);refine ⟨hcF.mono (by simp),fun W5 hc5=>?_⟩;have nl:∀ q,q<W'.heap.size+1->q≠l'->q∉[l']:=fun q hq hn=>by simp only [zms];exact hn
  have hl2':l'<W'.heap.size:=hl2;have hfb5:=(hc5.block W'.heap.size (zhl hfb) (by simp only [zms];omega)).trans hfb;have hcb5:=(hc5.block cb (zLl (zhl HX.out.2.2.1) hcF.size) (by simp only [zms];have:=HLT.out;omega)).trans ((hcF.block cb (zhl HX.out.2.2.1) (by simp)).trans HX.out.2.2.1);have hbb5:=(hc5.block bb (zLl (zhl HX.out.2.1) hcF.size) (by simp only [zms];have:=HLT.out;omega)).trans ((hcF.block bb (zhl HX.out.2.1) (by simp)).trans HX.out.2.1);have cp:=put_at hbb5 0 123 123 (offS k) (sizS k) (S.valS k) (by omega) (by omega) (siz_bd k).1 (siz_bd k).2 (by have:=off_end hk;omega) (HW5.out k hk);rw [Nat.zero_add] at cp;have CP:=zh cp;have HF:=zh (Chg.then (HX.out.1) (hcF.mono (L':=[]) (by simp)) (by simp) |>.then hc5 (fun q hq=>by simp only [zms] at hq;subst hq;exact .inr HX.out.2.2.2));have c0:=zcb hcb5 0;have d0:=zcb hfb5 0;have d1:=zcb hfb5 1;simp only [tA1,tA3,tA2] at c0 d0 d1;have ecb:bb+1=cb:=by have:=HLT.out;have:=HA.out;omega
  clear cp hbb5 hcb5 hfb5 hfb hcF nl hc5
  gi_wp2
  refine ⟨trivial,(callsIn_wide.2 CP.out).mono ?_⟩;rintro e w6 ⟨rfl,hb6,hc6⟩
  gi_wp2
  exact ⟨hc6,HF.out.trans hc6,hb6⟩
 case done =>
  rintro D W' hD ⟨hcI,hbI⟩ hK;have hsS:=(hcI.block sb (by have:=HLT.out;omega) (by simp only [zms];have:=HLT.out;omega)).trans HS4.out.1;have hcS:=(hcI.block cb (by have:=HLT.out;omega) (by simp only [zms];have:=HLT.out;omega)).trans HS4.out.2.2;have g0:=Sup.cell hsS (i:=0) (by omega)
  change W'.cell? ⟨sb,0,none⟩=some (.int .u64 (S.gen:Int)) at g0
  have c0:=zcb hcS 0;simp only [tA1,tA3] at c0;have ecb:bb+1=cb:=by have:=HLT.out;have:=HA.out;omega
  have cp:=put_at hbI 0 123 123 115 8 S.gen (by omega) (by omega) (by omega) (by omega) (by omega) (by have:=HG.out;rw [show (256:Nat) ^ 8=18446744073709551616 from by decide];exact this);rw [Nat.zero_add] at cp
  change Calls _ _ #[_,.int .i64 115,.int .i64 8,_] W' _ at cp
  have CP:=zh cp;have HX:=zh (zA hcI (zA hcS hK));clear cp hbI hcI hsS hcS hK
  gi_wp2
  refine ⟨trivial,(callsIn_wide.2 CP.out).mono ?_⟩;rintro e w6 ⟨rfl,hb6,hc6⟩;have hcb6:=(hc6.block cb (zhl HX.out.2.1) (by simp only [zms];omega)).trans HX.out.2.1;have c6:=zcb hcb6 0;simp only [tA1,tA3] at c6
  have hin:BytesIn w6 (some ⟨bb,0,none⟩) 123 123 (supB S):=⟨zLr _,by unfold maxLen;omega,(fun e=>by cases e),fun x hx _=>by
   injection hx with hx;subst hx;exact ⟨bb,0,rfl,fun i hi=>⟨by rw [Nat.zero_add,zcb hb6,u8s_get hi];rfl,supB_le S i⟩⟩⟩
  have cs:=seal_at hin (by omega) 6 (by omega)
  change Calls _ _ #[.int .u8 6,_] w6 _ at cs
  have CS:=zh cs;have HC6:=zh hc6;have hK6:=(hc6.block D (zhl HX.out.2.2) (by simp only [zms];have:=HLT.out;omega)).trans HX.out.2.2;have HK6:=zh hK6;clear hc6 hb6 hcb6 hin cs c0 g0 CP hK6
  gi_wp2
  refine ⟨trivial,(callsIn_wide.2 CS.out).mono ?_⟩;rintro e w7 ⟨rfl,hb7,hc7⟩;have HK7:=zh ((hc7.block D (zhl HK6.out) (by simp)).trans HK6.out);have HB7:=zh (zA hb7 hc7);clear hb7 hc7 CS c6
  gi_wp2
  refine ⟨by simp,.inl ⟨_,_,rfl,run_takeDeferred HK7.out,?_⟩⟩;have hD6:D<w6.heap.size:=zhl HK6.out;have hcZ:Chg [bb] W4 w6:=HX.out.1.trans HC6.out;refine ⟨.tuple #[.slice (some ⟨w6.heap.size,0,none⟩) 128 128,.int .i64 0],by simp [results,Tryz.results85,go_sem],w6.heap.size,rfl,?_,?_,?_⟩
  ·exact (World.putObj_heap_other (by omega)).trans HB7.out.1
  ·exact zLt HC4.out.size hcZ.size
  ·refine ((HC4.out.then hcZ (fun q hq=>by simp only [zms] at hq;subst hq;exact .inr (by have:=HA.out;omega))).trans HB7.out.2).then (chg_put (l:=D) _) (fun q hq=>by simp only [zms] at hq;subst hq;exact .inr (by have:=HC4.out.size;omega))
end Go.Proofs.YtkhcaclndepgbaaGreat
