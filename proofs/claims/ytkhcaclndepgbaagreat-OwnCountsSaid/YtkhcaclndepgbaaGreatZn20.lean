/- slices.insertionSortOrdered at uint64. · slices.Sort at []uint64, of at most 12 numbers. · slices.Clone, Sort (of nothing), Compact at []uint64. · slices.Compact at []uint64: how many numbers are left. · leaf.kids. · leaf.Right. · leaf.each, as Encode calls it. -/
import Derived.Test.YtkhcaclndepgbaaGreatZn19
set_option linter.unusedVariables false
set_option linter.unusedSimpArgs false
set_option maxRecDepth 100000
set_option maxHeartbeats 20000000
namespace Go.Proofs.YtkhcaclndepgbaaGreat
open Go.RowKit
theorem less_q (x y:Int) (w:World) (n:Nat) {b:Bool} (h:decide (x<y)=b):Calls Tryz.prog 188 #[.int .u64 x,.int .u64 y] (w.drewN n) fun e w''=>e = .returned (.bool b)/\∃ m,w''=w.drewN m :=
 (less64_at x y _).mono fun _ _ ⟨he,hm⟩=>⟨by rw [he,h],n,hm.symm⟩
theorem ins_at {w:World} {g n c:Nat} {f:Nat->Nat} (h:Row64 w g n f) (hn:n<=12) (hc:n<=c) :
  Calls Tryz.prog 218 #[.slice (some ⟨g,0,none⟩) n c,.int .i64 0,.int .i64 (n:Int)] w fun e w' =>
   e = .returned (.tuple #[])/\∃ f',Row64 w' g n f'/\sortedTo f' n/\(GoodK f' n↔GoodK f n)/\Chg [g] w w':=by
 have H:=zh h;clear h;go_enter Tryz.func218,Tryz.ntmps218;go_wp2_with fail
 go_loopw [6] (fun s wr=>∃ (i:Nat) (f':Nat->Nat),s = .int .i64 (i:Int)/\1<=i/\(i<=n∨i=1)/\sortedTo f' i/\Row64 wr g n f'/\(GoodK f' n↔GoodK f n)/\Chg [g] w wr) (fun s _=>13 - (intOf s).toNat)
 case atStart=>exact ⟨1,f,rfl,zLr _,.inr rfl,fun a b h1 h2=>by omega,H.out,Iff.rfl,Chg.refl _ _⟩
 case round =>
  obtain ⟨i,f',rfl,hi1,hi2,hs,hR,hG,hC⟩:=hrel;obtain ⟨wo,rfl⟩:∃ wo:World,wo=wr:=⟨_,rfl⟩;have Hs:=zh hs;have HR:=zh hR;have HG:=zh hG;have HC:=zh hC;clear hs hR hG hC;by_cases hin:i<n
  ·have hinI:(i:Int)<(n:Int):=by omega
   go_wp2_with fail
   go_loopw [7] (fun s wr=>∃ (j:Nat) (f2:Nat->Nat),s = .int .i64 (j:Int)/\j<=i/\sortedBut f2 i j/\Row64 wr g n f2/\(GoodK f2 n↔GoodK f n)/\Chg [g] w wr) (fun s _=>(intOf s).toNat)
   case atStart=>exact ⟨i,f',rfl,zLr _,but_start Hs.out,HR.out,HG.out,HC.out⟩
   case round =>
    obtain ⟨j,f2,rfl,hji,hb,hR2,hG2,hC2⟩:=hrel;obtain ⟨wi,rfl⟩:∃ wi:World,wi=wr:=⟨_,rfl⟩;have Hb:=zh hb;have HR2:=zh hR2;have HG2:=zh hG2;have HC2:=zh hC2;clear hb hR2 hG2 hC2;by_cases hj0:j=0
    ·subst hj0
     have hd:decide ((0:Int)<((0:Nat):Int))=false:=rfl;go_wp2_with fail
     go_quiet (fail)
     go_wp2_with fail
     go_roundw
     case rel=>exact ⟨i+1,f2,by go_num,by omega,.inl (by omega),but_zero Hb.out,HR2.out.chg (Chg.drewN (Chg.refl [] _) _) (by simp),HG2.out,HC2.out.drewN _⟩
     case measure=>simp [intOf];omega
    ·have hj:0<j:=by omega
     have hjI:(0:Int)<(j:Int):=by omega
     obtain ⟨k,hk⟩:∃ k,j=k+1:=⟨j - 1,by omega⟩;subst hk;have c1:=HR2.out.cell (i:=k+1) (by omega);have c2:=HR2.out.cell (i:=k) (by omega);have i0:(0:Int)<=(k:Int)+1:=by omega
     have i1:(k:Int)+1<(n:Int):=by omega
     have i2:(0:Int)<=(k:Int):=by omega
     have i3:(k:Int)<(n:Int):=by omega
     have e1:IntKind.i64.wrap ((k:Int)+1 - 1)=(k:Int):=by
      rw [show (k:Int)+1 - 1=(k:Int) by omega];exact IntWalk.i64_in _ (by omega)
     by_cases hl:f2 (k+1)<f2 k
     ·have hd:=fun n=>less_q (f2 (k+1)) (f2 k) wi n (b:=true) (by simp;omega)
      have Hd:=zh hd;have Hl:=zh hl;clear hd hl;go_wp2_with fail
      go_quiet ((go_at_call 188;exact Hd.out _))
      go_wp2_with fail;have HRd:=zh (HR2.out.chg (Chg.drewN (Chg.refl [] _) nq) (by simp));have HCd:=zh (HC2.out.drewN nq);clear Hd c1 c2;generalize wi.drewN nq=W at *;have c1:=HRd.out.cell (i:=k+1) (by omega);have c2:=HRd.out.cell (i:=k) (by omega);have f1:=HRd.out.fz (k+1);have f2':=HRd.out.fz k
      go_region
      have hs:=HRd.out.swap (j:=k+1) (by omega) (by omega);have hb2:=but_swp Hb.out (by omega) hji (by rw [Nat.add_sub_cancel];exact Hl.out);simp only [Nat.add_sub_cancel] at hs hb2;have HS:=zh (zA hs hb2);clear hs hb2 c1 c2 f1 f2';go_wp2_with fail
      go_roundw
      case rel=>exact ⟨k,swp f2 (k+1),by go_num,by omega,HS.out.2,HS.out.1.chg (Chg.drew (Chg.refl [] _)) (by simp),(good_swp (by omega) (by omega)).trans HG2.out,((HCd.out.setCell (.inl (by simp)) _).setCell (.inl (by simp)) _).drew⟩
      case measure=>simp [intOf]
     ·have hd:=fun n=>less_q (f2 (k+1)) (f2 k) wi n (b:=false) (by simp;omega)
      have Hd:=zh hd;have Hl:=zh hl;clear hd hl;go_wp2_with fail
      go_quiet ((go_at_call 188;exact Hd.out _))
      go_wp2_with fail
      go_roundw
      case rel=>exact ⟨i+1,f2,by go_num,by omega,.inl (by omega),but_done Hb.out (by omega) (by have:=Hl.out;rw [Nat.add_sub_cancel];omega),HR2.out.chg (Chg.drewN (Chg.refl [] _) _) (by simp),HG2.out,HC2.out.drewN _⟩
      case measure=>simp [intOf];omega
  ·go_wp2_with fail
   go_end0
   refine ⟨rfl,f',HR.out,fun a b hab hb=>Hs.out a b hab (by omega),HG.out,HC.out⟩
def SomeI (w:World) (e:Ending) (w':World):Prop:=∃ l:Int,e = .returned (.int .i64 l)/\w=w'
theorem len64_at (n:Nat) (w:World) (hn:n<=12):Calls Tryz.prog 206 #[.int .u64 (n:Int)] w (SomeI w):=by
 have h:n=0∨n=1∨n=2∨n=3∨n=4∨n=5∨n=6∨n=7∨n=8∨n=9∨n=10∨n=11∨n=12:=by omega
 rcases h with rfl | rfl | rfl | rfl | rfl | rfl | rfl | rfl | rfl | rfl | rfl | rfl | rfl
 all_goals
  go_enter Tryz.func206,Tryz.ntmps206
  go_wp2
  go_ret;exact ⟨_,rfl,rfl⟩
theorem len_at (n:Nat) (w:World) (hn:n<=12):Calls Tryz.prog 172 #[.int .u64 (n:Int)] w (SomeI w):=by
 go_enter Tryz.func172,Tryz.ntmps172;go_wp2_with (go_at_call 206;refine (len64_at n _ hn).mono ?_;rintro e w' ⟨l,rfl,rfl⟩);go_ret;exact ⟨_,rfl,rfl⟩
theorem pdq_at {w:World} {g n c:Nat} {f:Nat->Nat} (h:Row64 w g n f) (hn:n<=12) (hc:n<=c) (l:Int) :
  Calls Tryz.prog 210 #[.slice (some ⟨g,0,none⟩) n c,.int .i64 0,.int .i64 (n:Int),.int .i64 l] w fun e w' =>
   e = .returned (.tuple #[])/\∃ f',Row64 w' g n f'/\sortedTo f' n/\(GoodK f' n↔GoodK f n)/\Chg [g] w w':=by
 have H:=zh h;have hnI:(n:Int)<=12:=by omega
 clear h;go_enter Tryz.func210,Tryz.ntmps210;go_wp2_with fail;refine wp_loop_rounds 1 ?_;rw [rounds_succ];go_wp2_with fail;refine (ins_at H.out hn hc).mono ?_;rintro e w1 ⟨rfl,f',h1,h2,h3,h4⟩;have HH:=zh (zA h1 (zA h2 (zA h3 h4)));clear h1 h2 h3 h4;go_wp2_with fail;exact bodyPost_ret (v := .tuple #[]) (by simp [results,Tryz.results210,go_sem]) rfl ⟨rfl,f',HH.out.1,HH.out.2.1,HH.out.2.2.1,HH.out.2.2.2⟩
theorem sort_at {w:World} {g n c:Nat} {f:Nat->Nat} (h:Row64 w g n f) (hn:n<=12) (hc:n<=c) :
  Calls Tryz.prog 192 #[.slice (some ⟨g,0,none⟩) n c] w fun e w' =>
   e = .returned (.tuple #[])/\∃ f',Row64 w' g n f'/\sortedTo f' n/\(GoodK f' n↔GoodK f n)/\Chg [g] w w':=by
 have H:=zh h;clear h;go_enter Tryz.func192,Tryz.ntmps192;go_wp2_with fail;refine (len_at n _ hn).mono ?_;rintro e w' ⟨l,rfl,rfl⟩;go_wp2_with fail;refine (pdq_at H.out hn hc l).mono ?_;rintro e w1 ⟨rfl,f',h1,h2,h3,h4⟩;have HH:=zh (zA h1 (zA h2 (zA h3 h4)));clear h1 h2 h3 h4;go_wp2_with fail
 go_end0
 exact ⟨rfl,f',HH.out.1,HH.out.2.1,HH.out.2.2.1,HH.out.2.2.2⟩
theorem infoU64:(Tryz.prog.info? 44).map (fun i=>(i.zero,i.size,i.bytes))=some (some (.int .u64 0),1,8):=by kernel_rfl
theorem nums_append {w:World} {b off n:Nat} {f:Nat->Nat} (h:NumsAt w b off n f):∀ j u,((List.range n).map fun i=>Value.int .u64 (f i:Int))[j]?=some u->w.cell? ((⟨b,off,none⟩:Addr).add j)=some u:=by
 intro j u hj;simp only [List.getElem?_map] at hj;by_cases hlt:j<n
 ·simp [hlt] at hj
  subst hj;have e:(⟨b,off,none⟩:Addr).add j=⟨b,off+j,none⟩:=by unfold Addr.add;split <;> simp_all
  rw [e];exact (h j hlt).1
 ·simp [hlt] at hj
theorem clone64_at {w:World} {b off n cap:Nat} {f:Nat->Nat} (h:NumsAt w b off n f) (hn:n<=100000) (h0:0<n) :
  Calls Tryz.prog 191 #[.slice (some ⟨b,off,none⟩) n cap] w fun e w'=>∃ g c,e = .returned (.slice (some ⟨g,0,none⟩) n c)/\n<=c/\c<=maxLen/\w.heap.size<=g/\Row64 w' g n f/\Chg [] w w':=by
 have hb2:=h.chg ((Chg.refl [] w).alloc (.cells #[] 44)) (by simp);have Hn:=zh (nums_append hb2);have H:=zh h;obtain ⟨i0,hi,hz0,hz1,hz2⟩:=info_parts infoU64;have Hi:=zh hi;have he:=fun w:World=>Lib.run_eql_slice_nil (P:=Tryz.prog) w 84 44 (some ⟨b,off,none⟩) n cap 0 0 Tryz.underlying84;clear h hb2 hi;go_enter Tryz.func191,Tryz.ntmps191;go_wp2_with (at_builtin;refine wpList_append_own _ rfl _ _ 84 rfl w.heap.size 44 i0 (.int .u64 0) 1 8 Tryz.underlying84 Hi.out hz0 hz1 hz2 rfl (by decide) _ 0 [] rfl (World.ownsRow_made w #[] 0 (zLr _) (Nat.zero_le _) rfl) ⟨b,off,none⟩ n cap ((List.range n).map fun i=>Value.int .u64 (f i:Int)) rfl ?c0 Hn.out ?c1 ?c2 ?c3 ?c4 ?_)
 case c0=>simp
 case c1=>intro u hu;obtain ⟨a,_,rfl⟩:=List.mem_map.1 hu;rfl
 case c2=>unfold maxLen;omega
 case c3=>omega
 case c4=>simp
 intro v' w1 hown hgrow _;obtain ⟨g,c,cur,rfl,q1,q2,q3,q4,q5,q6⟩:=app_some' (n:=n) (xs:=(List.range n).map fun i=>Value.int .u64 (f i:Int)) (by rw [Nat.zero_add,List.nil_append];exact hown) h0;have HO:=zh (zA q2 q6);have HG:=zh hgrow;clear q2 q6 hown hgrow;go_wp2_with fail;go_ret;refine ⟨g,c,rfl,q3,q4,q1,⟨fun i hi=>⟨?_,(H.out i hi).2⟩,cur,HO.out.1⟩,?_⟩
 ·rw [zcb HO.out.1,Nat.zero_add]
  have:=congrArg (fun l=>l[i]?) HO.out.2;simp only [List.getElem?_take,if_pos hi,List.getElem?_map,List.getElem?_range hi,Option.map_some,Array.getElem?_toList] at this;exact this
 ·exact ((Chg.refl [] w).alloc _).grown HG.out (fun k hk => .inr (by simp [Value.ownBlock] at hk;omega))
def NoneLeft (w:World) (e:Ending) (w':World):Prop:=∃ a c,e = .returned (.slice a 0 c)/\Chg [] w w'
theorem clone64_none {w:World} : Calls Tryz.prog 191 #[.slice none 0 0] w (NoneLeft w):=by
 have he:=fun w:World=>Lib.run_eql_slice_nil (P:=Tryz.prog) w 84 44 none 0 0 0 0 Tryz.underlying84;go_enter Tryz.func191,Tryz.ntmps191;go_wp2_with fail;go_ret;exact ⟨_,_,rfl,Chg.refl _ _⟩
theorem clone64_empty {w:World} {x:Addr} {cap:Nat} : Calls Tryz.prog 191 #[.slice (some x) 0 cap] w (NoneLeft w):=by
 obtain ⟨i0,hi,hz0,hz1,hz2⟩:=info_parts infoU64;have Hi:=zh hi;have he:=fun w:World=>Lib.run_eql_slice_nil (P:=Tryz.prog) w 84 44 (some x) 0 cap 0 0 Tryz.underlying84;clear hi;go_enter Tryz.func191,Tryz.ntmps191;go_wp2_with (at_builtin;refine wpList_append_own _ rfl _ _ 84 rfl w.heap.size 44 i0 (.int .u64 0) 1 8 Tryz.underlying84 Hi.out hz0 hz1 hz2 rfl (by decide) _ 0 [] rfl (World.ownsRow_made w #[] 0 (zLr _) (Nat.zero_le _) rfl) x 0 cap [] rfl rfl (by simp) (by simp) (by decide) (by decide) ?c4 ?_)
 case c4=>simp
 intro v' w1 hown hgrow _;have HC:Hid (Chg [] w w1):=zh (((Chg.refl [] w).alloc _).grown hgrow (fun k hk => .inr (by simp [Value.ownBlock] at hk;omega)))
 obtain ⟨a,c,rfl⟩:∃ a c,v' = .slice a 0 c:=by
  rcases hown.2 with ⟨h,_⟩ | ⟨g,cap,cur,h,_⟩
  ·exact ⟨none,0,h⟩
  ·exact ⟨_,_,h⟩
 clear hown hgrow;go_wp2_with fail;go_ret;exact ⟨_,_,rfl,HC.out⟩
theorem sort_none {w:World} {a:Option Addr} {c:Nat} : Calls Tryz.prog 192 #[.slice a 0 c] w fun e w'=>e = .returned (.tuple #[])/\w=w':=by
 have h1:∀ w:World,Calls Tryz.prog 218 #[.slice a 0 c,.int .i64 0,.int .i64 0] w fun e w'=>e = .returned (.tuple #[])/\w=w':=fun w=>by
  go_enter Tryz.func218,Tryz.ntmps218;go_wp2_with fail;refine wp_loop_rounds 1 ?_;rw [rounds_succ];go_wp2_with fail
  go_end0
  exact ⟨rfl,rfl⟩
 have h2:∀ (l:Int) (w:World),Calls Tryz.prog 210 #[.slice a 0 c,.int .i64 0,.int .i64 0,.int .i64 l] w fun e w'=>e = .returned (.tuple #[])/\w=w':=fun l w=>by
  go_enter Tryz.func210,Tryz.ntmps210;go_wp2_with fail;refine wp_loop_rounds 1 ?_;rw [rounds_succ];go_wp2_with fail;refine (h1 _).mono ?_;rintro e w' ⟨rfl,rfl⟩;go_wp2_with fail;exact bodyPost_ret (v := .tuple #[]) (by simp [results,Tryz.results210,go_sem]) rfl ⟨rfl,rfl⟩
 go_enter Tryz.func192,Tryz.ntmps192;go_wp2_with fail;refine (len_at 0 _ (by omega)).mono ?_;rintro e w' ⟨l,rfl,rfl⟩;go_wp2_with fail;refine (h2 l _).mono ?_;rintro e w' ⟨rfl,rfl⟩;go_wp2_with fail
 go_end0
 exact ⟨rfl,rfl⟩
theorem chg_setCells {L:List Nat} {a:World} {b:Nat} (hb:b∈L):∀ (vs:List Value) (o:Nat) (w:World),Chg L a w->Chg L a (w.setCells b o vs)
 | [],_,_,h=>h
 | v::r,o,w,h=>chg_setCells hb r (o+1) _ (h.setCell (.inl hb) v)
theorem zero64 (w:World):(zeroValue 44).run Tryz.prog w = .ok (.int .u64 0) w:=by kernel_rfl
def Apart (f:Nat->Nat) (n:Nat):Prop:=∀ i,i+1<n->f i≠f (i+1)
def CompactOf (w:World) (g n c:Nat) (f:Nat->Nat) (e:Ending) (w':World):Prop:=∃ m,e = .returned (.slice (some ⟨g,0,none⟩) m c)/\m<=n/\(m=n↔Apart f n)/\Chg [g] w w'
theorem compact_at {w:World} {g n c:Nat} {f:Nat->Nat} (h:Row64 w g n f) (h1:1<=n) (hn:n<=12) (hc:n<=c) (hcm:c<=9223372036854775807) :
  Calls Tryz.prog 193 #[.slice (some ⟨g,0,none⟩) n c] w (CompactOf w g n c f):=by
 have H:=zh h;clear h;by_cases hn1:n=1
 ·have hlt:(n:Int)<2:=by omega
  have Hn1:=zh hn1;clear hn1;go_enter Tryz.func193,Tryz.ntmps193;go_wp2_with fail;go_ret;exact ⟨n,rfl,zLr _,⟨fun _ i hi=>by have:=Hn1.out;omega,fun _=>rfl⟩,Chg.refl _ _⟩
 ·have hlt:¬ (n:Int)<2:=by omega
  go_enter Tryz.func193,Tryz.ntmps193;go_wp2_with fail
  go_loopw [3] (fun s wr=>∃ i:Nat,s = .int .i64 (i:Int)/\1<=i/\i<=n/\Apart f i/\Chg [] w wr) (fun s _=>n - (intOf s).toNat)
  case atStart=>exact ⟨1,rfl,zLr _,h1,fun i hi=>by omega,Chg.refl _ _⟩
  case round =>
   obtain ⟨i,rfl,hi1,hi2,hA,hC⟩:=hrel;obtain ⟨wo,rfl⟩:∃ wo:World,wo=wr:=⟨_,rfl⟩;have HA:=zh hA;have HC:=zh hC;have hR:=H.out.chg hC (by simp);have HR:=zh hR;clear hA hC hR;by_cases hin:i<n
   ·obtain ⟨k,hk⟩:∃ k,i=k+1:=⟨i - 1,by omega⟩
    subst hk;have c1:=HR.out.cell (i:=k+1) hin;have c2:=HR.out.cell (i:=k) (by omega);have i0:(0:Int)<=(k:Int)+1:=by omega
    have i1:(k:Int)+1<(n:Int):=by omega
    have i2:(0:Int)<=(k:Int):=by omega
    have i3:(k:Int)<(n:Int):=by omega
    have e1:IntKind.i64.wrap ((k:Int)+1 - 1)=(k:Int):=by
     rw [show (k:Int)+1 - 1=(k:Int) by omega];exact IntWalk.i64_in _ (by omega)
    by_cases heq:f (k+1)=f k
    ·have hd:((f (k+1):Int)==(f k:Int))=true:=by simp [heq]
     have Heq:=zh heq;clear heq;go_wp2_with fail
     go_quiet (fail)
     have HRd:=zh (HR.out.chg (Chg.drewN (Chg.refl [] _) nq) (by simp));have HCd:=zh (HC.out.drewN nq);clear c1 c2;generalize wo.drewN nq=W at *;go_wp2_with fail;have hM0:k+1+(n - (k+1))=n:=by omega
     have hM1:k+1+(c - (k+1))=c:=by omega
     generalize n - (k+1)=M at *;generalize c - (k+1)=C at *
     go_loopw [3,5] (fun s t wr=>∃ (i q:Nat) (f2:Nat->Nat),s = .int .i64 (i:Int)/\t = .int .i64 ((q+1:Nat):Int)/\q+1<=M/\k+1<=i/\i<=k+1+q/\Row64 wr g n f2/\Chg [g] w wr) (fun _ t _=>M - (intOf t).toNat)
     case atStart=>exact ⟨k+1,0,f,rfl,rfl,by omega,zLr _,by omega,HRd.out,HCd.out.mono (by simp)⟩
     case round =>
      obtain ⟨i,q,f2,rfl,rfl,hq,hi3,hi4,hR2,hC2⟩:=hrel;obtain ⟨wi,rfl⟩:∃ wi:World,wi=wr:=⟨_,rfl⟩;have HR2:=zh hR2;have HC2:=zh hC2;clear hR2 hC2;by_cases hqM:q+1<M
      ·have c1:=HR2.out.cell (i:=k+1+(q+1)) (by omega)
       have c2:=HR2.out.cell (i:=k+1+q) (by omega);have j0:(0:Int)<=(q:Int)+1:=by omega
       have j1:(q:Int)+1<(M:Int):=by omega
       have j2:(0:Int)<=(q:Int):=by omega
       have j3:(q:Int)<(M:Int):=by omega
       have e2:IntKind.i64.wrap ((q:Int)+1 - 1)=(q:Int):=by
        rw [show (q:Int)+1 - 1=(q:Int) by omega];exact IntWalk.i64_in _ (by omega)
       have ci:=HR2.out.cell (i:=i) (by omega);have hin2:(i:Int)<(n:Int):=by omega
       have hi0:(0:Int)<=(i:Int):=by omega
       have hv:=(HR2.out.nums (k+1+(q+1)) (by omega)).2;have fi:=HR2.out.fz i;by_cases hxy:f2 (k+1+(q+1))=f2 (k+1+q)
       ·have hd:((f2 (k+1+(q+1)):Int) != (f2 (k+1+q):Int))=false:=by simp [hxy]
        clear hxy;go_wp2_with fail
        go_quiet (fail)
        go_wp2_with fail
        go_roundw
        case rel=>exact ⟨i,q+1,f2,rfl,by go_num,by omega,hi3,by omega,HR2.out.chg (Chg.drewN (Chg.refl [] _) _) (by simp),HC2.out.drewN _⟩
        case measure=>simp [intOf];omega
       ·have hd:((f2 (k+1+(q+1)):Int) != (f2 (k+1+q):Int))=true:=by simp;omega
        clear hxy;go_wp2_with fail
        go_quiet (fail)
        have HR3:=zh (HR2.out.chg (Chg.drewN (Chg.refl [] _) nq) (by simp));have HC3:=zh (HC2.out.drewN nq);have HS:=zh (HR3.out.set (i:=i) (v:=f2 (k+1+(q+1))) (by omega) hv);go_wp2_with fail
        go_roundw
        case rel=>exact ⟨i+1,q+1,_,by go_num,by go_num,by omega,by omega,by omega,HS.out,HC3.out.setCell (.inl (by simp)) _⟩
        case measure=>simp [intOf];omega
      ·have hi5:i<n:=by omega
       have hrun:=Lib.run_clear_slice (P:=Tryz.prog) wi 84 44 0 (.int .u64 0) Tryz.underlying84 zero64 rfl rfl g i (n - i) (c - i) (by omega)
        (fun j hj=>by rw [HR2.out.cell (i:=i+j) (by omega)];rfl) (fun j hj=>HR2.out.fz _)
       have HE:=zh (chg_setCells (L:=[g]) (a:=w) (b:=g) (by simp) (List.replicate (n - i) (.int .u64 0)) i wi HC2.out);have hin2:(i:Int)<=(n:Int):=by omega
       have hi0:(0:Int)<=(i:Int):=by omega
       go_wp2_with fail;go_ret;exact ⟨i,rfl,by omega,⟨fun h=>by omega,fun h=>absurd Heq.out.symm (h k (by omega))⟩,HE.out⟩
    ·have hd:((f (k+1):Int)==(f k:Int))=false:=by simp;omega
     have Heq:=zh heq;clear heq;go_wp2_with fail
     go_quiet (fail)
     go_wp2_with fail
     go_roundw
     case rel =>
      refine ⟨k+2,by go_num,by omega,by omega,fun j hj=>?_,HC.out.drewN _⟩;by_cases e:j=k
      ·subst e;exact fun q=>Heq.out q.symm
      ·exact HA.out j (by omega)
     case measure=>simp [intOf];omega
   ·obtain rfl:i=n:=by omega
    go_wp2_with fail;go_ret;exact ⟨i,rfl,zLr _,⟨fun _=>HA.out,fun _=>rfl⟩,HC.out.mono (by simp)⟩
theorem good_sorted {f:Nat->Nat} {n:Nat} (hs:sortedTo f n) (h1:1<=n):GoodK f n↔f 0≠0/\f (n - 1)<4096/\Apart f n:=by
 constructor
 ·rintro ⟨a,b⟩
  exact ⟨(a 0 (by omega)).1,(a (n - 1) (by omega)).2,fun i hi=>b i (i+1) (by omega) hi⟩
 ·rintro ⟨a,b,c⟩
  refine ⟨fun i hi=>⟨?_,?_⟩,fun i j hij hj=>?_⟩
  ·by_cases e:i=0
   ·subst e;exact a
   ·have:=hs 0 i (by omega) hi;omega
  ·by_cases e:i=n - 1
   ·subst e;exact b
   ·have:=hs i (n - 1) (by omega) (by omega);omega
  ·have h2:=c i (by omega)
   have h3:=hs i (i+1) (by omega) (by omega);by_cases e:j=i+1
   ·subst e;exact h2
   ·have:=hs (i+1) j (by omega) hj;omega
def kidsB (f:Nat->Nat) (n:Nat):Bool:=decide (1<=n)&&((List.range n).all (fun i=>decide (f i≠0/\f i<4096))&&(List.range n).all (fun j=>(List.range j).all fun i=>decide (f i≠f j)))
theorem kidsB_iff (f:Nat->Nat) (n:Nat):kidsB f n=true↔(1<=n/\GoodK f n):=by
 simp only [kidsB,GoodK,Bool.and_eq_true,decide_eq_true_eq,List.all_eq_true,List.mem_range];constructor
 ·rintro ⟨a,b,c⟩
  exact ⟨a,b,fun i j hij hj=>c j hj i hij⟩
 ·rintro ⟨a,b,c⟩
  exact ⟨a,b,fun j hj i hij=>c i j hij hj⟩
theorem kidsB_eq {f:Nat->Nat} {n:Nat} {b:Bool} (h:(1<=n/\GoodK f n)↔b=true):kidsB f n=b:=by
 rw [Bool.eq_iff_iff,kidsB_iff];exact h
theorem kids_at {A:List Nat} {w:World} {v:Value} {n:Nat} {f:Nat->Nat} (h:NumsIn A w v n f) (hn:n<=12) :
  Calls Tryz.prog 161 #[v] w fun e w'=>e = .returned (.bool (kidsB f n))/\Chg [] w w':=by
 by_cases h0:n=0
 ·subst h0
  have hk:kidsB f 0=false:=kidsB_eq (by simp)
  have c1:Calls Tryz.prog 191 #[v] w (NoneLeft w):=by
   rcases h with ⟨⟨a,c,rfl,_,hn⟩,_⟩ | ⟨b,off,cap,rfl,_⟩
   ·cases a with
    | none =>
     obtain rfl:=hn rfl;exact clone64_none
    | some x=>exact clone64_empty
   ·exact clone64_empty
  obtain ⟨a,cap,rfl⟩:=h.len;rw [hk];clear hk h;go_enter Tryz.func161,Tryz.ntmps161;go_wp2_with fail;refine c1.mono ?_;clear c1;rintro e w1 ⟨a',c',rfl,hC1⟩;have HC1:=zh hC1;clear hC1;go_wp2_with fail;refine sort_none.mono ?_;rintro e w' ⟨rfl,rfl⟩;go_wp2_with fail;go_ret;exact ⟨rfl,HC1.out⟩
 ·rcases h with ⟨_,h⟩ | ⟨b,off,cap,rfl,q1,q2,q3,q4,hN⟩
  ·exact absurd h h0
  ·have h1:1<=n:=by omega
   have HN:=zh hN;have hz:((n:Int)==0)=false:=by simp;omega
   clear hN h0;go_enter Tryz.func161,Tryz.ntmps161;go_wp2_with fail;refine (clone64_at HN.out (by omega) h1).mono ?_;rintro e w1 ⟨g,c,rfl,r1,r2,r3,hR,hC1⟩;have HR:=zh hR;have HC1:=zh hC1;unfold maxLen at r2;clear hR hC1;go_wp2_with fail;refine (sort_at HR.out hn r1).mono ?_;rintro e w2 ⟨rfl,f',hR2,hs,hG,hC2⟩;have HR2:=zh hR2;have HG:=zh (hG.symm.trans (good_sorted hs h1));have Hs:=zh hs;have HC2:=zh (HC1.out.then hC2 (by simp;exact r3));clear hR2 hs hG hC2;have c0:=HR2.out.cell (i:=0) (by omega);obtain ⟨k,hk⟩:∃ k,n=k+1:=⟨n - 1,by omega⟩;have ck:=HR2.out.cell (i:=k) (by omega);have e1:(n:Int) - 1=(k:Int):=by omega
   have i0:(0:Int)<=(k:Int):=by omega
   have i1:(k:Int)<(n:Int):=by omega
   have i2:(0:Int)<(n:Int):=by omega
   have ek:n - 1=k:=by omega
   rw [ek] at HG;clear hk ek;by_cases z0:f' 0=0
   ·have hd:((f' 0:Int)==0)=true:=by simp [z0]
    have E:=zh (kidsB_eq (f:=f) (n:=n) (b:=false) ⟨fun q=>absurd z0 (HG.out.1 q.2).1,fun q=>by cases q⟩);clear z0;go_wp2_with fail;go_ret;exact ⟨by rw [E.out];rfl,HC2.out⟩
   ·have hd:((f' 0:Int)==0)=false:=by simp;omega
    by_cases z1:f' k<4096
    ·have hd2:¬ (4096:Int)<=(f' k:Int):=by omega
     have Hz:=zh (zA z0 z1);clear z0 z1;go_wp2_with fail;refine (compact_at HR2.out h1 hn r1 (by omega)).mono ?_;rintro e w3 ⟨m,rfl,m1,m2,hC3⟩;have HC3:=zh (HC2.out.then hC3 (by simp;exact r3));have M2:=zh m2;clear m2 hC3;by_cases hmn:m=n
     ·have hdm:((m:Int)==(n:Int))=true:=by simp;omega
      have E:=zh (kidsB_eq (f:=f) (n:=n) (b:=true) ⟨fun _=>rfl,fun _=>⟨h1,HG.out.2 ⟨Hz.out.1,Hz.out.2,M2.out.1 hmn⟩⟩⟩);clear hmn;go_wp2_with fail;go_ret;exact ⟨by rw [E.out];simp,HC3.out⟩
     ·have hdm:((m:Int)==(n:Int))=false:=by simp;omega
      have E:=zh (kidsB_eq (f:=f) (n:=n) (b:=false) ⟨fun q=>absurd (M2.out.2 (HG.out.1 q.2).2.2) hmn,fun q=>by cases q⟩);clear hmn;go_wp2_with fail;go_ret;exact ⟨by rw [E.out];simp,HC3.out⟩
    ·have hd2:(4096:Int)<=(f' k:Int):=by omega
     have E:=zh (kidsB_eq (f:=f) (n:=n) (b:=false) ⟨fun q=>absurd (HG.out.1 q.2).2.1 z1,fun q=>by cases q⟩);clear z0 z1;go_wp2_with fail;go_ret;exact ⟨by rw [E.out];rfl,HC2.out⟩
def ascTo (f:Nat->Nat) (n:Nat):Prop:=∀ i,0<i->i<n->f (i - 1)<f i
def ascB (f:Nat->Nat) (n:Nat):Bool:=(List.range n).all fun i=>decide (0<i->f (i - 1)<f i)
theorem ascB_iff (f:Nat->Nat) (n:Nat):ascB f n=true↔ascTo f n:=by
 simp only [ascB,ascTo,List.all_eq_true,List.mem_range,decide_eq_true_eq];exact ⟨fun h i h1 h2=>h i h2 h1,fun h i h2 h1=>h i h1 h2⟩
def rightB (leaf:Bool) (nk nv:Nat) (keys vals:Nat->Nat):Bool:=decide (nk<=7)&&(decide (nv=nk)&&((leaf||kidsB vals nv)&&ascB keys nk))
theorem rightB_eq {leaf:Bool} {nk nv:Nat} {keys vals:Nat->Nat} {b:Bool} (h:(nk<=7/\nv=nk/\(leaf||kidsB vals nv)=true/\ascTo keys nk)↔b=true):rightB leaf nk nv keys vals=b:=by
 rw [Bool.eq_iff_iff];unfold rightB;rw [Bool.and_eq_true,Bool.and_eq_true,Bool.and_eq_true,decide_eq_true_eq,decide_eq_true_eq,ascB_iff];exact h
theorem lfRight_at {A:List Nat} {w:World} {leaf:Bool} {vk vv:Value} {nk nv:Nat} {keys vals:Nat->Nat} (hk:NumsIn A w vk nk keys) (hv:NumsIn A w vv nv vals) :
  Calls Tryz.prog 117 #[.agg #[.bool leaf,vk,vv]] w fun e w'=>e = .returned (.bool (rightB leaf nk nv keys vals))/\Chg [] w w':=by
 obtain ⟨ak,ck,rfl⟩:=hk.len;obtain ⟨av,cv,rfl⟩:=hv.len;have hW:=(Chg.refl [] w).alloc (.cells #[.bool leaf,.slice ak nk ck,.slice av nv cv] 107);have HX:=zh (znb w (.cells #[.bool leaf,.slice ak nk ck,.slice av nv cv] 107));have HK:=zh (hk.chg hW (by simp));have HV:=zh (hv.chg hW (by simp));have HW:=zh hW;clear hk hv hW;by_cases h7:7<nk
 ·have h7I:(7:Int)<(nk:Int):=by omega
  have E:=zh (rightB_eq (leaf:=leaf) (nk:=nk) (nv:=nv) (keys:=keys) (vals:=vals) (b:=false) ⟨fun h=>by omega,fun h=>by cases h⟩);clear h7;go_enter Tryz.func117,Tryz.ntmps117;go_wp2_with fail;go_ret;exact ⟨by rw [E.out];rfl,HW.out⟩
 by_cases hnv:nv=nk
 case neg =>
  have h7I:¬ (7:Int)<(nk:Int):=by omega
  have hne:((nv:Int) != (nk:Int))=true:=by simp;omega
  have E:=zh (rightB_eq (leaf:=leaf) (nk:=nk) (nv:=nv) (keys:=keys) (vals:=vals) (b:=false) ⟨fun h=>absurd h.2.1 hnv,fun h=>by cases h⟩);clear h7 hnv;go_enter Tryz.func117,Tryz.ntmps117;go_wp2_with fail;go_ret;exact ⟨by rw [E.out];rfl,HW.out⟩
 have h7I:¬ (7:Int)<(nk:Int):=by omega
 have hne:((nv:Int) != (nk:Int))=false:=by simp;omega
 have Hnv:=zh hnv;have H7:=zh h7;have hnv12:nv<=12:=by omega
 have hnk12:nk<=12:=by omega
 clear hnv h7
 cases leaf with
 | true =>
  have Hok:Hid (nk<=7/\nv=nk/\(true||kidsB vals nv)=true):=zh ⟨by have:=H7.out;omega,Hnv.out,rfl⟩;go_enter Tryz.func117,Tryz.ntmps117;go_wp2_with fail;generalize w.alloc (.cells #[.bool true,.slice ak nk ck,.slice av nv cv] 107)=W at *
  go_loopw [31] (fun s wr=>∃ i:Nat,s = .int .i64 (i:Int)/\i<=nk/\ascTo keys i/\Chg [] W wr) (fun s _=>nk - (intOf s).toNat)
  case atStart=>exact ⟨0,rfl,Nat.zero_le _,fun i h1 h2=>by omega,Chg.refl _ _⟩
  case round =>
   obtain ⟨i,rfl,hi,hA,hC⟩:=hrel;have hX:=(hC.block w.heap.size (zhl HX.out) (by simp)).trans HX.out;have hK:=HK.out.chg hC (by simp);have x1:=zcb hX 1;simp only [tA1,tA3,tA2] at x1;have HA:=zh hA;have HC:=zh hC;clear hA hC hX;by_cases hin:i<nk
   ·rcases hK with ⟨_,h0⟩ | ⟨kb,ko,kc,hke,k1,k2,k3,k4,k5⟩
    ·omega
    ·injection hke with hke1 _ hke3
     subst hke1 hke3;unfold maxLen at k2;by_cases h0:i=0
     ·subst h0
      have hd:decide ((0:Int)<((0:Nat):Int))=false:=rfl;clear k5;go_wp2_with fail
      go_quiet (fail)
      go_wp2_with fail
      go_roundw
      case rel=>exact ⟨1,by go_num,by omega,fun i h1 h2=>by omega,HC.out.drewN _⟩
      case measure=>simp [intOf];omega
     ·obtain ⟨q,hq⟩:∃ q,i=q+1:=⟨i - 1,by omega⟩
      subst hq;have c1:=(k5 (q+1) hin).1;have c2:=(k5 q (by omega)).1;have j0:(0:Int)<(q:Int)+1:=by omega
      have j1:(q:Int)+1<(nk:Int):=by omega
      have j2:(0:Int)<=(q:Int):=by omega
      have j3:(q:Int)<(nk:Int):=by omega
      have e2:IntKind.i64.wrap ((q:Int)+1 - 1)=(q:Int):=by
       rw [show (q:Int)+1 - 1=(q:Int) by omega];exact IntWalk.i64_in _ (by omega)
      clear k5;by_cases hlt:keys q<keys (q+1)
      ·have hd:decide (keys (q+1)<=keys q)=false:=by simp;omega
       have Hlt:=zh hlt;clear hlt;go_wp2_with fail
       go_quiet (fail)
       go_wp2_with fail
       go_roundw
       case rel =>
        refine ⟨q+2,by go_num,by omega,fun j h1 h2=>?_,HC.out.drewN _⟩;by_cases e:j=q+1
        ·subst e;exact Hlt.out
        ·exact HA.out j h1 (by omega)
       case measure=>simp [intOf];omega
      ·have hd:decide (keys (q+1)<=keys q)=true:=by simp;omega
       have E:=zh (rightB_eq (leaf:=true) (nk:=nk) (nv:=nv) (keys:=keys) (vals:=vals) (b:=false) ⟨fun h=>absurd (h.2.2.2 (q+1) (by omega) hin) hlt,fun h=>by cases h⟩);clear hlt;go_wp2_with fail
       go_quiet (fail)
       go_wp2_with fail;go_ret;exact ⟨by rw [E.out];rfl,HW.out.trans (HC.out.drewN _)⟩
   ·obtain rfl:i=nk:=by omega
    have E:=zh (rightB_eq (leaf:=true) (nk:=i) (nv:=nv) (keys:=keys) (vals:=vals) (b:=true) ⟨fun _=>rfl,fun _=>⟨Hok.out.1,Hok.out.2.1,Hok.out.2.2,HA.out⟩⟩);clear hK;go_wp2_with fail;go_ret;exact ⟨by rw [E.out];rfl,HW.out.trans HC.out⟩
 | false =>
  have cK:=kids_at HV.out hnv12
  cases hkb:kidsB vals nv with
  | false =>
   rw [hkb] at cK;have E:=zh (rightB_eq (leaf:=false) (nk:=nk) (nv:=nv) (keys:=keys) (vals:=vals) (b:=false) ⟨fun h=>by rw [hkb] at h;exact absurd h.2.2.1 (by decide),fun h=>by cases h⟩);clear hkb;go_enter Tryz.func117,Tryz.ntmps117;go_wp2_with fail;refine cK.mono ?_;clear cK;rintro e w1 ⟨rfl,hC1⟩;have HC1:=zh (HW.out.trans hC1);clear hC1;go_wp2_with fail;go_ret;exact ⟨by rw [E.out];rfl,HC1.out⟩
  | true =>
   rw [hkb] at cK;have Hok:Hid (nk<=7/\nv=nk/\(false||kidsB vals nv)=true):=zh ⟨by have:=H7.out;omega,Hnv.out,by rw [hkb];rfl⟩;clear hkb;go_enter Tryz.func117,Tryz.ntmps117;go_wp2_with fail;refine cK.mono ?_;clear cK;rintro e W ⟨rfl,hC1⟩;have HX0:=HX;have HK0:=HK;have HW0:=HW;clear HX HK HW;have HX:=zh ((hC1.block w.heap.size (zhl HX0.out) (by simp)).trans HX0.out);have HK:=zh (HK0.out.chg hC1 (by simp));have HW:=zh (HW0.out.trans hC1);have x1':=zcb HX.out 1;simp only [tA1,tA3,tA2] at x1';clear hC1 HX0 HK0 HW0;go_wp2_with fail;clear x1'
   go_loopw [31] (fun s wr=>∃ i:Nat,s = .int .i64 (i:Int)/\i<=nk/\ascTo keys i/\Chg [] W wr) (fun s _=>nk - (intOf s).toNat)
   case atStart=>exact ⟨0,rfl,Nat.zero_le _,fun i h1 h2=>by omega,Chg.refl _ _⟩
   case round =>
    obtain ⟨i,rfl,hi,hA,hC⟩:=hrel;have hX:=(hC.block w.heap.size (zhl HX.out) (by simp)).trans HX.out;have hK:=HK.out.chg hC (by simp);have x1:=zcb hX 1;simp only [tA1,tA3,tA2] at x1;have HA:=zh hA;have HC:=zh hC;clear hA hC hX;by_cases hin:i<nk
    ·rcases hK with ⟨_,h0⟩ | ⟨kb,ko,kc,hke,k1,k2,k3,k4,k5⟩
     ·omega
     ·injection hke with hke1 _ hke3
      subst hke1 hke3;unfold maxLen at k2;by_cases h0:i=0
      ·subst h0
       have hd:decide ((0:Int)<((0:Nat):Int))=false:=rfl;clear k5;go_wp2_with fail
       go_quiet (fail)
       go_wp2_with fail
       go_roundw
       case rel=>exact ⟨1,by go_num,by omega,fun i h1 h2=>by omega,HC.out.drewN _⟩
       case measure=>simp [intOf];omega
      ·obtain ⟨q,hq⟩:∃ q,i=q+1:=⟨i - 1,by omega⟩
       subst hq;have c1:=(k5 (q+1) hin).1;have c2:=(k5 q (by omega)).1;have j0:(0:Int)<(q:Int)+1:=by omega
       have j1:(q:Int)+1<(nk:Int):=by omega
       have j2:(0:Int)<=(q:Int):=by omega
       have j3:(q:Int)<(nk:Int):=by omega
       have e2:IntKind.i64.wrap ((q:Int)+1 - 1)=(q:Int):=by
        rw [show (q:Int)+1 - 1=(q:Int) by omega];exact IntWalk.i64_in _ (by omega)
       clear k5;by_cases hlt:keys q<keys (q+1)
       ·have hd:decide (keys (q+1)<=keys q)=false:=by simp;omega
        have Hlt:=zh hlt;clear hlt;go_wp2_with fail
        go_quiet (fail)
        go_wp2_with fail
        go_roundw
        case rel =>
         refine ⟨q+2,by go_num,by omega,fun j h1 h2=>?_,HC.out.drewN _⟩;by_cases e:j=q+1
         ·subst e;exact Hlt.out
         ·exact HA.out j h1 (by omega)
        case measure=>simp [intOf];omega
       ·have hd:decide (keys (q+1)<=keys q)=true:=by simp;omega
        have E:=zh (rightB_eq (leaf:=false) (nk:=nk) (nv:=nv) (keys:=keys) (vals:=vals) (b:=false) ⟨fun h=>absurd (h.2.2.2 (q+1) (by omega) hin) hlt,fun h=>by cases h⟩);clear hlt;go_wp2_with fail
        go_quiet (fail)
        go_wp2_with fail;go_ret;exact ⟨by rw [E.out];rfl,HW.out.trans (HC.out.drewN _)⟩
    ·obtain rfl:i=nk:=by omega
     have E:=zh (rightB_eq (leaf:=false) (nk:=i) (nv:=nv) (keys:=keys) (vals:=vals) (b:=true) ⟨fun _=>rfl,fun _=>⟨Hok.out.1,Hok.out.2.1,Hok.out.2.2,HA.out⟩⟩);clear hK;go_wp2_with fail;go_ret;exact ⟨by rw [E.out];rfl,HW.out.trans HC.out⟩
theorem each_enc {w:World} {bb g n:Nat} {leaf:Bool} {vk vv:Value} {keys vals:Nat->Nat} (hn:n<=7) (hk:NumsIn [g] w vk n keys) (hv:NumsIn [g] w vv n vals) (hbb:w.heap[bb]?=some (.cells #[.slice (some ⟨g,0,none⟩) 123 123] 22 (0,0)))
  (hb:w.heap[g]?=some (.cells (u8s 123 (bodyF n keys vals 0)) 5 (0,0))) (hne:bb≠g) :
  Calls Tryz.prog 118 #[.agg #[.bool leaf,vk,vv],.func (.func 119) #[] #[.pointer (some ⟨bb,0,none⟩)]] w fun e w' =>
   e = .returned (.tuple #[])/\w'.heap[g]?=some (.cells (u8s 123 (bodyF n keys vals n)) 5 (0,0))/\Chg [g] w w':=by
 obtain ⟨ak,ck,rfl⟩:=hk.len;obtain ⟨av,cv,rfl⟩:=hv.len;have hg:=zhl hb;have hW:=(Chg.refl [] w).alloc (.cells #[.bool leaf,.slice ak n ck,.slice av n cv] 107);have HX:=zh (znb w (.cells #[.bool leaf,.slice ak n ck,.slice av n cv] 107));have HK:=zh (hk.chg hW (by simp));have HV:=zh (hv.chg hW (by simp));have HBB:=zh ((hW.block bb (zhl hbb) (by simp)).trans hbb);have HB:=zh ((hW.block g hg (by simp)).trans hb);have HW:=zh hW;clear hk hv hbb hb hW;go_enter Tryz.func118,Tryz.ntmps118;go_wp2_with fail;generalize w.alloc (.cells #[.bool leaf,.slice ak n ck,.slice av n cv] 107)=W at *
 go_loopw [8] (fun s wr=>∃ k:Nat,k<=n/\s = .int .i64 (k:Int)/\wr.heap[g]?=some (.cells (u8s 123 (bodyF n keys vals k)) 5 (0,0))/\Chg [g] W wr) (fun s _=>n - (intOf s).toNat)
 case atStart=>exact ⟨0,Nat.zero_le _,rfl,HB.out,Chg.refl _ _⟩
 case round =>
  obtain ⟨k,hk,rfl,hBk,hCk⟩:=hrel;obtain ⟨wo,rfl⟩:∃ wo:World,wo=wr:=⟨_,rfl⟩;have hX:=(hCk.block w.heap.size (zhl HX.out) (by simp;omega)).trans HX.out;have hBB:=(hCk.block bb (zhl HBB.out) (by simp;omega)).trans HBB.out;have hK:=HK.out.chg hCk (by simp);have hV:=HV.out.chg hCk (by simp);have x1:=zcb hX 1;have x2:=zcb hX 2;have z0:=zcb hBB 0;simp only [tA1,tA3,tA2] at x1 x2 z0;have HXk:=zh hX;have HBBk:=zh hBB;have HBk:=zh hBk;have HCk:=zh hCk;clear hX hBB hBk hCk;by_cases hlk:k<n
  ·rcases hK with ⟨_,h0⟩ | ⟨kb,ko,kc,hke,k1,k2,k3,k4,k5⟩
   ·omega
   ·rcases hV with ⟨_,h0⟩ | ⟨vb,vo,vc,hve,v1,v2,v3,v4,v5⟩
    ·omega
    ·injection hke with hke1 _ hke3
     injection hve with hve1 _ hve3;subst hke1 hke3 hve1 hve3;obtain ⟨kc1,kc2⟩:=k5 k hlk;obtain ⟨vc1,vc2⟩:=v5 k hlk;have c1:=enc1_at z0 HBk.out (1+16*k) (by omega) (by omega) kc1 kc2;rw [show ((1+16*k:Nat):Int)=1+16*(k:Int) by omega] at c1;have i0:(0:Int)<=(k:Int):=by omega
     have i1:(k:Int)<(n:Int):=by omega
     have hko:kb≠g:=by simpa using k4
     have hvo:vb≠g:=by simpa using v4
     have E:=zh (bodyF_step n keys vals k);unfold maxLen at k2 v2;clear k5 v5 kc1 kc2;go_wp2_with fail;refine c1.mono ?_;clear c1;rintro e w3 ⟨rfl,hB3,hC3⟩;have z3:=(hC3.cell (p:=⟨bb,0,none⟩) (zhl HBBk.out) (by simp;omega)).trans z0;have y2:=(hC3.cell (p:=⟨w.heap.size,2,none⟩) (zhl HXk.out) (by simp;omega)).trans x2;have vc3:=(hC3.cell (p:=⟨vb,vo+k,none⟩) v3 (by simp;omega)).trans vc1;have c2:=enc1_at z3 hB3 (1+16*k+8) (by omega) (by omega) vc3 vc2;rw [show ((1+16*k+8:Nat):Int)=1+16*(k:Int)+8 by omega,E.out] at c2;have HC3:=zh (HCk.out.trans hC3);clear hB3 hC3 x1 x2 z0 vc1;go_wp2_with fail;refine c2.mono ?_;clear c2;rintro e w4 ⟨rfl,hB4,hC4⟩;have HB4:=zh hB4;have HC4:=zh (HC3.out.trans hC4);clear hB4 hC4;go_wp2_with fail
     go_roundw
     case rel=>exact ⟨k+1,by omega,by go_num,HB4.out,HC4.out⟩
     case measure=>simp [intOf];omega
  ·obtain rfl:k=n:=by omega
   go_wp2_with fail
   go_end0
   exact ⟨rfl,HBk.out,(HW.out.mono (by simp)).trans HCk.out⟩
end Go.Proofs.YtkhcaclndepgbaaGreat
