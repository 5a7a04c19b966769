/- Package disk: Flush. (Printed by mkdsk3.py.) · A loop over an iterator, told by how many rounds are over: the iterator may keep state of its own in cells, the body writes some blocks that there were. -/
import Derived.Test.YtkhcaclndepgbaaGreatZg04
import Derived.Deep.LoopGhost
import Derived.Test.YtkhcaclndepgbaaGreatZg01
import Derived.RangeFuncNested
import Derived.RangeFuncBound
import Derived.RangeFuncCalls
import Derived.RangeFuncLeaves
import Derived.Shelf.Abstract
import Derived.Shelf.RegionOpen
import Derived.OwnWalkIn
import Derived.TacticsInMore
import Derived.LoopNIn
import Derived.LoopIn
set_option linter.unusedVariables false
set_option linter.unusedSimpArgs false
set_option maxRecDepth 100000
set_option maxHeartbeats 20000000
namespace Go.Proofs.YtkhcaclndepgbaaGreat
open Go.RowKit
def fl (d:Nat→Nat→Nat) (l:List (Nat × (Nat→Nat))):Nat→Nat→Nat:=l.foldl (fun d x b=>if b=x.1 then x.2 else d b) d
theorem fl_snoc (d:Nat→Nat→Nat) (l:List (Nat × (Nat→Nat))) (x:Nat × (Nat→Nat)):fl d (l++[x])=fun b=>if b=x.1 then x.2 else fl d l b:=by unfold fl;rw [List.foldl_append];rfl
theorem fl_take {d:Nat→Nat→Nat} {l:List (Nat × (Nat→Nat))} {k:Nat} (h:k<l.length):fl d (l.take (k+1))=fun b=>if b=l[k].1 then l[k].2 else fl d (l.take k) b:=by
 rw [List.take_succ_eq_append_getElem h,fl_snoc]
theorem fl_le {d:Nat→Nat→Nat} {n:Nat} : ∀ (l:List (Nat × (Nat→Nat))) (d:Nat→Nat→Nat),(∀ b,b<n→∀ i,i<128→d b i≤255)→(∀ x,x∈l→∀ i,i<128→x.2 i≤255)→∀ b,b<n→∀ i,i<128→fl d l b i≤255
 | [],d,h,_=>h
 | x::r,d,h,hl=>by
  show ∀ b,b<n→∀ i,i<128→fl (fun b=>if b=x.1 then x.2 else d b) r b i≤255
  refine fl_le (d:=d) r _ (fun b hb i hi=>?_) (fun y hy=>hl y (by simp [hy]))
  split
  ·exact hl x (by simp) i hi
  ·exact h b hb i hi
theorem wpList_loadV {ops:Array Oper} {rest:List Oper} {op:Oper} {a:Act} {w:World} {Q:Exit→Act→World→Prop} {t:TypeId} {d:TypeDesc} {n k o:Nat} {V:Nat→Value} (hgd:op.guard=none) (x:Operand) (ho:op.op = .load t x) (hu:Tryz.prog.underlying t=some d) (hd:d.isRow=true) (hi:(Tryz.prog.info? t).map (·.size)=some n)
  (hx:a.eval x = .pointer (some ⟨k,o,none⟩)) (hS:∀ j,j<n→w.cell? ⟨k,o+j,none⟩=some (V j)) (h:wpList Tryz.prog ops Q rest (a.put op.dst (.agg (fnRow n V))) w):wpList Tryz.prog ops Q (op::rest) a w:=by
 refine wpList_load_mid hgd t x ho k o hx (fnRow n V).toList d (fun j v hv=>?_) hu hd (by rw [hi,Array.length_toList,zfs]) (by rw [Array.toArray_toList];exact h)
 have hj:j<n:=by
  by_cases hj:j<n
  ·exact hj
  ·rw [Array.getElem?_toList,Array.getElem?_eq_none (by rw [zfs];omega)] at hv;cases hv
 rw [Array.getElem?_toList,zfg hj] at hv
 rw [← Option.some.inj hv]
 exact hS j hj
theorem dFlush_at {w:World} {p bb:Nat} {wv:Value} {D:Dk} (h:DiskAt w p bb wv D) :
  Calls Tryz.prog 87 #[.pointer (some ⟨p,0,none⟩)] w fun e w'=>e = .returned (.int .i64 0)∧DiskAt w' p bb (.slice none 0 0) { D with data:=fl D.data D.waits,waits:=[] } ∧ Chg [p,bb] w w':=by
 have ht:=h.top
 have cm:=dMay_at h
 have cp:=dPower_at h
 obtain ⟨a,c,hwv,hwc,hwm⟩:=zos h.wts
 obtain ⟨n,hn⟩:∃ n,n=D.waits.length:=⟨_,rfl⟩
 rw [← hn] at hwv
 have hn6:n≤1000000:=by have:=h.wl;omega
 rw [hwv] at ht
 have HWV:=Lib.hid hwv
 have HN:=Lib.hid hn
 have H:=Lib.hid h
 have HT:=Lib.hid ht
 have c0:=zcb ht 0
 have c1:=zcb ht 1
 have c2:=zcb ht 2
 have c3:=zcb ht 3
 simp only [List.getElem?_toArray,List.getElem?_cons_zero,List.getElem?_cons_succ] at c0 c1 c2 c3
 clear h ht hwv hn hwc hwm
 go_enter Tryz.func87,Tryz.ntmps87
 go_wp2_with fail
 refine cm.mono ?_
 rintro e w' ⟨rfl,rfl⟩
 go_wp2_with fail
 refine cp.mono ?_
 rintro e w' ⟨rfl,rfl⟩
 clear cm cp
 go_wp2_with fail
 go_loopg [23] n (fun gg s wr=>∃ k:Nat,gg=n - k∧k≤n∧s = .int .i64 (k:Int)∧Hid (wr.heap[bb]?=some (.cells (rowD D.n (fl D.data (D.waits.take k))) 169 (0,0))∧Chg [bb] w wr))
 case atStart=>exact ⟨0,rfl,Nat.zero_le _,by go_num,Lib.hid ⟨H.out.blk,Chg.refl _ _⟩⟩
 case round =>
  obtain ⟨k,hgg,hkn,rfl,hX⟩:=hrel
  obtain ⟨wo,rfl⟩:∃ wo:World,wo=wr:=⟨_,rfl⟩
  have HX:=Lib.hid hX.out
  have HGG:=Lib.hid hgg
  clear hX hgg c0 c1 c2 c3
  have HT1:=Lib.hid ((HX.out.2.block p H.out.lt.1 (by simp;exact H.out.ne)).trans HT.out)
  by_cases hk:k<n
  case' neg =>
   obtain rfl:k=n:=by omega
   have ht:=HT1.out
   have d0:=zcb ht 0
   have d1:=zcb ht 1
   have d2:=zcb ht 2
   have d3:=zcb ht 3
   simp only [List.getElem?_toArray,List.getElem?_cons_zero,List.getElem?_cons_succ] at d0 d1 d2 d3
   have lp:=zhl ht
   have fz:=zfb ht 1
   clear ht
   go_wp2_with fail
   go_ret
   refine ⟨rfl,{ n1:=H.out.n1,n2:=H.out.n2,le:=fl_le (d:=D.data) _ _ H.out.le (fun x hx=>(H.out.wle x hx).2),top:=zsb HT1.out 1 _,blk:=?_,wts:=row_zero,wle:=(fun x hx=>by cases hx),wl:=Nat.zero_le _ },?_⟩
   ·have:=HX.out.1
    rw [HN.out,List.take_length] at this
    exact (zso 1 _ (fun e=>H.out.ne e.symm)).trans this
   ·exact (HX.out.2.mono (by simp)).setCell (.inl (by simp)) _
  case' pos =>
   have hkl:k<D.waits.length:=by rw [← HN.out];exact hk
   obtain ⟨g,cg,e1,_,_,_,hgl,hcell⟩:=zol H.out.wts (by omega)
   rw [HWV.out] at e1
   injection e1 with e1a e1b e1c
   subst e1a
   obtain ⟨xx,hxx⟩:∃ xx,xx=D.waits[k]:=⟨_,rfl⟩
   have HXX:=Lib.hid hxx
   have hne:g≠bb:=fun e=>H.out.wne.2 (by rw [HWV.out];simp [Value.ownBlock,e])
   have HL:Hid (∀ j,j<129→wo.cell? ⟨g,k*129+j,none⟩=some (wrV xx j)):=Lib.hid fun j hj=>(HX.out.2.cell (p:=⟨g,k*129+j,none⟩) hgl (by simp;exact hne)).trans ((hcell _ (by omega)).trans (by rw [wrCells_get D.waits k j hkl hj,hxx]))
   have HAT:Hid (xx.1<D.n):=Lib.hid (by rw [hxx];exact (H.out.wle _ (List.getElem_mem hkl)).1)
   have i1:(k:Int)<(n:Int):=by omega
   have HGL:=Lib.hid hgl
   clear hcell hxx e1b e1c hgl hne
   go_upto_region 10 with (first
    | (refine wpList_loadV rfl (.tmp 25) (t:=171) (n:=129) (k:=g) (o:=k*129) (V:=wrV xx) rfl Tryz.underlying171 rfl (by rw [show (Tryz.prog.info? 171).map (·.size)=some 129 from by kernel_rfl]) (by simp [Act.eval,Act.put]) HL.out ?_)
    | (refine wpList_storeNew rfl 171 (.tmp 6) (.tmp 26) rfl _ (fnRow 129 (wrV xx)) _ 129 rfl rfl rfl (by kernel_rfl) (by rw [zeroWr,wrRow,zfs]) (by rw [zfs]) (wrRow_one _) ?_))
   have hx:=znb wo (.cells (fnRow 129 (wrV xx)) 171)
   have hc1:=(Chg.refl [] wo).alloc (.cells (fnRow 129 (wrV xx)) 171)
   generalize wo.alloc (.cells (fnRow 129 (wrV xx)) 171)=W at *
   have HC1:=Lib.hid hc1
   have HXB:=Lib.hid hx
   have HP:=Lib.hid ((hc1.cell (p:=⟨p,0,none⟩) (zhl HT1.out) (by simp)).trans (show wo.cell? ⟨p,0,none⟩=some (.slice (some ⟨bb,0,none⟩) D.n D.n) from (zcb HT1.out 0).trans rfl))
   have HBB:=Lib.hid ((hc1.block bb (zhl HX.out.1) (by simp)).trans HX.out.1)
   have HRW:Hid (∀ j,j<129→W.cell? ⟨wo.heap.size,j,none⟩=some (wrV xx j)):=Lib.hid fun j hj=>(zcb hx j).trans (zfg hj)
   clear hc1 hx
   refine wp_region_held_drew (S:=fun W'=>∀ j,j<129→W'.cell? ⟨wo.heap.size,j,none⟩=some (wrV xx j)) (by kernel_rfl) (by exact HRW.out) (fun hHeld=>?_)
   refine wV 0 ?_ (hy:=by intro W' s0;go_simp;first | done | with_reducible rfl)
   refine wV 1 ?_ (hy:=by intro W' s0;go_simp;first | done | with_reducible rfl)
   refine wV 2 ?_ (hy:=by intro W' s0;go_simp;first | done | with_reducible rfl)
   try simp only [Act.put,sA1,sA2,sA3]
   refine wpAnyH_take (i:=3) (oi:=?_) (v := .agg (fnRow 129 (wrV xx))) ?_ (by kernel_rfl) (by kernel_rfl) (by kernel_rfl) ?_ (yields_row (k:=wo.heap.size) (o:=0) (n:=129) (V:=wrV xx) Tryz.underlying171 rfl (by rw [show (Tryz.prog.info? 171).map (·.size)=some 129 from by kernel_rfl]) ?_ (.tmp 6) ?_ ?_ (fun w' hw=>by intro j hj;rw [Nat.zero_add];exact hw j hj)) hHeld ?_
   rotate_left 1
   ·(simp only [tA1,tA2,tA3];rfl)
   ·exact fun _ _ _ h=>h
   ·rfl
   ·rfl
   ·simp [Act.eval,Act.put]
   try simp only [Act.put,sA1,sA2,sA3]
   refine wE 4 (fun K hK=>?_)
   ·(go_simp;refine (dpPut_at (w:=W.drew) (p:=p) (bb:=bb) (at':=xx.1) (f:=xx.2) HP.out HBB.out HAT.out H.out.n2).mono ?_;rintro e w5 ⟨rfl,hb5,hc5⟩;have HB5:=Lib.hid hb5;have HC5:=Lib.hid hc5;clear hb5 hc5)
    refine hK.out _ _ (fun j hj=>(HC5.out.cell (p:=⟨wo.heap.size,j,none⟩) (zhl HXB.out) (by simp only [List.mem_singleton];have:=zhl HX.out.1;omega)).trans (HRW.out j hj)) (fun hHeld=>?_)
    clear hK K
    try simp only [Act.put,sA1,sA2,sA3]
    refine wpAnyH_done (by kernel_rfl) ?_ _
    go_wp2_with fail
    go_roundg (n - (k+1))
    case measure=>rw [HGG.out];omega
    case rel =>
     refine ⟨k+1,rfl,by omega,by go_num,Lib.hid ⟨?_,?_⟩⟩
     ·rw [HB5.out,fl_take (by rw [← HN.out];exact hk),← HXX.out]
     ·exact (HX.out.2.trans (HC1.out.mono (by simp))).trans ((Chg.refl [bb] W).drew.trans HC5.out)
def rfPost (Lw:List Nat) (I:World→Prop) (Ix:Code→World→Prop) (W:World):Exit→Act→World→Prop
 | .normal,_,W'=>Chg Lw W W'∧I W'
 | .ret,_,W'=>Chg Lw W W'∧Ix .ret W'
 | .exit id,_,W'=>Chg Lw W W'∧Ix (.exit id) W'
 | _,_,_=>False
def IterN (F:Fence) (n:Nat) (P:Program) (gf:Nat) (lb:Array Value) (args:Nat→Array Value) (N:Nat) (Lw:List Nat) (w:World):Prop :=
 ∀ (l:Nat) (J Jx:Nat→World→Prop) (W:World),Below w.heap.size w W→w.heap.size≤l→l<W.heap.size →
  (∀ k A B,J k A→Below W.heap.size A B→J k B)→(∀ k A B,Jx k A→Below W.heap.size A B→Jx k B) →
  (∀ k W1,J k W1→k<N→YieldAt F (n - 1) P l (args k) W1 fun e W'=>(e = .returned (.bool true)∧J (k+1) W'∧Chg (l::Lw) W1 W')∨(e = .returned (.bool false)∧Jx (k+1) W'∧Chg (l::Lw) W1 W')) →
  J 0 W→CallsIn F n P gf (#[.func (.yield l) #[] #[]]++lb) W fun e W'=>(∃ v,e = .returned v)∧(J N W'∨∃ k,k≤N∧Jx k W')
def IterA (F:Fence) (n:Nat) (P:Program) (gf:Nat) (lb:Array Value) (Pj:World→Prop) (Av:Nat→World→Array Value→Prop) (N:Nat) (Lw:List Nat) (w:World):Prop :=
 ∀ (l:Nat) (J Jx:Nat→World→Prop) (W:World),Below w.heap.size w W→w.heap.size≤l→l<W.heap.size →
  (∀ k A B,J k A→Below W.heap.size A B→J k B)→(∀ k A B,Jx k A→Below W.heap.size A B→Jx k B)→(∀ k A,J k A→Pj A) →
  (∀ k W1 av,J k W1→k<N→Av k W1 av→YieldAt F (n - 1) P l av W1 fun e W'=>(e = .returned (.bool true)∧J (k+1) W'∧Chg (l::Lw) W1 W')∨(e = .returned (.bool false)∧Jx (k+1) W'∧Chg (l::Lw) W1 W')) →
  J 0 W→CallsIn F n P gf (#[.func (.yield l) #[] #[]]++lb) W fun e W'=>(∃ v,e = .returned v)∧(J N W'∨∃ k,k≤N∧Jx k W')
theorem IterN.av {F:Fence} {n:Nat} {P:Program} {gf:Nat} {lb:Array Value} {args:Nat→Array Value} {N:Nat} {Lw:List Nat} {w:World} (h:IterN F n P gf lb args N Lw w):IterA F n P gf lb (fun _=>True) (fun k _ av=>av=args k) N Lw w :=
 fun l J Jx W h1 h2 h3 h4 h5 _ h6 h7=>h l J Jx W h1 h2 h3 h4 h5 (fun k W1 a b=>h6 k W1 _ a b rfl) h7
theorem Chg.afar {L:List Nat} {W0 A B:World} (c:Chg L W0 A) (h:Below W0.heap.size A B):Chg L W0 B :=
 ⟨h.os.trans c.os,h.tape.trans c.tape,h.output.trans c.output,Nat.le_trans c.size h.size,fun k hk hn=>(h.block k hk).trans (c.block k hk hn)⟩
theorem below_put {W:World} {B l:Nat} (o:Obj) (h:B≤l):Below B W (W.putObj l o) :=
 ⟨rfl,rfl,rfl,by simp,fun k hk=>World.putObj_heap_other (by omega)⟩
theorem chg_put {W:World} {l:Nat} (o:Obj):Chg [l] W (W.putObj l o) :=
 ⟨rfl,rfl,rfl,by simp,fun k hk hn=>World.putObj_heap_other (by simpa using hn)⟩
variable {F:Fence} {n:Nat} {P:Program}
theorem wpIn_rangeFunc_av {g:Operand} {ps:Array Tmp} {assign body:Code} {Q:Exit→Act→World→Prop} {a:Act} {w:World}
  (hro:F.round=none) (h1:1≤n) {gf:Nat} {lb:Array Value} (hg:a.eval g = .func (.func gf) #[] lb) (hFg:F.fn gf) (eg:∀ args w,(callFunc gf args).run P w = .ok (.enter gf args) w)
  {Av:Nat→World→Array Value→Prop} {N:Nat} {Lw:List Nat} {Pj:World→Prop} (hseq:IterA F (n - 1) P gf lb Pj Av N Lw w) (hLw:∀ x,x∈Lw→x<w.heap.size) (hps:∀ k W av,Av k W av→av.size=ps.size)
  (I:Nat→World→Prop) (Ix:Code→Nat→World→Prop) (hI:∀ k A B,I k A→Below w.heap.size A B→I k B) (hIx:∀ c k A B,Ix c k A→Below w.heap.size A B→Ix c k B) (h0:I 0 w) (hPj:∀ k A,I k A→Pj A)
  (hround:∀ (l k:Nat) (W:World) (av:Array Value),w.heap.size≤l→l<W.heap.size→I k W→k<N→Av k W av→(∃ r:Loop,W.heap[l]?=some (.loop r)) →
   assign.wpIn (F.inRound l) (n - 1 - 1) P (Exit.then (fun a1 W1=>Chg Lw W W1∧∀ W2,Chg [l] W1 W2→body.wpIn (F.inRound l) (n - 1 - 1) P (rfPost Lw (I (k+1)) (fun c=>Ix c (k+1)) W2) a1 W2) (fun _ _ _=>False))
    { tmps:=(ps.zip av).foldl (fun t (p,v)=>t.setIfInBounds p v) a.tmps,defers:=[] } W)
  (hdone:∀ (D:Nat) (W:World),w.heap.size≤D→I N W→W.heap[D]?=some (.deferred (some []))→Q .normal { a with defers := { target := .collected D,args:=#[] } :: a.defers } W)
  (hstop:∀ (D:Nat) (c:Code) (k:Nat) (W:World),w.heap.size≤D→k≤N→Ix c k W→W.heap[D]?=some (.deferred (some []))→c.wpIn F n P Q { a with defers := { target := .collected D,args:=#[] } :: a.defers } W) :
  (Code.rangeFunc g ps assign body).wpIn F n P Q a w:=by
 refine wpIn_rangeFunc ?_
 intro fn hfn
 rw [hro]
 obtain ⟨rec,hrec⟩:∃ rec:LoopState→Option Code→Loop,rec=fun st pe => { state:=st,pending:=pe,fn,tmps:=a.tmps,params:=ps,assign,body,defers:=w.heap.size } := ⟨_,rfl⟩
 obtain ⟨W1,hW1⟩:∃ W1,(w.alloc (.deferred (some []))).alloc (.loop (rec .ready none))=W1:=⟨_,rfl⟩
 have hL1:W1.heap[w.heap.size+1]?=some (.loop (rec .ready none)):=by rw [← hW1];exact znc w _ _
 have hK1:W1.heap[w.heap.size]?=some (.deferred (some [])):=by rw [← hW1];exact znd w _ _
 have hb1:Below w.heap.size w W1:=by rw [← hW1];exact ((Below.refl _ w).alloc (Nat.le_refl _) _).alloc (by simp) _
 have hs1:W1.heap.size=w.heap.size+2:=by rw [← hW1];simp
 refine ⟨w.heap.size+1,[{ target := .collected w.heap.size,args:=#[] }],W1,{ target := .fn (.func gf) lb,args:=#[.func (.yield (w.heap.size+1)) #[] #[]] },W1,gf,
  #[.func (.yield (w.heap.size+1)) #[] #[]]++lb,W1,?_,?_,?_,?_,fun _=>h1,?_⟩
 ·rw [← hW1,hrec];exact run_enterLoop_outer _ _ _ _ _
 ·simp only [resolve,hg]
  simp [go_sem]
 ·intro f' hf';simp [Target.leads] at hf';subst hf';exact hFg
 ·simp [invoke,go_sem,eg]
 ·refine (hseq (w.heap.size+1)
   (fun k W=>I k W∧W.heap[w.heap.size+1]?=some (.loop (rec .ready none))∧W.heap[w.heap.size]?=some (.deferred (some [])))
   (fun k W=>∃ c,Ix c k W∧W.heap[w.heap.size+1]?=some (.loop (rec .done (some c)))∧W.heap[w.heap.size]?=some (.deferred (some [])))
   W1 hb1 (by omega) (by omega)
   (fun k A B h hab=>⟨hI k A B h.1 (hab.mono (by omega)),(hab.block _ (by omega)).trans h.2.1,(hab.block _ (by omega)).trans h.2.2⟩)
   (fun k A B h hab=>by
    obtain ⟨c,hc,hl,hk⟩:=h
    exact ⟨c,hIx c k A B hc (hab.mono (by omega)),(hab.block _ (by omega)).trans hl,(hab.block _ (by omega)).trans hk⟩)
   (fun k A h=>hPj k A h.1) ?_ ⟨hI 0 w W1 h0 hb1,hL1,hK1⟩).mono ?_
  ·rintro k W av ⟨hi,hl,hk⟩ hkN hav
   have hlt:w.heap.size+1<W.heap.size:=zhl hl
   have hy:=run_yield (P:=P) (args:=av) hl (by rw [hrec];exact hps k W av hav)
   rw [hrec] at hy
   refine ⟨fn,_,assign,body,hy,roundIn_of_wpIn hfn (wpIn_mono (hround (w.heap.size+1) k W av (by omega) hlt hi hkN hav ⟨_,hl⟩) ?_)⟩
   clear hy
   intro e a1 Wa hp
   cases e with
   | normal =>
    obtain ⟨hca,hbd⟩:=hp
    have hnL:∀ i,w.heap.size≤i→i∉Lw:=fun i hi hm=>by have:=hLw i hm;omega
    have hla:=(hca.block _ hlt (hnL _ (by omega))).trans hl
    have hka:=(hca.block _ (by omega) (hnL _ (Nat.le_refl _))).trans hk
    have hlta:w.heap.size+1<Wa.heap.size:=zhl hla
    refine ⟨_,run_beginRound hla (by rw [hrec]),?_⟩
    have hc2:=chg_put (W:=Wa) (l:=w.heap.size+1) (.loop { rec .ready none with state := .busy })
    have hl2:(Wa.putObj (w.heap.size+1) (.loop { rec .ready none with state := .busy })).heap[w.heap.size+1]?=some (.loop { rec .ready none with state := .busy }):=World.putObj_heap_same hlta
    have hk2:(Wa.putObj (w.heap.size+1) (.loop { rec .ready none with state := .busy })).heap[w.heap.size]?=some (.deferred (some [])):=(World.putObj_heap_other (by omega)).trans hka
    refine wpIn_mono (hbd _ hc2) ?_
    have fin:∀ (jump:Option Code) (W3:World),Chg Lw (Wa.putObj (w.heap.size+1) (.loop { rec .ready none with state := .busy })) W3 →
      (Instr.endRound (w.heap.size+1) jump).run P W3 = .ok (.bool jump.isNone) (W3.putObj (w.heap.size+1) (.loop (rec (if jump.isNone then .ready else .done) jump))) ∧
      (W3.putObj (w.heap.size+1) (.loop (rec (if jump.isNone then .ready else .done) jump))).heap[w.heap.size+1]?=some (.loop (rec (if jump.isNone then .ready else .done) jump)) ∧
      (W3.putObj (w.heap.size+1) (.loop (rec (if jump.isNone then .ready else .done) jump))).heap[w.heap.size]?=some (.deferred (some [])) ∧
      Chg ((w.heap.size+1)::Lw) W (W3.putObj (w.heap.size+1) (.loop (rec (if jump.isNone then .ready else .done) jump))):=fun jump W3 hk3=>by
     have hl3:=(hk3.block _ (zhl hl2) (hnL _ (by omega))).trans hl2
     have hk3':=(hk3.block _ (zhl hk2) (hnL _ (Nat.le_refl _))).trans hk2
     have hr:=run_endRound (P:=P) jump hl3
     refine ⟨?_,World.putObj_heap_same (zhl hl3),(World.putObj_heap_other (by omega)).trans hk3',?_⟩
     ·rw [hrec] at hr ⊢
      exact hr
     ·exact (((hca.mono (by simp +contextual)).trans (hc2.mono (by simp))).trans (hk3.mono (by simp +contextual))).trans ((chg_put _).mono (by simp))
    rintro e a3 W3 hp
    cases e with
    | normal =>
     obtain ⟨hk3,hi3⟩:=hp
     obtain ⟨hr,hl4,hk4,hc4⟩:=fin none W3 hk3
     exact ⟨_,_,hr,.inl ⟨rfl,⟨hI _ _ _ hi3 (below_put _ (by omega)),hl4,hk4⟩,hc4⟩⟩
    | ret =>
     obtain ⟨hk3,hi3⟩:=hp
     obtain ⟨hr,hl4,hk4,hc4⟩:=fin (some .ret) W3 hk3
     exact ⟨_,_,hr,.inr ⟨rfl,⟨.ret,hIx _ _ _ _ hi3 (below_put _ (by omega)),hl4,hk4⟩,hc4⟩⟩
    | exit id =>
     obtain ⟨hk3,hi3⟩:=hp
     obtain ⟨hr,hl4,hk4,hc4⟩:=fin (some (.exit id)) W3 hk3
     exact ⟨_,_,hr,.inr ⟨rfl,⟨.exit id,hIx _ _ _ _ hi3 (below_put _ (by omega)),hl4,hk4⟩,hc4⟩⟩
    | goto t=>exact hp.elim
    | panic ch=>exact hp.elim
    | outgrown=>exact hp.elim
   | ret=>exact hp.elim
   | exit id=>exact hp.elim
   | goto t=>exact hp.elim
   | panic ch=>exact hp.elim
   | outgrown=>exact hp.elim
  ·rintro e W2 ⟨⟨v,rfl⟩,(⟨hi,hl,hk⟩ | ⟨k,hkN,c,hi,hl,hk⟩)⟩
   ·exact ⟨none,_,by have:=run_endLoop (P:=P) hl (by rw [hrec];simp);rw [hrec] at this;exact this,hdone _ _ (Nat.le_refl _) (hI _ _ _ hi (below_put _ (by omega))) ((World.putObj_heap_other (by omega)).trans hk)⟩
   ·exact ⟨some c,_,by have:=run_endLoop (P:=P) hl (by rw [hrec];simp);rw [hrec] at this;exact this,hstop _ c k _ (Nat.le_refl _) hkN (hIx _ _ _ _ hi (below_put _ (by omega))) ((World.putObj_heap_other (by omega)).trans hk)⟩
theorem wpIn_rangeFunc_idx {g:Operand} {ps:Array Tmp} {assign body:Code} {Q:Exit→Act→World→Prop} {a:Act} {w:World}
  (hro:F.round=none) (h1:1≤n) {gf:Nat} {lb:Array Value} (hg:a.eval g = .func (.func gf) #[] lb) (hFg:F.fn gf) (eg:∀ args w,(callFunc gf args).run P w = .ok (.enter gf args) w)
  {args:Nat→Array Value} {N:Nat} {Lw:List Nat} (hseq:IterN F (n - 1) P gf lb args N Lw w) (hLw:∀ x,x∈Lw→x<w.heap.size) (hps:∀ k,(args k).size=ps.size)
  (I:Nat→World→Prop) (Ix:Code→Nat→World→Prop) (hI:∀ k A B,I k A→Below w.heap.size A B→I k B) (hIx:∀ c k A B,Ix c k A→Below w.heap.size A B→Ix c k B) (h0:I 0 w)
  (hround:∀ (l k:Nat) (W:World),w.heap.size≤l→l<W.heap.size→I k W→k<N →
   assign.wpIn (F.inRound l) (n - 1 - 1) P (Exit.then (fun a1 W1=>Chg Lw W W1∧∀ W2,Chg [l] W1 W2→body.wpIn (F.inRound l) (n - 1 - 1) P (rfPost Lw (I (k+1)) (fun c=>Ix c (k+1)) W2) a1 W2) (fun _ _ _=>False))
    { tmps:=(ps.zip (args k)).foldl (fun t (p,v)=>t.setIfInBounds p v) a.tmps,defers:=[] } W)
  (hdone:∀ (D:Nat) (W:World),w.heap.size≤D→I N W→W.heap[D]?=some (.deferred (some []))→Q .normal { a with defers := { target := .collected D,args:=#[] } :: a.defers } W)
  (hstop:∀ (D:Nat) (c:Code) (k:Nat) (W:World),w.heap.size≤D→k≤N→Ix c k W→W.heap[D]?=some (.deferred (some []))→c.wpIn F n P Q { a with defers := { target := .collected D,args:=#[] } :: a.defers } W) :
  (Code.rangeFunc g ps assign body).wpIn F n P Q a w:=by
 exact wpIn_rangeFunc_av hro h1 hg hFg eg (Av:=fun k _ av=>av=args k) hseq.av hLw (fun k W av h=>by rw [h];exact hps k) I Ix hI hIx h0 (fun _ _ _=>trivial) (fun l k W av h2 h3 h4 h5 h6 _=>by rw [h6];exact hround l k W h2 h3 h4 h5) hdone hstop
end Go.Proofs.YtkhcaclndepgbaaGreat
