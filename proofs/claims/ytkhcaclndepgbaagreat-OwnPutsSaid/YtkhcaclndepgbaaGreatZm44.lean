/- Layer 14's reference: Refs: the walk. · Layer 14's Counted: the walk. · Layer 14's statements: same, of two nodes that are. · A node that came in. -/
import Derived.Test.YtkhcaclndepgbaaGreatZm43
import Derived.Test.YtkhcaclndepgbaaGreatZm16
import Derived.Test.YtkhcaclndepgbaaGreatZm41
import Derived.Test.YtkhcaclndepgbaaGreatZm20
import Derived.Test.YtkhcaclndepgbaaGreatZm42
import Derived.ProofKit
import Derived.ChangeArms
import Derived.Lib.SmallJoins
set_option linter.unusedVariables false
set_option linter.unusedSimpArgs false
set_option maxRecDepth 100000
set_option maxHeartbeats 20000000
namespace Go.Proofs.YtkhcaclndepgbaaGreat
open Go.RowKit
def TopIn (A:List Nat) (w:World) (B:Bs) (ht:Ht) (r:Nat) (U:List Value):Prop :=
 (r=0∧U=[.int .i64 0,.bool false,.slice none 0 0,.slice none 0 0,.slice none 0 0])∨∃ f c,ht r=some c∧TrIn A w B f r U
theorem TopIn.chg {A A' L:List Nat} {w w':World} {B:Bs} {ht:Ht} {r:Nat} {U:List Value} (h:TopIn A w B ht r U) (c:Chg L w w') (hL:∀ k,k∈L→k∈A∨w.heap.size≤k) (hA:∀ k,k∈A'→k∈A∨w.heap.size≤k):TopIn A' w' B ht r U:=by
 rcases h with h | ⟨f,k,h1,h2⟩
 ·exact .inl h
 ·exact .inr ⟨f,k,h1,h2.chg c hL hA _ _ _⟩
theorem TopIn.head {A:List Nat} {w:World} {B:Bs} {ht:Ht} {r:Nat} {U:List Value} (h:TopIn A w B ht r U):∃ v1 v2 v3 v4,U=[.int .i64 (r:Int),v1,v2,v3,v4]:=by
 rcases h with ⟨rfl,rfl⟩ | ⟨f,k,h1,h2⟩
 ·exact ⟨_,_,_,_,rfl⟩
 ·exact h2.head
def ForestIn (A:List Nat) (w:World) (B:Bs) (ht:Ht) (v:Value) (R:List Nat):Prop :=
 ∃ a c,v = .slice a R.length c∧R.length≤c∧c≤maxLen∧(0<R.length→∃ g,a=some ⟨g,0,none⟩∧g<w.heap.size∧g∉A∧∀ i,i<R.length→∃ U,TopIn A w B ht (R.getD i 0) U∧∀ j,j<5→w.cell? ⟨g,i*5+j,none⟩=U[j]?)
theorem ForestIn.chg {A A' L:List Nat} {w w':World} {B:Bs} {ht:Ht} {v:Value} {R:List Nat} (h:ForestIn A w B ht v R) (c:Chg L w w') (hL:∀ k,k∈L→k∈A∨w.heap.size≤k) (hA:∀ k,k∈A'→k∈A∨w.heap.size≤k):ForestIn A' w' B ht v R:=by
 obtain ⟨a,cc,e,h1,h2,h3⟩:=h
 refine ⟨a,cc,e,h1,h2,fun h0=>?_⟩
 obtain ⟨g,rfl,hg,hgA,hk⟩:=h3 h0
 refine ⟨g,rfl,Nat.lt_of_lt_of_le hg c.size,fun hm=>?_,fun i hi=>?_⟩
 ·rcases hA g hm with q | q
  ·exact hgA q
  ·omega
 ·obtain ⟨U,hU,hc⟩:=hk i hi
  exact ⟨U,hU.chg c hL hA,fun j hj=>(c.cell (p:=⟨g,i*5+j,none⟩) hg (fun hm=>by
   rcases hL g hm with q | q
   ·exact hgA q
   ·omega)).trans (hc j hj)⟩
structure Refd (B:Bs) (N:Nat) (ht:Ht) (w:World) (ob db:Nat) (R:List Nat) (w':World) (q:Nat→Nat) (D:Nat→Bool):Prop where
 out:NumRow w' ob N q
 bits:BitRow w' db N D
 marks:Marks B ht (fun _=>false) D
 roots:∀ r,r∈R→r≠0→D r=true
 sum:∀ b,1≤b→b<N→q b=pendL R b+addS B N D b
 zero:q 0=0
 chg:Chg [ob,db] w w'
theorem Refd.skip {B:Bs} {N:Nat} {ht:Ht} {w w':World} {ob db:Nat} {R:List Nat} {q:Nat→Nat} {D:Nat→Bool} (h:Refd B N ht w ob db R w' q D):Refd B N ht w ob db (R++[0]) w' q D :=
 ⟨h.out,h.bits,h.marks,fun r hr h0=>h.roots r ((List.mem_append.1 hr).resolve_right fun hm=>h0 (List.mem_singleton.1 hm)) h0,fun b h1 h2=>by
  rw [h.sum b h1 h2,← pendL_app];unfold mor;rw [if_neg (by omega),Nat.add_zero],h.zero,h.chg⟩
theorem Refd.far {B:Bs} {N:Nat} {ht:Ht} {w w':World} {ob db:Nat} {R:List Nat} {q:Nat→Nat} {D:Nat→Bool} (h:Refd B N ht w ob db R w' q D) (hR:R.length≤1000) (r:Nat):Far B N (fun b=>if b=r then q r+1 else q b) D:=fun b h1 h2=>by
 have h3:=h.sum b h1 h2
 have h4:=pendL_le R b
 show (if b=r then q r+1 else q b)≤_
 by_cases e:b=r
 ·rw [if_pos e,← e];omega
 ·rw [if_neg e];omega
theorem Refd.step {B:Bs} {N:Nat} {ht:Ht} {w w' w3 w4:World} {ob db r:Nat} {R:List Nat} {q o2:Nat→Nat} {D D2:Nat→Bool} (h:Refd B N ht w ob db R w' q D) (hr:r≠0) (c:Chg [ob] w' w3)
  (a:Added B N ht w3 ob db (fun b=>if b=r then q r+1 else q b) D w4 o2 D2) (hx:D2 r=true):Refd B N ht w ob db (R++[r]) w4 o2 D2:=by
 refine ⟨a.out,a.bits,h.marks.trans a.marks,fun x hx' h0=>?_,fun b h1 h2=>?_,?_,(h.chg.trans (c.mono (by simp))).trans a.chg⟩
 ·rcases List.mem_append.1 hx' with hm | hm
  ·exact a.marks.sub _ (h.roots x hm h0)
  ·rw [List.mem_singleton.1 hm];exact hx
 ·have h3:=a.sum b h1 h2
  have h4:=h.sum b h1 h2
  rw [← pendL_app]
  unfold mor
  by_cases e:b=r
  ·subst e
   simp only [if_true] at h3 ⊢
   omega
  ·simp only [if_neg e] at h3 ⊢
   omega
 ·rw [a.zero]
  show (if 0=r then q r+1 else q 0)=0
  rw [if_neg (fun e=>hr e.symm),h.zero]
theorem zrow_nums (N:Nat):zrow N (.int .i64 0)=fnRow N (fun _ => .int .i64 ((0:Nat):Int)):=by
 apply Array.ext_getElem?
 intro i
 by_cases hi:i<N
 ·rw [zfg hi];simp [zrow,hi]
 ·rw [Array.getElem?_eq_none (by simp [zrow];omega),Array.getElem?_eq_none (by rw [zfs];omega)]
theorem zrow_bits (N:Nat):zrow N (.bool false)=fnRow N (fun _ => .bool false):=by
 apply Array.ext_getElem?
 intro i
 by_cases hi:i<N
 ·rw [zfg hi];simp [zrow,hi]
 ·rw [Array.getElem?_eq_none (by simp [zrow];omega),Array.getElem?_eq_none (by rw [zfs];omega)]
theorem take_getD {R:List Nat} {i:Nat} (hi:i<R.length):R.take (i+1)=R.take i++[R.getD i 0]:=by
 rw [List.take_succ_eq_append_getElem hi,List.getD_eq_getElem?_getD,List.getElem?_eq_getElem hi];rfl
def RefsEnd (w:World) (B:Bs) (N:Nat) (ht:Ht) (R:List Nat) (e:Ending) (w':World):Prop :=
 ∃ ob q D,e = .returned (.slice (some ⟨ob,0,none⟩) N N)∧NumRow w' ob N q∧Marks B ht (fun _=>false) D∧(∀ r,r∈R→r≠0→D r=true)∧(∀ b,1≤b→b<N→q b=pendL R b+addS B N D b)∧q 0=0∧Chg [] w w'
theorem refs_at {w:World} {B:Bs} {N G:Nat} {ht:Ht} {pend:Nat→Nat} {v:Value} {R:List Nat} (g:Gr N G B ht pend) (hM:N≤4096) (hF:ForestIn [] w B ht v R) (hR:R.length≤1000) :
  Calls Tryz.prog 124 #[.int .i64 (N:Int),v] w (RefsEnd w B N ht R):=by
 obtain ⟨a,cc,rfl,hc1,hc2,hF2⟩:=hF
 have mk0:=run_make1 (P:=Tryz.prog) 27 3 Tryz.underlying27 infoInt8 rfl .i64 .i64 N (by omega) (by omega)
 have mk1:=run_make1 (P:=Tryz.prog) 219 4 Tryz.underlying219 infoBool rfl .i64 .i64 N (by omega) (by omega)
 rw [zrow_nums] at mk0
 rw [zrow_bits] at mk1
 obtain ⟨n,hn⟩:∃ n,n=R.length:=⟨_,rfl⟩
 have H:=Lib.hid (And.intro g (And.intro hM (And.intro hF2 (And.intro hR hn))))
 rw [← hn] at hc1 hR ⊢
 clear g hF2 hn
 go_enter Tryz.func124,Tryz.ntmps124
 go_upto_region 4 with fail
 have s1:(w.alloc (.cells (fnRow N fun _ => .int .i64 0) 3)).heap.size=w.heap.size+1:=size_alloc' _ _
 have k0:=znb w (.cells (fnRow N fun _ => .int .i64 0) 3)
 have c0:=(Chg.refl [] w).alloc (.cells (fnRow N fun _ => .int .i64 0) 3)
 have k1:=znb (w.alloc (.cells (fnRow N fun _ => .int .i64 0) 3)) (.cells (fnRow N fun _ => .bool false) 4)
 have c1:=c0.alloc (.cells (fnRow N fun _ => .bool false) 4)
 have k2:=(((Chg.refl [] _).alloc (.cells (fnRow N fun _ => .bool false) 4)).block w.heap.size (zhl k0) (by simp)).trans k0
 rw [s1] at k1
 generalize (w.alloc _).alloc _=W2 at k1 c1 k2 ⊢
 obtain ⟨ob,hob⟩:∃ ob,ob=w.heap.size:=⟨_,rfl⟩
 rw [← hob] at k1 k2 ⊢
 obtain ⟨db,hdb⟩:∃ db,db=ob+1:=⟨_,rfl⟩
 rw [← hdb] at k1 ⊢
 have hd0:Refd B N ht W2 ob db [] W2 (fun _=>0) (fun _=>false):=⟨k2,k1,Marks.refl _ _ _,fun r hr=>(by cases hr),fun b _ _=>by rw [addS_none];rfl,rfl,Chg.refl _ _⟩
 have H2:=Lib.hid (And.intro hd0 (And.intro c1 (And.intro hob hdb)))
 clear k0 c0 k1 c1 k2 s1 hd0 hob hdb mk0 mk1
 go_loopg [7] n (fun gg s7 wr=>∃ i:Nat,gg=n - i∧i≤n∧s7 = .int .i64 (i:Int)∧Hid (∃ q D,Refd B N ht W2 ob db (R.take i) wr q D))
 case atStart=>exact ⟨0,rfl,Nat.zero_le _,rfl,Lib.hid ⟨_,_,H2.out.1⟩⟩
 case round =>
  obtain ⟨i,hgi,hi,rfl,HR⟩:=hrel
  have HGI:=Lib.hid hgi
  clear hgi
  obtain ⟨q,D,hrd⟩:=HR.out
  have HRD:=Lib.hid hrd
  by_cases hin:i<n
  ·have i1:(i:Int)<(n:Int):=by omega
   obtain ⟨b,rfl,hb,-,hkk⟩:=H.out.2.2.1 (by rw [← H.out.2.2.2.2];omega)
   obtain ⟨U,hU,hc⟩:=hkk i (by rw [← H.out.2.2.2.2];omega)
   have htk:=take_getD (R:=R) (i:=i) (by rw [← H.out.2.2.2.2];omega)
   obtain ⟨r,hr⟩:∃ r,r=R.getD i 0:=⟨_,rfl⟩
   rw [← hr] at hU htk
   have HTK:=Lib.hid htk
   obtain ⟨u1,u2,u3,u4,rfl⟩:=hU.head
   have hbn:b∉[ob,db]:=by
    have h1:=H2.out.2.2.1
    have h2:=H2.out.2.2.2
    simp only [List.mem_cons,List.not_mem_nil,or_false]
    omega
   have hcw:∀ j,j<5→wr.cell? ⟨b,i*5+j,none⟩=[Value.int .i64 (r:Int),u1,u2,u3,u4][j]?:=fun j hj =>
    (hrd.chg.cell (p:=⟨b,i*5+j,none⟩) (Nat.lt_of_lt_of_le hb H2.out.2.1.size) hbn).trans ((H2.out.2.1.cell (p:=⟨b,i*5+j,none⟩) hb (by simp)).trans (hc j hj))
   have e0:wr.cell? ⟨b,i*5,none⟩=some (.int .i64 (r:Int)):=hcw 0 (by omega)
   have HU:=Lib.hid (And.intro hU hbn)
   clear hc hkk hrd htk hr
   by_cases hr0:r=0
   ·have j1:¬ (0:Int)<(r:Int):=by omega
    have hsk:=HRD.out.skip
    rw [← hr0,← HTK.out] at hsk
    have HSK:=Lib.hid hsk
    clear hsk hcw hU hr0
    go_wp2_with fail
    go_roundg (n - (i+1))
    case measure=>have:=HGI.out;omega
    case rel=>exact ⟨i+1,rfl,hin,by go_num,Lib.hid ⟨_,_,HSK.out⟩⟩
   ·obtain ⟨f,c,hrc,hTr⟩:∃ f c,ht r=some c∧TrIn [] w B f r [.int .i64 (r:Int),u1,u2,u3,u4]:=hU.resolve_left fun q=>hr0 q.1
    obtain ⟨rN,rl⟩:=H.out.1.lt hrc
    have j1:(0:Int)<(r:Int):=by omega
    have j2:(r:Int)<(N:Int):=by omega
    have oc:=HRD.out.out.cell rN
    have of_:=zfb HRD.out.out r
    obtain ⟨ov,hov⟩:∃ ov,ov=q r:=⟨_,rfl⟩
    have hle:ov≤1000+N*7:=by
     have h1:=HRD.out.sum r (by omega) rN
     have h2:=addS_le H.out.1.good.ok (N:=N) D r
     have h3:=pendL_le (R.take i) r
     have h4:=List.length_take_le i R
     omega
    rw [← hov] at oc
    have e4:IntKind.i64.wrap ((ov:Int)+1)=((ov+1:Nat):Int):=by rw [IntWalk.i64_in _ (by omega)];omega
    have HOV:=Lib.hid hov
    clear hov hle hr0
    go_upto_region 8 with fail
    have hcS:Chg [ob] wr (wr.setCell ⟨ob,r,none⟩ (.int .i64 ((ov+1:Nat):Int))):=(Chg.refl [ob] wr).setCell (.inl (by simp)) _
    have hoS:=HRD.out.out.set (x:=r) (v:=ov+1)
    rw [show ((ov+1:Nat):Int)=(ov:Int)+1 by omega] at hcS hoS
    generalize wr.setCell ⟨ob,r,none⟩ (.int .i64 ((ov:Int)+1))=w3 at hcS hoS ⊢
    have hoS2:NumRow w3 ob N (fun k=>if k=r then q r+1 else q k):=by rw [← HOV.out];exact hoS
    have hbS:=HRD.out.bits.chg hcS (by simp only [List.mem_singleton];have:=H2.out.2.2.2;omega)
    have c03:Chg [ob,db] W2 w3:=HRD.out.chg.trans (hcS.mono (by simp))
    have hTr3:TrIn [ob,db] w3 B f r [.int .i64 (r:Int),u1,u2,u3,u4] :=
     (hTr.chg H2.out.2.1 (by simp) (A':=[ob,db]) (fun k hk => .inr (by have h1:=H2.out.2.2.1;have h2:=H2.out.2.2.2;simp only [List.mem_cons,List.not_mem_nil,or_false] at hk;omega)) _ _ _).chg c03 (fun k hk => .inl hk) (fun k hk => .inl hk) _ _ _
    have ca:Calls Tryz.prog 165 #[.slice (some ⟨ob,0,none⟩) N N,.slice (some ⟨db,0,none⟩) N N,.agg #[.int .i64 (r:Int),u1,u2,u3,u4]] w3 fun e w'=>e = .returned (.tuple #[])∧∃ o' D',Added B N ht w3 ob db (fun k=>if k=r then q r+1 else q k) D w' o' D'∧D' r=true :=
     add_all f H.out.1 H.out.2.1 hrc (by have:=H2.out.2.2.2;omega) hoS2 hbS (HRD.out.far (by have:=List.length_take_le i R;omega) r) hTr3
    have hcw3:∀ j,j<5→w3.cell? ⟨b,i*5+j,none⟩=[Value.int .i64 (r:Int),u1,u2,u3,u4][j]?:=fun j hj=>(hcS.cell (p:=⟨b,i*5+j,none⟩) (World.block_lt_of_cell? wr ⟨b,i*5,none⟩ e0) (by have:=HU.out.2;simp only [List.mem_cons,List.not_mem_nil,or_false,List.mem_singleton] at this ⊢;omega)).trans (hcw j hj)
    have d0:w3.cell? ⟨b,i*5,none⟩=some (.int .i64 (r:Int)):=hcw3 0 (by omega)
    have d1:w3.cell? ⟨b,i*5+1,none⟩=some u1:=hcw3 1 (by omega)
    have d2:w3.cell? ⟨b,i*5+2,none⟩=some u2:=hcw3 2 (by omega)
    have d3:w3.cell? ⟨b,i*5+3,none⟩=some u3:=hcw3 3 (by omega)
    have d4:w3.cell? ⟨b,i*5+4,none⟩=some u4:=hcw3 4 (by omega)
    have CA:=Lib.hid ca
    have HCS:=Lib.hid hcS
    have hrz:r≠0:=by omega
    clear hoS hoS2 hbS c03 hTr3 ca hcw3 hcw hTr hU oc of_ e0 hcS
    go_wp2_with fail
    refine CA.out.mono ?_
    clear CA
    rintro e w4 ⟨rfl,o2,D2,hA,hx⟩
    have hst:=HRD.out.step hrz HCS.out hA hx
    rw [← HTK.out] at hst
    have HST:=Lib.hid hst
    clear hst hA hx d0 d1 d2 d3 d4
    go_wp2_with fail
    go_roundg (n - (i+1))
    case measure=>have:=HGI.out;omega
    case rel=>exact ⟨i+1,rfl,hin,by go_num,Lib.hid ⟨_,_,HST.out⟩⟩
  ·obtain rfl:i=n:=by omega
   have i1:¬ (i:Int)<(i:Int):=by omega
   have hfull:R.take i=R:=by rw [H.out.2.2.2.2];exact List.take_length
   rw [hfull] at hrd
   have HF:=Lib.hid (And.intro hrd (H2.out.2.1.then hrd.chg (fun k hk => .inr (by have h1:=H2.out.2.2.1;have h2:=H2.out.2.2.2;simp only [List.mem_cons,List.not_mem_nil,or_false] at hk;omega))))
   clear hrd hfull
   go_wp2_with fail
   go_ret
   exact ⟨ob,q,D,rfl,HF.out.1.out,HF.out.1.marks,HF.out.1.roots,HF.out.1.sum,HF.out.1.zero,HF.out.2⟩
structure CtIn (N G:Nat) (B:Bs) (ht:Ht) (pend:Nat→Nat) (R:List Nat) (oth:Nat→Int):Prop where
 gr:Gr N G B ht pend
 hM:1≤N∧N≤4096
 top:∀ r,r∈R→r=0∨∃ c,ht r=some c∧c % 100<8
 all:∀ n,(ht n).isSome=true→1≤pend n→n∈R
 low:∀ n c,ht n=some c→c<200
 tell:∀ k c,ht k=some c→100≤c→c % 100=0→∀ d,B.nodeI (k:Int)=some d→∀ i,i<d.n→d.v i≠0→d.v i∈R
 sum:∀ b,2≤b→b<N→(pendL R b:Int)+oth b=(pend b:Int)
 o0:oth 0=0∧oth 1=0
 big:∀ b,b<N → -1000000≤oth b∧oth b≤1000000
 len:R.length≤1000
theorem CtIn.ends {N G:Nat} {B:Bs} {ht:Ht} {pend:Nat→Nat} {R:List Nat} {oth:Nat→Int} (h:CtIn N G B ht pend R oth) {q:Nat→Nat} {D:Nat→Bool} (m:Marks B ht (fun _=>false) D) (hr:∀ r,r∈R→r≠0→D r=true) (hs:∀ b,1≤b→b<N→q b=pendL R b+addS B N D b) (h0:q 0=0) :
  (∀ b,b<N→¬ ((q b:Int)+oth b=0∧B.T.now b=1)→(B.T.now b:Int)=(q b:Int)+oth b)∧cnt N (fun b=>decide ((q b:Int)+oth b=0∧B.T.now b=1))=needN N∧∀ b,b<N→q b≤100000:=by
 have hne:∀ r,r∈R→r≠1:=fun r hm e=>by
  rcases h.top r hm with q | ⟨c,hc,_⟩
  ·omega
  ·exact h.gr.ne1 hc e
 have ha:∀ b,addS B N D b=Refs B ht N b:=fun b=>h.gr.addS_eq m (fun n hn hp=>hr n (h.all n hn hp) (fun e=>by
  obtain ⟨c,hc⟩:=Option.isSome_iff_exists.1 hn
  have:=h.gr.two (h.gr.lt hc).2 (h.gr.lt hc).1;omega)) h.low (fun k c hk h1 h2 d hd i hi hv=>hr _ (h.tell k c hk h1 h2 d hd i hi hv) hv) b
 have h1:((q 1:Nat):Int)+oth 1=0:=by
  rw [h.o0.2,hs 1 (by omega) (by have:=h.gr.good.ok.n.1;have:=h.gr.good.n;omega),ha,h.gr.refs_one]
  unfold pendL
  rw [List.count_eq_zero.2 (fun hm=>hne 1 hm rfl)];rfl
 obtain ⟨r1,r2⟩:=h.gr.counted (q:=fun b=>(q b:Int)+oth b) (by show ((q 0:Nat):Int)+oth 0=0;rw [h0,h.o0.1];rfl) h1 (fun b b2 bN=>by
  have:=h.sum b b2 bN
  show ((q b:Nat):Int)+oth b=_
  rw [hs b (by omega) bN,ha]
  omega)
 refine ⟨r1,r2,fun b hb=>?_⟩
 by_cases e:b=0
 ·rw [e,h0];omega
 ·rw [hs b (by omega) hb]
  have h2:=addS_le h.gr.good.ok (N:=N) D b
  have h3:=pendL_le R b
  have:=h.len
  have:=h.hM
  omega
def TopEnd (w:World) (B:Bs) (ht:Ht) (r:Nat) (e:Ending) (w':World):Prop :=
 ∃ (lf:Bool) (a1 a2 a3:Option Addr) (n1 c1 n2 c2 n3 c3:Nat),e = .returned (.tuple #[.agg #[.int .i64 (r:Int),.bool lf,.slice a1 n1 c1,.slice a2 n2 c2,.slice a3 n3 c3],.bool true])∧(∀ A,(∀ q,q∈A→q<w.heap.size)→TopIn A w' B ht r [.int .i64 (r:Int),.bool lf,.slice a1 n1 c1,.slice a2 n2 c2,.slice a3 n3 c3])∧Chg [] w w'
theorem tree14_zero {w:World} {p:Value} {B:Bs} {ht:Ht} : Calls Tryz.prog 123 #[p,.int .i64 0,.int .i64 0] w (TopEnd w B ht 0):=by
 have k0:=znb w (.cells #[.int .i64 0,.bool false,.slice none 0 0,.slice none 0 0,.slice none 0 0] 201)
 have c0:=(Chg.refl [] w).alloc (.cells #[.int .i64 0,.bool false,.slice none 0 0,.slice none 0 0,.slice none 0 0] 201)
 have s1:(w.alloc (.cells #[.int .i64 0,.bool false,.slice none 0 0,.slice none 0 0,.slice none 0 0] 201)).heap.size=w.heap.size+1:=size_alloc' _ _
 have k1:=znb (w.alloc (.cells #[.int .i64 0,.bool false,.slice none 0 0,.slice none 0 0,.slice none 0 0] 201)) (.cells #[.int .i64 0,.bool false,.slice none 0 0,.slice none 0 0,.slice none 0 0] 201)
 have c1:=c0.alloc (.cells #[.int .i64 0,.bool false,.slice none 0 0,.slice none 0 0,.slice none 0 0] 201)
 have k2:=(((Chg.refl [] _).alloc (.cells #[.int .i64 0,.bool false,.slice none 0 0,.slice none 0 0,.slice none 0 0] 201)).block w.heap.size (zhl k0) (by simp)).trans k0
 rw [s1] at k1
 clear k0 c0 s1
 go_enter Tryz.func123,Tryz.ntmps123
 go_upto_region 2 with fail
 generalize (w.alloc _).alloc _=W at k1 c1 k2 ⊢
 have y0:=zcb k1 0
 have y1:=zcb k1 1
 have y2:=zcb k1 2
 have y3:=zcb k1 3
 have y4:=zcb k1 4
 simp only [List.getElem?_toArray,List.getElem?_cons_zero,List.getElem?_cons_succ] at y0 y1 y2 y3 y4
 have t0:=zcb k2 0
 have t1:=zcb k2 1
 have t2:=zcb k2 2
 have t3:=zcb k2 3
 have t4:=zcb k2 4
 simp only [List.getElem?_toArray,List.getElem?_cons_zero,List.getElem?_cons_succ] at t0 t1 t2 t3 t4
 have f0:=zfb k2 0
 have f1:=zfb k2 1
 have f2:=zfb k2 2
 have f3:=zfb k2 3
 have f4:=zfb k2 4
 have HK:=Lib.hid (And.intro k2 c1)
 clear k1 c1 k2
 go_wp2_with fail
 refine bodyPost_ret (results_ct (a:=6) (b:=7) (by kernel_rfl) rfl (load5 (set5 HK.out.1 _ _ _ _ _))) rfl ?_
 exact ⟨_,_,_,_,_,_,_,_,_,_,rfl,fun A hA => .inl ⟨rfl,rfl⟩,HK.out.2.then (set5_chg _ _ _ _ _ _ _) (fun q hq=>by rw [List.mem_singleton] at hq;exact .inr (by omega))⟩
theorem tree14_top {w:World} {M:Bm} {F:List Nat} {N G:Nat} {B:Bs} {ht:Ht} {pend:Nat→Nat} {r:Nat} (hb:BaseAt w M F B) (g:Gr N G B ht pend) (hM:N≤4096) (hr:r=0∨∃ c,ht r=some c∧c % 100<8) :
  Calls Tryz.prog 123 #[.pointer (some ⟨M.b,0,none⟩),.int .i64 (r:Int),.int .i64 0] w (TopEnd w B ht r):=by
 rcases hr with rfl | ⟨c,hc,h8⟩
 ·exact tree14_zero
 ·refine (tree14_all (c % 100) (l:=0) hb g hM hc rfl (by omega)).mono ?_
  rintro e w' ⟨lf,a1,a2,a3,n1,c1,n2,c2,n3,c3,h1,h2,h3⟩
  exact ⟨lf,a1,a2,a3,n1,c1,n2,c2,n3,c3,h1,fun A hA => .inr ⟨_,c,hc,h2 A hA⟩,h3⟩
theorem counted_at {w:World} {M:Bm} {F:List Nat} {N G:Nat} {B:Bs} {ht:Ht} {pend:Nat→Nat} {R:List Nat} {oth:Nat→Int} (hb:BaseAt w M F B) (hC:CtIn N G B ht pend R oth) {v vo:Value} (hv:SlI w v R)
  (hO:∀ w',Chg [] w w'→∀ b:Nat,b<N→(Instr.lookup 68 vo (.int .i64 (b:Int)) false).run Tryz.prog w' = .ok (.int .i64 (oth b)) w') :
  Calls Tryz.prog 67 #[.pointer (some ⟨M.b,0,none⟩),v,vo] w fun e w'=>e = .returned (.bool true)∧Chg [] w w':=by
 obtain ⟨a,cap,rfl⟩:=hv.len
 have cbl:=hb.cBlocks
 have hgn:=hC.gr.good.n
 rw [hgn] at cbl
 have hN:=hC.hM
 have hlen:=hC.len
 obtain ⟨n,hn⟩:∃ n,n=R.length:=⟨_,rfl⟩
 have H:=Lib.hid (And.intro hb (And.intro hC (And.intro hv (And.intro hO hn))))
 rw [← hn] at hlen ⊢
 have n0:((N:Int)==0)=false:=by rw [beq_eq_false_iff_ne];omega
 clear hb hC hv hO hn
 go_enter Tryz.func67,Tryz.ntmps67
 go_wp2_with fail
 refine (cbl).mono ?_
 rintro e w' ⟨rfl,rfl⟩
 go_upto_region 5 with fail
 go_loopg [7,21] n (fun gg s7 s21 wr=>∃ i:Nat,gg=n - i∧i≤n∧s21 = .int .i64 (i:Int)∧Hid (∃ us:List (List Value),wr.ownsRow w.heap.size 201 5 s7 i us.flatten∧us.length=i∧(∀ U,U∈us→U.length=5)∧(∀ j,j<i→TopIn (ownL s7) wr B ht (R.getD j 0) (us.getD j []))∧Chg [] w wr))
 case atStart=>exact ⟨0,rfl,Nat.zero_le _,rfl,Lib.hid ⟨[],World.ownsRow_nil _ _ _ _,rfl,fun U hU=>(by cases hU),fun j hj=>by omega,Chg.refl _ _⟩⟩
 case round =>
  obtain ⟨i,hgi,hi,rfl,HR⟩:=hrel
  have HGI:=Lib.hid hgi
  clear hgi
  obtain ⟨us,h1,h2,h3,h4,h5⟩:=HR.out
  obtain ⟨ua,uc,rfl,u1,u2⟩:=zos h1
  have HS:=Lib.hid (And.intro h1 (And.intro h2 (And.intro h3 (And.intro h4 h5))))
  by_cases hin:i<n
  ·have i1:(i:Int)<(n:Int):=by omega
   have hin':i<R.length:=by rw [← H.out.2.2.2.2];exact hin
   obtain ⟨g,rfl,hcc⟩:=(H.out.2.2.1.chg h5 (by simp)).get.2 i hin'
   have hmem:R.getD i 0∈R:=by rw [List.getD_eq_getElem?_getD,List.getElem?_eq_getElem hin'];exact List.getElem_mem _
   have ct:=tree14_top (H.out.1.chg h5 (by simp)) H.out.2.1.gr H.out.2.1.hM.2 (H.out.2.1.top _ hmem)
   obtain ⟨r,hr⟩:∃ r,r=R.getD i 0:=⟨_,rfl⟩
   rw [← hr] at hcc ct
   have HRr:=Lib.hid hr
   have CT:=Lib.hid ct
   clear h1 h2 h3 h4 h5 hmem ct hr hin'
   go_wp2_with fail
   refine CT.out.mono ?_
   clear CT
   rintro e w3 ⟨lk,a1,a2,a3,n1,m1,n2,m2,n3,m3,rfl,hT,hc3⟩
   have HT:=Lib.hid (And.intro hT hc3)
   clear hT hc3
   go_upto_region 10 with fail
   have kx:=znb w3 (.cells #[.int .i64 (r:Int),.bool lk,.slice a1 n1 m1,.slice a2 n2 m2,.slice a3 n3 m3] 201)
   have cx:=HT.out.2.alloc (.cells #[.int .i64 (r:Int),.bool lk,.slice a1 n1 m1,.slice a2 n2 m2,.slice a3 n3 m3] 201)
   have cx3:=(Chg.refl [] w3).alloc (.cells #[.int .i64 (r:Int),.bool lk,.slice a1 n1 m1,.slice a2 n2 m2,.slice a3 n3 m3] 201)
   generalize w3.alloc (.cells #[.int .i64 (r:Int),.bool lk,.slice a1 n1 m1,.slice a2 n2 m2,.slice a3 n3 m3] 201)=W3 at kx cx cx3 ⊢
   have e0:=zcb kx 0
   have e1:=zcb kx 1
   have e2:=zcb kx 2
   have e3:=zcb kx 3
   have e4:=zcb kx 4
   simp only [List.getElem?_toArray,List.getElem?_cons_zero,List.getElem?_cons_succ] at e0 e1 e2 e3 e4
   have hn4:=znb W3 (.cells #[.int .i64 (r:Int),.bool lk,.slice a1 n1 m1,.slice a2 n2 m2,.slice a3 n3 m3] 201)
   have hc4:Chg [] W3 (W3.alloc (.cells #[.int .i64 (r:Int),.bool lk,.slice a1 n1 m1,.slice a2 n2 m2,.slice a3 n3 m3] 201)):=(Chg.refl [] W3).alloc _
   have c4:=cx.trans hc4
   have H4:=Lib.hid (And.intro (zoc HS.out.1 c4 (by simp)) (And.intro hn4 (And.intro c4 (Nat.le_trans HS.out.2.2.2.2.size c4.size))))
   have C34:=Lib.hid (cx3.trans hc4)
   clear hn4 hc4 c4 kx cx cx3
   go_wp2_with (at_builtin;refine wpList_app rfl _ _ 199 rfl rfl (base:=w.heap.size) (size:=5) (n:=i) (m:=1) (xs:=us.flatten) (news:=[.int .i64 (r:Int),.bool lk,.slice a1 n1 m1,.slice a2 n2 m2,.slice a3 n3 m3]) Tryz.underlying199 infoTree5 rfl (by omega) (by omega) rfl rfl H4.out.1 (AppSrc.blk H4.out.2.1 rfl (fun u hu=>by simp at hu;rcases hu with rfl | rfl | rfl | rfl | rfl <;> rfl)) (by omega) H4.out.2.2.2 ?_;intro v' w5 hown5 hg5 ho5;have cG:=(Chg.refl (ownL (.slice ua i uc)) _).grown hg5 (fun z hz => .inl (zml.2 hz));have H5:=Lib.hid (And.intro hown5 (And.intro cG ho5));clear hown5 hg5 ho5 cG)
   go_roundg (n - (i+1))
   case measure=>have:=HGI.out;omega
   case rel =>
    refine ⟨i+1,rfl,hin,by go_num,Lib.hid ⟨us++[[.int .i64 (r:Int),.bool lk,.slice a1 n1 m1,.slice a2 n2 m2,.slice a3 n3 m3]],?_,by rw [List.length_append,HS.out.2.1];rfl,fun V hV=>?_,fun j hj=>?_,(HS.out.2.2.2.2.trans H4.out.2.2.1).then H5.out.2.1 (fun q hq => .inr (HS.out.1.lt q (zml.1 hq)).1)⟩⟩
    ·have:=H5.out.1
     rw [List.flatten_append]
     simpa using this
    ·rcases List.mem_append.1 hV with hV | hV
     ·exact HS.out.2.2.1 V hV
     ·rw [List.mem_singleton] at hV
      rw [hV];rfl
    ·have hob:v'.ownBlock=(Value.slice ua i uc).ownBlock∨v'.ownBlock=some _:=H5.out.2.2
     have hal:∀ y Y,TopIn (ownL (.slice ua i uc)) _ B ht y Y→TopIn (ownL v') w5 B ht y Y:=fun y Y h=>h.chg H5.out.2.1 (fun q hq => .inl hq) (fun q hq=>by
      have hq:=zml.1 hq
      rcases hob with e | e
      ·exact .inl (zml.2 (e.symm.trans hq))
      ·rw [e] at hq
       exact .inr (Nat.le_of_eq (Option.some.inj hq)))
     by_cases hji:j<i
     ·rw [List.getD_eq_getElem?_getD (l:=us++_),List.getElem?_append_left (by rw [HS.out.2.1];exact hji),← List.getD_eq_getElem?_getD]
      exact hal _ _ ((HS.out.2.2.2.1 j hji).chg H4.out.2.2.1 (by simp) (fun q hq => .inl hq))
     ·obtain rfl:j=i:=by omega
      rw [List.getD_eq_getElem?_getD (l:=us++_),List.getElem?_append_right (by rw [HS.out.2.1];omega),HS.out.2.1,Nat.sub_self,← HRr.out]
      exact hal _ _ ((HT.out.1 _ (fun q hq=>(HS.out.1.lt q (zml.1 hq)).2)).chg C34.out (by simp) (fun q hq => .inl hq))
  ·obtain rfl:i=n:=by omega
   have i1:¬ (i:Int)<(i:Int):=by omega
   have hfo:ForestIn [] wr B ht (.slice ua i uc) R:=by
    refine ⟨ua,uc,by rw [H.out.2.2.2.2],by rw [← H.out.2.2.2.2];exact u1,u2,fun h0=>?_⟩
    rw [← H.out.2.2.2.2] at h0
    obtain ⟨g,c',e,g1,g2,g3,g4,g5⟩:=zol h1 h0
    injection e with e _ e'
    subst e;subst e'
    refine ⟨g,rfl,g4,by simp,fun j hj=>?_⟩
    rw [← H.out.2.2.2.2] at hj
    exact ⟨_,(h4 j hj).chg (Chg.refl [] wr) (by simp) (by simp),fun q hq=>by rw [g5 _ (by omega),flat5 us h3 j q (by rw [h2];exact hj) hq]⟩
   have cr:=refs_at H.out.2.1.gr H.out.2.1.hM.2 hfo (by rw [← H.out.2.2.2.2];exact hlen)
   have cb2:=(H.out.1.chg h5 (by simp)).cBlocks
   rw [hgn] at cb2
   have CR:=Lib.hid cr
   clear h1 h2 h3 h4 h5 cr hfo
   go_wp2_with fail
   refine cb2.mono ?_
   clear cb2
   rintro e w' ⟨rfl,rfl⟩
   go_wp2_with fail
   refine CR.out.mono ?_
   clear CR
   rintro e w2 ⟨ob,q,D,rfl,hq,hm,hr,hs,h0,hc2⟩
   obtain ⟨e1,e2,e3⟩:=H.out.2.1.ends hm hr hs h0
   have HQ:=Lib.hid (And.intro hq (And.intro e1 (And.intro e2 (And.intro e3 (HS.out.2.2.2.2.trans hc2)))))
   clear hq hm hr hs h0 hc2 e1 e2 e3
   go_upto_region 15 with fail
   go_loopg [13,44] N (fun gg s13 s44 wk=>∃ j:Nat,gg=N - j∧j≤N∧s13 = .int .i64 ((cnt j fun b=>decide ((q b:Int)+oth b=0∧B.T.now b=1):Nat):Int)∧s44 = .int .i64 (j:Int)∧Hid (NumRow wk ob N q∧Chg [] w wk))
   case atStart=>exact ⟨0,rfl,Nat.zero_le _,rfl,rfl,Lib.hid ⟨HQ.out.1,HQ.out.2.2.2.2⟩⟩
   case round =>
    obtain ⟨j,hgj,hj,rfl,rfl,HJ⟩:=hrel
    have HGJ:=Lib.hid hgj
    clear hgj
    by_cases hjn:j<N
    ·have j1:(j:Int)<(N:Int):=by omega
     have cdr:Chg [] w wr.drew:=HJ.out.2.drew
     have qc:=(HJ.out.1.chg ((Chg.refl [] wr).drew) (by simp)).cell hjn
     have ql:=HQ.out.2.2.2.1 j hjn
     have hlk:=H.out.2.2.2.1 wr.drew cdr j hjn
     have hbig:=H.out.2.1.big j hjn
     have hsum:=HQ.out.2.1 j hjn
     obtain ⟨qj,hqj⟩:∃ z,z=q j:=⟨_,rfl⟩
     rw [← hqj] at qc ql hsum
     obtain ⟨oj,hoj⟩:∃ z,z=oth j:=⟨_,rfl⟩
     rw [← hoj] at hlk hbig hsum
     have cw2:=H.out.1.chg cdr (by simp)
     have cc:=cw2.cCount (j:Int)
     rw [H.out.2.1.gr.getV hjn] at cc
     have hnow:B.T.now j≤65535:=(H.out.2.1.gr.good.ok.le j (by rw [hgn];exact hjn)).1
     have hcs:=cnt_step j (fun b=>decide ((q b:Int)+oth b=0∧B.T.now b=1))
     have hcl:=cnt_le (fun b=>decide ((q b:Int)+oth b=0∧B.T.now b=1)) j
     obtain ⟨k,hk⟩:∃ k,k=cnt j (fun b=>decide ((q b:Int)+oth b=0∧B.T.now b=1)):=⟨_,rfl⟩
     rw [← hk] at hcs hcl ⊢
     rw [← hqj,← hoj] at hcs
     obtain ⟨s,hs⟩:∃ s,s=(qj:Int)+oj:=⟨_,rfl⟩
     rw [← hs] at hcs hsum
     have e5:IntKind.i64.wrap ((qj:Int)+oj)=s:=by rw [hs];exact IntWalk.i64_in _ (by omega)
     obtain ⟨u,hu⟩:∃ u,u=B.T.now j:=⟨_,rfl⟩
     rw [← hu] at cc hnow hcs hsum
     have HCC:=Lib.hid cc
     have HCS:=Lib.hid (And.intro hcs (And.intro hsum hk))
     have e6:IntKind.i64.wrap ((k:Int)+1)=((k+1:Nat):Int):=by rw [IntWalk.i64_in _ (by omega)];omega
     obtain ⟨k1,hk1⟩:∃ k1,k1=k+1:=⟨_,rfl⟩
     rw [← hk1] at e6
     have HK1:=Lib.hid hk1
     have HDR:=Lib.hid (And.intro (HJ.out.1.chg ((Chg.refl [] wr).drew) (by simp)) cdr)
     clear cc hcs hsum hk hqj hoj hs hu hbig hk1 cw2 cdr
     go_upto_region 17 with fail
     go_region
     by_cases hs0:s=0
     ·subst hs0
      by_cases hu1:u=1
      ·subst hu1
       have cc:=HCC.out
       have hnx:cnt (j+1) (fun b=>decide ((q b:Int)+oth b=0∧B.T.now b=1))=k1:=by rw [HCS.out.1,HK1.out];rfl
       have HNX:=Lib.hid hnx
       clear hnx
       go_wp2_with fail
       refine cc.mono ?_
       clear cc
       rintro e w' ⟨rfl,rfl⟩
       go_wp2_with fail
       go_roundg (N - (j+1))
       case measure=>have:=HGJ.out;omega
       case rel=>exact ⟨j+1,rfl,hjn,by rw [HNX.out],by go_num,Lib.hid HDR.out⟩
      ·have hu0:u=0:=by
        have:=HCS.out.2.1 (fun h=>hu1 h.2)
        omega
       subst hu0
       have cc:=HCC.out
       have cc2:=Lib.hid HCC.out
       rw [show (((0:Nat)):Int)=0 from rfl] at cc
       have hnx:cnt (j+1) (fun b=>decide ((q b:Int)+oth b=0∧B.T.now b=1))=k:=by rw [HCS.out.1];rfl
       have HNX:=Lib.hid hnx
       clear hnx hu1
       go_wp2_with fail
       refine cc.mono ?_
       clear cc
       rintro e w' ⟨rfl,rfl⟩
       have cc:=cc2.out
       rw [show (((0:Nat)):Int)=0 from rfl] at cc
       go_wp2_with fail
       refine cc.mono ?_
       clear cc
       rintro e w' ⟨rfl,rfl⟩
       go_wp2_with fail
       go_roundg (N - (j+1))
       case measure=>have:=HGJ.out;omega
       case rel=>exact ⟨j+1,rfl,hjn,by rw [HNX.out],by go_num,Lib.hid HDR.out⟩
     ·have hus:(u:Int)=s:=HCS.out.2.1 (fun h=>hs0 h.1)
      have z0:(s==0)=false:=by rw [beq_eq_false_iff_ne];exact hs0
      have hnx:cnt (j+1) (fun b=>decide ((q b:Int)+oth b=0∧B.T.now b=1))=k:=by rw [HCS.out.1,decide_eq_false (fun h=>hs0 h.1)];rfl
      have HNX:=Lib.hid hnx
      have cc:=HCC.out
      rw [hus] at cc
      have z1:(s != s)=false:=by simp
      clear hnx hus
      go_wp2_with fail
      refine cc.mono ?_
      clear cc
      rintro e w' ⟨rfl,rfl⟩
      go_wp2_with fail
      go_roundg (N - (j+1))
      case measure=>have:=HGJ.out;omega
      case rel=>exact ⟨j+1,rfl,hjn,by rw [HNX.out],by go_num,Lib.hid HDR.out⟩
    ·obtain rfl:j=N:=by omega
     have j1:¬ (j:Int)<(j:Int):=by omega
     have cb3:=(H.out.1.chg HJ.out.2 (by simp)).cBlocks
     rw [hgn] at cb3
     have cnd:=need_at (n:=j) wr hN.1 hN.2
     have hcnt:=HQ.out.2.2.1
     rw [hcnt]
     have HJ2:=Lib.hid HJ.out.2
     clear hcnt
     go_wp2_with fail
     refine cb3.mono ?_
     clear cb3
     rintro e w' ⟨rfl,rfl⟩
     go_wp2_with fail
     refine cnd.mono ?_
     clear cnd
     rintro e w' ⟨rfl,rfl⟩
     go_wp2_with fail
     go_ret
     exact ⟨rfl,HJ2.out⟩
theorem same14_at {A A':List Nat} {w:World} {lf:Bool} {k1 v1 k2 v2:Value} {n:Nat} {k v:Nat→Nat} (h1:NumsIn A w k1 n k) (h2:NumsIn A w v1 n v) (h3:NumsIn A' w k2 n k) (h4:NumsIn A' w v2 n v) (hn:n≤7) :
  Calls Tryz.prog 72 #[.agg #[.bool lf,k1,v1],.agg #[.bool lf,k2,v2]] w fun e w'=>e = .returned (.bool true)∧Chg [] w w':=by
 obtain ⟨a1,c1,rfl⟩:=h1.len
 obtain ⟨a2,c2,rfl⟩:=h2.len
 obtain ⟨a3,c3,rfl⟩:=h3.len
 obtain ⟨a4,c4,rfl⟩:=h4.len
 have b0:=znb w (.cells #[.bool lf,.slice a1 n c1,.slice a2 n c2] 107)
 have d0:=(Chg.refl [] w).alloc (.cells #[.bool lf,.slice a1 n c1,.slice a2 n c2] 107)
 have s1:(w.alloc (.cells #[.bool lf,.slice a1 n c1,.slice a2 n c2] 107)).heap.size=w.heap.size+1:=size_alloc' _ _
 have b1:=znb (w.alloc (.cells #[.bool lf,.slice a1 n c1,.slice a2 n c2] 107)) (.cells #[.bool lf,.slice a3 n c3,.slice a4 n c4] 107)
 have d1:=d0.alloc (.cells #[.bool lf,.slice a3 n c3,.slice a4 n c4] 107)
 have b2:=(((Chg.refl [] _).alloc (.cells #[.bool lf,.slice a3 n c3,.slice a4 n c4] 107)).block w.heap.size (zhl b0) (by simp)).trans b0
 rw [s1] at b1
 have H:=Lib.hid (And.intro h1 (And.intro h2 (And.intro h3 h4)))
 have lf2:(lf != lf)=false:=by simp
 have n2:((n:Int) != (n:Int))=false:=by simp
 clear h1 h2 h3 h4 b0 d0 s1
 go_enter Tryz.func72,Tryz.ntmps72
 go_upto_region 1 with (first | (refine wpList_boxAgg rfl 107 (.tmp 0) rfl (cells:=#[.bool lf,.slice a1 n c1,.slice a2 n c2]) rfl ?_) | (refine wpList_boxAgg rfl 107 (.tmp 1) rfl (cells:=#[.bool lf,.slice a3 n c3,.slice a4 n c4]) rfl ?_))
 generalize (w.alloc _).alloc _=W at b1 d1 b2 ⊢
 have x0:=zcb b2 0
 have x1:=zcb b2 1
 have x2:=zcb b2 2
 simp only [List.getElem?_toArray,List.getElem?_cons_zero,List.getElem?_cons_succ] at x0 x1 x2
 have y0:=zcb b1 0
 have y1:=zcb b1 1
 have y2:=zcb b1 2
 simp only [List.getElem?_toArray,List.getElem?_cons_zero,List.getElem?_cons_succ] at y0 y1 y2
 have HB:=Lib.hid (And.intro b2 (And.intro b1 d1))
 clear b2 b1 d1
 go_upto_region 4 with fail
 clear x0 x1 x2 y0 y1 y2
 go_loopg [32] n (fun gg s32 wr=>∃ i:Nat,gg=n - i∧i≤n∧s32 = .int .i64 (i:Int)∧Hid (Chg [] W wr))
 case atStart=>exact ⟨0,rfl,Nat.zero_le _,rfl,Lib.hid (Chg.refl _ _)⟩
 case round =>
  obtain ⟨i,hgi,hi,rfl,HR⟩:=hrel
  have HGI:=Lib.hid hgi
  clear hgi
  have cdr:Chg [] W wr.drew:=HR.out.drew
  by_cases hin:i<n
  ·have i1:(i:Int)<(n:Int):=by omega
   have cwr:=HB.out.2.2.trans cdr
   have k0:=(cdr.block w.heap.size (zhl HB.out.1) (by simp)).trans HB.out.1
   have k1:=(cdr.block _ (zhl HB.out.2.1) (by simp)).trans HB.out.2.1
   obtain ⟨g1,o1,rfl,-,-,q1⟩:=(H.out.1.chg cwr (by simp)).get hin
   obtain ⟨g2,o2,rfl,-,-,q2⟩:=(H.out.2.1.chg cwr (by simp)).get hin
   obtain ⟨g3,o3,rfl,-,-,q3⟩:=(H.out.2.2.1.chg cwr (by simp)).get hin
   obtain ⟨g4,o4,rfl,-,-,q4⟩:=(H.out.2.2.2.chg cwr (by simp)).get hin
   have r1:=(q1 i hin).1
   have r2:=(q2 i hin).1
   have r3:=(q3 i hin).1
   have r4:=(q4 i hin).1
   obtain ⟨ky,hky⟩:∃ z,z=k i:=⟨_,rfl⟩
   obtain ⟨vy,hvy⟩:∃ z,z=v i:=⟨_,rfl⟩
   rw [← hky] at r1 r3
   rw [← hvy] at r2 r4
   have ke:((ky:Int) != (ky:Int))=false:=by simp
   have ve:((vy:Int) != (vy:Int))=false:=by simp
   have x0:=zcb k0 0
   have x1:=zcb k0 1
   have x2:=zcb k0 2
   simp only [List.getElem?_toArray,List.getElem?_cons_zero,List.getElem?_cons_succ] at x0 x1 x2
   have y0:=zcb k1 0
   have y1:=zcb k1 1
   have y2:=zcb k1 2
   simp only [List.getElem?_toArray,List.getElem?_cons_zero,List.getElem?_cons_succ] at y0 y1 y2
   have HD:=Lib.hid cdr
   clear q1 q2 q3 q4 k0 k1 cwr cdr hky hvy
   go_upto_region 6 with fail
   go_region
   go_wp2_with fail
   go_roundg (n - (i+1))
   case measure=>have:=HGI.out;omega
   case rel=>exact ⟨i+1,rfl,hin,by go_num,HD⟩
  ·obtain rfl:i=n:=by omega
   have i1:¬ (i:Int)<(i:Int):=by omega
   have HF:=Lib.hid (HB.out.2.2.trans HR.out)
   clear cdr
   go_wp2_with fail
   go_ret
   exact ⟨rfl,HF.out⟩
theorem addr_addN (b o i:Nat):(⟨b,o,none⟩:Addr).add i=⟨b,o+i,none⟩:=by unfold Addr.add;split <;> simp_all
theorem numsIn_trod {H:Type} {enc:TypeId × Value→H} {W:World} {fuel:Nat} {v:Value} {x:DataW H × List MemPlace} (h:DataW.trod enc Tryz.prog W 0 (fun _=>true) true fuel 84 [v]=some x):∃ n f,NumsIn [] W v n f:=by
 rcases Go.ChangeShapes.open_ints Tryz.underlying84 Tryz.underlying44 (by kernel_rfl) h with ⟨hcs,_⟩ | ⟨a,l,c,zs,hcs,_,hl,hm,hz,_,hcell,hwz⟩
 ·simp at hcs
  subst hcs
  exact ⟨0,fun _=>0,.inl ⟨⟨none,0,rfl,Nat.zero_le _,fun _=>rfl⟩,rfl⟩⟩
 ·simp at hcs
  subst hcs
  by_cases h0:l=0
  ·subst h0
   exact ⟨0,fun _=>0,.inl ⟨⟨_,c,rfl,hm,fun h=>by cases h⟩,rfl⟩⟩
  ·simp only [if_true] at hz
   obtain ⟨b,off,sp⟩:=a
   have hs0:=hcell 0 (by omega)
   have hspot:sp=none:=by simpa [Addr.add] using World.cell?_spot hs0
   subst hspot
   rw [addr_addN] at hs0
   refine ⟨l,fun i=>(zs.getD i 0).toNat,.inr ⟨b,off,c,rfl,hl,hm,World.block_lt_of_cell? W _ hs0,by simp,fun i hi=>?_⟩⟩
   have hc:=hcell i (by omega)
   rw [addr_addN] at hc
   have hil:i<zs.length:=by omega
   have hw:=bd_u64 (hwz (zs.getD i 0) (by
    rw [List.getD_eq_getElem?_getD,List.getElem?_eq_getElem hil]
    exact List.getElem_mem hil))
   rw [hc,Int.toNat_of_nonneg hw.1]
   exact ⟨rfl,by dsimp only;omega⟩
def IsNode (w:World) (v:Value) (leaf:Bool) (nk nv:Nat) (keys vals:Nat→Nat):Prop:=∃ vk vv,v = .agg #[.bool leaf,vk,vv]∧NumsIn [] w vk nk keys∧NumsIn [] w vv nv vals
theorem open_node {H:Type} {enc:TypeId × Value→H} {W:World} {r:Reach} {b0:Nat} {v:Value} {d:DataW H} {p:List MemPlace} (hv:Value.okWide Tryz.prog W r b0 107 v)
  (h:DataW.Trod enc Tryz.prog W 0 (fun _=>true) true 107 v d p):∃ leaf nk nv keys vals,IsNode W v leaf nk nv keys vals:=by
 obtain ⟨v0,v1,v2,y0,y1,y2,n,rfl,rfl,rfl,t0,t1,t2⟩:=Go.Joins.open_agg3 Tryz.underlying107 (by kernel_rfl) (by kernel_rfl) hv h
 obtain ⟨l,hl,_⟩:=DataW.trod_bool Tryz.underlying4 t0
 simp at hl
 subst hl
 obtain ⟨nk,keys,hk⟩:=numsIn_trod t1
 obtain ⟨nv,vals,hv⟩:=numsIn_trod t2
 exact ⟨l,nk,nv,keys,vals,_,_,rfl,hk,hv⟩
end Go.Proofs.YtkhcaclndepgbaaGreat
