/- Layer 14's reference: Refs: the walk. · Layer 14's Counted: the walk. · What a walk is told of a slice of integers that came in; bounds out of 'wf'. · More on slices of integers that came in. · Slices of layer 14's items and operations that came in. -/
import Derived.Test.YtkhcaclndepgbaaGreatZn45
import Derived.OpenShut
import Derived.Test.YtkhcaclndepgbaaGreatZn43
import Derived.Deep.SlicePairs
import Derived.ProofKit
import Derived.ChangeArms
import Derived.Lib.SmallJoins
set_option linter.unusedVariables false
set_option linter.unusedSimpArgs false
set_option maxRecDepth 100000
set_option maxHeartbeats 20000000
namespace Go.Proofs.YtkhcaclndepgbaaGreat
open Go.RowKit
def TopIn (A:List Nat) (w:World) (B:Bs) (ht:Ht) (r:Nat) (U:List Value):Prop :=
 (r=0/\U=[.int .i64 0,.bool false,.slice none 0 0,.slice none 0 0,.slice none 0 0])∨∃ f c,ht r=some c/\TrIn A w B f r U
theorem TopIn.chg {A A' L:List Nat} {w w':World} {B:Bs} {ht:Ht} {r:Nat} {U:List Value} (h:TopIn A w B ht r U) (c:Chg L w w') (hL:∀ k,k∈L->k∈A∨w.heap.size<=k) (hA:∀ k,k∈A'->k∈A∨w.heap.size<=k):TopIn A' w' B ht r U:=by
 rcases h with h | ⟨f,k,h1,h2⟩
 ·exact .inl h
 ·exact .inr ⟨f,k,h1,h2.chg c hL hA _ _ _⟩
theorem TopIn.head {A:List Nat} {w:World} {B:Bs} {ht:Ht} {r:Nat} {U:List Value} (h:TopIn A w B ht r U):∃ v1 v2 v3 v4,U=[.int .i64 (r:Int),v1,v2,v3,v4]:=by
 rcases h with ⟨rfl,rfl⟩ | ⟨f,k,h1,h2⟩
 ·exact ⟨_,_,_,_,rfl⟩
 ·exact h2.head
def ForestIn (A:List Nat) (w:World) (B:Bs) (ht:Ht) (v:Value) (R:List Nat):Prop :=
 ∃ a c,v = .slice a R.length c/\R.length<=c/\c<=maxLen/\(0<R.length->∃ g,a=some ⟨g,0,none⟩/\g<w.heap.size/\g∉A/\∀ i,i<R.length->∃ U,TopIn A w B ht (R.getD i 0) U/\∀ j,j<5->w.cell? ⟨g,i*5+j,none⟩=U[j]?)
structure Refd (B:Bs) (N:Nat) (ht:Ht) (w:World) (ob db:Nat) (R:List Nat) (w':World) (q:Nat->Nat) (D:Nat->Bool):Prop where
 out:NumRow w' ob N q
 bits:BitRow w' db N D
 marks:Marks B ht (fun _=>false) D
 roots:∀ r,r∈R->r≠0->D r=true
 sum:∀ b,1<=b->b<N->q b=pendL R b+addS B N D b
 zero:q 0=0
 chg:Chg [ob,db] w w'
theorem Refd.skip {B:Bs} {N:Nat} {ht:Ht} {w w':World} {ob db:Nat} {R:List Nat} {q:Nat->Nat} {D:Nat->Bool} (h:Refd B N ht w ob db R w' q D):Refd B N ht w ob db (R++[0]) w' q D :=
 ⟨h.out,h.bits,h.marks,fun r hr h0=>h.roots r ((List.mem_append.1 hr).resolve_right fun hm=>h0 (List.mem_singleton.1 hm)) h0,fun b h1 h2=>by
  rw [h.sum b h1 h2,<- pendL_app];unfold mor;rw [if_neg (by omega),Nat.add_zero],h.zero,h.chg⟩
theorem Refd.far {B:Bs} {N:Nat} {ht:Ht} {w w':World} {ob db:Nat} {R:List Nat} {q:Nat->Nat} {D:Nat->Bool} (h:Refd B N ht w ob db R w' q D) (hR:R.length<=1000) (r:Nat):Far B N (fun b=>if b=r then q r+1 else q b) D:=fun b h1 h2=>by
 have h3:=h.sum b h1 h2;have h4:=pendL_le R b
 show (if b=r then q r+1 else q b)<=_
 by_cases e:b=r
 ·rw [if_pos e,<- e];omega
 ·rw [if_neg e];omega
theorem Refd.step {B:Bs} {N:Nat} {ht:Ht} {w w' w3 w4:World} {ob db r:Nat} {R:List Nat} {q o2:Nat->Nat} {D D2:Nat->Bool} (h:Refd B N ht w ob db R w' q D) (hr:r≠0) (c:Chg [ob] w' w3)
  (a:Added B N ht w3 ob db (fun b=>if b=r then q r+1 else q b) D w4 o2 D2) (hx:D2 r=true):Refd B N ht w ob db (R++[r]) w4 o2 D2:=by
 refine ⟨a.out,a.bits,h.marks.trans a.marks,fun x hx' h0=>?_,fun b h1 h2=>?_,?_,(h.chg.trans (c.mono (by simp))).trans a.chg⟩
 ·rcases List.mem_append.1 hx' with hm | hm
  ·exact a.marks.sub _ (h.roots x hm h0)
  ·rw [List.mem_singleton.1 hm];exact hx
 ·have h3:=a.sum b h1 h2
  have h4:=h.sum b h1 h2;rw [<- pendL_app];unfold mor;by_cases e:b=r
  ·subst e
   simp only [if_true] at h3 ⊢;omega
  ·simp only [if_neg e] at h3 ⊢
   omega
 ·rw [a.zero]
  show (if 0=r then q r+1 else q 0)=0
  rw [if_neg (fun e=>hr e.symm),h.zero]
theorem zrow_nums (N:Nat):zrow N (.int .i64 0)=fnRow N (fun _ => .int .i64 ((0:Nat):Int)):=by
 apply Array.ext_getElem?;intro i;by_cases hi:i<N
 ·rw [zfg hi];simp [zrow,hi]
 ·rw [Array.getElem?_eq_none (by simp [zrow];omega),Array.getElem?_eq_none (by rw [zfs];omega)]
theorem zrow_bits (N:Nat):zrow N (.bool false)=fnRow N (fun _ => .bool false):=by
 apply Array.ext_getElem?;intro i;by_cases hi:i<N
 ·rw [zfg hi];simp [zrow,hi]
 ·rw [Array.getElem?_eq_none (by simp [zrow];omega),Array.getElem?_eq_none (by rw [zfs];omega)]
theorem take_getD {R:List Nat} {i:Nat} (hi:i<R.length):R.take (i+1)=R.take i++[R.getD i 0]:=by
 rw [List.take_succ_eq_append_getElem hi,zgD,List.getElem?_eq_getElem hi];rfl
def RefsEnd (w:World) (B:Bs) (N:Nat) (ht:Ht) (R:List Nat) (e:Ending) (w':World):Prop :=
 ∃ ob q D,e = .returned (.slice (some ⟨ob,0,none⟩) N N)/\NumRow w' ob N q/\Marks B ht (fun _=>false) D/\(∀ r,r∈R->r≠0->D r=true)/\(∀ b,1<=b->b<N->q b=pendL R b+addS B N D b)/\q 0=0/\Chg [] w w'
theorem refs_at {w:World} {B:Bs} {N G:Nat} {ht:Ht} {pend:Nat->Nat} {v:Value} {R:List Nat} (g:Gr N G B ht pend) (hM:N<=4096) (hF:ForestIn [] w B ht v R) (hR:R.length<=1000) :
  Calls Tryz.prog 124 #[.int .i64 (N:Int),v] w (RefsEnd w B N ht R):=by
 obtain ⟨a,cc,rfl,hc1,hc2,hF2⟩:=hF;have mk0:=run_make1 (P:=Tryz.prog) 27 3 Tryz.underlying27 infoInt8 rfl .i64 .i64 N (by omega) (by omega);have mk1:=run_make1 (P:=Tryz.prog) 219 4 Tryz.underlying219 infoBool rfl .i64 .i64 N (by omega) (by omega);rw [zrow_nums] at mk0;rw [zrow_bits] at mk1;obtain ⟨n,hn⟩:∃ n,n=R.length:=⟨_,rfl⟩;have H:=zh (zA g (zA hM (zA hF2 (zA hR hn))));rw [<- hn] at hc1 hR ⊢;clear g hF2 hn;go_enter Tryz.func124,Tryz.ntmps124;go_upto_region 4 with fail;have s1:(w.alloc (.cells (fnRow N fun _ => .int .i64 0) 3)).heap.size=w.heap.size+1:=size_alloc' _ _;have k0:=znb w (.cells (fnRow N fun _ => .int .i64 0) 3);have c0:=(Chg.refl [] w).alloc (.cells (fnRow N fun _ => .int .i64 0) 3);have k1:=znb (w.alloc (.cells (fnRow N fun _ => .int .i64 0) 3)) (.cells (fnRow N fun _ => .bool false) 4);have c1:=c0.alloc (.cells (fnRow N fun _ => .bool false) 4);have k2:=(((Chg.refl [] _).alloc (.cells (fnRow N fun _ => .bool false) 4)).block w.heap.size (zhl k0) (by simp)).trans k0;rw [s1] at k1;generalize (w.alloc _).alloc _=W2 at k1 c1 k2 ⊢;obtain ⟨ob,hob⟩:∃ ob,ob=w.heap.size:=⟨_,rfl⟩;rw [<- hob] at k1 k2 ⊢;obtain ⟨db,hdb⟩:∃ db,db=ob+1:=⟨_,rfl⟩;rw [<- hdb] at k1 ⊢;have hd0:Refd B N ht W2 ob db [] W2 (fun _=>0) (fun _=>false):=⟨k2,k1,Marks.refl _ _ _,fun r hr=>(by cases hr),fun b _ _=>by rw [addS_none];rfl,rfl,Chg.refl _ _⟩;have H2:=zh (zA hd0 (zA c1 (zA hob hdb)));clear k0 c0 k1 c1 k2 s1 hd0 hob hdb mk0 mk1
 go_loopg [7] n (fun gg s7 wr=>∃ i:Nat,gg=n - i/\i<=n/\s7 = .int .i64 (i:Int)/\Hid (∃ q D,Refd B N ht W2 ob db (R.take i) wr q D))
 case atStart=>exact ⟨0,rfl,Nat.zero_le _,rfl,zh ⟨_,_,H2.out.1⟩⟩
 case round =>
  obtain ⟨i,hgi,hi,rfl,HR⟩:=hrel;have HGI:=zh hgi;clear hgi;obtain ⟨q,D,hrd⟩:=HR.out;have HRD:=zh hrd;by_cases hin:i<n
  ·have i1:(i:Int)<(n:Int):=by omega
   obtain ⟨b,rfl,hb,-,hkk⟩:=H.out.2.2.1 (by rw [<- H.out.2.2.2.2];omega);obtain ⟨U,hU,hc⟩:=hkk i (by rw [<- H.out.2.2.2.2];omega);have htk:=take_getD (R:=R) (i:=i) (by rw [<- H.out.2.2.2.2];omega);obtain ⟨r,hr⟩:∃ r,r=R.getD i 0:=⟨_,rfl⟩;rw [<- hr] at hU htk;have HTK:=zh htk;obtain ⟨u1,u2,u3,u4,rfl⟩:=hU.head
   have hbn:b∉[ob,db]:=by
    have h1:=H2.out.2.2.1;have h2:=H2.out.2.2.2;simp only [List.mem_cons,List.not_mem_nil,or_false];omega
   have hcw:∀ j,j<5->wr.cell? ⟨b,i*5+j,none⟩=[Value.int .i64 (r:Int),u1,u2,u3,u4][j]?:=fun j hj =>
    (hrd.chg.cell (p:=⟨b,i*5+j,none⟩) (zLl hb H2.out.2.1.size) hbn).trans ((H2.out.2.1.cell (p:=⟨b,i*5+j,none⟩) hb (by simp)).trans (hc j hj))
   have e0:wr.cell? ⟨b,i*5,none⟩=some (.int .i64 (r:Int)):=hcw 0 (by omega);have HU:=zh (zA hU hbn);clear hc hkk hrd htk hr;by_cases hr0:r=0
   ·have j1:¬ (0:Int)<(r:Int):=by omega
    have hsk:=HRD.out.skip;rw [<- hr0,<- HTK.out] at hsk;have HSK:=zh hsk;clear hsk hcw hU hr0;go_wp2_with fail;go_roundg (n - (i+1))
    case measure=>have:=HGI.out;omega
    case rel=>exact ⟨i+1,rfl,hin,by go_num,zh ⟨_,_,HSK.out⟩⟩
   ·obtain ⟨f,c,hrc,hTr⟩:∃ f c,ht r=some c/\TrIn [] w B f r [.int .i64 (r:Int),u1,u2,u3,u4]:=hU.resolve_left fun q=>hr0 q.1
    obtain ⟨rN,rl⟩:=H.out.1.lt hrc;have j1:(0:Int)<(r:Int):=by omega
    have j2:(r:Int)<(N:Int):=by omega
    have oc:=HRD.out.out.cell rN;have of_:=zfb HRD.out.out r;obtain ⟨ov,hov⟩:∃ ov,ov=q r:=⟨_,rfl⟩
    have hle:ov<=1000+N*7:=by
     have h1:=HRD.out.sum r (by omega) rN;have h2:=addS_le H.out.1.good.ok (N:=N) D r;have h3:=pendL_le (R.take i) r;have h4:=List.length_take_le i R;omega
    rw [<- hov] at oc;have e4:IntKind.i64.wrap ((ov:Int)+1)=((ov+1:Nat):Int):=by rw [IntWalk.i64_in _ (by omega)];omega
    have HOV:=zh hov;clear hov hle hr0;go_upto_region 8 with fail;have hcS:Chg [ob] wr (wr.setCell ⟨ob,r,none⟩ (.int .i64 ((ov+1:Nat):Int))):=(Chg.refl [ob] wr).setCell (.inl (by simp)) _;have hoS:=HRD.out.out.set (x:=r) (v:=ov+1);rw [show ((ov+1:Nat):Int)=(ov:Int)+1 by omega] at hcS hoS;generalize wr.setCell ⟨ob,r,none⟩ (.int .i64 ((ov:Int)+1))=w3 at hcS hoS ⊢;have hoS2:NumRow w3 ob N (fun k=>if k=r then q r+1 else q k):=by rw [<- HOV.out];exact hoS
    have hbS:=HRD.out.bits.chg hcS (by simp only [zms];have:=H2.out.2.2.2;omega);have c03:Chg [ob,db] W2 w3:=HRD.out.chg.trans (hcS.mono (by simp))
    have hTr3:TrIn [ob,db] w3 B f r [.int .i64 (r:Int),u1,u2,u3,u4] :=
     (hTr.chg H2.out.2.1 (by simp) (A':=[ob,db]) (fun k hk => .inr (by have h1:=H2.out.2.2.1;have h2:=H2.out.2.2.2;simp only [List.mem_cons,List.not_mem_nil,or_false] at hk;omega)) _ _ _).chg c03 (fun k hk => .inl hk) (fun k hk => .inl hk) _ _ _
    have ca:Calls Tryz.prog 165 #[.slice (some ⟨ob,0,none⟩) N N,.slice (some ⟨db,0,none⟩) N N,.agg #[.int .i64 (r:Int),u1,u2,u3,u4]] w3 fun e w'=>e = .returned (.tuple #[])/\∃ o' D',Added B N ht w3 ob db (fun k=>if k=r then q r+1 else q k) D w' o' D'/\D' r=true :=
     add_all f H.out.1 H.out.2.1 hrc (by have:=H2.out.2.2.2;omega) hoS2 hbS (HRD.out.far (by have:=List.length_take_le i R;omega) r) hTr3
    have hcw3:∀ j,j<5->w3.cell? ⟨b,i*5+j,none⟩=[Value.int .i64 (r:Int),u1,u2,u3,u4][j]?:=fun j hj=>(hcS.cell (p:=⟨b,i*5+j,none⟩) (World.block_lt_of_cell? wr ⟨b,i*5,none⟩ e0) (by have:=HU.out.2;simp only [List.mem_cons,List.not_mem_nil,or_false,zms] at this ⊢;omega)).trans (hcw j hj);have d0:w3.cell? ⟨b,i*5,none⟩=some (.int .i64 (r:Int)):=hcw3 0 (by omega);have d1:w3.cell? ⟨b,i*5+1,none⟩=some u1:=hcw3 1 (by omega);have d2:w3.cell? ⟨b,i*5+2,none⟩=some u2:=hcw3 2 (by omega);have d3:w3.cell? ⟨b,i*5+3,none⟩=some u3:=hcw3 3 (by omega);have d4:w3.cell? ⟨b,i*5+4,none⟩=some u4:=hcw3 4 (by omega);have CA:=zh ca;have HCS:=zh hcS;have hrz:r≠0:=by omega
    clear hoS hoS2 hbS c03 hTr3 ca hcw3 hcw hTr hU oc of_ e0 hcS;go_wp2_with fail;refine CA.out.mono ?_;clear CA;rintro e w4 ⟨rfl,o2,D2,hA,hx⟩;have hst:=HRD.out.step hrz HCS.out hA hx;rw [<- HTK.out] at hst;have HST:=zh hst;clear hst hA hx d0 d1 d2 d3 d4;go_wp2_with fail;go_roundg (n - (i+1))
    case measure=>have:=HGI.out;omega
    case rel=>exact ⟨i+1,rfl,hin,by go_num,zh ⟨_,_,HST.out⟩⟩
  ·obtain rfl:i=n:=by omega
   have i1:¬ (i:Int)<(i:Int):=by omega
   have hfull:R.take i=R:=by rw [H.out.2.2.2.2];exact List.take_length
   rw [hfull] at hrd;have HF:=zh (zA hrd (H2.out.2.1.then hrd.chg (fun k hk => .inr (by have h1:=H2.out.2.2.1;have h2:=H2.out.2.2.2;simp only [List.mem_cons,List.not_mem_nil,or_false] at hk;omega))));clear hrd hfull;go_wp2_with fail;go_ret;exact ⟨ob,q,D,rfl,HF.out.1.out,HF.out.1.marks,HF.out.1.roots,HF.out.1.sum,HF.out.1.zero,HF.out.2⟩
structure CtIn (N G:Nat) (B:Bs) (ht:Ht) (pend:Nat->Nat) (R:List Nat) (oth:Nat->Int):Prop where
 gr:Gr N G B ht pend
 hM:1<=N/\N<=4096
 top:∀ r,r∈R->r=0∨∃ c,ht r=some c/\c % 100<8
 all:∀ n,(ht n).isSome=true->1<=pend n->n∈R
 low:∀ n c,ht n=some c->c<200
 tell:∀ k c,ht k=some c->100<=c->c % 100=0->∀ d,B.nodeI (k:Int)=some d->∀ i,i<d.n->d.v i≠0->d.v i∈R
 sum:∀ b,2<=b->b<N->(pendL R b:Int)+oth b=(pend b:Int)
 o0:oth 0=0/\oth 1=0
 big:∀ b,b<N -> -1000000<=oth b/\oth b<=1000000
 len:R.length<=1000
theorem CtIn.ends {N G:Nat} {B:Bs} {ht:Ht} {pend:Nat->Nat} {R:List Nat} {oth:Nat->Int} (h:CtIn N G B ht pend R oth) {q:Nat->Nat} {D:Nat->Bool} (m:Marks B ht (fun _=>false) D) (hr:∀ r,r∈R->r≠0->D r=true) (hs:∀ b,1<=b->b<N->q b=pendL R b+addS B N D b) (h0:q 0=0) :
  (∀ b,b<N->¬ ((q b:Int)+oth b=0/\B.T.now b=1)->(B.T.now b:Int)=(q b:Int)+oth b)/\cnt N (fun b=>decide ((q b:Int)+oth b=0/\B.T.now b=1))=needN N/\∀ b,b<N->q b<=100000:=by
 have hne:∀ r,r∈R->r≠1:=fun r hm e=>by
  rcases h.top r hm with q | ⟨c,hc,_⟩
  ·omega
  ·exact h.gr.ne1 hc e
 have ha:∀ b,addS B N D b=Refs B ht N b:=fun b=>h.gr.addS_eq m (fun n hn hp=>hr n (h.all n hn hp) (fun e=>by
  obtain ⟨c,hc⟩:=Option.isSome_iff_exists.1 hn;have:=h.gr.two (h.gr.lt hc).2 (h.gr.lt hc).1;omega)) h.low (fun k c hk h1 h2 d hd i hi hv=>hr _ (h.tell k c hk h1 h2 d hd i hi hv) hv) b
 have h1:((q 1:Nat):Int)+oth 1=0:=by
  rw [h.o0.2,hs 1 (by omega) (by have:=h.gr.good.ok.n.1;have:=h.gr.good.n;omega),ha,h.gr.refs_one];unfold pendL;rw [List.count_eq_zero.2 (fun hm=>hne 1 hm rfl)];rfl
 obtain ⟨r1,r2⟩:=h.gr.counted (q:=fun b=>(q b:Int)+oth b) (by show ((q 0:Nat):Int)+oth 0=0;rw [h0,h.o0.1];rfl) h1 (fun b b2 bN=>by
  have:=h.sum b b2 bN
  show ((q b:Nat):Int)+oth b=_
  rw [hs b (by omega) bN,ha];omega)
 refine ⟨r1,r2,fun b hb=>?_⟩;by_cases e:b=0
 ·rw [e,h0];omega
 ·rw [hs b (by omega) hb]
  have h2:=addS_le h.gr.good.ok (N:=N) D b;have h3:=pendL_le R b;have:=h.len;have:=h.hM;omega
def TopEnd (w:World) (B:Bs) (ht:Ht) (r:Nat) (e:Ending) (w':World):Prop :=
 ∃ (lf:Bool) (a1 a2 a3:Option Addr) (n1 c1 n2 c2 n3 c3:Nat),e = .returned (.tuple #[.agg #[.int .i64 (r:Int),.bool lf,.slice a1 n1 c1,.slice a2 n2 c2,.slice a3 n3 c3],.bool true])/\(∀ A,(∀ q,q∈A->q<w.heap.size)->TopIn A w' B ht r [.int .i64 (r:Int),.bool lf,.slice a1 n1 c1,.slice a2 n2 c2,.slice a3 n3 c3])/\Chg [] w w'
theorem tree14_zero {w:World} {p:Value} {B:Bs} {ht:Ht} : Calls Tryz.prog 123 #[p,.int .i64 0,.int .i64 0] w (TopEnd w B ht 0):=by
 have k0:=znb w (.cells #[.int .i64 0,.bool false,.slice none 0 0,.slice none 0 0,.slice none 0 0] 201);have c0:=(Chg.refl [] w).alloc (.cells #[.int .i64 0,.bool false,.slice none 0 0,.slice none 0 0,.slice none 0 0] 201);have s1:(w.alloc (.cells #[.int .i64 0,.bool false,.slice none 0 0,.slice none 0 0,.slice none 0 0] 201)).heap.size=w.heap.size+1:=size_alloc' _ _;have k1:=znb (w.alloc (.cells #[.int .i64 0,.bool false,.slice none 0 0,.slice none 0 0,.slice none 0 0] 201)) (.cells #[.int .i64 0,.bool false,.slice none 0 0,.slice none 0 0,.slice none 0 0] 201);have c1:=c0.alloc (.cells #[.int .i64 0,.bool false,.slice none 0 0,.slice none 0 0,.slice none 0 0] 201);have k2:=(((Chg.refl [] _).alloc (.cells #[.int .i64 0,.bool false,.slice none 0 0,.slice none 0 0,.slice none 0 0] 201)).block w.heap.size (zhl k0) (by simp)).trans k0;rw [s1] at k1;clear k0 c0 s1;go_enter Tryz.func123,Tryz.ntmps123;go_upto_region 2 with fail;generalize (w.alloc _).alloc _=W at k1 c1 k2 ⊢;have y0:=zcb k1 0;have y1:=zcb k1 1;have y2:=zcb k1 2;have y3:=zcb k1 3;have y4:=zcb k1 4;simp only [tA1,tA3,tA2] at y0 y1 y2 y3 y4;have t0:=zcb k2 0;have t1:=zcb k2 1;have t2:=zcb k2 2;have t3:=zcb k2 3;have t4:=zcb k2 4;simp only [tA1,tA3,tA2] at t0 t1 t2 t3 t4;have f0:=zfb k2 0;have f1:=zfb k2 1;have f2:=zfb k2 2;have f3:=zfb k2 3;have f4:=zfb k2 4;have HK:=zh (zA k2 c1);clear k1 c1 k2;go_wp2_with fail;refine bodyPost_ret (results_ct (a:=6) (b:=7) (by kernel_rfl) rfl (load5 (set5 HK.out.1 _ _ _ _ _))) rfl ?_
 exact ⟨_,_,_,_,_,_,_,_,_,_,rfl,fun A hA => .inl ⟨rfl,rfl⟩,HK.out.2.then (set5_chg _ _ _ _ _ _ _) (fun q hq=>by rw [zms] at hq;exact .inr (by omega))⟩
theorem tree14_top {w:World} {M:Bm} {F:List Nat} {N G:Nat} {B:Bs} {ht:Ht} {pend:Nat->Nat} {r:Nat} (hb:BaseAt w M F B) (g:Gr N G B ht pend) (hM:N<=4096) (hr:r=0∨∃ c,ht r=some c/\c % 100<8) :
  Calls Tryz.prog 123 #[.pointer (some ⟨M.b,0,none⟩),.int .i64 (r:Int),.int .i64 0] w (TopEnd w B ht r):=by
 rcases hr with rfl | ⟨c,hc,h8⟩
 ·exact tree14_zero
 ·refine (tree14_all (c % 100) (l:=0) hb g hM hc rfl (by omega)).mono ?_
  rintro e w' ⟨lf,a1,a2,a3,n1,c1,n2,c2,n3,c3,h1,h2,h3⟩;exact ⟨lf,a1,a2,a3,n1,c1,n2,c2,n3,c3,h1,fun A hA => .inr ⟨_,c,hc,h2 A hA⟩,h3⟩
theorem counted_at {w:World} {M:Bm} {F:List Nat} {N G:Nat} {B:Bs} {ht:Ht} {pend:Nat->Nat} {R:List Nat} {oth:Nat->Int} (hb:BaseAt w M F B) (hC:CtIn N G B ht pend R oth) {v vo:Value} (hv:SlI w v R)
  (hO:∀ w',Chg [] w w'->∀ b:Nat,b<N->(Instr.lookup 68 vo (.int .i64 (b:Int)) false).run Tryz.prog w' = .ok (.int .i64 (oth b)) w') :
  Calls Tryz.prog 67 #[.pointer (some ⟨M.b,0,none⟩),v,vo] w fun e w'=>e = .returned (.bool true)/\Chg [] w w':=by
 obtain ⟨a,cap,rfl⟩:=hv.len;have cbl:=hb.cBlocks;have hgn:=hC.gr.good.n;rw [hgn] at cbl;have hN:=hC.hM;have hlen:=hC.len;obtain ⟨n,hn⟩:∃ n,n=R.length:=⟨_,rfl⟩;have H:=zh (zA hb (zA hC (zA hv (zA hO hn))));rw [<- hn] at hlen ⊢;have n0:((N:Int)==0)=false:=by rw [beq_eq_false_iff_ne];omega
 clear hb hC hv hO hn;go_enter Tryz.func67,Tryz.ntmps67;go_wp2_with fail;refine (cbl).mono ?_;rintro e w' ⟨rfl,rfl⟩;go_upto_region 5 with fail;go_loopg [7,21] n (fun gg s7 s21 wr=>∃ i:Nat,gg=n - i/\i<=n/\s21 = .int .i64 (i:Int)/\Hid (∃ us:List (List Value),wr.ownsRow w.heap.size 201 5 s7 i us.flatten/\us.length=i/\(∀ U,U∈us->U.length=5)/\(∀ j,j<i->TopIn (ownL s7) wr B ht (R.getD j 0) (us.getD j []))/\Chg [] w wr))
 case atStart=>exact ⟨0,rfl,Nat.zero_le _,rfl,zh ⟨[],World.ownsRow_nil _ _ _ _,rfl,fun U hU=>(by cases hU),fun j hj=>by omega,Chg.refl _ _⟩⟩
 case round =>
  obtain ⟨i,hgi,hi,rfl,HR⟩:=hrel;have HGI:=zh hgi;clear hgi;obtain ⟨us,h1,h2,h3,h4,h5⟩:=HR.out;obtain ⟨ua,uc,rfl,u1,u2⟩:=zos h1;have HS:=zh (zA h1 (zA h2 (zA h3 (zA h4 h5))));by_cases hin:i<n
  ·have i1:(i:Int)<(n:Int):=by omega
   have hin':i<R.length:=by rw [<- H.out.2.2.2.2];exact hin
   obtain ⟨g,rfl,hcc⟩:=(H.out.2.2.1.chg h5 (by simp)).get.2 i hin';have hmem:R.getD i 0∈R:=by rw [zgD,List.getElem?_eq_getElem hin'];exact List.getElem_mem _
   have ct:=tree14_top (H.out.1.chg h5 (by simp)) H.out.2.1.gr H.out.2.1.hM.2 (H.out.2.1.top _ hmem);obtain ⟨r,hr⟩:∃ r,r=R.getD i 0:=⟨_,rfl⟩;rw [<- hr] at hcc ct;have HRr:=zh hr;have CT:=zh ct;clear h1 h2 h3 h4 h5 hmem ct hr hin';go_wp2_with fail;refine CT.out.mono ?_;clear CT;rintro e w3 ⟨lk,a1,a2,a3,n1,m1,n2,m2,n3,m3,rfl,hT,hc3⟩;have HT:=zh (zA hT hc3);clear hT hc3;go_upto_region 10 with fail;have kx:=znb w3 (.cells #[.int .i64 (r:Int),.bool lk,.slice a1 n1 m1,.slice a2 n2 m2,.slice a3 n3 m3] 201);have cx:=HT.out.2.alloc (.cells #[.int .i64 (r:Int),.bool lk,.slice a1 n1 m1,.slice a2 n2 m2,.slice a3 n3 m3] 201);have cx3:=(Chg.refl [] w3).alloc (.cells #[.int .i64 (r:Int),.bool lk,.slice a1 n1 m1,.slice a2 n2 m2,.slice a3 n3 m3] 201);generalize w3.alloc (.cells #[.int .i64 (r:Int),.bool lk,.slice a1 n1 m1,.slice a2 n2 m2,.slice a3 n3 m3] 201)=W3 at kx cx cx3 ⊢;have e0:=zcb kx 0;have e1:=zcb kx 1;have e2:=zcb kx 2;have e3:=zcb kx 3;have e4:=zcb kx 4;simp only [tA1,tA3,tA2] at e0 e1 e2 e3 e4;have hn4:=znb W3 (.cells #[.int .i64 (r:Int),.bool lk,.slice a1 n1 m1,.slice a2 n2 m2,.slice a3 n3 m3] 201);have hc4:Chg [] W3 (W3.alloc (.cells #[.int .i64 (r:Int),.bool lk,.slice a1 n1 m1,.slice a2 n2 m2,.slice a3 n3 m3] 201)):=(Chg.refl [] W3).alloc _;have c4:=cx.trans hc4;have H4:=zh (zA (zoc HS.out.1 c4 (by simp)) (zA hn4 (zA c4 (zLt HS.out.2.2.2.2.size c4.size))));have C34:=zh (cx3.trans hc4);clear hn4 hc4 c4 kx cx cx3
   go_wp2_with (at_builtin;refine wpList_app rfl _ _ 199 rfl rfl (base:=w.heap.size) (size:=5) (n:=i) (m:=1) (xs:=us.flatten) (news:=[.int .i64 (r:Int),.bool lk,.slice a1 n1 m1,.slice a2 n2 m2,.slice a3 n3 m3]) Tryz.underlying199 infoTree5 rfl (by omega) (by omega) rfl rfl H4.out.1 (AppSrc.blk H4.out.2.1 rfl (fun u hu=>by simp at hu;rcases hu with rfl | rfl | rfl | rfl | rfl <;> rfl)) (by omega) H4.out.2.2.2 ?_;intro v' w5 hown5 hg5 ho5;have cG:=(Chg.refl (ownL (.slice ua i uc)) _).grown hg5 (fun z hz => .inl (zml.2 hz));have H5:=zh (zA hown5 (zA cG ho5));clear hown5 hg5 ho5 cG);go_roundg (n - (i+1))
   case measure=>have:=HGI.out;omega
   case rel =>
    refine ⟨i+1,rfl,hin,by go_num,zh ⟨us++[[.int .i64 (r:Int),.bool lk,.slice a1 n1 m1,.slice a2 n2 m2,.slice a3 n3 m3]],?_,by rw [List.length_append,HS.out.2.1];rfl,fun V hV=>?_,fun j hj=>?_,(HS.out.2.2.2.2.trans H4.out.2.2.1).then H5.out.2.1 (fun q hq => .inr (HS.out.1.lt q (zml.1 hq)).1)⟩⟩
    ·have:=H5.out.1
     rw [List.flatten_append];simpa using this
    ·rcases List.mem_append.1 hV with hV | hV
     ·exact HS.out.2.2.1 V hV
     ·rw [zms] at hV
      rw [hV];rfl
    ·have hob:v'.ownBlock=(Value.slice ua i uc).ownBlock∨v'.ownBlock=some _:=H5.out.2.2
     have hal:∀ y Y,TopIn (ownL (.slice ua i uc)) _ B ht y Y->TopIn (ownL v') w5 B ht y Y:=fun y Y h=>h.chg H5.out.2.1 (fun q hq => .inl hq) (fun q hq=>by
      have hq:=zml.1 hq;rcases hob with e | e
      ·exact .inl (zml.2 (e.symm.trans hq))
      ·rw [e] at hq
       exact .inr (Nat.le_of_eq (Option.some.inj hq)))
     by_cases hji:j<i
     ·rw [zgD (l:=us++_),List.getElem?_append_left (by rw [HS.out.2.1];exact hji),<- zgD]
      exact hal _ _ ((HS.out.2.2.2.1 j hji).chg H4.out.2.2.1 (by simp) (fun q hq => .inl hq))
     ·obtain rfl:j=i:=by omega
      rw [zgD (l:=us++_),List.getElem?_append_right (by rw [HS.out.2.1];omega),HS.out.2.1,Nat.sub_self,<- HRr.out];exact hal _ _ ((HT.out.1 _ (fun q hq=>(HS.out.1.lt q (zml.1 hq)).2)).chg C34.out (by simp) (fun q hq => .inl hq))
  ·obtain rfl:i=n:=by omega
   have i1:¬ (i:Int)<(i:Int):=by omega
   have hfo:ForestIn [] wr B ht (.slice ua i uc) R:=by
    refine ⟨ua,uc,by rw [H.out.2.2.2.2],by rw [<- H.out.2.2.2.2];exact u1,u2,fun h0=>?_⟩;rw [<- H.out.2.2.2.2] at h0;obtain ⟨g,c',e,g1,g2,g3,g4,g5⟩:=zol h1 h0;injection e with e _ e';subst e;subst e';refine ⟨g,rfl,g4,by simp,fun j hj=>?_⟩;rw [<- H.out.2.2.2.2] at hj;exact ⟨_,(h4 j hj).chg (Chg.refl [] wr) (by simp) (by simp),fun q hq=>by rw [g5 _ (by omega),flat5 us h3 j q (by rw [h2];exact hj) hq]⟩
   have cr:=refs_at H.out.2.1.gr H.out.2.1.hM.2 hfo (by rw [<- H.out.2.2.2.2];exact hlen);have cb2:=(H.out.1.chg h5 (by simp)).cBlocks;rw [hgn] at cb2;have CR:=zh cr;clear h1 h2 h3 h4 h5 cr hfo;go_wp2_with fail;refine cb2.mono ?_;clear cb2;rintro e w' ⟨rfl,rfl⟩;go_wp2_with fail;refine CR.out.mono ?_;clear CR;rintro e w2 ⟨ob,q,D,rfl,hq,hm,hr,hs,h0,hc2⟩;obtain ⟨e1,e2,e3⟩:=H.out.2.1.ends hm hr hs h0;have HQ:=zh (zA hq (zA e1 (zA e2 (zA e3 (HS.out.2.2.2.2.trans hc2)))));clear hq hm hr hs h0 hc2 e1 e2 e3;go_upto_region 15 with fail;go_loopg [13,44] N (fun gg s13 s44 wk=>∃ j:Nat,gg=N - j/\j<=N/\s13 = .int .i64 ((cnt j fun b=>decide ((q b:Int)+oth b=0/\B.T.now b=1):Nat):Int)/\s44 = .int .i64 (j:Int)/\Hid (NumRow wk ob N q/\Chg [] w wk))
   case atStart=>exact ⟨0,rfl,Nat.zero_le _,rfl,rfl,zh ⟨HQ.out.1,HQ.out.2.2.2.2⟩⟩
   case round =>
    obtain ⟨j,hgj,hj,rfl,rfl,HJ⟩:=hrel;have HGJ:=zh hgj;clear hgj;by_cases hjn:j<N
    ·have j1:(j:Int)<(N:Int):=by omega
     have cdr:Chg [] w wr.drew:=HJ.out.2.drew;have qc:=(HJ.out.1.chg ((Chg.refl [] wr).drew) (by simp)).cell hjn;have ql:=HQ.out.2.2.2.1 j hjn;have hlk:=H.out.2.2.2.1 wr.drew cdr j hjn;have hbig:=H.out.2.1.big j hjn;have hsum:=HQ.out.2.1 j hjn;obtain ⟨qj,hqj⟩:∃ z,z=q j:=⟨_,rfl⟩;rw [<- hqj] at qc ql hsum;obtain ⟨oj,hoj⟩:∃ z,z=oth j:=⟨_,rfl⟩;rw [<- hoj] at hlk hbig hsum;have cw2:=H.out.1.chg cdr (by simp);have cc:=cw2.cCount (j:Int);rw [H.out.2.1.gr.getV hjn] at cc;have hnow:B.T.now j<=65535:=(H.out.2.1.gr.good.ok.le j (by rw [hgn];exact hjn)).1;have hcs:=cnt_step j (fun b=>decide ((q b:Int)+oth b=0/\B.T.now b=1));have hcl:=cnt_le (fun b=>decide ((q b:Int)+oth b=0/\B.T.now b=1)) j;obtain ⟨k,hk⟩:∃ k,k=cnt j (fun b=>decide ((q b:Int)+oth b=0/\B.T.now b=1)):=⟨_,rfl⟩;rw [<- hk] at hcs hcl ⊢;rw [<- hqj,<- hoj] at hcs;obtain ⟨s,hs⟩:∃ s,s=(qj:Int)+oj:=⟨_,rfl⟩;rw [<- hs] at hcs hsum;have e5:IntKind.i64.wrap ((qj:Int)+oj)=s:=by rw [hs];exact IntWalk.i64_in _ (by omega)
     obtain ⟨u,hu⟩:∃ u,u=B.T.now j:=⟨_,rfl⟩;rw [<- hu] at cc hnow hcs hsum;have HCC:=zh cc;have HCS:=zh (zA hcs (zA hsum hk));have e6:IntKind.i64.wrap ((k:Int)+1)=((k+1:Nat):Int):=by rw [IntWalk.i64_in _ (by omega)];omega
     obtain ⟨k1,hk1⟩:∃ k1,k1=k+1:=⟨_,rfl⟩;rw [<- hk1] at e6;have HK1:=zh hk1;have HDR:=zh (zA (HJ.out.1.chg ((Chg.refl [] wr).drew) (by simp)) cdr);clear cc hcs hsum hk hqj hoj hs hu hbig hk1 cw2 cdr;go_upto_region 17 with fail
     go_region
     by_cases hs0:s=0
     ·subst hs0
      by_cases hu1:u=1
      ·subst hu1
       have cc:=HCC.out;have hnx:cnt (j+1) (fun b=>decide ((q b:Int)+oth b=0/\B.T.now b=1))=k1:=by rw [HCS.out.1,HK1.out];rfl
       have HNX:=zh hnx;clear hnx;go_wp2_with fail;refine cc.mono ?_;clear cc;rintro e w' ⟨rfl,rfl⟩;go_wp2_with fail;go_roundg (N - (j+1))
       case measure=>have:=HGJ.out;omega
       case rel=>exact ⟨j+1,rfl,hjn,by rw [HNX.out],by go_num,zh HDR.out⟩
      ·have hu0:u=0:=by
        have:=HCS.out.2.1 (fun h=>hu1 h.2);omega
       subst hu0;have cc:=HCC.out;have cc2:=zh HCC.out;rw [show (((0:Nat)):Int)=0 from rfl] at cc;have hnx:cnt (j+1) (fun b=>decide ((q b:Int)+oth b=0/\B.T.now b=1))=k:=by rw [HCS.out.1];rfl
       have HNX:=zh hnx;clear hnx hu1;go_wp2_with fail;refine cc.mono ?_;clear cc;rintro e w' ⟨rfl,rfl⟩;have cc:=cc2.out;rw [show (((0:Nat)):Int)=0 from rfl] at cc;go_wp2_with fail;refine cc.mono ?_;clear cc;rintro e w' ⟨rfl,rfl⟩;go_wp2_with fail;go_roundg (N - (j+1))
       case measure=>have:=HGJ.out;omega
       case rel=>exact ⟨j+1,rfl,hjn,by rw [HNX.out],by go_num,zh HDR.out⟩
     ·have hus:(u:Int)=s:=HCS.out.2.1 (fun h=>hs0 h.1)
      have z0:(s==0)=false:=by rw [beq_eq_false_iff_ne];exact hs0
      have hnx:cnt (j+1) (fun b=>decide ((q b:Int)+oth b=0/\B.T.now b=1))=k:=by rw [HCS.out.1,decide_eq_false (fun h=>hs0 h.1)];rfl
      have HNX:=zh hnx;have cc:=HCC.out;rw [hus] at cc;have z1:(s != s)=false:=by simp
      clear hnx hus;go_wp2_with fail;refine cc.mono ?_;clear cc;rintro e w' ⟨rfl,rfl⟩;go_wp2_with fail;go_roundg (N - (j+1))
      case measure=>have:=HGJ.out;omega
      case rel=>exact ⟨j+1,rfl,hjn,by rw [HNX.out],by go_num,zh HDR.out⟩
    ·obtain rfl:j=N:=by omega
     have j1:¬ (j:Int)<(j:Int):=by omega
     have cb3:=(H.out.1.chg HJ.out.2 (by simp)).cBlocks;rw [hgn] at cb3;have cnd:=need_at (n:=j) wr hN.1 hN.2;have hcnt:=HQ.out.2.2.1;rw [hcnt];have HJ2:=zh HJ.out.2;clear hcnt;go_wp2_with fail;refine cb3.mono ?_;clear cb3;rintro e w' ⟨rfl,rfl⟩;go_wp2_with fail;refine cnd.mono ?_;clear cnd;rintro e w' ⟨rfl,rfl⟩;go_wp2_with fail;go_ret;exact ⟨rfl,HJ2.out⟩
theorem bd_u8 {x:Int} (h:(Lit.int .u8 x).wf=true):0<=x/\x<=255:=by
 simp [Lit.wf,IntKind.min,IntKind.max,IntKind.signed,IntKind.bits] at h;exact h
theorem bd_u64 {x:Int} (h:(Lit.int .u64 x).wf=true):0<=x/\x<=18446744073709551615:=by
 simp [Lit.wf,IntKind.min,IntKind.max,IntKind.signed,IntKind.bits] at h;exact h

open Go.RowKit Go.Deep
def natOf8:Value->Nat | .int _ n=>n.toNat | _=>0
theorem open_its8 {H:Type} {enc:TypeId × Value->H} {W:World} {a:Option Addr} {len cap:Nat} {d:DataW H} {p:List MemPlace}
  (h:DataW.Trod enc Tryz.prog W 0 (fun _=>true) true 113 (.slice a len cap) d p):∃ l:List (Nat × Nat),Its8 [] W (.slice a len cap) l:=by
 obtain ⟨fuel,hf⟩:=h;rcases open_slice_pairs Tryz.underlying113 Tryz.underlying197 (by kernel_rfl) rfl rfl (by kernel_rfl) (by kernel_rfl) hf with ⟨hcs,_⟩ | ⟨x,l,c,m,n,V0,V1,D0,D1,P0,P1,hcs,_,hl,hm,hmeq,_,hall⟩
 ·simp [Value.cells] at hcs
  obtain ⟨rfl,rfl,rfl⟩:=hcs;exact ⟨[],⟨_,_,rfl,zLr _,Nat.zero_le _,fun q=>by simp at q⟩,fun p hp=>by cases hp⟩
 ·simp [Value.cells] at hcs
  obtain ⟨rfl,rfl,rfl⟩:=hcs;simp only [if_true] at hmeq;subst hmeq
  have each:∀ i,i<len->x.spot=none/\x.block<W.heap.size/\W.cell? ⟨x.block,x.off+i*2,none⟩=some (.int .u64 (natOf8 (V0 i):Int))/\W.cell? ⟨x.block,x.off+i*2+1,none⟩=some (.int .u8 (natOf8 (V1 i):Int))/\natOf8 (V0 i)<18446744073709551616/\natOf8 (V1 i)<256:=fun i hi=>by
   obtain ⟨h0,h1,t0,t1⟩:=hall i (by omega);obtain ⟨n0,hv0,_,w0⟩:=DataW.trod_int Tryz.underlying44 t0;obtain ⟨n1,hv1,_,w1⟩:=DataW.trod_int Tryz.underlying5 t1;simp only [List.cons.injEq,and_true] at hv0 hv1;have b0:=bd_u64 w0;have b1:=bd_u8 w1;obtain ⟨b,off,sp⟩:=x;have hs0:=(hall 0 (by omega)).1;have hspot:sp=none:=by simpa [Addr.add] using World.cell?_spot hs0
   subst hspot;have e (k:Nat):(⟨b,off,none⟩:Addr).add k=⟨b,off+k,none⟩:=by unfold Addr.add;split <;> simp_all
   rw [e] at h0 h1;rw [hv0] at h0 ⊢;rw [hv1] at h1 ⊢;refine ⟨rfl,World.block_lt_of_cell? W ⟨b,off+i*2,none⟩ h0,?_,?_,?_,?_⟩
   ·show W.cell? ⟨b,off+i*2,none⟩=some (.int .u64 ((n0.toNat:Nat):Int))
    rw [h0,Int.toNat_of_nonneg b0.1]
   ·show W.cell? ⟨b,off+i*2+1,none⟩=some (.int .u8 ((n1.toNat:Nat):Int))
    rw [show off+i*2+1=off+(i*2+1) by omega,h1,Int.toNat_of_nonneg b1.1]
   ·show n0.toNat<_;omega
   ·show n1.toNat<_;omega
  obtain ⟨L,hL⟩:∃ L,L=(List.range len).map fun i=>(natOf8 (V0 i),natOf8 (V1 i)):=⟨_,rfl⟩;have hlen:L.length=len:=by rw [hL];simp
  have hget:∀ i,i<len->L.getD i (0,0)=(natOf8 (V0 i),natOf8 (V1 i)):=fun i hi=>by
   rw [hL,zgD,List.getElem?_map,List.getElem?_range hi];rfl
  refine ⟨L,⟨some x,_,by rw [hlen],by rw [hlen];exact hl,hm,fun h0=>?_⟩,fun q hq=>?_⟩
  ·obtain ⟨hs,hb,-⟩:=each 0 (by omega)
   obtain ⟨b,off,sp⟩:=x;have hs:sp=none:=hs;subst hs;refine ⟨b,off,rfl,hb,by simp,fun i hi=>?_⟩;rw [hlen] at hi;obtain ⟨-,-,k0,k1,-⟩:=each i hi;rw [hget i hi];exact ⟨k0,k1⟩
  ·rw [hL] at hq
   obtain ⟨i,hi,rfl⟩:=List.mem_map.1 hq;exact (each i (List.mem_range.1 hi)).2.2.2.2
open Go.WideShapes Go.ChangeShapes
theorem addr_add14 (b o i:Nat):(⟨b,o,none⟩:Addr).add i=⟨b,o+i,none⟩:=by unfold Addr.add;split <;> simp_all
structure Op3 where
 code:Nat
 root:Nat
 kid:Nat
structure Op3OK (o:Op3):Prop where
 code:o.code<=255
 root:o.root<=255
 kid:o.kid<=255
def Op3C (c:Nat->Option Value) (o:Op3):Prop :=
 c 0=some (.int .u8 (o.code:Int))/\c 1=some (.int .u8 (o.root:Int))/\c 2=some (.int .u8 (o.kid:Int))/\Op3OK o
def IsOps3 (w:World) (a:Option Addr) (len cap:Nat) (z:Nat->Op3):Prop :=
 len<=cap/\cap<=maxLen/\(a=none->len=0/\cap=0) /\
 ∀ i,i<len->∃ b off,a=some ⟨b,off,none⟩/\b<w.heap.size/\Op3C (fun j=>w.cell? ⟨b,off+i*3+j,none⟩) (z i)
theorem op3_of_trod {H:Type} {enc:TypeId × Value->H} {W:World} {fuel:Nat} {cs:List Value} {x:DataW H × List MemPlace} (h:DataW.trod enc Tryz.prog W 0 (fun _=>true) true fuel 128 cs=some x) :
  ∃ v0 v1 v2,cs=[v0,v1,v2]/\∃ o:Op3,v0 = .int .u8 (o.code:Int)/\v1 = .int .u8 (o.root:Int)/\v2 = .int .u8 (o.kid:Int)/\Op3OK o:=by
 obtain ⟨xs,k,_,hxy,hl,hxl,hf⟩:=DataW.trod_struct Tryz.underlying128 h;have hC:Tryz.prog.cellsOf 128=3:=by kernel_rfl
 rw [hC] at hl
 match xs,hxl,cs,hl with
 | [y0,y1,y2],_,[v0,v1,v2],_ =>
  have c8:Tryz.prog.cellsOf 5=1:=by kernel_rfl
  have g0:=hf 0 _ rfl;have g1:=hf 1 _ rfl;have g2:=hf 2 _ rfl;simp [c8] at g0 g1 g2;obtain ⟨n0,e0,_,w0⟩:=DataW.trod_int Tryz.underlying5 g0;obtain ⟨n1,e1,_,w1⟩:=DataW.trod_int Tryz.underlying5 g1;obtain ⟨n2,e2,_,w2⟩:=DataW.trod_int Tryz.underlying5 g2;simp only [List.cons.injEq,and_true] at e0 e1 e2;have b0:=bd_u8 w0;have b1:=bd_u8 w1;have b2:=bd_u8 w2;refine ⟨v0,v1,v2,rfl,⟨n0.toNat,n1.toNat,n2.toNat⟩,?_,?_,?_,⟨?_,?_,?_⟩⟩
  ·rw [e0];show _=Value.int .u8 ((n0.toNat:Nat):Int);rw [Int.toNat_of_nonneg b0.1]
  ·rw [e1];show _=Value.int .u8 ((n1.toNat:Nat):Int);rw [Int.toNat_of_nonneg b1.1]
  ·rw [e2];show _=Value.int .u8 ((n2.toNat:Nat):Int);rw [Int.toNat_of_nonneg b2.1]
  ·show n0.toNat<=255;omega
  ·show n1.toNat<=255;omega
  ·show n2.toNat<=255;omega
theorem open_op14 {H:Type} {enc:TypeId × Value->H} {W:World} {a:Option Addr} {len cap:Nat} {d:DataW H} {p:List MemPlace}
  (h:DataW.Trod enc Tryz.prog W 0 (fun _=>true) true 126 (.slice a len cap) d p):∃ z,IsOps3 W a len cap z:=by
 obtain ⟨fuel,hf⟩:=h;have dz:Op3:=⟨0,0,0⟩;rcases open_slice Tryz.underlying126 hf with ⟨hcs,_⟩ | ⟨x,l,c,m,n,D,Pl,hcs,_,hl,hm,hmeq,_,hall⟩
 ·simp [Value.cells] at hcs
  obtain ⟨rfl,rfl,rfl⟩:=hcs;exact ⟨fun _=>dz,zLr _,Nat.zero_le _,fun _=>⟨rfl,rfl⟩,fun i hi=>by omega⟩
 ·simp [Value.cells] at hcs
  obtain ⟨rfl,rfl,rfl⟩:=hcs;simp only [if_true] at hmeq;subst hmeq;have hC:Tryz.prog.cellsOf 128=3:=by kernel_rfl
  have hspot0:0<len->x.spot=none:=fun h0=>by
   obtain ⟨cs',h1,h2⟩:=hall 0 (by omega);rw [hC] at h1;obtain ⟨_,hlen,hcell⟩:=World.cells?_some h1;obtain ⟨v0,v1,v2,rfl,_⟩:=op3_of_trod h2;have k0:=World.cell?_spot (hcell 0 (by omega));simpa [Addr.add] using k0
  have each:∀ i,i<len->∃ o:Op3,∃ b off,(some x:Option Addr)=some ⟨b,off,none⟩/\b<W.heap.size/\Op3C (fun j=>W.cell? ⟨b,off+i*3+j,none⟩) o:=by
   intro i hi;obtain ⟨cs',h1,h2⟩:=hall i (by omega);rw [hC] at h1;obtain ⟨_,hlen,hcell⟩:=World.cells?_some h1;obtain ⟨v0,v1,v2,rfl,o,e0,e1,e2,hO⟩:=op3_of_trod h2;obtain ⟨b,off,sp⟩:=x;have hspot:sp=none:=hspot0 (by omega);subst hspot
   have hk:∀ j,j<3->W.cell? ⟨b,off+i*3+j,none⟩=[v0,v1,v2][j]?:=fun j hj=>by
    have:=hcell j (by omega);rw [addr_add14,addr_add14] at this;exact this
   refine ⟨o,b,off,rfl,World.block_lt_of_cell? W ⟨b,off+i*3+0,none⟩ (u:=v0) (by rw [hk 0 (by omega)];rfl),?_,?_,?_,hO⟩
   ·show W.cell? ⟨b,off+i*3+0,none⟩=_;rw [hk 0 (by omega),<- e0];rfl
   ·show W.cell? ⟨b,off+i*3+1,none⟩=_;rw [hk 1 (by omega),<- e1];rfl
   ·show W.cell? ⟨b,off+i*3+2,none⟩=_;rw [hk 2 (by omega),<- e2];rfl
  have hz:∃ z:Nat->Op3,∀ i,i<len->∃ b off,(some x:Option Addr)=some ⟨b,off,none⟩/\b<W.heap.size/\Op3C (fun j=>W.cell? ⟨b,off+i*3+j,none⟩) (z i):=by
   classical
   refine ⟨fun i=>if h:i<len then Classical.choose (each i h) else dz,fun i hi=>?_⟩;have:=Classical.choose_spec (each i hi);simpa [hi] using this
  obtain ⟨z,hz⟩:=hz;exact ⟨z,hl,hm,(fun h=>by cases h),hz⟩
theorem Op3C.chg {L:List Nat} {w w':World} {b off i:Nat} {o:Op3} (h:Op3C (fun j=>w.cell? ⟨b,off+i*3+j,none⟩) o) (c:Chg L w w') (hb:b<w.heap.size) (hL:b∉L) :
  Op3C (fun j=>w'.cell? ⟨b,off+i*3+j,none⟩) o:=by
 obtain ⟨e0,e1,e2,hO⟩:=h;have hc:∀ j v,w.cell? ⟨b,off+i*3+j,none⟩=some v->w'.cell? ⟨b,off+i*3+j,none⟩=some v:=fun j v h=>(c.cell (p:=⟨b,off+i*3+j,none⟩) hb hL).trans h;exact ⟨hc _ _ e0,hc _ _ e1,hc _ _ e2,hO⟩
end Go.Proofs.YtkhcaclndepgbaaGreat
