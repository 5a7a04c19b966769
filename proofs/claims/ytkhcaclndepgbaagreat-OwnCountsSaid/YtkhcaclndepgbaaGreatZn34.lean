/- Layer 11 in plain words: blocks that are counted and no page's; how much room there is. · Layer 11: what its statements begin with: blocks out of numbers, a disk that is formatted, commits. · Layer 11 in plain words: what is done to a base that may go on. · Layer 11: the chapter's examples. · Layer 11: the chapter's examples: the walk. · Layer 13's statements: a base, a node that is put. -/
import Derived.Test.YtkhcaclndepgbaaGreatZn31
import Derived.Test.YtkhcaclndepgbaaGreatZn32
import Derived.Test.YtkhcaclndepgbaaGreatZn33
set_option linter.unusedVariables false
set_option linter.unusedSimpArgs false
set_option maxRecDepth 100000
set_option maxHeartbeats 20000000
namespace Go.Proofs.YtkhcaclndepgbaaGreat
theorem cnt_one {x n:Nat} (h:x<n):cnt n (fun b=>decide (b=x))=1:=by
 have:=cnt_upd (p:=fun b=>decide (b=x)) (q:=fun _=>false) (k:=x) (n:=n) h (fun i _ hi=>by simp [hi]);rw [cnt_false] at this;simpa using this.symm
theorem cnt_mem {N:Nat} : ∀ l:List Nat,l.Nodup->(∀ x,x∈l->x<N)->cnt N (fun b=>decide (b∈l))=l.length
 | [],_,_=>cnt_zero fun i _=>by simp
 | x::r,hn,hl=>by
  obtain ⟨h1,h2⟩:=List.nodup_cons.1 hn;have ih:=cnt_mem r h2 (fun y hy=>hl y (by simp [hy]))
  have:=cnt_split (n:=N) (p:=fun b=>decide (b∈x::r)) (q:=fun b=>decide (b=x)) (r:=fun b=>decide (b∈r)) (fun i _=>by
   by_cases e:i=x
   ·subst e;simp [h1]
   ·simp [e])
  rw [this,cnt_one (hl x (by simp)),ih,List.length_cons];omega
def pgB (B:Bs) (b:Nat):Bool:=pageB B 0 (b:Int)||pageB B 1 (b:Int)
theorem pgB_iff {B:Bs} {b:Nat} : pgB B b=true↔B.page b:=by
 unfold pgB;rw [Bool.or_eq_true,pageB_iff,pageB_iff];constructor
 ·rintro (⟨i,hi,e⟩ | ⟨i,hi,e⟩)
  ·exact ⟨0,i,by omega,hi,by omega⟩
  ·exact ⟨1,i,by omega,hi,by omega⟩
 ·rintro ⟨k,i,hk,hi,e⟩
  rcases (show k=0∨k=1 by omega) with rfl | rfl
  ·exact .inl ⟨i,hi,by omega⟩
  ·exact .inr ⟨i,hi,by omega⟩
def Bs.live (B:Bs) (b:Nat):Bool:=B.T.now b != 0 && !pgB B b
theorem live_iff {B:Bs} {b:Nat} : B.live b=true↔B.T.now b≠0/\¬ B.page b:=by
 unfold Bs.live;rw [Bool.and_eq_true,<- pgB_iff];simp
section
variable {B:Bs}
theorem Bs.Ok.page_lt (h:B.Ok) {k i:Nat} (hk:k<2) (hi:i<nOf B.T.n k):B.a k i<B.T.n:=(h.own.ok.has k i hk hi (h.own.nz k i hk hi)).1
theorem Bs.Ok.page_cnt (h:B.Ok) {k:Nat} (hk:k<2):cnt B.T.n (fun b=>pageB B k (b:Int))=nOf B.T.n k:=by
 rw [cnt_congr (q:=fun b=>decide (b∈atL B.a (nOf B.T.n) k)),cnt_mem,atL_len]
 ·unfold atL
  rw [List.Nodup,List.pairwise_map];refine List.Pairwise.imp_of_mem ?_ List.pairwise_lt_range;intro i j hi hj hlt e;rw [List.mem_range] at hi hj;have:=(h.own.ok.apart k i k j hk hi hk hj (h.own.nz k i hk hi) e).2;omega
 ·intro x hx
  unfold atL at hx;obtain ⟨i,hi,rfl⟩:=List.mem_map.1 hx;exact h.page_lt hk (by simpa using hi)
 ·intro b _
  rw [Bool.eq_iff_iff,pageB_iff,decide_eq_true_iff];unfold atL;rw [List.mem_map];constructor
  ·rintro ⟨i,hi,e⟩;exact ⟨i,by simpa using hi,by omega⟩
  ·rintro ⟨i,hi,e⟩;exact ⟨i,by simpa using hi,by omega⟩
theorem Bs.Ok.pages_cnt (h:B.Ok):cnt B.T.n (pgB B)=needN B.T.n:=by
 have:=cnt_split (n:=B.T.n) (p:=pgB B) (q:=fun b=>pageB B 0 (b:Int)) (r:=fun b=>pageB B 1 (b:Int)) (fun b _=>by
  unfold pgB
  cases h0:pageB B 0 (b:Int) with
  | false=>simp
  | true =>
   cases h1:pageB B 1 (b:Int) with
   | false=>simp
   | true =>
    obtain ⟨i,hi,e⟩:=pageB_iff.1 h0;obtain ⟨j,hj,e'⟩:=pageB_iff.1 h1;have:=(h.own.ok.apart 0 i 1 j (by omega) hi (by omega) hj (h.own.nz 0 i (by omega) hi) (by omega)).1;omega)
 rw [this,h.page_cnt (by omega),h.page_cnt (by omega)];rfl
theorem Bs.Ok.count_all (h:B.Ok):B.T.frees+B.T.waits+needN B.T.n+cnt B.T.n B.live=B.T.n:=by
 have h1:=cnt_split (n:=B.T.n) (p:=fun b=>B.T.now b==0) (q:=B.T.free) (r:=B.T.waitB) (fun b _=>by
  unfold Tal.free Tal.waitB;by_cases e:B.T.now b=0 <;> by_cases e2:B.T.kept b=0 <;> simp [e,e2])
 have h2:=cnt_split (n:=B.T.n) (p:=fun b=>B.T.now b != 0) (q:=pgB B) (r:=B.live) (fun b _=>by
  unfold Bs.live
  cases hp:pgB B b with
  | false=>by_cases e:B.T.now b=0 <;> simp [e]
  | true =>
   obtain ⟨k,i,hk,hi,e⟩:=pgB_iff.1 hp;have:=h.own.now k i hk hi;rw [e] at this;simp [this])
 have h3:=cnt_split (n:=B.T.n) (p:=fun _=>true) (q:=fun b=>B.T.now b==0) (r:=fun b=>B.T.now b != 0) (fun b _=>by
  by_cases e:B.T.now b=0 <;> simp [e])
 rw [cnt_true] at h3;rw [h.pages_cnt] at h2;unfold Tal.frees Tal.waits;omega
theorem Bs.Ok.room_all (h:B.Ok):roomI B.T 2=(B.T.n:Int) - 2 - (needN B.T.n:Int) - (cnt B.T.n B.live:Int) - (B.T.waits:Int):=by
 have h1:=h.count_all
 have h2:cnt 2 B.T.free=2:=cnt_all fun i hi=>by
  have:=h.low i hi;simp [Tal.free,this]
 unfold roomI;rw [h2];omega
end
structure Good (N G:Nat) (B:Bs):Prop where
 ok:B.Ok
 n:B.T.n=N
 r:(needN N:Int)<=roomI B.T 2
 g:B.Kp.gen<=G
theorem kept_waits {T:Tal} (h:∀ b,b<T.n->T.kept b=T.now b):T.waits=0:=cnt_zero fun b hb=>by
 unfold Tal.waitB;by_cases e:T.now b=0
 ·rw [h b hb,e];rfl
 ·simp [e]
theorem good_fmt {N:Nat} (h:16<=N/\N<=4096):Good N 1 (Bs.fmt N)/\(∀ b,(Bs.fmt N).live b=false)/\(Bs.fmt N).T.waits=0:=by
 have F:=beg_fmt h.1;have ok:=fmt_ok h;have tn:(Bs.fmt N).T.n=N:=F.tn
 have hl:∀ b,(Bs.fmt N).live b=false:=fun b=>by
  cases hb:(Bs.fmt N).live b with
  | false=>rfl
  | true =>
   obtain ⟨h1,h2⟩:=live_iff.1 hb;obtain ⟨k,i,hk,hi,e⟩:=F.pages b h1;exact absurd ⟨k,i,hk,by rw [tn];exact hi,e⟩ h2
 have hw:(Bs.fmt N).T.waits=0:=kept_waits fun b _=>rfl;refine ⟨⟨ok,tn,?_,zLr _⟩,hl,hw⟩;have:=ok.room_all;rw [tn,hw,cnt_zero (fun i _=>hl i)] at this;rw [this];unfold needN pg;omega
noncomputable def Bs.commit (B:Bs):Bs:=open Classical in if chgs B.T=[]/\B.S.row=B.Kp.row then B else B.done
theorem chgs_nil {T:Tal} (h:chgs T=[]):∀ b,b<T.n->T.kept b=T.now b:=fun b hb=>by
 cases hc:T.changed b with
 | false =>
  simp only [Tal.changed,bne_eq_false_iff_eq] at hc;exact hc.symm
 | true =>
  have:b∈chgs T:=mem_chgs.2 ⟨hb,hc⟩;rw [h] at this;cases this
section
variable {B:Bs} {N G:Nat}
theorem Good.hr (h:Good N G B):(needN B.T.n:Int)<=roomI B.T 2:=by rw [h.n];exact h.r
theorem Good.live_done (h:Good N G B) (b:Nat):B.done.live b=B.live b:=by
 have hr:=h.hr;rw [Bool.eq_iff_iff,live_iff,live_iff];constructor
 ·rintro ⟨h1,h2⟩
  by_cases hp:B.page b
  ·exact absurd (h.ok.page_gone hr hp h2) h1
  ·exact ⟨by rw [<- h.ok.now_done hr hp h2];exact h1,hp⟩
 ·rintro ⟨h1,h2⟩
  by_cases hp:B.done.page b
  ·rcases h.ok.page_free hr hp with q | q
   ·exact absurd q h2
   ·exact absurd q.1 h1
  ·exact ⟨by rw [h.ok.now_done hr h2 hp];exact h1,hp⟩
structure Cm (N G:Nat) (B B':Bs):Prop where
 good:Good N (G+1) B'
 live:∀ b,B'.live b=B.live b
 kept:∀ b,b<N->B'.T.kept b=B'.T.now b
 now:∀ b,B.live b=true->B'.T.now b=B.T.now b
 read:∀ b,b<N->B.live b=true->B'.read b=B.read b
 fr:∀ b,b<N->B'.fr b=none
 roots:∀ i,2<=i->B'.S.roots i=B.S.roots i
 marks:B'.S.marks=B.S.marks
 same:B'.S.row=B'.Kp.row
 gen:B.Kp.gen<=B'.Kp.gen
theorem Good.done_ (h:Good N G B) (hG:G<9223372036854775808):Cm N G B B.done:=by
 have hr:=h.hr;have tn:B.done.T.n=N:=by rw [<- h.n];exact (h.ok.fins hr).fin.tn
 have ok:=h.ok.done_ok hr (by have:=h.g;omega);have hw:B.done.T.waits=0:=kept_waits fun b _=>rfl;have e:B.done.Kp.gen=B.S.gen+1:=rfl;refine { good:=⟨ok,tn,?_,?_⟩,live:=h.live_done,kept:=fun b _=>rfl,now:=fun b hb=>?_,read:=fun b hb hl=>?_,fr:=fun b _=>rfl,roots:=fun i hi=>?_,marks:=rfl,same:=rfl,gen:=?_ }
 ·have h1:=ok.room_all
  have h2:=h.ok.room_all;have h3:cnt N B.done.live=cnt N B.live:=cnt_congr fun b _=>h.live_done b;rw [tn,hw,h3] at h1;rw [h.n] at h2;have:=h.r;omega
 ·rw [e,h.ok.sg]
  have:=h.g;omega
 ·have h1:=(live_iff.1 hb).2
  have h2:=(live_iff.1 ((h.live_done b).trans hb)).2;exact h.ok.now_done hr h1 h2
 ·have h1:=live_iff.1 hl
  exact h.ok.read_done hr (by rw [h.n];exact hb) h1.1 h1.2
 ·show (if i<2 then (if i<pg (pg B.T.n) then B.F.a 1 i else 0) else B.S.roots i)=_
  rw [if_neg (by omega)]
 ·rw [e,h.ok.sg];omega
theorem Good.commit_ (h:Good N G B) (hG:G<9223372036854775808):Cm N G B B.commit:=by
 unfold Bs.commit
 split
 ·rename_i hc
  have hk:=chgs_nil hc.1;rw [h.n] at hk;refine { good:=⟨h.ok,h.n,h.r,by have:=h.g;omega⟩,live:=fun _=>rfl,kept:=hk,now:=fun _ _=>rfl,read:=fun _ _ _=>rfl,fr:=fun b hb=>?_,roots:=fun _ _=>rfl,marks:=rfl,same:=hc.2,gen:=zLr _ }
  cases hf:B.fr b with
  | none=>rfl
  | some f =>
   have:=(h.ok.fr b (by rw [h.n];exact hb)).1 (by rw [hf];rfl);rw [hk b hb] at this;exact absurd this.1 this.2
 ·exact h.done_ hG
theorem Good.room (h:Good N G B):B.room=(N:Int) - 2 - 2*(needN N:Int) - (cnt N B.live:Int) - (B.T.waits:Int):=by
 have h1:=h.ok.room_all;have h2:=h.r;unfold Bs.room;rw [h.n] at h1 ⊢;omega
theorem Cm.waits {B':Bs} (h:Cm N G B B'):B'.T.waits=0:=kept_waits fun b hb=>h.kept b (by rw [<- h.good.n];exact hb)
theorem Good.put_ (h:Good N G B) (hr:0<B.room) {f:Nat->Nat} (hf:∀ i,i<128->f i<=255) :
  Good N G (B.put f)/\B.live B.at_=false/\2<=B.at_/\B.at_<N/\(∀ b,(B.put f).live b=(decide (b=B.at_)||B.live b))/\(B.put f).T.waits=B.T.waits/\cnt N (B.put f).live=cnt N B.live+1/\(B.put f).room=B.room - 1/\B.T.kept B.at_=0:=by
 obtain ⟨ht,b1,b2,b3⟩:=h.ok.put_spec hr;have ok:=h.ok.put_ok hr hf;have hfr:=b3;simp only [Tal.free,Bool.and_eq_true,beq_iff_eq] at hfr;have l0:B.live B.at_=false:=by unfold Bs.live;rw [hfr.1];rfl
 have np:pgB B B.at_=false:=by
  cases hp:pgB B B.at_ with
  | false=>rfl
  | true =>
   obtain ⟨k,i,hk,hi,e⟩:=pgB_iff.1 hp;have:=h.ok.own.now k i hk hi;rw [e,hfr.1] at this;cases this
 have hl:∀ b,(B.put f).live b=(decide (b=B.at_)||B.live b):=fun b=>by
  show ((if b=B.at_ then 1 else B.T.now b) != 0 && !pgB B b)=_
  by_cases e:b=B.at_
  ·subst e;simp [np]
  ·simp [e,Bs.live]
 have hw:(B.put f).T.waits=B.T.waits:=by
  have:=waits_set B.T (b:=B.at_) 1 b2;have e1:B.T.waitB B.at_=false:=by unfold Tal.waitB;rw [hfr.2];simp
  have e2:(B.T.set B.at_ 1).waitB B.at_=false:=by simp [Tal.waitB,Tal.set]
  rw [e1,e2] at this;exact this
 have hc:cnt N (B.put f).live=cnt N B.live+1:=by
  have:=cnt_upd (p:=(B.put f).live) (q:=B.live) (k:=B.at_) (n:=N) (by rw [<- h.n];exact b2) (fun i _ hi=>by rw [hl i];simp [hi]);rw [hl B.at_,l0] at this;simpa using this.symm
 have r1:=ok.room_all;have r2:=h.ok.room_all;have n1:(B.put f).T.n=N:=h.n;rw [n1,hc,hw] at r1;rw [h.n] at r2;have hrm:=h.room;have g':Good N G (B.put f):=⟨ok,h.n,by omega,h.g⟩;have hrm':=g'.room;rw [hc,hw] at hrm';exact ⟨g',l0,b1,by rw [<- h.n];exact b2,hl,hw,hc,by omega,hfr.2⟩
end
open Go.RowKit
def blkF (n i:Nat):Nat:=(n*31+i*(n % 7)) % 256
theorem blkF_le (n i:Nat):blkF n i<=255:=by unfold blkF;omega
def blkT (n k i:Nat):Nat:=if i<k then blkF n i else 0
theorem blkT_all (n:Nat):u8s 128 (blkT n 128)=u8s 128 (blkF n):=by
 apply Array.ext_getElem?;intro i;by_cases hi:i<128
 ·rw [u8s_get hi,u8s_get hi];simp [blkT,hi]
 ·rw [Array.getElem?_eq_none (by simp [u8s];omega),Array.getElem?_eq_none (by simp [u8s];omega)]
theorem block11_heap {n:Nat} (w:World) (hn:n<=65535):Calls Tryz.prog 18 #[.int .u16 (n:Int)] w fun e w'=>∃ g,e = .returned (.slice (some ⟨g,0,none⟩) 128 128)/\w.heap.size<=g/\w'.heap[g]?=some (.cells (u8s 128 (blkF n)) 5 (0,0))/\Chg [] w w':=by
 have hmk:∀ w:World,(Instr.makeSlice 22 (.int .i64 128) (.int .i64 128)).run Tryz.prog w = .ok (.slice (some ⟨w.heap.size,0,none⟩) 128 128) (w.alloc (.cells (zrow 128 (.int .u8 0)) 5)):=run_make1 (P:=Tryz.prog) 22 5 Tryz.underlying22 infoU8 rfl .i64 .i64 128 (by omega) (by omega);go_enter Tryz.func18,Tryz.ntmps18;go_upto_region 2 with fail;clear hmk;have hz:=znb w (.cells (zrow 128 (.int .u8 0)) 5);have hzc:Chg [] w (w.alloc (.cells (zrow 128 (.int .u8 0)) 5)):=(Chg.refl [] w).alloc _;rw [zrow_u8s] at hz hzc;rw [zrow_u8s];generalize w.alloc (.cells (u8s 128 fun _=>0) 5)=w1 at *;obtain ⟨g,hg⟩:∃ g,g=w.heap.size:=⟨_,rfl⟩;rw [<- hg] at hz ⊢;have HZ:=zh (zA hz (zA hzc hg));clear hz hzc hg;go_wp2_with fail;go_loopg [8] 128 (fun gg s wr=>∃ k:Nat,gg=128 - k/\k<=128/\s = .int .i64 (k:Int)/\Hid (wr.heap[g]?=some (.cells (u8s 128 (blkT n k)) 5 (0,0))/\Chg [g] w1 wr))
 case atStart=>exact ⟨0,rfl,Nat.zero_le _,by go_num,zh ⟨by rw [HZ.out.1];congr 3,Chg.refl _ _⟩⟩
 case round =>
  obtain ⟨k,hgg,hk8,rfl,hX⟩:=hrel;by_cases hk:k<128
  ·have i1:(k:Int)<128:=by omega
   have c0:=zcb hX.out.1 k;rw [u8s_get hk] at c0;have f0:=zfb hX.out.1 k;have l0:=zhl hX.out.1;obtain ⟨m,hm⟩:∃ m,m=k*(n % 7):=⟨_,rfl⟩;have hmb:m<=1000:=by rw [hm];exact zLt (Nat.mul_le_mul (show k<=128 by omega) (show n % 7<=6 by omega)) (by decide)
   have E3:wrap64 ((k:Int)*((n:Int) % 7))=(m:Int):=by
    have:(k:Int)*((n:Int) % 7)=(m:Int):=by rw [hm,Int.natCast_mul];rfl
    rw [this];unfold wrap64;omega
   have E4:((n:Int)*31+(m:Int)) % 256=((blkF n k:Nat):Int):=by unfold blkF;rw [<- hm];omega
   obtain ⟨bv,hbv⟩:∃ bv,bv=blkF n k:=⟨_,rfl⟩;rw [<- hbv] at E4;have HX:=zh (zA hX.out hbv);clear hm hX hbv;go_wp2_with fail;go_roundg (128 - (k+1))
   case measure=>omega
   case rel =>
    refine ⟨k+1,rfl,by omega,by go_num,zh ⟨?_,HX.out.1.2.setCell (.inl (by simp)) _⟩⟩;rw [zsb HX.out.1.1,u8s_set hk];congr 3;funext i
    unfold blkT;by_cases e:i=k
    ·subst e;rw [if_pos rfl,if_pos (by omega),HX.out.2]
    ·rw [if_neg e]
     by_cases e2:i<k
     ·rw [if_pos e2,if_pos (by omega)]
     ·rw [if_neg e2,if_neg (by omega)]
  ·obtain rfl:k=128:=by omega
   go_wp2_with fail;go_ret;refine ⟨g,rfl,by rw [HZ.out.2.2];exact zLr _,?_,HZ.out.2.1.then hX.out.2 (fun q hq=>by simp only [zms] at hq;subst hq;exact .inr (by rw [HZ.out.2.2];exact zLr _))⟩;rw [hX.out.1]
   show some (Obj.cells (u8s 128 (blkT n 128)) 5 (0,0))=some (Obj.cells (u8s 128 (blkF n)) 5 (0,0))
   rw [blkT_all]
theorem block11_at {n:Nat} (w:World) (hn:n<=65535):Calls Tryz.prog 18 #[.int .u16 (n:Int)] w fun e w'=>∃ g,e = .returned (.slice (some ⟨g,0,none⟩) 128 128)/\w.heap.size<=g/\BytesAt w' g 0 128 (blkF n)/\Chg [] w w' :=
 (block11_heap w hn).mono fun e w' ⟨g,h1,h2,h3,h4⟩=>⟨g,h1,h2,fun i hi=>⟨by rw [Nat.zero_add,zcb h3,u8s_get hi],blkF_le _ _⟩,h4⟩
theorem fmt_open (N:Nat):(Bs.fmt N).open_=Bs.fmt N:=rfl
theorem bCommit_any {w:World} {M:Bm} {F:List Nat} {B:Bs} {N G:Nat} (h:BaseAt w M F B) (hF:∀ q,q∈F->q<w.heap.size) (hg:Good N G B) (hG:G<9223372036854775808) :
  Calls Tryz.prog 19 #[.pointer (some ⟨M.b,0,none⟩)] w fun e w'=>e = .returned (.int .i64 0)/\BaseAt w' M F B.commit/\Chg M.L w w':=by
 unfold Bs.commit
 split
 ·rename_i hc
  refine (bCommit_none h hc.1 hc.2).mono ?_;rintro e w' ⟨rfl,h1,h2⟩;exact ⟨rfl,h1,h2.mono (by simp)⟩
 ·rename_i hc
  refine bCommit_at h hF hg.hr (by have:=hg.g;omega) ?_;by_cases h1:chgs B.T=[]
  ·exact .inr fun h2=>hc ⟨h1,h2⟩
  ·exact .inl h1
section
variable {B:Bs} {N G:Nat}
theorem Good.turn {B':Bs} (h:Good N G B) (ok:B'.Ok) (n:B'.T.n=B.T.n) (k:B'.Kp.gen=B.Kp.gen) (hl:cnt N B'.live+B'.T.waits<=cnt N B.live+B.T.waits):Good N G B':=by
 have r1:=ok.room_all;have r2:=h.ok.room_all;have n1:B'.T.n=N:=n.trans h.n;rw [n1] at r1;rw [h.n] at r2;have:=h.r;exact ⟨ok,n1,by omega,by rw [k];exact h.g⟩
theorem Good.may (h:Good N G B) {x:Nat} (hx:x<N) (hl:B.live x=true):2<=x/\B.mayC (x:Int)=true/\B.T.now x≠0/\pgB B x=false:=by
 obtain ⟨h1,h2⟩:=live_iff.1 hl
 have h3:2<=x:=by
  by_cases e:x<2
  ·exact absurd (h.ok.low x e).1 h1
  ·omega
 have hp:pgB B x=false:=by
  cases q:pgB B x with
  | false=>rfl
  | true=>exact absurd (pgB_iff.1 q) h2
 have hp':=hp;unfold pgB at hp';rw [Bool.or_eq_false_iff] at hp';refine ⟨h3,?_,h1,hp⟩;unfold Bs.mayC;rw [hp'.1,hp'.2,decide_eq_true (show (2:Int)<=(x:Int) by omega),decide_eq_true (show (x:Int)<(B.T.n:Int) by have:=h.n;omega)];rfl
theorem downs_eq {x:Nat} (h:Good N G B) (hx:x<N) (hl:B.live x=true):B.downE (x:Int)=0/\B.down (x:Int)=B.counted (B.T.set x (B.T.now x - 1)) x:=by
 obtain ⟨h1,h2,h3,h4⟩:=h.may hx hl;have hg:getV B.T (x:Int)=(B.T.now x:Int):=getV_nat (by rw [h.n];exact hx);have hg0:¬ getV B.T (x:Int)=0:=by rw [hg];omega
 have hh:=(hasB_iff B.T (x:Int)).2 (by have:=h.n;omega);have hd:Proofs.YtkhcaclndepgbaaGreat.downE B.T (x:Int)=0:=by simp [Proofs.YtkhcaclndepgbaaGreat.downE,hh,h3]
 unfold Bs.downE Bs.down;rw [h2,decide_eq_false hg0,if_pos rfl,if_neg hg0];refine ⟨hd,?_⟩;rw [if_pos (show (true && !false)=true from rfl),Int.toNat_natCast];unfold Proofs.YtkhcaclndepgbaaGreat.down;rw [hd,if_pos rfl,Int.toNat_natCast]
theorem Good.down_ (h:Good N G B) {x:Nat} (hx:x<N) (hl:B.live x=true) :
  Good N G (B.down (x:Int))/\(∀ b,(B.down (x:Int)).live b=if b=x then decide (2<=B.T.now x) else B.live b)/\(∀ b,(B.down (x:Int)).T.now b=if b=x then B.T.now x - 1 else B.T.now b)/\(∀ b,(B.down (x:Int)).T.kept b=B.T.kept b) /\
   (B.T.now x=1->B.T.kept x≠0->(B.down (x:Int)).T.waits=B.T.waits+1/\cnt N (B.down (x:Int)).live+1=cnt N B.live)/\(∀ b,pgB (B.down (x:Int)) b=pgB B b):=by
 obtain ⟨h1,h2,h3,h4⟩:=h.may hx hl;obtain ⟨-,eB⟩:=downs_eq h hx hl;rw [eB];have ok:(B.counted (B.T.set x (B.T.now x - 1)) x).Ok:=h.ok.counted_ok h3 h2 (by have:=(h.ok.le x (by rw [h.n];exact hx)).1;omega);have hpg:∀ b,pgB (B.counted (B.T.set x (B.T.now x - 1)) x) b=pgB B b:=fun b=>rfl
 have hlv:∀ b,(B.counted (B.T.set x (B.T.now x - 1)) x).live b=if b=x then decide (2<=B.T.now x) else B.live b:=fun b=>by
  show ((if b=x then B.T.now x - 1 else B.T.now b) != 0 && !pgB B b)=_
  by_cases e:b=x
  ·subst e
   rw [if_pos rfl,if_pos rfl,h4];by_cases q:2<=B.T.now b
   ·simp [q];omega
   ·simp [q];omega
  ·rw [if_neg e,if_neg e];rfl
 have hw:=waits_set B.T (b:=x) (B.T.now x - 1) (by rw [h.n];exact hx);have w1:B.T.waitB x=false:=by unfold Tal.waitB;simp [h3]
 have w2:(B.T.set x (B.T.now x - 1)).waitB x=(decide (B.T.now x=1)&&decide (B.T.kept x≠0)):=by
  unfold Tal.waitB Tal.set;simp only [if_true];by_cases q:B.T.now x=1
  ·rw [q];by_cases q2:B.T.kept x=0 <;> simp [q2]
  ·have:B.T.now x - 1≠0:=by omega
   simp [q,this]
 rw [w1,w2] at hw;have hc:=cnt_upd (p:=B.live) (q:=(B.counted (B.T.set x (B.T.now x - 1)) x).live) (k:=x) (n:=N) hx (fun i _ hi=>by rw [hlv i,if_neg hi]);rw [hlv x,if_pos rfl,hl] at hc;have ew:(B.counted (B.T.set x (B.T.now x - 1)) x).T.waits=(B.T.set x (B.T.now x - 1)).waits:=rfl;refine ⟨h.turn ok rfl rfl ?_,hlv,fun b=>rfl,fun b=>rfl,?_,hpg⟩
 ·rw [ew]
  generalize (B.T.set x (B.T.now x - 1)).waits=W1 at hw ⊢;generalize cnt N (B.counted (B.T.set x (B.T.now x - 1)) x).live=C1 at hc ⊢;by_cases q:B.T.now x=1
  ·by_cases q2:B.T.kept x=0
   ·simp [q,q2] at hw hc;omega
   ·simp [q,q2] at hw hc;omega
  ·have:2<=B.T.now x:=by omega
   simp [q,this] at hw hc;omega
 ·intro q q2
  rw [ew];generalize (B.T.set x (B.T.now x - 1)).waits=W1 at hw ⊢;generalize cnt N (B.counted (B.T.set x (B.T.now x - 1)) x).live=C1 at hc ⊢;simp [q,q2] at hw hc;omega
theorem Good.over_ (h:Good N G B) {x:Nat} (hx:(B.fr x).isSome=true) {f:Nat->Nat} (hf:∀ i,i<128->f i<=255):Good N G (B.over x f):=⟨h.ok.over_ok hx hf,h.n,h.r,h.g⟩
end


theorem base13_at {N:Nat} (w:World) (hN1:16<=N/\N<=4096) {F:List Nat} (hF:∀ q,q∈F->q<w.heap.size):Calls Tryz.prog 49 #[.int .i64 (N:Int)] w fun e w'=>∃ M:Bm,e = .returned (.tuple #[.pointer (some ⟨M.b,0,none⟩),.bool true]) /\
  BaseAt w' M F (Bs.fmt N)/\Chg [] w w'/\∀ q,q∈M.L->w.heap.size<=q:=by
 have cN:=dNew_at (w:=w) hN1.1 hN1.2;have HF:=zh hF;clear hF;go_enter Tryz.func49,Tryz.ntmps49;go_wp2_with fail;refine cN.mono ?_;clear cN;rintro e w1 ⟨rfl,hd,hc1⟩;have cF:=baFormat_at hd hN1;have CF:=zh cF;have HC1:=zh hc1;clear hd hc1 cF;go_wp2_with fail;refine CF.out.mono ?_;clear CF;rintro e w2 ⟨rfl,hd2,hc2⟩;obtain ⟨d,hdd⟩:∃ d,d=w.heap.size+1:=⟨_,rfl⟩;obtain ⟨bb,hbb⟩:∃ bb,bb=w.heap.size:=⟨_,rfl⟩;rw [<- hdd,<- hbb] at hd2 hc2;rw [<- hdd];have tn:(Bs.fmt N).T.n=N:=(beg_fmt hN1.1).tn;have cO:=baOpen_at (B:=Bs.fmt N) hd2.rd tn.symm (fun b _ i _=>rfl) (fmt_ok hN1);rw [fmt_open] at cO;have CO:=zh cO;have H2:=zh (zA hd2 (zA (HC1.out.then hc2 (fun q hq=>by simp only [List.mem_cons,List.not_mem_nil,or_false] at hq;exact .inr (by omega))) (zA hdd hbb)));have HT:=zh tn;clear hd2 hc2 hdd hbb tn cO;go_wp2_with fail;refine CO.out.mono ?_;clear CO;rintro e w3 ⟨M,R,rfl,hMd,hMbb,hbc,hc3,hnew⟩;have hin:BaseIn w3 M R (Bs.fmt N):=⟨hbc,by rw [hMd,hMbb,HT.out];exact H2.out.1.chg hc3 (by simp) (by simp) (fun k hk=>by cases hk)⟩
 have hown:∀ q,Bown M R (Bs.fmt N) q->w.heap.size<=q:=fun q hq=>by
  by_cases e1:q=d
  ·rw [e1,H2.out.2.2.1];omega
  ·by_cases e2:q=bb
   ·rw [e2,H2.out.2.2.2];exact zLr _
   ·exact zLt H2.out.2.1.size (hnew q hq e1 e2)
 have H3:=zh (zA hin (zA hown (H2.out.2.1.trans hc3)));clear hMd hMbb hbc hc3 hnew hin hown;go_wp2_with fail;refine bodyPost_ret (v := .tuple #[.pointer (some ⟨M.b,0,none⟩),.bool true]) (by simp [results,Tryz.results49,go_sem]) rfl ⟨M,rfl,⟨R,H3.out.1,fun q hq hm=>by have h1:=H3.out.2.1 q hq;have h2:=HF.out q hm;omega⟩,H3.out.2.2,fun q hq=>H3.out.2.1 q (.inl hq)⟩
theorem put13_at {w:World} {M:Bm} {F:List Nat} {B:Bs} (h:BaseAt w M F B) (hF:∀ q,q∈F->q<w.heap.size) (hr:0<B.room) {A:List Nat} {leaf:Bool} {vk vv:Value} {n:Nat} {keys vals:Nat->Nat} (hk:NumsIn A w vk n keys) (hv:NumsIn A w vv n vals) (hb:rightB leaf n n keys vals=true) :
  Calls Tryz.prog 110 #[.pointer (some ⟨M.b,0,none⟩),.agg #[.bool leaf,vk,vv]] w fun e w'=>e = .returned (.tuple #[.int .i64 (B.at_:Int),.bool true])/\BaseAt w' M F (B.put (pageF leaf n keys vals))/\Chg M.L w w':=by
 have c0:=(Chg.refl [] w).alloc (.cells #[.bool leaf,vk,vv] 107);have k0:=znb w (.cells #[.bool leaf,vk,vv] 107);have ce:=enc_ok (hk.chg c0 (by simp)) (hv.chg c0 (by simp)) hb;have CE:=zh ce;have HB:=zh (zA h (zA hF (zA hr c0)));have HM:=zh (fun q hq=>h.ltL hq:∀ q,q∈M.L->q<w.heap.size);obtain ⟨ak,ck,rfl⟩:=hk.len;obtain ⟨av,cv,rfl⟩:=hv.len;have x0:(w.alloc (.cells #[.bool leaf,.slice ak n ck,.slice av n cv] 107)).cell? ⟨w.heap.size,0,none⟩=some (.bool leaf):=(zcb k0 0).trans rfl;have x1:(w.alloc (.cells #[.bool leaf,.slice ak n ck,.slice av n cv] 107)).cell? ⟨w.heap.size,1,none⟩=some (.slice ak n ck):=(zcb k0 1).trans rfl;have x2:(w.alloc (.cells #[.bool leaf,.slice ak n ck,.slice av n cv] 107)).cell? ⟨w.heap.size,2,none⟩=some (.slice av n cv):=(zcb k0 2).trans rfl;have HRB:=zh hb;clear h hF hr ce hk hv hb c0 k0;go_enter Tryz.func110,Tryz.ntmps110;go_wp2_with (refine wpList_boxAgg rfl 107 (.tmp 1) rfl (cells:=#[.bool leaf,.slice ak n ck,.slice av n cv]) rfl ?_);refine CE.out.mono ?_;clear CE x0 x1 x2;rintro e w1 ⟨g,rfl,hg,hgb,hc1⟩;have cw1:=HB.out.2.2.2.trans hc1
 have cp:=bPut_at (c:=128) (HB.out.1.chg cw1 (by simp)) (fun q hq=>zLl (HB.out.2.1 q hq) cw1.size) (k:=g) (o:=0) (f:=pageF leaf n keys vals)
  (fun i hi=>⟨by rw [Nat.zero_add,zcb hgb,u8s_get hi],sealP_le (by cases leaf <;> decide) (fun j _=>bodyF_le keys vals n j (by have:=(rightB_bd HRB.out).1;omega)) i⟩) (fun hm=>by have h1:=HM.out g hm;have h2:=HB.out.2.2.2.size;omega) HB.out.2.2.1
 have CP:=zh cp;have HC:=zh cw1;clear cp cw1 hg hgb hc1;go_wp2_with fail;refine CP.out.mono ?_;clear CP;rintro e w2 ⟨rfl,hb2,hc2⟩;have H2:=zh (zA hb2 ((HC.out.mono (by simp)).trans hc2));clear hb2 hc2;go_wp2_with fail;refine bodyPost_ret (v := .tuple #[.int .i64 (B.at_:Int),.bool true]) (by simp [results,Tryz.results110,go_sem]) rfl ⟨rfl,H2.out⟩
theorem node_put {B:Bs} {leaf:Bool} {n:Nat} {keys vals:Nat->Nat} (h2:2<=B.at_) (hN:B.at_<B.T.n) (hb:rightB leaf n n keys vals=true) :
  (B.put (pageF leaf n keys vals)).nodeI (B.at_:Int)=decN (pageF leaf n keys vals):=by
 unfold Bs.nodeI;rw [if_pos (inI_iff.2 ⟨by omega,by show (B.at_:Int)<(B.T.n:Int);omega⟩),Int.toNat_natCast];congr 1;unfold Bs.read Bs.put;simp
theorem node_kept {B:Bs} {f:Nat->Nat} {x:Int} (hx:x≠(B.at_:Int)):(B.put f).nodeI x=B.nodeI x:=by
 unfold Bs.nodeI;by_cases hi:B.inI x=true
 ·rw [if_pos (show (B.put f).inI x=true from hi),if_pos hi]
  have hx2:=inI_iff.1 hi;congr 1;unfold Bs.read Bs.put;have:x.toNat≠B.at_:=by omega
  simp [this]
 ·rw [if_neg (show ¬ (B.put f).inI x=true from hi),if_neg hi]
theorem decN_page {leaf:Bool} {n:Nat} {keys vals:Nat->Nat} (hb:rightB leaf n n keys vals=true) (hk:∀ i,i<n->keys i<18446744073709551616) (hv:∀ i,i<n->vals i<18446744073709551616) :
  ∃ d,decN (pageF leaf n keys vals)=some d/\d.leaf=leaf/\d.n=n/\(∀ i,i<n->d.k i=keys i)/\(∀ i,i<n->d.v i=vals i):=by
 unfold decN;rw [if_pos (decB_page hb hk hv)];have hn:=(rightB_bd hb).1;exact ⟨_,rfl,by show decide (pageF leaf n keys vals 0=1)=leaf;rw [page_kind,kindL_eq],page_many leaf n keys vals,fun i hi=>pkey_page hn hk hi,fun i hi=>pval_page hn hv hi⟩
end Go.Proofs.YtkhcaclndepgbaaGreat
