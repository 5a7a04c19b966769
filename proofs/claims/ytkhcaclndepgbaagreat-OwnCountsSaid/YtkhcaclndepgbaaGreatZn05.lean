/- Package index: what a page of numbers is; right, Encode. · Package super: a super as a value, its page; Right of a right one. · Package super: fields, the walk through a super's fields; setting one. -/
import Derived.Test.YtkhcaclndepgbaaGreatZn04
import Derived.BigRegion
set_option linter.unusedVariables false
set_option linter.unusedSimpArgs false
set_option maxRecDepth 100000
set_option maxHeartbeats 20000000
namespace Go.Proofs.YtkhcaclndepgbaaGreat
open Go.RowKit
def idxK (n:Nat) (l:Nat->Nat) (k i:Nat):Nat:=if i=0 then n else if i<1+2*k then byteAt (l ((i - 1) / 2)) (1 - (i - 1) % 2) else 0
def idxB (n:Nat) (l:Nat->Nat):Nat->Nat:=idxK n l n
def pageI (kind n:Nat) (l:Nat->Nat):Nat->Nat:=sealP kind (1+2*n) (idxB n l)
theorem idxK_zero (n:Nat) (l:Nat->Nat) (h:n<256):putF (fun _=>0) 0 1 n=idxK n l 0:=by
 funext i
 unfold putF idxK byteAt;by_cases h0:i=0
 ·subst h0;simp;omega
 ·rw [if_neg (by omega),if_neg h0,if_neg (by omega)]
theorem idxK_succ (n:Nat) (l:Nat->Nat) (k:Nat):putF (idxK n l k) (1+2*k) 2 (l k)=idxK n l (k+1):=by
 funext i
 unfold putF idxK;by_cases h:1+2*k<=i/\i<1+2*k+2
 ·rw [if_pos h,if_neg (by omega),if_pos (by omega),show (i - 1) / 2=k by omega,show 1+2*k+2 - 1 - i=1 - (i - 1) % 2 by omega]
 ·rw [if_neg h]
  by_cases h0:i=0
  ·rw [if_pos h0,if_pos h0]
  ·rw [if_neg h0,if_neg h0]
   by_cases h1:i<1+2*k
   ·rw [if_pos h1,if_pos (by omega)]
   ·rw [if_neg h1,if_neg (by omega)]
theorem byteAt_le (v k:Nat):byteAt v k<=255:=by unfold byteAt;have:=Nat.mod_lt (v / 256 ^ k) (show 0<256 by omega);omega
theorem idxK_le {n:Nat} {l:Nat->Nat} {k:Nat} (hn:n<=255) (i:Nat):idxK n l k i<=255:=by
 unfold idxK
 split
 ·exact hn
 ·split
  ·exact byteAt_le _ _
  ·omega
theorem preP_le {kind n:Nat} {f:Nat->Nat} (hk:kind<=255) (hf:∀ i,i<n->f i<=255) (i:Nat):preP kind n f i<=255:=by
 unfold preP
 split
 ·exact hk
 ·split
  ·exact hf _ (by omega)
  ·omega
theorem sealP_lo {kind n:Nat} {f:Nat->Nat} {i:Nat} (h:i<124):sealP kind n f i=preP kind n f i:=by
 unfold sealP putF;rw [if_neg (by omega)]
theorem sealP_le {kind n:Nat} {f:Nat->Nat} (hk:kind<=255) (hf:∀ i,i<n->f i<=255) (i:Nat):sealP kind n f i<=255:=by
 unfold sealP putF
 split
 ·exact byteAt_le _ _
 ·exact preP_le hk hf i
theorem num_byte (v p:Nat):∀ s,s<=p->num (fun i=>byteAt v (p - 1 - i)) 0 s=v / 256 ^ (p - s) % 256 ^ s
 | 0,_=>by simp [num,Nat.mod_one]
 | s+1,h=>by
  have ih:=num_byte v p s (by omega);unfold num;rw [ih,Nat.zero_add]
  show _*256+byteAt v (p - 1 - s)=_
  unfold byteAt;have e1:p - s=(p - (s+1))+1:=by omega
  have e2:p - 1 - s=p - (s+1):=by omega
  rw [e1,e2,Nat.pow_succ,<- Nat.div_div_eq_div_mul];generalize v / 256 ^ (p - (s+1))=x;rw [Nat.pow_succ,Nat.mul_comm (256 ^ s) 256,Nat.mod_mul];omega
theorem num_congr {f g:Nat->Nat} {p q:Nat} : ∀ s,(∀ i,i<s->f (p+i)=g (q+i))->num f p s=num g q s
 | 0,_=>rfl
 | s+1,h=>by
  unfold num;rw [num_congr s (fun i hi=>h i (by omega)),h s (by omega)]
theorem num_putF (f:Nat->Nat) (p s v:Nat) (hv:v<256 ^ s):num (putF f p s v) p s=v:=by
 have e:num (putF f p s v) p s=num (fun i=>byteAt v (s - 1 - i)) 0 s:=num_congr s fun i hi=>by
  unfold putF;rw [if_pos (by omega),Nat.zero_add];congr 1;omega
 rw [e,num_byte v s s (zLr _),Nat.sub_self];simp;exact Nat.mod_eq_of_lt hv
theorem sumB_congr {f g:Nat->Nat} : ∀ k,(∀ i,i<k->f i=g i)->sumB f k=sumB g k
 | 0,_=>rfl
 | k+1,h=>by unfold sumB;rw [sumB_congr k (fun i hi=>h i (by omega)),h k (by omega)]
theorem seal_ok (kind n:Nat) (f:Nat->Nat):pageOK (sealP kind n f):=by
 unfold pageOK;rw [sumB_congr (g:=preP kind n f) 124 (fun i hi=>sealP_lo hi)];exact num_putF _ _ _ _ (by have:=sumB_lt (preP kind n f) 124;omega)
theorem pageOK_congr {f g:Nat->Nat} (h:∀ i,i<128->f i=g i) (hf:pageOK f):pageOK g:=by
 unfold pageOK at *;rw [<- num_congr (f:=f) (g:=g) (p:=124) (q:=124) 4 (fun i hi=>h _ (by omega)),<- sumB_congr (f:=f) (g:=g) 124 (fun i hi=>h _ (by omega))];exact hf
theorem pageI_at (kind n:Nat) (l:Nat->Nat) {i:Nat} (h:i<123):pageI kind n l (1+i)=idxB n l i:=by
 unfold pageI;rw [sealP_lo (by omega)];unfold preP;rw [if_neg (by omega)];by_cases h1:1+i<1+(1+2*n)
 ·rw [if_pos h1,Nat.add_sub_cancel_left]
 ·rw [if_neg h1]
  unfold idxB idxK;rw [if_neg (by omega),if_neg (by omega)]
theorem pageI_kind (kind n:Nat) (l:Nat->Nat):pageI kind n l 0=kind:=by
 unfold pageI;rw [sealP_lo (by omega)];rfl
theorem idxB_num {n:Nat} {l:Nat->Nat} (hl:∀ i,i<n->l i<65536) {k:Nat} : num (idxB n l) (1+2*k) 2=if k<n then l k else 0:=by
 have e:∀ j,j<2->idxB n l (1+2*k+j)=if k<n then byteAt (l k) (1 - j) else 0:=fun j hj=>by
  unfold idxB idxK;rw [if_neg (by omega)];by_cases hk:k<n
  ·rw [if_pos (by omega),if_pos hk,show (1+2*k+j - 1) / 2=k by omega,show (1+2*k+j - 1) % 2=j by omega]
  ·rw [if_neg (by omega),if_neg hk]
 show (0*256+idxB n l (1+2*k+0))*256+idxB n l (1+2*k+1)=_
 rw [e 0 (by omega),e 1 (by omega)];by_cases hk:k<n
 ·have:=hl k hk
  simp only [if_pos hk,byteAt];omega
 ·simp [hk]
theorem ixRight_at {w:World} {kind:Nat} (h:kind=4∨kind=5):Calls Tryz.prog 181 #[.int .u8 (kind:Int)] w fun e w'=>e = .returned (.bool true)/\w=w':=by
 rcases h with rfl | rfl
 all_goals
  go_enter Tryz.func181,Tryz.ntmps181;go_wp2_with fail;go_ret;exact ⟨rfl,rfl⟩
def U16In (w:World) (a:Option Addr) (n:Nat) (l:Nat->Nat):Prop:=(∀ i,i<n->l i<65536)/\(0<n->∃ g o,a=some ⟨g,o,none⟩/\g<w.heap.size/\∀ i,i<n->w.cell? ⟨g,o+i,none⟩=some (.int .u16 (l i:Int)))
theorem ixEncode_at {w:World} {kind n cap:Nat} {a:Option Addr} {l:Nat->Nat} (hk:kind=4∨kind=5) (hn:n<=61) (h:U16In w a n l) :
  Calls Tryz.prog 143 #[.int .u8 (kind:Int),.slice a n cap] w fun e w'=>∃ g,e = .returned (.tuple #[.slice (some ⟨g,0,none⟩) 128 128,.int .i64 0])/\w'.heap[g]?=some (.cells (u8s 128 (pageI kind n l)) 5 (0,0))/\w.heap.size<=g/\Chg [] w w':=by
 have cr:=ixRight_at (w:=w) hk
 have hmk:(Instr.makeSlice 22 (.int .i64 (1+2*(n:Int))) (.int .i64 (1+2*(n:Int)))).run Tryz.prog w = .ok (.slice (some ⟨w.heap.size,0,none⟩) (1+2*n) (1+2*n)) (w.alloc (.cells (u8s (1+2*n) (fun _=>0)) 5)):=by
  have:=run_make1 (P:=Tryz.prog) 22 5 Tryz.underlying22 infoU8 rfl .i64 .i64 (1+2*n) (by omega) (by omega) w;rw [zrow_u8s] at this;rw [show (1+2*(n:Int))=((1+2*n:Nat):Int) by omega];exact this
 have H:=zh h;have i1:(n:Int)<=61:=by omega
 have HK:Hid (kind<=255):=zh (by omega);clear h hk;go_enter Tryz.func143,Tryz.ntmps143;go_wp2_with fail;refine cr.mono ?_;rintro e w' ⟨rfl,rfl⟩;clear cr;go_upto_region 4 with fail;have hx:=znb w (.cells (u8s (1+2*n) (fun _=>0)) 5);have hc1:=(Chg.refl [] w).alloc (.cells (u8s (1+2*n) (fun _=>0)) 5);generalize w.alloc (.cells (u8s (1+2*n) (fun _=>0)) 5)=W at *;obtain ⟨b,hb⟩:∃ b,b=w.heap.size:=⟨_,rfl⟩;rw [<- hb] at hx ⊢;obtain ⟨m,hm⟩:∃ m,m=1+2*n:=⟨_,rfl⟩;rw [<- hm] at hx ⊢;have HC:=zh hc1;have HB:=zh hb;have HM:=zh hm;have cp:=put_at hx 0 m m 0 1 n (by omega) (by omega) (by omega) (by omega) (by omega) (by omega);clear hmk hx hc1 hm hb;go_wp2_with fail;refine cp.mono ?_;rintro e w2 ⟨rfl,hb2,hc2⟩;rw [Nat.zero_add,idxK_zero n l (by omega)] at hb2;have HC2:=zh (HC.out.then hc2 (fun q hq=>by simp only [zms] at hq;subst hq;exact .inr (by rw [HB.out];exact zLr _)));have HB2:=zh hb2;clear hb2 hc2 cp HC;go_wp2_with fail;go_loopg [28] n (fun gg s wr=>∃ k:Nat,gg=n - k/\k<=n/\s = .int .i64 (k:Int)/\Hid (wr.heap[b]?=some (.cells (u8s m (idxK n l k)) 5 (0,0))/\Chg [] w wr))
 case atStart=>exact ⟨0,rfl,Nat.zero_le _,by go_num,zh ⟨HB2.out,HC2.out⟩⟩
 case round =>
  obtain ⟨k,hgg,hkn,rfl,hX⟩:=hrel;obtain ⟨wo,rfl⟩:∃ wo:World,wo=wr:=⟨_,rfl⟩;have HX:=zh hX.out;have HGG:=zh hgg;clear hX hgg;by_cases hk:k<n
  case' neg =>
   obtain rfl:k=n:=by omega
   have hin:BytesIn wo (some ⟨b,0,none⟩) m m (idxB k l):=⟨zLr _,by unfold maxLen;have:=HM.out;omega,(fun e=>by cases e),fun x hx _=>by
    injection hx with hx;subst hx;exact ⟨b,0,rfl,fun i hi=>⟨by rw [Nat.zero_add,zcb HX.out.1,u8s_get hi];rfl,idxK_le (by omega) i⟩⟩⟩
   have cs:=seal_at hin (by have:=HM.out;omega) kind HK.out;go_wp2_with fail;refine cs.mono ?_;rintro e w3 ⟨rfl,hb3,hc3⟩;have HS:=zh (zA hb3 hc3);clear hb3 hc3 cs hin;go_wp2_with fail;refine bodyPost_ret (v := .tuple #[.slice (some ⟨wo.heap.size,0,none⟩) 128 128,.int .i64 0]) (by simp [results,Tryz.results143,go_sem]) rfl ⟨_,rfl,?_,HX.out.2.size,HX.out.2.trans HS.out.2⟩;rw [HS.out.1,HM.out];rfl
  case' pos =>
   obtain ⟨g,o,rfl,hgl,hcell⟩:=H.out.2 (by omega);have cv:=(HX.out.2.cell (p:=⟨g,o+k,none⟩) hgl (by simp)).trans (hcell k hk);have hlk:=H.out.1 k hk;have cp:=put_at HX.out.1 0 m m (1+2*k) 2 (l k) (by omega) (by have:=HM.out;omega) (by omega) (by omega) (by have:=HM.out;omega) (by omega);rw [Nat.zero_add,idxK_succ,show ((1+2*k:Nat):Int)=1+2*(k:Int) from by omega] at cp;have CP:=zh cp;have i2:(k:Int)<(n:Int):=by omega
   obtain ⟨v,hv⟩:∃ v,v=l k:=⟨_,rfl⟩;rw [<- hv] at cv CP hlk;clear hcell cp hgl hv;go_wp2_with fail;refine CP.out.mono ?_;rintro e w3 ⟨rfl,hb3,hc3⟩;have HS:=zh (zA hb3 (HX.out.2.then hc3 (fun q hq=>by simp only [zms] at hq;subst hq;exact .inr (by rw [HB.out];exact zLr _))));clear hb3 hc3;go_wp2_with fail;go_roundg (n - (k+1))
   case measure=>rw [HGG.out];omega
   case rel=>exact ⟨k+1,rfl,by omega,by go_num,HS⟩
structure Sup where
 gen:Nat
 blocks:Nat
 roots:Nat->Nat
 marks:Nat->Nat
def Sup.cellV (S:Sup) (i:Nat):Value:=if i=0 then .int .u64 (S.gen:Int) else if i=1 then .int .u32 (S.blocks:Int) else if i<10 then .int .u32 (S.roots (i - 2):Int) else .int .u64 (S.marks (i - 10):Int)
def Sup.row (S:Sup):Array Value:=fnRow 18 S.cellV
structure Sup.Ok (S:Sup):Prop where
 gen:0<S.gen/\S.gen<18446744073709551616
 blocks:16<=S.blocks/\S.blocks<=4096
 roots:∀ i,i<8->S.roots i<S.blocks
 marks:∀ i,i<8->S.marks i<18446744073709551616
def offS (k:Nat):Nat:=if k=0 then 0 else if k=1 then 8 else if k<10 then 12+4*(k - 2) else 44+8*(k - 10)
def sizS (k:Nat):Nat:=if k=0 then 8 else if k<10 then 4 else 8
def Sup.valS (S:Sup) (k:Nat):Nat:=if k=0 then S.gen else if k=1 then S.blocks else if k<10 then S.roots (k - 2) else S.marks (k - 10)
theorem off_step {k m:Nat} (h:k<m):offS k+sizS k<=offS m:=by
 unfold offS sizS
 repeat' split
 all_goals omega
theorem off_end {k:Nat} (h:k<18):offS k+sizS k<=108:=by
 unfold offS sizS
 repeat' split
 all_goals omega
theorem siz_bd (k:Nat):1<=sizS k/\sizS k<=8:=by
 unfold sizS
 repeat' split
 all_goals omega
theorem Sup.Ok.val {S:Sup} (h:S.Ok) {k:Nat} (hk:k<18):S.valS k<256 ^ sizS k:=by
 have e8:(256:Nat) ^ 8=18446744073709551616:=by decide
 have e4:(256:Nat) ^ 4=4294967296:=by decide
 unfold Sup.valS sizS;by_cases h0:k=0
 ·rw [if_pos h0,if_pos h0,e8];exact h.gen.2
 ·rw [if_neg h0,if_neg h0]
  by_cases h1:k=1
  ·rw [if_pos h1,if_pos (by omega),e4];have:=h.blocks.2;omega
  ·rw [if_neg h1]
   by_cases h2:k<10
   ·rw [if_pos h2,if_pos h2,e4];have:=h.roots (k - 2) (by omega);have:=h.blocks.2;omega
   ·rw [if_neg h2,if_neg h2,e8];exact h.marks _ (by omega)
def sbK (S:Sup):Nat->Nat->Nat
 | 0=>fun _=>0
 | k+1=>putF (sbK S k) (offS k) (sizS k) (S.valS k)
def supB (S:Sup):Nat->Nat:=putF (sbK S 18) 115 8 S.gen
def pageS (S:Sup):Nat->Nat:=sealP 6 123 (supB S)
theorem putF_le {f:Nat->Nat} {p s v:Nat} (h:∀ i,f i<=255) (i:Nat):putF f p s v i<=255:=by
 unfold putF
 split
 ·exact byteAt_le _ _
 ·exact h i
theorem sbK_le (S:Sup):∀ k i,sbK S k i<=255
 | 0,i=>Nat.zero_le _
 | k+1,i=>putF_le (sbK_le S k) i
theorem supB_le (S:Sup) (i:Nat):supB S i<=255:=putF_le (sbK_le S 18) i
theorem num_other {f:Nat->Nat} {p s v q t:Nat} (h:q+t<=p∨p+s<=q):num (putF f p s v) q t=num f q t:=num_congr t fun i hi=>by
 unfold putF;rw [if_neg (by omega)]
theorem sbK_num {S:Sup} (h:S.Ok):∀ m,m<=18->∀ k,k<m->num (sbK S m) (offS k) (sizS k)=S.valS k
 | 0,_,k,hk=>by omega
 | m+1,hm,k,hk=>by
  by_cases e:k=m
  ·subst e;exact num_putF _ _ _ _ (h.val (by omega))
  ·show num (putF (sbK S m) (offS m) (sizS m) (S.valS m)) (offS k) (sizS k)=_
   rw [num_other (.inl (off_step (by omega)))];exact sbK_num h m (by omega) k (by omega)
theorem supB_num {S:Sup} (h:S.Ok) {k:Nat} (hk:k<18):num (supB S) (offS k) (sizS k)=S.valS k:=by
 unfold supB;rw [num_other (.inl (by have:=off_end hk;omega))];exact sbK_num h 18 (zLr _) k hk
theorem supB_last {S:Sup} (h:S.Ok):num (supB S) 115 8=S.gen:=num_putF _ _ _ _ (by rw [show (256:Nat) ^ 8=18446744073709551616 from by decide];exact h.gen.2)
theorem sbK_hi (S:Sup):∀ k,k<=18->∀ i,108<=i->sbK S k i=0
 | 0,_,i,_=>rfl
 | k+1,hk,i,hi=>by
  show putF (sbK S k) (offS k) (sizS k) (S.valS k) i=0
  unfold putF;rw [if_neg (by have:=off_end (k:=k) (by omega);omega)];exact sbK_hi S k (by omega) i hi
theorem supB_mid (S:Sup) {i:Nat} (h1:108<=i) (h2:i<115):supB S i=0:=by
 unfold supB putF;rw [if_neg (by omega)];exact sbK_hi S 18 (zLr _) i h1
theorem pageS_ok (S:Sup):pageOK (pageS S):=seal_ok _ _ _
theorem pageS_kind (S:Sup):pageS S 0=6:=by unfold pageS;rw [sealP_lo (by omega)];rfl
theorem pageS_body (S:Sup) {i:Nat} (h:i<123):pageS S (1+i)=supB S i:=by
 unfold pageS;rw [sealP_lo (by omega)];unfold preP;rw [if_neg (by omega),if_pos (by omega),Nat.add_sub_cancel_left]
theorem Sup.cell {w:World} {b:Nat} {S:Sup} {t:TypeId} (h:w.heap[b]?=some (.cells S.row t (0,0))) {i:Nat} (hi:i<18):w.cell? ⟨b,i,none⟩=some (S.cellV i):=(zcb h i).trans (zfg hi)
theorem far_at {w:World} {b x:Nat} {S:Sup} (h:w.heap[b]?=some (.cells S.row 49 (0,0))) :
  Calls Tryz.prog 173 #[.int .u32 (x:Int),.pointer (some ⟨b,0,none⟩)] w fun e w'=>e = .returned (.bool (decide (S.blocks<=x)))/\w=w':=by
 have c1:w.cell? ⟨b,1,none⟩=some (.int .u32 (S.blocks:Int)):=(Sup.cell h (by omega)).trans rfl;go_enter Tryz.func173,Tryz.ntmps173;go_wp2_with fail;go_ret;exact ⟨rfl,rfl⟩
theorem idxFn_at {w:World} {b:Nat} {S:Sup} (h:w.heap[b]?=some (.cells S.row 49 (0,0))) (hok:S.Ok) :
  Calls Tryz.prog 207 #[.slice (some ⟨b,2,none⟩) 8 8,.func (.func 173) #[] #[.pointer (some ⟨b,0,none⟩)]] w fun e w'=>e = .returned (.int .i64 (-1))/\w=w':=by
 have HB:=zh h;clear h;go_enter Tryz.func207,Tryz.ntmps207;go_wp2_with fail;go_loopg [8] 8 (fun gg s wr=>∃ k:Nat,gg=8 - k/\k<=8/\s = .int .i64 (k:Int)/\w=wr)
 case atStart=>exact ⟨0,rfl,Nat.zero_le _,by go_num,rfl⟩
 case round =>
  obtain ⟨k,hgg,hk8,rfl,rfl⟩:=hrel;by_cases hk:k<8
  ·have c1:w.cell? ⟨b,2+k,none⟩=some (.int .u32 (S.roots k:Int)):=(Sup.cell HB.out (by omega)).trans (by unfold Sup.cellV;rw [if_neg (by omega),if_neg (by omega),if_pos (by omega),Nat.add_sub_cancel_left])
   have cf:=far_at (x:=S.roots k) HB.out;rw [decide_eq_false (show ¬ S.blocks<=S.roots k by have:=hok.roots k hk;omega)] at cf;have i1:(k:Int)<8:=by omega
   go_wp2_with fail;refine cf.mono ?_;rintro e w' ⟨rfl,rfl⟩;go_wp2_with fail;go_roundg (8 - (k+1))
   case measure=>omega
   case rel=>exact ⟨k+1,rfl,by omega,by go_num,rfl⟩
  ·obtain rfl:k=8:=by omega
   go_wp2_with fail;go_ret;exact ⟨rfl,rfl⟩
theorem contFn_at {w:World} {b:Nat} {S:Sup} (h:w.heap[b]?=some (.cells S.row 49 (0,0))) (hok:S.Ok) :
  Calls Tryz.prog 174 #[.slice (some ⟨b,2,none⟩) 8 8,.func (.func 173) #[] #[.pointer (some ⟨b,0,none⟩)]] w fun e w'=>e = .returned (.bool false)/\w=w':=by
 have ci:=idxFn_at h hok;go_enter Tryz.func174,Tryz.ntmps174;go_wp2_with fail;refine ci.mono ?_;rintro e w' ⟨rfl,rfl⟩;go_wp2_with fail;go_ret;exact ⟨rfl,rfl⟩
theorem suRight_at {w:World} {S:Sup} (hok:S.Ok) :
  Calls Tryz.prog 141 #[.agg S.row] w fun e w'=>e = .returned (.bool true)/\w.alloc (.cells S.row 49)=w':=by
 have hx:=znb w (.cells S.row 49);have c0:(w.alloc (.cells S.row 49)).cell? ⟨w.heap.size,0,none⟩=some (.int .u64 (S.gen:Int)):=(Sup.cell hx (by omega)).trans rfl;have c1:(w.alloc (.cells S.row 49)).cell? ⟨w.heap.size,1,none⟩=some (.int .u32 (S.blocks:Int)):=(Sup.cell hx (by omega)).trans rfl;have cc:=contFn_at hx hok;have i1:(0:Int)<(S.gen:Int):=by have:=hok.gen.1;omega
 have i2:(16:Int)<=(S.blocks:Int):=by have:=hok.blocks.1;omega
 have i3:(S.blocks:Int)<=4096:=by have:=hok.blocks.2;omega
 clear hok hx;go_enter Tryz.func141,Tryz.ntmps141;go_upto_region 1 with fail;generalize hW:w.alloc (.cells S.row 49)=W at *;have HW:=zh hW;clear hW;go_wp2_with fail;refine cc.mono ?_;rintro e w' ⟨rfl,rfl⟩;go_wp2_with fail;go_ret;exact ⟨rfl,HW.out⟩
open Go.RowKit Go.Shelf
attribute [local go_sem] Oper.semAt_some
theorem roundIn_any {n m:Nat} {P:Program} {l:Nat} {f:FuncId} {tmps:Array Value} {a b:Code} {w:World} {R:Ending->World->Prop} (h:RoundIn Fence.wide n P l f tmps a b w R):RoundIn Fence.wide m P l f tmps a b w R :=
 ⟨h.1,fun c cs _=>h.2 c cs (room_wide _)⟩
theorem YieldAt.any {n m:Nat} {P:Program} {l:Nat} {args:Array Value} {W:World} {R:Ending->World->Prop} (h:YieldAt Fence.wide n P l args W R):YieldAt Fence.wide m P l args W R:=by
 obtain ⟨fn,tmps,assign,body,h1,h2⟩:=h;exact ⟨fn,tmps,assign,body,h1,roundIn_any h2⟩
structure Sup.Wf (S:Sup):Prop where
 v:∀ k,k<18->S.valS k<256 ^ sizS k
def mkV (k x:Nat):Value:=if k=0 then .int .u64 (x:Int) else if k<10 then .int .u32 (x:Int) else .int .u64 (x:Int)
theorem cellV_mk (S:Sup) {k:Nat} (hk:k<18):S.cellV k=mkV k (S.valS k):=by
 unfold Sup.cellV mkV Sup.valS;by_cases h0:k=0
 ·rw [if_pos h0,if_pos h0,if_pos h0]
 ·rw [if_neg h0,if_neg h0,if_neg h0]
  by_cases h1:k=1
  ·subst h1;rfl
  ·rw [if_neg h1,if_neg h1]
   by_cases h2:k<10
   ·rw [if_pos h2,if_pos h2,if_pos h2]
   ·rw [if_neg h2,if_neg h2,if_neg h2]
theorem row_congr {S S':Sup} (h:∀ i,i<18->S'.valS i=S.valS i):S'.row=S.row:=by
 apply Array.ext_getElem?;intro i;unfold Sup.row;by_cases hi:i<18
 ·rw [zfg hi,zfg hi,cellV_mk _ hi,cellV_mk _ hi,h i hi]
 ·rw [Array.getElem?_eq_none (by rw [zfs];omega),Array.getElem?_eq_none (by rw [zfs];omega)]
theorem row_set {S S':Sup} {k:Nat} (hk:k<18) (h:∀ i,i<18->i≠k->S'.valS i=S.valS i):S.row.setIfInBounds k (mkV k (S'.valS k))=S'.row:=by
 apply Array.ext_getElem?;intro i;unfold Sup.row;by_cases hi:i<18
 ·rw [Array.getElem?_setIfInBounds,zfg hi,zfg hi,cellV_mk _ hi]
  by_cases e:k=i
  ·subst e;rw [if_pos rfl,if_pos (by rw [zfs];exact hk),cellV_mk _ hi]
  ·rw [if_neg e,cellV_mk _ hi,h i hi (fun q=>e q.symm)]
 ·rw [Array.getElem?_eq_none (by simp [zfs];omega),Array.getElem?_eq_none (by rw [zfs];omega)]
def Sup.ofV (v:Nat->Nat):Sup:=⟨v 0,v 1,fun i=>v (2+i),fun i=>v (10+i)⟩
theorem ofV_val (v:Nat->Nat) {k:Nat} : (Sup.ofV v).valS k=v k:=by
 unfold Sup.valS Sup.ofV;by_cases h0:k=0
 ·rw [if_pos h0,h0]
 ·rw [if_neg h0]
  by_cases h1:k=1
  ·rw [if_pos h1,h1]
  ·rw [if_neg h1]
   by_cases h2:k<10
   ·rw [if_pos h2];show v (2+(k - 2))=v k;rw [show 2+(k - 2)=k by omega]
   ·rw [if_neg h2];show v (10+(k - 10))=v k;rw [show 10+(k - 10)=k by omega]
def setFn (k B0 ib:Nat):Value:=if k=0 then .func (.func 177) #[] #[.pointer (some ⟨B0,0,none⟩)] else if k=1 then .func (.func 178) #[] #[.pointer (some ⟨B0,0,none⟩)]
 else if k<10 then .func (.func 179) #[] #[.pointer (some ⟨B0,0,none⟩),.pointer (some ⟨ib,0,none⟩)] else .func (.func 180) #[] #[.pointer (some ⟨B0,0,none⟩),.pointer (some ⟨ib,0,none⟩)]
def suAv (B0 sb:Nat) (k:Nat) (W:World) (av:Array Value):Prop :=
 ∃ (S:Sup) (ib:Nat),S.Wf/\W.heap[sb]?=some (.cells S.row 49 (0,0))/\av=#[.int .i64 (offS k:Int),.agg #[.int .i64 (sizS k:Int),.int .u64 (S.valS k:Int),setFn k B0 ib]] /\
  (2<=k->W.heap[ib]?=some (.cells #[.int .i64 (if k<10 then ((k - 2:Nat):Int) else ((k - 10:Nat):Int))] 3 (0,0))/\ib≠B0)
def suPj (sb:Nat) (W:World):Prop:=∃ S:Sup,S.Wf/\W.heap[sb]?=some (.cells S.row 49 (0,0))
section
variable {w:World} {B0 sb ib x:Nat} {S:Sup}
theorem set2_at (hB:w.cell? ⟨B0,0,none⟩=some (.pointer (some ⟨sb,0,none⟩))) (hs:w.heap[sb]?=some (.cells S.row 49 (0,0))) :
  Calls Tryz.prog 177 #[.int .u64 (x:Int),.pointer (some ⟨B0,0,none⟩)] w fun e w'=>(∃ v,e = .returned v)/\w'.heap[sb]?=some (.cells (S.row.setIfInBounds (0) (.int .u64 (x:Int))) 49 (0,0))/\Chg [sb] w w':=by
 have c0:=Sup.cell hs (i:=0) (by omega);have f0:=zfb hs 0;have l0:=zhl hs;have HS:=zh hs;clear hs;go_enter Tryz.func177,Tryz.ntmps177;go_wp2_with fail
 go_end0
 exact ⟨⟨_,rfl⟩,zsb HS.out _ _,(Chg.refl _ _).setCell (.inl (by simp)) _⟩
theorem set3_at (hB:w.cell? ⟨B0,0,none⟩=some (.pointer (some ⟨sb,0,none⟩))) (hs:w.heap[sb]?=some (.cells S.row 49 (0,0))) (hx:x<4294967296) :
  Calls Tryz.prog 178 #[.int .u64 (x:Int),.pointer (some ⟨B0,0,none⟩)] w fun e w'=>(∃ v,e = .returned v)/\w'.heap[sb]?=some (.cells (S.row.setIfInBounds (1) (.int .u32 (x:Int))) 49 (0,0))/\Chg [sb] w w':=by
 have c0:=Sup.cell hs (i:=1) (by omega);have f0:=zfb hs 1;have l0:=zhl hs;have E1:IntKind.u32.wrap (x:Int)=(x:Int):=by rw [IntKind.wrap_u32];omega
 have HS:=zh hs;clear hs;go_enter Tryz.func178,Tryz.ntmps178;go_wp2_with fail
 go_end0
 exact ⟨⟨_,rfl⟩,zsb HS.out _ _,(Chg.refl _ _).setCell (.inl (by simp)) _⟩
theorem set4_at {j:Nat} (hj:j<8) (hB:w.cell? ⟨B0,0,none⟩=some (.pointer (some ⟨sb,0,none⟩))) (hi:w.cell? ⟨ib,0,none⟩=some (.int .i64 (j:Int))) (hs:w.heap[sb]?=some (.cells S.row 49 (0,0))) (hx:x<4294967296) :
  Calls Tryz.prog 179 #[.int .u64 (x:Int),.pointer (some ⟨B0,0,none⟩),.pointer (some ⟨ib,0,none⟩)] w fun e w'=>(∃ v,e = .returned v)/\w'.heap[sb]?=some (.cells (S.row.setIfInBounds (2+j) (.int .u32 (x:Int))) 49 (0,0))/\Chg [sb] w w':=by
 have c0:=Sup.cell hs (i:=2+j) (by omega);have f0:=zfb hs (2+j);have l0:=zhl hs;have E1:IntKind.u32.wrap (x:Int)=(x:Int):=by rw [IntKind.wrap_u32];omega
 have i1:(j:Int)<8:=by omega
 have HS:=zh hs;clear hs;go_enter Tryz.func179,Tryz.ntmps179;go_upto_region 0 with fail
 go_region
 all_goals go_wp2_with fail
 go_end0
 exact ⟨⟨_,rfl⟩,zsb HS.out _ _,((Chg.refl _ _).setCell (.inl (by simp)) _).drew⟩
theorem set5_at {j:Nat} (hj:j<8) (hB:w.cell? ⟨B0,0,none⟩=some (.pointer (some ⟨sb,0,none⟩))) (hi:w.cell? ⟨ib,0,none⟩=some (.int .i64 (j:Int))) (hs:w.heap[sb]?=some (.cells S.row 49 (0,0))) :
  Calls Tryz.prog 180 #[.int .u64 (x:Int),.pointer (some ⟨B0,0,none⟩),.pointer (some ⟨ib,0,none⟩)] w fun e w'=>(∃ v,e = .returned v)/\w'.heap[sb]?=some (.cells (S.row.setIfInBounds (10+j) (.int .u64 (x:Int))) 49 (0,0))/\Chg [sb] w w':=by
 have c0:=Sup.cell hs (i:=10+j) (by omega);have f0:=zfb hs (10+j);have l0:=zhl hs;have i1:(j:Int)<8:=by omega
 have HS:=zh hs;clear hs;go_enter Tryz.func180,Tryz.ntmps180;go_upto_region 0 with fail
 go_region
 all_goals go_wp2_with fail
 go_end0
 exact ⟨⟨_,rfl⟩,zsb HS.out _ _,((Chg.refl _ _).setCell (.inl (by simp)) _).drew⟩
end
theorem suNext_at {w:World} {ab yb l at' size get:Nat} {gf:Fn} {lb:Array Value} {R:Ending->World->Prop} (ha:w.heap[ab]?=some (.cells #[.int .i64 (at':Int)] 3 (0,0))) (hy:w.cell? ⟨yb,0,none⟩=some (.func (.yield l) #[] #[])) (hne:yb≠ab) (hsz:size<=8) (hat:at'<=200)
  (hR:YieldAt Fence.wide 5 Tryz.prog l #[.int .i64 (at':Int),.agg #[.int .i64 (size:Int),.int .u64 (get:Int),.func gf #[] lb]] (w.setCell ⟨ab,0,none⟩ (.int .i64 ((at'+size:Nat):Int))) R) (hb:∀ e w',R e w'->∃ b:Bool,e = .returned (.bool b)) :
  Calls Tryz.prog 176 #[.int .i64 (size:Int),.int .u64 (get:Int),.func gf #[] lb,.pointer (some ⟨ab,0,none⟩),.pointer (some ⟨yb,0,none⟩)] w R:=by
 have c0:=zcb ha 0;simp only [tA1,tA3] at c0;have f0:=zfb ha 0;have l0:=zhl ha
 have c1:(w.setCell ⟨ab,0,none⟩ (.int .i64 ((at'+size:Nat):Int))).cell? ⟨ab,0,none⟩=some (.int .i64 ((at'+size:Nat):Int)):=by
  rw [zcb (zsb ha 0 _) 0];rfl
 have c2:(w.setCell ⟨ab,0,none⟩ (.int .i64 ((at'+size:Nat):Int))).cell? ⟨yb,0,none⟩=some (.func (.yield l) #[] #[]):=(World.cell?_of_block (zso 0 _ hne)).trans hy;clear ha;obtain ⟨fn,tmps,assign,body,hrun,hRR⟩:=hR;rw [Int.natCast_add] at c1 c2 hrun hRR;refine (callsIn_wide (n:=6)).1 ?_;refine callsIn_of_wp Tryz.func176 rfl trivial ?_ rfl;simp only [Tryz.ntmps176,List.size_toArray,List.length_cons,List.length_nil,Nat.reduceAdd,Nat.reduceSub,Array.replicate_succ,Array.replicate_zero,List.push_toArray,List.append_toArray,List.nil_append,List.cons_append]
 gi_wp2
 refine hRR.mono ?_;intro e w' hr;obtain ⟨b,rfl⟩:=hb e w' hr
 gi_wp2
 exact hr
theorem suFields_at {w:World} {sb:Nat} : Calls Tryz.prog 142 #[.pointer (some ⟨sb,0,none⟩)] w fun e w'=>e = .returned (.func (.func 175) #[] #[.pointer (some ⟨w.heap.size,0,none⟩)])/\w.alloc (.cells #[.pointer (some ⟨sb,0,none⟩)] 232)=w':=by
 go_enter Tryz.func142,Tryz.ntmps142;go_wp2_with fail;go_ret;exact ⟨rfl,rfl⟩
end Go.Proofs.YtkhcaclndepgbaaGreat
