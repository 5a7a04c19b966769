/- Package index: what a page of numbers i -/
import Derived.Test.YtegpiomkmfhadaaGreatZo03
import Derived.BigRegion
import Derived.Deep.RegionWith
set_option linter.all false
set_option maxRecDepth 100000
set_option maxHeartbeats 20000000
namespace Go.Proofs.YtegpiomkmfhadaaGreat
open Go.RowKit
variable {n k kind i m p s v b j:Nat} {l f:zF} {w:World} {P:Program} {R:Ending->World->Prop}
def aG (n:Nat) (l:zF) (k i:Nat):Nat:=if i=0 then n else if i<1+2*k then qt (l ((i - 1) / 2)) (1 - (i - 1) % 2) else 0
def dg (n:Nat) (l:zF):Nat->Nat:=aG n l n
def Qy (kind n:Nat) (l:zF):Nat->Nat:=ZM kind (1+2*n) (dg n l)
theorem nW (n:Nat) (l:zF) (h:n<256):YC (fun _=>0) 0 1 n=aG n l 0:=by
 funext i
 unfold YC aG qt;by_cases h0:i=0
 ·subst h0;simp;omega
 ·rw [if_neg zo,if_neg h0,if_neg zo]
theorem nX (n:Nat) (l:zF) (k:Nat):YC (aG n l k) (1+2*k) 2 (l k)=aG n l (k+1):=by
 funext i
 unfold YC aG;by_cases h:1+2*k<=i/\i<1+2*k+2
 ·rw [if_pos h,if_neg zo,if_pos zo,show (i - 1) / 2=k by omega,show 1+2*k+2 - 1 - i=1 - (i - 1) % 2 by omega]
 ·rw [if_neg h]
  by_cases h0:i=0
  ·rw [if_pos h0,if_pos h0]
  ·rw [if_neg h0,if_neg h0]
   by_cases h1:i<1+2*k
   ·rw [if_pos h1,if_pos zo]
   ·rw [if_neg h1,if_neg zo]
theorem VT (v k:Nat):qt v k<=255:=by unfold qt;have:=Nat.mod_lt (v / 256 ^ k) (show 0<256 by omega);omega
theorem mu (hn:n<=255) (i:Nat):aG n l k i<=255:=by
 unfold aG
 split
 ·exact hn
 ·split
  ·exact VT _ _
  ·omega
theorem uw (hk:kind<=255) (hf:∀ i,i<n->f i<=255) (i:Nat):Zw kind n f i<=255:=by
 unfold Zw
 split
 ·exact hk
 ·split
  ·exact hf _ zo
  ·omega
theorem Qz (h:i<124):ZM kind n f i=Zw kind n f i:=by
 unfold ZM YC;rw [if_neg zo]
theorem YY (hk:kind<=255) (hf:∀ i,i<n->f i<=255) (i:Nat):ZM kind n f i<=255:=by
 unfold ZM YC
 split
 ·exact VT _ _
 ·exact uw hk hf i
theorem ie (v p:Nat):∀ s,s<=p->Zu (fun i=>qt v (p - 1 - i)) 0 s=v / 256 ^ (p - s) % 256 ^ s
 | 0,_=>by simp [Zu,Nat.mod_one]
 | s+1,h=>by
  have ih:=ie v p s zo;unfold Zu;rw [ih,yn]
  show _*256+qt v (p - 1 - s)=_
  unfold qt;have e1:p - s=(p - (s+1))+1:=zo;have e2:p - 1 - s=p - (s+1):=zo;rw [e1,e2,Nat.pow_succ,<- Nat.div_div_eq_div_mul];generalize v / 256 ^ (p - (s+1))=x;rw [Nat.pow_succ,Nat.mul_comm (256 ^ s) 256,Nat.mod_mul];omega
theorem Zc {f g:zF} {p q:Nat} : ∀ s,(∀ i,i<s->f (p+i)=g (q+i))->Zu f p s=Zu g q s
 | 0,_=>rfl
 | s+1,h=>by
  unfold Zu;rw [Zc s (fun i hi=>h i zo),h s zo]
theorem aH (f:zF) (p s v:Nat) (hv:v<256 ^ s):Zu (YC f p s v) p s=v:=by
 have e:Zu (YC f p s v) p s=Zu (fun i=>qt v (s - 1 - i)) 0 s:=Zc s fun i hi=>by
  unfold YC;rw [if_pos zo,yn];congr 1;omega
 rw [e,ie v s s (xd _),Nat.sub_self];simp;exact yS hv
theorem JI {f g:zF} : ∀ k,(∀ i,i<k->f i=g i)->Zv f k=Zv g k
 | 0,_=>rfl
 | k+1,h=>by unfold Zv;rw [JI k (fun i hi=>h i zo),h k zo]
theorem mv (kind n:Nat) (f:zF):qF (ZM kind n f):=by
 unfold qF;rw [JI (g:=Zw kind n f) 124 (fun i hi=>Qz hi)];exact aH _ _ _ _ (zq (Q1 (Zw kind n f) 124))
theorem J3 {g:zF} (h:∀ i,i<128->f i=g i) (hf:qF f):qF g:=by
 unfold qF at *;rw [<- Zc (f:=f) (g:=g) (p:=124) (q:=124) 4 (fun i hi=>h _ zo),<- JI (f:=f) (g:=g) 124 (fun i hi=>h _ zo)];exact hf
theorem ru (kind n:Nat) (l:zF) (h:i<123):Qy kind n l (1+i)=dg n l i:=by
 unfold Qy;rw [Qz zo];unfold Zw;rw [if_neg zo];by_cases h1:1+i<1+(1+2*n)
 ·rw [if_pos h1,yA]
 ·rw [if_neg h1]
  unfold dg aG;rw [if_neg zo,if_neg zo]
theorem kJ (kind n:Nat) (l:zF):Qy kind n l 0=kind:=by
 unfold Qy;rw [Qz zo];rfl
theorem rx (hl:∀ i,i<n->l i<65536) : Zu (dg n l) (1+2*k) 2=if k<n then l k else 0:=by
 have e:∀ j,j<2->dg n l (1+2*k+j)=if k<n then qt (l k) (1 - j) else 0:=fun j hj=>by
  unfold dg aG;rw [if_neg zo];by_cases hk:k<n
  ·rw [if_pos zo,if_pos hk,show (1+2*k+j - 1) / 2=k by omega,show (1+2*k+j - 1) % 2=j by omega]
  ·rw [if_neg zo,if_neg hk]
 show (0*256+dg n l (1+2*k+0))*256+dg n l (1+2*k+1)=_
 rw [e 0 zo,e 1 zo];by_cases hk:k<n
 ·have:=hl k hk
  simp only [if_pos hk,qt];omega
 ·simp [hk]
theorem aI (h:kind=4∨kind=5):zC 201 #[.int .u8 (kind:Int)] w fun e w'=>e = .returned (.bool true)/\w=w':=by
 rcases h with rfl | rfl
 all_goals
  go_enter Tryz.func201,Tryz.ntmps201;go_wp2_with fail;go_ret;exact ⟨rfl,rfl⟩
def ii (w:World) (a:Option Addr) (n:Nat) (l:zF):Prop:=(∀ i,i<n->l i<65536)/\(0<n->∃ g o,a=some ⟨g,o,none⟩/\g<w.heap.size/\∀ i,i<n->w.cell? ⟨g,o+i,none⟩=some (.int .u16 (l i:Int)))
theorem Oz {cap:Nat} {a:Option Addr} (hk:kind=4∨kind=5) (hn:n<=61) (h:ii w a n l) :
  zC 149 #[.int .u8 (kind:Int),.slice a n cap] w fun e w'=>∃ g,e = .returned (.tuple #[zS g 128 128,.int .i64 0])/\w'.heap[g]?=some (.cells (Y7 128 (Qy kind n l)) 5 (0,0))/\w.heap.size<=g/\zv [] w w':=by
 have cr:=aI (w:=w) hk
 have EA:(Instr.makeSlice 81 (.int .i64 (1+2*(n:Int))) (.int .i64 (1+2*(n:Int)))).run Tryz.prog w = .ok (zS w.heap.size (1+2*n) (1+2*n)) (w.alloc (.cells (Y7 (1+2*n) (fun _=>0)) 5)):=by
  have:=xW (P:=Tryz.prog) 81 5 Tryz.underlying81 X7 rfl .i64 .i64 (1+2*n) zo zo w;rw [ZW] at this;rw [show (1+2*(n:Int))=((1+2*n:Nat):Int) by omega];exact this
 have H:=zh h;have i1:(n:Int)<=61:=zo
 have HK:Hd (kind<=255):=zh zo;clear h hk;go_enter Tryz.func149,Tryz.ntmps149;go_wp2_with fail;refine zm cr ?_;clear cr;go_upto_region 4 with fail;have hx:=xo w (.cells (Y7 (1+2*n) (fun _=>0)) 5);have B5:=(zv.refl [] w).alloc (.cells (Y7 (1+2*n) (fun _=>0)) 5);generalize w.alloc (.cells (Y7 (1+2*n) (fun _=>0)) 5)=W at *;obtain ⟨b,hb⟩:=zE w.heap.size;rw [<- hb] at hx ⊢;obtain ⟨m,hm⟩:=zE (1+2*n);rw [<- hm] at hx ⊢;have HC:=zh B5;have HB:=zh hb;have HM:=zh hm;have cp:=VO hx 0 m m 0 1 n zo zo zo zo zo zo;clear EA hx B5 hm hb;go_wp2_with fail;refine cp.mono ?_;rintro e w2 ⟨rfl,Cr,BW⟩;rw [yn,nW n l zo] at Cr;have BZ:=zh (HC.tn BW (by rw [HB.o];exact xd _));have IN:=zh Cr;clear Cr BW cp HC;go_wp2_with fail;go_loopg [28] n (fun gg s wr=>∃ k:Nat,gg=n - k/\k<=n/\s = .int .i64 (k:Int)/\Hd (wr.heap[b]?=some (.cells (Y7 m (aG n l k)) 5 (0,0))/\zv [] w wr))
 case atStart=>exact ⟨0,rfl,yg _,zac,zh ⟨IN.o,BZ⟩⟩
 case round =>
  obtain ⟨k,DM,DH,rfl,hX⟩:=hrel;obtain ⟨wo,rfl⟩:=zE wr;have HX:=zh hX.o;have IP:=zh DM;clear hX DM;by_cases hk:k<n
  case' neg =>
   obtain rfl:k=n:=zo
   have Cm:Yc wo (some ⟨b,0,none⟩) m m (dg k l):=⟨xd _,by unfold maxLen;have:=HM.o;omega,(fun e=>by cases e),fun x hx _=>by
    injection hx with hx;subst hx;exact ⟨b,0,rfl,fun i hi=>⟨by rw [yn,zM HX.1,xL hi];rfl,mu zo i⟩⟩⟩
   have cs:=af Cm (zq HM.o) kind HK.o;go_wp2_with fail;refine cs.mono ?_;rintro e w3 ⟨rfl,Du,Ci⟩;have HS:=zh (zA Du Ci);clear Du Ci cs Cm;go_wp2_with fail;refine bodyPost_ret (v := .tuple #[zS wo.heap.size 128 128,.int .i64 0]) (by simp [results,Tryz.results149,go_sem]) rfl ⟨_,rfl,?_,HX.2.size,HX.2.trans HS.2⟩;rw [HS.1,HM.o];rfl
  case' pos =>
   obtain ⟨g,o,rfl,EQ,BX⟩:=H.2 zo;have cv:=(HX.2.cell (p:=⟨g,o+k,none⟩) EQ zaa).trans (BX k hk);have Co:=H.1 k hk;have cp:=VO HX.1 0 m m (1+2*k) 2 (l k) zo (zq HM.o) zo zo (zq HM.o) zo;rw [yn,nX,show ((1+2*k:Nat):Int)=1+2*(k:Int) from by omega] at cp;have CP:=zh cp;have i2:(k:Int)<(n:Int):=zo
   obtain ⟨v,hv⟩:=zE (l k);rw [<- hv] at cv CP Co;clear BX cp EQ hv;go_wp2_with fail;refine CP.mono ?_;rintro e w3 ⟨rfl,Du,Ci⟩;have HS:=zh (zA Du (HX.2.tn Ci (by rw [HB.o];exact xd _)));clear Du Ci;go_wp2_with fail;go_roundg (n - (k+1))
   case measure=>rw [IP.o];omega
   case rel=>exact ⟨k+1,rfl,zo,zac,HS⟩
structure xj where
 gen:Nat
 blocks:Nat
 roots:Nat->Nat
 marks:Nat->Nat
def xj.cellV (S:xj) (i:Nat):Value:=if i=0 then .int .u64 (S.gen:Int) else if i=1 then .int .u32 (S.blocks:Int) else if i<10 then .int .u32 (S.roots (i - 2):Int) else .int .u64 (S.marks (i - 10):Int)
def xj.row (S:xj):Array Value:=zK 18 S.cellV
structure xj.Ok (S:xj):Prop where
 gen:0<S.gen/\S.gen<18446744073709551616
 blocks:16<=S.blocks/\S.blocks<=4096
 roots:∀ i,i<8->S.roots i<S.blocks
 marks:∀ i,i<8->S.marks i<18446744073709551616
def Zd (k:Nat):Nat:=if k=0 then 0 else if k=1 then 8 else if k<10 then 12+4*(k - 2) else 44+8*(k - 10)
def qL (k:Nat):Nat:=if k=0 then 8 else if k<10 then 4 else 8
def xj.valS (S:xj) (k:Nat):Nat:=if k=0 then S.gen else if k=1 then S.blocks else if k<10 then S.roots (k - 2) else S.marks (k - 10)
theorem ry (h:k<m):Zd k+qL k<=Zd m:=by
 unfold Zd qL
 repeat' split
 all_goals omega
theorem J4 (h:k<18):Zd k+qL k<=108:=by
 unfold Zd qL
 repeat' split
 all_goals omega
theorem aJ (k:Nat):1<=qL k/\qL k<=8:=by
 unfold qL
 repeat' split
 all_goals omega
theorem xj.Ok.val {S:xj} (h:S.Ok) (hk:k<18):S.valS k<256 ^ qL k:=by
 have e8:(256:Nat) ^ 8=18446744073709551616:=zaf;have e4:(256:Nat) ^ 4=4294967296:=zaf;unfold xj.valS qL;by_cases h0:k=0
 ·rw [if_pos h0,if_pos h0,e8];exact h.gen.2
 ·rw [if_neg h0,if_neg h0]
  by_cases h1:k=1
  ·rw [if_pos h1,if_pos zo,e4];have:=h.blocks.2;omega
  ·rw [if_neg h1]
   by_cases h2:k<10
   ·rw [if_pos h2,if_pos h2,e4];have:=h.roots (k - 2) zo;have:=h.blocks.2;omega
   ·rw [if_neg h2,if_neg h2,e8];exact h.marks _ zo
def ww (S:xj):Nat->Nat->Nat
 | 0=>fun _=>0
 | k+1=>YC (ww S k) (Zd k) (qL k) (S.valS k)
def dh (S:xj):Nat->Nat:=YC (ww S 18) 115 8 S.gen
def Y8 (S:xj):Nat->Nat:=ZM 6 123 (dh S)
theorem mw (h:∀ i,f i<=255) (i:Nat):YC f p s v i<=255:=by
 unfold YC
 split
 ·exact VT _ _
 ·exact h i
theorem rA (S:xj):∀ k i,ww S k i<=255
 | 0,i=>yg _
 | k+1,i=>mw (rA S k) i
theorem fQ (S:xj) (i:Nat):dh S i<=255:=mw (rA S 18) i
theorem dI {q t:Nat} (h:q+t<=p∨p+s<=q):Zu (YC f p s v) q t=Zu f q t:=Zc t fun i hi=>by
 unfold YC;rw [if_neg zo]
theorem mx {S:xj} (h:S.Ok):∀ m,m<=18->∀ k,k<m->Zu (ww S m) (Zd k) (qL k)=S.valS k
 | 0,_,k,hk=>zo
 | m+1,hm,k,hk=>by
  by_cases e:k=m
  ·subst e;exact aH _ _ _ _ (h.val zo)
  ·show Zu (YC (ww S m) (Zd m) (qL m) (S.valS m)) (Zd k) (qL k)=_
   rw [dI (.inl (ry zo))];exact mx h m zo k zo
theorem rB {S:xj} (h:S.Ok) (hk:k<18):Zu (dh S) (Zd k) (qL k)=S.valS k:=by
 unfold dh;rw [dI (.inl (zq (J4 hk)))];exact mx h 18 (xd _) k hk
theorem nY {S:xj} (h:S.Ok):Zu (dh S) 115 8=S.gen:=aH _ _ _ _ (by rw [show (256:Nat) ^ 8=18446744073709551616 from by decide];exact h.gen.2)
theorem rC (S:xj):∀ k,k<=18->∀ i,108<=i->ww S k i=0
 | 0,_,i,_=>rfl
 | k+1,hk,i,hi=>by
  show YC (ww S k) (Zd k) (qL k) (S.valS k) i=0
  unfold YC;rw [if_neg (zq (J4 (k:=k) zo))];exact rC S k zo i hi
theorem rD (S:xj) (h1:108<=i) (h2:i<115):dh S i=0:=by
 unfold dh YC;rw [if_neg zo];exact rC S 18 (xd _) i h1
theorem rE (S:xj):qF (Y8 S):=mv _ _ _
theorem kK (S:xj):Y8 S 0=6:=by unfold Y8;rw [Qz zo];rfl
theorem kL (S:xj) (h:i<123):Y8 S (1+i)=dh S i:=by
 unfold Y8;rw [Qz zo];unfold Zw;rw [if_neg zo,if_pos zo,yA]
theorem xj.cell {S:xj} {t:TypeId} (h:w.heap[b]?=some (.cells S.row t (0,0))) (hi:i<18):w.cell? ⟨b,i,none⟩=some (S.cellV i):=(zM h i).trans (Qn hi)
theorem wW {x:Nat} {S:xj} (h:w.heap[b]?=some (.cells S.row 56 (0,0))) :
  zC 193 #[.int .u32 (x:Int),zP b] w fun e w'=>e = .returned (.bool (decide (S.blocks<=x)))/\w=w':=by
 have:w.cell? ⟨b,1,none⟩=some (.int .u32 (S.blocks:Int)):=(xj.cell h zo).trans rfl;go_enter Tryz.func193,Tryz.ntmps193;go_wp2_with fail;go_ret;exact ⟨rfl,rfl⟩
theorem rF {S:xj} (h:w.heap[b]?=some (.cells S.row 56 (0,0))) (Dm:S.Ok) :
  zC 227 #[.slice (some ⟨b,2,none⟩) 8 8,.func (.func 193) #[] #[zP b]] w fun e w'=>e = .returned (.int .i64 (-1))/\w=w':=by
 have HB:=zh h;clear h;go_enter Tryz.func227,Tryz.ntmps227;go_wp2_with fail;go_loopg [8] 8 (fun gg s wr=>∃ k:Nat,gg=8 - k/\k<=8/\s = zI k/\w=wr)
 case atStart=>exact ⟨0,rfl,yg _,zac,rfl⟩
 case round =>
  obtain ⟨k,DM,hk8,rfl,rfl⟩:=hrel;by_cases hk:k<8
  ·have:w.cell? ⟨b,2+k,none⟩=some (.int .u32 (S.roots k:Int)):=(xj.cell HB zo).trans zap
   have cf:=wW (x:=S.roots k) HB.o;rw [yC (show ¬ S.blocks<=S.roots k by have:=Dm.roots k hk;omega)] at cf;have:(k:Int)<8:=zo
   go_wp2_with fail;refine zm cf ?_;go_wp2_with fail;go_roundg (8 - (k+1))
   case measure=>omega
   case rel=>exact ⟨k+1,rfl,zo,zac,rfl⟩
  ·obtain rfl:k=8:=zo
   go_wp2_with fail;go_ret;exact ⟨rfl,rfl⟩
theorem nZ {S:xj} (h:w.heap[b]?=some (.cells S.row 56 (0,0))) (Dm:S.Ok) :
  zC 194 #[.slice (some ⟨b,2,none⟩) 8 8,.func (.func 193) #[] #[zP b]] w fun e w'=>e = .returned (.bool false)/\w=w':=by
 have ci:=rF h Dm;go_enter Tryz.func194,Tryz.ntmps194;go_wp2_with fail;refine zm ci ?_;go_wp2_with fail;go_ret;exact ⟨rfl,rfl⟩
theorem aK {S:xj} (Dm:S.Ok) :
  zC 143 #[.agg S.row] w fun e w'=>e = .returned (.bool true)/\w.alloc (.cells S.row 56)=w':=by
 have hx:=xo w (.cells S.row 56);have:(w.alloc (.cells S.row 56)).cell? ⟨w.heap.size,0,none⟩=some (zU S.gen):=(xj.cell hx zo).trans rfl;have:(w.alloc (.cells S.row 56)).cell? ⟨w.heap.size,1,none⟩=some (.int .u32 (S.blocks:Int)):=(xj.cell hx zo).trans rfl;have cc:=nZ hx Dm;have:(0:Int)<(S.gen:Int):=zq Dm.gen.1
 have:(16:Int)<=(S.blocks:Int):=zq Dm.blocks.1;have:(S.blocks:Int)<=4096:=zq Dm.blocks.2;clear Dm hx;go_enter Tryz.func143,Tryz.ntmps143;go_upto_region 1 with fail;generalize hW:w.alloc (.cells S.row 56)=W at *;have HW:=zh hW;clear hW;go_wp2_with fail;refine zm cc ?_;go_wp2_with fail;go_ret;exact ⟨rfl,HW⟩
open Go.RowKit Go.Shelf
attribute [local go_sem] Oper.semAt_some
theorem ij {l:Nat} {f:FuncId} {tmps:Array Value} {a b:Code} (h:RoundIn Fence.wide n P l f tmps a b w R):RoundIn Fence.wide m P l f tmps a b w R :=
 ⟨h.1,fun c cs _=>h.2 c cs (room_wide _)⟩
theorem YieldAt.any {l:Nat} {args:Array Value} {W:World} (h:YieldAt Fence.wide n P l args W R):YieldAt Fence.wide m P l args W R:=by
 obtain ⟨fn,tmps,assign,body,h1,h2⟩:=h;exact ⟨fn,tmps,assign,body,h1,ij h2⟩
structure xj.Wf (S:xj):Prop where
 v:∀ k,k<18->S.valS k<256 ^ qL k
def n8 (k x:Nat):Value:=if k=0 then .int .u64 (x:Int) else if k<10 then .int .u32 (x:Int) else .int .u64 (x:Int)
theorem Yi (S:xj) (hk:k<18):S.cellV k=n8 k (S.valS k):=by
 unfold xj.cellV n8 xj.valS;by_cases h0:k=0
 ·rw [if_pos h0,if_pos h0,if_pos h0]
 ·rw [if_neg h0,if_neg h0,if_neg h0]
  by_cases h1:k=1
  ·subst h1;rfl
  ·rw [if_neg h1,if_neg h1]
   by_cases h2:k<10
   ·rw [if_pos h2,if_pos h2,if_pos h2]
   ·rw [if_neg h2,if_neg h2,if_neg h2]
theorem XK {S S':xj} (h:∀ i,i<18->S'.valS i=S.valS i):S'.row=S.row:=by
 apply yM;intro i;unfold xj.row;by_cases hi:i<18
 ·rw [Qn hi,Qn hi,Yi _ hi,Yi _ hi,h i hi]
 ·rw [yo zaj,yo zaj]
theorem Q2 {S S':xj} (hk:k<18) (h:∀ i,i<18->i≠k->S'.valS i=S.valS i):S.row.setIfInBounds k (n8 k (S'.valS k))=S'.row:=by
 apply yM;intro i;unfold xj.row;by_cases hi:i<18
 ·rw [yP,Qn hi,Qn hi,Yi _ hi]
  by_cases e:k=i
  ·subst e;rw [if_pos rfl,if_pos (by rw [ZT];exact hk),Yi _ hi]
  ·rw [if_neg e,Yi _ hi,h i hi (fun q=>e q.symm)]
 ·rw [yo (by simp [ZT];omega),yo zaj]
def xj.ofV (v:zF):xj:=⟨v 0,v 1,fun i=>v (2+i),fun i=>v (10+i)⟩
theorem my (v:zF) : (xj.ofV v).valS k=v k:=by
 unfold xj.valS xj.ofV;by_cases h0:k=0
 ·rw [if_pos h0,h0]
 ·rw [if_neg h0]
  by_cases h1:k=1
  ·rw [if_pos h1,h1]
  ·rw [if_neg h1]
   by_cases h2:k<10
   ·rw [if_pos h2];show v (2+(k - 2))=v k;rw [show 2+(k - 2)=k by omega]
   ·rw [if_neg h2];show v (10+(k - 10))=v k;rw [show 10+(k - 10)=k by omega]
def Jm (k B0 ib:Nat):Value:=if k=0 then .func (.func 197) #[] #[zP B0] else if k=1 then .func (.func 198) #[] #[zP B0]
 else if k<10 then .func (.func 199) #[] #[zP B0,zP ib] else .func (.func 200) #[] #[zP B0,zP ib]
def Bj (B0 sb:Nat) (k:Nat) (W:World) (av:Array Value):Prop :=
 ∃ (S:xj) (ib:Nat),S.Wf/\W.heap[sb]?=some (.cells S.row 56 (0,0))/\av=#[.int .i64 (Zd k:Int),.agg #[.int .i64 (qL k:Int),.int .u64 (S.valS k:Int),Jm k B0 ib]] /\
  (2<=k->W.heap[ib]?=some (.cells #[.int .i64 (if k<10 then ((k - 2:Nat):Int) else ((k - 10:Nat):Int))] 3 (0,0))/\ib≠B0)
def Bk (sb:Nat) (W:World):Prop:=∃ S:xj,S.Wf/\W.heap[sb]?=some (.cells S.row 56 (0,0))
section
variable {w:World} {B0 sb ib x:Nat} {S:xj}
theorem ux (hB:w.cell? ⟨B0,0,none⟩=some (zP sb)) (hs:w.heap[sb]?=some (.cells S.row 56 (0,0))) :
  zC 197 #[.int .u64 (x:Int),zP B0] w fun e w'=>(∃ v,e = .returned v)/\w'.heap[sb]?=some (.cells (S.row.setIfInBounds (0) (.int .u64 (x:Int))) 56 (0,0))/\zv [sb] w w':=by
 have:=xj.cell hs (i:=0) zo;have:=xB hs 0;have:=zz hs;have HS:=zh hs;clear hs;go_enter Tryz.func197,Tryz.ntmps197;go_wp2_with fail
 go_end0
 exact ⟨⟨_,rfl⟩,Yh HS _ _,(zv.refl _ _).setCell (.inl zaa) _⟩
theorem uy (hB:w.cell? ⟨B0,0,none⟩=some (zP sb)) (hs:w.heap[sb]?=some (.cells S.row 56 (0,0))) (hx:x<4294967296) :
  zC 198 #[.int .u64 (x:Int),zP B0] w fun e w'=>(∃ v,e = .returned v)/\w'.heap[sb]?=some (.cells (S.row.setIfInBounds (1) (.int .u32 (x:Int))) 56 (0,0))/\zv [sb] w w':=by
 have:=xj.cell hs (i:=1) zo;have:=xB hs 1;have:=zz hs;have:IntKind.u32.wrap (x:Int)=(x:Int):=by rw [IntKind.wrap_u32];omega
 have HS:=zh hs;clear hs;go_enter Tryz.func198,Tryz.ntmps198;go_wp2_with fail
 go_end0
 exact ⟨⟨_,rfl⟩,Yh HS _ _,(zv.refl _ _).setCell (.inl zaa) _⟩
theorem uz (hj:j<8) (hB:w.cell? ⟨B0,0,none⟩=some (zP sb)) (hi:w.cell? ⟨ib,0,none⟩=some (.int .i64 (j:Int))) (hs:w.heap[sb]?=some (.cells S.row 56 (0,0))) (hx:x<4294967296) :
  zC 199 #[.int .u64 (x:Int),zP B0,zP ib] w fun e w'=>(∃ v,e = .returned v)/\w'.heap[sb]?=some (.cells (S.row.setIfInBounds (2+j) (.int .u32 (x:Int))) 56 (0,0))/\zv [sb] w w':=by
 have:=xj.cell hs (i:=2+j) zo;have:=xB hs (2+j);have:=zz hs;have:IntKind.u32.wrap (x:Int)=(x:Int):=by rw [IntKind.wrap_u32];omega
 have:(j:Int)<8:=zo;have HS:=zh hs;clear hs;go_enter Tryz.func199,Tryz.ntmps199;go_upto_region 0 with fail
 go_region
 all_goals go_wp2_with fail
 go_end0
 exact ⟨⟨_,rfl⟩,Yh HS _ _,((zv.refl _ _).setCell (.inl zaa) _).drew⟩
theorem uB (hj:j<8) (hB:w.cell? ⟨B0,0,none⟩=some (zP sb)) (hi:w.cell? ⟨ib,0,none⟩=some (.int .i64 (j:Int))) (hs:w.heap[sb]?=some (.cells S.row 56 (0,0))) :
  zC 200 #[.int .u64 (x:Int),zP B0,zP ib] w fun e w'=>(∃ v,e = .returned v)/\w'.heap[sb]?=some (.cells (S.row.setIfInBounds (10+j) (.int .u64 (x:Int))) 56 (0,0))/\zv [sb] w w':=by
 have:=xj.cell hs (i:=10+j) zo;have:=xB hs (10+j);have:=zz hs;have:(j:Int)<8:=zo
 have HS:=zh hs;clear hs;go_enter Tryz.func200,Tryz.ntmps200;go_upto_region 0 with fail
 go_region
 all_goals go_wp2_with fail
 go_end0
 exact ⟨⟨_,rfl⟩,Yh HS _ _,((zv.refl _ _).setCell (.inl zaa) _).drew⟩
end
theorem n9 {ab yb l at' size get:Nat} {gf:Fn} {lb:Array Value} (ha:w.heap[ab]?=some (.cells #[.int .i64 (at':Int)] 3 (0,0))) (hy:w.cell? ⟨yb,0,none⟩=some (.func (.yield l) #[] #[])) (BU:yb≠ab) (Dg:size<=8) (DT:at'<=200)
  (hR:YieldAt Fence.wide 5 Tryz.prog l #[.int .i64 (at':Int),.agg #[.int .i64 (size:Int),.int .u64 (get:Int),.func gf #[] lb]] (w.setCell ⟨ab,0,none⟩ (.int .i64 ((at'+size:Nat):Int))) R) (hb:∀ e w',R e w'->∃ b:Bool,e = .returned (.bool b)) :
  zC 196 #[.int .i64 (size:Int),.int .u64 (get:Int),.func gf #[] lb,zP ab,zP yb] w R:=by
 have c0:=zM ha 0;simp only [tA1,tA3] at c0;have:=xB ha 0;have:=zz ha
 have c1:(w.setCell ⟨ab,0,none⟩ (.int .i64 ((at'+size:Nat):Int))).cell? ⟨ab,0,none⟩=some (.int .i64 ((at'+size:Nat):Int)):=by
  rw [zM (Yh ha 0 _) 0];rfl
 have c2:(w.setCell ⟨ab,0,none⟩ (.int .i64 ((at'+size:Nat):Int))).cell? ⟨yb,0,none⟩=some (.func (.yield l) #[] #[]):=(yW (ZS 0 _ BU)).trans hy;clear ha;obtain ⟨fn,tmps,assign,body,B8,hRR⟩:=hR;rw [Int.natCast_add] at c1 c2 B8 hRR;refine (callsIn_wide (n:=6)).1 ?_;refine callsIn_of_wp Tryz.func196 rfl trivial ?_ rfl;simp only [Tryz.ntmps196,List.size_toArray,yu,List.length_nil,Nat.reduceAdd,Nat.reduceSub,Array.replicate_succ,Array.replicate_zero,List.push_toArray,yE,yy,yK]
 gi_wp2
 refine hRR.mono ?_;intro e w' hr;obtain ⟨b,rfl⟩:=hb e w' hr
 gi_wp2
 exact hr
theorem OA {sb:Nat} : zC 144 #[zP sb] w fun e w'=>e = .returned (.func (.func 195) #[] #[zP w.heap.size])/\w.alloc (.cells #[zP sb] 252)=w':=by
 go_enter Tryz.func144,Tryz.ntmps144;go_wp2_with fail;go_ret;exact ⟨rfl,rfl⟩
end Go.Proofs.YtegpiomkmfhadaaGreat
namespace Go.Proofs.YtegpiomkmfhadaaGreat
open Go.RowKit Go.Shelf
theorem rG {k:Nat} (hk:k<18):Zd k+qL k=Zd (k+1):=by
 unfold Zd qL
 repeat' split
 all_goals omega
theorem uC {k:Nat} (hk:k<=18):Zd k<=108:=by
 unfold Zd
 repeat' split
 all_goals omega
theorem Jn (n B0 sb:Nat) (Lw:List Nat) (w:World) (hB:w.cell? ⟨B0,0,none⟩=some (zP sb)) (h1:B0∉Lw) (D8:sb<w.heap.size) (hsB:sb≠B0) (Lt:∀ x,x∈Lw->x<w.heap.size) :
  rp Fence.wide n Tryz.prog 195 #[zP B0] (Bk sb) (Bj B0 sb) 18 Lw w:=by
 intro l J Jx W hW Dt hl hJ U3 hP hY L7;have KV:B0<w.heap.size:=yc w ⟨B0,0,none⟩ hB;have R9:=(hW.cell (p:=⟨B0,0,none⟩) KV).trans hB;have PN:=hW.size;clear hB;obtain ⟨St,hSt⟩:∃ St:Nat->Nat->Nat->World->Prop,St=fun ab yb k wr=>J k wr/\zv (l::Lw) W wr/\wr.heap[ab]?=some (.cells #[.int .i64 (Zd k:Int)] 3 (0,0))/\wr.cell? ⟨yb,0,none⟩=some (.func (.yield l) #[] #[]):=⟨_,rfl⟩
 have step:∀ (ab yb ib k:Nat) (wr:World) (S:xj) (gf:Fn) (lb:Array Value),W.heap.size<=ab->W.heap.size<=yb->yb≠ab->W.heap.size<=ib->ib≠ab->k<18->St ab yb k wr->S.Wf->wr.heap[sb]?=some (.cells S.row 56 (0,0))->Jm k B0 ib = .func gf #[] lb ->
   (2<=k->wr.heap[ib]?=some (.cells #[.int .i64 (if k<10 then ((k - 2:Nat):Int) else ((k - 10:Nat):Int))] 3 (0,0))) ->
   zC 196 #[.int .i64 (qL k:Int),.int .u64 (S.valS k:Int),.func gf #[] lb,zP ab,zP yb] wr fun e w' =>
    ∃ b:Bool,e = .returned (.bool b)/\Hd ((b=true/\St ab yb (k+1) w')∨(b=false/\Jx (k+1) w')):=by
  intro ab yb ib k wr S gf lb a1 a2 a3 a4 a5 hk Ev hS hs hf Kb;rw [hSt] at Ev ⊢;obtain ⟨s1,s2,s3,s4⟩:=Ev;have KY:Below W.heap.size wr (wr.setCell ⟨ab,0,none⟩ (.int .i64 ((Zd k+qL k:Nat):Int))):=(Below.refl _ wr).setCell (by show W.heap.size<=ab;exact a1) _
  have hy:=YieldAt.any (m:=5) (hY k (wr.setCell ⟨ab,0,none⟩ (.int .i64 ((Zd k+qL k:Nat):Int))) #[.int .i64 (Zd k:Int),.agg #[.int .i64 (qL k:Int),.int .u64 (S.valS k:Int),.func gf #[] lb]] (hJ k wr _ s1 KY) hk
   ⟨S,ib,hS,(ZS 0 _ zo).trans hs,by rw [hf],fun h2=>⟨(ZS 0 _ a5).trans (Kb h2),zo⟩⟩)
  have Cq:ab∉l::Lw:=by
   simp only [ya,not_or];exact ⟨zo,fun h=>by have:=Lt ab h;omega⟩
  have Nq:yb∉l::Lw:=by
   simp only [ya,not_or];exact ⟨zo,fun h=>by have:=Lt yb h;omega⟩
  have M8:zv (l::Lw) W (wr.setCell ⟨ab,0,none⟩ (.int .i64 ((Zd k+qL k:Nat):Int))):=s2.setCell (.inr a1) _;have hx:=Yh s3 0 (.int .i64 ((Zd k+qL k:Nat):Int));have hz:=(yW (ZS (w:=wr) 0 (.int .i64 ((Zd k+qL k:Nat):Int)) a3)).trans s4;refine n9 s3 s4 a3 (zq ((aJ k).2)) (zq (uC (k:=k) zo)) (hy.mono fun e w' hr=>?_) ?_
  ·rcases hr with ⟨rfl,r1,r2⟩ | ⟨rfl,r1,r2⟩
   ·refine ⟨true,rfl,zh (.inl ⟨rfl,r1,M8.trans r2,?_,?_⟩)⟩
    ·rw [<- rG hk]
     exact (r2.block ab (zz hx) Cq).trans hx
    ·exact (r2.cell (p:=⟨yb,0,none⟩) (yc _ ⟨yb,0,none⟩ hz) Nq).trans hz
   ·exact ⟨false,rfl,zh (.inr ⟨rfl,r1⟩)⟩
  ·rintro e w' ⟨b,rfl,_⟩
   exact ⟨b,rfl⟩
 have NC:=zh step;have HJ:=zh (zA hJ hP);have IR:=zh hSt;have HBW:=zh R9;have HL:=zh (zA Dt (zA hl (zA D8 (zA KV PN))));have HN:=zh (zA h1 (zA hsB Lt));have HJ0:=zh L7;clear step hJ hP hSt R9 Dt hl D8 KV PN h1 hsB Lt L7 hY;refine callsIn_wide.2 ?_;go_enter Tryz.func195,Tryz.ntmps195;go_upto_region 2 with fail;have B5:zv (l::Lw) W ((W.alloc (.cells #[.func (.yield l) #[] #[]] 304)).alloc (.cells #[.int .i64 0] 3)):=((zv.refl _ W).alloc _).alloc _;have al:Below W.heap.size W ((W.alloc (.cells #[.func (.yield l) #[] #[]] 304)).alloc (.cells #[.int .i64 0] 3)):=((Below.refl _ W).alloc (xd _) _).alloc zaa _;have k0:=kC W (.cells #[.func (.yield l) #[] #[]] 304) (.cells #[.int .i64 0] 3);have k1:=cZ W (.cells #[.func (.yield l) #[] #[]] 304) (.cells #[.int .i64 0] 3);have Dg:((W.alloc (.cells #[.func (.yield l) #[] #[]] 304)).alloc (.cells #[.int .i64 0] 3)).heap.size=W.heap.size+2:=zaa
 generalize (W.alloc (.cells #[.func (.yield l) #[] #[]] 304)).alloc (.cells #[.int .i64 0] 3)=W1 at *;obtain ⟨yb,Nq⟩:=zE W.heap.size;obtain ⟨ab,Cq⟩:=zE (W.heap.size+1);rw [<- Cq,<- Nq];rw [<- Nq] at k0;rw [<- Cq] at k1
 have Tn:St ab yb 0 W1:=by
  rw [IR.o];exact ⟨HJ.1 0 W W1 HJ0 al,B5,k1,(zM k0 0).trans rfl⟩
 have HAB:=zh (zA Nq (zA Cq Dg))
 have UK:∀ k wr,St ab yb k wr->wr.cell? ⟨B0,0,none⟩=some (zP sb):=fun k wr h=>by
  rw [IR.o] at h;exact (h.2.1.cell (p:=⟨B0,0,none⟩) (by show B0<W.heap.size;have:=HL.o;omega) (by simp only [ya,not_or];exact ⟨by have:=HL.o;omega,HN.1⟩)).trans HBW.o
 have sOf:∀ k wr,St ab yb k wr->∃ S:xj,S.Wf/\wr.heap[sb]?=some (.cells S.row 56 (0,0)):=fun k wr h=>by
  rw [IR.o] at h;exact HJ.2 k wr h.1
 have HCB:=zh UK;have HSO:=zh sOf;have abl:W.heap.size<=ab:=zo
 have ybl:W.heap.size<=yb:=zo;have yab:yb≠ab:=zo;have HO:=zh (zA abl (zA ybl yab));clear B5 al k0 k1 Dg Nq Cq UK sOf abl ybl yab;have cB:=HCB 0 W1 Tn;obtain ⟨S,hS,hs⟩:=HSO 0 W1 Tn;have c0:=xj.cell hs (i:=0) zo;have cc:=NC ab yb (W.heap.size+2) 0 W1 S (.func 197) #[zP B0] HO.1 HO.2.1 HO.2.2 zo (zq HAB.2.1) zo Tn hS hs rfl (fun h=>zo)
 change Calls _ _ #[.int .i64 8,zU S.gen,.func (.func 197) #[] #[zP B0],_,_] W1 _ at cc
 change W1.cell? ⟨sb,0,none⟩=some (zU S.gen) at c0
 have CC:=zh cc;clear cc hs Tn;go_wp2_with fail;refine CC.mono ?_;clear CC c0 cB hS;rintro e w2 ⟨b,rfl,HR⟩;rcases HR.o with ⟨rfl,MP⟩ | ⟨rfl,jx⟩
 ·have cB:=HCB 1 w2 MP
  obtain ⟨S,hS,hs⟩:=HSO 1 w2 MP;have c0:=xj.cell hs (i:=1) zo;have cc:=NC ab yb (W.heap.size+2) 1 w2 S (.func 198) #[zP B0] HO.1 HO.2.1 HO.2.2 zo (zq HAB.2.1) zo MP hS hs rfl (fun h=>zo)
  change Calls _ _ #[.int .i64 4,zU S.blocks,.func (.func 198) #[] #[zP B0],_,_] w2 _ at cc
  change w2.cell? ⟨sb,1,none⟩=some (.int .u32 (S.blocks:Int)) at c0
  have E1:IntKind.u64.wrap (S.blocks:Int)=(S.blocks:Int):=by
   have:=hS.v 1 zo
   change S.blocks<256 ^ 4 at this
   rw [IntKind.wrap_u64];omega
  have CC:=zh cc;clear cc hs MP;go_wp2_with fail;refine CC.mono ?_;clear CC c0 cB hS E1;rintro e w3 ⟨b,rfl,HR⟩;rcases HR.o with ⟨rfl,st2⟩ | ⟨rfl,jx⟩
  ·go_wp2_with fail
   go_loopg [27] 8 (fun gg s wr=>∃ k:Nat,gg=8 - k/\k<=8/\s = zI k/\St ab yb (2+k) wr)
   case atStart=>exact ⟨0,rfl,yg _,zac,st2⟩
   case round =>
    obtain ⟨k,DM,hk8,rfl,st⟩:=hrel;by_cases hk:k<8
    ·have i1:(k:Int)<8:=zo
     have cB:=HCB _ wr st;obtain ⟨S,hS,hs⟩:=HSO _ wr st;go_upto_region 7 with fail;have Da:=(zv.refl [] wr).alloc (.cells #[zI k] 3);have IL:=xo wr (.cells #[zI k] 3);have DG:=Da.size
     have Ll:St ab yb (2+k) (wr.alloc (.cells #[zI k] 3)):=by
      rw [IR.o] at st ⊢;obtain ⟨q1,q2,q3,q4⟩:=st;exact ⟨HJ.1 _ _ _ q1 ((Below.refl _ wr).alloc q2.size _),q2.trans (Da.mo),(Da.block ab (zz q3) zaa).trans q3,(Da.cell (p:=⟨yb,0,none⟩) (yc wr ⟨yb,0,none⟩ q4) zaa).trans q4⟩
     have Hk:=(Da.block sb (zz hs) zaa).trans hs;have cBA:=(Da.cell (p:=⟨B0,0,none⟩) (yc wr ⟨B0,0,none⟩ cB) zaa).trans cB;have Tf:W.heap.size<=wr.heap.size:=by rw [IR.o] at st;exact st.2.1.size
     have Tg:wr.heap.size≠ab:=by rw [IR.o] at st;have:=zz st.2.2.1;omega
     generalize wr.alloc (.cells #[zI k] 3)=wa at *;obtain ⟨ib,Kb⟩:=zE wr.heap.size;rw [<- Kb] at IL Tf Tg ⊢;have c0:=xj.cell Hk (i:=2+k) zo;have c1:=zM IL 0;simp only [tA1,tA3] at c1;have eS:S.valS (2+k)=S.roots k:=by unfold xj.valS;rw [if_neg zo,if_neg zo,if_pos zo,yA]
     have e4:qL (2+k)=4:=by unfold qL;rw [if_neg zo,if_pos zo]
     rw [Yi _ zo,eS] at c0;unfold n8 at c0;rw [if_neg zo,if_pos zo] at c0
     have stD:St ab yb (2+k) wa.drew:=by
      rw [IR.o] at Ll ⊢;exact ⟨HJ.1 _ _ _ Ll.1 ⟨rfl,rfl,rfl,xd _,fun _ _=>rfl⟩,Ll.2.1.drew,Ll.2.2.1,Ll.2.2.2⟩
     have cc:=NC ab yb ib (2+k) wa.drew S (.func 199) #[zP B0,zP ib] HO.1 HO.2.1 HO.2.2 Tf Tg zo stD hS Hk (by unfold Jm;rw [if_neg zo,if_neg zo,if_pos zo]) (fun h=>by rw [if_pos zo,yA];exact IL);rw [e4,eS] at cc
     change Calls _ _ #[.int .i64 4,_,_,_,_] wa.drew _ at cc
     have E1:IntKind.u64.wrap (S.roots k:Int)=(S.roots k:Int):=by
      have:=hS.v (2+k) zo;rw [eS,e4] at this
      change S.roots k<256 ^ 4 at this
      rw [IntKind.wrap_u64];omega
     have CC:=zh cc;clear cc Da DG Ll stD Hk cB Kb Tf Tg IL hs st
     go_region_with (go_at_call 196;refine CC.mono ?_;clear CC c0 c1 cBA;rintro e w4 ⟨b,rfl,HR⟩)
     all_goals
      rcases HR.o with ⟨rfl,MP⟩ | ⟨rfl,jx⟩
      ·go_wp2_with fail
       go_roundg (8 - (k+1))
       case measure=>omega
       case rel=>exact ⟨k+1,rfl,zo,zac,MP⟩
      ·go_wp2_with fail
       refine bodyPost_ret (results_none rfl _ _ _) rfl ?_;exact ⟨⟨_,rfl⟩,.inr ⟨2+k+1,zo,jx⟩⟩
    ·obtain rfl:k=8:=zo
     go_wp2_with fail;go_loopg [42] 8 (fun gg s wr=>∃ k:Nat,gg=8 - k/\k<=8/\s = zI k/\St ab yb (10+k) wr)
     case atStart=>exact ⟨0,rfl,yg _,zac,st⟩
     case round =>
      clear st;obtain ⟨k,DM,hk8,rfl,st⟩:=hrel;by_cases hk:k<8
      ·have i1:(k:Int)<8:=zo
       have cB:=HCB _ wr st;obtain ⟨S,hS,hs⟩:=HSO _ wr st;go_upto_region 12 with fail;have Da:=(zv.refl [] wr).alloc (.cells #[zI k] 3);have IL:=xo wr (.cells #[zI k] 3);have DG:=Da.size
       have Ll:St ab yb (10+k) (wr.alloc (.cells #[zI k] 3)):=by
        rw [IR.o] at st ⊢;obtain ⟨q1,q2,q3,q4⟩:=st;exact ⟨HJ.1 _ _ _ q1 ((Below.refl _ wr).alloc q2.size _),q2.trans (Da.mo),(Da.block ab (zz q3) zaa).trans q3,(Da.cell (p:=⟨yb,0,none⟩) (yc wr ⟨yb,0,none⟩ q4) zaa).trans q4⟩
       have Hk:=(Da.block sb (zz hs) zaa).trans hs;have cBA:=(Da.cell (p:=⟨B0,0,none⟩) (yc wr ⟨B0,0,none⟩ cB) zaa).trans cB;have Tf:W.heap.size<=wr.heap.size:=by rw [IR.o] at st;exact st.2.1.size
       have Tg:wr.heap.size≠ab:=by rw [IR.o] at st;have:=zz st.2.2.1;omega
       generalize wr.alloc (.cells #[zI k] 3)=wa at *;obtain ⟨ib,Kb⟩:=zE wr.heap.size;rw [<- Kb] at IL Tf Tg ⊢;have c0:=xj.cell Hk (i:=10+k) zo;have c1:=zM IL 0;simp only [tA1,tA3] at c1;have eS:S.valS (10+k)=S.marks k:=by unfold xj.valS;rw [if_neg zo,if_neg zo,if_neg zo,yA]
       have e4:qL (10+k)=8:=by unfold qL;rw [if_neg zo,if_neg zo]
       rw [Yi _ zo,eS] at c0;unfold n8 at c0;rw [if_neg zo,if_neg zo] at c0
       have stD:St ab yb (10+k) wa.drew:=by
        rw [IR.o] at Ll ⊢;exact ⟨HJ.1 _ _ _ Ll.1 ⟨rfl,rfl,rfl,xd _,fun _ _=>rfl⟩,Ll.2.1.drew,Ll.2.2.1,Ll.2.2.2⟩
       have cc:=NC ab yb ib (10+k) wa.drew S (.func 200) #[zP B0,zP ib] HO.1 HO.2.1 HO.2.2 Tf Tg zo stD hS Hk (by unfold Jm;rw [if_neg zo,if_neg zo,if_neg zo]) (fun h=>by rw [if_neg zo,yA];exact IL);rw [e4,eS] at cc
       change Calls _ _ #[.int .i64 8,_,_,_,_] wa.drew _ at cc
       have CC:=zh cc;clear cc Da DG Ll stD Hk cB Kb Tf Tg IL hs st
       go_region_with (go_at_call 196;refine CC.mono ?_;clear CC c0 c1 cBA;rintro e w4 ⟨b,rfl,HR⟩)
       all_goals
        rcases HR.o with ⟨rfl,MP⟩ | ⟨rfl,jx⟩
        ·go_wp2_with fail
         go_roundg (8 - (k+1))
         case measure=>omega
         case rel=>exact ⟨k+1,rfl,zo,zac,MP⟩
        ·go_wp2_with fail
         refine bodyPost_ret (results_none rfl _ _ _) rfl ?_;exact ⟨⟨_,rfl⟩,.inr ⟨10+k+1,zo,jx⟩⟩
      ·obtain rfl:k=8:=zo
       go_wp2_with fail
       go_end0
       rw [IR.o] at st;exact ⟨⟨_,rfl⟩,.inl st.1⟩
  ·go_wp2_with fail
   refine bodyPost_ret (results_none rfl _ _ _) rfl ?_;exact ⟨⟨_,rfl⟩,.inr ⟨2,zo,jx⟩⟩
 ·go_wp2_with fail
  refine bodyPost_ret (results_none rfl _ _ _) rfl ?_;exact ⟨⟨_,rfl⟩,.inr ⟨1,zo,jx⟩⟩
end Go.Proofs.YtegpiomkmfhadaaGreat
namespace Go.Proofs.YtegpiomkmfhadaaGreat
open Go.RowKit
variable {w:World} {b N o n:Nat} {V:Nat->Value} {P:Program} {fn:Func} {tmps:Array Value} {p:Addr} {v:Value} {ops:Array Oper} {rest:List Oper} {op:Oper} {Q:Exit->Act->World->Prop}
theorem QA {b N:Nat} {t:TypeId} : ∀ (vs:List Value) (o:Nat) (w:World) (V:Nat->Value),w.heap[b]?=some (.cells (zK N V) t (0,0)) ->
  (w.setCells b o vs).heap[b]?=some (.cells (zK N (fun i=>if o<=i then (vs[i - o]?).getD (V i) else V i)) t (0,0))/\zv [b] w (w.setCells b o vs)
 | [],o,w,V,h=>by
  refine ⟨?_,zv.refl _ _⟩
  show w.heap[b]?=_
  rw [h];congr 3;funext i;simp
 | v::vs,o,w,V,h=>by
  have h1:(w.setCell ⟨b,o,none⟩ v).heap[b]?=some (.cells (zK N (fun i=>if i=o then v else V i)) t (0,0)):=by
   rw [Yh h];congr 2;apply yM;intro i;rw [yP];by_cases hi:i<N
   ·rw [Qn hi,Qn hi]
    by_cases e:o=i
    ·subst e;rw [if_pos rfl,if_pos rfl,if_pos (by rw [ZT];exact hi)]
    ·rw [if_neg e,if_neg (fun q=>e q.symm)]
   ·rw [yo zaj,yo zaj]
    by_cases e:o=i
    ·subst e;rw [if_pos rfl,if_neg zaj]
    ·rw [if_neg e]
  obtain ⟨h2,h3⟩:=QA vs (o+1) (w.setCell ⟨b,o,none⟩ v) _ h1;refine ⟨?_,((zv.refl [b] w).setCell (.inl zaa) v).trans h3⟩
  show ((w.setCell ⟨b,o,none⟩ v).setCells b (o+1) vs).heap[b]?=_
  rw [h2];congr 3;funext i;by_cases e1:o+1<=i
  ·rw [if_pos e1,if_neg zo,if_pos zo,show i - o=(i - (o+1))+1 by omega,tA2]
  ·rw [if_neg e1]
   by_cases e2:i=o
   ·subst e2;rw [if_pos rfl,if_pos (xd _),Nat.sub_self];rfl
   ·rw [if_neg e2,if_neg zo]
theorem YE {U:Nat->Value} {t:TypeId} (h:w.heap[b]?=some (.cells (zK N V) t (0,0))) :
  (w.setCells b o (zK n U).toList).heap[b]?=some (.cells (zK N (laid V U o n)) t (0,0))/\zv [b] w (w.setCells b o (zK n U).toList):=by
 obtain ⟨h1,h2⟩:=QA (zK n U).toList o w V h;refine ⟨?_,h2⟩;rw [h1];congr 3;funext i;unfold laid;by_cases e1:o<=i
 ·rw [if_pos e1,yB]
  by_cases e2:i<o+n
  ·rw [if_pos ⟨e1,e2⟩,Qn zo];rfl
  ·rw [if_neg (fun q=>e2 q.2),yo zaj];rfl
 ·rw [if_neg e1,if_neg (fun q=>e1 q.1)]
theorem ik {t:TypeId} (h:w.heap[b]?=some (.cells (zK N V) t (0,0))) (Ea:o+n<=N):w.there b o n:=fun j hj =>
 ⟨by rw [zM h,Qn zo];rfl,xB h _⟩
theorem Q3 {i:Nat} {t:TypeId} (h:w.heap[b]?=some (.cells (zK N V) t (0,0))) (hi:i<N):w.cell? ⟨b,i,none⟩=some (V i):=(zM h _).trans (Qn hi)
theorem qG {a:Nat} {t:TypeId} (h:fn.results=#[.cell a t,.tmp b]) (ha:tmps.getD a undef = .pointer (some p)) (hl:(loadVar t p).run P w = .ok v w) :
  (results fn tmps).run P w = .ok (.tuple #[v,tmps.getD b undef]) w:=by
 have M7:tmps[a]?.getD undef = .pointer (some p):=by simpa using ha
 simp [results,h,M7,asAddr,hl,Sem.run_bind,Result.andThen]
theorem VU {a:Nat} {t:TypeId} (h:fn.results=#[.cell a t]) (ha:tmps.getD a undef = .pointer (some p)) (hl:(loadVar t p).run P w = .ok v w) :
  (results fn tmps).run P w = .ok v w:=by
 have M7:tmps[a]?.getD undef = .pointer (some p):=by simpa using ha
 simp [results,h,M7,asAddr,hl,Sem.run_bind,Result.andThen]
theorem OB {a c:Nat} {t:TypeId} (h:fn.results=#[.cell a t,.tmp b,.tmp c]) (ha:tmps.getD a undef = .pointer (some p)) (hl:(loadVar t p).run P w = .ok v w) :
  (results fn tmps).run P w = .ok (.tuple #[v,tmps.getD b undef,tmps.getD c undef]) w:=by
 have M7:tmps[a]?.getD undef = .pointer (some p):=by simpa using ha
 simp [results,h,M7,asAddr,hl,Sem.run_bind,Result.andThen]
section
variable {t T:TypeId} {b o n N:Nat} {V U:Nat->Value} {w:World} {a:Act}
theorem J5 (hb:w.heap[b]?=some (.cells (zK N V) T (0,0))) (Ea:o+n<=N) (hi:(P.info? t).map (·.size)=some n) (h1:∀ i,i<n->(U i).oneCell'=true) :
  (Instr.storeAt t (.pointer (some ⟨b,o,none⟩)) (.agg (zK n U))).run P w = .ok () (w.setCells b o (zK n U).toList) :=
 run_storeAt_mid w b o t (zK n U) (by rw [ZT];exact ik hb Ea) (by rw [hi,ZT]) (VS h1)
theorem JJ (hb:w.heap[b]?=some (.cells (zK N V) T (0,0))) (Ea:o+n<=N) (h1:∀ i,i<n->(U i).oneCell'=true) :
  (storeCells ⟨b,o,none⟩ (zK n U).toList).run P w = .ok () (w.setCells b o (zK n U).toList):=by
 have ht:=ik (n:=n) hb Ea
 have:=run_storeCells_cells (P:=P) b o (zK n U).toList 0 w (fun j hj=>by rw [Array.length_toList,ZT] at hj;simpa using (ht j hj).1) (fun j hj=>by rw [Array.length_toList,ZT] at hj;simpa using (ht j hj).2)
  (fun v hv=>(Array.all_eq_true_iff_forall_mem.1 (VS h1)) v (by simpa using hv))
 simpa using this
theorem xY (Eg:op.guard=none) (x y:Operand) (ho:op.op = .store t x y) (hx:a.eval x = .pointer (some ⟨b,o,none⟩)) (hy:a.eval y = .agg (zK n U))
  (hb:w.heap[b]?=some (.cells (zK N V) T (0,0))) (Ea:o+n<=N) (hi:(Tryz.prog.info? t).map (·.size)=some n) (h1:∀ i,i<n->(U i).oneCell'=true)
  (h:∀ w',w'.heap[b]?=some (.cells (zK N (laid V U o n)) T (0,0))->zv [b] w w'->wpList Tryz.prog ops Q rest (a.put op.dst undef) w'):wpList Tryz.prog ops Q (op::rest) a w:=by
 refine wpList_plain Eg fun K' Ii=>?_;unfold Oper.wp execOp;have hr:=J5 (P:=Tryz.prog) hb Ea hi h1;simp only [ho,hx,hy,Sem.run_bind,hr,Result.andThen_ok,Sem.run_pure];exact Ii _ _ (h _ (YE hb).1 (YE hb).2)
theorem J6 {F:Fence} {m:Nat} (Eg:op.guard=none) (x y:Operand) (ho:op.op = .store t x y) (hx:a.eval x = .pointer (some ⟨b,o,none⟩)) (hy:a.eval y = .agg (zK n U))
  (hb:w.heap[b]?=some (.cells (zK N V) T (0,0))) (Ea:o+n<=N) (hi:(Tryz.prog.info? t).map (·.size)=some n) (h1:∀ i,i<n->(U i).oneCell'=true)
  (h:∀ w',w'.heap[b]?=some (.cells (zK N (laid V U o n)) T (0,0))->zv [b] w w'->wpListIn F m Tryz.prog ops Q rest (a.put op.dst undef) w'):wpListIn F m Tryz.prog ops Q (op::rest) a w:=by
 refine wpListIn_plain Eg fun K' Ii=>?_;have hr:=J5 (P:=Tryz.prog) hb Ea hi h1;unfold Oper.wpIn;refine ⟨?_,?_⟩
 ·simp [Oper.about,ho]
 ·rw [Oper.semAt_plain F _ _ (by rw [ho];intro c G7;cases G7)]
  unfold execOp;simp only [ho,hx,hy,Sem.run_bind,hr,Result.andThen,Sem.run_pure];exact Ii _ _ (h _ (YE hb).1 (YE hb).2)
end
end Go.Proofs.YtegpiomkmfhadaaGreat
