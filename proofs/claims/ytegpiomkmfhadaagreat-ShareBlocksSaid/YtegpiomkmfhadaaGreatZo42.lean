/- Layer 16 in plain words: a base of some -/
import Derived.Test.YtegpiomkmfhadaaGreatZo41
import Derived.OpenShut
import Derived.Deep.SlicePairs
import Derived.ProofKit
import Derived.ChangeArms
import Derived.Lib.SmallJoins
set_option linter.all false
set_option maxRecDepth 100000
set_option maxHeartbeats 20000000
namespace Go.Proofs.YtegpiomkmfhadaaGreat
open Go.RowKit
variable {w w' W:World} {m x z N r b n i:Nat} {items its:zL} {B' B:Bs} {B6 ht:Ht} {DL R R' A l:List Nat} {v:Value}
structure VN (N:Nat) (B:Bs) (ht:Ht) (R:List Nat) (it:Nat->List (Nat × Nat)) (o:zF):Prop where
 gr:Gr N 1 B ht (fun b=>xG R b+o b)
 hM:16<=N/\N<=4096
 low:∀ n c,ht n=some c->c<8
 fsh:tJ B
 top:∀ r,r∈R->∃ Cb,Xl B ht r Cb (it r)
 oth:∀ b,2<=b->1<=o b->b<N/\B.live b=true/\ht b=none/\xq B ht N b=0
 len:R.length<=1000
 big:∀ b,o b<=1000
def pY:Nat->Nat:=fun _=>0
section
variable {N:Nat} {B:Bs} {ht:Ht} {R:List Nat} {it:Nat->List (Nat × Nat)} {o:Nat->Nat}
theorem wm.fst {M:Bm} {vi:Value} (hN:16<=N/\N<=4096) (G:wm w N m M x B vi items w') (hm:m<=1000):∃ ht,VN N B ht [x] (fun _=>items) pY:=by
 have good:qy N 1 B:=by
  by_cases h:x=0
  ·exact (G.nil h).2.good
  ·obtain ⟨ht,r⟩:=G.rts h;exact r.gr.good
 have fsh:tJ B:=(vR hN).kk G.kk (by rw [good.n,(Vw hN).1.n]);by_cases h:x=0
 ·obtain ⟨e,g⟩:=G.nil h
  subst h;refine ⟨jI,g.pendc fun b h2 _=>?_,hN,fun n c h=>(by cases h),fsh,fun r hr=>?_,fun b _ h=>absurd h (by unfold pY;omega),zaa,fun b=>by unfold pY;omega⟩
  ·show xG [0] b+pY b=0
   unfold xG pY;rw [List.count_cons_of_ne zo];rfl
  ·rw [zms] at hr
   exact ⟨0,.inl ⟨hr,rfl,e⟩⟩
 ·obtain ⟨ht,r⟩:=G.rts h
  refine ⟨ht,r.gr.pendc fun b h2 _=>rfl,hN,r.low,fsh,fun q hq=>?_,fun b _ h=>absurd h (by unfold pY;omega),zaa,fun b=>by unfold pY;omega⟩;obtain ⟨c,hc,T⟩:=r.top q hq;have t:A9 B ht q c items:=⟨hc,T.right,T.all⟩;exact ⟨c+1,.inr ⟨c,rfl,t.h7 good.ok (zq G.len),t⟩⟩
theorem VN.lt (h:VN N B ht R it o) {r:Nat} (hr:r∈R):r<N/\(r≠0->B.live r=true/\∃ c,ht r=some c/\∃ d,B.nodeI (r:Int)=some d):=by
 obtain ⟨Cb,t⟩:=h.top r hr;rcases t with ⟨rfl,-⟩ | ⟨c,-,-,t⟩
 ·exact ⟨by have:=h.hM;omega,fun q=>absurd rfl q⟩
 ·obtain ⟨a,b⟩:=h.gr.lt t.top
  obtain ⟨_,_,d,hd,_⟩:=h.gr.node r c t.top;exact ⟨a,fun _=>⟨b,c,t.top,d,hd⟩⟩
theorem VN.copy (h:VN N B ht R it o) (hl:R.length<=900) (hx:x∈R) (h0:x≠0):B.upE (x:Int)=0/\VN N (B.up (x:Int)) ht (R++[x]) it o/\(B.up (x:Int)).room=B.room/\(∀ b,(B.up (x:Int)).T.now b=if b=x then B.T.now x+1 else B.T.now b)/\∀ n:Nat,(B.up (x:Int)).nodeI (n:Int)=B.nodeI (n:Int):=by
 obtain ⟨hN,hq⟩:=h.lt hx;obtain ⟨DD,c,hc,_⟩:=hq h0;have h2:=h.gr.two DD hN;have:=h.gr.now_le h2 hN DD;have:=QT R x;have:=h.big x;have hM:=h.hM;obtain ⟨u1,u2,u3,u4,u5,u6,u7⟩:=h.gr.up hN DD zo
 have g:Gr N 1 (B.up (x:Int)) ht (fun b=>xG (R++[x]) b+o b):=u2.pendc fun b _ _=>by
  rw [<- YS];unfold xA
  split <;> omega
 have EW:∀ b,xq (B.up (x:Int)) ht N b=xq B ht N b:=fun b=>qq fun n _=>by unfold zN;rw [u3]
 refine ⟨u1,⟨g,h.hM,h.low,h.fsh.kk (KK.up _ _) (by rw [g.good.n,h.gr.good.n]),fun r hr=>?_,fun b h2 hb=>?_,by rw [ym,yZ];omega,h.big⟩,u6,u5,u3⟩
 ·have DA:r∈R:=by
   rcases yx.1 hr with q | q
   ·exact q
   ·rw [zms] at q;rw [q];exact hx
  obtain ⟨Cb,t⟩:=h.top r DA;refine ⟨Cb,?_⟩;rcases t with t | ⟨k,e,k7,t⟩
  ·exact .inl t
  ·have s:=h.gr.tree (B':=B.up (x:Int)) (by rw [g.good.n,h.gr.good.n]) h.gr.refs_one (fun n _ _=>u3 n) t.top (h.gr.ne1 t.top)
   rw [yS zo] at s;exact .inr ⟨k,e,k7,t.top,(s.1 _ _ _).trans t.right,s.2.trans t.all⟩
 ·obtain ⟨a1,a2,a3,a4⟩:=h.oth b h2 hb
  exact ⟨a1,by rw [u4];exact a2,a3,by rw [EW];exact a4⟩
theorem VN.copy0 (h:VN N B ht R it o) (hl:R.length<=900) (h0:it 0=[]):VN N B ht (R++[0]) it o :=
 ⟨h.gr.pendc fun b h2 _=>by
  show xG (R++[0]) b+o b=xG R b+o b
  rw [<- YS];unfold xA;rw [if_neg zo]
  rfl,h.hM,h.low,h.fsh,fun r hr=>by
  rcases yx.1 hr with q | q
  ·exact h.top r q
  ·rw [zms] at q
   rw [q];exact ⟨0,.inl ⟨rfl,rfl,h0⟩⟩,h.oth,by rw [ym,yZ];omega,h.big⟩
def JF (it:Nat->List (Nat × Nat)) (z:Nat) (its:zL):Nat->List (Nat × Nat):=fun r=>if r=z then its else it r
theorem VN.turn {Cw:Nat} (h:VN N B ht (R++[x]) it o) (g:Gr N 1 B' B6 (Xm (xt (fun b=>xG (R++[x]) b+o b) x) z)) (t:Xl B' B6 z Cw its) (kp:JY N B ht B' B6 (xt (fun b=>xG (R++[x]) b+o b) x)):VN N B' B6 (R++[z]) (JF it z its) o:=by
 have el:∀ b,xt (fun b=>xG (R++[x]) b+o b) x b=xG R b+o b:=fun b=>by
  have e:xG (R++[x]) b=xG R b+if b=x then 1 else 0:=by rw [<- YS];rfl
  show (xG (R++[x]) b+o b) - (if b=x then 1 else 0)=_
  rw [e]
  split <;> omega
 have hn:B'.T.n=B.T.n:=by rw [g.good.n,h.gr.good.n]
 refine ⟨g.pendc fun b h2 _=>?_,h.hM,fun n c hc=>?_,h.fsh.kk kp.kk hn,fun r hr=>?_,fun b h2 hb=>?_,by have:=h.len;rw [ym,yZ] at this ⊢;exact this,h.big⟩
 ·refine Eq.symm ?_
  have e2:xG (R++[z]) b=xA (xG R) z b:=by rw [<- YS]
  show _=xG (R++[z]) b+o b
  rw [e2];unfold Xm;by_cases e:z=0
  ·rw [if_pos e,el]
   unfold xA;rw [if_neg zo];rfl
  ·rw [if_neg e]
   unfold xA;rw [el];omega
 ·obtain ⟨m,hm⟩:=kp.sub n c hc
  exact h.low m c hm
 ·unfold JF
  by_cases e:r=z
  ·rw [if_pos e,e];exact ⟨Cw,t⟩
  ·rw [if_neg e]
   have DA:r∈R:=by
    rcases yx.1 hr with q | q
    ·exact q
    ·rw [zms] at q;exact absurd q e
   obtain ⟨Cb,u⟩:=h.top r (zal _ DA);exact ⟨Cb,u.kpt kp (fun _=>by rw [el];have:=Je DA;omega) h.gr.none0⟩
 ·obtain ⟨a1,a2,a3,a4⟩:=h.oth b h2 hb
  obtain ⟨b1,b2,b3,b4,b5⟩:=kp.lone b a1 a2 a3 a4 (by rw [el];omega);exact ⟨a1,b2,b1,b5⟩
theorem VN.room (h:VN N B ht R it pY) (hi:∀ r,r∈R->(it r).length<=2*m/\∀ p,p∈it r->p.2=0∨p.2∈DL):(N:Int) - 2 - 2*(qu N:Int) - (R.length*m+DL.length:Nat)<=B.room:=by
 have:∀ b,xG R b+pY b=xG R b:=fun b=>rfl;refine h.gr.room_ge h.fsh (R:=R) (DL:=DL) (fun n _ hp=>?_) h.low (fun b h2 hp hb=>?_) fun r hr k hk=>?_
 ·have hp:1<=xG R n:=hp
  exact List.count_pos_iff.1 hp
 ·have hp:1<=xG R b:=hp
  have hm:b∈R:=List.count_pos_iff.1 hp;obtain ⟨_,q⟩:=h.lt hm;obtain ⟨_,c,hc,_⟩:=q zo;rw [hb] at hc;cases hc
 ·obtain ⟨Cb,t⟩:=h.top r hr
  rcases t with ⟨e,-⟩ | ⟨c,-,c7,t⟩
  ·rw [e,h.gr.none0] at hk;cases hk
  ·obtain rfl:k=c:=yj (hk.symm.trans t.top)
   rw [t.all];exact ⟨t.right,hi r hr⟩
theorem Xl.high3 {Cb:Nat} (t:Xl B ht x Cb items) (ok:B.Ok) (hl:items.length<=161):Cb<=4:=by
 rcases t with ⟨-,rfl,-⟩ | ⟨c,rfl,c7,t⟩
 ·omega
 ·by_cases h:4<=c
  ·exfalso
   have hm:=JX ok t.right;rw [t.all,if_neg zo] at hm;have:3 ^ 4<=3 ^ c:=Nat.pow_le_pow_right zo h;omega
  ·omega
end
theorem Xl.det {G:Nat} {BR:zF} {h1 h2:Nat} {a b:zL} (t:Xl B ht x h1 a) (u:Xl B ht x h2 b) (g:Gr N G B ht BR):a=b:=by
 rcases t with ⟨e,-,rfl⟩ | ⟨c,-,c7,t⟩
 ·rcases u with ⟨-,-,rfl⟩ | ⟨d,-,d7,u⟩
  ·rfl
  ·have:=u.top;rw [e,g.none0] at this;cases this
 ·rcases u with ⟨e,-,rfl⟩ | ⟨d,-,d7,u⟩
  ·have:=t.top;rw [e,g.none0] at this;cases this
  ·obtain rfl:c=d:=yj (t.top.symm.trans u.top)
   exact t.all.symm.trans u.all
theorem VN.kept {it:Nat->List (Nat × Nat)} {o:zF} (h:VN N B ht (R++[x]) it o) (h':VN N B' B6 R' (JF it z its) o) (kp:JY N B ht B' B6 (xt (fun b=>xG (R++[x]) b+o b) x)) (hr:r∈R) (DA:r∈R'):JF it z its r=it r:=by
 obtain ⟨Cb,t⟩:=h.top r (zal _ hr);obtain ⟨Cw,t'⟩:=h'.top r DA;refine t'.det (t.kpt kp (fun _=>?_) h.gr.none0) h'.gr
 show 1<=xt (fun b=>xG (R++[x]) b+o b) x r
 have:=Je hr;have e:xG (R++[x]) r=xG R r+if r=x then 1 else 0:=by rw [<- YS];rfl
 unfold xt;simp only [e]
 split <;> omega
section
variable {N:Nat} {B:Bs} {ht:Ht} {R:List Nat} {it:Nat->List (Nat × Nat)} {o:Nat->Nat} {w:World} {M:Bm} {F:List Nat}
theorem fH (hb:zx w M F B) (hF:∀ q,q∈F->q<w.heap.size) (h:VN N B ht R it o) (hl:R.length<=900) (hx:x∈R) :
  zC 11 #[zP M.b,.int .i64 (x:Int)] w fun e w'=>e = .returned (.tuple #[.int .i64 (x:Int),.int .i64 0])/\∃ B',zx w' M F B'/\VN N B' ht (R++[x]) it o/\zv M.L w w'/\B'.room=B.room/\(x≠0->B'.T.now x=B.T.now x+1)/\∀ n:Nat,B'.nodeI (n:Int)=B.nodeI (n:Int):=by
 have hn:16<=B.T.n:=by rw [h.gr.good.n];exact h.hM.1
 by_cases h0:x=0
 ·subst h0
  have e0:it 0=[]:=by
   obtain ⟨Cb,t⟩:=h.top 0 hx;rcases t with ⟨-,-,e⟩ | ⟨c,-,-,t⟩
   ·exact e
   ·have:=t.top;rw [h.gr.none0] at this;cases this
  refine zm (jR hb hn) ?_;exact ⟨rfl,B,hb,h.copy0 hl e0,zv.refl _ _,rfl,fun q=>absurd rfl q,fun n=>rfl⟩
 ·obtain ⟨_,q⟩:=h.lt hx
  obtain ⟨_,_,_,d,hd⟩:=q h0;obtain ⟨u1,u2,u3,u4,u5⟩:=h.copy hl hx h0;refine (pC hb hF hn hd u1 h0).mono ?_;rintro e w' ⟨rfl,b1,b2⟩;exact ⟨rfl,_,b1,u2,b2,u3,fun _=>by rw [u4,if_pos rfl],u5⟩
def nM (w:World) (M:Bm) (F:List Nat) (N:Nat) (B:Bs) (ht:Ht) (R:List Nat) (it:Nat->List (Nat × Nat)) (o:zF) (x lo hi:Nat) (e:Ending) (w':World):Prop :=
 ∃ (z:Nat) (B':Bs) (B6:Ht),e = .returned (.tuple #[.int .i64 (z:Int),.int .i64 (((it x).filter (Xn lo hi)).length:Int),.int .i64 0])/\zx w' M F B'/\VN N B' B6 (R++[z]) (JF it z ((it x).filter fun p => !Xn lo hi p)) o/\zv M.L w w'/\((it x).filter (Xn lo hi)=[]->z=x/\B'=B)/\JY N B ht B' B6 (xt (fun b=>xG (R++[x]) b+o b) x)/\∀ r,r∈R->JF it z ((it x).filter fun p => !Xn lo hi p) r=it r
theorem cX (hb:zx w M F B) (hF:∀ q,q∈F->q<w.heap.size) (h:VN N B ht (R++[x]) it pY) {lo hi bx:Nat} (ED:lo<18446744073709551616) (FH:hi<18446744073709551616) (NM:OT w M bx)
  (hi':∀ r,r∈R++[x]->(it r).length<=2*m/\∀ p,p∈it r->p.2=0∨p.2∈DL) (hm:m<=80) (D7:((R.length+1)*m+DL.length:Nat)+(2*(qu N:Int)+12)<=(N:Int)) :
  zC 13 #[zP M.b,.int .i64 (x:Int),.int .u64 (lo:Int),.int .u64 (hi:Int),vG bx] w (nM w M F N B ht R it pY x lo hi):=by
 have hx:x∈R++[x]:=zar _ (List.mem_singleton.2 rfl);obtain ⟨Cb,t⟩:=h.top x hx;refine (ud hb hF h.gr h.hM.2 (fun b=>by have h1:=QT (R++[x]) b;have h2:=h.len;have h3:=h.big b;omega) t (fun _=>by have h1:=Je hx;show 1<=xG (R++[x]) x+pY x;omega) ED FH (zq ((hi' x hx).1)) NM).mono ?_;rintro e w' ⟨z,many,e0,B',B6,Cw,its,gone,rfl,LA,C,rfl,hc,hE⟩;have hT:=h.turn C.gr C.tr C.kp;rcases hE with ⟨rfl,Ep⟩ | ⟨-,-,hr⟩
 ·obtain ⟨e1,e2⟩:=C.all Ep
  subst e1;subst e2;exact ⟨z,B',B6,rfl,LA,hT,hc,C.still,C.kp,fun r hr=>h.kept hT C.kp hr (zal _ hr)⟩
 ·exfalso
  have SF:its.length<=2*m:=by
   have h1:=(hi' x hx).1;have h2:=congrArg List.length C.oro;have h3:=congrArg List.length C.in_;rw [ym] at h3
   have:(its.filter (Xn lo hi)).length+(its.filter fun p => !Xn lo hi p).length=its.length:=by
    clear hT C h2 h3
    induction its with
    | nil=>rfl
    | cons a r ih=>rw [List.filter_cons,List.filter_cons,yu];cases Xn lo hi a <;> simp <;> omega
   have:((it x).filter (Xn lo hi)).length+((it x).filter fun p => !Xn lo hi p).length=(it x).length:=by
    generalize it x=l
    induction l with
    | nil=>rfl
    | cons a r ih=>rw [List.filter_cons,List.filter_cons,yu];cases Xn lo hi a <;> simp <;> omega
   omega
  have Er:=hT.room (DL:=DL) (m:=m) fun r hr=>by
   unfold JF;by_cases e:r=z
   ·rw [if_pos e]
    exact ⟨SF,fun p hp=>(hi' x hx).2 p (C.sub p hp)⟩
   ·rw [if_neg e]
    refine hi' r ?_;rcases yx.1 hr with q | q
    ·exact zal _ q
    ·rw [zms] at q;exact absurd q e
  have:=C.tr.high3 C.gr.good.ok zo;rw [ym,yZ] at Er;omega
theorem fI {K:Nat} (hK:Bc K) (hb:zx w M F B) (h:VN N B ht R it o) {y:Nat} (hx:x∈R) (hy:y∈R) (hF:kd K fun k=>YT (it x) k≠YT (it y) k) :
  zC 16 #[zP M.b,.int .i64 (x:Int),.int .i64 (y:Int)] w (nK w (it x) (it y)):=by
 obtain ⟨h1,t⟩:=h.top x hx;obtain ⟨h2,u⟩:=h.top y hy;exact pP hK hF hb ⟨h.gr,h.hM,h.low,t,u⟩
theorem ZE (hb:zx w M F B) (h:VN N B ht R it o) {S:List Nat} (hS:∀ r,r∈S->r=0∨r∈R) (hl:S.length<=1000) (hv:Y9 w v S) :
  zC 12 #[zP M.b,v] w fun e w'=>∃ u,e = .returned (.tuple #[u,.int .i64 0])/\w'.ownsRow w.heap.size 3 1 u (xm (nodesB B ht S) N).length (xC (xm (nodesB B ht S) N))/\zv [] w w' :=
 jW hb ⟨h.gr,h.hM,h.low,fun r hr=>by
  rcases hS r hr with e | e
  ·exact .inl e
  ·obtain ⟨Cb,t⟩:=h.top r e
   exact t.root,hl⟩ hv
theorem gO (hb:zx w M F B) (h:VN N B ht R it o) {vo:Value} (hv:Y9 w v R)
  (hO:∀ w',zv [] w w'->∀ b:Nat,b<N->(Instr.lookup 39 vo (.int .i64 (b:Int)) false).run Tryz.prog w' = .ok (.int .i64 (o b:Int)) w') (h0:o 0=0/\o 1=0) :
  zC 24 #[zP M.b,v,vo] w fun e w'=>e = .returned (.bool true)/\zv [] w w':=by
 have hM:=h.hM;refine l9 (oth:=fun b=>(o b:Int)) hb ⟨h.gr,zo,fun r hr=>?_,fun n hs hp=>?_,fun n c hn=>?_,fun k c hk hc=>?_,fun b _ _=>?_,by simp [h0],fun b _=>?_,h.len⟩ hv hO
 ·obtain ⟨Cb,t⟩:=h.top r hr
  rcases t with ⟨e,-⟩ | ⟨c,-,c7,t⟩
  ·exact .inl e
  ·exact .inr ⟨c,t.top,zo⟩
 ·obtain ⟨c,hc⟩:=yR.1 hs
  by_cases e:1<=xG R n
  ·exact List.count_pos_iff.1 e
  ·exfalso
   have hp:1<=xG R n+o n:=hp;have:=(h.oth n (h.gr.two (h.gr.lt hc).2 (h.gr.lt hc).1) zo).2.2.1;rw [hc] at this;cases this
 ·have:=h.low n c hn;omega
 ·have:=h.low k c hk;omega
 ·show (xG R b:Int)+(o b:Int)=((xG R b+o b:Nat):Int)
  omega
 ·have:=h.big b;omega
end
def cY (A:List Nat) (w:World) (v:Value) (l:List Nat):Prop:=∃ p c,v = .slice p l.length c/\∀ i,i<l.length->∃ g o,p=some ⟨g,o,none⟩/\g<w.heap.size/\g∉A/\w.cell? ⟨g,o+i,none⟩=some (.int .u64 ((l.getD i 0:Nat):Int))
theorem cY.chg {L:List Nat} (h:cY A w v l) (c:zv L w w') (hL:∀ q,q∈L->q∈A∨w.heap.size<=q:=by simp):cY A w' v l:=by
 obtain ⟨p,k,e,h1⟩:=h;refine ⟨p,k,e,fun i hi=>?_⟩;obtain ⟨g,o,e1,e2,e3,e4⟩:=h1 i hi;exact ⟨g,o,e1,qe e2 c.size,e3,(c.cell e2 (fun hm=>by rcases hL g hm with q | q;exact e3 q;omega)).trans e4⟩
theorem VM.keyS (h:VM w b v l) (hA:∀ q,q∈A->q<b):cY A w v l:=by
 rcases h with ⟨rfl,rfl⟩ | ⟨h1,g,c,rfl,h3,h4,h5⟩
 ·exact ⟨none,0,rfl,fun i hi=>by simp at hi⟩
 ·refine ⟨_,c,rfl,fun i hi=>⟨g,0,rfl,h5.lt,fun hm=>by have:=hA g hm;omega,?_⟩⟩
  rw [yn,h5.cell hi,cU l i hi];congr 2;rw [zgD,yt hi];simp [hi]
theorem cY.get {p:Option Addr} {c:Nat} (h:cY A w (.slice p n c) l) (hi:i<l.length):∃ g o,p=some ⟨g,o,none⟩/\g<w.heap.size/\w.cell? ⟨g,o+i,none⟩=some (.int .u64 ((l.getD i 0:Nat):Int)):=by
 obtain ⟨p',c',e,h⟩:=h;injection e with e1 e2 e3;subst e1;obtain ⟨g,o,a,b,_,d⟩:=h i hi;exact ⟨g,o,a,b,d⟩
theorem cY.len (h:cY A w v l):∃ p c,v = .slice p l.length c:=by
 obtain ⟨p,c,e,_⟩:=h;exact ⟨p,c,e⟩
theorem kh {A':List Nat} {u:Value} (h:cY A w v l) (k:cY A' w u l) (hl:l.length<=1000000) :
  zC 21 #[v,u] w fun e w'=>e = .returned (.bool true)/\zv [] w w':=by
 have h':=h;have k':=k;obtain ⟨p,c,rfl,_⟩:=h';obtain ⟨q,d,rfl,_⟩:=k';have H:=zh (zA h k);obtain ⟨n,hn⟩:=zE l.length;rw [<- hn] at hl H ⊢;have HN:=zh hn;clear h k hn;go_enter Tryz.func21,Tryz.ntmps21;go_wp2_with fail
 go_loopw [13] (fun s wr=>∃ i:Nat,s = .int .i64 (i:Int)/\i<=n/\zv [] w wr) (fun s _=>n - (intOf s).toNat)
 case atStart=>exact ⟨0,rfl,yg _,zv.refl _ _⟩
 case round =>
  obtain ⟨i,rfl,hi,hC⟩:=hrel;have HC:=zh hC;have H1:=H.1.chg hC;have H2:=H.2.chg hC;clear hC;by_cases SF:i<n
  ·obtain ⟨b,o,rfl,hb,c0⟩:=H1.get (i:=i) (by rw [<- HN.o];exact SF)
   obtain ⟨b',o',rfl,LA,d0⟩:=H2.get (i:=i) (by rw [<- HN.o];exact SF);obtain ⟨x,hx⟩:=zE (l.getD i 0);rw [<- hx] at c0 d0;have i1:(i:Int)<(n:Int):=zo;clear hx H1 H2;go_wp2_with fail
   go_region
   all_goals
    go_wp2_with fail
    go_roundw
    case rel=>exact ⟨i+1,zac,zo,HC.drew⟩
    case measure=>simp [intOf];omega
  ·have i1:¬ (i:Int)<(n:Int):=zo
   clear H1 H2;go_wp2_with fail;go_ret;exact ⟨rfl,HC⟩
def dB (i:Nat):List (Nat × Nat):=(List.range i).map fun j=>(j+1,j+1)
theorem pS (i:Nat):dB (i+1)=dB i++[(i+1,i+1)]:=by unfold dB;rw [zn,List.map_append];rfl
theorem km (i:Nat):(dB i).length=i:=by unfold dB;rw [yX,List.length_range]
def dC (l:zL):List Value:=l.flatMap fun p=>[.int .u64 (p.1:Int),.int .u8 (p.2:Int)]
theorem uh (l m:zL):dC (l++m)=dC l++dC m:=zi
theorem kq:∀ (l:zL) (i:Nat),i<l.length->(dC l)[i*2]?=some (.int .u64 ((l.getD i (0,0)).1:Int))/\(dC l)[i*2+1]?=some (.int .u8 ((l.getD i (0,0)).2:Int))
 | [],i,h=>by simp at h
 | p::r,0,_=>⟨rfl,rfl⟩
 | p::r,i+1,h=>by
  have:=kq r i (by simpa using h);have e:dC (p::r) = zU p.1 :: .int .u8 (p.2:Int)::dC r:=rfl;rw [e,show (i+1)*2=i*2+1+1 by omega,show i*2+1+1+1=(i*2+1)+1+1 by omega,tA2,tA2,tA2,tA2,List.getD_cons_succ];exact this
theorem XG.of_own {base:Nat} {l:zL} (h:w.ownsRow base 95 2 v l.length (dC l)) (hu:∀ p,p∈l->p.1<18446744073709551616/\p.2<256) (hl:0<l.length):XG [] w v l:=by
 obtain ⟨g,c,rfl,h1,h2,h3,h4,h5⟩:=aE h hl;refine ⟨⟨_,c,rfl,h1,h2,fun _=>⟨g,0,rfl,h4,zaa,fun i hi=>?_⟩⟩,hu⟩;have:=kq l i hi;rw [yn];exact ⟨(h5 _ zo).trans this.1,(h5 _ zo).trans this.2⟩
theorem ml:(Tryz.prog.info? 95).map (fun i=>(i.zero,i.size,i.bytes))=some (some (.agg #[.int .u64 0,.int .u8 0]),2,16):=zab
theorem pT:(Yg (qT ((dB 20).take 20))).map Prod.fst=[1,2,3,4,5,6,7,8,9,10,11,12,13,14,15,16,17,18,19,20]:=zab
theorem pU (l:zL) (lo hi:Nat):(l.filter (Xn lo hi)).map Prod.fst=(l.map Prod.fst).filter fun k=>decide (lo<=k)&&decide (k<=hi):=by
 rw [List.filter_map];rfl
theorem mn (w:World):zC 10 #[] w fun e w'=>e = .returned (.bool true)/\zv [] w w':=by
 go_enter Tryz.func10,Tryz.ntmps10;go_upto_region 3 with fail;go_loopg [1,2] 20 (fun gg s1 s2 wr=>∃ i:Nat,gg=20 - i/\i<=20/\s2 = .int .u64 ((i+1:Nat):Int)/\Hd (wr.ownsRow w.heap.size 95 2 s1 i (dC (dB i))/\zv [] w wr))
 case atStart=>exact ⟨0,rfl,yg _,rfl,zh ⟨yO _ _ _ _,zv.refl _ _⟩⟩
 case round =>
  obtain ⟨i,Dw,hi,rfl,HX⟩:=hrel;have FK:=zh Dw;clear Dw;obtain ⟨ua,uc,rfl,u1,u2⟩:=XI HX.1;obtain ⟨k,hk⟩:=zE (i+1);rw [<- hk];by_cases Cm:i<20
  ·have i1:(k:Int)<=20:=zo
   have e1:IntKind.u8.wrap (k:Int)=(k:Int):=IntWalk.u8_in _ zo;have FY:=xo wr (.cells #[.int .u64 (k:Int),.int .u8 (k:Int)] 95);have Cd:=(zv.refl [] wr).alloc (.cells #[.int .u64 (k:Int),.int .u8 (k:Int)] 95);have H4:=zh (zA (Xg HX.1 Cd zaa) (zA FY (zA (HX.2.trans Cd) (qh HX.2.size Cd.size))));have HK:=zh hk;clear FY Cd hk;go_wp2_with (at_builtin;refine x9 rfl _ _ 22 rfl rfl (base:=w.heap.size) (size:=2) (n:=i) (m:=1) (xs:=dC (dB i)) (news:=[.int .u64 (k:Int),.int .u8 (k:Int)]) Tryz.underlying22 ml rfl zo zo rfl rfl H4.1 (xQ.blk H4.2.1 rfl (fun u hu=>by simp at hu;rcases hu with rfl | rfl <;> rfl)) zo H4.2.2.2 ?_;intro v' w5 Cf Dd Ec;have H5:=zh (zA Cf (zA Dd Ec));clear Cf Dd Ec);have hk:=HK.o;go_roundg (20 - (i+1))
   case measure=>have:=FK.o;omega
   case rel =>
    refine ⟨i+1,rfl,Cm,by have:=HK.o;go_num,zh ⟨?_,H4.2.2.1.grown H5.2.1 (fun z hz => .inr (H4.1.lt z hz).1)⟩⟩;rw [pS,uh];have:=H5.1;rw [HK.o] at this;exact this
  ·obtain rfl:i=20:=zo
   have i1:¬ (k:Int)<=20:=zo;have BT:=HX.1
   have DN:XG [] wr (.slice ua 20 uc) (dB 20):=XG.of_own (by rw [km];exact BT) (fun p hp=>by
    unfold dB at hp;obtain ⟨j,hj,rfl⟩:=yw.1 hp;have:=ye.1 hj;simp only;omega) (by rw [km];omega)
   have cg:=kf (N:=200) (m:=20) zo DN zo (by rw [js zo];decide) (k:=20) zo zo;rw [show (((200:Nat)):Int)=200 from rfl] at cg;have CG:=zh cg;have HC:=zh HX.2;clear DN cg BT HX hk;go_wp2_with fail;refine CG.mono ?_;clear CG;rintro e w2 ⟨M,x,B,vi,items,rfl,G,EC⟩;rw [pT] at EC;obtain ⟨ht,h0⟩:=G.fst zo zo;have LM:x≠0:=fun e=>by have:=(G.nil e).1;rw [this] at EC;cases EC
   have B9:items.length=20:=by have:=congrArg List.length EC;simpa using this
   have DX:B.T.now x=1:=by
    have h1:=(Bs.isI_iff (G.own LM)).2.2.2.1;rw [h0.gr.getV (h0.lt zaa).1] at h1;omega
   have Il:=G.asc;have hgf:=G.far;have cc:=fH (F:=[]) G.base zaa h0 zaa (x:=x) zaa;obtain ⟨va,vc,rfl,_,_⟩:=G.its.len;have CC:=zh cc;have HG:=zh (zA (HC.trans G.chg) (zA EC (zA B9 (zA DX (zA Il (fun q hq=>qh HC.size (hgf q hq):∀ q,q∈M.L->w.heap.size<=q))))));have U5:=(h0.lt (r:=x) zaa).1;clear cc G h0 EC B9 DX Il hgf;go_wp2_with fail;refine CC.mono ?_;clear CC;rintro e w3 ⟨rfl,B1,al,h1,c1,Fj,Iz,hnd1⟩
   have CD:=zh (fI wT al h1 (x:=x) (y:=x) zaa zaa (.inr fun ss _ hm=>by
    cases ss with
    | nil=>exact yg _
    | cons k _=>exact absurd rfl ((hm k).1 zaa)))
   have Fs:zv [] w w3:=HG.1.then c1 (fun q hq => .inr (HG.2.2.2.2.2 q hq))
   have G9:getV B1.T (x:Int)=2:=by
    rw [h1.gr.getV U5,Iz LM,HG.2.2.2.1];rfl
   have H1:=zh (zA al (zA h1 (zA Fs G9)));clear al h1 c1 Fj Iz hnd1 Fs G9;go_wp2_with fail;refine CD.mono ?_;clear CD;rintro e w4 ⟨v,l,rfl,hdi,Gt,N7,c4⟩;obtain rfl:=hdi.self
   obtain rfl:v = .slice none 0 0:=by
    rcases N7 with ⟨_,h⟩ | ⟨h,_⟩
    ·exact h
    ·exact absurd rfl h
   have cn:=(H1.1.chg c4).cCount (x:Int);rw [H1.2.2.2] at cn;have CN:=zh cn;have H4:=zh c4;have GW:((x:Int)==(x:Int))=true:=beq_self_eq_true _;clear hdi Gt N7 c4 cn;go_wp2_with fail;refine CN.mono ?_;clear CN;rintro e w' ⟨rfl,rfl⟩;have CL:=zh (bT w4 M (fun q hq=>qe (H1.1.ltL hq) H4.size));go_wp2_with fail;refine CL.mono ?_;clear CL;rintro e w5 ⟨bx,rfl,Cx,c5⟩;have P6:(items.filter (Xn 5 9)).map Prod.fst=[5,6,7,8,9]:=by rw [pU,HG.2.1];rfl
   have hk5l:(items.filter (Xn 5 9)).length=5:=by have:=congrArg List.length P6;simpa using this
   have Tk:qu 200=5:=zaf;have DE:∀ l:List (Nat × Nat),(∀ p,p∈l->p∈items)->∀ p,p∈l->p.2=0∨p.2∈items.map Prod.snd:=fun l hl p hp => .inr (List.mem_map_of_mem (hl p hp))
   have cc:=cX (DL:=items.map Prod.snd) (m:=10) (lo:=5) (hi:=9) (((H1.1.chg H4)).chg c5) zaa (R:=[x]) (x:=x) H1.2.1 zo zo Cx (fun r _=>⟨by rw [HG.2.2.1];omega,DE items fun p h=>h⟩) zo (by
    rw [Tk,yX,HG.2.2.1];simp)
   unfold nM at cc;rw [hk5l,show (((5:Nat)):Int)=5 from rfl,show (((9:Nat)):Int)=9 from rfl] at cc;have CC:=zh cc;have H5:=zh (zA ((H1.2.2.1.trans H4).trans c5) (zA P6 (zA Tk DE)));clear cc c5 Cx P6 hk5l Tk DE;go_wp2_with fail;refine CC.mono ?_;clear CC;rintro e w6 ⟨z,B2,Cg,rfl,FD,h2,c6,-,kp2,Cy⟩;have SI:=Cy x zaa;have NZ:JF (fun _=>items) z (items.filter fun p => !Xn 5 9 p) z=items.filter fun p => !Xn 5 9 p:=if_pos rfl;have cd:=fI wT FD h2 (x:=x) (y:=z) zaa zaa (by rw [SI,NZ];exact .of (ZL.cut HG.2.2.2.2.1 5 9) (by rw [H5.2.1];decide));rw [SI,NZ] at cd;have hzN:=(h2.lt (r:=z) zaa).1;have CD:=zh cd;have H6:=zh (zA FD (zA h2 (zA (H5.1.then c6 (fun q hq => .inr (HG.2.2.2.2.2 q hq))) NZ)));clear cd FD h2 c6 kp2 Cy SI NZ;go_wp2_with fail;refine CD.mono ?_;clear CD;rintro e w7 ⟨v2,l2,rfl,EJ,Gt,N7,c7⟩;obtain rfl:l2=[5,6,7,8,9]:=(EJ.eq (ZL.cut HG.2.2.2.2.1 5 9)).trans H5.2.1;have hks:=N7.keyS (A:=M.L) (fun q hq=>H6.1.ltL hq);have CL:=zh (bT w7 M (fun q hq=>qe (H6.1.ltL hq) c7.size));have H7:=zh (zA hks c7);obtain ⟨pa,pc,rfl⟩:=hks.len;clear EJ Gt N7 c7 hks;go_wp2_with fail;refine CL.mono ?_;clear CL;rintro e w8 ⟨bx2,rfl,Cx,c8⟩;obtain ⟨GX,K7⟩:=zE (JF (fun _=>items) z (items.filter fun p => !Xn 5 9 p))
   have DC:∀ r,(GX r).length<=2*10/\∀ p,p∈GX r->p.2=0∨p.2∈items.map Prod.snd:=fun r=>by
    rw [K7];unfold JF
    split
    ·exact ⟨qh (List.length_filter_le _ _) (by rw [HG.2.2.1];omega),H5.2.2.2 _ fun p hp=>(yG.1 hp).1⟩
    ·exact ⟨by rw [HG.2.2.1];omega,H5.2.2.2 _ fun p hp=>hp⟩
   have Ep:(GX z).filter (Xn 9 5)=[]:=List.filter_eq_nil_iff.2 fun p _=>by unfold Xn;simp;omega
   have cc:=cX (DL:=items.map Prod.snd) (m:=10) (lo:=9) (hi:=5) (((H6.1.chg H7.2)).chg c8) zaa (R:=[x]) (x:=z) (by rw [K7];exact H6.2.1) zo zo Cx (fun r _=>DC r) zo (by
    rw [H5.2.2.1,yX,HG.2.2.1];simp)
   unfold nM at cc;rw [Ep,show (((5:Nat)):Int)=5 from rfl,show (((9:Nat)):Int)=9 from rfl,show ((([]:zL).length:Nat):Int)=0 from rfl] at cc;have CC:=zh cc;have H8:=zh (zA ((H6.2.2.1.trans H7.2).trans c8) (H7.1.chg c8));clear cc c8 Cx DC Ep K7;go_wp2_with fail;refine CC.mono ?_;clear CC;rintro e w9 ⟨z3,B3,DB,rfl,LB,h9,c9,Ev,kp3,Eu⟩;obtain ⟨rfl,-⟩:=Ev trivial;have Ud:((z3:Int)==(z3:Int))=true:=beq_self_eq_true _;have H9:=zh (zA LB (zA h9 (zA (H8.1.then c9 (fun q hq => .inr (HG.2.2.2.2.2 q hq))) (H8.2.chg c9 (fun q hq => .inl hq)))));clear LB h9 c9 Ev kp3 Eu;go_wp2_with fail;have k0:=xo w9 (.cells #[.int .u64 5,.int .u64 6,.int .u64 7,.int .u64 8,.int .u64 9] 23);have cA:=(zv.refl [] w9).alloc (.cells #[.int .u64 5,.int .u64 6,.int .u64 7,.int .u64 8,.int .u64 9] 23);generalize w9.alloc (.cells #[.int .u64 5,.int .u64 6,.int .u64 7,.int .u64 8,.int .u64 9] 23)=W at k0 cA ⊢
   have hlit:cY [] W (zS w9.heap.size 5 5) [5,6,7,8,9]:=⟨_,5,rfl,fun i hi=>⟨_,0,rfl,zz k0,zaa,by
    rw [zM k0,yn];have hi:i<5:=hi;rcases (show i=0∨i=1∨i=2∨i=3∨i=4 by omega) with rfl | rfl | rfl | rfl | rfl <;> rfl⟩⟩
   refine (kh (H9.2.2.2.chg cA) hlit zaa).mono ?_;rintro e wK ⟨rfl,cK⟩;have HK:=zh (cA.trans cK);clear k0 cA hlit cK;go_wp2_with fail;have k0:=xo wK (.cells #[.int .i64 (x:Int),.int .i64 (z3:Int)] 3);have cA:=(zv.refl [] wK).alloc (.cells #[.int .i64 (x:Int),.int .i64 (z3:Int)] 3);generalize wK.alloc (.cells #[.int .i64 (x:Int),.int .i64 (z3:Int)] 3)=W2 at k0 cA ⊢
   have GH:Y9 W2 (zS wK.heap.size 2 2) ([x]++[z3]) := .inr ⟨_,2,rfl,zaa,by unfold maxLen;omega,zz k0,fun i hi=>by
    rw [zM k0];have hi:i<2:=hi;rcases (show i=0∨i=1 by omega) with rfl | rfl <;> rfl⟩
   have hcK:=HK.trans cA;refine (gO (H9.1.chg hcK) H9.2.1 GH (fun w' _ b hb=>(tV w' (WalkArith.wf_i64 zo)).trans rfl) ⟨rfl,rfl⟩).mono ?_;rintro e wE ⟨rfl,cE⟩;have HE:=zh ((H9.2.2.1.trans hcK).trans cE);clear k0 cA GH hcK cE;go_wp2_with fail;go_ret;exact ⟨rfl,HE⟩
theorem Y9.lit {cs:Array Value} (h:W.heap[b]?=some (.cells cs 3 (0,0))) (e:cs.toList=xC l) (hl:l.length<=1000):Y9 W (zS b l.length l.length) l:=by
 refine .inr ⟨b,l.length,rfl,xd _,by unfold maxLen;omega,zz h,fun i hi=>?_⟩;rw [zM h,<- yB,e];unfold xC;rw [yT,yt hi,zgD,yt hi];rfl
def kE (A:List Nat) (w:World) (v:Value) (l:List Nat):Prop:=Y9 w v l/\∀ g,v.ownBlock=some g->g<w.heap.size/\g∉A
theorem kE.chg {A L:List Nat} {w w':World} {v:Value} {l:List Nat} (h:kE A w v l) (c:zv L w w') (hL:∀ q,q∈L->q∈A∨w.heap.size<=q:=by simp):kE A w' v l :=
 ⟨h.1.chg c fun g hg hm=>by have:=h.2 g hg;rcases hL g hm with q | q;exact this.2 q;omega,fun g hg=>⟨qe (h.2 g hg).1 c.size,(h.2 g hg).2⟩⟩
theorem kE.of_own {A:List Nat} {w:World} {base:Nat} {v:Value} {l:List Nat} (h:w.ownsRow base 3 1 v l.length (xC l)) (hA:∀ q,q∈A->q<base):kE A w v l :=
 ⟨Y9.of_own h,fun g hg=>⟨(h.lt g hg).2,fun hm=>by have:=hA g hm;have:=(h.lt g hg).1;omega⟩⟩
theorem kE.fresh (h:kE A w v l):kE [w.heap.size] w v l:=⟨h.1,fun g hg=>⟨(h.2 g hg).1,fun hm=>by rw [zms] at hm;have:=(h.2 g hg).1;omega⟩⟩
theorem kE.len {A:List Nat} {w:World} {v:Value} {l:List Nat} (h:kE A w v l):∃ a c,v = .slice a l.length c:=h.1.len
theorem kE.get {A:List Nat} {w:World} {a:Option Addr} {n c:Nat} {l:List Nat} (h:kE A w (.slice a n c) l) {i:Nat} (hi:i<n):n=l.length/\∃ g,a=some ⟨g,0,none⟩/\w.cell? ⟨g,i,none⟩=some (.int .i64 ((l.getD i 0:Nat):Int)):=by
 obtain ⟨h1,h2⟩:=h.1.get;exact ⟨h1,h2 i hi⟩
section
variable {N G:Nat} {B B':Bs} {ht B6:Ht} {p:Nat->Nat} {S:List Nat}
theorem gP (h:∀ r,r∈S->B6 r=ht r/\∀ c,ht r=some c->z9 B' c (r:Int)=z9 B c (r:Int)):Yq B' B6 S=Yq B ht S:=by
 unfold Yq
 induction S with
 | nil=>rfl
 | cons r R ih =>
  rw [List.flatMap_cons,List.flatMap_cons,ih fun q hq=>h q (zco _ hq)];congr 1;obtain ⟨e1,e2⟩:=h r yJ;rw [e1]
  cases e:ht r with
  | none=>rfl
  | some c=>exact e2 c e
theorem JY.nodesB (k:JY N B ht B' B6 p) (low:∀ n c,ht n=some c->c<8) (h0:ht 0=none) (h0':B6 0=none) (hS:∀ r,r∈S->r=0∨((ht r).isSome=true/\1<=p r)):nodesB B' B6 S=nodesB B ht S:=by
 funext n
 unfold Proofs.YtegpiomkmfhadaaGreat.nodesB;rw [gP fun r hr=>?_];rcases hS r hr with rfl | ⟨hs,hp⟩
 ·rw [h0,h0'];exact ⟨rfl,fun c h=>by cases h⟩
 ·obtain ⟨c,hc⟩:=yR.1 hs
  refine ⟨by rw [(k.tree r c hc hp).1,hc],fun c' G7=>?_⟩;have:=Xc (k.nd r c' G7 hp);rwa [yS (zq (low r c' G7))] at this
theorem OZ : Proofs.YtegpiomkmfhadaaGreat.nodesB B ht S n=true↔∃ r,r∈S/\Proofs.YtegpiomkmfhadaaGreat.nodesB B ht [r] n=true:=by
 unfold Proofs.YtegpiomkmfhadaaGreat.nodesB;rw [decide_eq_true_iff,qY];constructor
 ·rintro ⟨r,hr,h⟩
  exact ⟨r,hr,yq (qY.2 ⟨r,List.mem_singleton.2 rfl,h⟩)⟩
 ·rintro ⟨r,hr,h⟩
  obtain ⟨r',DA,h'⟩:=qY.1 (of_decide_eq_true h);rw [zms] at DA;subst DA;exact ⟨r',hr,h'⟩
end
theorem VN.at_ {it:Nat->List (Nat × Nat)} {o:zF} (h:VN N B ht R it o) (hr:r∈R):r=0∨(ht r).isSome=true:=by
 obtain ⟨Cb,t⟩:=h.top r hr;rcases t.root with e | ⟨c,e⟩
 ·exact .inl e
 ·exact .inr (by rw [e];rfl)
theorem VN.nodesB_kept {it it':Nat->List (Nat × Nat)} {o o':zF} (h:VN N B ht (R++[x]) it o) (h':VN N B' B6 R' it' o') (kp:JY N B ht B' B6 (xt (fun b=>xG (R++[x]) b+o b) x)) (hr:r∈R):nodesB B' B6 [r]=nodesB B ht [r] :=
 kp.nodesB h.low h.gr.none0 h'.gr.none0 fun q hq=>by
  rw [zms] at hq;subst hq;rcases h.at_ (zal _ hr) with e | e
  ·exact .inl e
  ·refine .inr ⟨e,?_⟩
   have:=Je hr;have e:xG (R++[x]) q=xG R q+if q=x then 1 else 0:=by rw [<- YS];rfl
   unfold xt;simp only [e]
   split <;> omega
theorem Ou (p:Nat->Bool):∀ n,(xm p n).length=cnt n p
 | 0=>rfl
 | n+1=>by
  cases h:p n with
  | true=>rw [dS h,ym,Ou p n,qO,h];rfl
  | false=>rw [aR h,Ou p n,qO,h];rfl
theorem ku {p q:Nat->Bool} (h:∀ i,i<n->p i=q i):xm p n=xm q n:=by
 unfold xm;exact List.filter_congr fun i hi=>h i (ye.1 hi)
theorem kw (h:l.Pairwise (· < ·)) {j:Nat} (DP:i<j) (hj:j<l.length):l.getD i 0<l.getD j 0:=by
 rw [zgD,yt zo,zgD,yt hj];exact List.pairwise_iff_getElem.1 h i j zo hj DP
theorem Ov (hi:i<l.length):l.getD i 0∈l:=by
 rw [zgD,yt hi];exact zt _
theorem Bf {x:Int} (h:(Lit.int .u8 x).wf=true):0<=x/\x<=255:=by
 simp [Lit.wf,IntKind.min,IntKind.max,IntKind.signed,IntKind.bits] at h;exact h
theorem mp {x:Int} (h:(Lit.int .u64 x).wf=true):0<=x/\x<=18446744073709551615:=by
 simp [Lit.wf,IntKind.min,IntKind.max,IntKind.signed,IntKind.bits] at h;exact h

open Go.RowKit Go.Deep
def QY:Value->Nat | .int _ n=>n.toNat | _=>0
theorem pV {H:Type} {enc:TypeId × Value->H} {a:Option Addr} {len cap:Nat} {d:DataW H} {p:List MemPlace}
  (h:DataW.Trod enc Tryz.prog W 0 (fun _=>true) true 22 (.slice a len cap) d p):∃ l:List (Nat × Nat),XG [] W (.slice a len cap) l:=by
 obtain ⟨fuel,hf⟩:=h;rcases open_slice_pairs Tryz.underlying22 Tryz.underlying95 zab rfl rfl zab zab hf with ⟨DG,_⟩ | ⟨x,l,c,m,n,V0,V1,D0,D1,P0,P1,DG,_,hl,hm,hmeq,_,DC⟩
 ·simp [Value.cells] at DG
  obtain ⟨rfl,rfl,rfl⟩:=DG;exact ⟨[],⟨_,_,rfl,xd _,yg _,fun q=>by simp at q⟩,fun p hp=>by cases hp⟩
 ·simp [Value.cells] at DG
  obtain ⟨rfl,rfl,rfl⟩:=DG;simp only [if_true] at hmeq;subst hmeq
  have ar:∀ i,i<len->x.spot=none/\x.block<W.heap.size/\W.cell? ⟨x.block,x.off+i*2,none⟩=some (.int .u64 (QY (V0 i):Int))/\W.cell? ⟨x.block,x.off+i*2+1,none⟩=some (.int .u8 (QY (V1 i):Int))/\QY (V0 i)<18446744073709551616/\QY (V1 i)<256:=fun i hi=>by
   obtain ⟨h0,h1,t0,t1⟩:=DC i zo;obtain ⟨n0,FJ,_,w0⟩:=DataW.trod_int Tryz.underlying23 t0;obtain ⟨n1,EZ,_,w1⟩:=DataW.trod_int Tryz.underlying5 t1;simp only [List.cons.injEq,and_true] at FJ EZ;have b0:=mp w0;have b1:=Bf w1;obtain ⟨b,off,sp⟩:=x;have F6:=(DC 0 zo).1;have hspot:sp=none:=by simpa [Addr.add] using World.cell?_spot F6
   subst hspot;have e (k:Nat):(⟨b,off,none⟩:Addr).add k=⟨b,off+k,none⟩:=by unfold Addr.add;split <;> simp_all
   rw [e] at h0 h1;rw [FJ] at h0 ⊢;rw [EZ] at h1 ⊢;refine ⟨rfl,yc W ⟨b,off+i*2,none⟩ h0,?_,?_,?_,?_⟩
   ·show W.cell? ⟨b,off+i*2,none⟩=some (.int .u64 ((n0.toNat:Nat):Int))
    rw [h0,Int.toNat_of_nonneg b0.1]
   ·show W.cell? ⟨b,off+i*2+1,none⟩=some (.int .u8 ((n1.toNat:Nat):Int))
    rw [show off+i*2+1=off+(i*2+1) by omega,h1,Int.toNat_of_nonneg b1.1]
   ·show n0.toNat<_;omega
   ·show n1.toNat<_;omega
  obtain ⟨L,hL⟩:=zE ((List.range len).map fun i=>(QY (V0 i),QY (V1 i)));have B9:L.length=len:=by rw [hL];simp
  have hget:∀ i,i<len->L.getD i (0,0)=(QY (V0 i),QY (V1 i)):=fun i hi=>by
   rw [hL,zgD,yT,za hi];rfl
  refine ⟨L,⟨some x,_,by rw [B9],by rw [B9];exact hl,hm,fun h0=>?_⟩,fun q hq=>?_⟩
  ·obtain ⟨hs,hb,-⟩:=ar 0 zo
   obtain ⟨b,off,sp⟩:=x;have hs:sp=none:=hs;subst hs;refine ⟨b,off,rfl,hb,zaa,fun i hi=>?_⟩;rw [B9] at hi;obtain ⟨-,-,k0,k1,-⟩:=ar i hi;rw [hget i hi];exact ⟨k0,k1⟩
  ·rw [hL] at hq
   obtain ⟨i,hi,rfl⟩:=yw.1 hq;exact (ar i (ye.1 hi)).2.2.2.2
open Go.WideShapes Go.ChangeShapes
end Go.Proofs.YtegpiomkmfhadaaGreat
