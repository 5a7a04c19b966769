/- Package base: how a base lies in memory. · Package base: a base that is none (nil, or one that Open did not answer). · Package base: what a base tells of itself. · Package base: what its calls lean on: slices.Contains of numbers, slices.Clone of bytes. · Package base: a base's blocks are apart; a base is made anew out of its parts; SetRoot, SetMark. -/
import Derived.Test.YtkhcaclndepgbaaGreatZn17
set_option linter.unusedVariables false
set_option linter.unusedSimpArgs false
set_option maxRecDepth 100000
set_option maxHeartbeats 20000000
namespace Go.Proofs.YtkhcaclndepgbaaGreat
open Go.RowKit
structure Bm where
 b:Nat
 d:Nat
 bb:Nat
 p:Nat
 t:Nat
 bc:Nat
 bk:Nat
 mf:Nat
def Bm.L (M:Bm):List Nat:=[M.b,M.d,M.bb,M.p,M.t,M.bc,M.bk,M.mf]
structure Br where
 g:Nat->Nat
 c:Nat->Nat
 fg:Nat->Nat
 fc:Nat->Nat
def frV (R:Br) (B:Bs) (k:Nat):Option Value:=if (B.fr k).isSome then some (.slice (some ⟨R.fg k,0,none⟩) 128 (R.fc k)) else none
def goodF (v:Value):Bool:=match v with | .slice (some ⟨_,0,none⟩) 128 _=>true | .slice none 0 0=>true | _=>false
def baseV (M:Bm) (R:Br) (B:Bs) (i:Nat):Value :=
 if i=0 then .pointer (some ⟨M.d,0,none⟩) else if i=1 then .pointer (some ⟨M.t,0,none⟩) else if i=2 then .pointer (some ⟨M.p,0,none⟩)
 else if i=3 then .slice (some ⟨R.g 0,0,none⟩) (nOf B.T.n 0) (R.c 0) else if i=4 then .slice (some ⟨R.g 1,0,none⟩) (nOf B.T.n 1) (R.c 1) else if i=5 then .map (some M.mf)
 else if i<24 then B.S.cellV (i - 6) else if i<42 then B.Kp.cellV (i - 24) else if i=42 then .int .i64 ((B.Kp.gen % 2:Nat):Int) else .bool false
structure BaseC (w:World) (M:Bm) (R:Br) (B:Bs):Prop where
 top:w.heap[M.b]?=some (.cells (fnRow 44 (baseV M R B)) 51 (0,0))
 pt:PT w M.p M.t M.bc M.bk B.K B.T
 sh:ShV w (.slice (some ⟨R.g 0,0,none⟩) (nOf B.T.n 0) (R.c 0)) (.slice (some ⟨R.g 1,0,none⟩) (nOf B.T.n 1) (R.c 1)) B.a (nOf B.T.n) R.g R.c
 fm:KMapV Tryz.prog 3 goodF w M.mf B.T.n (frV R B)
 fd:∀ k f,k<B.T.n->B.fr k=some f->128<=R.fc k/\R.fc k<=maxLen/\BytesAt w (R.fg k) 0 128 f/\∃ cur z,w.heap[R.fg k]?=some (.cells cur 5 z)
 ok:B.Ok
 ne:M.mf≠M.bk
 glt:∀ k,k<2->R.g k<w.heap.size
structure BaseIn (w:World) (M:Bm) (R:Br) (B:Bs):Prop where
 c:BaseC w M R B
 d:DiskAt w M.d M.bb (.slice none 0 0) ⟨B.T.n,B.D,[]⟩
def Bown (M:Bm) (R:Br) (B:Bs) (x:Nat):Prop:=x∈M.L∨(∃ k,k<2/\x=R.g k)∨∃ k,k<B.T.n/\(B.fr k).isSome=true/\x=R.fg k
def BaseAt (w:World) (M:Bm) (F:List Nat) (B:Bs):Prop:=∃ R,BaseIn w M R B/\∀ x,Bown M R B x->x∉F
section
variable {w w':World} {M:Bm} {R:Br} {B:Bs} {L F:List Nat}
theorem BaseC.chg (h:BaseC w M R B) (c:Chg L w w') (hL:∀ x,Bown M R B x->x∉L):BaseC w' M R B:=by
 have m:∀ x,x∈M.L->x∉L:=fun x hx=>hL x (.inl hx);have g:∀ k,k<2->R.g k∉L:=fun k hk=>hL _ (.inr (.inl ⟨k,hk,rfl⟩));refine { h with top:=(c.block _ (zhl h.top) (m _ (by simp [Bm.L]))).trans h.top,pt:=h.pt.chg c (m _ (by simp [Bm.L])) (m _ (by simp [Bm.L])) (m _ (by simp [Bm.L])) (m _ (by simp [Bm.L])),sh:=h.sh.chg c (g 0 (by omega)) (g 1 (by omega)),fm:=h.fm.chg c (m _ (by simp [Bm.L])),fd:=?_,glt:=fun k hk=>zLl (h.glt k hk) c.size };intro k f hk hf;obtain ⟨h1,h2,h3,cur,z,h4⟩:=h.fd k f hk hf;have hn:R.fg k∉L:=hL _ (.inr (.inr ⟨k,hk,by rw [hf];rfl,rfl⟩));exact ⟨h1,h2,h3.chg c hn,cur,z,(c.block _ (zhl h4) hn).trans h4⟩
theorem BaseIn.chg (h:BaseIn w M R B) (c:Chg L w w') (hL:∀ x,Bown M R B x->x∉L):BaseIn w' M R B :=
 ⟨h.c.chg c hL,h.d.chg c (hL _ (.inl (by simp [Bm.L]))) (hL _ (.inl (by simp [Bm.L]))) (fun k hk=>by cases hk)⟩
theorem BaseIn.lt (h:BaseIn w M R B) {x:Nat} (hx:Bown M R B x):x<w.heap.size:=by
 rcases hx with hx | ⟨k,hk,rfl⟩ | ⟨k,hk,hf,rfl⟩
 ·simp only [Bm.L,List.mem_cons,List.not_mem_nil,or_false] at hx
  rcases hx with rfl | rfl | rfl | rfl | rfl | rfl | rfl | rfl
  ·exact zhl h.c.top
  ·exact h.d.lt.1
  ·exact h.d.lt.2
  ·exact zhl h.c.pt.hp.top
  ·exact h.c.pt.ht.lt0
  ·exact h.c.pt.ht.lt1
  ·exact h.c.pt.ht.lt2
  ·exact h.c.fm.lt
 ·exact h.c.glt k hk
 ·cases hq:B.fr k with
  | none=>rw [hq] at hf;cases hf
  | some f =>
   obtain ⟨_,_,_,cur,z,h4⟩:=h.c.fd k f hk hq;exact zhl h4
theorem BaseAt.chg (h:BaseAt w M F B) (c:Chg L w w') (hL:∀ x,x∈L->x∈F):BaseAt w' M F B:=by
 obtain ⟨R,h1,h2⟩:=h;exact ⟨R,h1.chg c fun x hx hm=>h2 x hx (hL x hm),h2⟩
theorem BaseAt.new (h:BaseAt w M F B) {q:Nat} (hq:w.heap.size<=q):BaseAt w M (q::F) B:=by
 obtain ⟨R,h1,h2⟩:=h;refine ⟨R,h1,fun x hx hm=>?_⟩;rcases List.mem_cons.1 hm with rfl | hm
 ·have:=h1.lt hx;omega
 ·exact h2 x hx hm
theorem BaseAt.sub (h:BaseAt w M F B) {F':List Nat} (hs:∀ x,x∈F'->x∈F):BaseAt w M F' B:=by
 obtain ⟨R,h1,h2⟩:=h;exact ⟨R,h1,fun x hx hm=>h2 x hx (hs x hm)⟩
theorem BaseAt.notL (h:BaseAt w M F B) {x:Nat} (hx:x∈F):x∉M.L:=by
 obtain ⟨R,h1,h2⟩:=h;exact fun hm=>h2 x (.inl hm) hx
theorem BaseAt.ltL (h:BaseAt w M F B) {x:Nat} (hx:x∈M.L):x<w.heap.size:=by
 obtain ⟨R,h1,h2⟩:=h;exact h1.lt (.inl hx)
theorem BaseC.cell (h:BaseC w M R B) {i:Nat} (hi:i<44):w.cell? ⟨M.b,i,none⟩=some (baseV M R B i):=cell_fn h.top hi
theorem BaseC.c0 (h:BaseC w M R B):w.cell? ⟨M.b,0,none⟩=some (.pointer (some ⟨M.d,0,none⟩)):=h.cell (by omega)
theorem BaseC.c1 (h:BaseC w M R B):w.cell? ⟨M.b,1,none⟩=some (.pointer (some ⟨M.t,0,none⟩)):=h.cell (by omega)
theorem BaseC.c2 (h:BaseC w M R B):w.cell? ⟨M.b,2,none⟩=some (.pointer (some ⟨M.p,0,none⟩)):=h.cell (by omega)
theorem BaseC.c3 (h:BaseC w M R B):w.cell? ⟨M.b,3,none⟩=some (.slice (some ⟨R.g 0,0,none⟩) (nOf B.T.n 0) (R.c 0)):=h.cell (by omega)
theorem BaseC.c4 (h:BaseC w M R B):w.cell? ⟨M.b,4,none⟩=some (.slice (some ⟨R.g 1,0,none⟩) (nOf B.T.n 1) (R.c 1)):=h.cell (by omega)
theorem BaseC.c5 (h:BaseC w M R B):w.cell? ⟨M.b,5,none⟩=some (.map (some M.mf)):=h.cell (by omega)
theorem BaseC.c43 (h:BaseC w M R B):w.cell? ⟨M.b,43,none⟩=some (.bool false):=h.cell (by omega)
theorem baseV_S (M:Bm) (R:Br) (B:Bs) {j:Nat} (hj:j<18):baseV M R B (6+j)=B.S.cellV j:=by
 unfold baseV;rw [if_neg (by omega),if_neg (by omega),if_neg (by omega),if_neg (by omega),if_neg (by omega),if_neg (by omega),if_pos (by omega),Nat.add_sub_cancel_left]
theorem baseV_K (M:Bm) (R:Br) (B:Bs) {j:Nat} (hj:j<18):baseV M R B (24+j)=B.Kp.cellV j:=by
 unfold baseV;rw [if_neg (by omega),if_neg (by omega),if_neg (by omega),if_neg (by omega),if_neg (by omega),if_neg (by omega),if_neg (by omega),if_pos (by omega),Nat.add_sub_cancel_left]
theorem BaseC.sCell (h:BaseC w M R B):∀ j,j<18->w.cell? ⟨M.b,6+j,none⟩=some (B.S.cellV j):=fun j hj=>(h.cell (by omega)).trans (by rw [baseV_S _ _ _ hj])
theorem BaseC.kCell (h:BaseC w M R B):∀ j,j<18->w.cell? ⟨M.b,24+j,none⟩=some (B.Kp.cellV j):=fun j hj=>(h.cell (by omega)).trans (by rw [baseV_K _ _ _ hj])
end

def Bs.room (B:Bs):Int:=max (roomI B.T 2 - (needN B.T.n:Int)) 0
def Bs.freshB (B:Bs) (a:Int):Bool:=decide (0<=a)&&decide (a<(B.T.n:Int))&&(B.fr a.toNat).isSome
theorem goodF_zero:goodF (.slice none 0 0)=true:=rfl
theorem zeroSl8 (w:World):(zeroValue 22).run Tryz.prog w = .ok (.slice none 0 0) w:=Tryz.zeroValue22 w
section
variable {w:World} {M:Bm} {R:Br} {B:Bs} (h:BaseC w M R B)
include h
theorem bNone_at:Calls Tryz.prog 74 #[.pointer (some ⟨M.b,0,none⟩)] w fun e w'=>e = .returned (.bool false)/\w=w':=by
 have c1:=h.c1;clear h;go_enter Tryz.func74,Tryz.ntmps74;go_wp2_with fail;go_ret;exact ⟨rfl,rfl⟩
theorem bMay_at:Calls Tryz.prog 76 #[.pointer (some ⟨M.b,0,none⟩)] w fun e w'=>e = .returned (.int .i64 0)/\w=w':=by
 have cn:=bNone_at h;have c1:=h.c43;clear h;go_enter Tryz.func76,Tryz.ntmps76;go_wp2_with fail;refine (cn).mono ?_;rintro e w' ⟨rfl,rfl⟩;go_wp2_with fail;go_ret;exact ⟨rfl,rfl⟩
theorem bBlocks_at:Calls Tryz.prog 20 #[.pointer (some ⟨M.b,0,none⟩)] w fun e w'=>e = .returned (.int .i64 (B.T.n:Int))/\w=w':=by
 have cn:=bNone_at h;have c1:=h.c1;have cb:=blocks_at h.pt.ht;clear h;go_enter Tryz.func20,Tryz.ntmps20;go_wp2_with fail;refine (cn).mono ?_;rintro e w' ⟨rfl,rfl⟩;go_wp2_with fail;refine (cb).mono ?_;rintro e w' ⟨rfl,rfl⟩;go_wp2_with fail;go_ret;exact ⟨rfl,rfl⟩
theorem bCount_at (a:Int):Calls Tryz.prog 22 #[.pointer (some ⟨M.b,0,none⟩),.int .i64 a] w fun e w'=>e = .returned (.int .i64 (getV B.T a))/\w=w':=by
 have cn:=bNone_at h;have c1:=h.c1;have cb:=get_at h.pt.ht a;clear h;go_enter Tryz.func22,Tryz.ntmps22;go_wp2_with fail;refine (cn).mono ?_;rintro e w' ⟨rfl,rfl⟩;go_wp2_with fail;refine (cb).mono ?_;rintro e w' ⟨rfl,rfl⟩;go_wp2_with fail;go_ret;exact ⟨rfl,rfl⟩
theorem bRoom_at:Calls Tryz.prog 16 #[.pointer (some ⟨M.b,0,none⟩)] w fun e w'=>e = .returned (.int .i64 B.room)/\w=w':=by
 have cn:=bNone_at h;have c2:=h.c2;have cb:=h.pt.room;rw [h.ok.first] at cb;have cl:=bBlocks_at h;have cnd:=need_at (n:=B.T.n) w (by have:=h.ok.n;omega) h.ok.n.2;have hrb:=roomI_bd (T:=B.T) (f:=2) (by have:=h.ok.n;omega);have hnd:needN B.T.n<=5000:=by unfold needN pg;have:=h.ok.n;omega
 have hn2:=h.ok.n.2;have e1:wrap64 (roomI B.T 2 - (needN B.T.n:Int))=roomI B.T 2 - (needN B.T.n:Int):=by unfold wrap64;omega
 unfold Bs.room;clear h;generalize roomI B.T 2=r at *;generalize needN B.T.n=n at *;go_enter Tryz.func16,Tryz.ntmps16;go_wp2_with fail;refine (cn).mono ?_;rintro e w' ⟨rfl,rfl⟩;go_wp2_with fail;refine (cb).mono ?_;rintro e w' ⟨rfl,rfl⟩;go_wp2_with fail;refine (cl).mono ?_;rintro e w' ⟨rfl,rfl⟩;go_wp2_with fail;refine (cnd).mono ?_;rintro e w' ⟨rfl,rfl⟩;go_wp2_with fail;go_ret;exact ⟨rfl,rfl⟩
theorem bFresh_at (a:Int) (ha:(Lit.int .i64 a).wf=true):Calls Tryz.prog 32 #[.pointer (some ⟨M.b,0,none⟩),.int .i64 a] w fun e w'=>e = .returned (.bool (B.freshB a))/\w=w':=by
 have cn:=bNone_at h;have c5:=h.c5
 have hlk:∃ v,(Instr.lookup 43 (.map (some M.mf)) (.int .i64 a) true).run Tryz.prog w = .ok (.tuple #[v,.bool (B.freshB a)]) w:=by
  by_cases hi:0<=a/\a<(B.T.n:Int)
  ·obtain ⟨j,rfl⟩:=Int.eq_ofNat_of_zero_le hi.1
   have l:=(h.fm.look (t:=43) Tryz.underlying3 Tryz.underlying43 (zeroSl8 w) goodF_zero (k:=j) (by omega) h.ok.n.2).1
   have:B.freshB (j:Int)=(frV R B j).isSome:=by
    unfold Bs.freshB frV;rw [decide_eq_true hi.1,decide_eq_true hi.2]
    show (B.fr j).isSome=_
    by_cases q:(B.fr j).isSome=true
    ·rw [if_pos q,q];rfl
    ·rw [if_neg q];simpa using q
   rw [<- this] at l;exact ⟨_,l⟩
  ·have l:=(h.fm.look_out (t:=43) Tryz.underlying3 Tryz.underlying43 (zeroSl8 w) goodF_zero ha (by omega)).1
   have:B.freshB a=false:=by
    unfold Bs.freshB;by_cases h0:0<=a
    ·rw [decide_eq_false (show ¬ a<(B.T.n:Int) by omega)];simp
    ·rw [decide_eq_false h0];simp
   rw [<- this] at l;exact ⟨_,l⟩
 obtain ⟨v,hlk⟩:=hlk;clear h;generalize B.freshB a=r at *;go_enter Tryz.func32,Tryz.ntmps32;go_wp2_with fail;refine (cn).mono ?_;rintro e w' ⟨rfl,rfl⟩;go_wp2_with fail;go_ret;exact ⟨rfl,rfl⟩
end
theorem wpList_app {ops:Array Oper} {rest:List Oper} {o:Oper} {a:Act} {w:World} {Q:Exit->Act->World->Prop} (hg:o.guard=none) (s x:Operand) (t:TypeId)
  (hop:o.op = .call { callee := .builtin .append,args:=#[s,x],argTypes:=#[t,t] }) (hty:o.type=t) {base size n m bytes:Nat} {e:TypeId} {z v xv:Value} {xs news:List Value}
  (ht:Tryz.prog.underlying t=some (.slice e)) (hinfo:(Tryz.prog.info? e).map (fun i=>(i.zero,i.size,i.bytes))=some (some z,size,bytes)) (hzs:z.cells.size=size) (hsz:0<size) (hby:bytes<=1000)
  (hs:a.eval s=v) (hx:a.eval x=xv) (hown:w.ownsRow base e size v n xs) (hsrc:AppSrc w size xv m news) (hnm:n+m<=3000000) (hbase:base<=w.heap.size)
  (hK:∀ v' w',w'.ownsRow base e size v' (n+m) (xs++news)->w.grownBy w' v.ownBlock->(v'.ownBlock=v.ownBlock∨v'.ownBlock=some w.heap.size)->wpList Tryz.prog ops Q rest (a.put o.dst v') w'):wpList Tryz.prog ops Q (o::rest) a w:=by
 refine wpList_plain hg fun K hK'=>?_;obtain ⟨v',w',hrun,r1,r2,r3⟩:=run_app ht hinfo hzs hsz hby hown hsrc hnm hbase;unfold Oper.wp;simp [execOp,hop,resolve,invoke,builtin,hs,hx,hty,hrun,Result.andThen];exact hK' _ _ (hK _ _ r1 r2 r3)
def u8Vs (n:Nat) (f:Nat->Nat):List Value:=(List.range n).map fun i => .int .u8 (f i:Int)
theorem bytes_src {w:World} {k o n c:Nat} {f:Nat->Nat} (h:BytesAt w k o n f) (hk:k<w.heap.size):AppSrc w 1 (.slice (some ⟨k,o,none⟩) n c) n (u8Vs n f):=by
 refine ⟨by simp [u8Vs],fun u hu=>?_,.inl ⟨k,o,c,rfl,hk,fun j u hu=>?_⟩⟩
 ·simp only [u8Vs,List.mem_map] at hu
  obtain ⟨i,_,rfl⟩:=hu;rfl
 ·have hj:j<n:=by
   have:=(List.getElem?_eq_some_iff.1 hu).1;simpa [u8Vs] using this
  have e:(u8Vs n f)[j]?=some (.int .u8 (f j:Int)):=by simp [u8Vs,hj]
  rw [e] at hu;rw [<- hu];exact (h j hj).1
theorem own_bytes {w:World} {base n:Nat} {v:Value} {f:Nat->Nat} (h:w.ownsRow base 5 1 v n (u8Vs n f)) (hn:0<n) (hf:∀ i,i<n->f i<=255):∃ g c,v = .slice (some ⟨g,0,none⟩) n c/\n<=c/\c<=maxLen/\base<=g/\(∃ cur,w.heap[g]?=some (.cells cur 5 (0,0)))/\BytesAt w g 0 n f:=by
 obtain ⟨g,c,e,h1,h2,h3,h4,h5⟩:=zol h hn;refine ⟨g,c,e,h1,h2,h3,?_,fun i hi=>⟨?_,hf i hi⟩⟩
 ·rcases h.2 with ⟨_,h0⟩ | ⟨g',c',cur,e',_,hg',_⟩
  ·omega
  ·rw [e] at e'
   injection e' with e' _ _;injection e' with e';injection e' with e';subst e';exact ⟨cur,hg'⟩
 ·rw [Nat.zero_add,h5 i (by omega)]
  simp [u8Vs,hi]
theorem clone8_at {w:World} {k o n c:Nat} {f:Nat->Nat} (h:BytesAt w k o n f) (h0:0<n) (hn:n<=100000) :
  Calls Tryz.prog 78 #[.slice (some ⟨k,o,none⟩) n c] w fun e w'=>∃ g c',e = .returned (.slice (some ⟨g,0,none⟩) n c')/\n<=c'/\c'<=maxLen/\w.heap.size<=g/\(∃ cur,w'.heap[g]?=some (.cells cur 5 (0,0)))/\BytesAt w' g 0 n f/\Chg [] w w':=by
 have hk:k<w.heap.size:=World.block_lt_of_cell? w ⟨k,o+0,none⟩ (h 0 h0).1;have hnil:=fun w=>Lib.run_eql_slice_nil (P:=Tryz.prog) w 22 5 (some ⟨k,o,none⟩) n c 0 0 Tryz.underlying22;simp only [Option.isNone_some] at hnil;have HE:=zh (own_emptyG (w:=w) (base:=w.heap.size) (size:=1) (e:=5) (zLr _));have HC0:=zh ((Chg.refl [] w).alloc (.cells #[] 5));have H:=zh (zA h hk);clear h;go_enter Tryz.func78,Tryz.ntmps78;go_wp2_with (at_builtin;refine wpList_app rfl _ _ 22 rfl rfl (base:=w.heap.size) (size:=1) (n:=0) (m:=n) (news:=u8Vs n f) Tryz.underlying22 infoU8 rfl (by omega) (by omega) rfl rfl HE.out (bytes_src (H.out.1.chg HC0.out (by simp)) (zLl H.out.2 HC0.out.size)) (by omega) HC0.out.size ?_;intro v' w2 hown2 hg2 _;have HOWN2:=zh hown2;have HC2:=zh (HC0.out.grown hg2 (fun k hk => .inr (HE.out.lt k hk).1));clear hown2 hg2);go_ret;have ho:=HOWN2.out;rw [Nat.zero_add,List.nil_append] at ho;obtain ⟨g,c',rfl,q1,q2,q3,q4,q5⟩:=own_bytes ho h0 (fun i hi=>(H.out.1 i hi).2);exact ⟨g,c',rfl,q1,q2,q3,q4,q5,HC2.out⟩
theorem indexI_at {w:World} {g n c:Nat} {l:Nat->Nat} {x:Int} (hn:n<=4096) (hc:n<=c) (hcells:∀ i,i<n->w.cell? ⟨g,i,none⟩=some (.int .i64 (l i:Int))) :
  Calls Tryz.prog 182 #[.slice (some ⟨g,0,none⟩) n c,.int .i64 x] w fun e w'=>(∃ z:Int,e = .returned (.int .i64 z)/\(0<=z↔∃ i,i<n/\(l i:Int)=x))/\w=w':=by
 have H:=zh hcells;clear hcells;go_enter Tryz.func182,Tryz.ntmps182;go_wp2_with fail;go_loopg [8] n (fun gg s wr=>∃ k:Nat,gg=n - k/\k<=n/\s = .int .i64 (k:Int)/\w=wr/\∀ i,i<k->(l i:Int)≠x)
 case atStart=>exact ⟨0,rfl,Nat.zero_le _,by go_num,rfl,fun i hi=>by omega⟩
 case round =>
  obtain ⟨k,hgg,hkn,rfl,rfl,hno⟩:=hrel;by_cases hk:k<n
  ·have c1:=H.out k hk
   have i1:(k:Int)<(n:Int):=by omega
   obtain ⟨y,hy⟩:∃ y,y=l k:=⟨_,rfl⟩;rw [<- hy] at c1;have HY:=zh hy;have HNO:=zh hno;clear hy hno;by_cases e:x=(y:Int)
   ·subst e
    go_wp2_with fail;go_ret;exact ⟨⟨k,rfl,⟨fun _=>⟨k,hk,by rw [HY.out]⟩,fun _=>by omega⟩⟩,rfl⟩
   ·go_wp2_with fail
    go_roundg (n - (k+1))
    case measure=>omega
    case rel =>
     refine ⟨k+1,rfl,by omega,by go_num,rfl,fun i hi=>?_⟩;by_cases e2:i=k
     ·subst e2;rw [<- HY.out];exact fun q=>e q.symm
     ·exact HNO.out i (by omega)
  ·obtain rfl:k=n:=by omega
   go_wp2_with fail;go_ret;exact ⟨⟨-1,rfl,⟨fun h=>by omega,fun ⟨i,hi,e⟩=>absurd e (hno i hi)⟩⟩,rfl⟩
theorem contI_at {w:World} {g n c:Nat} {l:Nat->Nat} {x:Int} (hn:n<=4096) (hc:n<=c) (hcells:∀ i,i<n->w.cell? ⟨g,i,none⟩=some (.int .i64 (l i:Int))) {r:Bool} (hr:r=true↔∃ i,i<n/\(l i:Int)=x) :
  Calls Tryz.prog 148 #[.slice (some ⟨g,0,none⟩) n c,.int .i64 x] w fun e w'=>e = .returned (.bool r)/\w=w':=by
 have ci:=indexI_at (x:=x) hn hc hcells;have HR:=zh hr;clear hcells hr;go_enter Tryz.func148,Tryz.ntmps148;go_wp2_with fail;refine ci.mono ?_;rintro e w' ⟨⟨z,rfl,hz⟩,rfl⟩;have HZ:=zh hz;clear hz ci;go_wp2_with fail;go_ret;have:r=decide (0<=z):=by rw [Bool.eq_iff_iff,HR.out,decide_eq_true_iff,HZ.out]
 subst this;exact ⟨rfl,rfl⟩
def pageB (B:Bs) (k:Nat) (x:Int):Bool:=(List.range (nOf B.T.n k)).any fun i=>decide ((B.a k i:Int)=x)
theorem pageB_iff {B:Bs} {k:Nat} {x:Int} : pageB B k x=true↔∃ i,i<nOf B.T.n k/\(B.a k i:Int)=x:=by simp [pageB]
theorem map_ne_cells {w:World} {a b:Nat} {es:Array MapEntry} {c:Nat} {cs:Array Value} {T:TypeId} {z:Nat × Nat} (ha:w.heap[a]?=some (.map es c)) (hb:w.heap[b]?=some (.cells cs T z)):a≠b:=by
 rintro rfl;rw [ha] at hb;cases hb
section
variable {w w':World} {M:Bm} {R R':Br} {B B':Bs}
theorem BaseIn.nodup (h:BaseIn w M R B):M.L.Nodup:=by
 obtain ⟨es,c,hm⟩:=h.c.fm.obj;obtain ⟨es',c',hk⟩:=h.c.pt.ht.map.obj;have hb:=h.c.top;have hd:=h.d.top;have hbb:=h.d.blk;have hp:=h.c.pt.hp.top;have ht:=h.c.pt.ht.top;have hbc:=h.c.pt.ht.cs;simp only [Bm.L,List.nodup_cons,List.mem_cons,List.not_mem_nil,or_false,not_or,List.nodup_nil,and_true]
 refine ⟨⟨cells_ne hb hd (by decide),cells_ne hb hbb (by decide),cells_ne hb hp (by decide),cells_ne hb ht (by decide),cells_ne hb hbc (by decide),fun e=>map_ne_cells hk hb e.symm,fun e=>map_ne_cells hm hb e.symm⟩,
  ⟨cells_ne hd hbb (by decide),cells_ne hd hp (by decide),cells_ne hd ht (by decide),cells_ne hd hbc (by decide),fun e=>map_ne_cells hk hd e.symm,fun e=>map_ne_cells hm hd e.symm⟩,
  ⟨cells_ne hbb hp (by decide),cells_ne hbb ht (by decide),cells_ne hbb hbc (by decide),fun e=>map_ne_cells hk hbb e.symm,fun e=>map_ne_cells hm hbb e.symm⟩,
  ⟨cells_ne hp ht (by decide),cells_ne hp hbc (by decide),fun e=>map_ne_cells hk hp e.symm,fun e=>map_ne_cells hm hp e.symm⟩,
  ⟨cells_ne ht hbc (by decide),fun e=>map_ne_cells hk ht e.symm,fun e=>map_ne_cells hm ht e.symm⟩,
  ⟨fun e=>map_ne_cells hk hbc e.symm,fun e=>map_ne_cells hm hbc e.symm⟩,fun e=>h.c.ne e.symm,fun e=>e⟩
theorem nOf_pos {n k:Nat} (hn:16<=n):0<nOf n k:=by
 unfold nOf pg
 split <;> omega
theorem BaseIn.gL (h:BaseIn w M R B) {k:Nat} (hk:k<2):R.g k∉M.L:=by
 have hn:=nOf_pos (k:=k) h.c.ok.n.1
 have hc:w.cell? ⟨R.g k,0,none⟩=some (.int .i64 (B.a k 0:Int)):=by
  rcases h.c.sh.l k hk with ⟨e,_⟩ | ⟨g,c,e,h1,h2,h3,h4⟩
  ·cases e
  ·injection e with e _ _
   injection e with e;injection e with e;have:=h4 0 (by rw [atL_len];exact hn);rw [atL_get _ _ hn] at this;rw [e];exact this
 have no:∀ {x:Nat} {v:Value},w.cell? ⟨x,0,none⟩=some v->v ≠ .int .i64 (B.a k 0:Int)->R.g k≠x:=fun {x v} hx hv e=>by
  rw [<- e,hc] at hx;injection hx with hx;exact hv hx.symm
 have nm:∀ {x:Nat} {es:Array MapEntry} {c:Nat},w.heap[x]?=some (.map es c)->R.g k≠x:=fun {x es c} hx e=>by
  rw [<- e] at hx;simp [World.cell?,hx] at hc
 obtain ⟨es,c,hm⟩:=h.c.fm.obj;obtain ⟨es',c',hk'⟩:=h.c.pt.ht.map.obj;have n0:=h.c.pt.ht.n1;simp only [Bm.L,List.mem_cons,List.not_mem_nil,or_false,not_or];refine ⟨no h.c.c0 (by simp),no (zcb h.d.top 0) (by simp),?_,no (zcb h.c.pt.hp.top 0) (by simp),no (zcb h.c.pt.ht.top 0) (by simp),no (h.c.pt.ht.cc (i:=0) (by omega)) (by simp),nm hk',nm hm⟩;have hbb:=(zcb h.d.blk 0).trans (u8s_get (n:=B.T.n*128) (by omega));exact no hbb (by simp)
theorem BaseIn.fL (h:BaseIn w M R B) {k:Nat} {f:Nat->Nat} (hk:k<B.T.n) (hf:B.fr k=some f):R.fg k∉M.L:=by
 obtain ⟨_,_,_,cur,z,hx⟩:=h.c.fd k f hk hf;obtain ⟨es,c,hm⟩:=h.c.fm.obj;obtain ⟨es',c',hk'⟩:=h.c.pt.ht.map.obj;simp only [Bm.L,List.mem_cons,List.not_mem_nil,or_false,not_or];exact ⟨cells_ne hx h.c.top (by decide),cells_ne hx h.d.top (by decide),cells_ne hx h.d.blk (by decide),cells_ne hx h.c.pt.hp.top (by decide),cells_ne hx h.c.pt.ht.top (by decide),cells_ne hx h.c.pt.ht.cs (by decide),fun e=>map_ne_cells hk' hx e.symm,fun e=>map_ne_cells hm hx e.symm⟩
theorem BaseIn.fd_keep (h:BaseIn w M R B) (c:Chg M.L w w') {k:Nat} {f:Nat->Nat} (hk:k<B.T.n) (hf:B.fr k=some f):128<=R.fc k/\R.fc k<=maxLen/\BytesAt w' (R.fg k) 0 128 f/\∃ cur z,w'.heap[R.fg k]?=some (.cells cur 5 z):=by
 obtain ⟨h1,h2,h3,cur,z,h4⟩:=h.c.fd k f hk hf;have hn:=h.fL hk hf;exact ⟨h1,h2,h3.chg c hn,cur,z,(c.block _ (zhl h4) hn).trans h4⟩
theorem BaseIn.remake (h:BaseIn w M R B) (c:Chg M.L w w') (hn:B'.T.n=B.T.n) (ha:B'.a=B.a) (hg:R'.g=R.g) (hc:R'.c=R.c) (top:w'.heap[M.b]?=some (.cells (fnRow 44 (baseV M R' B')) 51 (0,0))) (pt:PT w' M.p M.t M.bc M.bk B'.K B'.T)
  (fm:KMapV Tryz.prog 3 goodF w' M.mf B'.T.n (frV R' B')) (fd:∀ k f,k<B'.T.n->B'.fr k=some f->128<=R'.fc k/\R'.fc k<=maxLen/\BytesAt w' (R'.fg k) 0 128 f/\∃ cur z,w'.heap[R'.fg k]?=some (.cells cur 5 z))
  (d:DiskAt w' M.d M.bb (.slice none 0 0) ⟨B'.T.n,B'.D,[]⟩) (ok:B'.Ok):BaseIn w' M R' B':=by
 refine ⟨{ top:=top,pt:=pt,sh:=?_,fm:=fm,fd:=fd,ok:=ok,ne:=h.c.ne,glt:=fun k hk=>by rw [hg];exact zLl (h.c.glt k hk) c.size },d⟩;rw [hn,ha,hg,hc];exact h.c.sh.chg c (h.gL (by omega)) (h.gL (by omega))
theorem baseV_same (hn:B'.T.n=B.T.n) (hS:B'.S=B.S) (hK:B'.Kp=B.Kp) (hg:R'.g=R.g) (hc:R'.c=R.c):baseV M R' B'=baseV M R B:=by
 funext i
 unfold baseV;rw [hn,hS,hK,hg,hc]
theorem base_set {V V':Nat->Value} {k:Nat} {v:Value} (hk:k<44) (h1:V' k=v) (h2:∀ j,j<44->j≠k->V' j=V j):(fnRow 44 V).setIfInBounds k v=fnRow 44 V':=by
 apply Array.ext_getElem?;intro j;rw [Array.getElem?_setIfInBounds];by_cases hj:j<44
 ·rw [zfg hj,zfg hj]
  by_cases e:k=j
  ·subst e;rw [if_pos rfl,if_pos (by rw [zfs];exact hk),h1]
  ·rw [if_neg e,h2 j hj (fun q=>e q.symm)]
 ·rw [Array.getElem?_eq_none (by rw [zfs];omega),Array.getElem?_eq_none (by rw [zfs];omega)]
  by_cases e:k=j
  ·omega
  ·rw [if_neg e]
theorem BaseAt.of {F:List Nat} (h:BaseIn w M R B) (hF:∀ x,Bown M R B x->x∉F) (h':BaseIn w' M R' B') (hn:B'.T.n=B.T.n) (hg:R'.g=R.g) (hq:∀ q,q∈F->q<w.heap.size)
  (hf:∀ k,k<B.T.n->(B'.fr k).isSome=true->((B.fr k).isSome=true/\R'.fg k=R.fg k)∨w.heap.size<=R'.fg k):BaseAt w' M F B':=by
 refine ⟨R',h',fun x hx=>?_⟩;rcases hx with hx | ⟨k,hk,rfl⟩ | ⟨k,hk,hs,rfl⟩
 ·exact hF x (.inl hx)
 ·rw [hg];exact hF _ (.inr (.inl ⟨k,hk,rfl⟩))
 ·rcases hf k (by rw [<- hn];exact hk) hs with ⟨h1,h2⟩ | h1
  ·rw [h2];exact hF _ (.inr (.inr ⟨k,by rw [<- hn];exact hk,h1,rfl⟩))
  ·intro hm;have:=hq _ hm;omega
end
end Go.Proofs.YtkhcaclndepgbaaGreat
