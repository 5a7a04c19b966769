/- Package base: what its calls lean on: slices.Contains of numbers, slices.Clone of bytes. · Package base: a base's blocks are apart; a base is made anew out of its parts; SetRoot, SetMark. · Package base: Read, Put, Over, Up, Down, Back. · Package base: what a base's users call. · Package leaf: numbers in memory; the body of a node; each, as Encode calls it. -/
import Derived.Test.YtkhcaclndepgbaaGreatZg24
import Derived.Test.YtkhcaclndepgbaaGreatZg21
import Derived.Test.YtkhcaclndepgbaaGreatZg02
import Derived.Deep.RegionHeld3
set_option linter.unusedVariables false
set_option linter.unusedSimpArgs false
set_option maxRecDepth 100000
set_option maxHeartbeats 20000000
namespace Go.Proofs.YtkhcaclndepgbaaGreat
open Go.RowKit
theorem wpList_app {ops:Array Oper} {rest:List Oper} {o:Oper} {a:Act} {w:World} {Q:Exit→Act→World→Prop} (hg:o.guard=none) (s x:Operand) (t:TypeId)
  (hop:o.op = .call { callee := .builtin .append,args:=#[s,x],argTypes:=#[t,t] }) (hty:o.type=t) {base size n m bytes:Nat} {e:TypeId} {z v xv:Value} {xs news:List Value}
  (ht:Tryz.prog.underlying t=some (.slice e)) (hinfo:(Tryz.prog.info? e).map (fun i=>(i.zero,i.size,i.bytes))=some (some z,size,bytes)) (hzs:z.cells.size=size) (hsz:0<size) (hby:bytes≤1000)
  (hs:a.eval s=v) (hx:a.eval x=xv) (hown:w.ownsRow base e size v n xs) (hsrc:AppSrc w size xv m news) (hnm:n+m≤3000000) (hbase:base≤w.heap.size)
  (hK:∀ v' w',w'.ownsRow base e size v' (n+m) (xs++news)→w.grownBy w' v.ownBlock→(v'.ownBlock=v.ownBlock∨v'.ownBlock=some w.heap.size)→wpList Tryz.prog ops Q rest (a.put o.dst v') w'):wpList Tryz.prog ops Q (o::rest) a w:=by
 refine wpList_plain hg fun K hK'=>?_
 obtain ⟨v',w',hrun,r1,r2,r3⟩:=run_app ht hinfo hzs hsz hby hown hsrc hnm hbase
 unfold Oper.wp
 simp [execOp,hop,resolve,invoke,builtin,hs,hx,hty,hrun,Result.andThen]
 exact hK' _ _ (hK _ _ r1 r2 r3)
def u8Vs (n:Nat) (f:Nat→Nat):List Value:=(List.range n).map fun i => .int .u8 (f i:Int)
theorem bytes_src {w:World} {k o n c:Nat} {f:Nat→Nat} (h:BytesAt w k o n f) (hk:k<w.heap.size):AppSrc w 1 (.slice (some ⟨k,o,none⟩) n c) n (u8Vs n f):=by
 refine ⟨by simp [u8Vs],fun u hu=>?_,.inl ⟨k,o,c,rfl,hk,fun j u hu=>?_⟩⟩
 ·simp only [u8Vs,List.mem_map] at hu
  obtain ⟨i,_,rfl⟩:=hu
  rfl
 ·have hj:j<n:=by
   have:=(List.getElem?_eq_some_iff.1 hu).1
   simpa [u8Vs] using this
  have e:(u8Vs n f)[j]?=some (.int .u8 (f j:Int)):=by simp [u8Vs,hj]
  rw [e] at hu
  rw [← hu]
  exact (h j hj).1
theorem own_bytes {w:World} {base n:Nat} {v:Value} {f:Nat→Nat} (h:w.ownsRow base 5 1 v n (u8Vs n f)) (hn:0<n) (hf:∀ i,i<n→f i≤255):∃ g c,v = .slice (some ⟨g,0,none⟩) n c∧n≤c∧c≤maxLen∧base≤g∧(∃ cur,w.heap[g]?=some (.cells cur 5 (0,0)))∧BytesAt w g 0 n f:=by
 obtain ⟨g,c,e,h1,h2,h3,h4,h5⟩:=zol h hn
 refine ⟨g,c,e,h1,h2,h3,?_,fun i hi=>⟨?_,hf i hi⟩⟩
 ·rcases h.2 with ⟨_,h0⟩ | ⟨g',c',cur,e',_,hg',_⟩
  ·omega
  ·rw [e] at e'
   injection e' with e' _ _
   injection e' with e'
   injection e' with e'
   subst e'
   exact ⟨cur,hg'⟩
 ·rw [Nat.zero_add,h5 i (by omega)]
  simp [u8Vs,hi]
theorem clone8_at {w:World} {k o n c:Nat} {f:Nat→Nat} (h:BytesAt w k o n f) (h0:0<n) (hn:n≤100000) :
  Calls Tryz.prog 78 #[.slice (some ⟨k,o,none⟩) n c] w fun e w'=>∃ g c',e = .returned (.slice (some ⟨g,0,none⟩) n c')∧n≤c'∧c'≤maxLen∧w.heap.size≤g∧(∃ cur,w'.heap[g]?=some (.cells cur 5 (0,0)))∧BytesAt w' g 0 n f∧Chg [] w w':=by
 have hk:k<w.heap.size:=World.block_lt_of_cell? w ⟨k,o+0,none⟩ (h 0 h0).1
 have hnil:=fun w=>Lib.run_eql_slice_nil (P:=Tryz.prog) w 22 5 (some ⟨k,o,none⟩) n c 0 0 Tryz.underlying22
 simp only [Option.isNone_some] at hnil
 have HE:=Lib.hid (own_emptyG (w:=w) (base:=w.heap.size) (size:=1) (e:=5) (Nat.le_refl _))
 have HC0:=Lib.hid ((Chg.refl [] w).alloc (.cells #[] 5))
 have H:=Lib.hid (And.intro h hk)
 clear h
 go_enter Tryz.func78,Tryz.ntmps78
 go_wp2_with (at_builtin;refine wpList_app rfl _ _ 22 rfl rfl (base:=w.heap.size) (size:=1) (n:=0) (m:=n) (news:=u8Vs n f) Tryz.underlying22 infoU8 rfl (by omega) (by omega) rfl rfl HE.out (bytes_src (H.out.1.chg HC0.out (by simp)) (Nat.lt_of_lt_of_le H.out.2 HC0.out.size)) (by omega) HC0.out.size ?_;intro v' w2 hown2 hg2 _;have HOWN2:=Lib.hid hown2;have HC2:=Lib.hid (HC0.out.grown hg2 (fun k hk => .inr (HE.out.lt k hk).1));clear hown2 hg2)
 go_ret
 have ho:=HOWN2.out
 rw [Nat.zero_add,List.nil_append] at ho
 obtain ⟨g,c',rfl,q1,q2,q3,q4,q5⟩:=own_bytes ho h0 (fun i hi=>(H.out.1 i hi).2)
 exact ⟨g,c',rfl,q1,q2,q3,q4,q5,HC2.out⟩
def pageB (B:Bs) (k:Nat) (x:Int):Bool:=(List.range (nOf B.T.n k)).any fun i=>decide ((B.a k i:Int)=x)
theorem pageB_iff {B:Bs} {k:Nat} {x:Int} : pageB B k x=true↔∃ i,i<nOf B.T.n k∧(B.a k i:Int)=x:=by simp [pageB]
theorem map_ne_cells {w:World} {a b:Nat} {es:Array MapEntry} {c:Nat} {cs:Array Value} {T:TypeId} {z:Nat × Nat} (ha:w.heap[a]?=some (.map es c)) (hb:w.heap[b]?=some (.cells cs T z)):a≠b:=by
 rintro rfl
 rw [ha] at hb
 cases hb
section
variable {w w':World} {M:Bm} {R R':Br} {B B':Bs}
theorem BaseIn.nodup (h:BaseIn w M R B):M.L.Nodup:=by
 obtain ⟨es,c,hm⟩:=h.c.fm.obj
 obtain ⟨es',c',hk⟩:=h.c.pt.ht.map.obj
 have hb:=h.c.top
 have hd:=h.d.top
 have hbb:=h.d.blk
 have hp:=h.c.pt.hp.top
 have ht:=h.c.pt.ht.top
 have hbc:=h.c.pt.ht.cs
 simp only [Bm.L,List.nodup_cons,List.mem_cons,List.not_mem_nil,or_false,not_or,List.nodup_nil,and_true]
 refine ⟨⟨cells_ne hb hd (by decide),cells_ne hb hbb (by decide),cells_ne hb hp (by decide),cells_ne hb ht (by decide),cells_ne hb hbc (by decide),fun e=>map_ne_cells hk hb e.symm,fun e=>map_ne_cells hm hb e.symm⟩,
  ⟨cells_ne hd hbb (by decide),cells_ne hd hp (by decide),cells_ne hd ht (by decide),cells_ne hd hbc (by decide),fun e=>map_ne_cells hk hd e.symm,fun e=>map_ne_cells hm hd e.symm⟩,
  ⟨cells_ne hbb hp (by decide),cells_ne hbb ht (by decide),cells_ne hbb hbc (by decide),fun e=>map_ne_cells hk hbb e.symm,fun e=>map_ne_cells hm hbb e.symm⟩,
  ⟨cells_ne hp ht (by decide),cells_ne hp hbc (by decide),fun e=>map_ne_cells hk hp e.symm,fun e=>map_ne_cells hm hp e.symm⟩,
  ⟨cells_ne ht hbc (by decide),fun e=>map_ne_cells hk ht e.symm,fun e=>map_ne_cells hm ht e.symm⟩,
  ⟨fun e=>map_ne_cells hk hbc e.symm,fun e=>map_ne_cells hm hbc e.symm⟩,fun e=>h.c.ne e.symm,fun e=>e⟩
theorem nOf_pos {n k:Nat} (hn:16≤n):0<nOf n k:=by
 unfold nOf pg
 split <;> omega
theorem BaseIn.gL (h:BaseIn w M R B) {k:Nat} (hk:k<2):R.g k∉M.L:=by
 have hn:=nOf_pos (k:=k) h.c.ok.n.1
 have hc:w.cell? ⟨R.g k,0,none⟩=some (.int .i64 (B.a k 0:Int)):=by
  rcases h.c.sh.l k hk with ⟨e,_⟩ | ⟨g,c,e,h1,h2,h3,h4⟩
  ·cases e
  ·injection e with e _ _
   injection e with e
   injection e with e
   have:=h4 0 (by rw [atL_len];exact hn)
   rw [atL_get _ _ hn] at this
   rw [e];exact this
 have no:∀ {x:Nat} {v:Value},w.cell? ⟨x,0,none⟩=some v→v ≠ .int .i64 (B.a k 0:Int)→R.g k≠x:=fun {x v} hx hv e=>by
  rw [← e,hc] at hx
  injection hx with hx
  exact hv hx.symm
 have nm:∀ {x:Nat} {es:Array MapEntry} {c:Nat},w.heap[x]?=some (.map es c)→R.g k≠x:=fun {x es c} hx e=>by
  rw [← e] at hx
  simp [World.cell?,hx] at hc
 obtain ⟨es,c,hm⟩:=h.c.fm.obj
 obtain ⟨es',c',hk'⟩:=h.c.pt.ht.map.obj
 have n0:=h.c.pt.ht.n1
 simp only [Bm.L,List.mem_cons,List.not_mem_nil,or_false,not_or]
 refine ⟨no h.c.c0 (by simp),no (zcb h.d.top 0) (by simp),?_,no (zcb h.c.pt.hp.top 0) (by simp),no (zcb h.c.pt.ht.top 0) (by simp),no (h.c.pt.ht.cc (i:=0) (by omega)) (by simp),nm hk',nm hm⟩
 have hbb:=(zcb h.d.blk 0).trans (u8s_get (n:=B.T.n*128) (by omega))
 exact no hbb (by simp)
theorem BaseIn.fL (h:BaseIn w M R B) {k:Nat} {f:Nat→Nat} (hk:k<B.T.n) (hf:B.fr k=some f):R.fg k∉M.L:=by
 obtain ⟨_,_,_,cur,z,hx⟩:=h.c.fd k f hk hf
 obtain ⟨es,c,hm⟩:=h.c.fm.obj
 obtain ⟨es',c',hk'⟩:=h.c.pt.ht.map.obj
 simp only [Bm.L,List.mem_cons,List.not_mem_nil,or_false,not_or]
 exact ⟨cells_ne hx h.c.top (by decide),cells_ne hx h.d.top (by decide),cells_ne hx h.d.blk (by decide),cells_ne hx h.c.pt.hp.top (by decide),cells_ne hx h.c.pt.ht.top (by decide),cells_ne hx h.c.pt.ht.cs (by decide),fun e=>map_ne_cells hk' hx e.symm,fun e=>map_ne_cells hm hx e.symm⟩
theorem BaseIn.fd_keep (h:BaseIn w M R B) (c:Chg M.L w w') {k:Nat} {f:Nat→Nat} (hk:k<B.T.n) (hf:B.fr k=some f):128≤R.fc k∧R.fc k≤maxLen∧BytesAt w' (R.fg k) 0 128 f∧∃ cur z,w'.heap[R.fg k]?=some (.cells cur 5 z):=by
 obtain ⟨h1,h2,h3,cur,z,h4⟩:=h.c.fd k f hk hf
 have hn:=h.fL hk hf
 exact ⟨h1,h2,h3.chg c hn,cur,z,(c.block _ (zhl h4) hn).trans h4⟩
theorem BaseIn.remake (h:BaseIn w M R B) (c:Chg M.L w w') (hn:B'.T.n=B.T.n) (ha:B'.a=B.a) (hg:R'.g=R.g) (hc:R'.c=R.c) (top:w'.heap[M.b]?=some (.cells (fnRow 44 (baseV M R' B')) 51 (0,0))) (pt:PT w' M.p M.t M.bc M.bk B'.K B'.T)
  (fm:KMapV Tryz.prog 3 goodF w' M.mf B'.T.n (frV R' B')) (fd:∀ k f,k<B'.T.n→B'.fr k=some f→128≤R'.fc k∧R'.fc k≤maxLen∧BytesAt w' (R'.fg k) 0 128 f∧∃ cur z,w'.heap[R'.fg k]?=some (.cells cur 5 z))
  (d:DiskAt w' M.d M.bb (.slice none 0 0) ⟨B'.T.n,B'.D,[]⟩) (ok:B'.Ok):BaseIn w' M R' B':=by
 refine ⟨{ top:=top,pt:=pt,sh:=?_,fm:=fm,fd:=fd,ok:=ok,ne:=h.c.ne,glt:=fun k hk=>by rw [hg];exact Nat.lt_of_lt_of_le (h.c.glt k hk) c.size },d⟩
 rw [hn,ha,hg,hc]
 exact h.c.sh.chg c (h.gL (by omega)) (h.gL (by omega))
theorem baseV_same (hn:B'.T.n=B.T.n) (hS:B'.S=B.S) (hK:B'.Kp=B.Kp) (hg:R'.g=R.g) (hc:R'.c=R.c):baseV M R' B'=baseV M R B:=by
 funext i
 unfold baseV
 rw [hn,hS,hK,hg,hc]
theorem BaseAt.of {F:List Nat} (h:BaseIn w M R B) (hF:∀ x,Bown M R B x→x∉F) (h':BaseIn w' M R' B') (hn:B'.T.n=B.T.n) (hg:R'.g=R.g) (hq:∀ q,q∈F→q<w.heap.size)
  (hf:∀ k,k<B.T.n→(B'.fr k).isSome=true→((B.fr k).isSome=true∧R'.fg k=R.fg k)∨w.heap.size≤R'.fg k):BaseAt w' M F B':=by
 refine ⟨R',h',fun x hx=>?_⟩
 rcases hx with hx | ⟨k,hk,rfl⟩ | ⟨k,hk,hs,rfl⟩
 ·exact hF x (.inl hx)
 ·rw [hg];exact hF _ (.inr (.inl ⟨k,hk,rfl⟩))
 ·rcases hf k (by rw [← hn];exact hk) hs with ⟨h1,h2⟩ | h1
  ·rw [h2];exact hF _ (.inr (.inr ⟨k,by rw [← hn];exact hk,h1,rfl⟩))
  ·intro hm;have:=hq _ hm;omega
end
theorem bRead_at {w:World} {M:Bm} {R:Br} {B:Bs} (h:BaseIn w M R B) {a:Nat} (ha:a<B.T.n) :
  Calls Tryz.prog 26 #[.pointer (some ⟨M.b,0,none⟩),.int .i64 (a:Int)] w fun e w'=>∃ g c,e = .returned (.tuple #[.slice (some ⟨g,0,none⟩) 128 c,.int .i64 0])∧128≤c∧c≤maxLen∧w.heap.size≤g∧(∃ cur,w'.heap[g]?=some (.cells cur 5 (0,0)))∧BytesAt w' g 0 128 (B.read a)∧Chg [] w w':=by
 have n1:=h.c.ok.n
 have cn:=bNone_at h.c
 have cb:=bBlocks_at h.c
 have cf:=bFresh_at h.c (a:Int) (WalkArith.wf_i64 (by omega))
 have efb:B.freshB (a:Int)=(B.fr a).isSome:=by
  unfold Bs.freshB
  rw [decide_eq_true (show (0:Int)≤(a:Int) by omega),decide_eq_true (show (a:Int)<(B.T.n:Int) by omega)]
  rfl
 rw [efb] at cf
 have i0:¬ (a:Int)<0:=by omega
 have i1:¬ (B.T.n:Int)≤(a:Int):=by omega
 cases hf:B.fr a with
 | some f =>
  rw [hf] at cf
  obtain ⟨f1,f2,f3,_⟩:=h.c.fd a f ha hf
  have lk:=(h.c.fm.look (t:=43) Tryz.underlying3 Tryz.underlying43 (zeroSl8 w) goodF_zero ha n1.2).2
  rw [show (frV R B a).getD (.slice none 0 0) = .slice (some ⟨R.fg a,0,none⟩) 128 (R.fc a) from by unfold frV;rw [hf];rfl] at lk
  have c5:=h.c.c5
  have cc:=clone8_at (n:=128) (c:=R.fc a) f3 (by omega) (by omega)
  have er:B.read a=f:=by unfold Bs.read;rw [hf];rfl
  rw [er]
  have CC:=Lib.hid cc
  clear h efb er f1 f2 f3 cc hf
  go_enter Tryz.func26,Tryz.ntmps26
  go_wp2_with fail
  refine (cn).mono ?_
  rintro e w' ⟨rfl,rfl⟩
  go_wp2_with fail
  refine (cb).mono ?_
  rintro e w' ⟨rfl,rfl⟩
  go_wp2_with fail
  refine (cf).mono ?_
  rintro e w' ⟨rfl,rfl⟩
  go_wp2_with fail
  refine CC.out.mono ?_
  rintro e w' ⟨g,c,rfl,q1,q2,q3,q4,q5,q6⟩
  have HQ:=Lib.hid (And.intro q1 (And.intro q2 (And.intro q3 (And.intro q4 (And.intro q5 q6)))))
  clear q1 q2 q3 q4 q5 q6 CC
  go_wp2_with fail
  go_ret2
  exact ⟨g,c,rfl,HQ.out⟩
 | none =>
  rw [hf] at cf
  have c0:=h.c.c0
  have cr:=dRead_at (at':=a) h.d.rd ha
  have er:B.read a=B.D a:=by unfold Bs.read;rw [hf];rfl
  rw [er]
  have HD:=Lib.hid h.c.ok.dle
  have CR:=Lib.hid cr
  clear h efb er cr hf
  go_enter Tryz.func26,Tryz.ntmps26
  go_wp2_with fail
  refine (cn).mono ?_
  rintro e w' ⟨rfl,rfl⟩
  go_wp2_with fail
  refine (cb).mono ?_
  rintro e w' ⟨rfl,rfl⟩
  go_wp2_with fail
  refine (cf).mono ?_
  rintro e w' ⟨rfl,rfl⟩
  go_wp2_with fail
  refine CR.out.mono ?_
  rintro e w' ⟨rfl,hb,hc⟩
  have HQ:=Lib.hid (And.intro hb hc)
  clear hb hc CR
  go_wp2_with fail
  go_ret2
  refine ⟨w.heap.size,128,rfl,Nat.le_refl _,by unfold maxLen;omega,Nat.le_refl _,⟨_,HQ.out.1⟩,fun i hi=>⟨?_,HD.out a ha i hi⟩,HQ.out.2⟩
  rw [Nat.zero_add,zcb HQ.out.1,u8s_get hi]
  rfl
def Bs.at_ (B:Bs):Nat:=(takeR B.T B.K).getD 0
def Bs.put (B:Bs) (f:Nat→Nat):Bs := { B with T:=B.T.set B.at_ 1,K:=takeK B.T B.K,fr:=fun x=>if x=B.at_ then some f else B.fr x }
theorem Bs.Ok.put_spec {B:Bs} (h:B.Ok) (hr:0<B.room):takeR B.T B.K=some B.at_∧2≤B.at_∧B.at_<B.T.n∧B.T.free B.at_=true:=by
 have hf:B.K.first≤B.K.next:=by rw [h.first];exact h.nx.1
 cases ht:takeR B.T B.K with
 | none =>
  have:=room_none hf h.nx.2 ht
  rw [h.first] at this
  unfold Bs.room at hr
  omega
 | some b =>
  have e:B.at_=b:=by unfold Bs.at_;rw [ht];rfl
  have:=takeR_spec hf h.nx.2 ht
  rw [h.first] at this
  rw [e]
  exact ⟨rfl,this⟩
theorem Bs.Ok.put_ok {B:Bs} (h:B.Ok) (hr:0<B.room) {f:Nat→Nat} (hf:∀ i,i<128→f i≤255):(B.put f).Ok:=by
 obtain ⟨ht,b1,b2,b3⟩:=h.put_spec hr
 have hff:B.K.first≤B.K.next:=by rw [h.first];exact h.nx.1
 have hk:=takeK_bd (T:=B.T) (K:=B.K) hff h.nx.2
 have hfree:=b3
 simp only [Tal.free,Bool.and_eq_true,beq_iff_eq] at hfree
 have own:=h.own.take (b:=B.at_) b3
 refine { n:=h.n,own:=own,a2:=h.a2,low:=?_,le:=?_,first:=hk.2.2.2.trans h.first,nx:=⟨?_,hk.2.1⟩,fr:=?_,fle:=?_,s:=h.s,kp:=h.kp,sg:=h.sg,disk:=h.disk,dle:=h.dle }
 ·intro b hb
  refine ⟨?_,(h.low b hb).2⟩
  show (if b=B.at_ then 1 else B.T.now b)=0
  rw [if_neg (by omega)];exact (h.low b hb).1
 ·intro b hb
  refine ⟨?_,(h.le b hb).2⟩
  show (if b=B.at_ then 1 else B.T.now b)≤65535
  split
  ·omega
  ·exact (h.le b hb).1
 ·have:=hk.1
  rw [hk.2.2.2,h.first] at this
  exact this
 ·intro b hb
  show ((if b=B.at_ then some f else B.fr b).isSome=true↔B.T.kept b=0∧(if b=B.at_ then 1 else B.T.now b)≠0)
  by_cases e:b=B.at_
  ·rw [if_pos e,if_pos e,e]
   simp [hfree.2]
  ·rw [if_neg e,if_neg e];exact h.fr b hb
 ·intro b g hb hg
  have hg':(if b=B.at_ then some f else B.fr b)=some g:=hg
  by_cases e:b=B.at_
  ·rw [if_pos e] at hg';injection hg' with hg';rw [← hg'];exact hf
  ·rw [if_neg e] at hg';exact h.fle b g hb hg'
theorem BaseIn.anew {w w2:World} {M:Bm} {R:Br} {B B':Bs} {F:List Nat} {x g cg:Nat} {f:Nat→Nat} (h:BaseIn w M R B) (hFF:∀ q,Bown M R B q→q∉F) (c:Chg M.L w w2)
  (hn:B'.T.n=B.T.n) (ha:B'.a=B.a) (hS:B'.S=B.S) (hK:B'.Kp=B.Kp) (hD:B'.D=B.D) (hfr:B'.fr=fun y=>if y=x then some f else B.fr y) (pt:PT w2 M.p M.t M.bc M.bk B'.K B'.T)
  (top:w2.heap[M.b]?=some (.cells (fnRow 44 (baseV M R B)) 51 (0,0))) (fm:KMapV Tryz.prog 3 goodF w2 M.mf B.T.n (fun i=>if i=x then some (.slice (some ⟨g,0,none⟩) 128 cg) else frV R B i))
  (hg:w.heap.size≤g) (hd:128≤cg∧cg≤maxLen∧BytesAt w2 g 0 128 f∧∃ cur z,w2.heap[g]?=some (.cells cur 5 z)) (d:DiskAt w2 M.d M.bb (.slice none 0 0) ⟨B.T.n,B.D,[]⟩) (ok:B'.Ok) (hF:∀ q,q∈F→q<w.heap.size):BaseAt w2 M F B':=by
 have hfe:∀ y,y≠x→B'.fr y=B.fr y:=fun y hy=>by rw [hfr];exact if_neg hy
 have hfx:B'.fr x=some f:=by rw [hfr];exact if_pos rfl
 let R':Br := { R with fg:=fun y=>if y=x then g else R.fg y,fc:=fun y=>if y=x then cg else R.fc y }
 have hin:BaseIn w2 M R' B':=by
  refine h.remake c hn ha rfl rfl ?_ pt ?_ ?_ ?_ ok
  ·rw [baseV_same hn hS hK rfl rfl];exact top
  ·rw [hn]
   refine fm.congr (fun i hi=>?_)
   unfold frV
   by_cases e:i=x
   ·subst e
    rw [if_pos rfl,hfx]
    show _=some (Value.slice (some ⟨if i=i then g else _,0,none⟩) 128 (if i=i then cg else _))
    rw [if_pos rfl,if_pos rfl]
   ·rw [if_neg e,hfe i e]
    cases B.fr i with
    | none=>rfl
    | some f' =>
     show _=some (Value.slice (some ⟨if i=x then g else R.fg i,0,none⟩) 128 (if i=x then cg else R.fc i))
     rw [if_neg e,if_neg e]
     rfl
  ·intro k f' hk hf'
   rw [hn] at hk
   by_cases e:k=x
   ·subst e
    rw [hfx] at hf'
    injection hf' with hf'
    subst hf'
    show 128≤(if k=k then cg else _)∧(if k=k then cg else _)≤maxLen∧BytesAt w2 (if k=k then g else _) 0 128 _∧∃ cur z,w2.heap[if k=k then g else _]?=_
    rw [if_pos rfl,if_pos rfl]
    exact hd
   ·rw [hfe k e] at hf'
    have:=h.fd_keep c hk hf'
    show 128≤(if k=x then cg else R.fc k)∧(if k=x then cg else R.fc k)≤maxLen∧BytesAt w2 (if k=x then g else R.fg k) 0 128 _∧∃ cur z,w2.heap[if k=x then g else R.fg k]?=_
    rw [if_neg e,if_neg e]
    exact this
  ·rw [hn,hD];exact d
 refine BaseAt.of h hFF hin hn rfl hF (fun k hk hs=>?_)
 by_cases e:k=x
 ·exact .inr (by show _≤(if k=x then g else R.fg k);rw [if_pos e];exact hg)
 ·exact .inl ⟨by rw [← hfe k e];exact hs,if_neg e⟩
theorem bPut_at {w:World} {M:Bm} {F:List Nat} {B:Bs} (h:BaseAt w M F B) (hF:∀ q,q∈F→q<w.heap.size) {k o c:Nat} {f:Nat→Nat} (hd:BytesAt w k o 128 f) (hk:k∉M.L) (hr:0<B.room) :
  Calls Tryz.prog 17 #[.pointer (some ⟨M.b,0,none⟩),.slice (some ⟨k,o,none⟩) 128 c] w fun e w'=>e = .returned (.tuple #[.int .i64 (B.at_:Int),.int .i64 0])∧BaseAt w' M F (B.put f)∧Chg M.L w w':=by
 obtain ⟨R,hB,hFF⟩:=h
 have n1:=hB.c.ok.n
 have cm:=bMay_at hB.c
 have cr:=bRoom_at hB.c
 have c2:=hB.c.c2
 obtain ⟨ht,b1,b2,b3⟩:=hB.c.ok.put_spec hr
 have b2lt:=b2
 have cp:=hB.c.pt.take
 have e1:takeB B.T B.K=(B.at_:Int):=by unfold takeB;rw [ht]
 have e2:takeE B.T B.K=0:=by unfold takeE;rw [ht]
 have e3:takeT B.T B.K=B.T.set B.at_ 1:=by unfold takeT;rw [ht]
 rw [e1,e2,e3] at cp
 have hok:=hB.c.ok.put_ok hr (fun i hi=>(hd i hi).2)
 have i0:¬ (B.room=0):=by omega
 have HB:=Lib.hid (And.intro hB hFF)
 have HH:=Lib.hid (And.intro hd (And.intro hok (And.intro b2 hF)))
 have CP:=Lib.hid cp
 obtain ⟨x,hx⟩:∃ x,x=B.at_:=⟨_,rfl⟩
 rw [← hx] at CP ⊢
 have HX:=Lib.hid hx
 have xlt:x<B.T.n:=by rw [hx];exact b2lt
 clear hB hFF hd hok hF e1 e2 e3 ht b1 b2 b3 b2lt cp hx
 go_enter Tryz.func17,Tryz.ntmps17
 go_wp2_with fail
 refine (cm).mono ?_
 rintro e w' ⟨rfl,rfl⟩
 go_wp2_with fail
 refine (cr).mono ?_
 rintro e w' ⟨rfl,rfl⟩
 go_wp2_with fail
 refine CP.out.mono ?_
 clear CP
 rintro e w1 ⟨rfl,hpt,hc⟩
 have nd:=HB.out.1.nodup
 simp only [Bm.L,List.nodup_cons,List.mem_cons,List.not_mem_nil,or_false,not_or,List.nodup_nil,and_true] at nd
 have HN:=Lib.hid nd
 have hcL:=hc.mono (L':=M.L) (by simp [Bm.L])
 have hb1:=(hc.block M.b (zhl HB.out.1.c.top) (by have:=HN.out;simp only [List.mem_cons,List.not_mem_nil,or_false,not_or];exact ⟨this.1.2.2.1,this.1.2.2.2.1,this.1.2.2.2.2.1,this.1.2.2.2.2.2.1⟩)).trans HB.out.1.c.top
 have c5:w1.cell? ⟨M.b,5,none⟩=some (.map (some M.mf)):=(cell_fn hb1 (by omega)).trans rfl
 have hm1:=HB.out.1.c.fm.chg hc (by have:=HN.out;simp only [List.mem_cons,List.not_mem_nil,or_false,not_or];exact ⟨fun e=>this.2.2.2.1.2.2.2 e.symm,fun e=>this.2.2.2.2.1.2.2 e.symm,fun e=>this.2.2.2.2.2.1.2 e.symm,HB.out.1.c.ne⟩)
 have hd1:=HH.out.1.chg hcL hk
 have cc:=clone8_at (c:=c) (hd1.chg (Chg.refl [] w1).drew (by simp)) (by omega) (by omega)
 have CC:=Lib.hid cc
 have l1:=zhl hb1
 have HKD:=Lib.hid hc
 have HP:=Lib.hid (And.intro hpt (And.intro hcL (And.intro hb1 hm1)))
 clear cc nd hpt hc hcL hb1 hm1 hd1
 go_wp2_with fail
 go_upto_region 9 with fail
 refine wp_region_held_drew (S:=fun W'=>W'.cell? ⟨M.b,5,none⟩=some (.map (some M.mf))) (by kernel_rfl) (by exact c5) (fun hHeld=>?_)
 refine wV 0 ?_ (hy:=by intro W' s0;go_simp;first | done | with_reducible rfl)
 refine wV 1 ?_ (hy:=by intro W' s0;go_simp;first | done | with_reducible rfl)
 refine wV 2 ?_ (hy:=by intro W' s0;go_simp;first | done | with_reducible rfl)
 refine wV 3 ?_ (hy:=by intro W' s0;go_simp;first | done | with_reducible rfl)
 refine wV 4 ?_ (hy:=by intro W' s0;go_simp;first | done | with_reducible rfl)
 refine wV 5 ?_ (hy:=by intro W' s0;go_simp;first | done | with_reducible rfl)
 try simp only [Act.put,sA1,sA2,sA3]
 refine wE 6 (fun K hK=>?_)
 (go_simp;refine CC.out.mono ?_;rintro e wR ⟨g,cg,rfl,q1,q2,q3,q4,q5,q6⟩;have HQ:=Lib.hid (And.intro q1 (And.intro q2 (And.intro q3 (And.intro q4 (And.intro q5 ((Chg.refl [] w1).drew.trans q6))))));clear q1 q2 q3 q4 q5 q6)
 refine hK.out _ _ ((HQ.out.2.2.2.2.2.cell (p:=⟨M.b,5,none⟩) l1 (by simp)).trans c5) (fun hHeld=>?_)
 clear hK K
 try simp only [Act.put,sA1,sA2,sA3]
 have hcR:=HQ.out.2.2.2.2.2
 have hmR:=HP.out.2.2.2.chg hcR (by simp)
 obtain ⟨w2,hrun,hm2,ht2⟩:=hmR.put (t:=43) (k:=x) (v := .slice (some ⟨g,0,none⟩) 128 cg) Tryz.underlying3 Tryz.underlying43 xlt n1.2 rfl
 have hc2:=mapTurned_chg ht2
 have HZ:=Lib.hid (And.intro hm2 hc2)
 clear hcR hmR hm2 ht2 hc2
 refine wE 7 (fun K hK=>?_)
 (go_simp)
 refine hK.out _ _ ((HZ.out.2.cell (p:=⟨M.b,5,none⟩) (Nat.lt_of_lt_of_le l1 HQ.out.2.2.2.2.2.size) (by have:=HN.out;simp only [List.mem_singleton];exact this.1.2.2.2.2.2.2)).trans ((HQ.out.2.2.2.2.2.cell (p:=⟨M.b,5,none⟩) l1 (by simp)).trans c5)) (fun hHeld=>?_)
 clear hK K
 try simp only [Act.put,sA1,sA2,sA3]
 refine wpAnyH_done (by kernel_rfl) ?_ _
 go_wp2_with fail
 go_ret2
 refine ⟨rfl,?_⟩
 have hcL:=HP.out.2.1
 have c02:Chg M.L w w2:=(hcL.trans (HQ.out.2.2.2.2.2.mono (by simp))).trans (HZ.out.2.mono (by simp [Bm.L]))
 refine ⟨?_,c02⟩
 have c12:Chg [M.mf] w1 w2:=(HQ.out.2.2.2.2.2.mono (by simp)).trans HZ.out.2
 have hne:∀ q,q≠M.mf→q∉[M.mf]:=fun q hq=>by simpa using hq
 have nd:=HN.out
 obtain ⟨cur,q5⟩:=HQ.out.2.2.2.1
 have gmf:g∉[M.mf]:=by
  refine hne _ (fun e=>?_)
  have h1:=HP.out.2.2.2.lt
  have h2:=HQ.out.2.2.1
  have h3:w1.drew.heap.size=w1.heap.size:=rfl
  omega
 refine HB.out.1.anew HB.out.2 (x:=x) (g:=g) (cg:=cg) (f:=f) c02 rfl rfl rfl rfl rfl (by rw [HX.out];rfl) ?_ ((c12.block M.b l1 (hne _ nd.1.2.2.2.2.2.2)).trans HP.out.2.2.1) HZ.out.1 (Nat.le_trans hcL.size HQ.out.2.2.1) ⟨HQ.out.1,HQ.out.2.1,HQ.out.2.2.2.2.1.chg HZ.out.2 gmf,_,_,(HZ.out.2.block g (zhl q5) gmf).trans q5⟩ ((HB.out.1.d.chg HKD.out (by simp [nd]) (by simp [nd]) (fun k hk=>by cases hk)).chg c12 (by simp [nd]) (by simp [nd]) (fun k hk=>by cases hk)) HH.out.2.1 HH.out.2.2.2
 have:=HP.out.1.chg c12 (hne _ nd.2.2.2.1.2.2.2) (hne _ nd.2.2.2.2.1.2.2) (hne _ nd.2.2.2.2.2.1.2) (hne _ nd.2.2.2.2.2.2.1)
 rw [HX.out] at this
 exact this
section
variable {w w':World} {M:Bm} {B:Bs} {L F:List Nat}
theorem BaseAt.cBlocks (h:BaseAt w M F B):Calls Tryz.prog 20 #[.pointer (some ⟨M.b,0,none⟩)] w fun e w'=>e = .returned (.int .i64 (B.T.n:Int))∧w=w':=by obtain ⟨R,hi,_⟩:=h;exact bBlocks_at hi.c
end
def NumsAt (w:World) (b off n:Nat) (f:Nat→Nat):Prop:=∀ i,i<n→w.cell? ⟨b,off+i,none⟩=some (.int .u64 (f i:Int))∧f i<18446744073709551616
theorem NumsAt.chg {w w':World} {b off n:Nat} {f:Nat→Nat} {L:List Nat} (h:NumsAt w b off n f) (c:Chg L w w') (hb:b∉L):NumsAt w' b off n f:=fun i hi=>by
 obtain ⟨h1,h2⟩:=h i hi
 exact ⟨(c.cell (p:=⟨b,off+i,none⟩) (World.block_lt_of_cell? w _ h1) hb).trans h1,h2⟩
def NumsIn (A:List Nat) (w:World) (v:Value) (n:Nat) (f:Nat→Nat):Prop :=
 ((∃ a c,v = .slice a 0 c∧c≤maxLen∧(a=none→c=0))∧n=0)∨∃ b off cap,v = .slice (some ⟨b,off,none⟩) n cap∧n≤cap∧cap≤maxLen∧b<w.heap.size∧b∉A∧NumsAt w b off n f
theorem NumsIn.chg {A L:List Nat} {w w':World} {v:Value} {n:Nat} {f:Nat→Nat} (h:NumsIn A w v n f) (c:Chg L w w') (hL:∀ k,k∈L→k∈A∨w.heap.size≤k):NumsIn A w' v n f:=by
 rcases h with h | ⟨b,off,cap,h1,h2,h3,h4,h5,h6⟩
 ·exact .inl h
 ·exact .inr ⟨b,off,cap,h1,h2,h3,Nat.lt_of_lt_of_le h4 c.size,h5,h6.chg c fun hm=>by rcases hL b hm with h | h;exact h5 h;omega⟩
theorem NumsIn.more {A B:List Nat} {w:World} {v:Value} {n:Nat} {f:Nat→Nat} (h:NumsIn A w v n f) (hB:∀ k,k∈B→k∈A∨w.heap.size≤k):NumsIn B w v n f:=by
 rcases h with h | ⟨b,off,cap,h1,h2,h3,h4,h5,h6⟩
 ·exact .inl h
 ·exact .inr ⟨b,off,cap,h1,h2,h3,h4,fun hm=>by rcases hB b hm with h | h;exact h5 h;omega,h6⟩
theorem NumsIn.len {A:List Nat} {w:World} {v:Value} {n:Nat} {f:Nat→Nat} (h:NumsIn A w v n f):∃ a cap,v = .slice a n cap:=by
 rcases h with ⟨⟨a,c,h,_⟩,rfl⟩ | ⟨b,off,cap,h,_⟩
 ·exact ⟨a,c,h⟩
 ·exact ⟨_,_,h⟩
def bodyF (n:Nat) (keys vals:Nat→Nat) (k i:Nat):Nat :=
 if i=0 then n else if i<1+16*k then (if (i - 1) % 16<8 then byteAt (keys ((i - 1) / 16)) (7 - (i - 1) % 16) else byteAt (vals ((i - 1) / 16)) (15 - (i - 1) % 16)) else 0
theorem bodyF_step (n:Nat) (keys vals:Nat→Nat) (k:Nat):putF (putF (bodyF n keys vals k) (1+16*k) 8 (keys k)) (1+16*k+8) 8 (vals k)=bodyF n keys vals (k+1):=by
 funext i
 unfold putF
 by_cases h2:1+16*k+8≤i∧i<1+16*k+8+8
 ·rw [if_pos h2]
  unfold bodyF
  have e1:(i - 1) / 16=k:=by omega
  have e2:(i - 1) % 16=i - 1 - 16*k:=by omega
  rw [if_neg (by omega),if_pos (by omega),e1,e2,if_neg (by omega)]
  congr 1
  omega
 ·rw [if_neg h2]
  by_cases h1:1+16*k≤i∧i<1+16*k+8
  ·rw [if_pos h1]
   unfold bodyF
   have e1:(i - 1) / 16=k:=by omega
   have e2:(i - 1) % 16=i - 1 - 16*k:=by omega
   rw [if_neg (by omega),if_pos (by omega),e1,e2,if_pos (by omega)]
   congr 1
   omega
  ·rw [if_neg h1]
   unfold bodyF
   by_cases h0:i=0
   ·rw [if_pos h0,if_pos h0]
   ·rw [if_neg h0,if_neg h0]
    by_cases h3:i<1+16*k
    ·rw [if_pos h3,if_pos (show i<1+16*(k+1) by omega)]
    ·rw [if_neg h3,if_neg (show ¬ i<1+16*(k+1) by omega)]
theorem byteAt_leL (v k:Nat):byteAt v k≤255:=by unfold byteAt;omega
theorem bodyF_le {n:Nat} (keys vals:Nat→Nat) (k i:Nat) (hn:n≤255):bodyF n keys vals k i≤255:=by
 unfold bodyF
 split
 ·exact hn
 ·split
  ·split <;> exact byteAt_leL _ _
  ·omega
theorem enc1_at {w:World} {bb g N nb no v:Nat} {f:Nat→Nat} (hbb:w.cell? ⟨bb,0,none⟩=some (.slice (some ⟨g,0,none⟩) N N)) (hb:w.heap[g]?=some (.cells (u8s N f) 5 (0,0))) (at':Nat) (hat:at'+8≤N) (hN:N≤100000)
  (hv:w.cell? ⟨nb,no,none⟩=some (.int .u64 (v:Int))) (hlt:v<18446744073709551616) :
  Calls Tryz.prog 119 #[.int .i64 (at':Int),.pointer (some ⟨nb,no,none⟩),.pointer (some ⟨bb,0,none⟩)] w fun e w' =>
   e = .returned (.tuple #[])∧w'.heap[g]?=some (.cells (u8s N (putF f at' 8 v)) 5 (0,0))∧Chg [g] w w':=by
 have HB:Hid (w.drew.heap[g]?=some (.cells (u8s N f) 5 (0,0))):=Lib.hid hb
 have cP:=put_at HB.out 0 N N at' 8 v (by omega) hN (by omega) (by omega) (by omega) (by rw [show (256:Nat) ^ 8=18446744073709551616 by decide];exact hlt)
 rw [Nat.zero_add] at cP
 clear hb
 go_enter Tryz.func119,Tryz.ntmps119
 go_wp2_with fail
 go_region_with (go_at_call 120;refine cP.mono ?_;rintro e w2 ⟨rfl,hB2,hC2⟩)
 all_goals
  go_wp2_with fail
  go_end0
  exact ⟨rfl,hB2,(Chg.drew (Chg.refl _ _)).trans hC2⟩
end Go.Proofs.YtkhcaclndepgbaaGreat
