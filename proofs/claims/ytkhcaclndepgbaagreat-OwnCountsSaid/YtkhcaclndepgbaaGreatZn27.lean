/- Package find: walk, Walk. -/
import Derived.Test.YtkhcaclndepgbaaGreatZn25
import Derived.Test.YtkhcaclndepgbaaGreatZn26
set_option linter.unusedVariables false
set_option linter.unusedSimpArgs false
set_option maxRecDepth 100000
set_option maxHeartbeats 20000000
namespace Go.Proofs.YtkhcaclndepgbaaGreat
open Go.RowKit Go.Shelf
attribute [local go_sem] Oper.semAt_some
def walkL (B:Bs) (lo hi:Nat) (y:Int):List ((Nat × Nat) × Int):=if y=0 then [] else itemsP B lo hi 8 y
theorem walk1_iter {M:Bm} {F:List Nat} {B:Bs} (ok:B.Ok) {y:Int} {lo hi:Nat} (hlo:lo<18446744073709551616) (hhi:hi<18446744073709551616) {w:World} {r b f t:Nat} {Lw:List Nat}
  (c1:w.cell? ⟨r,0,none⟩=some (.int .i64 y)) (c2:w.cell? ⟨b,0,none⟩=some (.pointer (some ⟨M.b,0,none⟩))) (c3:w.cell? ⟨f,0,none⟩=some (.int .u64 (lo:Int))) (c4:w.cell? ⟨t,0,none⟩=some (.int .u64 (hi:Int))) (hLw:∀ x,x∈Lw->x<w.heap.size) :
  IterP Fence.wide 6 Tryz.prog 156 #[.pointer (some ⟨r,0,none⟩),.pointer (some ⟨b,0,none⟩),.pointer (some ⟨f,0,none⟩),.pointer (some ⟨t,0,none⟩)] (fun A=>BaseAt A M F B) (fun k _ av=>av=#[toldV ((walkL B lo hi y).getD k ((0,0),0))]) (walkL B lo hi y).length Lw w:=by
 intro Pv l J Jx W hW hl0 hl hJ hJx hPj hq1 hq2 hY hJ0;have d1:=(hW.cell (p:=⟨r,0,none⟩) (World.block_lt_of_cell? _ _ c1)).trans c1;have d2:=(hW.cell (p:=⟨b,0,none⟩) (World.block_lt_of_cell? _ _ c2)).trans c2;have d3:=(hW.cell (p:=⟨f,0,none⟩) (World.block_lt_of_cell? _ _ c3)).trans c3;have d4:=(hW.cell (p:=⟨t,0,none⟩) (World.block_lt_of_cell? _ _ c4)).trans c4
 have hYld:Yld M F B (fun k=>(walkL B lo hi y).getD k ((0,0),0)) (walkL B lo hi y).length l J Jx W Lw Pv :=
  { lt:=hl,lw:=fun x hx=>zLl (hLw x hx) hW.size,j:=hJ,p:=hPj,q1:=hq1,q2:=hq2,y:=fun k W1 h1 h2=>hY k W1 _ h1 h2 rfl }
 have hcase:(y=0/\walkL B lo hi y=[])∨(y≠0/\walkL B lo hi y=itemsP B lo hi 8 y):=by
  unfold walkL;by_cases e:y=0
  ·exact .inl ⟨e,if_pos e⟩
  ·exact .inr ⟨e,if_neg e⟩
 rcases hcase with ⟨rfl,hL⟩ | ⟨hy0,hL⟩
 ·rw [hL]
  have HJ:=zh hJ0;clear hYld hY hJ hJx hq1 hq2 hPj c1 c2 c3 c4 hJ0 hL;refine callsIn_of_wp Tryz.func156 rfl trivial ?_ rfl;simp only [Tryz.ntmps156,List.size_toArray,List.length_cons,List.length_nil,Nat.reduceAdd,Nat.reduceSub,Array.replicate_succ,Array.replicate_zero,List.push_toArray,List.append_toArray,List.nil_append,List.cons_append]
  gi_wp2
  go_end0
  exact ⟨⟨_,rfl⟩,.inl HJ.out⟩
 ·have ih:=items_at ok hYld hlo hhi 8 y 0 W (zLr _) hJ0 (zLr _) (by rw [Nat.zero_add,hL];exact zLr _) (fun i hi=>by rw [Nat.zero_add];show _=some ((walkL B lo _ y).getD i _);rw [hL,zgD,List.getElem?_eq_getElem hi];rfl)
  rw [Nat.zero_add,<- hL,show ((8 - 8:Nat):Int)=0 from rfl] at ih;have IH:=zh ih;have i1:(y==0)=false:=by simp [hy0]
  have i2:(y != 0)=true:=by simp [hy0]
  clear hYld hY hJ hJx hq1 hq2 hPj c1 c2 c3 c4 hJ0 hL ih;refine callsIn_of_wp Tryz.func156 rfl trivial ?_ rfl;simp only [Tryz.ntmps156,List.size_toArray,List.length_cons,List.length_nil,Nat.reduceAdd,Nat.reduceSub,Array.replicate_succ,Array.replicate_zero,List.push_toArray,List.append_toArray,List.nil_append,List.cons_append]
  gi_wp2
  refine ⟨trivial,(callsIn_wide.2 IH.out).mono ?_⟩;rintro e W' ⟨hc,⟨rfl,hj⟩ | ⟨rfl,k,hkN,hjx⟩⟩
  ·have HZ:=zh hj
   clear hj hc
   gi_wp2
   go_end0
   exact ⟨⟨_,rfl⟩,.inl HZ.out⟩
  ·have HZ:=zh hjx
   clear hjx hc
   gi_wp2
   go_end0
   exact ⟨⟨_,rfl⟩,.inr ⟨k,hkN,HZ.out⟩⟩
def walkR:List ((Nat × Nat) × Int)->Nat->List (Nat × Nat)->List (Nat × Nat) × Int
 | _,0,acc=>(acc,0)
 | [],_+1,acc=>(acc,0)
 | t::r,m+1,acc=>if t.2=0 then walkR r m (acc++[t.1]) else ([],t.2)
theorem walkR_nil {m:Nat} {acc:List (Nat × Nat)} : walkR [] m acc=(acc,0):=by cases m <;> rfl
theorem walkR_zero {L:List ((Nat × Nat) × Int)} {acc:List (Nat × Nat)} : walkR L 0 acc=(acc,0):=by cases L <;> rfl
theorem walkR_step {L:List ((Nat × Nat) × Int)} {k m:Nat} {acc:List (Nat × Nat)} (hk:k<L.length) (hm:k<m) :
  walkR (L.drop k) (m - k) acc=if (L.getD k ((0,0),0)).2=0 then walkR (L.drop (k+1)) (m - (k+1)) (acc++[(L.getD k ((0,0),0)).1]) else ([],(L.getD k ((0,0),0)).2):=by
 have e:L.getD k ((0,0),0)=L[k]:=by rw [zgD,List.getElem?_eq_getElem hk];rfl
 rw [e,List.drop_eq_getElem_cons hk,show m - k=(m - (k+1))+1 by omega];rfl
theorem walk0_at (n:Nat) (w:World) (b:Option Addr) (y:Int) (lo hi:Nat):CallsIn Fence.wide n Tryz.prog 114 #[.pointer b,.int .i64 y,.int .u64 (lo:Int),.int .u64 (hi:Int)] w fun e w' =>
  e = .returned (.func (.func 156) #[] #[.pointer (some ⟨w.heap.size+1,0,none⟩),.pointer (some ⟨w.heap.size,0,none⟩),.pointer (some ⟨w.heap.size+1+1,0,none⟩),.pointer (some ⟨w.heap.size+1+1+1,0,none⟩)]) /\
  (((w.alloc (.cells #[.pointer b] 24)).alloc (.cells #[.int .i64 y] 3)).alloc (.cells #[.int .u64 (lo:Int)] 44)).alloc (.cells #[.int .u64 (hi:Int)] 44)=w':=by
 refine callsIn_of_wp Tryz.func114 rfl trivial ?_ rfl;simp only [Tryz.ntmps114,List.size_toArray,List.length_cons,List.length_nil,Nat.reduceAdd,Nat.reduceSub,Array.replicate_succ,Array.replicate_zero,List.push_toArray,List.append_toArray,List.nil_append,List.cons_append]
 gi_wp2
 go_ret;exact ⟨rfl,rfl⟩
def WkI (W0:World) (ob mm:Nat) (L:List ((Nat × Nat) × Int)) (R:List (Nat × Nat) × Int) (k:Nat) (W:World):Prop :=
 ∃ (acc:List (Nat × Nat)) (v:Value),k<mm/\k<=L.length/\acc.length=k/\walkR (L.drop k) (mm - k) acc=R/\W.heap[ob]?=some (.cells #[v] 83 (0,0))/\W.ownsRow (W0.heap.size+2) 104 2 v acc.length (itVs acc)/\Chg [ob] W0 W
def WkX (W0:World) (rb eb ob:Nat) (R:List (Nat × Nat) × Int) (c:Code) (W:World):Prop :=
 ∃ (l:List (Nat × Nat)) (v:Value),W.heap[ob]?=some (.cells #[v] 83 (0,0))/\W.ownsRow (W0.heap.size+2) 104 2 v l.length (itVs l) /\
  ((c = .ret/\R.1=[]/\W.heap[rb]?=some (.cells #[.slice none 0 0] 83 (0,0))/\W.heap[eb]?=some (.cells #[.int .i64 R.2] 29 (0,0))/\Chg [rb,eb,ob] W0 W)∨(c = .exit 0/\R=(l,0)/\Chg [ob] W0 W))
theorem ownRow_same {w w':World} {base n size:Nat} {e:TypeId} {v:Value} {xs:List Value} (h:w.ownsRow base e size v n xs) (hs:∀ g,v.ownBlock=some g->w'.heap[g]?=w.heap[g]?):w'.ownsRow base e size v n xs:=by
 refine ⟨h.1,?_⟩;rcases h.2 with h' | ⟨g,cap,cur,rfl,hb,hg,r⟩
 ·exact .inl h'
 ·exact .inr ⟨g,cap,cur,rfl,hb,(hs g rfl).trans hg,r⟩
theorem ownRow_low {w:World} {base base' n size:Nat} {e:TypeId} {v:Value} {xs:List Value} (h:w.ownsRow base e size v n xs) (hb:base'<=base):w.ownsRow base' e size v n xs:=by
 refine ⟨h.1,?_⟩;rcases h.2 with h' | ⟨g,cap,cur,rfl,hg0,r⟩
 ·exact .inl h'
 ·exact .inr ⟨g,cap,cur,rfl,zLt hb hg0,r⟩
def WkP (ob:Nat) (W:World) (q:Nat):Prop:=∃ v,W.heap[ob]?=some (.cells #[v] 83 (0,0))/\v.ownBlock=some q
theorem WkP.of {ob q:Nat} {W:World} {v:Value} (h:WkP ob W q) (hv:W.heap[ob]?=some (.cells #[v] 83 (0,0))):v.ownBlock=some q:=by
 obtain ⟨v',h1,h2⟩:=h;rw [hv] at h1;injection h1 with h1;injection h1 with h1;injection h1 with h1;injection h1 with h1;rw [h1];exact h2
section
variable {W0 A A':World} {ob rb eb mm k:Nat} {L:List ((Nat × Nat) × Int)} {R:List (Nat × Nat) × Int} {c:Code}
theorem WkI.below (h:WkI W0 ob mm L R k A) (hob:ob<W0.heap.size) (hb:Blv (WkP ob) W0.heap.size A A'):WkI W0 ob mm L R k A':=by
 obtain ⟨acc,v,h1,h2,h3,h4,h5,h6,h7⟩:=h;exact ⟨acc,v,h1,h2,h3,h4,(hb.b.block ob hob).trans h5,ownRow_same h6 (fun g hg=>hb.p g ⟨v,h5,hg⟩),h7.afar hb.b⟩
theorem WkX.below (h:WkX W0 rb eb ob R c A) (hob:ob<W0.heap.size) (hrb:rb<W0.heap.size) (heb:eb<W0.heap.size) (hb:Blv (WkP ob) W0.heap.size A A'):WkX W0 rb eb ob R c A':=by
 obtain ⟨l,v,h5,h6,h7⟩:=h;refine ⟨l,v,(hb.b.block ob hob).trans h5,ownRow_same h6 (fun g hg=>hb.p g ⟨v,h5,hg⟩),?_⟩;rcases h7 with ⟨r1,r2,r3,r4,r5⟩ | ⟨r1,r2,r3⟩
 ·exact .inl ⟨r1,r2,(hb.b.block rb hrb).trans r3,(hb.b.block eb heb).trans r4,r5.afar hb.b⟩
 ·exact .inr ⟨r1,r2,r3.afar hb.b⟩
theorem WkP.lt {base n:Nat} {v:Value} {xs:List Value} {q:Nat} (h:WkP ob A q) (hv:A.heap[ob]?=some (.cells #[v] 83 (0,0))) (hr:A.ownsRow base 104 2 v n xs):base<=q/\q<A.heap.size:=hr.lt q (h.of hv)
end
theorem wpListIn_app {F:Fence} {nn:Nat} {ops:Array Oper} {rest:List Oper} {o:Oper} {a:Act} {w:World} {Q:Exit->Act->World->Prop} (hg:o.guard=none) (s x:Operand) (t:TypeId)
  (hop:o.op = .call { callee := .builtin .append,args:=#[s,x],argTypes:=#[t,t] }) (hty:o.type=t) {base size n m bytes:Nat} {e:TypeId} {z v xv:Value} {xs news:List Value}
  (ht:Tryz.prog.underlying t=some (.slice e)) (hinfo:(Tryz.prog.info? e).map (fun i=>(i.zero,i.size,i.bytes))=some (some z,size,bytes)) (hzs:z.cells.size=size) (hsz:0<size) (hby:bytes<=1000)
  (hs:a.eval s=v) (hx:a.eval x=xv) (hown:w.ownsRow base e size v n xs) (hsrc:AppSrc w size xv m news) (hnm:n+m<=3000000) (hbase:base<=w.heap.size)
  (hK:∀ v' w',w'.ownsRow base e size v' (n+m) (xs++news)->w.grownBy w' v.ownBlock->(v'.ownBlock=v.ownBlock∨v'.ownBlock=some w.heap.size)->wpListIn F nn Tryz.prog ops Q rest (a.put o.dst v') w'):wpListIn F nn Tryz.prog ops Q (o::rest) a w:=by
 refine wpListIn_plain hg fun K hK'=>?_;obtain ⟨v',w',hrun,r1,r2,r3⟩:=run_app ht hinfo hzs hsz hby hown hsrc hnm hbase;unfold Oper.wpIn;refine ⟨?_,?_⟩
 ·simp [Oper.about,hop,resolve,Target.leads,Sem.run_pure]
 ·rw [Oper.semAt_plain F _ _ (by rw [hop];intro c hc';cases hc')]
  simp [execOp,hop,resolve,invoke,builtin,hs,hx,hty,hrun,Result.andThen];exact hK' _ _ (hK _ _ r1 r2 r3)
theorem fdWalk_at {w:World} {M:Bm} {F:List Nat} {B:Bs} (h:BaseAt w M F B) {y:Int} {lo hi:Nat} (hlo:lo<18446744073709551616) (hhi:hi<18446744073709551616) {most:Int} (hmo : -9223372036854775808<=most/\most<=9223372036854775807) (hlen:(walkL B lo hi y).length<=2900000∨most<=2900000)
  {R:List (Nat × Nat) × Int} (hR:R=if most<1 then ([],0) else walkR (walkL B lo hi y) most.toNat []) :
  Calls Tryz.prog 55 #[.pointer (some ⟨M.b,0,none⟩),.int .i64 y,.int .u64 (lo:Int),.int .u64 (hi:Int),.int .i64 most] w fun e w' =>
   ∃ v,e = .returned (.tuple #[v,.int .i64 R.2])/\w'.ownsRow w.heap.size 104 2 v R.1.length (itVs R.1)/\Chg [] w w':=by
 obtain ⟨s,hs⟩:∃ s,s=w.heap.size:=⟨_,rfl⟩;obtain ⟨W3,hW3⟩:∃ W3,W3=((w.alloc (.cells #[.int .i64 most] 3)).alloc (.cells #[.slice none 0 0] 83)).alloc (.cells #[.int .i64 0] 29):=⟨_,rfl⟩;have hc3:Chg [] w W3:=by rw [hW3];exact (((Chg.refl [] w).alloc _).alloc _).alloc _
 have hs3:W3.heap.size=s+3:=by rw [hW3,hs];simp
 have k0:W3.heap[s]?=some (.cells #[.int .i64 most] 3 (0,0)):=by rw [hW3,Below.heap_alloc _ _ _ (by simp;omega),hs];exact znd _ _ _
 have k1:W3.heap[s+1]?=some (.cells #[.slice none 0 0] 83 (0,0)):=by rw [hW3,Below.heap_alloc _ _ _ (by simp;omega),hs];exact znc _ _ _
 have k2:W3.heap[s+2]?=some (.cells #[.int .i64 0] 29 (0,0)):=by
  rw [hW3,hs];have:=heap_alloc_new ((w.alloc (.cells #[.int .i64 most] 3)).alloc (.cells #[.slice none 0 0] 83)) (.cells #[.int .i64 0] 29);simpa using this
 have hb3:=h.chg hc3 (by simp);have cb:=hb3.cBlocks;obtain ⟨n,hn⟩:∃ n,n=B.T.n:=⟨_,rfl⟩
 have hn0:((n:Int)==0)=false:=by
  obtain ⟨R',hi',-⟩:=h;have:=hi'.c.ok.n;simp;omega
 rw [<- hn] at cb;have CB:=zh cb;have HK:=zh (zA k0 (zA k1 (zA k2 (zA hc3 (zA hs3 hs)))));have HB:=zh hb3;have HR:=zh hR;have HL:=zh hlen;clear h hb3 hs hc3 hs3 k0 k1 k2 cb hn hR hlen;refine (callsIn_wide (n:=7)).1 ?_;refine callsIn_of_wp_marks Tryz.func55 rfl trivial ?_ rfl;simp only [Tryz.ntmps55,List.size_toArray,List.length_cons,List.length_nil,Nat.reduceAdd,Nat.reduceSub,Array.replicate_succ,Array.replicate_zero,List.push_toArray,List.append_toArray,List.nil_append,List.cons_append]
 gi_wp2
 have hs:=HK.out.2.2.2.2.2;rw [<- hs];rw [<- hW3];obtain ⟨rb,hrb⟩:∃ rb,rb=s+1:=⟨_,rfl⟩;obtain ⟨eb,heb⟩:∃ eb,eb=s+1+1:=⟨_,rfl⟩;rw [<- heb,<- hrb];have HE:=zh (zA hrb (zA heb (by omega:eb=s+2)));have d0:W3.cell? ⟨s,0,none⟩=some (.int .i64 most):=(zcb HK.out.1 0).trans rfl;refine ⟨trivial,(callsIn_wide.2 CB.out).mono ?_⟩;rintro e w' ⟨rfl,rfl⟩;clear hs hW3 hrb heb CB;by_cases hm1:most<1
 ·have k1:=HK.out.2.1
  have k2:=HK.out.2.2.1;rw [<- HE.out.1] at k1;rw [<- HE.out.2.2] at k2;have f1:=zfb k1 0;have f2:=zfb k2 0;have l1:=zhl k1;have l2:=zhl k2;have d1:W3.cell? ⟨rb,0,none⟩=some (.slice none 0 0):=(zcb k1 0).trans rfl;have d2:W3.cell? ⟨eb,0,none⟩=some (.int .i64 0):=(zcb k2 0).trans rfl;have ne1:rb≠eb:=by have h1:=HE.out.1;have h2:=HE.out.2.2;omega
  have ne2:eb≠rb:=fun q=>ne1 q.symm;have HK12:=zh (zA k1 k2);clear k1 k2
  gi_wp2
  have k3:((W3.setCell ⟨rb,0,none⟩ (.slice none 0 0)).setCell ⟨eb,0,none⟩ (.int .i64 0)).heap[rb]?=some (.cells #[.slice none 0 0] 83 (0,0)):=(zso 0 _ ne1).trans (zsb HK12.out.1 0 _);have k4:((W3.setCell ⟨rb,0,none⟩ (.slice none 0 0)).setCell ⟨eb,0,none⟩ (.int .i64 0)).heap[eb]?=some (.cells #[.int .i64 0] 29 (0,0)):=zsb ((zso 0 _ ne2).trans HK12.out.2) 0 _;have r1:((W3.setCell ⟨rb,0,none⟩ (.slice none 0 0)).setCell ⟨eb,0,none⟩ (.int .i64 0)).cell? ⟨rb,0,none⟩=some (.slice none 0 0):=(zcb k3 0).trans rfl;have r2:((W3.setCell ⟨rb,0,none⟩ (.slice none 0 0)).setCell ⟨eb,0,none⟩ (.int .i64 0)).cell? ⟨eb,0,none⟩=some (.int .i64 0):=(zcb k4 0).trans rfl;have hR:=HR.out;rw [if_pos hm1] at hR;refine ⟨.tuple #[.slice none 0 0,.int .i64 0],by simp [results,Tryz.results55,go_sem,r1,r2],.slice none 0 0,by rw [hR],by rw [hR];exact World.ownsRow_nil _ _ _ _,?_⟩;exact HK.out.2.2.2.1.then (((Chg.refl [rb,eb] W3).setCell (.inl (by simp)) _).setCell (.inl (by simp)) _) (fun q hq=>by simp only [List.mem_cons,List.not_mem_nil,or_false] at hq;have h1:=HE.out;have h2:=HK.out.2.2.2.2.2;exact .inr (by omega))
 ·have hm2:1<=most:=by omega
  obtain ⟨mm,hmm⟩:∃ mm:Nat,most=(mm:Int):=⟨most.toNat,by omega⟩;subst hmm;have cw:=walk0_at 6 (W3.alloc (.cells #[.slice none 0 0] 83)) (some ⟨M.b,0,none⟩) y lo hi;have CW:=zh cw;clear cw
  gi_wp2
  refine ⟨trivial,CW.out.mono ?_⟩;rintro e w' ⟨rfl,hw'⟩
  gi_wp2
  obtain ⟨ob,hob⟩:∃ ob,ob=W3.heap.size:=⟨_,rfl⟩
  have z0:w'.heap[ob]?=some (.cells #[.slice none 0 0] 83 (0,0)):=by
   rw [<- hw',Below.heap_alloc _ _ _ (by simp;omega),Below.heap_alloc _ _ _ (by simp;omega),Below.heap_alloc _ _ _ (by simp;omega),Below.heap_alloc _ _ _ (by simp;omega),hob];exact znb W3 _
  have z1:w'.heap[ob+1]?=some (.cells #[.pointer (some ⟨M.b,0,none⟩)] 24 (0,0)):=by
   rw [<- hw',Below.heap_alloc _ _ _ (by simp;omega),Below.heap_alloc _ _ _ (by simp;omega),Below.heap_alloc _ _ _ (by simp;omega),hob];exact znc W3 _ _
  have z2:w'.heap[ob+1+1]?=some (.cells #[.int .i64 y] 3 (0,0)):=by
   rw [<- hw',Below.heap_alloc _ _ _ (by simp;omega),Below.heap_alloc _ _ _ (by simp;omega),hob];have:=znc (W3.alloc (.cells #[.slice none 0 0] 83)) (.cells #[.pointer (some ⟨M.b,0,none⟩)] 24) (.cells #[.int .i64 y] 3);rw [size_alloc'] at this;exact this
  have z3:w'.heap[ob+1+1+1]?=some (.cells #[.int .u64 (lo:Int)] 44 (0,0)):=by
   rw [<- hw',Below.heap_alloc _ _ _ (by simp;omega),hob];have:=znc ((W3.alloc (.cells #[.slice none 0 0] 83)).alloc (.cells #[.pointer (some ⟨M.b,0,none⟩)] 24)) (.cells #[.int .i64 y] 3) (.cells #[.int .u64 (lo:Int)] 44);rw [size_alloc',size_alloc'] at this;exact this
  have z4:w'.heap[ob+1+1+1+1]?=some (.cells #[.int .u64 (hi:Int)] 44 (0,0)):=by
   rw [<- hw',hob];have:=znc (((W3.alloc (.cells #[.slice none 0 0] 83)).alloc (.cells #[.pointer (some ⟨M.b,0,none⟩)] 24)).alloc (.cells #[.int .i64 y] 3)) (.cells #[.int .u64 (lo:Int)] 44) (.cells #[.int .u64 (hi:Int)] 44);rw [size_alloc',size_alloc',size_alloc'] at this;exact this
  have hc4:Chg [] W3 w':=by rw [<- hw'];exact (((((Chg.refl [] W3).alloc _).alloc _).alloc _).alloc _).alloc _
  have hsz:w'.heap.size=ob+5:=by rw [<- hw',hob];simp
  rw [<- hob];have hbo:BaseAt w' M (ob::F) B:=(HB.out.new (by rw [hob];exact zLr _)).chg hc4 (by simp);have x1:w'.cell? ⟨ob+1,0,none⟩=some (.pointer (some ⟨M.b,0,none⟩)):=(zcb z1 0).trans rfl;have x2:w'.cell? ⟨ob+1+1,0,none⟩=some (.int .i64 y):=(zcb z2 0).trans rfl;have x3:w'.cell? ⟨ob+1+1+1,0,none⟩=some (.int .u64 (lo:Int)):=(zcb z3 0).trans rfl;have x4:w'.cell? ⟨ob+1+1+1+1,0,none⟩=some (.int .u64 (hi:Int)):=(zcb z4 0).trans rfl;have ok:B.Ok:=by obtain ⟨R',hi',-⟩:=HB.out;exact hi'.c.ok
  have hsm:(s:Nat)<ob:=by rw [hob,HK.out.2.2.2.2.1];omega
  have hrbo:rb<ob:=by have h1:=HE.out.1;have h2:=HK.out.2.2.2.2.1;omega
  have hebo:eb<ob:=by have h1:=HE.out.2.2;have h2:=HK.out.2.2.2.2.1;omega
  have hit:=walk1_iter (F:=ob::F) (Lw:=[rb,eb,ob]) ok (y:=y) hlo hhi x2 x1 x3 x4 (by simp;omega);obtain ⟨L,hL⟩:∃ L,L=walkL B lo hi y:=⟨_,rfl⟩;rw [<- hL] at hit;have hR:=HR.out;rw [if_neg (by omega),Int.toNat_natCast,<- hL] at hR;have hln:=HL.out;rw [<- hL] at hln;have k0:=(hc4.block s (by have:=HK.out.2.2.2.2.1;omega) (by simp)).trans HK.out.1;have k1:=(hc4.block rb (by have:=HK.out.2.2.2.2.1;omega) (by simp)).trans (show W3.heap[rb]?=some (.cells #[.slice none 0 0] 83 (0,0)) from by rw [HE.out.1];exact HK.out.2.1);have k2:=(hc4.block eb (by have:=HK.out.2.2.2.2.1;omega) (by simp)).trans (show W3.heap[eb]?=some (.cells #[.int .i64 0] 29 (0,0)) from by rw [HE.out.2.2];exact HK.out.2.2.1);have HW:=zh (zA k0 (zA k1 (zA k2 (zA hbo (zA hc4 hln)))));have HRR:=zh hR;have NN:=zh (show rb≠eb/\rb≠ob/\eb≠ob/\s≠rb/\s≠eb/\s≠ob from by have h1:=HE.out;omega);clear hw' hob z1 z2 z3 z4 x1 x2 x3 x4 hbo hL CW hR hln k0 k1 k2 hc4 d0 HL HR
  refine wpIn_rangeFunc_pv rfl (by omega) (gf:=156) (lb:=#[.pointer (some ⟨ob+1+1,0,none⟩),.pointer (some ⟨ob+1,0,none⟩),.pointer (some ⟨ob+1+1+1,0,none⟩),.pointer (some ⟨ob+1+1+1+1,0,none⟩)]) rfl trivial (enters_of Tryz.func156 (by kernel_rfl) rfl) hit (by simp;omega) (fun k W av h=>by rw [h];rfl)
   (WkP ob) (WkI w' ob mm L R) (fun c _ W=>WkX w' rb eb ob R c W)
   (fun k A A' h hab=>h.below (by omega) hab) (fun c k A A' h hab=>h.below (by omega) (by omega) (by omega) hab)
   ⟨[],.slice none 0 0,by omega,Nat.zero_le _,rfl,by rw [Nat.sub_zero,List.drop_zero];exact HRR.out.symm,z0,World.ownsRow_nil _ _ _ _,Chg.refl _ _⟩
   (fun k A h=>by obtain ⟨acc,v,-,-,-,-,-,-,hc⟩:=h;exact HW.out.2.2.2.1.chg hc (by simp))
   (fun k A q h hq=>by obtain ⟨acc,v,-,-,-,-,h5,h6,-⟩:=h;have:=hq.lt h5 h6;omega)
   (fun k A A' q h hab hq=>by
    obtain ⟨v',p1,p2⟩:=hq;exact ⟨v',(hab.block ob (by omega)).symm.trans p1,p2⟩)
   (fun c k A A' q h hab hq=>by
    obtain ⟨v',p1,p2⟩:=hq;exact ⟨v',(hab.block ob (by omega)).symm.trans p1,p2⟩)
   (fun c k A q h hq=>by obtain ⟨l,v,h5,h6,-⟩:=h;have:=hq.lt h5 h6;omega) ?round ?done ?stop
  case round =>
   intro l k W av hl1 hl2 hI hk hav hlp;obtain ⟨acc,v,h1,h2,h3,h4,h5,h6,h7⟩:=hI;rw [walkR_step hk h1] at h4;obtain ⟨t,ht⟩:∃ t,t=L.getD k ((0,0),0):=⟨_,rfl⟩;rw [<- ht] at h4 hav;subst hav;obtain ⟨⟨tk,tv⟩,te⟩:=t;have HI:=zh (zA h1 (zA h3 (zA h4 (zA h5 (zA h6 h7)))));obtain ⟨rr,hlp⟩:=hlp
   have hnl:∀ q,v.ownBlock=some q->w'.heap.size+2<=q/\q<W.heap.size/\q≠l:=fun q hq=>by
    have:=h6.lt q hq;refine ⟨this.1,this.2,fun e=>?_⟩;subst e;rcases h6.2 with ⟨rfl,_⟩ | ⟨g,cap,cur,rfl,_,hg,_⟩
    ·cases hq
    ·injection hq with hq
     change g=q at hq
     rw [hq,hlp] at hg;cases hg
   have HNL:=zh hnl;clear h1 h2 h3 h4 h5 h6 h7 hlp hnl;unfold toldV
   gi_wp2
   refine ⟨(Chg.refl [] W).alloc _,fun W2 hc2=>?_⟩;have hW2:Chg [l] W W2:=(((Chg.refl [] W).alloc (.cells #[.int .u64 (tk:Int),.int .u64 (tv:Int),.int .i64 te] 187)).mono (by simp)).trans hc2;have bt:=(hc2.block W.heap.size (by simp) (by simp;omega)).trans (znb W (.cells #[.int .u64 (tk:Int),.int .u64 (tv:Int),.int .i64 te] 187));have hsW:=HI.out.2.2.2.2.2.size;have bob:=(hW2.block ob (by omega) (by simp;omega)).trans HI.out.2.2.2.1;have bs:=(hW2.block s (by omega) (by simp;omega)).trans ((HI.out.2.2.2.2.2.block s (by omega) (by simp;omega)).trans HW.out.1);have brb:=(hW2.block rb (by omega) (by simp;omega)).trans ((HI.out.2.2.2.2.2.block rb (by omega) (by simp;omega)).trans HW.out.2.1);have beb:=(hW2.block eb (by omega) (by simp;omega)).trans ((HI.out.2.2.2.2.2.block eb (by omega) (by simp;omega)).trans HW.out.2.2.1);have brow:=zoc HI.out.2.2.2.2.1 hW2 (fun q hq hm=>by have:=HNL.out q hq;simp only [zms] at hm;omega);have hcw:Chg [ob] w' W2:=HI.out.2.2.2.2.2.then hW2 (fun q hq=>by simp only [zms] at hq;subst hq;exact .inr hl1);obtain ⟨tb,htb⟩:∃ tb,tb=W.heap.size:=⟨_,rfl⟩;rw [<- htb] at bt ⊢;have e0:W2.cell? ⟨tb,0,none⟩=some (.int .u64 (tk:Int)):=(zcb bt 0).trans rfl;have e1:W2.cell? ⟨tb,1,none⟩=some (.int .u64 (tv:Int)):=(zcb bt 1).trans rfl;have e2:W2.cell? ⟨tb,2,none⟩=some (.int .i64 te):=(zcb bt 2).trans rfl;have o0:W2.cell? ⟨ob,0,none⟩=some v:=(zcb bob 0).trans rfl;have m0:W2.cell? ⟨s,0,none⟩=some (.int .i64 (mm:Int)):=(zcb bs 0).trans rfl
   have HX:=zh (zA bt (zA bob (zA bs (zA brb (zA beb (zA brow hcw))))));have hlW2:W.heap.size<W2.heap.size:=by rw [<- htb];exact zhl bt
   have HTB:=zh (zA htb hlW2);clear hc2 hW2 bt hsW bob bs brb beb brow hcw htb hlW2;by_cases he:te=0
   ·subst he
    have HR4:Hid (walkR (L.drop (k+1)) (mm - (k+1)) (acc++[(tk,tv)])=R):=zh (by have:=HI.out.2.2.1;rw [if_pos rfl] at this;exact this);have hrow:=HX.out.2.2.2.2.2.1;rw [HI.out.2.1] at hrow;have hn4:=znb W2 (.cells #[.int .u64 (tk:Int),.int .u64 (tv:Int)] 104);have hc4:Chg [] W2 (W2.alloc (.cells #[.int .u64 (tk:Int),.int .u64 (tv:Int)] 104)):=(Chg.refl [] W2).alloc _
    have H4:=zh (zA (zoc hrow hc4 (by simp)) (zA hn4 (zA hc4 (show w'.heap.size+2<=(W2.alloc (.cells #[.int .u64 (tk:Int),.int .u64 (tv:Int)] 104)).heap.size from by
     rw [size_alloc'];have h1:=HTB.out.2;omega))))
    have hkb:k+1<=3000000:=by have h1:=HW.out.2.2.2.2.2;have h2:=HI.out.1;omega
    have HOB:Hid (∀ w5,(W2.alloc (.cells #[.int .u64 (tk:Int),.int .u64 (tv:Int)] 104)).grownBy w5 v.ownBlock->w5.heap[ob]?=some (.cells #[v] 83 (0,0))/\w5.heap[s]?=some (.cells #[.int .i64 (mm:Int)] 3 (0,0))/\Chg (ownL v) W2 w5):=zh fun w5 hg=>by
     have hcg:Chg (ownL v) W2 w5:=(H4.out.2.2.1.mono (by simp)).then ((Chg.refl (ownL v) _).grown hg (fun q hq => .inl (zml.2 hq))) (fun q hq => .inl hq);have nob:ob∉ownL v:=fun hm=>by have:=HNL.out ob (zml.1 hm);omega
     have nos:s∉ownL v:=fun hm=>by have:=HNL.out s (zml.1 hm);omega
     exact ⟨(hcg.block ob (zhl HX.out.2.1) nob).trans HX.out.2.1,(hcg.block s (zhl HX.out.2.2.1) nos).trans HX.out.2.2.1,hcg⟩
    have hdec:(k+1=mm/\(((k:Int)+1==(mm:Int))=true))∨(¬ k+1=mm/\(((k:Int)+1==(mm:Int))=false)):=by
     by_cases e:k+1=mm
     ·exact .inl ⟨e,by simp;omega⟩
     ·exact .inr ⟨e,by simp;omega⟩
    clear hrow hn4 hc4;rcases hdec with ⟨hkm,q6⟩ | ⟨hkm,q6⟩
    all_goals have HKM:=zh hkm
    all_goals clear hkm
    all_goals gi_wp2_with (gi_at_builtin;refine wpListIn_app rfl _ _ 83 rfl rfl (base:=w'.heap.size+2) (size:=2) (n:=k) (m:=1) (xs:=itVs acc) (news:=[.int .u64 (tk:Int),.int .u64 (tv:Int)]) Tryz.underlying83 infoItem rfl (by omega) (by omega) rfl rfl H4.out.1 (AppSrc.blk H4.out.2.1 rfl (fun u hu=>by simp at hu;rcases hu with rfl | rfl <;> rfl)) (by omega) H4.out.2.2.2 ?_;intro v' w5 hown5 hg5 ho5;obtain ⟨b5,s5,c5⟩:=HOB.out w5 hg5;have H5:=zh (zA hown5 (zA ho5 (zA b5 c5)));obtain ⟨va,vc,rfl,hv1,hv2⟩:=zos hown5;have q0:w5.cell? ⟨ob,0,none⟩=some v:=(zcb b5 0).trans rfl;have q1:w5.cell? ⟨s,0,none⟩=some (.int .i64 (mm:Int)):=(zcb s5 0).trans rfl;have q2:=zfb b5 0;have q3:=zhl b5;have q4:s≠ob:=NN.out.2.2.2.2.2;have q5:ob≠s:=fun q=>q4 q.symm;clear hown5 hg5 ho5 b5 s5 c5)
    all_goals
     have k6:(w5.setCell ⟨ob,0,none⟩ (.slice va (k+1) vc)).heap[ob]?=some (.cells #[.slice va (k+1) vc] 83 (0,0)):=zsb H5.out.2.2.1 0 _;have c6:Chg (ob::ownL v) W2 (w5.setCell ⟨ob,0,none⟩ (.slice va (k+1) vc)):=(H5.out.2.2.2.mono (fun q hq=>by simp [hq])).setCell (.inl (by simp)) _
     have row6:(w5.setCell ⟨ob,0,none⟩ (.slice va (k+1) vc)).ownsRow (w'.heap.size+2) 104 2 (.slice va (k+1) vc) (acc++[(tk,tv)]).length (itVs (acc++[(tk,tv)])):=by
      rw [itVs_app,List.length_append,HI.out.2.1];exact zoc H5.out.1 ((Chg.refl [ob] w5).setCell (.inl (by simp)) _) (fun q hq hm=>by have h1:=H5.out.1.lt q hq;simp only [zms] at hm;omega)
     have y6:Yfr (WkP ob) [rb,eb,ob] W2 (w5.setCell ⟨ob,0,none⟩ (.slice va (k+1) vc)):=by
      refine ⟨⟨_,c6,fun q hq=>?_⟩,fun q hq=>?_⟩
      ·rcases List.mem_cons.1 hq with rfl | hq
       ·exact .inl (by simp)
       ·exact .inr ⟨v,HX.out.2.1,zml.1 hq⟩
      ·have h1:=hq.of k6
       rcases H5.out.2.1 with h2 | h2
       ·rw [h2] at h1;exact .inl ⟨v,HX.out.2.1,h1⟩
       ·rw [h2] at h1;injection h1 with h1;rw [<- h1,size_alloc'];exact .inr (by omega)
     have w6:Chg [ob] w' (w5.setCell ⟨ob,0,none⟩ (.slice va (k+1) vc)):=HX.out.2.2.2.2.2.2.then c6 (fun q hq=>by
      rcases List.mem_cons.1 hq with rfl | hq
      ·exact .inl (by simp)
      ·have:=HNL.out q (zml.1 hq);exact .inr (by omega))
    ·refine ⟨y6,acc++[(tk,tv)],_,k6,row6,.inr ⟨rfl,?_,w6⟩⟩
     rw [<- HR4.out,show mm - (k+1)=0 by have:=HKM.out;omega,walkR_zero]
    ·exact ⟨y6,acc++[(tk,tv)],_,by have h1:=HKM.out;have h2:=HI.out.1;omega,by omega,by rw [List.length_append,HI.out.2.1];rfl,HR4.out,k6,row6,w6⟩
   ·have he1:(te==0)=false:=by simp [he]
    have he2:(te != 0)=true:=by simp [he]
    have HR4:Hid (R=([],te)):=zh (by rw [<- HI.out.2.2.1,if_neg he]);have r0:W2.cell? ⟨rb,0,none⟩=some (.slice none 0 0):=(zcb HX.out.2.2.2.1 0).trans rfl;have r1:W2.cell? ⟨eb,0,none⟩=some (.int .i64 0):=(zcb HX.out.2.2.2.2.1 0).trans rfl;have f0:=zfb HX.out.2.2.2.1 0;have f1:=zfb HX.out.2.2.2.2.1 0;have l0:=zhl HX.out.2.2.2.1;have l1:=zhl HX.out.2.2.2.2.1;have n1:rb≠eb:=NN.out.1;have n2:eb≠rb:=fun q=>NN.out.1 q.symm;have n3:rb≠tb:=by have:=HTB.out.1;have h2:=HI.out.2.2.2.2.2.size;omega
    have n4:eb≠tb:=by have:=HTB.out.1;have h2:=HI.out.2.2.2.2.2.size;omega
    have n5:tb≠rb:=fun q=>n3 q.symm;have n6:tb≠eb:=fun q=>n4 q.symm
    have key:∀ W5,Chg [rb,eb] W2 W5->W5.heap[rb]?=some (.cells #[.slice none 0 0] 83 (0,0))->W5.heap[eb]?=some (.cells #[.int .i64 te] 29 (0,0))->Yfr (WkP ob) [rb,eb,ob] W2 W5/\WkX w' rb eb ob R .ret W5:=by
     intro W5 c5 q1 q2;have hbo:=(c5.block ob (zhl HX.out.2.1) (by have:=NN.out;simp;omega)).trans HX.out.2.1;refine ⟨(Yfr.of c5 (fun q hq => .inl ?_)).mono (by simp),acc,v,hbo,zoc HX.out.2.2.2.2.2.1 c5 (fun q hq hm=>by have h1:=HNL.out q hq;simp only [List.mem_cons,List.not_mem_nil,or_false] at hm;omega),.inl ⟨rfl,by rw [HR4.out],q1,by rw [HR4.out];exact q2,(HX.out.2.2.2.2.2.2.mono (by simp)).trans (c5.mono (by simp))⟩⟩;exact ⟨v,HX.out.2.1,hq.of hbo⟩
    have KEY:=zh key;have hfo:Tryz.prog.follows Departure.mixedOrders=true:=by kernel_rfl
    clear key
    gi_wp2
    gi_region_with_o (fail)
    all_goals gi_wp2
    all_goals exact KEY.out _ (((Chg.refl [rb,eb] W2).setCell (.inl (by simp)) _).setCell (.inl (by simp)) _).drew ((zso 0 _ n1).trans (zsb HX.out.2.2.2.1 0 _)) (zsb ((zso 0 _ n2).trans HX.out.2.2.2.2.1) 0 _)
  case done =>
   rintro D W hD ⟨acc,v,h1,h2,h3,h4,hv5,hrow,hcx⟩ hK;rw [List.drop_length,walkR_nil] at h4;have hR2:R=(acc,0):=h4.symm;clear h1 h2 h3 h4;obtain ⟨va,vc,rfl,hv1,hv2⟩:=zos hrow;have r0:=(hcx.block rb (by omega) (by have:=NN.out;simp;omega)).trans HW.out.2.1;have r1:=(hcx.block eb (by omega) (by have:=NN.out;simp;omega)).trans HW.out.2.2.1;have o0:W.cell? ⟨ob,0,none⟩=some (.slice va acc.length vc):=(zcb hv5 0).trans rfl;have x0:W.cell? ⟨rb,0,none⟩=some (.slice none 0 0):=(zcb r0 0).trans rfl;have x1:W.cell? ⟨eb,0,none⟩=some (.int .i64 0):=(zcb r1 0).trans rfl;have f0:=zfb r0 0;have f1:=zfb r1 0;have l0:=zhl r0;have l1:=zhl r1;have n1:rb≠eb:=NN.out.1;have n2:eb≠rb:=fun q=>NN.out.1 q.symm;have HF:=zh (zA r0 (zA r1 (zA hv5 (zA hrow (zA hcx (zA hR2 hK))))));clear r0 r1 hv5 hrow hcx hR2 hK hv1 hv2
   gi_wp2
   have g0:((W.setCell ⟨rb,0,none⟩ (.slice va acc.length vc)).setCell ⟨eb,0,none⟩ (.int .i64 0)).heap[rb]?=some (.cells #[(.slice va acc.length vc)] 83 (0,0)):=(zso 0 _ n1).trans (zsb HF.out.1 0 _);have g1:((W.setCell ⟨rb,0,none⟩ (.slice va acc.length vc)).setCell ⟨eb,0,none⟩ (.int .i64 0)).heap[eb]?=some (.cells #[.int .i64 0] 29 (0,0)):=zsb ((zso 0 _ n2).trans HF.out.2.1) 0 _;have gD:((W.setCell ⟨rb,0,none⟩ (.slice va acc.length vc)).setCell ⟨eb,0,none⟩ (.int .i64 0)).heap[D]?=some (.deferred (some [])):=(zso 0 _ (by omega)).trans ((zso 0 _ (by omega)).trans HF.out.2.2.2.2.2.2);have c7:Chg [rb,eb] W ((W.setCell ⟨rb,0,none⟩ (.slice va acc.length vc)).setCell ⟨eb,0,none⟩ (.int .i64 0)):=((Chg.refl [rb,eb] W).setCell (.inl (by simp)) _).setCell (.inl (by simp)) _;generalize (W.setCell ⟨rb,0,none⟩ (.slice va acc.length vc)).setCell ⟨eb,0,none⟩ (.int .i64 0)=W7 at g0 g1 gD c7 ⊢;have hs:=HK.out.2.2.2.2.2;have c78:=chg_put (W:=W7) (l:=D) (.deferred none);have q0:=(c78.block rb (zhl g0) (by simp;omega)).trans g0;have q1:=(c78.block eb (zhl g1) (by simp;omega)).trans g1
   have row8:=zoc (zoc HF.out.2.2.2.1 c7 (fun q hq hm=>by have h1:=HF.out.2.2.2.1.lt q hq;simp only [List.mem_cons,List.not_mem_nil,or_false] at hm;omega)) c78 (fun q hq hm=>by
    simp only [zms] at hm;subst hm;rcases HF.out.2.2.2.1.2 with ⟨e,_⟩ | ⟨g,cap,cur,e,_,hg,_⟩
    ·rw [e] at hq;cases hq
    ·rw [e] at hq
     injection hq with hq
     change g=q at hq
     rw [hq,HF.out.2.2.2.2.2.2] at hg;cases hg)
   have c8:Chg [] w (W7.putObj D (.deferred none)):=(HK.out.2.2.2.1.trans HW.out.2.2.2.2.1).then ((HF.out.2.2.2.2.1.mono (L':=[rb,eb,ob,D]) (by simp)).trans ((c7.mono (by simp)).trans (c78.mono (by simp)))) (fun q hq=>by
    simp only [List.mem_cons,List.not_mem_nil,or_false] at hq;have h1:=HE.out;exact .inr (by omega))
   refine ⟨by simp,.inl ⟨_,_,rfl,run_takeDeferred gD,?_⟩⟩;have t0:(W7.putObj D (.deferred none)).cell? ⟨rb,0,none⟩=some (.slice va acc.length vc):=(zcb q0 0).trans rfl;have t1:(W7.putObj D (.deferred none)).cell? ⟨eb,0,none⟩=some (.int .i64 0):=(zcb q1 0).trans rfl;refine ⟨.tuple #[(.slice va acc.length vc),.int .i64 0],by simp [results,Tryz.results55,go_sem,t0,t1],(.slice va acc.length vc),by rw [HF.out.2.2.2.2.2.1],?_,c8⟩;rw [HF.out.2.2.2.2.2.1];exact ownRow_low row8 (by omega)
  case stop =>
   rintro D c k W hD hk ⟨acc,v,hv5,hrow,⟨rfl,hRl,hrb,heb,hcx⟩ | ⟨rfl,hR2,hcx⟩⟩ hK
   ·gi_wp2
    have c78:=chg_put (W:=W) (l:=D) (.deferred none);have q0:=(c78.block rb (zhl hrb) (by simp;omega)).trans hrb;have q1:=(c78.block eb (zhl heb) (by simp;omega)).trans heb;have hs:=HK.out.2.2.2.2.2
    have c8:Chg [] w (W.putObj D (.deferred none)):=(HK.out.2.2.2.1.trans HW.out.2.2.2.2.1).then ((hcx.mono (L':=[rb,eb,ob,D]) (by simp)).trans (c78.mono (by simp))) (fun q hq=>by
     simp only [List.mem_cons,List.not_mem_nil,or_false] at hq;have h1:=HE.out;exact .inr (by omega))
    have t0:(W.putObj D (.deferred none)).cell? ⟨rb,0,none⟩=some (.slice none 0 0):=(zcb q0 0).trans rfl;have t1:(W.putObj D (.deferred none)).cell? ⟨eb,0,none⟩=some (.int .i64 R.2):=(zcb q1 0).trans rfl;refine ⟨by simp,.inl ⟨_,_,rfl,run_takeDeferred hK,?_⟩⟩;refine ⟨.tuple #[.slice none 0 0,.int .i64 R.2],by simp [results,Tryz.results55,go_sem,t0,t1],.slice none 0 0,rfl,?_,c8⟩;rw [hRl];exact World.ownsRow_nil _ _ _ _
   ·obtain ⟨va,vc,rfl,hv1,hv2⟩:=zos hrow
    have r0:=(hcx.block rb (by omega) (by have:=NN.out;simp;omega)).trans HW.out.2.1;have r1:=(hcx.block eb (by omega) (by have:=NN.out;simp;omega)).trans HW.out.2.2.1;have o0:W.cell? ⟨ob,0,none⟩=some (.slice va acc.length vc):=(zcb hv5 0).trans rfl;have x0:W.cell? ⟨rb,0,none⟩=some (.slice none 0 0):=(zcb r0 0).trans rfl;have x1:W.cell? ⟨eb,0,none⟩=some (.int .i64 0):=(zcb r1 0).trans rfl;have f0:=zfb r0 0;have f1:=zfb r1 0;have l0:=zhl r0;have l1:=zhl r1;have n1:rb≠eb:=NN.out.1;have n2:eb≠rb:=fun q=>NN.out.1 q.symm;have HF:=zh (zA r0 (zA r1 (zA hv5 (zA hrow (zA hcx (zA hR2 hK))))));clear r0 r1 hv5 hrow hcx hR2 hK hv1 hv2
    gi_wp2
    have g0:((W.setCell ⟨rb,0,none⟩ (.slice va acc.length vc)).setCell ⟨eb,0,none⟩ (.int .i64 0)).heap[rb]?=some (.cells #[(.slice va acc.length vc)] 83 (0,0)):=(zso 0 _ n1).trans (zsb HF.out.1 0 _);have g1:((W.setCell ⟨rb,0,none⟩ (.slice va acc.length vc)).setCell ⟨eb,0,none⟩ (.int .i64 0)).heap[eb]?=some (.cells #[.int .i64 0] 29 (0,0)):=zsb ((zso 0 _ n2).trans HF.out.2.1) 0 _;have gD:((W.setCell ⟨rb,0,none⟩ (.slice va acc.length vc)).setCell ⟨eb,0,none⟩ (.int .i64 0)).heap[D]?=some (.deferred (some [])):=(zso 0 _ (by omega)).trans ((zso 0 _ (by omega)).trans HF.out.2.2.2.2.2.2);have c7:Chg [rb,eb] W ((W.setCell ⟨rb,0,none⟩ (.slice va acc.length vc)).setCell ⟨eb,0,none⟩ (.int .i64 0)):=((Chg.refl [rb,eb] W).setCell (.inl (by simp)) _).setCell (.inl (by simp)) _;generalize (W.setCell ⟨rb,0,none⟩ (.slice va acc.length vc)).setCell ⟨eb,0,none⟩ (.int .i64 0)=W7 at g0 g1 gD c7 ⊢;have hs:=HK.out.2.2.2.2.2;have c78:=chg_put (W:=W7) (l:=D) (.deferred none);have q0:=(c78.block rb (zhl g0) (by simp;omega)).trans g0;have q1:=(c78.block eb (zhl g1) (by simp;omega)).trans g1
    have row8:=zoc (zoc HF.out.2.2.2.1 c7 (fun q hq hm=>by have h1:=HF.out.2.2.2.1.lt q hq;simp only [List.mem_cons,List.not_mem_nil,or_false] at hm;omega)) c78 (fun q hq hm=>by
     simp only [zms] at hm;subst hm;rcases HF.out.2.2.2.1.2 with ⟨e,_⟩ | ⟨g,cap,cur,e,_,hg,_⟩
     ·rw [e] at hq;cases hq
     ·rw [e] at hq
      injection hq with hq
      change g=q at hq
      rw [hq,HF.out.2.2.2.2.2.2] at hg;cases hg)
    have c8:Chg [] w (W7.putObj D (.deferred none)):=(HK.out.2.2.2.1.trans HW.out.2.2.2.2.1).then ((HF.out.2.2.2.2.1.mono (L':=[rb,eb,ob,D]) (by simp)).trans ((c7.mono (by simp)).trans (c78.mono (by simp)))) (fun q hq=>by
     simp only [List.mem_cons,List.not_mem_nil,or_false] at hq;have h1:=HE.out;exact .inr (by omega))
    refine ⟨by simp,.inl ⟨_,_,rfl,run_takeDeferred gD,?_⟩⟩;have t0:(W7.putObj D (.deferred none)).cell? ⟨rb,0,none⟩=some (.slice va acc.length vc):=(zcb q0 0).trans rfl;have t1:(W7.putObj D (.deferred none)).cell? ⟨eb,0,none⟩=some (.int .i64 0):=(zcb q1 0).trans rfl;refine ⟨.tuple #[(.slice va acc.length vc),.int .i64 0],by simp [results,Tryz.results55,go_sem,t0,t1],(.slice va acc.length vc),by rw [HF.out.2.2.2.2.2.1],?_,c8⟩;rw [HF.out.2.2.2.2.2.1];exact ownRow_low row8 (by omega)
end Go.Proofs.YtkhcaclndepgbaaGreat
