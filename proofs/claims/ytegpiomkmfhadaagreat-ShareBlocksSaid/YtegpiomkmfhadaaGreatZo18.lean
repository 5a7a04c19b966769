/- Package find: walk, Walk. · Package fin -/
import Derived.Test.YtegpiomkmfhadaaGreatZo17
set_option linter.all false
set_option maxRecDepth 100000
set_option maxHeartbeats 20000000
namespace Go.Proofs.YtegpiomkmfhadaaGreat
open Go.RowKit Go.Shelf
attribute [local go_sem] Oper.semAt_some
variable {M:Bm} {F:List Nat} {B:Bs} {y:Int} {lo hi m base n size:Nat} {w:World} {acc:zL} {v:Value} {xs:List Value}
def Xb (B:Bs) (lo hi:Nat) (y:Int):List ((Nat × Nat) × Int):=if y=0 then [] else xT B lo hi 8 y
theorem lC (ok:B.Ok) (ED:lo<18446744073709551616) (FH:hi<18446744073709551616) {r b f t:Nat} {Lw:List Nat}
  (c1:w.cell? ⟨r,0,none⟩=some (.int .i64 y)) (c2:w.cell? ⟨b,0,none⟩=some (zP M.b)) (c3:w.cell? ⟨f,0,none⟩=some (.int .u64 (lo:Int))) (c4:w.cell? ⟨t,0,none⟩=some (.int .u64 (hi:Int))) (Lt:∀ x,x∈Lw->x<w.heap.size) :
  wL Fence.wide 6 Tryz.prog 124 #[zP r,zP b,zP f,zP t] (fun A=>zx A M F B) (fun k _ av=>av=#[sP ((Xb B lo hi y).getD k ((0,0),0))]) (Xb B lo hi y).length Lw w:=by
 intro Pv l J Jx W hW Dt hl hJ U3 Sf Le MI hY L7;have:=(hW.cell (p:=⟨r,0,none⟩) (yc _ _ c1)).trans c1;have:=(hW.cell (p:=⟨b,0,none⟩) (yc _ _ c2)).trans c2;have:=(hW.cell (p:=⟨f,0,none⟩) (yc _ _ c3)).trans c3;have:=(hW.cell (p:=⟨t,0,none⟩) (yc _ _ c4)).trans c4
 have Sn:AR M F B (fun k=>(Xb B lo hi y).getD k ((0,0),0)) (Xb B lo hi y).length l J Jx W Lw Pv :=
  { lt:=hl,lw:=fun x hx=>qe (Lt x hx) hW.size,j:=hJ,p:=Sf,q1:=Le,q2:=MI,y:=fun k W1 h1 h2=>hY k W1 _ h1 h2 rfl }
 have Io:(y=0/\Xb B lo hi y=[])∨(y≠0/\Xb B lo hi y=xT B lo hi 8 y):=by
  unfold Xb;by_cases e:y=0
  ·exact .inl ⟨e,if_pos e⟩
  ·exact .inr ⟨e,if_neg e⟩
 rcases Io with ⟨rfl,hL⟩ | ⟨hy0,hL⟩
 ·rw [hL]
  have HJ:=zh L7;clear Sn hY hJ U3 Le MI Sf c1 c2 c3 c4 L7 hL;refine callsIn_of_wp Tryz.func124 rfl trivial ?_ rfl;simp only [Tryz.ntmps124,List.size_toArray,yu,List.length_nil,Nat.reduceAdd,Nat.reduceSub,Array.replicate_succ,Array.replicate_zero,List.push_toArray,yE,yy,yK]
  gi_wp2
  go_end0
  exact ⟨⟨_,rfl⟩,.inl HJ⟩
 ·have ih:=ja ok Sn ED FH 8 y 0 W (xd _) L7 (xd _) (by rw [yn,hL];exact xd _) (fun i hi=>by rw [yn];show _=some ((Xb B lo _ y).getD i _);rw [hL,zgD,yt hi];rfl)
  rw [yn,<- hL,show ((8 - 8:Nat):Int)=0 from rfl] at ih;have IH:=zh ih;have:(y==0)=false:=by simp [hy0]
  have:(y != 0)=true:=by simp [hy0]
  clear Sn hY hJ U3 Le MI Sf c1 c2 c3 c4 L7 hL ih;refine callsIn_of_wp Tryz.func124 rfl trivial ?_ rfl;simp only [Tryz.ntmps124,List.size_toArray,yu,List.length_nil,Nat.reduceAdd,Nat.reduceSub,Array.replicate_succ,Array.replicate_zero,List.push_toArray,yE,yy,yK]
  gi_wp2
  refine ⟨trivial,(callsIn_wide.2 IH).mono ?_⟩;rintro e W' ⟨hc,⟨rfl,hj⟩ | ⟨rfl,k,Fw,hjx⟩⟩
  ·have HZ:=zh hj
   clear hj hc
   gi_wp2
   go_end0
   exact ⟨⟨_,rfl⟩,.inl HZ⟩
  ·have HZ:=zh hjx
   clear hjx hc
   gi_wp2
   go_end0
   exact ⟨⟨_,rfl⟩,.inr ⟨k,Fw,HZ⟩⟩
def Jv:List ((Nat × Nat) × Int)->Nat->List (Nat × Nat)->List (Nat × Nat) × Int
 | _,0,acc=>(acc,0)
 | [],_+1,acc=>(acc,0)
 | t::r,m+1,acc=>if t.2=0 then Jv r m (acc++[t.1]) else ([],t.2)
theorem eI : Jv [] m acc=(acc,0):=by cases m <;> rfl
theorem bC {L:List ((Nat × Nat) × Int)} : Jv L 0 acc=(acc,0):=by cases L <;> rfl
theorem lD {L:List ((Nat × Nat) × Int)} {k:Nat} (hk:k<L.length) (hm:k<m) :
  Jv (L.drop k) (m - k) acc=if (L.getD k ((0,0),0)).2=0 then Jv (L.drop (k+1)) (m - (k+1)) (acc++[(L.getD k ((0,0),0)).1]) else ([],(L.getD k ((0,0),0)).2):=by
 have e:L.getD k ((0,0),0)=L[k]:=by rw [zgD,yt hk];rfl
 rw [e,List.drop_eq_getElem_cons hk,show m - k=(m - (k+1))+1 by omega];rfl
theorem sV (n:Nat) (w:World) (b:Option Addr) (y:Int) (lo hi:Nat):CallsIn Fence.wide n Tryz.prog 73 #[.pointer b,.int .i64 y,.int .u64 (lo:Int),.int .u64 (hi:Int)] w fun e w' =>
  e = .returned (.func (.func 124) #[] #[zP (w.heap.size+1),zP w.heap.size,zP (w.heap.size+1+1),zP (w.heap.size+1+1+1)]) /\
  (((w.alloc (.cells #[.pointer b] 24)).alloc (.cells #[.int .i64 y] 3)).alloc (.cells #[.int .u64 (lo:Int)] 23)).alloc (.cells #[.int .u64 (hi:Int)] 23)=w':=by
 refine callsIn_of_wp Tryz.func73 rfl trivial ?_ rfl;simp only [Tryz.ntmps73,List.size_toArray,yu,List.length_nil,Nat.reduceAdd,Nat.reduceSub,Array.replicate_succ,Array.replicate_zero,List.push_toArray,yE,yy,yK]
 gi_wp2
 go_ret;exact ⟨rfl,rfl⟩
def Bg (W0:World) (ob mm:Nat) (L:List ((Nat × Nat) × Int)) (R:List (Nat × Nat) × Int) (k:Nat) (W:World):Prop :=
 ∃ (acc:zL) (v:Value),k<mm/\k<=L.length/\acc.length=k/\Jv (L.drop k) (mm - k) acc=R/\W.heap[ob]?=some (.cells #[v] 25 (0,0))/\W.ownsRow (W0.heap.size+2) 78 2 v acc.length (qp acc)/\zv [ob] W0 W
def A0 (W0:World) (rb eb ob:Nat) (R:List (Nat × Nat) × Int) (c:Code) (W:World):Prop :=
 ∃ (l:zL) (v:Value),W.heap[ob]?=some (.cells #[v] 25 (0,0))/\W.ownsRow (W0.heap.size+2) 78 2 v l.length (qp l) /\
  ((c = .ret/\R.1=[]/\W.heap[rb]?=some (.cells #[.slice none 0 0] 25 (0,0))/\W.heap[eb]?=some (.cells #[.int .i64 R.2] 29 (0,0))/\zv [rb,eb,ob] W0 W)∨(c = .exit 0/\R=(l,0)/\zv [ob] W0 W))
theorem OL {w':World} {e:TypeId} (h:w.ownsRow base e size v n xs) (hs:∀ g,v.ownBlock=some g->w'.heap[g]?=w.heap[g]?):w'.ownsRow base e size v n xs:=by
 refine ⟨h.1,?_⟩;rcases h.2 with h' | ⟨g,cap,BV,rfl,hb,hg,r⟩
 ·exact .inl h'
 ·exact .inr ⟨g,cap,BV,rfl,hb,(hs g rfl).trans hg,r⟩
theorem bD {base':Nat} {e:TypeId} (h:w.ownsRow base e size v n xs) (hb:base'<=base):w.ownsRow base' e size v n xs:=by
 refine ⟨h.1,?_⟩;rcases h.2 with h' | ⟨g,cap,BV,rfl,EX,r⟩
 ·exact .inl h'
 ·exact .inr ⟨g,cap,BV,rfl,qh hb EX,r⟩
def vA (ob:Nat) (W:World) (q:Nat):Prop:=∃ v,W.heap[ob]?=some (.cells #[v] 25 (0,0))/\v.ownBlock=some q
theorem vA.of {ob q:Nat} {W:World} (h:vA ob W q) (hv:W.heap[ob]?=some (.cells #[v] 25 (0,0))):v.ownBlock=some q:=by
 obtain ⟨v',h1,h2⟩:=h;rw [hv] at h1;injection h1 with h1;injection h1 with h1;injection h1 with h1;injection h1 with h1;rw [h1];exact h2
section
variable {W0 A A':World} {ob rb eb mm k:Nat} {L:List ((Nat × Nat) × Int)} {R:List (Nat × Nat) × Int} {c:Code}
theorem Bg.below (h:Bg W0 ob mm L R k A) (Dh:ob<W0.heap.size) (hb:dm (vA ob) W0.heap.size A A'):Bg W0 ob mm L R k A':=by
 obtain ⟨acc,v,h1,h2,h3,h4,h5,h6,h7⟩:=h;exact ⟨acc,v,h1,h2,h3,h4,(hb.b.block ob Dh).trans h5,OL h6 (fun g hg=>hb.p g ⟨v,h5,hg⟩),h7.afar hb.b⟩
theorem A0.below (h:A0 W0 rb eb ob R c A) (Dh:ob<W0.heap.size) (ER:rb<W0.heap.size) (P2:eb<W0.heap.size) (hb:dm (vA ob) W0.heap.size A A'):A0 W0 rb eb ob R c A':=by
 obtain ⟨l,v,h5,h6,h7⟩:=h;refine ⟨l,v,(hb.b.block ob Dh).trans h5,OL h6 (fun g hg=>hb.p g ⟨v,h5,hg⟩),?_⟩;rcases h7 with ⟨r1,r2,r3,r4,r5⟩ | ⟨r1,r2,r3⟩
 ·exact .inl ⟨r1,r2,(hb.b.block rb ER).trans r3,(hb.b.block eb P2).trans r4,r5.afar hb.b⟩
 ·exact .inr ⟨r1,r2,r3.afar hb.b⟩
theorem vA.lt {base n:Nat} {v:Value} {xs:List Value} {q:Nat} (h:vA ob A q) (hv:A.heap[ob]?=some (.cells #[v] 25 (0,0))) (hr:A.ownsRow base 78 2 v n xs):base<=q/\q<A.heap.size:=hr.lt q (h.of hv)
end
theorem gk {F:Fence} {nn:Nat} {ops:Array Oper} {rest:List Oper} {o:Oper} {a:Act} {Q:Exit->Act->World->Prop} (hg:o.guard=none) (s x:Operand) (t:TypeId)
  (Gv:o.op = .call { callee := .builtin .append,args:=#[s,x],argTypes:=#[t,t] }) (S6:o.type=t) {bytes:Nat} {e:TypeId} {z xv:Value} {news:List Value}
  (ht:Tryz.prog.underlying t=some (.slice e)) (EV:(Tryz.prog.info? e).map (fun i=>(i.zero,i.size,i.bytes))=some (some z,size,bytes)) (MN:z.cells.size=size) (Dg:0<size) (D5:bytes<=1000)
  (hs:a.eval s=v) (hx:a.eval x=xv) (BT:w.ownsRow base e size v n xs) (EN:xQ w size xv m news) (Ni:n+m<=3000000) (Dp:base<=w.heap.size)
  (hK:∀ v' w',w'.ownsRow base e size v' (n+m) (xs++news)->w.grownBy w' v.ownBlock->(v'.ownBlock=v.ownBlock∨v'.ownBlock=some w.heap.size)->wpListIn F nn Tryz.prog ops Q rest (a.put o.dst v') w'):wpListIn F nn Tryz.prog ops Q (o::rest) a w:=by
 refine wpListIn_plain hg fun K Ii=>?_;obtain ⟨v',w',B8,r1,r2,r3⟩:=fN ht EV MN Dg D5 BT EN Ni Dp;unfold Oper.wpIn;refine ⟨?_,?_⟩
 ·simp [Oper.about,Gv,resolve,Target.leads,Sem.run_pure]
 ·rw [Oper.semAt_plain F _ _ (by rw [Gv];intro c G7;cases G7)]
  simp [execOp,Gv,resolve,invoke,builtin,hs,hx,S6,B8,Result.andThen];exact Ii _ _ (hK _ _ r1 r2 r3)
theorem oV (h:zx w M F B) (ED:lo<18446744073709551616) (FH:hi<18446744073709551616) {most:Int} (T0 : -9223372036854775808<=most/\most<=9223372036854775807) (B9:(Xb B lo hi y).length<=2900000∨most<=2900000)
  {R:List (Nat × Nat) × Int} (hR:R=if most<1 then ([],0) else Jv (Xb B lo hi y) most.toNat []) :
  Calls Tryz.prog 38 #[.pointer (some ⟨M.b,0,none⟩),.int .i64 y,.int .u64 (lo:Int),.int .u64 (hi:Int),.int .i64 most] w fun e w' =>
   ∃ v,e = .returned (.tuple #[v,.int .i64 R.2])/\w'.ownsRow w.heap.size 78 2 v R.1.length (qp R.1)/\zv [] w w':=by
 obtain ⟨s,hs⟩:∃ s,s=w.heap.size:=⟨_,rfl⟩;obtain ⟨W3,FC⟩:∃ W3,W3=((w.alloc (.cells #[.int .i64 most] 3)).alloc (.cells #[.slice none 0 0] 25)).alloc (.cells #[.int .i64 0] 29):=⟨_,rfl⟩;have Ci:zv [] w W3:=by rw [FC];exact (((zv.refl [] w).alloc _).alloc _).alloc _
 have Hj:W3.heap.size=s+3:=by rw [FC,hs];simp
 have k0:W3.heap[s]?=some (.cells #[.int .i64 most] 3 (0,0)):=by rw [FC,Below.heap_alloc _ _ _ (by simp;omega),hs];exact kC _ _ _
 have k1:W3.heap[s+1]?=some (.cells #[.slice none 0 0] 25 (0,0)):=by rw [FC,Below.heap_alloc _ _ _ (by simp;omega),hs];exact cZ _ _ _
 have k2:W3.heap[s+2]?=some (.cells #[.int .i64 0] 29 (0,0)):=by
  rw [FC,hs];have:=heap_alloc_new ((w.alloc (.cells #[.int .i64 most] 3)).alloc (.cells #[.slice none 0 0] 25)) (.cells #[.int .i64 0] 29);simpa using this
 have Du:=h.chg Ci (by simp);have cb:=Du.cBlocks;obtain ⟨n,hn⟩:∃ n,n=B.T.n:=⟨_,rfl⟩
 have Ha:((n:Int)==0)=false:=by
  obtain ⟨R',hi',-⟩:=h;have:=hi'.c.ok.n;simp;omega
 rw [<- hn] at cb;have CB:=zh cb;have HK:=zh (zA k0 (zA k1 (zA k2 (zA Ci (zA Hj hs)))));have HB:=zh Du;have HR:=zh hR;have HL:=zh B9;clear h Du hs Ci Hj k0 k1 k2 cb hn hR B9;refine (callsIn_wide (n:=7)).1 ?_;refine callsIn_of_wp_marks Tryz.func38 rfl trivial ?_ rfl;simp only [Tryz.ntmps38,List.size_toArray,yu,List.length_nil,Nat.reduceAdd,Nat.reduceSub,Array.replicate_succ,Array.replicate_zero,List.push_toArray,yE,yy,yK]
 gi_wp2
 have hs:=HK.o.2.2.2.2.2;rw [<- hs];rw [<- FC];obtain ⟨rb,ER⟩:∃ rb,rb=s+1:=⟨_,rfl⟩;obtain ⟨eb,P2⟩:∃ eb,eb=s+1+1:=⟨_,rfl⟩;rw [<- P2,<- ER];have HE:=zh (zA ER (zA P2 (by omega:eb=s+2)));have d0:W3.cell? ⟨s,0,none⟩=some (.int .i64 most):=(zM HK.o.1 0).trans rfl;refine ⟨trivial,(callsIn_wide.2 CB.o).mono ?_⟩;rintro e w' ⟨rfl,rfl⟩;clear hs FC ER P2 CB;by_cases EE:most<1
 ·have k1:=HK.o.2.1
  have k2:=HK.o.2.2.1;rw [<- HE.o.1] at k1;rw [<- HE.o.2.2] at k2;have f1:=xB k1 0;have f2:=xB k2 0;have l1:=zz k1;have l2:=zz k2;have d1:W3.cell? ⟨rb,0,none⟩=some (.slice none 0 0):=(zM k1 0).trans rfl;have d2:W3.cell? ⟨eb,0,none⟩=some (.int .i64 0):=(zM k2 0).trans rfl;have ne1:rb≠eb:=by have h1:=HE.o.1;have h2:=HE.o.2.2;omega
  have ne2:eb≠rb:=fun q=>ne1 q.symm;have Uv:=zh (zA k1 k2);clear k1 k2
  gi_wp2
  have k3:((W3.setCell ⟨rb,0,none⟩ (.slice none 0 0)).setCell ⟨eb,0,none⟩ (.int .i64 0)).heap[rb]?=some (.cells #[.slice none 0 0] 25 (0,0)):=(ZS 0 _ ne1).trans (Yh Uv.o.1 0 _);have k4:((W3.setCell ⟨rb,0,none⟩ (.slice none 0 0)).setCell ⟨eb,0,none⟩ (.int .i64 0)).heap[eb]?=some (.cells #[.int .i64 0] 29 (0,0)):=Yh ((ZS 0 _ ne2).trans Uv.o.2) 0 _;have r1:((W3.setCell ⟨rb,0,none⟩ (.slice none 0 0)).setCell ⟨eb,0,none⟩ (.int .i64 0)).cell? ⟨rb,0,none⟩=some (.slice none 0 0):=(zM k3 0).trans rfl;have r2:((W3.setCell ⟨rb,0,none⟩ (.slice none 0 0)).setCell ⟨eb,0,none⟩ (.int .i64 0)).cell? ⟨eb,0,none⟩=some (.int .i64 0):=(zM k4 0).trans rfl;have hR:=HR.o;rw [if_pos EE] at hR;refine ⟨.tuple #[.slice none 0 0,.int .i64 0],by simp [results,Tryz.results38,go_sem,r1,r2],.slice none 0 0,by rw [hR],by rw [hR];exact yO _ _ _ _,?_⟩;exact HK.o.2.2.2.1.then (((zv.refl [rb,eb] W3).setCell (.inl (by simp)) _).setCell (.inl (by simp)) _) (fun q hq=>by simp only [ya,yk,or_false] at hq;have h1:=HE.o;have h2:=HK.o.2.2.2.2.2;exact .inr (by omega))
 ·have Fy:1<=most:=by omega
  obtain ⟨mm,hmm⟩:∃ mm:Nat,most=(mm:Int):=⟨most.toNat,by omega⟩;subst hmm;have cw:=sV 6 (W3.alloc (.cells #[.slice none 0 0] 25)) (some ⟨M.b,0,none⟩) y lo hi;have CW:=zh cw;clear cw
  gi_wp2
  refine ⟨trivial,CW.o.mono ?_⟩;rintro e w' ⟨rfl,Rt⟩
  gi_wp2
  obtain ⟨ob,Dh⟩:∃ ob,ob=W3.heap.size:=⟨_,rfl⟩
  have z0:w'.heap[ob]?=some (.cells #[.slice none 0 0] 25 (0,0)):=by
   rw [<- Rt,Below.heap_alloc _ _ _ (by simp;omega),Below.heap_alloc _ _ _ (by simp;omega),Below.heap_alloc _ _ _ (by simp;omega),Below.heap_alloc _ _ _ (by simp;omega),Dh];exact xo W3 _
  have z1:w'.heap[ob+1]?=some (.cells #[.pointer (some ⟨M.b,0,none⟩)] 24 (0,0)):=by
   rw [<- Rt,Below.heap_alloc _ _ _ (by simp;omega),Below.heap_alloc _ _ _ (by simp;omega),Below.heap_alloc _ _ _ (by simp;omega),Dh];exact cZ W3 _ _
  have z2:w'.heap[ob+1+1]?=some (.cells #[.int .i64 y] 3 (0,0)):=by
   rw [<- Rt,Below.heap_alloc _ _ _ (by simp;omega),Below.heap_alloc _ _ _ (by simp;omega),Dh];have:=cZ (W3.alloc (.cells #[.slice none 0 0] 25)) (.cells #[.pointer (some ⟨M.b,0,none⟩)] 24) (.cells #[.int .i64 y] 3);rw [zD] at this;exact this
  have z3:w'.heap[ob+1+1+1]?=some (.cells #[.int .u64 (lo:Int)] 23 (0,0)):=by
   rw [<- Rt,Below.heap_alloc _ _ _ (by simp;omega),Dh];have:=cZ ((W3.alloc (.cells #[.slice none 0 0] 25)).alloc (.cells #[.pointer (some ⟨M.b,0,none⟩)] 24)) (.cells #[.int .i64 y] 3) (.cells #[.int .u64 (lo:Int)] 23);rw [zD,zD] at this;exact this
  have z4:w'.heap[ob+1+1+1+1]?=some (.cells #[.int .u64 (hi:Int)] 23 (0,0)):=by
   rw [<- Rt,Dh];have:=cZ (((W3.alloc (.cells #[.slice none 0 0] 25)).alloc (.cells #[.pointer (some ⟨M.b,0,none⟩)] 24)).alloc (.cells #[.int .i64 y] 3)) (.cells #[.int .u64 (lo:Int)] 23) (.cells #[.int .u64 (hi:Int)] 23);rw [zD,zD,zD] at this;exact this
  have Cd:zv [] W3 w':=by rw [<- Rt];exact (((((zv.refl [] W3).alloc _).alloc _).alloc _).alloc _).alloc _
  have Dg:w'.heap.size=ob+5:=by rw [<- Rt,Dh];simp
  rw [<- Dh];have Wu:zx w' M (ob::F) B:=(HB.o.new (by rw [Dh];exact xd _)).chg Cd (by simp);have x1:w'.cell? ⟨ob+1,0,none⟩=some (.pointer (some ⟨M.b,0,none⟩)):=(zM z1 0).trans rfl;have x2:w'.cell? ⟨ob+1+1,0,none⟩=some (.int .i64 y):=(zM z2 0).trans rfl;have x3:w'.cell? ⟨ob+1+1+1,0,none⟩=some (.int .u64 (lo:Int)):=(zM z3 0).trans rfl;have x4:w'.cell? ⟨ob+1+1+1+1,0,none⟩=some (.int .u64 (hi:Int)):=(zM z4 0).trans rfl;have ok:B.Ok:=by obtain ⟨R',hi',-⟩:=HB.o;exact hi'.c.ok
  have Ua:(s:Nat)<ob:=by rw [Dh,HK.o.2.2.2.2.1];omega
  have hrbo:rb<ob:=by have h1:=HE.o.1;have h2:=HK.o.2.2.2.2.1;omega
  have hebo:eb<ob:=by have h1:=HE.o.2.2;have h2:=HK.o.2.2.2.2.1;omega
  have DN:=lC (F:=ob::F) (Lw:=[rb,eb,ob]) ok (y:=y) ED FH x2 x1 x3 x4 (by simp;omega);obtain ⟨L,hL⟩:∃ L,L=Xb B lo hi y:=⟨_,rfl⟩;rw [<- hL] at DN;have hR:=HR.o;rw [if_neg (by omega),yz,<- hL] at hR;have GQ:=HL.o;rw [<- hL] at GQ;have k0:=(Cd.block s (by have:=HK.o.2.2.2.2.1;omega) (by simp)).trans HK.o.1;have k1:=(Cd.block rb (by have:=HK.o.2.2.2.2.1;omega) (by simp)).trans (show W3.heap[rb]?=some (.cells #[.slice none 0 0] 25 (0,0)) from by rw [HE.o.1];exact HK.o.2.1);have k2:=(Cd.block eb (by have:=HK.o.2.2.2.2.1;omega) (by simp)).trans (show W3.heap[eb]?=some (.cells #[.int .i64 0] 29 (0,0)) from by rw [HE.o.2.2];exact HK.o.2.2.1);have HW:=zh (zA k0 (zA k1 (zA k2 (zA Wu (zA Cd GQ)))));have HRR:=zh hR;have NN:=zh (show rb≠eb/\rb≠ob/\eb≠ob/\s≠rb/\s≠eb/\s≠ob from by have h1:=HE.o;omega);clear Rt Dh z1 z2 z3 z4 x1 x2 x3 x4 Wu hL CW hR GQ k0 k1 k2 Cd d0 HL HR
  refine Vs rfl (by omega) (gf:=124) (lb:=#[.pointer (some ⟨ob+1+1,0,none⟩),.pointer (some ⟨ob+1,0,none⟩),.pointer (some ⟨ob+1+1+1,0,none⟩),.pointer (some ⟨ob+1+1+1+1,0,none⟩)]) rfl trivial (enters_of Tryz.func124 (by kernel_rfl) rfl) DN (by simp;omega) (fun k W av h=>by rw [h];rfl)
   (vA ob) (Bg w' ob mm L R) (fun c _ W=>A0 w' rb eb ob R c W)
   (fun k A A' h Cq=>h.below (by omega) Cq) (fun c k A A' h Cq=>h.below (by omega) (by omega) (by omega) Cq)
   ⟨[],.slice none 0 0,by omega,yg _,rfl,by rw [Nat.sub_zero,List.drop_zero];exact HRR.o.symm,z0,yO _ _ _ _,zv.refl _ _⟩
   (fun k A h=>by obtain ⟨acc,v,-,-,-,-,-,-,hc⟩:=h;exact HW.o.2.2.2.1.chg hc (by simp))
   (fun k A q h hq=>by obtain ⟨acc,v,-,-,-,-,h5,h6,-⟩:=h;have:=hq.lt h5 h6;omega)
   (fun k A A' q h Cq hq=>by
    obtain ⟨v',p1,p2⟩:=hq;exact ⟨v',(Cq.block ob (by omega)).symm.trans p1,p2⟩)
   (fun c k A A' q h Cq hq=>by
    obtain ⟨v',p1,p2⟩:=hq;exact ⟨v',(Cq.block ob (by omega)).symm.trans p1,p2⟩)
   (fun c k A q h hq=>by obtain ⟨l,v,h5,h6,-⟩:=h;have:=hq.lt h5 h6;omega) ?round ?done ?stop
  case round =>
   intro l k W av Dj DI hI hk Lz N6;obtain ⟨acc,v,h1,h2,h3,h4,h5,h6,h7⟩:=hI;rw [lD hk h1] at h4;obtain ⟨t,ht⟩:∃ t,t=L.getD k ((0,0),0):=⟨_,rfl⟩;rw [<- ht] at h4 Lz;subst Lz;obtain ⟨⟨tk,tv⟩,te⟩:=t;have HI:=zh (zA h1 (zA h3 (zA h4 (zA h5 (zA h6 h7)))));obtain ⟨rr,N6⟩:=N6
   have hnl:∀ q,v.ownBlock=some q->w'.heap.size+2<=q/\q<W.heap.size/\q≠l:=fun q hq=>by
    have:=h6.lt q hq;refine ⟨this.1,this.2,fun e=>?_⟩;subst e;rcases h6.2 with ⟨rfl,_⟩ | ⟨g,cap,BV,rfl,_,hg,_⟩
    ·cases hq
    ·injection hq with hq
     change g=q at hq
     rw [hq,N6] at hg;cases hg
   have PD:=zh hnl;clear h1 h2 h3 h4 h5 h6 h7 N6 hnl;unfold sP
   gi_wp2
   refine ⟨(zv.refl [] W).alloc _,fun W2 BW=>?_⟩;have FP:zv [l] W W2:=(((zv.refl [] W).alloc (.cells #[.int .u64 (tk:Int),.int .u64 (tv:Int),.int .i64 te] 154)).mono (by simp)).trans BW;have bt:=(BW.block W.heap.size (by simp) (by simp;omega)).trans (xo W (.cells #[.int .u64 (tk:Int),.int .u64 (tv:Int),.int .i64 te] 154));have hsW:=HI.o.2.2.2.2.2.size;have bob:=(FP.block ob (by omega) (by simp;omega)).trans HI.o.2.2.2.1;have bs:=(FP.block s (by omega) (by simp;omega)).trans ((HI.o.2.2.2.2.2.block s (by omega) (by simp;omega)).trans HW.o.1);have brb:=(FP.block rb (by omega) (by simp;omega)).trans ((HI.o.2.2.2.2.2.block rb (by omega) (by simp;omega)).trans HW.o.2.1);have beb:=(FP.block eb (by omega) (by simp;omega)).trans ((HI.o.2.2.2.2.2.block eb (by omega) (by simp;omega)).trans HW.o.2.2.1);have UH:=Xg HI.o.2.2.2.2.1 FP (fun q hq hm=>by have:=PD.o q hq;simp only [zms] at hm;omega);have Dv:zv [ob] w' W2:=HI.o.2.2.2.2.2.then FP (fun q hq=>by simp only [zms] at hq;subst hq;exact .inr Dj);obtain ⟨tb,Pm⟩:∃ tb,tb=W.heap.size:=⟨_,rfl⟩;rw [<- Pm] at bt ⊢;have e0:W2.cell? ⟨tb,0,none⟩=some (.int .u64 (tk:Int)):=(zM bt 0).trans rfl;have e1:W2.cell? ⟨tb,1,none⟩=some (.int .u64 (tv:Int)):=(zM bt 1).trans rfl;have e2:W2.cell? ⟨tb,2,none⟩=some (.int .i64 te):=(zM bt 2).trans rfl;have o0:W2.cell? ⟨ob,0,none⟩=some v:=(zM bob 0).trans rfl;have m0:W2.cell? ⟨s,0,none⟩=some (.int .i64 (mm:Int)):=(zM bs 0).trans rfl
   have HX:=zh (zA bt (zA bob (zA bs (zA brb (zA beb (zA UH Dv))))));have hlW2:W.heap.size<W2.heap.size:=by rw [<- Pm];exact zz bt
   have HTB:=zh (zA Pm hlW2);clear BW FP bt hsW bob bs brb beb UH Dv Pm hlW2;by_cases he:te=0
   ·subst he
    have Lp:Hd (Jv (L.drop (k+1)) (mm - (k+1)) (acc++[(tk,tv)])=R):=zh (by have:=HI.o.2.2.1;rw [if_pos rfl] at this;exact this);have Cc:=HX.o.2.2.2.2.2.1;rw [HI.o.2.1] at Cc;have FY:=xo W2 (.cells #[.int .u64 (tk:Int),.int .u64 (tv:Int)] 78);have Cd:zv [] W2 (W2.alloc (.cells #[.int .u64 (tk:Int),.int .u64 (tv:Int)] 78)):=(zv.refl [] W2).alloc _
    have H4:=zh (zA (Xg Cc Cd (by simp)) (zA FY (zA Cd (show w'.heap.size+2<=(W2.alloc (.cells #[.int .u64 (tk:Int),.int .u64 (tv:Int)] 78)).heap.size from by
     rw [zD];have h1:=HTB.o.2;omega))))
    have hkb:k+1<=3000000:=by have h1:=HW.o.2.2.2.2.2;have h2:=HI.o.1;omega
    have Uy:Hd (∀ w5,(W2.alloc (.cells #[.int .u64 (tk:Int),.int .u64 (tv:Int)] 78)).grownBy w5 v.ownBlock->w5.heap[ob]?=some (.cells #[v] 25 (0,0))/\w5.heap[s]?=some (.cells #[.int .i64 (mm:Int)] 3 (0,0))/\zv (qm v) W2 w5):=zh fun w5 hg=>by
     have WB:zv (qm v) W2 w5:=(H4.o.2.2.1.mono (by simp)).then ((zv.refl (qm v) _).grown hg (fun q hq => .inl (Xj.2 hq))) (fun q hq => .inl hq);have nob:ob∉qm v:=fun hm=>by have:=PD.o ob (Xj.1 hm);omega
     have nos:s∉qm v:=fun hm=>by have:=PD.o s (Xj.1 hm);omega
     exact ⟨(WB.block ob (zz HX.o.2.1) nob).trans HX.o.2.1,(WB.block s (zz HX.o.2.2.1) nos).trans HX.o.2.2.1,WB⟩
    have hdec:(k+1=mm/\(((k:Int)+1==(mm:Int))=true))∨(¬ k+1=mm/\(((k:Int)+1==(mm:Int))=false)):=by
     by_cases e:k+1=mm
     ·exact .inl ⟨e,by simp;omega⟩
     ·exact .inr ⟨e,by simp;omega⟩
    clear Cc FY Cd;rcases hdec with ⟨Mr,q6⟩ | ⟨Mr,q6⟩
    all_goals have HKM:=zh Mr
    all_goals clear Mr
    all_goals gi_wp2_with (gi_at_builtin;refine gk rfl _ _ 25 rfl rfl (base:=w'.heap.size+2) (size:=2) (n:=k) (m:=1) (xs:=qp acc) (news:=[.int .u64 (tk:Int),.int .u64 (tv:Int)]) Tryz.underlying25 Vt rfl (by omega) (by omega) rfl rfl H4.o.1 (xQ.blk H4.o.2.1 rfl (fun u hu=>by simp at hu;rcases hu with rfl | rfl <;> rfl)) (by omega) H4.o.2.2.2 ?_;intro v' w5 Cf Dd Ec;obtain ⟨b5,s5,c5⟩:=Uy.o w5 Dd;have H5:=zh (zA Cf (zA Ec (zA b5 c5)));obtain ⟨va,vc,rfl,EZ,Ge⟩:=XI Cf;have q0:w5.cell? ⟨ob,0,none⟩=some v:=(zM b5 0).trans rfl;have q1:w5.cell? ⟨s,0,none⟩=some (.int .i64 (mm:Int)):=(zM s5 0).trans rfl;have q2:=xB b5 0;have q3:=zz b5;have q4:s≠ob:=NN.o.2.2.2.2.2;have q5:ob≠s:=fun q=>q4 q.symm;clear Cf Dd Ec b5 s5 c5)
    all_goals
     have k6:(w5.setCell ⟨ob,0,none⟩ (.slice va (k+1) vc)).heap[ob]?=some (.cells #[.slice va (k+1) vc] 25 (0,0)):=Yh H5.o.2.2.1 0 _;have c6:zv (ob::qm v) W2 (w5.setCell ⟨ob,0,none⟩ (.slice va (k+1) vc)):=(H5.o.2.2.2.mono (fun q hq=>by simp [hq])).setCell (.inl (by simp)) _
     have row6:(w5.setCell ⟨ob,0,none⟩ (.slice va (k+1) vc)).ownsRow (w'.heap.size+2) 78 2 (.slice va (k+1) vc) (acc++[(tk,tv)]).length (qp (acc++[(tk,tv)])):=by
      rw [ZC,ym,HI.o.2.1];exact Xg H5.o.1 ((zv.refl [ob] w5).setCell (.inl (by simp)) _) (fun q hq hm=>by have h1:=H5.o.1.lt q hq;simp only [zms] at hm;omega)
     have y6:Qt (vA ob) [rb,eb,ob] W2 (w5.setCell ⟨ob,0,none⟩ (.slice va (k+1) vc)):=by
      refine ⟨⟨_,c6,fun q hq=>?_⟩,fun q hq=>?_⟩
      ·rcases ya.1 hq with rfl | hq
       ·exact .inl (by simp)
       ·exact .inr ⟨v,HX.o.2.1,Xj.1 hq⟩
      ·have h1:=hq.of k6
       rcases H5.o.2.1 with h2 | h2
       ·rw [h2] at h1;exact .inl ⟨v,HX.o.2.1,h1⟩
       ·rw [h2] at h1;injection h1 with h1;rw [<- h1,zD];exact .inr (by omega)
     have w6:zv [ob] w' (w5.setCell ⟨ob,0,none⟩ (.slice va (k+1) vc)):=HX.o.2.2.2.2.2.2.then c6 (fun q hq=>by
      rcases ya.1 hq with rfl | hq
      ·exact .inl (by simp)
      ·have:=PD.o q (Xj.1 hq);exact .inr (by omega))
    ·refine ⟨y6,acc++[(tk,tv)],_,k6,row6,.inr ⟨rfl,?_,w6⟩⟩
     rw [<- Lp.o,show mm - (k+1)=0 by have:=HKM.o;omega,bC]
    ·exact ⟨y6,acc++[(tk,tv)],_,by have h1:=HKM.o;have h2:=HI.o.1;omega,by omega,by rw [ym,HI.o.2.1];rfl,Lp.o,k6,row6,w6⟩
   ·have he1:(te==0)=false:=by simp [he]
    have he2:(te != 0)=true:=by simp [he]
    have Lp:Hd (R=([],te)):=zh (by rw [<- HI.o.2.2.1,if_neg he]);have r0:W2.cell? ⟨rb,0,none⟩=some (.slice none 0 0):=(zM HX.o.2.2.2.1 0).trans rfl;have r1:W2.cell? ⟨eb,0,none⟩=some (.int .i64 0):=(zM HX.o.2.2.2.2.1 0).trans rfl;have f0:=xB HX.o.2.2.2.1 0;have f1:=xB HX.o.2.2.2.2.1 0;have l0:=zz HX.o.2.2.2.1;have l1:=zz HX.o.2.2.2.2.1;have n1:rb≠eb:=NN.o.1;have n2:eb≠rb:=fun q=>NN.o.1 q.symm;have n3:rb≠tb:=by have:=HTB.o.1;have h2:=HI.o.2.2.2.2.2.size;omega
    have n4:eb≠tb:=by have:=HTB.o.1;have h2:=HI.o.2.2.2.2.2.size;omega
    have n5:tb≠rb:=fun q=>n3 q.symm;have n6:tb≠eb:=fun q=>n4 q.symm
    have key:∀ W5,zv [rb,eb] W2 W5->W5.heap[rb]?=some (.cells #[.slice none 0 0] 25 (0,0))->W5.heap[eb]?=some (.cells #[.int .i64 te] 29 (0,0))->Qt (vA ob) [rb,eb,ob] W2 W5/\A0 w' rb eb ob R .ret W5:=by
     intro W5 c5 q1 q2;have Wu:=(c5.block ob (zz HX.o.2.1) (by have:=NN.o;simp;omega)).trans HX.o.2.1;refine ⟨(Qt.of c5 (fun q hq => .inl ?_)).mono (by simp),acc,v,Wu,Xg HX.o.2.2.2.2.2.1 c5 (fun q hq hm=>by have h1:=PD.o q hq;simp only [ya,yk,or_false] at hm;omega),.inl ⟨rfl,by rw [Lp.o],q1,by rw [Lp.o];exact q2,(HX.o.2.2.2.2.2.2.mono (by simp)).trans (c5.mono (by simp))⟩⟩;exact ⟨v,HX.o.2.1,hq.of Wu⟩
    have TE:=zh key;have hfo:Tryz.prog.follows Departure.mixedOrders=true:=by kernel_rfl
    clear key
    gi_wp2
    gi_region_with_o (fail)
    all_goals gi_wp2
    all_goals exact TE.o _ (((zv.refl [rb,eb] W2).setCell (.inl (by simp)) _).setCell (.inl (by simp)) _).drew ((ZS 0 _ n1).trans (Yh HX.o.2.2.2.1 0 _)) (Yh ((ZS 0 _ n2).trans HX.o.2.2.2.2.1) 0 _)
  case done =>
   rintro D W hD ⟨acc,v,h1,h2,h3,h4,LK,Cc,Mi⟩ hK;rw [List.drop_length,eI] at h4;have G4:R=(acc,0):=h4.symm;clear h1 h2 h3 h4;obtain ⟨va,vc,rfl,EZ,Ge⟩:=XI Cc;have r0:=(Mi.block rb (by omega) (by have:=NN.o;simp;omega)).trans HW.o.2.1;have r1:=(Mi.block eb (by omega) (by have:=NN.o;simp;omega)).trans HW.o.2.2.1;have o0:W.cell? ⟨ob,0,none⟩=some (.slice va acc.length vc):=(zM LK 0).trans rfl;have x0:W.cell? ⟨rb,0,none⟩=some (.slice none 0 0):=(zM r0 0).trans rfl;have x1:W.cell? ⟨eb,0,none⟩=some (.int .i64 0):=(zM r1 0).trans rfl;have f0:=xB r0 0;have f1:=xB r1 0;have l0:=zz r0;have l1:=zz r1;have n1:rb≠eb:=NN.o.1;have n2:eb≠rb:=fun q=>NN.o.1 q.symm;have HF:=zh (zA r0 (zA r1 (zA LK (zA Cc (zA Mi (zA G4 hK))))));clear r0 r1 LK Cc Mi G4 hK EZ Ge
   gi_wp2
   have g0:((W.setCell ⟨rb,0,none⟩ (.slice va acc.length vc)).setCell ⟨eb,0,none⟩ (.int .i64 0)).heap[rb]?=some (.cells #[(.slice va acc.length vc)] 25 (0,0)):=(ZS 0 _ n1).trans (Yh HF.o.1 0 _);have g1:((W.setCell ⟨rb,0,none⟩ (.slice va acc.length vc)).setCell ⟨eb,0,none⟩ (.int .i64 0)).heap[eb]?=some (.cells #[.int .i64 0] 29 (0,0)):=Yh ((ZS 0 _ n2).trans HF.o.2.1) 0 _;have gD:((W.setCell ⟨rb,0,none⟩ (.slice va acc.length vc)).setCell ⟨eb,0,none⟩ (.int .i64 0)).heap[D]?=some (.deferred (some [])):=(ZS 0 _ (by omega)).trans ((ZS 0 _ (by omega)).trans HF.o.2.2.2.2.2.2);have c7:zv [rb,eb] W ((W.setCell ⟨rb,0,none⟩ (.slice va acc.length vc)).setCell ⟨eb,0,none⟩ (.int .i64 0)):=((zv.refl [rb,eb] W).setCell (.inl (by simp)) _).setCell (.inl (by simp)) _;generalize (W.setCell ⟨rb,0,none⟩ (.slice va acc.length vc)).setCell ⟨eb,0,none⟩ (.int .i64 0)=W7 at g0 g1 gD c7 ⊢;have hs:=HK.o.2.2.2.2.2;have KN:=Yd (W:=W7) (l:=D) (.deferred none);have q0:=(KN.block rb (zz g0) (by simp;omega)).trans g0;have q1:=(KN.block eb (zz g1) (by simp;omega)).trans g1
   have Tl:=Xg (Xg HF.o.2.2.2.1 c7 (fun q hq hm=>by have h1:=HF.o.2.2.2.1.lt q hq;simp only [ya,yk,or_false] at hm;omega)) KN (fun q hq hm=>by
    simp only [zms] at hm;subst hm;rcases HF.o.2.2.2.1.2 with ⟨e,_⟩ | ⟨g,cap,BV,e,_,hg,_⟩
    ·rw [e] at hq;cases hq
    ·rw [e] at hq
     injection hq with hq
     change g=q at hq
     rw [hq,HF.o.2.2.2.2.2.2] at hg;cases hg)
   have c8:zv [] w (W7.putObj D (.deferred none)):=(HK.o.2.2.2.1.trans HW.o.2.2.2.2.1).then ((HF.o.2.2.2.2.1.mono (L':=[rb,eb,ob,D]) (by simp)).trans ((c7.mono (by simp)).trans (KN.mono (by simp)))) (fun q hq=>by
    simp only [ya,yk,or_false] at hq;have h1:=HE.o;exact .inr (by omega))
   refine ⟨by simp,.inl ⟨_,_,rfl,run_takeDeferred gD,?_⟩⟩;have t0:(W7.putObj D (.deferred none)).cell? ⟨rb,0,none⟩=some (.slice va acc.length vc):=(zM q0 0).trans rfl;have t1:(W7.putObj D (.deferred none)).cell? ⟨eb,0,none⟩=some (.int .i64 0):=(zM q1 0).trans rfl;refine ⟨.tuple #[(.slice va acc.length vc),.int .i64 0],by simp [results,Tryz.results38,go_sem,t0,t1],(.slice va acc.length vc),by rw [HF.o.2.2.2.2.2.1],?_,c8⟩;rw [HF.o.2.2.2.2.2.1];exact bD Tl (by omega)
  case stop =>
   rintro D c k W hD hk ⟨acc,v,LK,Cc,⟨rfl,hRl,ER,P2,Mi⟩ | ⟨rfl,G4,Mi⟩⟩ hK
   ·gi_wp2
    have KN:=Yd (W:=W) (l:=D) (.deferred none);have q0:=(KN.block rb (zz ER) (by simp;omega)).trans ER;have q1:=(KN.block eb (zz P2) (by simp;omega)).trans P2;have hs:=HK.o.2.2.2.2.2
    have c8:zv [] w (W.putObj D (.deferred none)):=(HK.o.2.2.2.1.trans HW.o.2.2.2.2.1).then ((Mi.mono (L':=[rb,eb,ob,D]) (by simp)).trans (KN.mono (by simp))) (fun q hq=>by
     simp only [ya,yk,or_false] at hq;have h1:=HE.o;exact .inr (by omega))
    have t0:(W.putObj D (.deferred none)).cell? ⟨rb,0,none⟩=some (.slice none 0 0):=(zM q0 0).trans rfl;have t1:(W.putObj D (.deferred none)).cell? ⟨eb,0,none⟩=some (.int .i64 R.2):=(zM q1 0).trans rfl;refine ⟨by simp,.inl ⟨_,_,rfl,run_takeDeferred hK,?_⟩⟩;refine ⟨.tuple #[.slice none 0 0,.int .i64 R.2],by simp [results,Tryz.results38,go_sem,t0,t1],.slice none 0 0,rfl,?_,c8⟩;rw [hRl];exact yO _ _ _ _
   ·obtain ⟨va,vc,rfl,EZ,Ge⟩:=XI Cc
    have r0:=(Mi.block rb (by omega) (by have:=NN.o;simp;omega)).trans HW.o.2.1;have r1:=(Mi.block eb (by omega) (by have:=NN.o;simp;omega)).trans HW.o.2.2.1;have o0:W.cell? ⟨ob,0,none⟩=some (.slice va acc.length vc):=(zM LK 0).trans rfl;have x0:W.cell? ⟨rb,0,none⟩=some (.slice none 0 0):=(zM r0 0).trans rfl;have x1:W.cell? ⟨eb,0,none⟩=some (.int .i64 0):=(zM r1 0).trans rfl;have f0:=xB r0 0;have f1:=xB r1 0;have l0:=zz r0;have l1:=zz r1;have n1:rb≠eb:=NN.o.1;have n2:eb≠rb:=fun q=>NN.o.1 q.symm;have HF:=zh (zA r0 (zA r1 (zA LK (zA Cc (zA Mi (zA G4 hK))))));clear r0 r1 LK Cc Mi G4 hK EZ Ge
    gi_wp2
    have g0:((W.setCell ⟨rb,0,none⟩ (.slice va acc.length vc)).setCell ⟨eb,0,none⟩ (.int .i64 0)).heap[rb]?=some (.cells #[(.slice va acc.length vc)] 25 (0,0)):=(ZS 0 _ n1).trans (Yh HF.o.1 0 _);have g1:((W.setCell ⟨rb,0,none⟩ (.slice va acc.length vc)).setCell ⟨eb,0,none⟩ (.int .i64 0)).heap[eb]?=some (.cells #[.int .i64 0] 29 (0,0)):=Yh ((ZS 0 _ n2).trans HF.o.2.1) 0 _;have gD:((W.setCell ⟨rb,0,none⟩ (.slice va acc.length vc)).setCell ⟨eb,0,none⟩ (.int .i64 0)).heap[D]?=some (.deferred (some [])):=(ZS 0 _ (by omega)).trans ((ZS 0 _ (by omega)).trans HF.o.2.2.2.2.2.2);have c7:zv [rb,eb] W ((W.setCell ⟨rb,0,none⟩ (.slice va acc.length vc)).setCell ⟨eb,0,none⟩ (.int .i64 0)):=((zv.refl [rb,eb] W).setCell (.inl (by simp)) _).setCell (.inl (by simp)) _;generalize (W.setCell ⟨rb,0,none⟩ (.slice va acc.length vc)).setCell ⟨eb,0,none⟩ (.int .i64 0)=W7 at g0 g1 gD c7 ⊢;have hs:=HK.o.2.2.2.2.2;have KN:=Yd (W:=W7) (l:=D) (.deferred none);have q0:=(KN.block rb (zz g0) (by simp;omega)).trans g0;have q1:=(KN.block eb (zz g1) (by simp;omega)).trans g1
    have Tl:=Xg (Xg HF.o.2.2.2.1 c7 (fun q hq hm=>by have h1:=HF.o.2.2.2.1.lt q hq;simp only [ya,yk,or_false] at hm;omega)) KN (fun q hq hm=>by
     simp only [zms] at hm;subst hm;rcases HF.o.2.2.2.1.2 with ⟨e,_⟩ | ⟨g,cap,BV,e,_,hg,_⟩
     ·rw [e] at hq;cases hq
     ·rw [e] at hq
      injection hq with hq
      change g=q at hq
      rw [hq,HF.o.2.2.2.2.2.2] at hg;cases hg)
    have c8:zv [] w (W7.putObj D (.deferred none)):=(HK.o.2.2.2.1.trans HW.o.2.2.2.2.1).then ((HF.o.2.2.2.2.1.mono (L':=[rb,eb,ob,D]) (by simp)).trans ((c7.mono (by simp)).trans (KN.mono (by simp)))) (fun q hq=>by
     simp only [ya,yk,or_false] at hq;have h1:=HE.o;exact .inr (by omega))
    refine ⟨by simp,.inl ⟨_,_,rfl,run_takeDeferred gD,?_⟩⟩;have t0:(W7.putObj D (.deferred none)).cell? ⟨rb,0,none⟩=some (.slice va acc.length vc):=(zM q0 0).trans rfl;have t1:(W7.putObj D (.deferred none)).cell? ⟨eb,0,none⟩=some (.int .i64 0):=(zM q1 0).trans rfl;refine ⟨.tuple #[(.slice va acc.length vc),.int .i64 0],by simp [results,Tryz.results38,go_sem,t0,t1],(.slice va acc.length vc),by rw [HF.o.2.2.2.2.2.1],?_,c8⟩;rw [HF.o.2.2.2.2.2.1];exact bD Tl (by omega)
end Go.Proofs.YtegpiomkmfhadaaGreat
namespace Go.Proofs.YtegpiomkmfhadaaGreat
open Go.RowKit
variable {w:World} {M:Bm} {R:Br} {B:Bs} {x:Int} {v:Value} {F:List Nat}
def Bs.mayC (B:Bs) (x:Int):Bool:=decide (2<=x)&&decide (x<(B.T.n:Int)) && !Z7 B 0 x && !Z7 B 1 x
theorem qQ.cont (h:qQ w M R B) {k:Nat} (hk:k<2) (x:Int) :
  zC 118 #[zS (R.g k) (qd B.T.n k) (R.c k),.int .i64 x] w fun e w'=>e = .returned (.bool (Z7 B k x))/\w=w':=by
 have n1:=h.ok.n;have hp:=mN (k:=k) n1.1;have Dl:qd B.T.n k<=4096:=by unfold qd pg;split <;> omega
 rcases h.sh.l k hk with ⟨e,_⟩ | ⟨g,c,e,h1,h2,h3,h4⟩
 ·cases e
 ·injection e with e e2 e3
  injection e with e;injection e with e;subst e3;rw [<- e] at h4;refine sf (l:=B.a k) Dl ?_ (fun i hi=>?_) Zh
  ·rw [e2];exact h1
  ·have:=h4 i (by rw [xF];exact hi)
   rw [Y0 _ _ hi] at this;exact this
theorem bE (h:qQ w M R B) (hx:B.mayC x=false) :
  zC 65 #[zP M.b,.int .i64 x,v] w fun e w'=>e = .returned (.int .i64 2)/\w=w':=by
 have:=h.ok.n;have cb:=qH h;have c3:=h.c3;have c4:=h.c4;have p0:=h.cont (k:=0) zo x;have p1:=h.cont (k:=1) zo x;have:=zh hx;unfold Bs.mayC at hx;by_cases i0:x<2
 ·go_enter Tryz.func65,Tryz.ntmps65
  go_wp2_with fail;go_ret;exact ⟨rfl,rfl⟩
 by_cases i1:(B.T.n:Int)<=x
 ·go_enter Tryz.func65,Tryz.ntmps65
  go_wp2_with fail;refine zm (cb) ?_;go_wp2_with fail;go_ret;exact ⟨rfl,rfl⟩
 rw [yq zo,yq zo] at hx
 cases e0:Z7 B 0 x with
 | true =>
  rw [e0] at p0;go_enter Tryz.func65,Tryz.ntmps65;go_wp2_with fail;refine zm (cb) ?_;go_wp2_with fail;refine zm (p0) ?_;go_wp2_with fail;go_ret;exact ⟨rfl,rfl⟩
 | false =>
  have e1:Z7 B 1 x=true:=by rw [e0] at hx;simpa using hx
  rw [e0] at p0;rw [e1] at p1;go_enter Tryz.func65,Tryz.ntmps65;go_wp2_with fail;refine zm (cb) ?_;go_wp2_with fail;refine zm (p0) ?_;go_wp2_with fail;refine zm (p1) ?_;go_wp2_with fail;go_ret;exact ⟨rfl,rfl⟩
theorem Bs.mayC_nat (h:B.mayC x=true):2<=x/\x<(B.T.n:Int)/\Z7 B 0 x=false/\Z7 B 1 x=false:=by
 simp only [Bs.mayC,Bool.and_eq_true,decide_eq_true_iff,Bool.not_eq_true'] at h;exact ⟨h.1.1.1,h.1.1.2,h.1.2,h.2⟩
theorem OM (h:qQ w M R B) (hx:B.mayC x=true) (h0:getV B.T x=0) :
  zC 65 #[zP M.b,.int .i64 x,v] w fun e w'=>e = .returned (.int .i64 82)/\w=w':=by
 have:=h.ok.n;have cb:=qH h;have c1:=h.c1;have c3:=h.c3;have c4:=h.c4;have p0:=h.cont (k:=0) zo x;have p1:=h.cont (k:=1) zo x;obtain ⟨j0,j1,e0,e1⟩:=B.mayC_nat hx;have:¬ x<2:=zo
 have:¬ (B.T.n:Int)<=x:=zo;rw [e0] at p0;rw [e1] at p1;have cg:=QD h.pt.ht x;rw [h0] at cg;clear e0 e1 h0 h hx;go_enter Tryz.func65,Tryz.ntmps65;go_wp2_with fail;refine zm (cb) ?_;go_wp2_with fail;refine zm (p0) ?_;go_wp2_with fail;refine zm (p1) ?_;go_wp2_with fail;refine zm (cg) ?_;go_wp2_with fail;go_ret;exact ⟨rfl,rfl⟩
theorem x6.less {w2:World} {B':Bs} (h:x6 w M R B) (Gi:∀ q,fX M R B q->q∉F) (c:zv M.L w w2) (hn:B'.T.n=B.T.n) (ha:B'.a=B.a) (hD:B'.D=B.D)
  (Fa:∀ y f,B'.fr y=some f->B.fr y=some f) (pt:PT w2 M.p M.t M.bc M.bk B'.K B'.T) (top:w2.heap[M.b]?=some (.cells (zK 44 (Xr M R B')) 58 (0,0))) (fm:xJ Tryz.prog 3 dW w2 M.mf B.T.n (oC R B'))
  (d:xE w2 M.d M.bb (.slice none 0 0) ⟨B.T.n,B.D,[]⟩) (ok:B'.Ok) (hF:∀ q,q∈F->q<w.heap.size):zx w2 M F B':=by
 have Cm:x6 w2 M R B':=h.remake c hn ha rfl rfl top pt (by rw [hn];exact fm) (fun k f hk hf=>h.fd_keep c (by rw [<- hn];exact hk) (Fa k f hf)) (by rw [hn,hD];exact d) ok;refine zx.of h Gi Cm hn rfl hF (fun k hk hs => .inl ⟨?_,rfl⟩)
 cases hq:B'.fr k with
 | none=>rw [hq] at hs;cases hs
 | some f=>rw [Fa k f hq];rfl
def Bs.counted (B:Bs) (T':zW) (x:Nat):Bs := { B with T:=T',fr:=fun y=>if y=x/\T'.now x=0 then none else B.fr y }
theorem oW (h:zx w M F B) (hF:∀ q,q∈F->q<w.heap.size) {x:Nat} {E:Int} {T':zW} (hx:B.mayC (x:Int)=true) (h0:B.T.now x≠0)
  (hg:∀ w,PT w M.p M.t M.bc M.bk B.K B.T->zC 66 #[zP M.t,.int .i64 (x:Int)] w fun e w'=>e = .returned (.int .i64 E)/\PT w' M.p M.t M.bc M.bk B.K T'/\zv [M.p,M.t,M.bc,M.bk] w w')
  (hn:T'.n=B.T.n) (Dm:(B.counted T' x).Ok) :
  zC 65 #[zP M.b,.int .i64 (x:Int),.func (.func 66) #[zP M.t] #[]] w fun e w'=>e = .returned (.int .i64 E)/\zx w' M F (B.counted T' x)/\zv M.L w w':=by
 obtain ⟨R,hB,Gi⟩:=h;have n1:=hB.c.ok.n;have cb:=qH hB.c;have c1:=hB.c.c1;have c3:=hB.c.c3;have c4:=hB.c.c4;have p0:=hB.c.cont (k:=0) zo (x:Int);have p1:=hB.c.cont (k:=1) zo (x:Int);obtain ⟨j0,j1,e0,e1⟩:=B.mayC_nat hx;have i0:¬ (x:Int)<2:=zo
 have i1:¬ (B.T.n:Int)<=(x:Int):=zo;rw [e0] at p0;rw [e1] at p1;have Pu:x<B.T.n:=zo;have cg:=QD hB.c.pt.ht (x:Int)
 have RZ:∀ T:zW,T.n=B.T.n->getV T (x:Int)=(T.now x:Int):=fun T hT=>by
  unfold getV;rw [(x7 T (x:Int)).2 zo,if_pos rfl,yz]
 rw [RZ _ rfl] at cg;have i2:¬ B.T.now x=0:=h0;have CG:=zh (hg w hB.c.pt);have nd:=hB.nodup;simp only [Bm.L,List.nodup_cons,ya,yk,or_false,not_or,List.nodup_nil,and_true] at nd;have HB:=zh (zA hB Gi);have HH:=zh (zA Dm (zA hF (zA nd RZ)));clear hB Gi Dm hF nd RZ e0 e1 hx hg h0;go_enter Tryz.func65,Tryz.ntmps65;go_wp2_with fail;refine zm (cb) ?_;go_wp2_with fail;refine zm (p0) ?_;go_wp2_with fail;refine zm (p1) ?_;go_wp2_with fail;refine zm (cg) ?_;go_wp2_with fail;go_simp;refine CG.mono ?_;rintro e w1 ⟨rfl,Hh,hc⟩;have nd:=HH.2.2.1;have Cv:∀ q,q≠M.p->q≠M.t->q≠M.bc->q≠M.bk->q∉[M.p,M.t,M.bc,M.bk]:=fun q a b c d=>by simp [a,b,c,d]
 have l1:=zz HB.1.c.top;have al:=(hc.block M.b l1 (Cv _ nd.1.2.2.1 nd.1.2.2.2.1 nd.1.2.2.2.2.1 nd.1.2.2.2.2.2.1)).trans HB.1.c.top;have d1:w1.cell? ⟨M.b,1,none⟩=some (zP M.t):=(Q3 al zo).trans rfl;have d5:w1.cell? ⟨M.b,5,none⟩=some (.map (some M.mf)):=(Q3 al zo).trans rfl;have KQ:=QD Hh.ht (x:Int);rw [HH.2.2.2 _ hn] at KQ;have i3:x<B.T.n:=Pu;have HP:=zh (zA Hh (zA hc (zA al nd)));have l11:=zz al;clear Hh hc al nd Cv;have EE:=HB.1.c.fm.chg HP.2.1 zah;by_cases hz:T'.now x=0
 ·obtain ⟨w2,B8,Fy,Cg⟩:=EE.del (t:=51) (k:=x) Tryz.underlying3 Tryz.underlying51 Pu n1.2 0
  have BW:=xD Cg;have HZ:=zh (zA Fy BW);clear EE Fy Cg BW;go_wp2_with fail;refine zm (KQ) ?_;go_wp2_with fail;go_ret;have nd:=HP.2.2.2;have BU:∀ q,q≠M.mf->q∉[M.mf]:=fun q hq=>by simpa using hq
  have GB:zv M.L w w2:=(HP.2.1.mono zan).trans (HZ.2.mono zan);refine ⟨rfl,HB.1.less HB.2 GB hn rfl rfl (fun y f hy=>?_) (HP.1.chg HZ.2 (BU _ nd.2.2.2.1.2.2.2) (BU _ nd.2.2.2.2.1.2.2) (BU _ nd.2.2.2.2.2.1.2) (BU _ nd.2.2.2.2.2.2.1)) ?_ ?_ ?_ HH.1 HH.2.1,GB⟩
  ·have IK:(if y=x/\T'.now x=0 then none else B.fr y)=some f:=hy
   split at IK
   ·cases IK
   ·exact IK
  ·rw [Z8 (B:=B) (B':=B.counted T' x) hn rfl rfl rfl rfl]
   exact (HZ.2.block M.b l11 (BU _ nd.1.2.2.2.2.2.2)).trans HP.2.2.1
  ·refine HZ.1.congr (fun i hi=>?_)
   unfold oC Bs.counted;by_cases e:i=x
   ·simp [e,hz]
   ·simp [e]
  ·exact (HB.1.d.chg HP.2.1 zav zav (fun k hk=>by cases hk)).chg HZ.2 (BU _ nd.2.1.2.2.2.2.2) (BU _ nd.2.2.1.2.2.2.2) (fun k hk=>by cases hk)
 ·have i4:¬ T'.now x=0:=hz
  have HM:=zh EE;clear EE;go_wp2_with fail;refine zm (KQ) ?_;go_wp2_with fail;go_ret;have nd:=HP.2.2.2;have GB:zv M.L w w1:=HP.2.1.mono zan
  have UU:(B.counted T' x).fr=B.fr:=by
   funext y
   show (if y=x/\T'.now x=0 then none else B.fr y)=B.fr y
   rw [if_neg (fun h=>hz h.2)]
  refine ⟨rfl,HB.1.less HB.2 GB hn rfl rfl (fun y f hy=>by rw [UU] at hy;exact hy) HP.1 ?_ ?_ ?_ HH.1 HH.2.1,GB⟩
  ·rw [Z8 (B:=B) (B':=B.counted T' x) hn rfl rfl rfl rfl]
   exact HP.2.2.1
  ·refine HM.congr (fun i hi=>?_)
   unfold oC;rw [UU]
  ·exact HB.1.d.chg HP.2.1 zav zav (fun k hk=>by cases hk)
end Go.Proofs.YtegpiomkmfhadaaGreat
