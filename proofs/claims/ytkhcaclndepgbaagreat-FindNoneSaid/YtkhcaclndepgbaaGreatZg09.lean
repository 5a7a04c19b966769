/- Package super: Encode. -/
import Derived.Test.YtkhcaclndepgbaaGreatZg08
set_option linter.unusedVariables false
set_option linter.unusedSimpArgs false
set_option maxRecDepth 100000
set_option maxHeartbeats 20000000
namespace Go.Proofs.YtkhcaclndepgbaaGreat
open Go.RowKit Go.Shelf
attribute [local go_sem] Oper.semAt_some
theorem Sup.Ok.wf {S:Sup} (h:S.Ok):S.Wf:=⟨fun k hk=>h.val hk⟩
theorem Sup.cell_one (S:Sup) (i:Nat):(S.cellV i).oneCell'=true:=by
 unfold Sup.cellV
 repeat' split
 all_goals rfl
theorem Sup.row_size (S:Sup):S.row.size=18:=zfs _ _
theorem row_inj {S S':Sup} (h:S'.row=S.row):∀ k,k<18→S'.valS k=S.valS k:=fun k hk=>by
 have e:=congrArg (fun r:Array Value=>r[k]?) h
 simp only [Sup.row] at e
 rw [zfg hk,zfg hk,cellV_mk _ hk,cellV_mk _ hk] at e
 injection e with e
 unfold mkV at e
 split at e
 ·injection e with _ e;omega
 ·split at e
  ·injection e with _ e;omega
  ·injection e with _ e;omega
theorem setFn_one (k B0 ib:Nat):(setFn k B0 ib).oneCell'=true:=by
 unfold setFn
 repeat' split
 all_goals rfl
theorem three_one {a b:Int} {fv:Value} (h:fv.oneCell'=true):(#[Value.int .i64 a,.int .u64 b,fv].all (·.oneCell'))=true:=by
 rw [Array.all_eq_true_iff_forall_mem]
 intro x hx
 simp only [List.mem_toArray,List.mem_cons,List.not_mem_nil,or_false] at hx
 rcases hx with rfl | rfl | rfl
 ·rfl
 ·rfl
 ·exact h
theorem infoField:(Tryz.prog.info? 235).map (·.size)=some 3:=by kernel_rfl
theorem infoSup:(Tryz.prog.info? 49).map (·.size)=some 18:=by kernel_rfl
theorem wpListIn_loadSup {F:Fence} {m:Nat} {ops:Array Oper} {rest:List Oper} {op:Oper} {a:Act} {w:World} {Q:Exit→Act→World→Prop} {k o:Nat} {S:Sup} (hgd:op.guard=none) (x:Operand) (ho:op.op = .load 49 x)
  (hx:a.eval x = .pointer (some ⟨k,o,none⟩)) (hS:∀ j,j<18→w.cell? ⟨k,o+j,none⟩=some (S.cellV j)) (h:wpListIn F m Tryz.prog ops Q rest (a.put op.dst (.agg S.row)) w):wpListIn F m Tryz.prog ops Q (op::rest) a w :=
 wpListIn_loadV hgd x ho Tryz.underlying49 rfl infoSup hx hS h
theorem wpList_loadSup {ops:Array Oper} {rest:List Oper} {op:Oper} {a:Act} {w:World} {Q:Exit→Act→World→Prop} {k o:Nat} {S:Sup} (hgd:op.guard=none) (x:Operand) (ho:op.op = .load 49 x)
  (hx:a.eval x = .pointer (some ⟨k,o,none⟩)) (hS:∀ j,j<18→w.cell? ⟨k,o+j,none⟩=some (S.cellV j)) (h:wpList Tryz.prog ops Q rest (a.put op.dst (.agg S.row)) w):wpList Tryz.prog ops Q (op::rest) a w :=
 wpList_loadV hgd x ho Tryz.underlying49 rfl infoSup hx hS h
theorem laid_sup (V:Nat→Value) (S:Sup):fnRow 18 (laid V S.cellV 0 18)=S.row:=by
 apply Array.ext_getElem?
 intro i
 by_cases hi:i<18
 ·rw [zfg hi,Sup.row,zfg hi]
  unfold laid
  rw [if_pos ⟨Nat.zero_le _,by omega⟩,Nat.sub_zero]
 ·rw [Array.getElem?_eq_none (by rw [zfs];omega),Array.getElem?_eq_none (by rw [Sup.row_size];omega)]
theorem load_sup {w:World} {k o:Nat} {S:Sup} (hS:∀ j,j<18→w.cell? ⟨k,o+j,none⟩=some (S.cellV j)):(loadVar 49 ⟨k,o,none⟩).run Tryz.prog w = .ok (.agg S.row) w:=by
 have hr:=run_loadVar_mid (P:=Tryz.prog) w k o 49 S.row.toList _ (fun j v hv=>by
  have hj:j<18:=by
   by_cases hj:j<18
   ·exact hj
   ·rw [Array.getElem?_toList,Array.getElem?_eq_none (by rw [Sup.row_size];omega)] at hv;cases hv
  rw [Array.getElem?_toList,Sup.row,zfg hj] at hv
  rw [← Option.some.inj hv]
  exact hS j hj) Tryz.underlying49 rfl (by rw [infoSup,Array.length_toList,Sup.row_size])
 rw [Array.toArray_toList] at hr
 exact hr
theorem wpListIn_loadSup_w {F:Fence} {m:Nat} {ops:Array Oper} {rest:List Oper} {op:Oper} {a:Act} {w:World} {Q:Exit→Act→World→Prop} {k o:Nat} {S:Sup} (x:Operand) (ho:op.op = .load 49 x) (hw:Region.wanted op (yielded ops a.tmps)=true)
  (hx:a.eval x = .pointer (some ⟨k,o,none⟩)) (hS:∀ j,j<18→w.cell? ⟨k,o+j,none⟩=some (S.cellV j)) (h:wpListIn F m Tryz.prog ops Q rest (a.put op.dst (.agg S.row)) w):wpListIn F m Tryz.prog ops Q (op::rest) a w:=by
 unfold wpListIn
 rw [if_pos hw]
 have hr:=run_loadAt_mid (P:=Tryz.prog) w k o 49 S.row.toList _ (fun j v hv=>by
  have hj:j<18:=by
   by_cases hj:j<18
   ·exact hj
   ·rw [Array.getElem?_toList,Array.getElem?_eq_none (by rw [Sup.row_size];omega)] at hv;cases hv
  rw [Array.getElem?_toList,Sup.row,zfg hj] at hv
  rw [← Option.some.inj hv]
  exact hS j hj) Tryz.underlying49 rfl (by rw [infoSup,Array.length_toList,Sup.row_size])
 rw [Array.toArray_toList] at hr
 unfold Oper.wpIn
 refine ⟨?_,?_⟩
 ·simp [Oper.about,ho]
 ·rw [Oper.semAt_plain F _ _ (by rw [ho];intro c hc';cases hc')]
  unfold execOp
  simp only [ho,hx,Sem.run_bind,hr,Result.andThen]
  exact h
theorem Sup.cells {w:World} {b:Nat} {S:Sup} {t:TypeId} (h:w.heap[b]?=some (.cells S.row t (0,0))):∀ j,j<18→w.cell? ⟨b,0+j,none⟩=some (S.cellV j):=fun j hj=>by rw [Nat.zero_add];exact Sup.cell h hj
theorem suEncode_at {w:World} {S:Sup} (hok:S.Ok) :
  Calls Tryz.prog 85 #[.agg S.row] w fun e w'=>∃ g,e = .returned (.tuple #[.slice (some ⟨g,0,none⟩) 128 128,.int .i64 0])∧w'.heap[g]?=some (.cells (u8s 128 (pageS S)) 5 (0,0))∧w.heap.size≤g∧Chg [] w w':=by
 refine (callsIn_wide (n:=8)).1 ?_
 refine callsIn_of_wp_marks Tryz.func85 rfl trivial ?_ rfl
 simp only [Tryz.ntmps85,List.size_toArray,List.length_cons,List.length_nil,Nat.reduceAdd,Nat.reduceSub,Array.replicate_succ,Array.replicate_zero,List.push_toArray,List.append_toArray,List.nil_append,List.cons_append]
 have hx:=znb w (.cells S.row 49)
 have hc:=(Chg.refl [] w).alloc (.cells S.row 49)
 have cR:=suRight_at (w:=w.alloc (.cells S.row 49)) hok
 have HX:=Lib.hid (And.intro hx hc)
 have CR:=Lib.hid cR
 generalize hW:w.alloc (.cells S.row 49)=W at *
 have HW:=Lib.hid hW
 clear hx hc cR
 gi_wp2_with (refine wpListIn_loadSup (S:=S) rfl (.tmp 1) (k:=w.heap.size) (o:=0) rfl (by simp [Act.eval,Act.put]) (Sup.cells HX.out.1) ?_)
 refine ⟨trivial,(callsIn_wide.2 CR.out).mono ?_⟩
 rintro e w' ⟨rfl,rfl⟩
 have hmk:(Instr.makeSlice 22 (.int .i64 123) (.int .i64 123)).run Tryz.prog (W.alloc (.cells S.row 49)) = .ok (.slice (some ⟨(W.alloc (.cells S.row 49)).heap.size,0,none⟩) 123 123) ((W.alloc (.cells S.row 49)).alloc (.cells (u8s 123 (fun _=>0)) 5)):=by
  have:=run_make1 (P:=Tryz.prog) 22 5 Tryz.underlying22 infoU8 rfl .i64 .i64 123 (by omega) (by omega) (W.alloc (.cells S.row 49))
  rw [zrow_u8s] at this
  exact this
 rw [size_alloc'] at hmk
 gi_wp2
 obtain ⟨W3,hW3⟩:∃ W3,W3=((W.alloc (.cells S.row 49)).alloc (.cells (u8s 123 fun _=>0) 5)).alloc (.cells #[.slice (some ⟨W.heap.size+1,0,none⟩) 123 123] 22):=⟨_,rfl⟩
 have hcW:Chg [] w W:=HX.out.2
 have hc3:Chg [] W W3:=by rw [hW3];exact (((Chg.refl [] W).alloc _).alloc _).alloc _
 have kb:W3.heap[W.heap.size+1]?=some (.cells (u8s 123 fun _=>0) 5 (0,0)):=by
  rw [hW3]
  have:=znd (W.alloc (.cells S.row 49)) (.cells (u8s 123 fun _=>0) 5) (.cells #[.slice (some ⟨W.heap.size+1,0,none⟩) 123 123] 22)
  rw [size_alloc'] at this
  exact this
 have kc:W3.heap[W.heap.size+2]?=some (.cells #[.slice (some ⟨W.heap.size+1,0,none⟩) 123 123] 22 (0,0)):=by
  rw [hW3]
  have:=znc (W.alloc (.cells S.row 49)) (.cells (u8s 123 fun _=>0) 5) (.cells #[.slice (some ⟨W.heap.size+1,0,none⟩) 123 123] 22)
  rw [size_alloc'] at this
  exact this
 have ks:W3.heap[w.heap.size]?=some (.cells S.row 49 (0,0)):=(hc3.block w.heap.size (zhl HX.out.1) (by simp)).trans HX.out.1
 have hs3:W3.heap.size=W.heap.size+3:=by rw [hW3];simp
 have hWs:W.heap.size=w.heap.size+1:=by rw [← hW];simp
 rw [← hW3]
 clear hW3 hmk
 refine ⟨trivial,(callsIn_wide.2 (suFields_at (w:=W3) (sb:=w.heap.size))).mono ?_⟩
 rintro e w' ⟨rfl,rfl⟩
 have hc4:Chg [] W3 (W3.alloc (.cells #[.pointer (some ⟨w.heap.size,0,none⟩)] 232)):=(Chg.refl _ _).alloc _
 have kp:=znb W3 (.cells #[.pointer (some ⟨w.heap.size,0,none⟩)] 232)
 have kb4:=(hc4.block _ (zhl kb) (by simp)).trans kb
 have kc4:=(hc4.block _ (zhl kc) (by simp)).trans kc
 have ks4:=(hc4.block _ (zhl ks) (by simp)).trans ks
 have hs4:(W3.alloc (.cells #[.pointer (some ⟨w.heap.size,0,none⟩)] 232)).heap.size=W3.heap.size+1:=by simp
 generalize W3.alloc (.cells #[.pointer (some ⟨w.heap.size,0,none⟩)] 232)=W4 at *
 obtain ⟨sb,hsb⟩:∃ sb,sb=w.heap.size:=⟨_,rfl⟩
 obtain ⟨bb,hbb⟩:∃ bb,bb=W.heap.size+1:=⟨_,rfl⟩
 obtain ⟨cb,hcb⟩:∃ cb,cb=W.heap.size+2:=⟨_,rfl⟩
 obtain ⟨pb,hpb⟩:∃ pb,pb=W3.heap.size:=⟨_,rfl⟩
 rw [← hsb] at ks4
 rw [← hbb] at kb4 kc4
 rw [← hcb] at kc4
 rw [← hpb] at kp
 rw [← hsb] at kp
 have it:=suFields_iter 7 pb sb [bb] W4 ((zcb kp 0).trans rfl) (by simp;omega) (zhl ks4) (by omega) (by intro x hx;simp only [List.mem_singleton] at hx;subst hx;exact zhl kb4)
 have hs5:∀ k,k<18→S.valS k<256 ^ sizS k:=hok.wf.v
 have HA:=Lib.hid (And.intro hsb (And.intro hbb (And.intro hcb (And.intro hpb (And.intro hWs hs3)))))
 have HC4:=Lib.hid ((hcW.trans hc3).trans hc4)
 have HI:=Lib.hid it
 have HS4:=Lib.hid (And.intro ks4 (And.intro kb4 kc4))
 have HW5:=Lib.hid hs5
 have HG:=Lib.hid hok.gen.2
 have esb:w.heap.size=sb:=hsb.symm
 have ebb:sb+1+1=bb:=by omega
 have ecb:sb+1+1+1=cb:=by omega
 have epb:W3.heap.size=pb:=hpb.symm
 have eWb:W.heap.size+1=bb:=hbb.symm
 have hlt:sb<bb∧bb<cb∧cb<pb∧pb<W4.heap.size:=by omega
 clear hsb hbb hcb hpb hWs hs3 hs4 hcW hc3 hc4 it ks4 kb4 kc4 kp ks kb kc hok HX hs5
 gi_wp2
 have HLT:=Lib.hid hlt
 clear esb ebb ecb epb eWb hlt hW CR
 refine wpIn_rangeFunc_av rfl (by omega) (gf:=175) (lb:=#[.pointer (some ⟨pb,0,none⟩)]) rfl trivial (enters_of Tryz.func175 (by kernel_rfl) rfl) HI.out (by intro x hx;simp only [List.mem_singleton] at hx;have:=HLT.out;omega) (by rintro k W av ⟨S',ib,_,_,rfl,_⟩;rfl)
  (fun k W=>Chg [bb] W4 W∧W.heap[bb]?=some (.cells (u8s 123 (sbK S k)) 5 (0,0)))
  (fun c k W=>False)
  (fun k A B h hab=>⟨h.1.afar hab,(hab.block _ (by have:=HLT.out;omega)).trans h.2⟩)
  (fun c k A B h hab=>h)
  ⟨Chg.refl _ _,HS4.out.2.1⟩ (fun k A h=>⟨S,⟨HW5.out⟩,(h.1.block sb (by have:=HLT.out;omega) (by simp only [List.mem_singleton];have:=HLT.out;omega)).trans HS4.out.1⟩) ?round ?done (fun D c k W hD hk h hK=>h.elim)
 case round =>
  intro l' k W' av hl1 hl2 hI hk hav _
  obtain ⟨S',ib,hS',hs',rfl,_⟩:=hav
  obtain ⟨hcI,hbI⟩:=hI
  have hsS:=(hcI.block sb (by have:=HLT.out;omega) (by simp only [List.mem_singleton];have:=HLT.out;omega)).trans HS4.out.1
  have hcS:=(hcI.block cb (by have:=HLT.out;omega) (by simp only [List.mem_singleton];have:=HLT.out;omega)).trans HS4.out.2.2
  have ev:S'.valS k=S.valS k:=by
   rw [hs'] at hsS
   injection hsS with hsS
   injection hsS with hsS
   exact row_inj hsS k hk
  rw [ev]
  obtain ⟨fv,hfv⟩:∃ fv,fv=setFn k pb ib:=⟨_,rfl⟩
  have hf1:fv.oneCell'=true:=by rw [hfv];exact setFn_one _ _ _
  rw [← hfv]
  have HX:=Lib.hid (And.intro hcI (And.intro hbI (And.intro hcS hl1)))
  clear hcI hbI hcS hs' hsS ev hfv hS'
  gi_wp2_with (refine wpListIn_storeNew rfl 235 (.tmp 6) (.tmp 13) rfl #[.int .i64 0,.int .u64 0,.nilFunc] #[.int .i64 (sizS k:Int),.int .u64 (S.valS k:Int),fv] W'.heap.size 3 rfl rfl rfl infoField rfl rfl (three_one hf1) ?_)
  have hfb:=znb W' (.cells #[.int .i64 (sizS k:Int),.int .u64 (S.valS k:Int),fv] 235)
  have hcF:=(Chg.refl [] W').alloc (.cells #[.int .i64 (sizS k:Int),.int .u64 (S.valS k:Int),fv] 235)
  refine ⟨hcF.mono (by simp),fun W5 hc5=>?_⟩
  have nl:∀ q,q<W'.heap.size+1→q≠l'→q∉[l']:=fun q hq hn=>by simp only [List.mem_singleton];exact hn
  have hl2':l'<W'.heap.size:=hl2
  have hfb5:=(hc5.block W'.heap.size (zhl hfb) (by simp only [List.mem_singleton];omega)).trans hfb
  have hcb5:=(hc5.block cb (Nat.lt_of_lt_of_le (zhl HX.out.2.2.1) hcF.size) (by simp only [List.mem_singleton];have:=HLT.out;omega)).trans ((hcF.block cb (zhl HX.out.2.2.1) (by simp)).trans HX.out.2.2.1)
  have hbb5:=(hc5.block bb (Nat.lt_of_lt_of_le (zhl HX.out.2.1) hcF.size) (by simp only [List.mem_singleton];have:=HLT.out;omega)).trans ((hcF.block bb (zhl HX.out.2.1) (by simp)).trans HX.out.2.1)
  have cp:=put_at hbb5 0 123 123 (offS k) (sizS k) (S.valS k) (by omega) (by omega) (siz_bd k).1 (siz_bd k).2 (by have:=off_end hk;omega) (HW5.out k hk)
  rw [Nat.zero_add] at cp
  have CP:=Lib.hid cp
  have HF:=Lib.hid (Chg.then (HX.out.1) (hcF.mono (L':=[]) (by simp)) (by simp) |>.then hc5 (fun q hq=>by simp only [List.mem_singleton] at hq;subst hq;exact .inr HX.out.2.2.2))
  have c0:=zcb hcb5 0
  have d0:=zcb hfb5 0
  have d1:=zcb hfb5 1
  simp only [List.getElem?_toArray,List.getElem?_cons_zero,List.getElem?_cons_succ] at c0 d0 d1
  have ecb:bb+1=cb:=by have:=HLT.out;have:=HA.out;omega
  clear cp hbb5 hcb5 hfb5 hfb hcF nl hc5
  gi_wp2
  refine ⟨trivial,(callsIn_wide.2 CP.out).mono ?_⟩
  rintro e w6 ⟨rfl,hb6,hc6⟩
  gi_wp2
  exact ⟨hc6,HF.out.trans hc6,hb6⟩
 case done =>
  rintro D W' hD ⟨hcI,hbI⟩ hK
  have hsS:=(hcI.block sb (by have:=HLT.out;omega) (by simp only [List.mem_singleton];have:=HLT.out;omega)).trans HS4.out.1
  have hcS:=(hcI.block cb (by have:=HLT.out;omega) (by simp only [List.mem_singleton];have:=HLT.out;omega)).trans HS4.out.2.2
  have g0:=Sup.cell hsS (i:=0) (by omega)
  change W'.cell? ⟨sb,0,none⟩=some (.int .u64 (S.gen:Int)) at g0
  have c0:=zcb hcS 0
  simp only [List.getElem?_toArray,List.getElem?_cons_zero] at c0
  have ecb:bb+1=cb:=by have:=HLT.out;have:=HA.out;omega
  have cp:=put_at hbI 0 123 123 115 8 S.gen (by omega) (by omega) (by omega) (by omega) (by omega) (by have:=HG.out;rw [show (256:Nat) ^ 8=18446744073709551616 from by decide];exact this)
  rw [Nat.zero_add] at cp
  change Calls _ _ #[_,.int .i64 115,.int .i64 8,_] W' _ at cp
  have CP:=Lib.hid cp
  have HX:=Lib.hid (And.intro hcI (And.intro hcS hK))
  clear cp hbI hcI hsS hcS hK
  gi_wp2
  refine ⟨trivial,(callsIn_wide.2 CP.out).mono ?_⟩
  rintro e w6 ⟨rfl,hb6,hc6⟩
  have hcb6:=(hc6.block cb (zhl HX.out.2.1) (by simp only [List.mem_singleton];omega)).trans HX.out.2.1
  have c6:=zcb hcb6 0
  simp only [List.getElem?_toArray,List.getElem?_cons_zero] at c6
  have hin:BytesIn w6 (some ⟨bb,0,none⟩) 123 123 (supB S):=⟨Nat.le_refl _,by unfold maxLen;omega,(fun e=>by cases e),fun x hx _=>by
   injection hx with hx
   subst hx
   exact ⟨bb,0,rfl,fun i hi=>⟨by rw [Nat.zero_add,zcb hb6,u8s_get hi];rfl,supB_le S i⟩⟩⟩
  have cs:=seal_at hin (by omega) 6 (by omega)
  change Calls _ _ #[.int .u8 6,_] w6 _ at cs
  have CS:=Lib.hid cs
  have HC6:=Lib.hid hc6
  have hK6:=(hc6.block D (zhl HX.out.2.2) (by simp only [List.mem_singleton];have:=HLT.out;omega)).trans HX.out.2.2
  have HK6:=Lib.hid hK6
  clear hc6 hb6 hcb6 hin cs c0 g0 CP hK6
  gi_wp2
  refine ⟨trivial,(callsIn_wide.2 CS.out).mono ?_⟩
  rintro e w7 ⟨rfl,hb7,hc7⟩
  have HK7:=Lib.hid ((hc7.block D (zhl HK6.out) (by simp)).trans HK6.out)
  have HB7:=Lib.hid (And.intro hb7 hc7)
  clear hb7 hc7 CS c6
  gi_wp2
  refine ⟨by simp,.inl ⟨_,_,rfl,run_takeDeferred HK7.out,?_⟩⟩
  have hD6:D<w6.heap.size:=zhl HK6.out
  have hcZ:Chg [bb] W4 w6:=HX.out.1.trans HC6.out
  refine ⟨.tuple #[.slice (some ⟨w6.heap.size,0,none⟩) 128 128,.int .i64 0],by simp [results,Tryz.results85,go_sem],w6.heap.size,rfl,?_,?_,?_⟩
  ·exact (World.putObj_heap_other (by omega)).trans HB7.out.1
  ·exact Nat.le_trans HC4.out.size hcZ.size
  ·refine ((HC4.out.then hcZ (fun q hq=>by simp only [List.mem_singleton] at hq;subst hq;exact .inr (by have:=HA.out;omega))).trans HB7.out.2).then (chg_put (l:=D) _) (fun q hq=>by simp only [List.mem_singleton] at hq;subst hq;exact .inr (by have:=HC4.out.size;omega))
end Go.Proofs.YtkhcaclndepgbaaGreat
