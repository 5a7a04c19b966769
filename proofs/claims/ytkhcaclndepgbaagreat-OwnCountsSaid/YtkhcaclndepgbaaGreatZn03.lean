/- Package disk: New, Write. · Package disk: Flush. (Printed by mkdsk3.py.) -/
import Derived.Test.YtkhcaclndepgbaaGreatZn02
import Derived.Great.BuildSlice
import Derived.Deep.LoopGhost
set_option linter.unusedVariables false
set_option linter.unusedSimpArgs false
set_option maxRecDepth 100000
set_option maxHeartbeats 20000000
namespace Go.Proofs.YtkhcaclndepgbaaGreat
open Go.RowKit
theorem made_rowD (n:Nat):madeCells (Value.agg (Array.replicate 128 (.int .u8 0))).cells (n*128)=rowD n (fun _ _=>0):=by
 apply Array.ext_getElem?;intro i;by_cases hi:i<n*128
 ·unfold rowD
  rw [u8s_get hi];unfold madeCells Value.cells;have:i % 128<128:=Nat.mod_lt _ (by omega);simp [hi,this]
 ·rw [Array.getElem?_eq_none (by simp [madeCells];omega),Array.getElem?_eq_none (by simp [rowD,u8s];omega)]
theorem dNew_at {w:World} {n:Nat} (h1:16<=n) (h2:n<=4096) :
  Calls Tryz.prog 37 #[.int .i64 (n:Int)] w fun e w'=>e = .returned (.tuple #[.pointer (some ⟨w.heap.size+1,0,none⟩),.int .i64 0])/\DiskAt w' (w.heap.size+1) w.heap.size (.slice none 0 0) ⟨n,fun _ _=>0,[]⟩/\Chg [] w w':=by
 have hmk:(Instr.makeSlice 149 (.int .i64 (n:Int)) (.int .i64 (n:Int))).run Tryz.prog w = .ok (.slice (some ⟨w.heap.size,0,none⟩) n n) (w.alloc (.cells (rowD n (fun _ _=>0)) 169)):=by
  obtain ⟨i,e1,e2,e3,e4⟩:=info_parts infoBlk;have hb:(i.bytes:Int)*(n:Int)<=281474976710656:=by rw [e4];omega
  have hr:=run_make (P:=Tryz.prog) w 149 169 i _ Tryz.underlying149 e1 e2 .i64 .i64 n n (by omega) (by omega) hb (by omega);rw [Int.toNat_natCast,e3,made_rowD] at hr;exact hr
 have a1:¬ (n:Int)<16:=by omega
 have a2:¬ (4096:Int)<(n:Int):=by omega
 have HD:=zh (show DiskAt ((w.alloc (.cells (rowD n (fun _ _=>0)) 169)).alloc (.cells #[.slice (some ⟨w.heap.size,0,none⟩) n n,.slice none 0 0,.int .i64 (-1),.bool false] 156)) (w.heap.size+1) w.heap.size (.slice none 0 0) ⟨n,fun _ _=>0,[]⟩ from
  { n1:=by show 1<=n;omega,n2:=h2,le:=fun _ _ _ _=>Nat.zero_le _,top:=znc _ _ _,blk:=znd _ _ _,wts:=row_zero,wle:=fun x hx=>(by cases hx),wl:=Nat.zero_le _ })
 have HC:=zh (((Chg.refl [] w).alloc (.cells (rowD n (fun _ _=>0)) 169)).alloc (.cells #[.slice (some ⟨w.heap.size,0,none⟩) n n,.slice none 0 0,.int .i64 (-1),.bool false] 156));clear h1 h2;go_enter Tryz.func37,Tryz.ntmps37;go_wp2_with fail;exact bodyPost_ret (v := .tuple #[.pointer (some ⟨w.heap.size+1,0,none⟩),.int .i64 0]) (by simp [results,Tryz.results37,go_sem]) rfl ⟨rfl,HD.out,HC.out⟩
theorem wpList_storeNew {ops:Array Oper} {rest:List Oper} {op:Oper} {a:Act} {W:World} {Q:Exit->Act->World->Prop} (hgd:op.guard=none) (t:TypeId) (x y:Operand) (ho:op.op = .store t x y) (Z cs:Array Value) (b n:Nat) (hb:b=W.heap.size)
  (hx:a.eval x = .pointer (some ⟨b,0,none⟩)) (hy:a.eval y = .agg cs) (hi:(Tryz.prog.info? t).map (·.size)=some n) (hZ:Z.size=n) (hc:cs.size=n) (h1:cs.all (·.oneCell')=true)
  (h:wpList Tryz.prog ops Q rest (a.put op.dst undef) (W.alloc (.cells cs t))):wpList Tryz.prog ops Q (op::rest) a (W.alloc (.cells Z t)):=by
 subst hb;refine wpList_plain hgd fun K' hK'=>?_;unfold Oper.wp execOp;simp only [ho,hx,hy];have:=run_storeAt_new (P:=Tryz.prog) W t Z cs (by rw [hi,hc]) (by omega) h1;simp only [Sem.run_bind,this,Result.andThen_ok,Sem.run_pure];exact hK' _ _ h
theorem fnRow_one {n:Nat} {V:Nat->Value} (h:∀ i,i<n->(V i).oneCell'=true):(fnRow n V).all (·.oneCell')=true:=by
 refine Array.all_eq_true.2 fun i hi=>?_;rw [zfs] at hi;simp only [fnRow,Array.getElem_ofFn];exact h i hi
theorem wrRow_one (x:Nat × (Nat->Nat)):(wrRow x).all (·.oneCell')=true:=fnRow_one fun i _=>by unfold wrV;split <;> rfl
theorem zeroWr:Tryz.zeroCells171=wrRow (0,fun _=>0):=by kernel_rfl
theorem zeroWr_set (x:Nat):Tryz.zeroCells171.setIfInBounds 0 (.int .i64 (x:Int))=wrRow (x,fun _=>0):=by
 rw [zeroWr];apply Array.ext_getElem?;intro i;by_cases hi:i<129
 ·rw [Array.getElem?_setIfInBounds,wrRow,wrRow,zfg hi,zfg hi,zfs]
  by_cases h0:0=i
  ·subst h0;simp [wrV]
  ·rw [if_neg h0];unfold wrV;rw [if_neg (fun e=>h0 e.symm),if_neg (fun e=>h0 e.symm)]
 ·rw [Array.getElem?_eq_none (by simp [wrRow,zfs];omega),Array.getElem?_eq_none (by simp [wrRow,zfs];omega)]
theorem run_one {t e:TypeId} {z:Value} {size bytes:Nat} {cs:Array Value} (w:World) (hu:Tryz.prog.underlying t=some (.slice e)) (hi:(Tryz.prog.info? e).map (fun i=>(i.zero,i.size,i.bytes))=some (some z,size,bytes)) (h0:0<size) (h1:size<=16777216) (hc:cs.size=size) :
  (Instr.buildSlice t 1 #[(0,.agg cs)]).run Tryz.prog w = .ok (.slice (some ⟨w.heap.size,0,none⟩) 1 1) (w.alloc (.cells cs e)):=by
 obtain ⟨i,e1,e2,e3,e4⟩:=info_parts hi;refine run_buildSlice w t e 1 _ cs i z hu e1 e2 (by rw [e3];omega) (by rw [e3];omega) ?_;have hf:=Great.fill_whole h0 [Value.agg cs] ((Array.range (1*size)).map (z.cells[· % z.cells.size]!)) (fun v hv=>by simp at hv;subst hv;exact hc) (by simp);rw [e3];refine hf.trans ?_;simp [Value.cells]
theorem step_one {ops:Array Oper} {o:Oper} {a:Act} {w:World} {K:Act->World->Prop} {Q:Exit->Act->World->Prop} {E:Prop} (hg:o.guard=none) (t e:TypeId) (x:Operand)
  (hop:o.op = .buildSlice t 1 #[(0,x)]) {z:Value} {size bytes:Nat} {cs:Array Value} (hu:Tryz.prog.underlying t=some (.slice e)) (hi:(Tryz.prog.info? e).map (fun i=>(i.zero,i.size,i.bytes))=some (some z,size,bytes)) (h0:0<size) (h1:size<=16777216) (hc:cs.size=size)
  (hx:a.eval x = .agg cs) (hK:K (a.put o.dst (.slice (some ⟨w.heap.size,0,none⟩) 1 1)) (w.alloc (.cells cs e))) :
  if Region.wanted o (yielded ops a.tmps)=true then Oper.wp Tryz.prog o a w K Q else E:=by
 have hw:Region.wanted o (yielded ops a.tmps)=true:=by simp [Region.wanted,hg]
 rw [if_pos hw];have hr:=run_one w hu hi h0 h1 hc;unfold Oper.wp execOp;simp only [hop,Sem.run_bind];have e1:(#[((0:Nat),x)].map fun (i,x)=>(i,a.eval x))=#[(0,.agg cs)]:=by simp [hx]
 rw [e1,hr];exact hK
theorem yields_row {ops:Array Oper} {S:World->Prop} {op:Oper} {a:Act} {k o n:Nat} {V:Nat->Value} {t:TypeId} {d:TypeDesc} (hu:Tryz.prog.underlying t=some d) (hd:d.isRow=true) (hi:(Tryz.prog.info? t).map (·.size)=some n)
  (hw:Region.wanted op (yielded ops a.tmps)=true) (x:Operand) (ho:op.op = .load t x) (hx:a.eval x = .pointer (some ⟨k,o,none⟩)) (hS:∀ w,S w->∀ j,j<n->w.cell? ⟨k,o+j,none⟩=some (V j)) :
  YieldsIf Tryz.prog ops S op (.agg (fnRow n V)) a:=by
 have:=yieldsIf_load_mid (P:=Tryz.prog) (ops:=ops) (S:=S) hw t x ho k o hx (fnRow n V).toList _ (fun w h j v hv=>by
  have hj:j<n:=by
   by_cases hj:j<n
   ·exact hj
   ·rw [Array.getElem?_toList,Array.getElem?_eq_none (by rw [zfs];omega)] at hv;cases hv
  rw [Array.getElem?_toList,zfg hj] at hv;rw [<- Option.some.inj hv];exact hS w h j hj) hu hd (by rw [hi,Array.length_toList,zfs])
 rw [Array.toArray_toList] at this;exact this
theorem laid_wr (x:Nat) (f:Nat->Nat):fnRow 129 (laid (wrV (x,fun _=>0)) (fun i => .int .u8 (f i:Int)) 1 128)=wrRow (x,f):=by
 apply Array.ext_getElem?;intro i;by_cases hi:i<129
 ·rw [zfg hi,wrRow,zfg hi]
  unfold laid wrV;by_cases h0:i=0
  ·subst h0;simp
  ·rw [if_pos (by omega),if_neg h0]
 ·rw [Array.getElem?_eq_none (by rw [zfs];omega),Array.getElem?_eq_none (by rw [wrRow,zfs];omega)]
theorem dWrite_at {w:World} {p bb at' k o cap:Nat} {f:Nat->Nat} {wv:Value} {D:Dk} (h:DiskAt w p bb wv D) (ha:at'<D.n) (hb:BytesAt w k o 128 f) (hc:128<=cap) (hN:D.waits.length<=900000) :
  Calls Tryz.prog 39 #[.pointer (some ⟨p,0,none⟩),.int .i64 (at':Int),.slice (some ⟨k,o,none⟩) 128 cap] w fun e w'=>e = .returned (.int .i64 0)/\∃ wv',DiskAt w' p bb wv' { D with waits:=D.waits++[(at',f)] } /\ (∀ g,wv'.ownBlock=some g->wv.ownBlock=some g∨w.heap.size<=g)/\(∀ L,p∈L->(∀ g,wv.ownBlock=some g->g∈L)->Chg L w w'):=by
 have ht:=h.top;have c0:=zcb ht 0;have c1:=zcb ht 1;have c2:=zcb ht 2;have c3:=zcb ht 3;simp only [tA1,tA3,tA2] at c0 c1 c2 c3;have b1:¬ (at':Int)<0:=by omega
 have b2:(at':Int)<(D.n:Int):=by omega
 have cm:=dMay_at h;have cp:=dPower_at h;have HB:=zh hb;have H:=zh h;have HN:=zh hN;clear h ht hb hN;go_enter Tryz.func39,Tryz.ntmps39;go_wp2_with fail;refine cm.mono ?_;rintro e w' ⟨rfl,rfl⟩;go_wp2_with fail;refine cp.mono ?_;rintro e w' ⟨rfl,rfl⟩;clear cm cp;go_upto_region 10 with (refine wpList_storeNew rfl 171 (.tmp 9) (.tmp 38) rfl _ (Tryz.zeroCells171.setIfInBounds 0 (.int .i64 (at':Int))) _ 129 rfl rfl rfl (by kernel_rfl) (by rw [zeroWr,wrRow,zfs]) (by rw [zeroWr_set,wrRow,zfs]) (by rw [zeroWr_set];exact wrRow_one _) ?_)
 rw [zeroWr_set];have hx:=znb w (.cells (wrRow (at',fun _=>0)) 171);have hc1:=(Chg.refl [] w).alloc (.cells (wrRow (at',fun _=>0)) 171);generalize w.alloc (.cells (wrRow (at',fun _=>0)) 171)=W at *;have HC1:=zh hc1;have HX:=zh hx;clear hc1 hx;go_upto_region 11 with (refine wpList_copy_fn rfl (.tmp 40) (.tmp 41) 22 22 rfl 5 Tryz.underlying22 (by kernel_rfl) w.heap.size 1 128 128 (some ⟨k,o,none⟩) 128 cap rfl rfl 129 (wrV (at',fun _=>0)) 171 HX.out 128 (by decide) (fun i => .int .u8 (f i:Int)) (fun _=>⟨k,o,rfl,fun j hj=>((HB.out.chg HC1.out (by simp)) j hj).1⟩) (fun j _=>rfl) (by omega) ?_;intro w1 HF1 HC2;have HC2:=zh HC2)
 have hf1:=HF1.out;rw [laid_wr] at hf1;have hc2:Chg [] w w1:=HC1.out.then HC2.out (fun i hi=>by simp only [zms] at hi;subst hi;exact .inr (zLr _));have HD1:=zh (H.out.chg hc2 (by simp) (by simp) (by simp));have HF:=zh hf1;have HC3:=zh hc2;have HRW:Hid (∀ j,j<129->w1.cell? ⟨w.heap.size,j,none⟩=some (wrV (at',f) j)):=zh fun j hj=>(zcb hf1 j).trans (zfg hj);have HPL:=zh H.out.lt.1;have HGL:=zh (zhl hf1);have HT:=zh (HD1.out.top);clear HF1 HX hf1 hc2 c0 c1 c2 c3;have HCR:Hid (Chg [] w1 w1.drew):=zh (Chg.refl [] w1).drew;refine wp_region_held_drew (S:=fun W'=>∀ j,j<129->W'.cell? ⟨w.heap.size,j,none⟩=some (wrV (at',f) j)) (by kernel_rfl) (by exact HRW.out) (fun hHeld=>?_);refine wVd 0 ?_;refine wVd 1 ?_;refine wVd 2 ?_;refine wVd 3 ?_;refine wVd 4 ?_;try simp only [Act.put,sA1,sA2,sA3]
 refine wpAnyH_take (i:=6) (oi:=?_) (v := .agg (wrRow (at',f))) ?_ (by kernel_rfl) (by kernel_rfl) (by kernel_rfl) ?_ (yields_row (k:=w.heap.size) (o:=0) (n:=129) (V:=wrV (at',f)) Tryz.underlying171 rfl (by rw [show (Tryz.prog.info? 171).map (·.size)=some 129 from by kernel_rfl]) ?_ (.tmp 9) ?_ ?_ (fun w' hw=>by intro j hj;rw [Nat.zero_add];exact hw j hj)) hHeld ?_
 rotate_left 1
 ·(simp only [tA1,tA2,tA3];rfl)
 ·exact fun _ _ _ h=>h
 ·rfl
 ·rfl
 ·simp [Act.eval,Act.put]
 try simp only [Act.put,sA1,sA2,sA3]
 refine wR [5,7] ?_;refine wC (fun K hK=>?_) ?_
 ·(have hL1:=zcb HT.out 1;simp only [tA1,tA3,tA2] at hL1;have hL2:w1.drew.cell? ⟨p,1,none⟩=some wv:=hL1;go_simp;clear hL1 hL2)
  refine hK.out _ _ (HRW.out) (fun hHeld=>?_);clear hK K;try simp only [Act.put,sA1,sA2,sA3]
  refine wE 7 (fun K hK=>?_)
  ·(refine step_one rfl 152 171 (.tmp 49) rfl (size:=129) Tryz.underlying152 infoWr (by omega) (by omega) (cs:=wrRow (at',f)) (by rw [wrRow,zfs]) (by simp [Act.eval,Act.put]) ?_;have hb2:=znb w1.drew (.cells (wrRow (at',f)) 171);have hc4:=(Chg.refl [] w1.drew).alloc (.cells (wrRow (at',f)) 171);have HB2:=zh hb2;have HC4:=zh (HCR.out.trans hc4);have HZ:=zh (HCR.out.size);clear hb2 hc4;generalize w1.drew.alloc (.cells (wrRow (at',f)) 171)=W2 at *)
   refine hK.out _ _ (fun j hj=>(HC4.out.cell (p:=⟨w.heap.size,j,none⟩) HGL.out (by simp)).trans (HRW.out j hj)) (fun hHeld=>?_);clear hK K;try simp only [Act.put,sA1,sA2,sA3]
   refine wE 8 (fun K hK=>?_)
   ·(refine step_app (base:=0) (m:=1) (xv := .slice (some ⟨w1.heap.size,0,none⟩) 1 1) (xs:=wrCells D.waits) (news:=(wrRow (at',f)).toList) rfl (.tmp 48) (.tmp 50) 152 rfl rfl Tryz.underlying152 infoWr (by rfl) (by omega) (by omega) (by simp [Act.eval,Act.put]) (by simp [Act.eval,Act.put]) (zoc HD1.out.wts HC4.out (by simp)) (AppSrc.blk HB2.out (by rw [wrRow,zfs]) (fun u hu=>Array.all_eq_true_iff_forall_mem.1 (wrRow_one _) u (by simpa using hu))) (by have:=HN.out;omega) (Nat.zero_le _) ?_;intro v5 W5 hown5 hg5 hob5;have HOB5:=zh hob5;clear hob5;obtain ⟨a5,c5,hv5,_,_⟩:=zos hown5;subst hv5;have HO5:=zh hown5;have HG5:=zh hg5;have HT5:=zh ((hg5.block p (zLl HPL.out (zLt HC3.out.size HC4.out.size)) (fun e=>H.out.wne.1 e.symm)).trans ((HC4.out.block p (zLl HPL.out HC3.out.size) (by simp)).trans HT.out));have HK5:=zh (show ∀ j,j<129->W5.cell? ⟨w.heap.size,j,none⟩=some (wrV (at',f) j) from fun j hj=>(World.cell?_of_block (hg5.block w.heap.size (zLl HGL.out HC4.out.size) (fun e=>Nat.lt_irrefl _ (H.out.wlt w.heap.size e.symm)))).trans ((HC4.out.cell (p:=⟨w.heap.size,j,none⟩) HGL.out (by simp)).trans (HRW.out j hj)));clear hown5 hg5)
    refine hK.out _ _ (HK5.out) (fun hHeld=>?_);clear hK K;try simp only [Act.put,sA1,sA2,sA3]
    refine wVd 9 ?_;refine wVd 10 ?_;refine wVd 11 ?_;try simp only [Act.put,sA1,sA2,sA3]
    refine wE 12 (fun K hK=>?_)
    ·(have hcs:=zcb HT5.out 1;have hfz:=zfb HT5.out 1;simp only [tA1,tA3,tA2] at hcs;have hpl:=zhl HT5.out;go_simp;clear hcs hfz hpl)
     refine hK.out _ _ (fun j hj=>(World.cell?_of_block (zso 1 _ (by show w.heap.size≠p;have:=HPL.out;omega))).trans (HK5.out j hj)) (fun hHeld=>?_);clear hK K;try simp only [Act.put,sA1,sA2,sA3]
     refine wpAnyH_done (by kernel_rfl) ?_ _;go_wp2_with fail;go_ret;refine ⟨rfl,_,{ n1:=H.out.n1,n2:=H.out.n2,le:=H.out.le,top:=zsb HT5.out 1 _,blk:=?_,wts:=?_,wle:=?_,wl:=by have:=HN.out;simp only [List.length_append,List.length_singleton];omega },?_,?_⟩
     ·refine (zso 1 _ (fun e=>H.out.ne e.symm)).trans ((HG5.out.block bb (zLl H.out.lt.2 (zLt HC3.out.size HC4.out.size)) (fun e=>H.out.wne.2 e.symm)).trans ((HC4.out.block bb (zLl H.out.lt.2 HC3.out.size) (by simp)).trans HD1.out.blk))
     ·have ho:=HO5.out
      rw [show wrCells D.waits++(wrRow (at',f)).toList=wrCells (D.waits++[(at',f)]) by rw [wrCells_app];simp [wrCells]] at ho;have ho2:=ownRow_block (w':=W5.setCell ⟨p,1,none⟩ (.slice a5 (D.waits.length+1) c5)) ho (fun g hg=>zso 1 _ (fun e=>by subst e;exact row_ne ho HT5.out (by decide) hg));rw [List.length_append,List.length_singleton];exact ho2
     ·intro y hy
      rw [List.mem_append,zms] at hy;rcases hy with hy | hy
      ·exact H.out.wle y hy
      ·subst hy;exact ⟨ha,fun i hi=>((HB.out i hi)).2⟩
     ·intro g hg
      rcases HOB5.out with hq | hq
      ·exact .inl (by rw [<- hq];exact hg)
      ·refine .inr ?_
       rw [hq] at hg;injection hg with hg;rw [<- hg];exact zLt HC3.out.size HC4.out.size
     ·intro L hL hw
      refine Chg.setCell ?_ (.inl hL) _;exact (((HC3.out.trans HC4.out).mono (by simp)).grown HG5.out (fun g hg => .inl (hw g hg)))
 refine wD (fun K hK=>?_)
 ·(refine step_one rfl 152 171 (.tmp 49) rfl (size:=129) Tryz.underlying152 infoWr (by omega) (by omega) (cs:=wrRow (at',f)) (by rw [wrRow,zfs]) (by simp [Act.eval,Act.put]) ?_;have hb2:=znb w1.drew (.cells (wrRow (at',f)) 171);have hc4:=(Chg.refl [] w1.drew).alloc (.cells (wrRow (at',f)) 171);have HB2:=zh hb2;have HC4:=zh (HCR.out.trans hc4);have HZ:=zh (HCR.out.size);clear hb2 hc4;generalize w1.drew.alloc (.cells (wrRow (at',f)) 171)=W2 at *)
  refine hK.out _ _ (fun j hj=>(HC4.out.cell (p:=⟨w.heap.size,j,none⟩) HGL.out (by simp)).trans (HRW.out j hj)) (fun hHeld=>?_);clear hK K;try simp only [Act.put,sA1,sA2,sA3]
  refine wE 5 (fun K hK=>?_)
  ·(have hL1:=zcb ((HC4.out.block p (zLl HPL.out HC3.out.size) (by simp)).trans HT.out) 1;simp only [tA1,tA3,tA2] at hL1;go_simp;clear hL1)
   refine hK.out _ _ (fun j hj=>(HC4.out.cell (p:=⟨w.heap.size,j,none⟩) HGL.out (by simp)).trans (HRW.out j hj)) (fun hHeld=>?_);clear hK K;try simp only [Act.put,sA1,sA2,sA3]
   refine wE 8 (fun K hK=>?_)
   ·(refine step_app (base:=0) (m:=1) (xv := .slice (some ⟨w1.heap.size,0,none⟩) 1 1) (xs:=wrCells D.waits) (news:=(wrRow (at',f)).toList) rfl (.tmp 48) (.tmp 50) 152 rfl rfl Tryz.underlying152 infoWr (by rfl) (by omega) (by omega) (by simp [Act.eval,Act.put]) (by simp [Act.eval,Act.put]) (zoc HD1.out.wts HC4.out (by simp)) (AppSrc.blk HB2.out (by rw [wrRow,zfs]) (fun u hu=>Array.all_eq_true_iff_forall_mem.1 (wrRow_one _) u (by simpa using hu))) (by have:=HN.out;omega) (Nat.zero_le _) ?_;intro v5 W5 hown5 hg5 hob5;have HOB5:=zh hob5;clear hob5;obtain ⟨a5,c5,hv5,_,_⟩:=zos hown5;subst hv5;have HO5:=zh hown5;have HG5:=zh hg5;have HT5:=zh ((hg5.block p (zLl HPL.out (zLt HC3.out.size HC4.out.size)) (fun e=>H.out.wne.1 e.symm)).trans ((HC4.out.block p (zLl HPL.out HC3.out.size) (by simp)).trans HT.out));have HK5:=zh (show ∀ j,j<129->W5.cell? ⟨w.heap.size,j,none⟩=some (wrV (at',f) j) from fun j hj=>(World.cell?_of_block (hg5.block w.heap.size (zLl HGL.out HC4.out.size) (fun e=>Nat.lt_irrefl _ (H.out.wlt w.heap.size e.symm)))).trans ((HC4.out.cell (p:=⟨w.heap.size,j,none⟩) HGL.out (by simp)).trans (HRW.out j hj)));clear hown5 hg5)
    refine hK.out _ _ (HK5.out) (fun hHeld=>?_);clear hK K;try simp only [Act.put,sA1,sA2,sA3]
    refine wVd 9 ?_;refine wVd 10 ?_;refine wVd 11 ?_;try simp only [Act.put,sA1,sA2,sA3]
    refine wE 12 (fun K hK=>?_)
    ·(have hcs:=zcb HT5.out 1;have hfz:=zfb HT5.out 1;simp only [tA1,tA3,tA2] at hcs;have hpl:=zhl HT5.out;go_simp;clear hcs hfz hpl)
     refine hK.out _ _ (fun j hj=>(World.cell?_of_block (zso 1 _ (by show w.heap.size≠p;have:=HPL.out;omega))).trans (HK5.out j hj)) (fun hHeld=>?_);clear hK K;try simp only [Act.put,sA1,sA2,sA3]
     refine wpAnyH_done (by kernel_rfl) ?_ _;go_wp2_with fail;go_ret;refine ⟨rfl,_,{ n1:=H.out.n1,n2:=H.out.n2,le:=H.out.le,top:=zsb HT5.out 1 _,blk:=?_,wts:=?_,wle:=?_,wl:=by have:=HN.out;simp only [List.length_append,List.length_singleton];omega },?_,?_⟩
     ·refine (zso 1 _ (fun e=>H.out.ne e.symm)).trans ((HG5.out.block bb (zLl H.out.lt.2 (zLt HC3.out.size HC4.out.size)) (fun e=>H.out.wne.2 e.symm)).trans ((HC4.out.block bb (zLl H.out.lt.2 HC3.out.size) (by simp)).trans HD1.out.blk))
     ·have ho:=HO5.out
      rw [show wrCells D.waits++(wrRow (at',f)).toList=wrCells (D.waits++[(at',f)]) by rw [wrCells_app];simp [wrCells]] at ho;have ho2:=ownRow_block (w':=W5.setCell ⟨p,1,none⟩ (.slice a5 (D.waits.length+1) c5)) ho (fun g hg=>zso 1 _ (fun e=>by subst e;exact row_ne ho HT5.out (by decide) hg));rw [List.length_append,List.length_singleton];exact ho2
     ·intro y hy
      rw [List.mem_append,zms] at hy;rcases hy with hy | hy
      ·exact H.out.wle y hy
      ·subst hy;exact ⟨ha,fun i hi=>((HB.out i hi)).2⟩
     ·intro g hg
      rcases HOB5.out with hq | hq
      ·exact .inl (by rw [<- hq];exact hg)
      ·refine .inr ?_
       rw [hq] at hg;injection hg with hg;rw [<- hg];exact zLt HC3.out.size HC4.out.size
     ·intro L hL hw
      refine Chg.setCell ?_ (.inl hL) _;exact (((HC3.out.trans HC4.out).mono (by simp)).grown HG5.out (fun g hg => .inl (hw g hg)))
def fl (d:Nat->Nat->Nat) (l:List (Nat × (Nat->Nat))):Nat->Nat->Nat:=l.foldl (fun d x b=>if b=x.1 then x.2 else d b) d
theorem fl_snoc (d:Nat->Nat->Nat) (l:List (Nat × (Nat->Nat))) (x:Nat × (Nat->Nat)):fl d (l++[x])=fun b=>if b=x.1 then x.2 else fl d l b:=by unfold fl;rw [List.foldl_append];rfl
theorem fl_take {d:Nat->Nat->Nat} {l:List (Nat × (Nat->Nat))} {k:Nat} (h:k<l.length):fl d (l.take (k+1))=fun b=>if b=l[k].1 then l[k].2 else fl d (l.take k) b:=by
 rw [List.take_succ_eq_append_getElem h,fl_snoc]
theorem fl_le {d:Nat->Nat->Nat} {n:Nat} : ∀ (l:List (Nat × (Nat->Nat))) (d:Nat->Nat->Nat),(∀ b,b<n->∀ i,i<128->d b i<=255)->(∀ x,x∈l->∀ i,i<128->x.2 i<=255)->∀ b,b<n->∀ i,i<128->fl d l b i<=255
 | [],d,h,_=>h
 | x::r,d,h,hl=>by
  show ∀ b,b<n->∀ i,i<128->fl (fun b=>if b=x.1 then x.2 else d b) r b i<=255
  refine fl_le (d:=d) r _ (fun b hb i hi=>?_) (fun y hy=>hl y (by simp [hy]))
  split
  ·exact hl x (by simp) i hi
  ·exact h b hb i hi
theorem wpList_loadV {ops:Array Oper} {rest:List Oper} {op:Oper} {a:Act} {w:World} {Q:Exit->Act->World->Prop} {t:TypeId} {d:TypeDesc} {n k o:Nat} {V:Nat->Value} (hgd:op.guard=none) (x:Operand) (ho:op.op = .load t x) (hu:Tryz.prog.underlying t=some d) (hd:d.isRow=true) (hi:(Tryz.prog.info? t).map (·.size)=some n)
  (hx:a.eval x = .pointer (some ⟨k,o,none⟩)) (hS:∀ j,j<n->w.cell? ⟨k,o+j,none⟩=some (V j)) (h:wpList Tryz.prog ops Q rest (a.put op.dst (.agg (fnRow n V))) w):wpList Tryz.prog ops Q (op::rest) a w:=by
 refine wpList_load_mid hgd t x ho k o hx (fnRow n V).toList d (fun j v hv=>?_) hu hd (by rw [hi,Array.length_toList,zfs]) (by rw [Array.toArray_toList];exact h)
 have hj:j<n:=by
  by_cases hj:j<n
  ·exact hj
  ·rw [Array.getElem?_toList,Array.getElem?_eq_none (by rw [zfs];omega)] at hv;cases hv
 rw [Array.getElem?_toList,zfg hj] at hv;rw [<- Option.some.inj hv];exact hS j hj
theorem dFlush_at {w:World} {p bb:Nat} {wv:Value} {D:Dk} (h:DiskAt w p bb wv D) :
  Calls Tryz.prog 87 #[.pointer (some ⟨p,0,none⟩)] w fun e w'=>e = .returned (.int .i64 0)/\DiskAt w' p bb (.slice none 0 0) { D with data:=fl D.data D.waits,waits:=[] } /\ Chg [p,bb] w w':=by
 have ht:=h.top;have cm:=dMay_at h;have cp:=dPower_at h;obtain ⟨a,c,hwv,hwc,hwm⟩:=zos h.wts;obtain ⟨n,hn⟩:∃ n,n=D.waits.length:=⟨_,rfl⟩;rw [<- hn] at hwv;have hn6:n<=1000000:=by have:=h.wl;omega
 rw [hwv] at ht;have HWV:=zh hwv;have HN:=zh hn;have H:=zh h;have HT:=zh ht;have c0:=zcb ht 0;have c1:=zcb ht 1;have c2:=zcb ht 2;have c3:=zcb ht 3;simp only [tA1,tA3,tA2] at c0 c1 c2 c3;clear h ht hwv hn hwc hwm;go_enter Tryz.func87,Tryz.ntmps87;go_wp2_with fail;refine cm.mono ?_;rintro e w' ⟨rfl,rfl⟩;go_wp2_with fail;refine cp.mono ?_;rintro e w' ⟨rfl,rfl⟩;clear cm cp;go_wp2_with fail;go_loopg [23] n (fun gg s wr=>∃ k:Nat,gg=n - k/\k<=n/\s = .int .i64 (k:Int)/\Hid (wr.heap[bb]?=some (.cells (rowD D.n (fl D.data (D.waits.take k))) 169 (0,0))/\Chg [bb] w wr))
 case atStart=>exact ⟨0,rfl,Nat.zero_le _,by go_num,zh ⟨H.out.blk,Chg.refl _ _⟩⟩
 case round =>
  obtain ⟨k,hgg,hkn,rfl,hX⟩:=hrel;obtain ⟨wo,rfl⟩:∃ wo:World,wo=wr:=⟨_,rfl⟩;have HX:=zh hX.out;have HGG:=zh hgg;clear hX hgg c0 c1 c2 c3;have HT1:=zh ((HX.out.2.block p H.out.lt.1 (by simp;exact H.out.ne)).trans HT.out);by_cases hk:k<n
  case' neg =>
   obtain rfl:k=n:=by omega
   have ht:=HT1.out;have d0:=zcb ht 0;have d1:=zcb ht 1;have d2:=zcb ht 2;have d3:=zcb ht 3;simp only [tA1,tA3,tA2] at d0 d1 d2 d3;have lp:=zhl ht;have fz:=zfb ht 1;clear ht;go_wp2_with fail;go_ret;refine ⟨rfl,{ n1:=H.out.n1,n2:=H.out.n2,le:=fl_le (d:=D.data) _ _ H.out.le (fun x hx=>(H.out.wle x hx).2),top:=zsb HT1.out 1 _,blk:=?_,wts:=row_zero,wle:=(fun x hx=>by cases hx),wl:=Nat.zero_le _ },?_⟩
   ·have:=HX.out.1
    rw [HN.out,List.take_length] at this;exact (zso 1 _ (fun e=>H.out.ne e.symm)).trans this
   ·exact (HX.out.2.mono (by simp)).setCell (.inl (by simp)) _
  case' pos =>
   have hkl:k<D.waits.length:=by rw [<- HN.out];exact hk
   obtain ⟨g,cg,e1,_,_,_,hgl,hcell⟩:=zol H.out.wts (by omega);rw [HWV.out] at e1;injection e1 with e1a e1b e1c;subst e1a;obtain ⟨xx,hxx⟩:∃ xx,xx=D.waits[k]:=⟨_,rfl⟩;have HXX:=zh hxx;have hne:g≠bb:=fun e=>H.out.wne.2 (by rw [HWV.out];simp [Value.ownBlock,e]);have HL:Hid (∀ j,j<129->wo.cell? ⟨g,k*129+j,none⟩=some (wrV xx j)):=zh fun j hj=>(HX.out.2.cell (p:=⟨g,k*129+j,none⟩) hgl (by simp;exact hne)).trans ((hcell _ (by omega)).trans (by rw [wrCells_get D.waits k j hkl hj,hxx]));have HAT:Hid (xx.1<D.n):=zh (by rw [hxx];exact (H.out.wle _ (List.getElem_mem hkl)).1);have i1:(k:Int)<(n:Int):=by omega
   have HGL:=zh hgl;clear hcell hxx e1b e1c hgl hne
   go_upto_region 10 with (first
    | (refine wpList_loadV rfl (.tmp 25) (t:=171) (n:=129) (k:=g) (o:=k*129) (V:=wrV xx) rfl Tryz.underlying171 rfl (by rw [show (Tryz.prog.info? 171).map (·.size)=some 129 from by kernel_rfl]) (by simp [Act.eval,Act.put]) HL.out ?_)
    | (refine wpList_storeNew rfl 171 (.tmp 6) (.tmp 26) rfl _ (fnRow 129 (wrV xx)) _ 129 rfl rfl rfl (by kernel_rfl) (by rw [zeroWr,wrRow,zfs]) (by rw [zfs]) (wrRow_one _) ?_))
   have hx:=znb wo (.cells (fnRow 129 (wrV xx)) 171);have hc1:=(Chg.refl [] wo).alloc (.cells (fnRow 129 (wrV xx)) 171);generalize wo.alloc (.cells (fnRow 129 (wrV xx)) 171)=W at *;have HC1:=zh hc1;have HXB:=zh hx;have HP:=zh ((hc1.cell (p:=⟨p,0,none⟩) (zhl HT1.out) (by simp)).trans (show wo.cell? ⟨p,0,none⟩=some (.slice (some ⟨bb,0,none⟩) D.n D.n) from (zcb HT1.out 0).trans rfl));have HBB:=zh ((hc1.block bb (zhl HX.out.1) (by simp)).trans HX.out.1);have HRW:Hid (∀ j,j<129->W.cell? ⟨wo.heap.size,j,none⟩=some (wrV xx j)):=zh fun j hj=>(zcb hx j).trans (zfg hj);clear hc1 hx;refine wp_region_held_drew (S:=fun W'=>∀ j,j<129->W'.cell? ⟨wo.heap.size,j,none⟩=some (wrV xx j)) (by kernel_rfl) (by exact HRW.out) (fun hHeld=>?_);refine wVd 0 ?_;refine wVd 1 ?_;refine wVd 2 ?_;try simp only [Act.put,sA1,sA2,sA3]
   refine wpAnyH_take (i:=3) (oi:=?_) (v := .agg (fnRow 129 (wrV xx))) ?_ (by kernel_rfl) (by kernel_rfl) (by kernel_rfl) ?_ (yields_row (k:=wo.heap.size) (o:=0) (n:=129) (V:=wrV xx) Tryz.underlying171 rfl (by rw [show (Tryz.prog.info? 171).map (·.size)=some 129 from by kernel_rfl]) ?_ (.tmp 6) ?_ ?_ (fun w' hw=>by intro j hj;rw [Nat.zero_add];exact hw j hj)) hHeld ?_
   rotate_left 1
   ·(simp only [tA1,tA2,tA3];rfl)
   ·exact fun _ _ _ h=>h
   ·rfl
   ·rfl
   ·simp [Act.eval,Act.put]
   try simp only [Act.put,sA1,sA2,sA3]
   refine wE 4 (fun K hK=>?_)
   ·(go_simp;refine (dpPut_at (w:=W.drew) (p:=p) (bb:=bb) (at':=xx.1) (f:=xx.2) HP.out HBB.out HAT.out H.out.n2).mono ?_;rintro e w5 ⟨rfl,hb5,hc5⟩;have HB5:=zh hb5;have HC5:=zh hc5;clear hb5 hc5)
    refine hK.out _ _ (fun j hj=>(HC5.out.cell (p:=⟨wo.heap.size,j,none⟩) (zhl HXB.out) (by simp only [zms];have:=zhl HX.out.1;omega)).trans (HRW.out j hj)) (fun hHeld=>?_);clear hK K;try simp only [Act.put,sA1,sA2,sA3]
    refine wpAnyH_done (by kernel_rfl) ?_ _;go_wp2_with fail;go_roundg (n - (k+1))
    case measure=>rw [HGG.out];omega
    case rel =>
     refine ⟨k+1,rfl,by omega,by go_num,zh ⟨?_,?_⟩⟩
     ·rw [HB5.out,fl_take (by rw [<- HN.out];exact hk),<- HXX.out]
     ·exact (HX.out.2.trans (HC1.out.mono (by simp))).trans ((Chg.refl [bb] W).drew.trans HC5.out)
end Go.Proofs.YtkhcaclndepgbaaGreat
