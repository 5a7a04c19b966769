/- Supers are held against one another. · Package base, in plain words: opening. · Package base: Back. · Package base: the steps of pages. -/
import Derived.Test.YtkhcaclndepgbaaGreatZm08
import Derived.Laws.StructEq
import Derived.ChangeKeysEq
import Derived.Test.YtkhcaclndepgbaaGreatZm19
import Derived.Laws.Tables
import Derived.Test.YtkhcaclndepgbaaGreatZm25
import Derived.Test.YtkhcaclndepgbaaGreatZm12
set_option linter.unusedVariables false
set_option linter.unusedSimpArgs false
set_option maxRecDepth 100000
set_option maxHeartbeats 20000000
namespace Go.Proofs.YtkhcaclndepgbaaGreat
open Go.RowKit
def supLit (S:Sup):Array Value:=#[.int .u64 (S.gen:Int),.int .u32 (S.blocks:Int),.int .u32 (S.roots 0:Int),.int .u32 (S.roots 1:Int),.int .u32 (S.roots 2:Int),.int .u32 (S.roots 3:Int),.int .u32 (S.roots 4:Int),.int .u32 (S.roots 5:Int),.int .u32 (S.roots 6:Int),.int .u32 (S.roots 7:Int),.int .u64 (S.marks 0:Int),.int .u64 (S.marks 1:Int),.int .u64 (S.marks 2:Int),.int .u64 (S.marks 3:Int),.int .u64 (S.marks 4:Int),.int .u64 (S.marks 5:Int),.int .u64 (S.marks 6:Int),.int .u64 (S.marks 7:Int)]
theorem row_lit (S:Sup):S.row=supLit S:=by rfl
theorem eqItems_int {w:World} {e:TypeId} {k:IntKind} (hu:Tryz.prog.underlying e=some (.int k)) (hpk:Tryz.prog.plainKey e=true) (hc:Tryz.prog.cellsOf e=1) {xs ys:Array Value} {f g:Nat→Int} (d:Nat):∀ (is:List Nat),(∀ i∈is,xs[i]?=some (.int k (f i)))→(∀ i∈is,ys[i]?=some (.int k (g i))) →
  ∃ r:Bool,(Op.eqItems (d+1) e (Tryz.prog.cellsOf e) xs ys is).run Tryz.prog w = .ok r w∧(r=true↔∀ i∈is,f i=g i)
 | [],_,_=>⟨true,by simp [Op.eqItems],by simp⟩
 | i::is,hx,hy=>by
  have ha:=hx i (by simp)
  have hb:=hy i (by simp)
  obtain ⟨r,hr,hi⟩:=eqItems_int (w:=w) hu hpk hc d is (fun j hj=>hx j (by simp [hj])) (fun j hj=>hy j (by simp [hj]))
  have p1:(part e xs (i*Tryz.prog.cellsOf e)).run Tryz.prog w = .ok (.int k (f i)) w:=by rw [hc,Nat.mul_one];exact run_part_plain w hpk ha
  have p2:(part e ys (i*Tryz.prog.cellsOf e)).run Tryz.prog w = .ok (.int k (g i)) w:=by rw [hc,Nat.mul_one];exact run_part_plain w hpk hb
  have p3:(Op.equalIn (d+1) e (.int k (f i)) (.int k (g i))).run Tryz.prog w = .ok (f i==g i) w:=by
   simp [Op.equalIn,run_underlying hu]
  simp only [Op.eqItems,Sem.run_bind,p1,p2,p3,Result.andThen_ok]
  by_cases e:f i=g i
  ·refine ⟨r,by simpa [e] using hr,?_⟩
   rw [hi]
   simp [e]
  ·refine ⟨false,by simp [e],?_⟩
   simp [e]
theorem eqField_int {w:World} {fd:Field} {e:TypeId} {off:Nat} {k:IntKind} (hn:fd.name ≠ "_") (ht:fd.type=e) (ho:fd.offset=off) (hu:Tryz.prog.underlying e=some (.int k)) (hpk:Tryz.prog.plainKey e=true) {xs ys:Array Value} {a b:Int} (hx:xs[off]?=some (.int k a)) (hy:ys[off]?=some (.int k b)) (d:Nat) (fs:List Field) {r:Bool}
  (hr:(Op.eqFields (d+1) xs ys fs).run Tryz.prog w = .ok r w):(Op.eqFields (d+1) xs ys (fd::fs)).run Tryz.prog w = .ok (decide (a=b)&&r) w:=by
 subst ht;subst ho
 have p1:=run_part_plain w hpk hx
 have p2:=run_part_plain w hpk hy
 have p3:(Op.equalIn (d+1) fd.type (.int k a) (.int k b)).run Tryz.prog w = .ok (a==b) w:=by simp [Op.equalIn,run_underlying hu]
 simp only [Op.eqFields,ne_eq,hn,not_false_eq_true,if_true,Sem.run_bind,p1,p2,p3,Result.andThen_ok]
 by_cases e:a=b
 ·subst e;simp [hr]
 ·simp [e]
theorem eqField_arr {w:World} {fd:Field} {t e:TypeId} {off n:Nat} {k:IntKind} (hn:fd.name ≠ "_") (ht:fd.type=t) (ho:fd.offset=off) (hut:Tryz.prog.underlying t=some (.array n e)) (hsz:Tryz.prog.cellsOf t=n) (hu:Tryz.prog.underlying e=some (.int k)) (hpk:Tryz.prog.plainKey e=true) (hc:Tryz.prog.cellsOf e=1)
  {xs ys:Array Value} {f g:Nat→Int} (hx:∀ i,i<n→xs[off+i]?=some (.int k (f i))) (hy:∀ i,i<n→ys[off+i]?=some (.int k (g i))) (d:Nat) (fs:List Field) {r:Bool}
  (hr:(Op.eqFields (d+2) xs ys fs).run Tryz.prog w = .ok r w):∃ q:Bool,(Op.eqFields (d+2) xs ys (fd::fs)).run Tryz.prog w = .ok (q&&r) w∧(q=true↔∀ i,i<n→f i=g i):=by
 subst ht;subst ho
 obtain ⟨i0,hi0⟩:∃ i,Tryz.prog.info? fd.type=some i:=info_of_underlying hut
 obtain ⟨i1,hi1⟩:∃ i,Tryz.prog.info? e=some i:=info_of_underlying hu
 have hagg:(isAgg fd.type).run Tryz.prog w = .ok true w:=by unfold isAgg;rw [Sem.run_bind,run_underlying hut w];rfl
 have pp:∀ zs:Array Value,(part fd.type zs fd.offset).run Tryz.prog w = .ok (.agg (zs.extract fd.offset (fd.offset+n))) w:=fun zs=>by
  simp [part,Sem.run_bind,hagg,run_sizeOf w hi0,hsz]
 have ext:∀ (zs:Array Value) (h:Nat→Int),(∀ i,i<n→zs[fd.offset+i]?=some (.int k (h i)))→∀ i∈List.range n,(zs.extract fd.offset (fd.offset+n))[i]?=some (.int k (h i)):=fun zs h hz i hi=>by
  have hin:i<n:=by simpa using hi
  have:=hz i hin
  have hlt:=(Array.getElem?_eq_some_iff.1 this).1
  rw [Array.getElem?_extract,if_pos (by omega),this]
 obtain ⟨q,hq,hiff⟩:=eqItems_int (w:=w) hu hpk hc d (List.range n) (ext xs f hx) (ext ys g hy)
 have p3:=run_equalIn_array (P:=Tryz.prog) w (d+1) (xs.extract fd.offset (fd.offset+n)) (ys.extract fd.offset (fd.offset+n)) hut hi1
 refine ⟨q,?_,by rw [hiff];simp⟩
 simp only [Op.eqFields,ne_eq,hn,not_false_eq_true,if_true,Sem.run_bind,pp,Result.andThen_ok]
 rw [p3,hq]
 cases q
 ·simp
 ·simp [hr]
theorem sup_eq (w:World) (S S':Sup):∃ r:Bool,(Op.equalIn 10000 49 (.agg S.row) (.agg S'.row)).run Tryz.prog w = .ok r w∧(r=true↔S.row=S'.row):=by
 have hf:(Tryz.prog.fieldsOf 49).toList=[(Tryz.prog.fieldsOf 49)[0]!,(Tryz.prog.fieldsOf 49)[1]!,(Tryz.prog.fieldsOf 49)[2]!,(Tryz.prog.fieldsOf 49)[3]!]:=by kernel_rfl
 have gx:∀ (T:Sup) {i:Nat},i<18→T.row[i]?=some (T.cellV i):=fun T {i} hi=>zfg hi
 obtain ⟨q3,h3,i3⟩:=eqField_arr (w:=w) (fd:=(Tryz.prog.fieldsOf 49)[3]!) (t:=47) (e:=44) (off:=10) (n:=8) (k := .u64) (xs:=S.row) (ys:=S'.row) (f:=fun i=>(S.marks i:Int)) (g:=fun i=>(S'.marks i:Int)) (by decide +kernel) (by kernel_rfl) (by kernel_rfl) Tryz.underlying47 (by kernel_rfl) Tryz.underlying44 (by kernel_rfl) (by kernel_rfl)
  (fun i hi=>(gx S (by omega)).trans (by unfold Sup.cellV;rw [if_neg (by omega),if_neg (by omega),if_neg (by omega),Nat.add_sub_cancel_left])) (fun i hi=>(gx S' (by omega)).trans (by unfold Sup.cellV;rw [if_neg (by omega),if_neg (by omega),if_neg (by omega),Nat.add_sub_cancel_left])) 9997 [] (r:=true) (by simp [Op.eqFields])
 obtain ⟨q2,h2,i2⟩:=eqField_arr (w:=w) (fd:=(Tryz.prog.fieldsOf 49)[2]!) (t:=46) (e:=45) (off:=2) (n:=8) (k := .u32) (xs:=S.row) (ys:=S'.row) (f:=fun i=>(S.roots i:Int)) (g:=fun i=>(S'.roots i:Int)) (by decide +kernel) (by kernel_rfl) (by kernel_rfl) Tryz.underlying46 (by kernel_rfl) Tryz.underlying45 (by kernel_rfl) (by kernel_rfl)
  (fun i hi=>(gx S (by omega)).trans (by unfold Sup.cellV;rw [if_neg (by omega),if_neg (by omega),if_pos (by omega),Nat.add_sub_cancel_left])) (fun i hi=>(gx S' (by omega)).trans (by unfold Sup.cellV;rw [if_neg (by omega),if_neg (by omega),if_pos (by omega),Nat.add_sub_cancel_left])) 9997 [(Tryz.prog.fieldsOf 49)[3]!] h3
 have h1:=eqField_int (w:=w) (fd:=(Tryz.prog.fieldsOf 49)[1]!) (e:=45) (off:=1) (k := .u32) (xs:=S.row) (ys:=S'.row) (a:=(S.blocks:Int)) (b:=(S'.blocks:Int)) (by decide +kernel) (by kernel_rfl) (by kernel_rfl) Tryz.underlying45 (by kernel_rfl) (gx S (by omega)) (gx S' (by omega)) 9998 _ h2
 have h0:=eqField_int (w:=w) (fd:=(Tryz.prog.fieldsOf 49)[0]!) (e:=44) (off:=0) (k := .u64) (xs:=S.row) (ys:=S'.row) (a:=(S.gen:Int)) (b:=(S'.gen:Int)) (by decide +kernel) (by kernel_rfl) (by kernel_rfl) Tryz.underlying44 (by kernel_rfl) (gx S (by omega)) (gx S' (by omega)) 9998 _ h1
 have hs:=run_equalIn_struct (P:=Tryz.prog) w 9999 49 S.row S'.row (by kernel_rfl) (by kernel_rfl)
 rw [hf,h0] at hs
 refine ⟨_,hs,?_⟩
 simp only [Bool.and_eq_true,decide_eq_true_eq,and_true,i3,i2]
 constructor
 ·rintro ⟨e0,e1,e2,e3⟩
  refine row_congr fun i hi=>?_
  unfold Sup.valS
  by_cases c0:i=0
  ·rw [if_pos c0,if_pos c0];omega
  ·rw [if_neg c0,if_neg c0]
   by_cases c1:i=1
   ·rw [if_pos c1,if_pos c1];omega
   ·rw [if_neg c1,if_neg c1]
    by_cases c2:i<10
    ·rw [if_pos c2,if_pos c2];have:=e2 (i - 2) (by omega);omega
    ·rw [if_neg c2,if_neg c2];have:=e3 (i - 10) (by omega);omega
 ·intro h
  have e:=row_inj h
  have v:∀ (T:Sup) (i:Nat),i<8→T.valS (2+i)=T.roots i∧T.valS (10+i)=T.marks i:=fun T i hi=>by
   unfold Sup.valS
   rw [if_neg (by omega),if_neg (by omega),if_pos (by omega),if_neg (by omega),if_neg (by omega),if_neg (by omega),Nat.add_sub_cancel_left,Nat.add_sub_cancel_left]
   exact ⟨rfl,rfl⟩
  refine ⟨congrArg Nat.cast (e 0 (by omega)),congrArg Nat.cast (e 1 (by omega)),fun i hi=>?_,fun i hi=>?_⟩
  ·rw [← (v S i hi).1,← (v S' i hi).1,e _ (by omega)]
  ·rw [← (v S i hi).2,← (v S' i hi).2,e _ (by omega)]
theorem Bs.Ok.back_ok {B:Bs} (h:B.Ok):B.back.Ok:=by
 have hs:SupOf B.Kp B.T.n B.a:=h.kp
 refine { n:=h.n,own:=⟨⟨h.own.ok.n0,h.own.ok.n1,fun k i hk hi h0=>⟨(h.own.ok.has k i hk hi h0).1,?_⟩,h.own.ok.apart⟩,h.own.nz,h.own.kept,h.own.kept⟩,a2:=h.a2,low:=fun b hb=>⟨(h.low b hb).2,(h.low b hb).2⟩,le:=fun b hb=>⟨(h.le b hb).2,(h.le b hb).2⟩,first:=h.first,nx:=h.nx,fr:=?_,fle:=(fun b f hb hf=>by cases hf),s:=hs,kp:=hs,sg:=rfl,disk:=h.disk,dle:=h.dle }
 ·show B.T.kept (B.a k i)≠0
  rw [h.own.kept k i hk hi];omega
 ·intro b hb
  constructor
  ·intro h;cases h
  ·rintro ⟨h1,h2⟩
   exact absurd h1 h2
theorem Bs.Ok.open_ok {B:Bs} (h:B.Ok):B.open_.Ok:=by
 have hb:=h.back_ok
 exact { hb with first:=rfl,nx:=⟨Nat.le_refl _,by show 2≤B.T.n;have:=h.n;omega⟩ }
theorem best_kept {Kp:Sup} {o:Nat→Option Sup} (hK:0<Kp.gen) (h1:o (Kp.gen % 2)=some Kp) (h2:∀ S,o (1 - Kp.gen % 2)=some S→S.gen<Kp.gen):bestS o 2=Kp:=by
 rcases (show Kp.gen % 2=0∨Kp.gen % 2=1 by omega) with e | e
 ·rw [e] at h1 h2
  have b1:bestS o 1=Kp:=best_in h1 e hK
  cases ho:o 1 with
  | none=>rw [best_none ho,b1]
  | some S=>rw [best_out ho (fun q=>by rw [b1] at q;have:=h2 S ho;omega),b1]
 ·rw [e] at h1 h2
  refine best_in h1 e ?_
  cases ho:o 0 with
  | none=>rw [best_none ho];exact hK
  | some S =>
   by_cases hc:S.gen % 2=0∧(bestS o 0).gen<S.gen
   ·rw [best_in ho hc.1 hc.2];exact h2 S ho
   ·rw [best_out ho hc];exact hK
theorem Bs.Ok.decs {B:Bs} (h:B.Ok) {D:Nat→Nat→Nat} (hD:∀ b,b<B.T.n→∀ i,i<128→D b i=B.D b i):∃ o:Nat→Option Sup,(∀ k,k<2→DecIs (D k) (o k))∧bestS o 2=B.Kp:=by
 have hn:=h.n
 obtain ⟨o1,ho1,hx⟩:∃ o1:Option Sup,DecIs (D (1 - B.Kp.gen % 2)) o1∧∀ S,o1=some S→S.gen<B.Kp.gen:=by
  rcases h.disk.oth with h0 | ⟨S',q1,q2,q3⟩
  ·exact ⟨none,by show D _ 0≠6;rw [hD _ (by omega) 0 (by omega)];exact h0,fun S e=>by cases e⟩
  ·exact ⟨some S',⟨q1,fun i hi=>by rw [hD _ (by omega) i hi];exact q3 i hi⟩,fun S e=>by injection e with e;subst e;exact q2⟩
 refine ⟨fun k=>if k=B.Kp.gen % 2 then some B.Kp else o1,fun k hk=>?_,best_kept h.kp.ok.gen.1 (if_pos rfl) (fun S e=>hx S (by rw [if_neg (by omega)] at e;exact e))⟩
 by_cases e:k=B.Kp.gen % 2
 ·subst e
  show DecIs _ (if _=_ then _ else _)
  rw [if_pos rfl]
  exact ⟨h.kp.ok,fun i hi=>by rw [hD _ (by omega) i hi];exact h.disk.sup i hi⟩
 ·obtain rfl:k=1 - B.Kp.gen % 2:=by omega
  show DecIs _ (if _=_ then _ else _)
  rw [if_neg e]
  exact ho1
theorem sup_same (w:World) {S S':Sup} (h:S.row=S'.row):(Op.equalIn 10000 49 (.agg S.row) (.agg S'.row)).run Tryz.prog w = .ok true w:=by
 obtain ⟨r,h1,h2⟩:=sup_eq w S S'
 rw [h1,h2.2 h]
theorem root_same {S:Sup} {N:Nat} {a:Nat→Nat→Nat} (h:SupOf S N a):(rootK S (pg (pg N)) (a 1) 2).row=S.row :=
 row_congr fun i hi=>root_val (r:=fun i=>if i<2 then (if i<pg (pg N) then a 1 i else 0) else S.roots i) (r':=S.roots) fun h2 h10=>by
  show (if i - 2<2 then (if i - 2<pg (pg N) then a 1 (i - 2) else 0) else S.roots (i - 2))=S.roots (i - 2)
  by_cases e:i - 2<2
  ·rw [if_pos e,h.r _ e]
  ·rw [if_neg e]
theorem built_base (M:Bm) (R:Br) (B:Bs) (n0 n1:Nat) (h0:n0=nOf B.T.n 0) (h1:n1=nOf B.T.n 1):Tryz.prog.built 51 [(0,.pointer (some ⟨M.d,0,none⟩)),(1,.pointer (some ⟨M.t,0,none⟩)),(2,.pointer (some ⟨M.p,0,none⟩)),(3,.agg #[.slice (some ⟨R.g 0,0,none⟩) n0 (R.c 0),.slice (some ⟨R.g 1,0,none⟩) n1 (R.c 1)]),(4,.map (some M.mf)),(5,.agg B.S.row),(6,.agg B.Kp.row),(7,.int .i64 ((B.Kp.gen % 2:Nat):Int))]=some (fnRow 44 (baseV M R B)):=by
 subst h0;subst h1
 kernel_rfl
theorem wpList_boxAgg {ops:Array Oper} {rest:List Oper} {o:Oper} {a:Act} {w:World} {Q:Exit→Act→World→Prop} (hg:o.guard=none) (t:TypeId) (x:Operand) (ho:o.op = .box t x) {cells:Array Value} (hx:a.eval x = .agg cells)
  (h:wpList Tryz.prog ops Q rest (a.put o.dst (.pointer (some ⟨w.heap.size,0,none⟩))) (w.alloc (.cells cells t))):wpList Tryz.prog ops Q (o::rest) a w:=by
 refine wpList_plain hg fun K hK=>?_
 unfold Oper.wp execOp
 simp only [ho,hx,Instr.box,newVar,Sem.run_bind,Sem.run_pure]
 simp [go_sem,Value.cells]
 exact hK _ _ h
theorem wpList_built {ops:Array Oper} {rest:List Oper} {o:Oper} {a:Act} {w:World} {Q:Exit→Act→World→Prop} (hg:o.guard=none) (t:TypeId) (parts:Array (Nat × Operand)) (ho:o.op = .build t parts) {ps:List (Nat × Value)} {cells:Array Value}
  (hp:(parts.map fun (i,x)=>(i,a.eval x)).toList=ps) (hb:Tryz.prog.built t ps=some cells) (h:wpList Tryz.prog ops Q rest (a.put o.dst (.agg cells)) w):wpList Tryz.prog ops Q (o::rest) a w:=by
 refine wpList_build hg t parts ho ?_ ?_
 ·rw [hp,hb];rfl
 ·rw [hp,hb];exact h
theorem PT.back {w:World} {p t bc bk:Nat} {K:Pk} {T:Tal} (h:PT w p t bc bk K T):Calls Tryz.prog 97 #[.pointer (some ⟨t,0,none⟩)] w fun e w'=>e = .returned (.tuple #[])∧PT w' p t bc bk K T.back∧Chg [p,t,bc,bk] w w' :=
 (back_at h.ht).mono fun _ _ ⟨he,ht',hc⟩=>⟨he,⟨h.hp.chg hc (pick_ne h.hp h.ht),ht',h.f,h.n,h.a⟩,hc.mono (by simp)⟩
theorem infoStp:(Tryz.prog.info? 142).map (fun i=>(i.zero,i.size,i.bytes))=some (some (.agg #[.nilFunc]),1,8):=by kernel_rfl
def StepsAt (w:World) (base dp n:Nat) (v:Value) (ops:List (Option (Nat × (Nat→Nat)))):Prop :=
 ∃ vs:List Value,w.ownsRow base 142 1 v ops.length vs∧∀ (i:Nat) (x:Option (Nat × (Nat→Nat))),ops[i]?=some x→∃ u:Value,vs[i]?=some u∧StepIs w dp n u x
theorem StepsAt.nil (w:World) (base dp n:Nat):StepsAt w base dp n (.slice none 0 0) []:=⟨[],World.ownsRow_nil _ _ _ _,fun i x h=>by cases h⟩
theorem StepsAt.mono {w:World} {base base' dp n:Nat} {v:Value} {ops:List (Option (Nat × (Nat→Nat)))} (h:StepsAt w base dp n v ops) (hb:base'≤base):StepsAt w base' dp n v ops:=by
 obtain ⟨vs,h1,h2⟩:=h
 exact ⟨vs,ownRow_mono h1 hb,h2⟩
theorem stepRow_far {W w5:World} {base n k dp:Nat} {v u:Value} {vs:List Value} {x:Option (Nat × (Nat→Nat))} (hrow:W.ownsRow base 142 1 v k vs) (hg:W.grownBy w5 v.ownBlock) (h:StepIs W dp n u x):StepIs w5 dp n u x:=by
 refine h.far ((Chg.refl (ownL v) W).grown hg (fun q hq => .inl (zml.2 hq))) (fun q hq cs T y hcs=>?_)
 rw [zml] at hq
 rcases hrow.2 with ⟨rfl,_⟩ | ⟨gg,cc,cur,rfl,_,hgg,_⟩
 ·cases hq
 ·have:gg=q:=by simpa [Value.ownBlock] using hq
  subst this
  rw [hcs] at hgg
  injection hgg with hgg
  injection hgg with _ e _
  subst e
  decide
theorem steps_snoc {wr w3 W w5:World} {base dp n k:Nat} {v v' u:Value} {vs:List Value} {ops:List (Option (Nat × (Nat→Nat)))} {x:Nat × (Nat→Nat)} (hk:ops.length=k) (hrow:wr.ownsRow base 142 1 v k vs)
  (hall:∀ (i:Nat) (x:Option (Nat × (Nat→Nat))),ops[i]?=some x→∃ u:Value,vs[i]?=some u∧StepIs wr dp n u x) (hst:StepIs w3 dp n u (some x)) (hc3:Chg [] w3 W) (hc4:Chg [] wr W)
  (hown:w5.ownsRow base 142 1 v' (k+1) (vs++[u])) (hg:W.grownBy w5 v.ownBlock):StepsAt w5 base dp n v' (ops++[some x]):=by
 have hrW:=own_chgT hrow hc4 (by simp)
 have hlen:vs.length=k:=by have:=hrow.1;simpa using this
 refine ⟨vs++[u],by rw [List.length_append,hk];exact hown,fun i y hy=>?_⟩
 by_cases hi:i<ops.length
 ·rw [List.getElem?_append_left hi] at hy
  obtain ⟨u',h1,h2⟩:=hall i y hy
  refine ⟨u',by rw [List.getElem?_append_left (by omega)];exact h1,stepRow_far hrW hg (h2.on hc4)⟩
 ·rw [List.getElem?_append_right (by omega)] at hy
  have e:i=ops.length:=by
   by_cases q:i=ops.length
   ·exact q
   ·rw [List.getElem?_eq_none (by simp;omega)] at hy;cases hy
  subst e
  rw [Nat.sub_self] at hy
  injection hy with hy
  subst hy
  refine ⟨u,by rw [List.getElem?_append_right (by omega),hlen,hk,Nat.sub_self];rfl,stepRow_far hrW hg (hst.on hc3)⟩
theorem baPaged_at {w:World} {dp t bc bk N:Nat} {T:Tal} {u0 u1 z0 z1:Value} {A:Nat→Nat→Nat} {g c:Nat→Nat} {l0 l1:List Nat} (HT:TallyAt w t bc bk T) (hN:T.n=N) (hn:1≤N∧N≤4096) (hle:∀ i,i<N→T.now i<65536) (hl0:l0.length≤4096) (hl1:l1.length≤4096) (hv:ShV w u0 u1 A (nOf N) g c)
  (s0:SlI w z0 l0) (s1:SlI w z1 l1) (h0:∀ i,i<l0.length→l0.getD i 0<nOf N 0) (h1:∀ i,i<l1.length→l1.getD i 0<nOf N 1) (hA:∀ k i,k<2→i<nOf N k→A k i<N) :
  Calls Tryz.prog 86 #[.pointer (some ⟨dp,0,none⟩),.pointer (some ⟨t,0,none⟩),.agg #[u0,u1],z0,z1] w fun e w'=>∃ v,e = .returned v ∧
   StepsAt w' w.heap.size dp N v ((l0.map fun i=>some (A 0 i,rowP 5 N T.now i))++(l1.map fun i=>some (A 1 i,rowP 4 (pg N) (A 0) i)))∧Chg [] w w':=by
 obtain ⟨a0,b0,e0⟩:=s0.len
 obtain ⟨a1,b1,e1⟩:=s1.len
 have eu0:=hv.e0
 have eu1:=hv.e1
 subst e0;subst e1;subst eu0;subst eu1
 obtain ⟨n0,hn0⟩:∃ n,n=l0.length:=⟨_,rfl⟩
 obtain ⟨n1,hn1⟩:∃ n,n=l1.length:=⟨_,rfl⟩
 rw [← hn0,← hn1]
 have H:=Lib.hid (And.intro HT (And.intro hv (And.intro s0 (And.intro s1 (And.intro h0 (And.intro h1 hA))))))
 have HN:=Lib.hid (And.intro hN (And.intro hn0 hn1))
 clear HT hv s0 s1 h0 h1 hA hN hn0 hn1
 go_enter Tryz.func86,Tryz.ntmps86
 go_wp2_with fail
 have hx:=znb w (.cells #[.slice (some ⟨g 0,0,none⟩) (nOf N 0) (c 0),.slice (some ⟨g 1,0,none⟩) (nOf N 1) (c 1)] 42)
 have hxc:Chg [] w (w.alloc (.cells #[.slice (some ⟨g 0,0,none⟩) (nOf N 0) (c 0),.slice (some ⟨g 1,0,none⟩) (nOf N 1) (c 1)] 42)):=(Chg.refl [] w).alloc _
 obtain ⟨wA,hwA⟩:∃ wA,wA=w.alloc (.cells #[.slice (some ⟨g 0,0,none⟩) (nOf N 0) (c 0),.slice (some ⟨g 1,0,none⟩) (nOf N 1) (c 1)] 42):=⟨_,rfl⟩
 rw [← hwA] at hx hxc ⊢
 have HX:=Lib.hid (And.intro hx hxc)
 clear hwA hx hxc
 go_loopw [11,22] (fun v s wr=>∃ k:Nat,k≤n0∧s = .int .i64 (k:Int)∧Hid (StepsAt wr wA.heap.size dp N v ((l0.take k).map fun i=>some (A 0 i,rowP 5 N T.now i))∧Chg [] wA wr)) (fun _ s _=>n0 - (intOf s).toNat)
 case atStart=>exact ⟨0,Nat.zero_le _,by go_num,Lib.hid ⟨StepsAt.nil _ _ _ _,Chg.refl _ _⟩⟩
 case round =>
  obtain ⟨k,hk,rfl,hH⟩:=hrel
  by_cases hlt:k<n0
  ·have hcA:=HX.out.2.trans hH.out.2
   obtain ⟨x,hxe⟩:∃ x,x=l0.getD k 0:=⟨_,rfl⟩
   have hcell:∃ gz,a0=some ⟨gz,0,none⟩∧wr.cell? ⟨gz,k,none⟩=some (.int .i64 (x:Int)):=by
    rcases H.out.2.2.1 with ⟨e,e2⟩ | ⟨gz,cap,e,q1,q2,q3,q4⟩
    ·have:=HN.out.2.1;rw [e2] at this;simp at this;omega
    ·injection e with e _ _
     exact ⟨gz,e,(hcA.cell (p:=⟨gz,k,none⟩) q3 (by simp)).trans (by rw [hxe];exact q4 k (by have:=HN.out.2.1;omega))⟩
   obtain ⟨gz,rfl,hcz⟩:=hcell
   have hxb:x<nOf N 0:=by rw [hxe];exact H.out.2.2.2.2.1 k (by have:=HN.out.2.1;omega)
   have hx61:61*x<N:=by unfold nOf pg at hxb;simp at hxb;omega
   have i1:(k:Int)<(n0:Int):=by omega
   have ct:=counts_at (H.out.1.chg hcA (by simp) (by simp) (by simp)) x (by rw [HN.out.1];exact hx61)
   have CT:=Lib.hid ct
   have HXE:=Lib.hid hxe
   clear ct hxe hcA
   go_wp2_with fail
   refine CT.out.mono ?_
   rintro e w1 ⟨v1,rfl,hrow,hc1⟩
   rw [HN.out.1,show min (61*x+61) N - 61*x=min 61 (N - 61*x) by omega] at hrow
   obtain ⟨va,vc,rfl,hvc,hvm,hU⟩:=u16In_own (l:=fun j=>T.now (61*x+j)) hrow (fun i hi=>hle _ (by omega))
   have ce:=ixEncode_at (kind:=5) (cap:=vc) (.inr rfl) (show min 61 (N - 61*x)≤61 by omega) hU
   have CE:=Lib.hid ce
   have HC1:=Lib.hid hc1
   clear hrow hU ce hc1 CT
   go_wp2_with fail
   refine CE.out.mono ?_
   clear CE
   rintro e w2 ⟨gp,rfl,hgp,hgs,hc2⟩
   have hcA:=HX.out.2.trans (hH.out.2.trans (HC1.out.trans hc2))
   have hcX:=hH.out.2.trans (HC1.out.trans hc2)
   have hxl:=zhl HX.out.1
   have x0:=(hcX.cell (p:=⟨w.heap.size,0,none⟩) hxl (by simp)).trans (zcb HX.out.1 0)
   simp only [List.getElem?_toArray,List.getElem?_cons_zero] at x0
   obtain ⟨y,hy⟩:∃ y,y=A 0 x:=⟨_,rfl⟩
   have hyN:y<N:=by rw [hy];exact H.out.2.2.2.2.2.2 0 x (by omega) hxb
   have y0:w2.cell? ⟨g 0,x,none⟩=some (.int .i64 (y:Int)):=by
    rcases H.out.2.1.l 0 (by omega) with ⟨e,_⟩ | ⟨gg,cap,e,q1,q2,q3,q4⟩
    ·cases e
    ·injection e with e _ _
     injection e with e
     injection e with e
     have:=q4 x (by rw [atL_len];exact hxb)
     rw [atL_get _ _ hxb,← e] at this
     rw [hy]
     exact (hcA.cell (p:=⟨g 0,x,none⟩) (by rw [e];exact q3) (by simp)).trans this
   have i2:(x:Int)<(nOf N 0:Int):=by omega
   have hby:BytesAt w2 gp 0 128 (pageI 5 (min 61 (N - 61*x)) fun j=>T.now (61*x+j)):=fun i hi=>⟨by rw [Nat.zero_add,zcb hgp,u8s_get hi],pageI_le (by omega) (by omega) i⟩
   have cp:=baPut_at (dp:=dp) (cap:=128) hyN (Nat.le_refl _) hby ⟨_,_,hgp⟩
   have CP:=Lib.hid cp
   have HC2:=Lib.hid (And.intro hc2 (And.intro hy hcX))
   clear hcA hcX hby cp hgp hgs hc2 hy
   go_wp2_with fail
   refine CP.out.mono ?_
   clear CP
   rintro e w3 ⟨gf,lb,rfl,hst,hc3⟩
   obtain ⟨vs,hrow,hall⟩:=hH.out.1
   have hn3:=znb w3 (.cells #[.func gf #[] lb] 142)
   have hc4:Chg [] wr (w3.alloc (.cells #[.func gf #[] lb] 142)):=((HC1.out.trans HC2.out.1).trans hc3).alloc _
   have hsz:=hc4.size
   have hsA:=hH.out.2.size
   have hcX:=hH.out.2
   rw [show ((l0.take k).map fun i=>some (A 0 i,rowP 5 N T.now i)).length=k by rw [List.length_map,List.length_take];have:=HN.out.2.1;omega] at hrow
   have hk4:k≤4096:=by have:=HN.out.2.1;omega
   have HS:=Lib.hid (And.intro hst (And.intro hc3 (And.intro hrow (And.intro hall (And.intro hn3 hc4)))))
   have HCX:=Lib.hid hcX
   clear hst hc3 hrow hall hn3 hc4 hH hcX
   go_wp2_with (at_builtin;refine wpList_app rfl _ _ 136 rfl rfl (base:=wA.heap.size) (size:=1) (n:=k) (m:=1) (xs:=vs) (news:=[.func gf #[] lb]) Tryz.underlying136 infoStp rfl (by omega) (by omega) rfl rfl (own_chgT HS.out.2.2.1 HS.out.2.2.2.2.2 (by simp)) (AppSrc.blk HS.out.2.2.2.2.1 rfl (fun u hu=>by simp at hu;subst hu;rfl)) (by omega) (Nat.le_trans hsA hsz) ?_;intro v' w5 hown5 hg5 ho5;have H5:=Lib.hid (And.intro hown5 (And.intro hg5 ho5));clear hown5 hg5 ho5)
   go_roundw
   case rel =>
    have hce:=HXE.out
    have e1:l0.take (k+1)=l0.take k++[x]:=by
     rw [List.take_add_one]
     congr 1
     have hk':k<l0.length:=by have:=HN.out.2.1;omega
     rw [HXE.out,List.getElem?_eq_getElem hk',List.getD_eq_getElem?_getD,List.getElem?_eq_getElem hk']
     rfl
    refine ⟨k+1,by omega,by go_num,Lib.hid ⟨?_,(HCX.out.trans HS.out.2.2.2.2.2).grown H5.out.2.1 (fun q hq => .inr (HS.out.2.2.1.lt q hq).1)⟩⟩
    rw [e1,List.map_append]
    have:=steps_snoc (by rw [List.length_map,List.length_take];have:=HN.out.2.1;omega) HS.out.2.2.1 HS.out.2.2.2.1 HS.out.1 ((Chg.refl [] w3).alloc _) HS.out.2.2.2.2.2 H5.out.1 H5.out.2.1
    rw [HC2.out.2.1] at this
    exact this
   case measure=>simp [intOf];omega
  ·obtain rfl:k=n0:=by omega
   have hT0:(l0.take k).map (fun i=>some (A 0 i,rowP 5 N T.now i))=l0.map (fun i=>some (A 0 i,rowP 5 N T.now i)):=by rw [List.take_of_length_le (by have:=HN.out.2.1;omega)]
   have HD:=Lib.hid (And.intro (hT0▸hH.out.1) hH.out.2)
   clear hT0 hH
   obtain ⟨O0,hO0⟩:∃ O0,O0=l0.map (fun i=>some (A 0 i,rowP 5 N T.now i)):=⟨_,rfl⟩
   rw [← hO0] at HD
   have hOl:O0.length=k:=by rw [hO0,List.length_map];exact HN.out.2.1.symm
   have HO:=Lib.hid hO0
   clear hO0
   go_wp2_with fail
   go_loopw [11,47] (fun v s wr=>∃ m:Nat,m≤n1∧s = .int .i64 (m:Int)∧Hid (StepsAt wr wA.heap.size dp N v (O0++(l1.take m).map fun i=>some (A 1 i,rowP 4 (pg N) (A 0) i))∧Chg [] wA wr)) (fun _ s _=>n1 - (intOf s).toNat)
   case atStart=>exact ⟨0,Nat.zero_le _,by go_num,Lib.hid ⟨by rw [List.take_zero,List.map_nil,List.append_nil];exact HD.out.1,HD.out.2⟩⟩
   case round =>
    obtain ⟨m,hm,rfl,hH⟩:=hrel
    by_cases hlt:m<n1
    ·have hcA:=HX.out.2.trans hH.out.2
     obtain ⟨x,hxe⟩:∃ x,x=l1.getD m 0:=⟨_,rfl⟩
     have hcell:∃ gz,a1=some ⟨gz,0,none⟩∧wr.cell? ⟨gz,m,none⟩=some (.int .i64 (x:Int)):=by
      rcases H.out.2.2.2.1 with ⟨e,e2⟩ | ⟨gz,cap,e,q1,q2,q3,q4⟩
      ·have:=HN.out.2.2;rw [e2] at this;simp at this;omega
      ·injection e with e _ _
       exact ⟨gz,e,(hcA.cell (p:=⟨gz,m,none⟩) q3 (by simp)).trans (by rw [hxe];exact q4 m (by have:=HN.out.2.2;omega))⟩
     obtain ⟨gz,rfl,hcz⟩:=hcell
     have hxb:x<nOf N 1:=by rw [hxe];exact H.out.2.2.2.2.2.1 m (by have:=HN.out.2.2;omega)
     have e0:nOf N 0=pg N:=rfl
     have hx61:61*x<nOf N 0:=by rw [e0];have:nOf N 1=pg (pg N):=rfl;rw [this] at hxb;unfold pg at hxb ⊢;omega
     have hNN:nOf N 0≤4096:=by rw [e0];unfold pg;omega
     have i1:(m:Int)<(n1:Int):=by omega
     have hxl:=zhl HX.out.1
     have x0:=(hH.out.2.cell (p:=⟨w.heap.size,0,none⟩) hxl (by simp)).trans (zcb HX.out.1 0)
     simp only [List.getElem?_toArray,List.getElem?_cons_zero] at x0
     have hg0:nOf N 0≤c 0∧c 0≤maxLen∧g 0<w.heap.size∧∀ i,i<nOf N 0→w.cell? ⟨g 0,i,none⟩=some (.int .i64 (A 0 i:Int)):=by
      rcases H.out.2.1.l 0 (by omega) with ⟨e,_⟩ | ⟨gg,cap,e,q1,q2,q3,q4⟩
      ·cases e
      ·injection e with e e2 e3
       injection e with e
       injection e with e
       rw [e3,e2,e]
       refine ⟨q1,q2,q3,fun i hi=>?_⟩
       have:=q4 i hi
       rw [← e2] at hi
       rw [atL_get _ _ hi] at this
       exact this
     have cpt:=baPart_at (w:=wr) (g:=g 0) (i:=x) hx61 (by omega) hg0.1 hg0.2.1
     have cnm:=baNumbers_at (w:=wr) (g:=g 0) (o:=61*x) (a:=some ⟨g 0,61*x,none⟩) (n:=min 61 (nOf N 0 - 61*x)) (c:=c 0 - 61*x) (l:=fun j=>A 0 (61*x+j)) (by omega) (by omega) (fun i hi=>by have:=H.out.2.2.2.2.2.2 0 (61*x+i) (by omega) (by omega);omega)
      (fun _=>⟨rfl,Nat.lt_of_lt_of_le hg0.2.2.1 hcA.size,fun i hi=>(hcA.cell (p:=⟨g 0,61*x+i,none⟩) hg0.2.2.1 (by simp)).trans (hg0.2.2.2 _ (by omega))⟩)
     have CNM:=Lib.hid cnm
     have HXE:=Lib.hid hxe
     have hG0:=Lib.hid hg0
     have E0:=Lib.hid e0
     have CPT:=Lib.hid cpt
     clear cnm hxe hcA hg0 e0 cpt
     go_wp2_with fail
     refine CPT.out.mono ?_
     rintro e w' ⟨rfl,rfl⟩
     go_wp2_with fail
     refine CNM.out.mono ?_
     rintro e w1 ⟨v1,rfl,hrow,hc1⟩
     obtain ⟨va,vc,rfl,hvc,hvm,hU⟩:=u16In_own hrow (fun i hi=>by have:=H.out.2.2.2.2.2.2 0 (61*x+i) (by omega) (by omega);omega)
     have ce:=ixEncode_at (kind:=4) (cap:=vc) (.inl rfl) (show min 61 (nOf N 0 - 61*x)≤61 by omega) hU
     have CE:=Lib.hid ce
     have HC1:=Lib.hid hc1
     clear hrow hU ce hc1 CNM CPT
     go_wp2_with fail
     refine CE.out.mono ?_
     clear CE
     rintro e w2 ⟨gp,rfl,hgp,hgs,hc2⟩
     have hcA:=HX.out.2.trans (hH.out.2.trans (HC1.out.trans hc2))
     have hcX:=hH.out.2.trans (HC1.out.trans hc2)
     have x1:=(hcX.cell (p:=⟨w.heap.size,1,none⟩) hxl (by simp)).trans (zcb HX.out.1 1)
     simp only [List.getElem?_toArray,List.getElem?_cons_zero,List.getElem?_cons_succ] at x1
     obtain ⟨y,hy⟩:∃ y,y=A 1 x:=⟨_,rfl⟩
     have hyN:y<N:=by rw [hy];exact H.out.2.2.2.2.2.2 1 x (by omega) hxb
     have y0:w2.cell? ⟨g 1,x,none⟩=some (.int .i64 (y:Int)):=by
      rcases H.out.2.1.l 1 (by omega) with ⟨e,_⟩ | ⟨gg,cap,e,q1,q2,q3,q4⟩
      ·cases e
      ·injection e with e _ _
       injection e with e
       injection e with e
       have:=q4 x (by rw [atL_len];exact hxb)
       rw [atL_get _ _ hxb,← e] at this
       rw [hy]
       exact (hcA.cell (p:=⟨g 1,x,none⟩) (by rw [e];exact q3) (by simp)).trans this
     have i2:(x:Int)<(nOf N 1:Int):=by omega
     have hby:BytesAt w2 gp 0 128 (pageI 4 (min 61 (nOf N 0 - 61*x)) fun j=>A 0 (61*x+j)):=fun i hi=>⟨by rw [Nat.zero_add,zcb hgp,u8s_get hi],pageI_le (by omega) (by omega) i⟩
     have cp:=baPut_at (dp:=dp) (cap:=128) hyN (Nat.le_refl _) hby ⟨_,_,hgp⟩
     have CP:=Lib.hid cp
     have HC2:=Lib.hid (And.intro hc2 (And.intro hy hcX))
     clear hcA hcX hby cp hgp hgs hc2 hy
     go_wp2_with fail
     refine CP.out.mono ?_
     clear CP
     rintro e w3 ⟨gf,lb,rfl,hst,hc3⟩
     obtain ⟨vs,hrow,hall⟩:=hH.out.1
     have hn3:=znb w3 (.cells #[.func gf #[] lb] 142)
     have hc4:Chg [] wr (w3.alloc (.cells #[.func gf #[] lb] 142)):=((HC1.out.trans HC2.out.1).trans hc3).alloc _
     have hsz:=hc4.size
     have hsA:=hH.out.2.size
     have hcX:=hH.out.2
     have hOm:(O0++(l1.take m).map fun i=>some (A 1 i,rowP 4 (pg N) (A 0) i)).length=k+m:=by rw [List.length_append,hOl,List.length_map,List.length_take];have:=HN.out.2.2;omega
     rw [hOm] at hrow
     have hk4:k+m≤10000:=by have:=HN.out.2;omega
     have HS:=Lib.hid (And.intro hst (And.intro hc3 (And.intro hrow (And.intro hall (And.intro hn3 hc4)))))
     have HCX:=Lib.hid (And.intro hcX hOm)
     clear hst hc3 hrow hall hn3 hc4 hH hcX hOm
     go_wp2_with (at_builtin;refine wpList_app rfl _ _ 136 rfl rfl (base:=wA.heap.size) (size:=1) (n:=k+m) (m:=1) (xs:=vs) (news:=[.func gf #[] lb]) Tryz.underlying136 infoStp rfl (by omega) (by omega) rfl rfl (own_chgT HS.out.2.2.1 HS.out.2.2.2.2.2 (by simp)) (AppSrc.blk HS.out.2.2.2.2.1 rfl (fun u hu=>by simp at hu;subst hu;rfl)) (by omega) (Nat.le_trans hsA hsz) ?_;intro v' w5 hown5 hg5 ho5;have H5:=Lib.hid (And.intro hown5 (And.intro hg5 ho5));clear hown5 hg5 ho5)
     go_roundw
     case rel =>
      have e1:l1.take (m+1)=l1.take m++[x]:=by
       rw [List.take_add_one]
       congr 1
       have hk':m<l1.length:=by have:=HN.out.2.2;omega
       rw [HXE.out,List.getElem?_eq_getElem hk',List.getD_eq_getElem?_getD,List.getElem?_eq_getElem hk']
       rfl
      refine ⟨m+1,by omega,by go_num,Lib.hid ⟨?_,(HCX.out.1.trans HS.out.2.2.2.2.2).grown H5.out.2.1 (fun q hq => .inr (HS.out.2.2.1.lt q hq).1)⟩⟩
      rw [e1,List.map_append,← List.append_assoc]
      have:=steps_snoc HCX.out.2 HS.out.2.2.1 HS.out.2.2.2.1 HS.out.1 ((Chg.refl [] w3).alloc _) HS.out.2.2.2.2.2 H5.out.1 H5.out.2.1
      rw [HC2.out.2.1,E0.out] at this
      exact this
     case measure=>simp [intOf];omega
    ·obtain rfl:m=n1:=by omega
     have hT1:(l1.take m).map (fun i=>some (A 1 i,rowP 4 (pg N) (A 0) i))=l1.map (fun i=>some (A 1 i,rowP 4 (pg N) (A 0) i)):=by rw [List.take_of_length_le (by have:=HN.out.2.2;omega)]
     have HD1:=Lib.hid (And.intro (hT1▸hH.out.1) hH.out.2)
     clear hT1 hH
     go_wp2_with fail
     go_ret
     refine ⟨_,rfl,?_,HX.out.2.trans HD1.out.2⟩
     have:=HD1.out.1.mono (base':=w.heap.size) HX.out.2.size
     rw [HO.out] at this
     exact this
end Go.Proofs.YtkhcaclndepgbaaGreat
