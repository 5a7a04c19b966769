/- Package disk: how a disk lies in memory; New, may, power, Len, put. -/
import Derived.Test.YtkhcaclndepgbaaGreatZg02
import Derived.Lib.SliceRun
import Derived.Laws.Cover3
import Derived.Deep.MidRow
import Derived.Deep.WholeRow
import Derived.Deep.Cut
import Derived.BigQuiet
import Derived.Deep.RegionHeld3
set_option linter.unusedVariables false
set_option linter.unusedSimpArgs false
set_option maxRecDepth 100000
set_option maxHeartbeats 20000000
namespace Go.Proofs.YtkhcaclndepgbaaGreat
open Go.RowKit
structure Dk where
 n:Nat
 data:Nat→Nat→Nat
 waits:List (Nat × (Nat→Nat))
def rowD (n:Nat) (f:Nat→Nat→Nat):Array Value:=u8s (n*128) fun i=>f (i / 128) (i % 128)
def wrV (x:Nat × (Nat→Nat)) (i:Nat):Value:=if i=0 then .int .i64 (x.1:Int) else .int .u8 (x.2 (i - 1):Int)
def wrRow (x:Nat × (Nat→Nat)):Array Value:=fnRow 129 (wrV x)
def wrCells:List (Nat × (Nat→Nat))→List Value
 | []=>[]
 | x::r=>(wrRow x).toList++wrCells r
theorem zfs (n:Nat) (V:Nat→Value):(fnRow n V).size=n:=by simp [fnRow]
theorem zfg {n i:Nat} {V:Nat→Value} (h:i<n):(fnRow n V)[i]?=some (V i):=by simp [fnRow,h]
theorem wrCells_get (l:List (Nat × (Nat→Nat))) (i j:Nat) (hi:i<l.length) (hj:j<129):(wrCells l)[i*129+j]?=some (wrV l[i] j):=by
 induction l generalizing i with
 | nil=>simp at hi
 | cons p r ih =>
  rw [wrCells]
  have hl:(wrRow p).toList.length=129:=by rw [Array.length_toList,wrRow,zfs]
  cases i with
  | zero =>
   rw [List.getElem?_append_left (by omega),Array.getElem?_toList,wrRow,Nat.zero_mul,Nat.zero_add,zfg hj]
   rfl
  | succ k =>
   rw [List.getElem?_append_right (by omega),hl,show (k+1)*129+j - 129=k*129+j by omega,ih k (by simpa using hi)]
   rfl
theorem wrCells_app (a b:List (Nat × (Nat→Nat))):wrCells (a++b)=wrCells a++wrCells b:=by
 induction a with
 | nil=>rfl
 | cons p r ih=>rw [List.cons_append,wrCells,wrCells,ih,List.append_assoc]
structure DiskAt (w:World) (p bb:Nat) (wv:Value) (D:Dk):Prop where
 n1:1≤D.n
 n2:D.n≤4096
 le:∀ b,b<D.n→∀ i,i<128→D.data b i≤255
 top:w.heap[p]?=some (.cells #[.slice (some ⟨bb,0,none⟩) D.n D.n,wv,.int .i64 (-1),.bool false] 156 (0,0))
 blk:w.heap[bb]?=some (.cells (rowD D.n D.data) 169 (0,0))
 wts:w.ownsRow 0 171 129 wv D.waits.length (wrCells D.waits)
 wle:∀ x,x∈D.waits→x.1<D.n∧∀ i,i<128→x.2 i≤255
 wl:D.waits.length≤1000000
section
variable {w w':World} {p bb:Nat} {wv:Value} {D:Dk}
theorem DiskAt.ne (h:DiskAt w p bb wv D):p≠bb:=by
 rintro rfl
 have h1:=h.top
 rw [h.blk] at h1
 injection h1 with h1
 injection h1 with _ h1
 revert h1;decide
theorem DiskAt.wne (h:DiskAt w p bb wv D):wv.ownBlock≠some p∧wv.ownBlock≠some bb:=⟨row_ne h.wts h.top (by decide),row_ne h.wts h.blk (by decide)⟩
theorem DiskAt.chg {L:List Nat} (h:DiskAt w p bb wv D) (c:Chg L w w') (h1:p∉L) (h2:bb∉L) (h3:∀ k,wv.ownBlock=some k→k∉L):DiskAt w' p bb wv D :=
 { h with top:=(c.block p (zhl h.top) h1).trans h.top,blk:=(c.block bb (zhl h.blk) h2).trans h.blk,wts:=zoc h.wts c h3 }
theorem DiskAt.lt (h:DiskAt w p bb wv D):p<w.heap.size∧bb<w.heap.size:=⟨zhl h.top,zhl h.blk⟩
theorem DiskAt.wlt (h:DiskAt w p bb wv D):∀ k,wv.ownBlock=some k→k<w.heap.size:=fun k hk=>h.wts.lt k hk |>.2
end
section
variable {w:World} {p bb:Nat} {wv:Value} {D:Dk}
theorem dMay_at (h:DiskAt w p bb wv D):Calls Tryz.prog 104 #[.pointer (some ⟨p,0,none⟩)] w fun e w'=>e = .returned (.int .i64 0)∧w=w':=by
 have ht:=h.top
 have c0:=zcb ht 0
 have c1:=zcb ht 1
 have c2:=zcb ht 2
 have c3:=zcb ht 3
 simp only [List.getElem?_toArray,List.getElem?_cons_zero,List.getElem?_cons_succ] at c0 c1 c2 c3
 have hn:=Lib.run_eql_slice_nil (P:=Tryz.prog) w 149 169 (some ⟨bb,0,none⟩) D.n D.n 0 0 Tryz.underlying149
 go_enter Tryz.func104,Tryz.ntmps104
 go_wp2_with fail
 go_ret
 exact ⟨rfl,rfl⟩
theorem dPower_at (h:DiskAt w p bb wv D):Calls Tryz.prog 105 #[.pointer (some ⟨p,0,none⟩)] w fun e w'=>e = .returned (.int .i64 0)∧w=w':=by
 have ht:=h.top
 have c0:=zcb ht 0
 have c1:=zcb ht 1
 have c2:=zcb ht 2
 have c3:=zcb ht 3
 simp only [List.getElem?_toArray,List.getElem?_cons_zero,List.getElem?_cons_succ] at c0 c1 c2 c3
 go_enter Tryz.func105,Tryz.ntmps105
 go_wp2_with fail
 go_ret
 exact ⟨rfl,rfl⟩
theorem dLen_at (h:DiskAt w p bb wv D):Calls Tryz.prog 43 #[.pointer (some ⟨p,0,none⟩)] w fun e w'=>e = .returned (.int .i64 (D.n:Int))∧w=w':=by
 have ht:=h.top
 have c0:=zcb ht 0
 have c1:=zcb ht 1
 have c2:=zcb ht 2
 have c3:=zcb ht 3
 simp only [List.getElem?_toArray,List.getElem?_cons_zero,List.getElem?_cons_succ] at c0 c1 c2 c3
 go_enter Tryz.func43,Tryz.ntmps43
 go_wp2_with fail
 go_ret
 exact ⟨rfl,rfl⟩
end
theorem infoBlk:(Tryz.prog.info? 169).map (fun i=>(i.zero,i.size,i.bytes))=some (some (.agg (Array.replicate 128 (.int .u8 0))),128,128):=by kernel_rfl
theorem infoWr:(Tryz.prog.info? 171).map (fun i=>(i.zero,i.size,i.bytes))=some (some (.agg (#[.int .i64 0]++Array.replicate 128 (.int .u8 0))),129,136):=by kernel_rfl
theorem laid_row' {n at':Nat} {d:Nat→Nat→Nat} {f:Nat→Nat} (ha:at'<n):fnRow (n*128) (laid (fun i => .int .u8 (d (i / 128) (i % 128):Int)) (fun i => .int .u8 (f i:Int)) (at'*128) 128)=rowD n (fun b=>if b=at' then f else d b):=by
 apply Array.ext_getElem?
 intro i
 by_cases hi:i<n*128
 ·rw [zfg hi,rowD,u8s_get hi]
  unfold laid
  by_cases h:at'*128≤i∧i<at'*128+128
  ·rw [if_pos h,show i / 128=at' by omega,if_pos rfl,show i - at'*128=i % 128 by omega]
  ·rw [if_neg h,if_neg (show ¬ i / 128=at' by omega)]
 ·rw [Array.getElem?_eq_none (by rw [zfs];omega),Array.getElem?_eq_none (by simp [rowD,u8s];omega)]
theorem dpPut_at {w:World} {p bb at' n:Nat} {f:Nat→Nat} {d:Nat→Nat→Nat} (hp:w.cell? ⟨p,0,none⟩=some (.slice (some ⟨bb,0,none⟩) n n)) (hb:w.heap[bb]?=some (.cells (rowD n d) 169 (0,0))) (ha:at'<n) (hn:n≤4096) :
  Calls Tryz.prog 146 #[.pointer (some ⟨p,0,none⟩),.agg (wrRow (at',f)),.int .i64 128] w fun e w'=>e = .returned (.tuple #[])∧w'.heap[bb]?=some (.cells (rowD n (fun b=>if b=at' then f else d b)) 169 (0,0))∧Chg [bb] w w':=by
 have hc:Chg [] w (w.alloc (.cells (wrRow (at',f)) 171)):=(Chg.refl [] w).alloc _
 have hx:=znb w (.cells (wrRow (at',f)) 171)
 have hp':=(hc.cell (p:=⟨p,0,none⟩) (World.block_lt_of_cell? w ⟨p,0,none⟩ hp) (by simp)).trans hp
 have hb':=(hc.block bb (zhl hb) (by simp)).trans hb
 have hwr:∀ j,j<129→(w.alloc (.cells (wrRow (at',f)) 171)).cell? ⟨w.heap.size,j,none⟩=some (wrV (at',f) j):=fun j hj=>(zcb hx j).trans (zfg hj)
 have h0:(w.alloc (.cells (wrRow (at',f)) 171)).cell? ⟨w.heap.size,0,none⟩=some (.int .i64 (at':Int)):=hwr 0 (by omega)
 have hlt:bb<w.heap.size:=zhl hb
 have HPL:=Lib.hid (World.block_lt_of_cell? w ⟨p,0,none⟩ hp)
 have HPP:=Lib.hid hp
 have i1:(at':Int)<(n:Int):=by omega
 clear hp hb
 go_enter Tryz.func146,Tryz.ntmps146
 go_upto_region 1 with fail
 have HC:=Lib.hid hc
 have HB:=Lib.hid hb'
 have HW:=Lib.hid hwr
 have HLT:=Lib.hid (zhl hx)
 have HPB:=Lib.hid (show p≠bb from fun e=>by
  subst e
  rw [zcb hb' 0] at hp'
  unfold rowD at hp'
  by_cases h0:0<n*128
  ·rw [u8s_get h0] at hp';cases hp'
  ·omega)
 clear hc hb' hwr hx
 generalize w.alloc (.cells (wrRow (at',f)) 171)=W at *
 refine wp_region_held_drew (S:=fun W'=>W'.cell? ⟨p,0,none⟩=some (.slice (some ⟨bb,0,none⟩) n n)∧W'.cell? ⟨w.heap.size,0,none⟩=some (.int .i64 (at':Int))) (by kernel_rfl) (by exact ⟨hp',h0⟩) (fun hHeld=>?_)
 refine wV 0 ?_ (hy:=by rintro W' ⟨s0,s1⟩;go_simp;first | done | with_reducible rfl)
 refine wV 1 ?_ (hy:=by rintro W' ⟨s0,s1⟩;go_simp;first | done | with_reducible rfl)
 refine wV 2 ?_ (hy:=by rintro W' ⟨s0,s1⟩;go_simp;first | done | with_reducible rfl)
 refine wV 3 ?_ (hy:=by rintro W' ⟨s0,s1⟩;go_simp;first | done | with_reducible rfl)
 refine wV 4 ?_ (hy:=by rintro W' ⟨s0,s1⟩;go_simp;first | done | with_reducible rfl)
 refine wV 5 ?_ (hy:=by rintro W' ⟨s0,s1⟩;go_simp;first | done | with_reducible rfl)
 refine wV 6 ?_ (hy:=by rintro W' ⟨s0,s1⟩;go_simp;first | done | with_reducible rfl)
 refine wV 7 ?_ (hy:=by rintro W' ⟨s0,s1⟩;go_simp;first | done | with_reducible rfl)
 refine wV 8 ?_ (hy:=by rintro W' ⟨s0,s1⟩;go_simp;first | done | with_reducible rfl)
 refine wV 9 ?_ (hy:=by rintro W' ⟨s0,s1⟩;go_simp;first | done | with_reducible rfl)
 refine wV 10 ?_ (hy:=by rintro W' ⟨s0,s1⟩;go_simp;first | done | with_reducible rfl)
 try simp only [Act.put,sA1,sA2,sA3]
 refine wE 11 (fun K hK=>?_)
 ·(refine step_copy rfl (.tmp 14) (.tmp 16) 22 22 rfl 5 Tryz.underlying22 (by kernel_rfl) bb (at'*128) 128 128 w.heap.size 1 128 128 (n*128) (fun i => .int .u8 (d (i / 128) (i % 128):Int)) (fun i => .int .u8 (f i:Int)) 169 (by simp [Act.eval,Act.put]) (by simp [Act.eval,Act.put]) HB.out 128 (by decide) (fun j hj=>(HW.out (1+j) (by omega)).trans (by unfold wrV;rw [if_neg (by omega),Nat.add_sub_cancel_left])) (fun j hj=>rfl) (by omega) ?_;intro w1 hb1 hc1;rw [laid_row' ha] at hb1;have hne:w.heap.size≠bb:=(by omega);have k0:=(hc1.cell (p:=⟨w.heap.size,0,none⟩) HLT.out (by simp;exact hne)).trans h0;have HF:=Lib.hid (And.intro hb1 ((HC.out.drew.mono (L':=[bb]) (by simp)).trans hc1));clear hb1 hc1)
  refine hK.out _ _ (⟨(HF.out.2.cell (p:=⟨p,0,none⟩) HPL.out (by simp;exact HPB.out)).trans HPP.out,k0⟩) (fun hHeld=>?_)
  clear hK K
  try simp only [Act.put,sA1,sA2,sA3]
  refine wpAnyH_done (by kernel_rfl) ?_ _
  go_wp2_with fail
  go_end0
  exact ⟨rfl,HF.out.1,HF.out.2⟩
end Go.Proofs.YtkhcaclndepgbaaGreat
