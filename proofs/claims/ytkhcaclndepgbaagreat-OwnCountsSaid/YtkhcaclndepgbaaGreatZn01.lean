/- Drawn regions, operation by operation: the steps with their side conditions as defaults. No program in sight. · Small facts on worlds: which blocks a call may have changed ('Chg'). No program in sight. · Package octets: within, Put, Get, Sum, parts. · The builtin copy between rows of one-cell elements, told by functions. · Appending one element to a slice of the call's own. -/
import Derived.WalkKit
import Derived.WalkSpells
import Derived.WalkLawsBesides
import Derived.Lib.Hide
import Derived.Deep.RegionHeld
import Derived.Maps.OwnSet
import Derived.Test.YtkhcaclndepgbaaGreatProg
import Derived.Deep.QuietTactic
import Derived.BigQuiet
import Derived.RegionTactic
import Derived.StillTailTactics
import Derived.Laws.BitsAllLaws
import Derived.Laws.CopyOwn
set_option linter.unusedVariables false
set_option linter.unusedSimpArgs false
set_option maxRecDepth 100000
set_option maxHeartbeats 20000000
namespace Go.Proofs.YtkhcaclndepgbaaGreat
theorem tA1.{u} {α:Type u} {xs:List α} {i:Nat} : xs.toArray[i]?=xs[i]?:=by simp
theorem tA2.{u} {α:Type u} {a:α} {l:List α} {i:Nat} : (a::l)[i+1]?=l[i]?:=List.getElem?_cons_succ
theorem tA3.{u} {α:Type u} {a:α} {l:List α} : (a::l)[0]?=some a:=List.getElem?_cons_zero
theorem sA1.{u} {α:Type u} {xs:List α} {i:Nat} {v:α} : xs.toArray.setIfInBounds i v=(xs.set i v).toArray:=by simp
theorem sA2.{u} {α:Type u} {a b:α} {l:List α} : (a::l).set 0 b=b::l:=List.set_cons_zero
theorem sA3.{u} {α:Type u} {a b:α} {l:List α} {i:Nat} : (a::l).set (i+1) b=a::l.set i b:=List.set_cons_succ
section
variable {P:Program} {ops:Array Oper} {Q:Exit->Act->World->Prop} {md:Region.Mode} {S:World->Prop} {fuel:Nat} {listed:Array Bool} {a:Act} {w:World}
theorem wV (i:Nat) {oi:Oper} {v:Value} (h:wpAnyH P md ops Q S fuel (listed.setIfInBounds i true) (a.put oi.dst v) w)
  (hi:ops[i]?=some oi:=by (simp only [tA1,tA2,tA3];rfl)) (hg:Region.wanted oi (yielded ops a.tmps)=true:=by rfl)
  (hy:∀ w,S w->(execOp a.eval oi).run P w = .ok (.value v) w:=by (intro W' hW';go_simp;first | done | with_reducible rfl))
  (hS:S w:=by assumption) (hs:Region.noSelect ops=true:=by kernel_rfl) (hf:Region.free md ops listed i=true:=by kernel_rfl) (hr:(Region.ready md ops listed).contains i=true:=by kernel_rfl)
  (hQ:∀ c a w,Q (.panic c) (a.put oi.dst v) w->Q (.panic c) a w:=by exact fun _ _ _ h=>h):wpAnyH P md ops Q S (fuel+1) listed a w :=
 wpAnyH_take hi hs hf hr hQ (.inl ⟨hg,hy⟩) hS h
theorem wN (i:Nat) {oi:Oper} (h:wpAnyH P md ops Q S fuel (listed.setIfInBounds i true) (a.put oi.dst undef) w)
  (hi:ops[i]?=some oi:=by (simp only [tA1,tA2,tA3];rfl)) (hg:Region.wanted oi (yielded ops a.tmps)=false:=by rfl)
  (hS:S w:=by assumption) (hs:Region.noSelect ops=true:=by kernel_rfl) (hf:Region.free md ops listed i=true:=by kernel_rfl) (hr:(Region.ready md ops listed).contains i=true:=by kernel_rfl)
  (hQ:∀ c a w,Q (.panic c) (a.put oi.dst undef) w->Q (.panic c) a w:=by exact fun _ _ _ h=>h):wpAnyH P md ops Q S (fuel+1) listed a w :=
 wpAnyH_take hi hs hf hr hQ (.inr ⟨hg,rfl⟩) hS h
theorem wR (rs:List Nat) (h:AllReadyH P md ops Q S fuel listed a w rs) (hr:Region.ready md ops listed=rs:=by kernel_rfl) (hne:rs≠[]:=by simp):wpAnyH P md ops Q S (fuel+1) listed a w:=wpAnyH_ready hr hne h
theorem wC {i:Nat} {rs:List Nat} {o:Oper}
  (h:∀ K':Act->World->Prop,Shut (∀ a w,S w->(S w->wpAnyH P md ops Q S fuel (listed.setIfInBounds i true) a w)->K' a w)->if Region.wanted o (yielded ops a.tmps)=true then Oper.wp P o a w K' Q else K' (a.put o.dst undef) w)
  (hs:AllReadyH P md ops Q S fuel listed a w rs) (ho:ops[i]?=some o:=by (simp only [tA1,tA2,tA3];rfl)):AllReadyH P md ops Q S fuel listed a w (i::rs):=AllReadyH.cons ho h hs
theorem wD {i:Nat} {o:Oper}
  (h:∀ K':Act->World->Prop,Shut (∀ a w,S w->(S w->wpAnyH P md ops Q S fuel (listed.setIfInBounds i true) a w)->K' a w)->if Region.wanted o (yielded ops a.tmps)=true then Oper.wp P o a w K' Q else K' (a.put o.dst undef) w)
  (ho:ops[i]?=some o:=by (simp only [tA1,tA2,tA3];rfl)):AllReadyH P md ops Q S fuel listed a w [i]:=AllReadyH.cons ho h AllReadyH.nil
theorem wE (i:Nat) {o:Oper}
  (h:∀ K':Act->World->Prop,Shut (∀ a w,S w->(S w->wpAnyH P md ops Q S fuel (listed.setIfInBounds i true) a w)->K' a w)->if Region.wanted o (yielded ops a.tmps)=true then Oper.wp P o a w K' Q else K' (a.put o.dst undef) w)
  (ho:ops[i]?=some o:=by (simp only [tA1,tA2,tA3];rfl)) (hr:Region.ready md ops listed=[i]:=by kernel_rfl):wpAnyH P md ops Q S (fuel+1) listed a w:=wpAnyH_ready hr (by simp) (AllReadyH.cons ho h AllReadyH.nil)
end
theorem zh {p:Prop} (h:p):RowKit.Hid p:=h
theorem zA {a b:Prop} (h:a) (k:b):a/\b:=⟨h,k⟩
theorem zms.{u} {α:Type u} {a b:α}:a∈[b]↔a=b:=List.mem_singleton
theorem zgD.{u} {α:Type u} {l:List α} {i:Nat} {a:α}:l.getD i a=l[i]?.getD a:=List.getD_eq_getElem?_getD
theorem zLl {n m k:Nat} (h:n<m) (q:m<=k):n<k:=Nat.lt_of_lt_of_le h q
theorem zLt {n m k:Nat} (h:n<=m) (q:m<=k):n<=k:=Nat.le_trans h q
theorem zLr (n:Nat):n<=n:=Nat.le_refl n
theorem zal.{u} {α:Type u} {a:α} {l:List α} (m:List α) (h:a∈l):a∈l++m:=List.mem_append_left m h
theorem zar.{u} {α:Type u} {a:α} (l:List α) {m:List α} (h:a∈m):a∈l++m:=List.mem_append_right l h
theorem zco.{u} {α:Type u} (y:α) {a:α} {l:List α} (h:a∈l):a∈y::l:=List.mem_cons_of_mem y h
theorem wVa {P:Program} {ops:Array Oper} {Q:Exit->Act->World->Prop} {md:Region.Mode} {S:World->Prop} {fuel:Nat} {listed:Array Bool} {a:Act} {w:World} (i:Nat) {oi:Oper} {v:Value} (h:wpAnyH P md ops Q S fuel (listed.setIfInBounds i true) (a.put oi.dst v) w) (hi:ops[i]?=some oi:=by (simp only [tA1,tA2,tA3];rfl)) (hg:Region.wanted oi (yielded ops a.tmps)=true:=by rfl) (hy:∀ w,S w->(execOp a.eval oi).run P w=.ok (.value v) w:=by (rintro W' ⟨⟨s0,s1⟩,s2,s3⟩;go_simp;first | done | with_reducible rfl)) (hS:S w:=by assumption) (hs:Region.noSelect ops=true:=by kernel_rfl) (hf:Region.free md ops listed i=true:=by kernel_rfl) (hr:(Region.ready md ops listed).contains i=true:=by kernel_rfl) (hQ:∀ c a w,Q (.panic c) (a.put oi.dst v) w->Q (.panic c) a w:=by exact fun _ _ _ h=>h):wpAnyH P md ops Q S (fuel+1) listed a w:=wV i h hi hg hy hS hs hf hr hQ
theorem wVb {P:Program} {ops:Array Oper} {Q:Exit->Act->World->Prop} {md:Region.Mode} {S:World->Prop} {fuel:Nat} {listed:Array Bool} {a:Act} {w:World} (i:Nat) {oi:Oper} {v:Value} (h:wpAnyH P md ops Q S fuel (listed.setIfInBounds i true) (a.put oi.dst v) w) (hi:ops[i]?=some oi:=by (simp only [tA1,tA2,tA3];rfl)) (hg:Region.wanted oi (yielded ops a.tmps)=true:=by rfl) (hy:∀ w,S w->(execOp a.eval oi).run P w=.ok (.value v) w:=by (rintro W' ⟨s0,s1,s2⟩;go_simp;first | done | with_reducible rfl)) (hS:S w:=by assumption) (hs:Region.noSelect ops=true:=by kernel_rfl) (hf:Region.free md ops listed i=true:=by kernel_rfl) (hr:(Region.ready md ops listed).contains i=true:=by kernel_rfl) (hQ:∀ c a w,Q (.panic c) (a.put oi.dst v) w->Q (.panic c) a w:=by exact fun _ _ _ h=>h):wpAnyH P md ops Q S (fuel+1) listed a w:=wV i h hi hg hy hS hs hf hr hQ
theorem wVc {P:Program} {ops:Array Oper} {Q:Exit->Act->World->Prop} {md:Region.Mode} {S:World->Prop} {fuel:Nat} {listed:Array Bool} {a:Act} {w:World} (i:Nat) {oi:Oper} {v:Value} (h:wpAnyH P md ops Q S fuel (listed.setIfInBounds i true) (a.put oi.dst v) w) (hi:ops[i]?=some oi:=by (simp only [tA1,tA2,tA3];rfl)) (hg:Region.wanted oi (yielded ops a.tmps)=true:=by rfl) (hy:∀ w,S w->(execOp a.eval oi).run P w=.ok (.value v) w:=by (rintro W' ⟨s0,s1⟩;go_simp;first | done | with_reducible rfl)) (hS:S w:=by assumption) (hs:Region.noSelect ops=true:=by kernel_rfl) (hf:Region.free md ops listed i=true:=by kernel_rfl) (hr:(Region.ready md ops listed).contains i=true:=by kernel_rfl) (hQ:∀ c a w,Q (.panic c) (a.put oi.dst v) w->Q (.panic c) a w:=by exact fun _ _ _ h=>h):wpAnyH P md ops Q S (fuel+1) listed a w:=wV i h hi hg hy hS hs hf hr hQ
theorem wVd {P:Program} {ops:Array Oper} {Q:Exit->Act->World->Prop} {md:Region.Mode} {S:World->Prop} {fuel:Nat} {listed:Array Bool} {a:Act} {w:World} (i:Nat) {oi:Oper} {v:Value} (h:wpAnyH P md ops Q S fuel (listed.setIfInBounds i true) (a.put oi.dst v) w) (hi:ops[i]?=some oi:=by (simp only [tA1,tA2,tA3];rfl)) (hg:Region.wanted oi (yielded ops a.tmps)=true:=by rfl) (hy:∀ w,S w->(execOp a.eval oi).run P w=.ok (.value v) w:=by (intro W' s0;go_simp;first | done | with_reducible rfl)) (hS:S w:=by assumption) (hs:Region.noSelect ops=true:=by kernel_rfl) (hf:Region.free md ops listed i=true:=by kernel_rfl) (hr:(Region.ready md ops listed).contains i=true:=by kernel_rfl) (hQ:∀ c a w,Q (.panic c) (a.put oi.dst v) w->Q (.panic c) a w:=by exact fun _ _ _ h=>h):wpAnyH P md ops Q S (fuel+1) listed a w:=wV i h hi hg hy hS hs hf hr hQ
theorem wVe {P:Program} {ops:Array Oper} {Q:Exit->Act->World->Prop} {md:Region.Mode} {S:World->Prop} {fuel:Nat} {listed:Array Bool} {a:Act} {w:World} (i:Nat) {oi:Oper} {v:Value} (h:wpAnyH P md ops Q S fuel (listed.setIfInBounds i true) (a.put oi.dst v) w) (hi:ops[i]?=some oi:=by (simp only [tA1,tA2,tA3];rfl)) (hg:Region.wanted oi (yielded ops a.tmps)=true:=by rfl) (hy:∀ w,S w->(execOp a.eval oi).run P w=.ok (.value v) w:=by (rintro W' ⟨s0,s1,s2,s3⟩;go_simp;first | done | with_reducible rfl)) (hS:S w:=by assumption) (hs:Region.noSelect ops=true:=by kernel_rfl) (hf:Region.free md ops listed i=true:=by kernel_rfl) (hr:(Region.ready md ops listed).contains i=true:=by kernel_rfl) (hQ:∀ c a w,Q (.panic c) (a.put oi.dst v) w->Q (.panic c) a w:=by exact fun _ _ _ h=>h):wpAnyH P md ops Q S (fuel+1) listed a w:=wV i h hi hg hy hS hs hf hr hQ
theorem wVf {P:Program} {ops:Array Oper} {Q:Exit->Act->World->Prop} {md:Region.Mode} {S:World->Prop} {fuel:Nat} {listed:Array Bool} {a:Act} {w:World} (i:Nat) {oi:Oper} {v:Value} (h:wpAnyH P md ops Q S fuel (listed.setIfInBounds i true) (a.put oi.dst v) w) (hi:ops[i]?=some oi:=by (simp only [tA1,tA2,tA3];rfl)) (hg:Region.wanted oi (yielded ops a.tmps)=true:=by rfl) (hy:∀ w,S w->(execOp a.eval oi).run P w=.ok (.value v) w:=by (rintro W' ⟨s0,s1,s2,s3,s4⟩;go_simp;first | done | with_reducible rfl)) (hS:S w:=by assumption) (hs:Region.noSelect ops=true:=by kernel_rfl) (hf:Region.free md ops listed i=true:=by kernel_rfl) (hr:(Region.ready md ops listed).contains i=true:=by kernel_rfl) (hQ:∀ c a w,Q (.panic c) (a.put oi.dst v) w->Q (.panic c) a w:=by exact fun _ _ _ h=>h):wpAnyH P md ops Q S (fuel+1) listed a w:=wV i h hi hg hy hS hs hf hr hQ
theorem wVg {P:Program} {ops:Array Oper} {Q:Exit->Act->World->Prop} {md:Region.Mode} {S:World->Prop} {fuel:Nat} {listed:Array Bool} {a:Act} {w:World} (i:Nat) {oi:Oper} {v:Value} (h:wpAnyH P md ops Q S fuel (listed.setIfInBounds i true) (a.put oi.dst v) w) (hi:ops[i]?=some oi:=by (simp only [tA1,tA2,tA3];rfl)) (hg:Region.wanted oi (yielded ops a.tmps)=true:=by rfl) (hy:∀ w,S w->(execOp a.eval oi).run P w=.ok (.value v) w:=by (rintro W' ⟨s0,s1,s2⟩;have hlk:=HLK.out W' s2;go_simp;first | done | with_reducible rfl)) (hS:S w:=by assumption) (hs:Region.noSelect ops=true:=by kernel_rfl) (hf:Region.free md ops listed i=true:=by kernel_rfl) (hr:(Region.ready md ops listed).contains i=true:=by kernel_rfl) (hQ:∀ c a w,Q (.panic c) (a.put oi.dst v) w->Q (.panic c) a w:=by exact fun _ _ _ h=>h):wpAnyH P md ops Q S (fuel+1) listed a w:=wV i h hi hg hy hS hs hf hr hQ
open Go.RowKit
structure Chg (L:List Nat) (w w':World):Prop where
 os:w'.os=w.os
 tape:w'.tape=w.tape
 output:w'.output=w.output
 size:w.heap.size<=w'.heap.size
 block:∀ k,k<w.heap.size->k∉L->w'.heap[k]?=w.heap[k]?
theorem Chg.refl (L:List Nat) (w:World):Chg L w w:=⟨rfl,rfl,rfl,zLr _,fun _ _ _=>rfl⟩
theorem Chg.trans {L:List Nat} {a b c:World} (h:Chg L a b) (k:Chg L b c):Chg L a c :=
 ⟨k.os.trans h.os,k.tape.trans h.tape,k.output.trans h.output,zLt h.size k.size,
  fun i hi hn=>(k.block i (zLl hi h.size) hn).trans (h.block i hi hn)⟩
theorem Chg.mono {L L':List Nat} {w w':World} (h:Chg L w w') (hl:∀ k,k∈L->k∈L'):Chg L' w w' :=
 ⟨h.os,h.tape,h.output,h.size,fun k hk hn=>h.block k hk (fun hm=>hn (hl k hm))⟩
theorem Chg.then {L L':List Nat} {a b c:World} (h:Chg L a b) (k:Chg L' b c) (hl:∀ i,i∈L'->i∈L∨a.heap.size<=i):Chg L a c :=
 ⟨k.os.trans h.os,k.tape.trans h.tape,k.output.trans h.output,zLt h.size k.size,
  fun i hi hn=>(k.block i (zLl hi h.size) (fun hm=>by
   rcases hl i hm with h' | h'
   ·exact hn h'
   ·omega)).trans (h.block i hi hn)⟩
theorem Chg.alloc {L:List Nat} {a w:World} (h:Chg L a w) (o:Obj):Chg L a (w.alloc o) :=
 h.trans ⟨rfl,rfl,rfl,by simp,fun k hk _=>Below.heap_alloc _ _ _ hk⟩
theorem Chg.drew {L:List Nat} {a w:World} (h:Chg L a w):Chg L a w.drew:=⟨h.os,h.tape,h.output,h.size,h.block⟩
theorem Chg.drewN {L:List Nat} {a w:World} (h:Chg L a w) (n:Nat):Chg L a (w.drewN n):=⟨h.os,h.tape,h.output,h.size,h.block⟩
theorem Chg.setCell {L:List Nat} {a w:World} (h:Chg L a w) {p:Addr} (hp:p.block∈L∨a.heap.size<=p.block) (u:Value):Chg L a (w.setCell p u) :=
 ⟨h.os,h.tape,h.output,by simpa [World.setCell] using h.size,fun k hk hn=>(Below.heap_setCell _ _ _ _ (by
  rintro rfl;rcases hp with hp | hp
  ·exact hn hp
  ·omega)).trans (h.block k hk hn)⟩
theorem Chg.grown {L:List Nat} {a w w':World} {row:Option Nat} (h:Chg L a w) (hg:w.grownBy w' row) (hr:∀ k,row=some k->k∈L∨a.heap.size<=k):Chg L a w' :=
 ⟨hg.os.trans h.os,hg.tape.trans h.tape,hg.output.trans h.output,zLt h.size hg.size,fun k hk hn =>
  (hg.block k (zLl hk h.size) (fun e=>by
   rcases hr k e.symm with h' | h'
   ·exact hn h'
   ·omega)).trans (h.block k hk hn)⟩
theorem Chg.cell {L:List Nat} {w w':World} (h:Chg L w w') {p:Addr} (hp:p.block<w.heap.size) (hn:p.block∉L):w'.cell? p=w.cell? p :=
 World.cell?_of_block (w:=w) (h.block p.block hp hn)
theorem Chg.frozen {L:List Nat} {w w':World} (h:Chg L w w') {p:Addr} (hp:p.block<w.heap.size) (hn:p.block∉L):w'.frozen? p=w.frozen? p :=
 World.frozen?_of_block (w:=w) (h.block p.block hp hn)
theorem Chg.below {L:List Nat} {a w:World} (h:Chg L a w) (hl:∀ i,i∈L->a.heap.size<=i):Below a.heap.size a w :=
 ⟨h.os,h.tape,h.output,h.size,fun i hi=>h.block i hi (fun hm=>by have:=hl i hm;omega)⟩
theorem Chg.of_below {L:List Nat} {a w:World} (h:Below a.heap.size a w):Chg L a w :=
 ⟨h.os,h.tape,h.output,h.size,fun i hi _=>h.block i hi⟩
theorem zhl {w:World} {b:Nat} {o:Obj} (h:w.heap[b]?=some o):b<w.heap.size:=(Array.getElem?_eq_some_iff.1 h).1
theorem znb (w:World) (o:Obj):(w.alloc o).heap[w.heap.size]?=some o:=heap_alloc_new w o
theorem znc (w:World) (o o':Obj):((w.alloc o).alloc o').heap[w.heap.size+1]?=some o':=by
 have:=heap_alloc_new (w.alloc o) o';simpa using this
theorem znd (w:World) (o o':Obj):((w.alloc o).alloc o').heap[w.heap.size]?=some o:=by
 rw [Below.heap_alloc _ _ _ (by simp),heap_alloc_new]
theorem size_alloc' (w:World) (o:Obj):(w.alloc o).heap.size=w.heap.size+1:=by simp
theorem zcb {w:World} {b:Nat} {cs:Array Value} {T:TypeId} {z:Nat × Nat} (h:w.heap[b]?=some (.cells cs T z)) (i:Nat):w.cell? ⟨b,i,none⟩=cs[i]?:=by
 simp [World.cell?,h]
theorem zfb {w:World} {b:Nat} {cs:Array Value} {T:TypeId} (h:w.heap[b]?=some (.cells cs T (0,0))) (i:Nat):w.frozen? ⟨b,i,none⟩=false:=by
 simp [World.frozen?,h]
theorem zsb {w:World} {b:Nat} {cs:Array Value} {T:TypeId} {z:Nat × Nat} (h:w.heap[b]?=some (.cells cs T z)) (i:Nat) (v:Value) :
  (w.setCell ⟨b,i,none⟩ v).heap[b]?=some (.cells (cs.setIfInBounds i v) T z):=by
 simp [World.setCell,Array.getElem?_modify,h]
theorem zso {w:World} {b k:Nat} (i:Nat) (v:Value) (h:k≠b):(w.setCell ⟨b,i,none⟩ v).heap[k]?=w.heap[k]?:=Below.heap_setCell _ _ _ _ h
def zrow (n:Nat) (z:Value):Array Value:=Array.replicate n z
theorem madeCells_one (z:Value) (n:Nat):madeCells #[z] (n*1)=zrow n z:=by
 apply Array.ext
 ·simp [madeCells,zrow]
 ·intro i h1 h2
  simp [madeCells,zrow,Nat.mod_one]
theorem run_make1 {P:Program} (t e:TypeId) {z:Value} {bytes:Nat} (ht:P.underlying t=some (.slice e)) (hi:(P.info? e).map (fun i=>(i.zero,i.size,i.bytes))=some (some z,1,bytes)) (hz:z.cells=#[z])
  (kl kc:IntKind) (n:Nat) (hb:bytes*n<=281474976710656) (h63:n<=9223372036854775807) (w:World) :
  (Instr.makeSlice t (.int kl (n:Int)) (.int kc (n:Int))).run P w = .ok (.slice (some ⟨w.heap.size,0,none⟩) n n) (w.alloc (.cells (zrow n z) e)):=by
 obtain ⟨i,h1,h2,h3,h4⟩:=info_parts hi
 have hb':(i.bytes:Int)*(n:Int)<=281474976710656:=by
  have h:((i.bytes*n:Nat):Int)<=281474976710656:=by rw [h4];omega
  rwa [Int.natCast_mul] at h
 have hr:=run_make (P:=P) w t e i z ht h1 h2 kl kc n n (by omega) (by omega) hb' (by omega);simp only [Int.toNat_natCast,hz,h3,madeCells_one] at hr;exact hr
def u8s (n:Nat) (f:Nat->Nat):Array Value:=Array.ofFn (n:=n) fun i => .int .u8 ((f i:Nat):Int)
theorem u8s_get {n:Nat} {f:Nat->Nat} {i:Nat} (h:i<n):(u8s n f)[i]?=some (.int .u8 ((f i:Nat):Int)):=by
 simp [u8s,h]
theorem u8s_set {n:Nat} {f:Nat->Nat} {i v:Nat} (h:i<n):(u8s n f).setIfInBounds i (.int .u8 (v:Int))=u8s n (fun j=>if j=i then v else f j):=by
 apply Array.ext_getElem?;intro j;by_cases hj:j<n
 ·rw [u8s_get hj,Array.getElem?_setIfInBounds]
  by_cases e:j=i
  ·subst e;simp [u8s,h]
  ·rw [if_neg (fun q=>e q.symm),u8s_get hj];simp [e]
 ·simp [u8s,hj]
theorem within_yes (n at' size:Nat) (w:World) (h1:1<=size) (h2:size<=8) (h3:at'+size<=n) (h4:n<=9007199254740992) :
  Calls Tryz.prog 162 #[.int .i64 (n:Int),.int .i64 (at':Int),.int .i64 (size:Int)] w fun e w'=>e = .returned (.bool true)/\w=w':=by
 have a1:(1:Int)<=(size:Int):=by omega
 have a2:(size:Int)<=8:=by omega
 have a3:(0:Int)<=(at':Int):=by omega
 have a4:(at':Int)<=(n:Int) - (size:Int):=by omega
 go_enter Tryz.func162,Tryz.ntmps162
 go_wp2
 go_ret;exact ⟨by simp,rfl⟩
def byteAt (v k:Nat):Nat:=v / 256 ^ k % 256
def putK (f:Nat->Nat) (p s v k i:Nat):Nat:=if p+s - k<=i/\i<p+s then byteAt v (p+s - 1 - i) else f i
theorem putK_zero (f:Nat->Nat) (p s v:Nat):putK f p s v 0=f:=by
 funext i
 unfold putK;rw [if_neg (by omega)]
theorem putK_succ (f:Nat->Nat) {p s k q:Nat} (v:Nat) (hk:k<s) (hq:q=p+s - 1 - k):putK f p s v (k+1)=fun i=>if i=q then byteAt v k else putK f p s v k i:=by
 funext i
 unfold putK;by_cases e:i=q
 ·rw [if_pos e,if_pos (by omega)]
  congr 1;omega
 ·rw [if_neg e]
  by_cases e2:p+s - k<=i/\i<p+s
  ·rw [if_pos e2,if_pos (by omega)]
  ·rw [if_neg e2,if_neg (by omega)]
theorem shr_byte (v k:Nat):IntKind.u8.wrap ((v:Int) / 2 ^ (8*k))=((byteAt v k:Nat):Int):=by
 have e:(2:Int) ^ (8*k)=((256 ^ k:Nat):Int):=by
  rw [Int.pow_mul];simp
 unfold byteAt;rw [e];simp [IntKind.wrap,IntKind.signed,IntKind.bits]
def putF (f:Nat->Nat) (p s v i:Nat):Nat:=if p<=i/\i<p+s then byteAt v (p+s - 1 - i) else f i
theorem putK_all (f:Nat->Nat) (p s v:Nat):putK f p s v s=putF f p s v:=by
 funext i
 unfold putK putF;rw [Nat.add_sub_cancel]
theorem put_at {w:World} {b N:Nat} {f:Nat->Nat} (hb:w.heap[b]?=some (.cells (u8s N f) 5 (0,0))) (off len cap at' size v:Nat) (hlen:off+len<=N) (hN:N<=100000) (h1:1<=size) (h2:size<=8) (hat:at'+size<=len) (hv:v<256 ^ size) :
  Calls Tryz.prog 120 #[.slice (some ⟨b,off,none⟩) len cap,.int .i64 (at':Int),.int .i64 (size:Int),.int .u64 (v:Int)] w fun e w' =>
   e = .returned (.bool true)/\w'.heap[b]?=some (.cells (u8s N (putF f (off+at') size v)) 5 (0,0))/\Chg [b] w w':=by
 have HB:=zh hb
 have hsh:size<8->(v:Int) / 2 ^ (8*size)=0:=fun _=>by
  have e:(256:Nat) ^ size=2 ^ (8*size):=by rw [show (256:Nat)=2 ^ 8 from rfl,<- Nat.pow_mul]
  rw [e] at hv;have:((v / 2 ^ (8*size):Nat):Int)=0:=by rw [Nat.div_eq_of_lt hv];rfl
  simpa using this
 clear hb;have hcase:size<8∨size=8:=by omega
 rcases hcase with hs | hs
 case' inl =>
  have e0:=hsh hs;have hs':(size:Int)<8:=by omega
  clear hsh
 case' inr =>
  have hs':¬ (size:Int)<8:=by omega
  clear hsh
 all_goals
  have Hhs:=zh hs;have Hhv:=zh hv;clear hs hv;go_enter Tryz.func120,Tryz.ntmps120;go_wp2_with fail;refine (within_yes len at' size _ h1 h2 hat (by omega)).mono ?_;rintro e w' ⟨rfl,rfl⟩;go_wp2_with fail
  go_loopw [28] (fun s wr=>∃ k:Nat,k<=size/\s = .int .i64 (k:Int)/\wr.heap[b]?=some (.cells (u8s N (putK f (off+at') size v k)) 5 (0,0))/\Chg [b] w wr) (fun s _=>size - (intOf s).toNat)
  case atStart=>exact ⟨0,Nat.zero_le _,rfl,by rw [putK_zero];exact HB.out,Chg.refl _ _⟩
  case round =>
   obtain ⟨k,hk,rfl,hBk,hCk⟩:=hrel;have HBk:=zh hBk;have HCk:=zh hCk;clear hBk hCk;by_cases hlk:k<size
   ·obtain ⟨q,hq⟩:∃ q:Nat,at'+size - 1 - k=q:=⟨_,rfl⟩
    have eq:(at':Int)+(size:Int) - 1 - (k:Int)=(q:Int):=by omega
    have hqN:off+q<N:=by omega
    have cq:=(zcb HBk.out (off+q)).trans (u8s_get hqN);have fq:=zfb HBk.out (off+q);have ew:IntKind.u8.wrap ((v:Int) / 2 ^ (8*k))=((byteAt v k:Nat):Int):=shr_byte v k;have q0:(0:Int)<=(q:Int):=by omega
    have q1:(q:Int)<(len:Int):=by omega
    have E:=zh (putK_succ f v hlk (show off+q=off+at'+size - 1 - k by omega));have Hq:=zh hq;clear hq;go_wp2_with fail
    go_roundw
    case rel =>
     refine ⟨k+1,by omega,by go_num,?_,HCk.out.setCell (.inl (by simp)) _⟩;rw [zsb HBk.out,u8s_set hqN,E.out]
    case measure=>simp [intOf];omega
   ·obtain rfl:k=size:=by omega
    go_wp2_with fail;go_ret;exact ⟨rfl,by rw [<- putK_all];exact HBk.out,HCk.out⟩
def num (f:Nat->Nat) (p:Nat):Nat->Nat
 | 0=>0
 | k+1=>num f p k*256+f (p+k)
theorem num_lt {f:Nat->Nat} {p:Nat} : ∀ {k:Nat},(∀ i,i<k->f (p+i)<=255)->num f p k<256 ^ k
 | 0,_=>by simp [num]
 | k+1,h=>by
  have:=num_lt (k:=k) (fun i hi=>h i (by omega));have h2:=h k (by omega);unfold num;rw [Nat.pow_succ];omega
theorem or_byte (a x:Nat) (ha:a<72057594037927936) (hx:x<=255):bits .or .u64 (IntKind.u64.wrap ((a:Int)*256)) (x:Int)=((a*256+x:Nat):Int):=by
 have e:IntKind.u64.wrap ((a:Int)*256)=((a*256:Nat):Int):=by
  rw [IntKind.wrap_u64];omega
 rw [e,u64_or_nat (a*256) x (by omega) (by omega)]
 have h:a*256 ||| x=a*256+x:=by
  have:a*256=a <<< 8:=by rw [Nat.shiftLeft_eq]
  rw [this,Nat.shiftLeft_add_eq_or_of_lt (by omega)]
 rw [h]
def BytesAt (w:World) (b off n:Nat) (f:Nat->Nat):Prop:=∀ i,i<n->w.cell? ⟨b,off+i,none⟩=some (.int .u8 (f i:Int))/\f i<=255
theorem BytesAt.chg {w w':World} {b off n:Nat} {f:Nat->Nat} {L:List Nat} (h:BytesAt w b off n f) (c:Chg L w w') (hb:b∉L):BytesAt w' b off n f:=fun i hi=>by
 obtain ⟨h1,h2⟩:=h i hi;exact ⟨(c.cell (p:=⟨b,off+i,none⟩) (World.block_lt_of_cell? w _ h1) hb).trans h1,h2⟩
theorem BytesAt.sub {w:World} {b off n:Nat} {f:Nat->Nat} (h:BytesAt w b off n f) {a m:Nat} (hm:a+m<=n):BytesAt w b (off+a) m (fun i=>f (a+i)):=fun i hi=>by
 have:=h (a+i) (by omega);rw [<- Nat.add_assoc] at this;exact this
theorem BytesAt.of_block {w:World} {b N:Nat} {f:Nat->Nat} (h:w.heap[b]?=some (.cells (u8s N f) 5 (0,0))) (hf:∀ i,i<N->f i<=255) {off n:Nat} (hn:off+n<=N):BytesAt w b off n (fun i=>f (off+i)):=fun i hi =>
 ⟨(zcb h _).trans (u8s_get (by omega)),hf _ (by omega)⟩
theorem get_num {w:World} {b off len cap:Nat} {f:Nat->Nat} (hb:BytesAt w b off len f) (hcap:len<=cap) (hN:cap<=9223372036854775807) (hlen:len<=9007199254740992) (at' size:Nat) (h1:1<=size) (h2:size<=8) (hat:at'+size<=len) :
  Calls Tryz.prog 160 #[.slice (some ⟨b,off,none⟩) len cap,.int .i64 (at':Int),.int .i64 (size:Int)] w fun e w'=>e = .returned (.tuple #[.int .u64 (num f at' size:Int),.bool true])/\w=w':=by
 have HB:=zh hb;clear hb;have a0:(0:Int)<=(at':Int):=by omega
 have a1:(at':Int)<=(at':Int)+(size:Int):=by omega
 have a2:(at':Int)+(size:Int)<=(cap:Int):=by omega
 have es:at'+size - at'=size:=by omega
 go_enter Tryz.func160,Tryz.ntmps160;go_wp2_with fail;refine (within_yes len at' size _ h1 h2 hat (by omega)).mono ?_;rintro e w' ⟨rfl,rfl⟩;go_wp2_with fail
 go_loop [8,24] (fun s i=>∃ k:Nat,k<=size/\i = .int .i64 (k:Int)/\s = .int .u64 (num f at' k:Int)) (fun _ i=>size - (intOf i).toNat)
 case atStart=>exact ⟨0,Nat.zero_le _,rfl,rfl⟩
 case round =>
  obtain ⟨k,hk,rfl,rfl⟩:=hrel;by_cases hlk:k<size
  ·obtain ⟨c,hf⟩:=HB.out (at'+k) (by omega)
   rw [<- Nat.add_assoc] at c;have i0:(0:Int)<=(k:Int):=by omega
   have i1:(k:Int)<(size:Int):=by omega
   have E:=zh (show num f at' (k+1)=num f at' k*256+f (at'+k) from rfl);have hl:num f at' k<256 ^ k:=num_lt fun i hi=>(HB.out (at'+i) (by omega)).2;have hp:256 ^ k<=256 ^ 7:=Nat.pow_le_pow_right (by omega) (by omega);rw [show (256:Nat) ^ 7=72057594037927936 by decide] at hp;have O:=zh (or_byte (num f at' k) (f (at'+k)) (by omega) hf);clear hl hp;go_wp2_with fail
   go_round
   case rel=>exact ⟨k+1,by omega,by go_num,by rw [E.out,O.out]⟩
   case measure=>simp [intOf];omega
  ·obtain rfl:k=size:=by omega
   go_wp2_with fail
   go_ret2
   exact ⟨rfl,rfl⟩
def sumB (f:Nat->Nat):Nat->Nat
 | 0=>1
 | k+1=>(31*sumB f k+f k+7) % 4294967291
theorem sumB_lt (f:Nat->Nat):∀ k,sumB f k<4294967291
 | 0=>by simp [sumB]
 | k+1=>by unfold sumB;exact Nat.mod_lt _ (by omega)
theorem sum_at {w:World} {b off len cap:Nat} {f:Nat->Nat} (hb:BytesAt w b off len f) (hN:len<=9007199254740992) :
  Calls Tryz.prog 164 #[.slice (some ⟨b,off,none⟩) len cap] w fun e w'=>e = .returned (.int .u32 (sumB f len:Int))/\w=w':=by
 have HB:=zh hb;clear hb;go_enter Tryz.func164,Tryz.ntmps164;go_wp2_with fail
 go_loop [3,8] (fun s i=>∃ k:Nat,k<=len/\i = .int .i64 (k:Int)/\s = .int .u64 (sumB f k:Int)) (fun _ i=>len - (intOf i).toNat)
 case atStart=>exact ⟨0,Nat.zero_le _,rfl,rfl⟩
 case round =>
  obtain ⟨k,hk,rfl,rfl⟩:=hrel;have hs:=sumB_lt f k;by_cases hlk:k<len
  ·obtain ⟨c,hf⟩:=HB.out k hlk
   have i0:(0:Int)<=(k:Int):=by omega
   have i1:(k:Int)<(len:Int):=by omega
   have E:=zh (show sumB f (k+1)=(31*sumB f k+f k+7) % 4294967291 from rfl);go_wp2_with fail
   go_round
   case rel=>exact ⟨k+1,by omega,by go_num,by rw [E.out];congr 1⟩
   case measure=>simp [intOf];omega
  ·obtain rfl:k=len:=by omega
   go_wp2_with fail;go_ret;exact ⟨by congr 1,rfl⟩
def fnRow (N:Nat) (V:Nat->Value):Array Value:=Array.ofFn (n:=N) fun i=>V i
def laid (V S:Nat->Value) (off m i:Nat):Value:=if off<=i/\i<off+m then S (i - off) else V i
theorem laid_row {N off m:Nat} (V S:Nat->Value) (h:off+m<=N) :
  ((fnRow N V).toList.take off++((List.range m).map S++(fnRow N V).toList.drop (off+((List.range m).map S).length))).toArray=fnRow N (laid V S off m):=by
 apply Array.ext_getElem?;intro j;simp only [tA1,fnRow,laid,List.length_map,List.length_range];have ht:((Array.ofFn (n:=N) fun i=>V i).toList.take off).length=off:=by simp;omega
 by_cases h1:j<off
 ·rw [List.getElem?_append_left (by rw [ht];exact h1),List.getElem?_take,if_pos h1]
  have hj:j<N:=by omega
  simp [hj];omega
 ·rw [List.getElem?_append_right (by rw [ht];omega),ht]
  by_cases h2:j - off<m
  ·rw [List.getElem?_append_left (by simpa using h2)]
   have hj:j<N:=by omega
   simp [hj,h2];intro h3;have:=h3 (by omega);omega
  ·rw [List.getElem?_append_right (by simp;omega)]
   simp only [List.length_map,List.length_range,List.getElem?_drop];by_cases hj:j<N
   ·have e:off+m+(j - off - m)=j:=by omega
    simp [hj,e];omega
   ·have e:¬ off+m+(j - off - m)<N:=by omega
    simp [hj];omega
theorem wpList_copy_fn {P:Program} {w:World} {ops:Array Oper} {rest:List Oper} {o:Oper} {a:Act} {Q:Exit->Act->World->Prop} (hgd:o.guard=none) (d s:Operand) (dT sT:TypeId)
  (ho:o.op = .call { callee := .builtin .copy,args:=#[d,s],argTypes:=#[dT,sT] }) (elem:TypeId) (hu:P.underlying dT=some (.slice elem)) (hsz:(P.info? elem).map (·.size)=some 1)
  (g off dLen dCap:Nat) (sp:Option Addr) (sLen sCap:Nat) (hd:a.eval d = .slice (some ⟨g,off,none⟩) dLen dCap) (hs:a.eval s = .slice sp sLen sCap)
  (N:Nat) (V:Nat->Value) (t:TypeId) (hg:w.heap[g]?=some (.cells (fnRow N V) t (0,0))) (m:Nat) (hm:m=Nat.min sLen dLen) (S:Nat->Value)
  (hsrc:0<m->∃ b o,sp=some ⟨b,o,none⟩/\∀ j,j<m->w.cell? ⟨b,o+j,none⟩=some (S j)) (h1:∀ j,j<m->(S j).oneCell'=true) (hfit:off+m<=N)
  (h:∀ w',Hid (w'.heap[g]?=some (.cells (fnRow N (laid V S off m)) t (0,0)))->Chg [g] w w'->wpList P ops Q rest (a.put o.dst (goInt m)) w') :
  wpList P ops Q (o::rest) a w:=by
 by_cases h0:m=0
 ·subst h0
  refine wpList_copy_nothing hgd d s dT sT ho elem hu hsz _ sp dLen dCap sLen sCap hd hs hm.symm ?_;refine h w (show _=_ from ?_) (Chg.refl _ _);rw [hg];have:laid V S off 0=V:=by funext i;unfold laid;rw [if_neg (by omega)]
  rw [this]
 ·obtain ⟨b,q,rfl,hc⟩:=hsrc (by omega)
  have hl:((List.range m).map S).length=m:=by simp
  have hw:=wpList_copy_own (w:=w) (Q:=Q) (rest:=rest) (ops:=ops) hgd d s dT sT ho elem hu hsz g off dLen dCap ⟨b,q,none⟩ sLen sCap hd hs (fnRow N V) t hg ((List.range m).map S) (by rw [hl,hm])
   (fun j v hj=>by
    simp only [List.getElem?_map] at hj;by_cases hlt:j<m
    ·simp [hlt] at hj
     subst hj;have e:(⟨b,q,none⟩:Addr).add j=⟨b,q+j,none⟩:=by unfold Addr.add;split <;> simp_all
     rw [e];exact hc j hlt
    ·simp [hlt] at hj)
   (by rw [hl];simp [fnRow];exact hfit)
   (fun v hv=>by obtain ⟨j,hj,rfl⟩:=List.mem_map.1 hv;exact h1 j (by simpa using hj))
  refine hw ?_;rw [hl];refine h _ (show _=_ from ?_) ⟨rfl,rfl,rfl,by simp [World.setRow],fun k hk hn=>setRow_other w g k _ (by simpa using hn)⟩;have hr:=laid_row V S hfit;rw [hl] at hr;rw [hr];exact setRow_heap w g _ _ t _ hg
theorem wpList_app1 {P:Program} (w:World) {ops:Array Oper} {rest:List Oper} {o:Oper} {a:Act} {Q:Exit->Act->World->Prop} (hgd:o.guard=none) (s x:Operand) (t:TypeId)
  (ho:o.op = .call { callee := .builtin .append,args:=#[s,x],argTypes:=#[t,t] })
  (base:Nat) (e:TypeId) (z:Value) (bytes:Nat) (ht:P.underlying t=some (.slice e)) (hi:(P.info? e).map (fun i=>(i.zero,i.size,i.bytes))=some (some z,1,bytes)) (hzs:z.cells.size=1)
  (v:Value) (n:Nat) (xs:List Value) (hs:a.eval s=v) (hown:w.ownsRow base e 1 v n xs)
  (b c:Nat) (u:Value) (hx:a.eval x = .slice (some ⟨b,0,none⟩) 1 c) (hc:w.cell? ⟨b,0,none⟩=some u) (hu:u.oneCell'=true) (hn:n<=1000000) (hb8:bytes<=64) (hbase:base<=w.heap.size)
  (h:∀ v' w',w'.ownsRow base e 1 v' (n+1) (xs++[u])->w.grownBy w' v.ownBlock->wpList P ops Q rest (a.put o.dst v') w'):wpList P ops Q (o::rest) a w:=by
 obtain ⟨i,h1,h2,h3,h4⟩:=info_parts hi;refine wpList_append_own w hgd s x t ho base e i z 1 bytes ht h1 h2 h3 h4 hzs (by decide) v n xs hs hown ⟨b,0,none⟩ 1 c [u] hx rfl ?_ ?_ ?_ ?_ hbase fun v' w' a1 a2 _=>h v' w' a1 a2
 ·intro j q hj
  match j,hj with
  | 0,hj =>
   simp only [tA3,Option.some.injEq] at hj;subst hj;simpa [Addr.add] using hc
 ·intro q hq
  simp only [zms] at hq;subst hq;exact hu
 ·unfold maxLen;omega
 ·have:(n+1)*bytes<=(n+1)*64:=Nat.mul_le_mul_left _ hb8
  omega
end Go.Proofs.YtkhcaclndepgbaaGreat
