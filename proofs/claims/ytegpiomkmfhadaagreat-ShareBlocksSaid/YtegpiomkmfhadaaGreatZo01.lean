/- Drawn regions, operation by operation: -/
import Derived.WalkKit
import Derived.WalkSpells
import Derived.WalkLawsBesides
import Derived.Lib.Hide
import Derived.Deep.RegionHeld
import Derived.Maps.OwnSet
import Derived.Test.YtegpiomkmfhadaaGreatProg
import Derived.Deep.QuietTactic
import Derived.BigQuiet
import Derived.RegionTactic
import Derived.StillTailTactics
import Derived.Laws.BitsAllLaws
import Derived.Laws.CopyOwn
set_option linter.all false
set_option maxRecDepth 100000
set_option maxHeartbeats 20000000
namespace Go.Proofs.YtegpiomkmfhadaaGreat
def Hd (p:Prop):Prop:=p
theorem Hd.o {p:Prop} (h:Hd p):p:=h
theorem zh {p:Prop} (h:p):Hd p:=h
theorem zo {P:Prop} (h:P:=by omega):P:=h
theorem zq {A P:Prop} (a:Hd A) (h:A->P:=by intro _;omega):P:=h a
theorem zaa {P:Prop} (h:P:=by simp):P:=h
theorem zab {P:Prop} (h:P:=by kernel_rfl):P:=h
theorem zac {P:Prop} (h:P:=by go_num):P:=h
theorem zad {P:Prop} (h:P:=by simp only [zms];omega):P:=h
theorem zae {P:Prop} (h:P:=by simp;omega):P:=h
theorem zaf {P:Prop} (h:P:=by decide):P:=h
theorem zag {P:Prop} (h:P:=by simp [Act.eval,Act.put]):P:=h
theorem zah {P:Prop} (h:P:=by have:=HP.2.2.2;simp only [ya,yk,or_false,not_or];exact ⟨fun e=>this.2.2.2.1.2.2.2 e.symm,fun e=>this.2.2.2.2.1.2.2 e.symm,fun e=>this.2.2.2.2.2.1.2 e.symm,HB.1.c.ne⟩):P:=h
theorem zai {P:Prop} (h:P:=by simp [results,Tryz.results43,go_sem,l4,x0,x1,x2]):P:=h
theorem zaj {P:Prop} (h:P:=by rw [ZT];omega):P:=h
theorem zak {P:Prop} (h:P:=by simp only [zms];have:=DU.o;omega):P:=h
theorem zam {P:Prop} (h:P:=by unfold maxLen;omega):P:=h
theorem zan {P:Prop} (h:P:=by simp [Bm.L]):P:=h
theorem zao {P:Prop} (h:P:=by simp only [ya,yk,or_false,not_or];omega):P:=h
theorem zap {P:Prop} (h:P:=by unfold xj.cellV;rw [if_neg zo,if_neg zo,if_pos zo,yA]):P:=h
theorem zaq {P:Prop} (h:P:=by simp [results,Tryz.results137,go_sem]):P:=h
theorem zas {P:Prop} (h:P:=by simp [results,Tryz.results43,go_sem,l1,x0,x1,x2]):P:=h
theorem zat {P:Prop} (h:P:=by unfold xA;omega):P:=h
theorem zau {P:Prop} (h:P:=by assumption):P:=h
theorem zav {P:Prop} (h:P:=by simp [nd]):P:=h
theorem zaw {P:Prop} (h:P:=by rw [zy Gw];exact hr):P:=h
theorem zax {P:Prop} (h:P:=by simp +contextual):P:=h
theorem zay {P:Prop} (h:P:=by simp [BU,hs]):P:=h
theorem zaz {P:Prop} (h:P:=by rw [gg.good.n,g.good.n]):P:=h
theorem zaA {P:Prop} (h:P:=by split <;> omega):P:=h
theorem zaB {P:Prop} (h:P:=by rw [<- HQ.2];exact SG):P:=h
theorem zaC {P:Prop} (h:P:=by simp [Value.oneCell']):P:=h
theorem zaD {P:Prop} (h:P:=by simpa using hi):P:=h
def ya:=@List.mem_cons
def yc:=@World.block_lt_of_cell?
def ye:=@List.mem_range
def yg:=@Nat.zero_le
def yj:=@Option.some.inj
def yk:=@List.not_mem_nil
def ym:=@List.length_append
def yn:=@Nat.zero_add
def yo:=@Array.getElem?_eq_none
def yq:=@decide_eq_true
def yt:=@List.getElem?_eq_getElem
def yu:=@List.length_cons
def yv:=@IntWalk.i64_in
def yw:=@List.mem_map
def yx:=@List.mem_append
def yy:=@List.nil_append
def yz:=@Int.toNat_natCast
def yA:=@Nat.add_sub_cancel_left
def yB:=@Array.getElem?_toList
def yC:=@decide_eq_false
def yD:=@beq_eq_false_iff_ne
def yE:=@List.append_toArray
def yF:=@List.getElem?_append_right
def yG:=@List.mem_filter
def yH:=@List.mem_flatMap
def yI:=@List.getElem?_append_left
def yJ:=@List.mem_cons_self
def yK:=@List.cons_append
def yL:=@Array.getElem?_eq_some_iff
def yM:=@Array.ext_getElem?
def yO:=@World.ownsRow_nil
def yP:=@Array.getElem?_setIfInBounds
def yQ:=@List.all_eq_true
def yR:=@Option.isSome_iff_exists
def yS:=@Nat.mod_eq_of_lt
def yT:=@List.getElem?_map
def yU:=@List.map_congr_left
def yV:=@List.length_take
def yW:=@World.cell?_of_block
def yX:=@List.length_map
def yY:=@List.append_nil
def yZ:=@List.length_singleton
def y7:=@List.filter_cons_of_neg
def za:=@List.getElem?_range
def ze:=@List.take_of_length_le
def zf:=@List.append_assoc
def zg:=@Nat.add_sub_cancel
def zi:=@List.flatMap_append
def zn:=@List.range_succ
def zt:=@List.getElem_mem
abbrev zS (b n c:Nat):Value:=.slice (some ⟨b,0,none⟩) n c
abbrev zP (b:Nat):Value:=.pointer (some ⟨b,0,none⟩)
abbrev zI (n:Nat):Value:=.int .i64 (n:Int)
abbrev zU (n:Nat):Value:=.int .u64 (n:Int)
abbrev zF:=Nat->Nat
abbrev zL:=List (Nat × Nat)
abbrev zC:=Calls Tryz.prog
end Go.Proofs.YtegpiomkmfhadaaGreat
namespace Go.Proofs.YtegpiomkmfhadaaGreat
variable {oi:Oper} {v z u x y:Value} {i n m k fuel b q N off len cap:Nat} {P:Program} {w w' c:World} {ops:Array Oper} {Q:Exit->Act->World->Prop} {md:Region.Mode} {S:World->Prop} {listed:Array Bool} {a:Act} {L L':List Nat} {p:Addr} {cs:Array Value} {f:Nat->Nat} {rest:List Oper}
theorem tA1.{u} {α:Type u} {xs:List α} {i:Nat} : xs.toArray[i]?=xs[i]?:=by simp
theorem tA2.{u} {α:Type u} {a:α} {l:List α} {i:Nat} : (a::l)[i+1]?=l[i]?:=List.getElem?_cons_succ
theorem tA3.{u} {α:Type u} {a:α} {l:List α} : (a::l)[0]?=some a:=List.getElem?_cons_zero
theorem sA1.{u} {α:Type u} {xs:List α} {i:Nat} {v:α} : xs.toArray.setIfInBounds i v=(xs.set i v).toArray:=by simp
theorem sA2.{u} {α:Type u} {a b:α} {l:List α} : (a::l).set 0 b=b::l:=List.set_cons_zero
theorem sA3.{u} {α:Type u} {a b:α} {l:List α} {i:Nat} : (a::l).set (i+1) b=a::l.set i b:=List.set_cons_succ
section
variable {P:Program} {ops:Array Oper} {Q:Exit->Act->World->Prop} {md:Region.Mode} {S:World->Prop} {fuel:Nat} {listed:Array Bool} {a:Act} {w:World}
theorem wV (i:Nat) (h:wpAnyH P md ops Q S fuel (listed.setIfInBounds i true) (a.put oi.dst v) w)
  (hi:ops[i]?=some oi:=by (simp only [tA1,tA2,tA3];rfl)) (hg:Region.wanted oi (yielded ops a.tmps)=true:=by rfl)
  (hy:∀ w,S w->(execOp a.eval oi).run P w = .ok (.value v) w:=by (intro W' Sj;go_simp;first | done | with_reducible rfl))
  (hS:S w:=by assumption) (hs:Region.noSelect ops=true:=by kernel_rfl) (hf:Region.free md ops listed i=true:=by kernel_rfl) (hr:(Region.ready md ops listed).contains i=true:=by kernel_rfl)
  (hQ:∀ c a w,Q (.panic c) (a.put oi.dst v) w->Q (.panic c) a w:=by exact fun _ _ _ h=>h):wpAnyH P md ops Q S (fuel+1) listed a w :=
 wpAnyH_take hi hs hf hr hQ (.inl ⟨hg,hy⟩) hS h
theorem wN (i:Nat) (h:wpAnyH P md ops Q S fuel (listed.setIfInBounds i true) (a.put oi.dst undef) w)
  (hi:ops[i]?=some oi:=by (simp only [tA1,tA2,tA3];rfl)) (hg:Region.wanted oi (yielded ops a.tmps)=false:=by rfl)
  (hS:S w:=by assumption) (hs:Region.noSelect ops=true:=by kernel_rfl) (hf:Region.free md ops listed i=true:=by kernel_rfl) (hr:(Region.ready md ops listed).contains i=true:=by kernel_rfl)
  (hQ:∀ c a w,Q (.panic c) (a.put oi.dst undef) w->Q (.panic c) a w:=by exact fun _ _ _ h=>h):wpAnyH P md ops Q S (fuel+1) listed a w :=
 wpAnyH_take hi hs hf hr hQ (.inr ⟨hg,rfl⟩) hS h
theorem wR (rs:List Nat) (h:AllReadyH P md ops Q S fuel listed a w rs) (hr:Region.ready md ops listed=rs:=by kernel_rfl) (BU:rs≠[]:=by simp):wpAnyH P md ops Q S (fuel+1) listed a w:=wpAnyH_ready hr BU h
theorem wC {rs:List Nat} {o:Oper}
  (h:∀ K':Act->World->Prop,Shut (∀ a w,S w->(S w->wpAnyH P md ops Q S fuel (listed.setIfInBounds i true) a w)->K' a w)->if Region.wanted o (yielded ops a.tmps)=true then Oper.wp P o a w K' Q else K' (a.put o.dst undef) w)
  (hs:AllReadyH P md ops Q S fuel listed a w rs) (ho:ops[i]?=some o:=by (simp only [tA1,tA2,tA3];rfl)):AllReadyH P md ops Q S fuel listed a w (i::rs):=AllReadyH.cons ho h hs
theorem wD {o:Oper}
  (h:∀ K':Act->World->Prop,Shut (∀ a w,S w->(S w->wpAnyH P md ops Q S fuel (listed.setIfInBounds i true) a w)->K' a w)->if Region.wanted o (yielded ops a.tmps)=true then Oper.wp P o a w K' Q else K' (a.put o.dst undef) w)
  (ho:ops[i]?=some o:=by (simp only [tA1,tA2,tA3];rfl)):AllReadyH P md ops Q S fuel listed a w [i]:=AllReadyH.cons ho h AllReadyH.nil
theorem wE (i:Nat) {o:Oper}
  (h:∀ K':Act->World->Prop,Shut (∀ a w,S w->(S w->wpAnyH P md ops Q S fuel (listed.setIfInBounds i true) a w)->K' a w)->if Region.wanted o (yielded ops a.tmps)=true then Oper.wp P o a w K' Q else K' (a.put o.dst undef) w)
  (ho:ops[i]?=some o:=by (simp only [tA1,tA2,tA3];rfl)) (hr:Region.ready md ops listed=[i]:=by kernel_rfl):wpAnyH P md ops Q S (fuel+1) listed a w:=wpAnyH_ready hr (by simp) (AllReadyH.cons ho h AllReadyH.nil)
end
theorem zE.{u} {α:Sort u} (a:α):∃ x,x=a:=⟨a,rfl⟩
theorem zu {P Q:Prop} (q:Q) (h:Q->P:=by intro q;(try simp only [Act.put,sA1,sA2,sA3]);exact q):P:=h q
theorem zm {f:Nat} {a:Array Value} {R Q:Ending->World->Prop} {A:Ending} {v:World} (c:Calls P f a w R) (q:Q A v) (h:∀ e w',R e w'->e=A/\w'=v:=by (first | exact fun _ _ h=>h | exact fun _ _ h=>⟨h.1,h.2.symm⟩)):Calls P f a w Q:=c.mono fun e w' k=>by obtain ⟨rfl,rfl⟩:=h e w' k;exact q
theorem zA {a b:Prop} (h:a) (k:b):a/\b:=⟨h,k⟩
theorem zms.{u} {α:Type u} {a b:α}:a∈[b]↔a=b:=List.mem_singleton
theorem zgD.{u} {α:Type u} {l:List α} {i:Nat} {a:α}:l.getD i a=l[i]?.getD a:=List.getD_eq_getElem?_getD
theorem qe (h:n<m) (q:m<=k):n<k:=Nat.lt_of_lt_of_le h q
theorem qh (h:n<=m) (q:m<=k):n<=k:=Nat.le_trans h q
theorem xd (n:Nat):n<=n:=Nat.le_refl n
theorem zal.{u} {α:Type u} {a:α} {l:List α} (m:List α) (h:a∈l):a∈l++m:=List.mem_append_left m h
theorem zar.{u} {α:Type u} {a:α} (l:List α) {m:List α} (h:a∈m):a∈l++m:=List.mem_append_right l h
theorem zco.{u} {α:Type u} (y:α) {a:α} {l:List α} (h:a∈l):a∈y::l:=List.mem_cons_of_mem y h
theorem Zq (i:Nat) (h:wpAnyH P md ops Q S fuel (listed.setIfInBounds i true) (a.put oi.dst v) w) (hi:ops[i]?=some oi:=by (simp only [tA1,tA2,tA3];rfl)) (hg:Region.wanted oi (yielded ops a.tmps)=true:=by rfl) (hy:∀ w,S w->(execOp a.eval oi).run P w=.ok (.value v) w:=by (intro W' ⟨s0,s1,s2,s3⟩;go_simp;first | done | with_reducible rfl)) (hS:S w:=by assumption) (hs:Region.noSelect ops=true:=by kernel_rfl) (hf:Region.free md ops listed i=true:=by kernel_rfl) (hr:(Region.ready md ops listed).contains i=true:=by kernel_rfl) (hQ:∀ c a w,Q (.panic c) (a.put oi.dst v) w->Q (.panic c) a w:=by exact fun _ _ _ h=>h):wpAnyH P md ops Q S (fuel+1) listed a w:=wV i h hi hg hy hS hs hf hr hQ
theorem ZF (i:Nat) (h:wpAnyH P md ops Q S fuel (listed.setIfInBounds i true) (a.put oi.dst v) w) (hi:ops[i]?=some oi:=by (simp only [tA1,tA2,tA3];rfl)) (hg:Region.wanted oi (yielded ops a.tmps)=true:=by rfl) (hy:∀ w,S w->(execOp a.eval oi).run P w=.ok (.value v) w:=by (intro W' ⟨s0,s1,s2⟩;go_simp;first | done | with_reducible rfl)) (hS:S w:=by assumption) (hs:Region.noSelect ops=true:=by kernel_rfl) (hf:Region.free md ops listed i=true:=by kernel_rfl) (hr:(Region.ready md ops listed).contains i=true:=by kernel_rfl) (hQ:∀ c a w,Q (.panic c) (a.put oi.dst v) w->Q (.panic c) a w:=by exact fun _ _ _ h=>h):wpAnyH P md ops Q S (fuel+1) listed a w:=wV i h hi hg hy hS hs hf hr hQ
theorem Xy (i:Nat) (h:wpAnyH P md ops Q S fuel (listed.setIfInBounds i true) (a.put oi.dst v) w) (hi:ops[i]?=some oi:=by (simp only [tA1,tA2,tA3];rfl)) (hg:Region.wanted oi (yielded ops a.tmps)=true:=by rfl) (hy:∀ w,S w->(execOp a.eval oi).run P w=.ok (.value v) w:=by (intro W' s0;go_simp;first | done | with_reducible rfl)) (hS:S w:=by assumption) (hs:Region.noSelect ops=true:=by kernel_rfl) (hf:Region.free md ops listed i=true:=by kernel_rfl) (hr:(Region.ready md ops listed).contains i=true:=by kernel_rfl) (hQ:∀ c a w,Q (.panic c) (a.put oi.dst v) w->Q (.panic c) a w:=by exact fun _ _ _ h=>h):wpAnyH P md ops Q S (fuel+1) listed a w:=wV i h hi hg hy hS hs hf hr hQ
theorem XH (i:Nat) (h:wpAnyH P md ops Q S fuel (listed.setIfInBounds i true) (a.put oi.dst v) w) (hi:ops[i]?=some oi:=by (simp only [tA1,tA2,tA3];rfl)) (hg:Region.wanted oi (yielded ops a.tmps)=true:=by rfl) (hy:∀ w,S w->(execOp a.eval oi).run P w=.ok (.value v) w:=by (rintro W' ⟨s0,s1⟩;go_simp;first | done | with_reducible rfl)) (hS:S w:=by assumption) (hs:Region.noSelect ops=true:=by kernel_rfl) (hf:Region.free md ops listed i=true:=by kernel_rfl) (hr:(Region.ready md ops listed).contains i=true:=by kernel_rfl) (hQ:∀ c a w,Q (.panic c) (a.put oi.dst v) w->Q (.panic c) a w:=by exact fun _ _ _ h=>h):wpAnyH P md ops Q S (fuel+1) listed a w:=wV i h hi hg hy hS hs hf hr hQ
theorem Qv (i:Nat) (h:wpAnyH P md ops Q S fuel (listed.setIfInBounds i true) (a.put oi.dst v) w) (hi:ops[i]?=some oi:=by (simp only [tA1,tA2,tA3];rfl)) (hg:Region.wanted oi (yielded ops a.tmps)=true:=by rfl) (hy:∀ w,S w->(execOp a.eval oi).run P w=.ok (.value v) w:=by (intro W' ⟨s0,s1,s2,u0,u1,u2,q1,q2⟩;go_simp;first | done | with_reducible rfl)) (hS:S w:=by assumption) (hs:Region.noSelect ops=true:=by kernel_rfl) (hf:Region.free md ops listed i=true:=by kernel_rfl) (hr:(Region.ready md ops listed).contains i=true:=by kernel_rfl) (hQ:∀ c a w,Q (.panic c) (a.put oi.dst v) w->Q (.panic c) a w:=by exact fun _ _ _ h=>h):wpAnyH P md ops Q S (fuel+1) listed a w:=wV i h hi hg hy hS hs hf hr hQ
theorem Jl (i:Nat) (h:wpAnyH P md ops Q S fuel (listed.setIfInBounds i true) (a.put oi.dst v) w) (hi:ops[i]?=some oi:=by (simp only [tA1,tA2,tA3];rfl)) (hg:Region.wanted oi (yielded ops a.tmps)=true:=by rfl) (hy:∀ w,S w->(execOp a.eval oi).run P w=.ok (.value v) w:=by (rintro W' ⟨s0,s1,s2⟩;go_simp;first | done | with_reducible rfl)) (hS:S w:=by assumption) (hs:Region.noSelect ops=true:=by kernel_rfl) (hf:Region.free md ops listed i=true:=by kernel_rfl) (hr:(Region.ready md ops listed).contains i=true:=by kernel_rfl) (hQ:∀ c a w,Q (.panic c) (a.put oi.dst v) w->Q (.panic c) a w:=by exact fun _ _ _ h=>h):wpAnyH P md ops Q S (fuel+1) listed a w:=wV i h hi hg hy hS hs hf hr hQ
theorem ad (i:Nat) (h:wpAnyH P md ops Q S fuel (listed.setIfInBounds i true) (a.put oi.dst v) w) (hi:ops[i]?=some oi:=by (simp only [tA1,tA2,tA3];rfl)) (hg:Region.wanted oi (yielded ops a.tmps)=true:=by rfl) (hy:∀ w,S w->(execOp a.eval oi).run P w=.ok (.value v) w:=by (rintro W' ⟨s0,s1,s2,s3,s4⟩;go_simp;first | done | with_reducible rfl)) (hS:S w:=by assumption) (hs:Region.noSelect ops=true:=by kernel_rfl) (hf:Region.free md ops listed i=true:=by kernel_rfl) (hr:(Region.ready md ops listed).contains i=true:=by kernel_rfl) (hQ:∀ c a w,Q (.panic c) (a.put oi.dst v) w->Q (.panic c) a w:=by exact fun _ _ _ h=>h):wpAnyH P md ops Q S (fuel+1) listed a w:=wV i h hi hg hy hS hs hf hr hQ
theorem de (i:Nat) (h:wpAnyH P md ops Q S fuel (listed.setIfInBounds i true) (a.put oi.dst v) w) (hi:ops[i]?=some oi:=by (simp only [tA1,tA2,tA3];rfl)) (hg:Region.wanted oi (yielded ops a.tmps)=true:=by rfl) (hy:∀ w,S w->(execOp a.eval oi).run P w=.ok (.value v) w:=by (intro W' ⟨y0,y1,y2⟩;go_simp;first | done | with_reducible rfl)) (hS:S w:=by assumption) (hs:Region.noSelect ops=true:=by kernel_rfl) (hf:Region.free md ops listed i=true:=by kernel_rfl) (hr:(Region.ready md ops listed).contains i=true:=by kernel_rfl) (hQ:∀ c a w,Q (.panic c) (a.put oi.dst v) w->Q (.panic c) a w:=by exact fun _ _ _ h=>h):wpAnyH P md ops Q S (fuel+1) listed a w:=wV i h hi hg hy hS hs hf hr hQ
theorem dD (i:Nat) (h:wpAnyH P md ops Q S fuel (listed.setIfInBounds i true) (a.put oi.dst v) w) (hi:ops[i]?=some oi:=by (simp only [tA1,tA2,tA3];rfl)) (hg:Region.wanted oi (yielded ops a.tmps)=true:=by rfl) (hy:∀ w,S w->(execOp a.eval oi).run P w=.ok (.value v) w:=by (intro W' ⟨y0,y1,y2,y3,y4⟩;go_simp;first | done | with_reducible rfl)) (hS:S w:=by assumption) (hs:Region.noSelect ops=true:=by kernel_rfl) (hf:Region.free md ops listed i=true:=by kernel_rfl) (hr:(Region.ready md ops listed).contains i=true:=by kernel_rfl) (hQ:∀ c a w,Q (.panic c) (a.put oi.dst v) w->Q (.panic c) a w:=by exact fun _ _ _ h=>h):wpAnyH P md ops Q S (fuel+1) listed a w:=wV i h hi hg hy hS hs hf hr hQ
theorem mq (i:Nat) (h:wpAnyH P md ops Q S fuel (listed.setIfInBounds i true) (a.put oi.dst v) w) (hi:ops[i]?=some oi:=by (simp only [tA1,tA2,tA3];rfl)) (hg:Region.wanted oi (yielded ops a.tmps)=true:=by rfl) (hy:∀ w,S w->(execOp a.eval oi).run P w=.ok (.value v) w:=by (intro w' I4;go_simp;first | done | with_reducible rfl)) (hS:S w:=by assumption) (hs:Region.noSelect ops=true:=by kernel_rfl) (hf:Region.free md ops listed i=true:=by kernel_rfl) (hr:(Region.ready md ops listed).contains i=true:=by kernel_rfl) (hQ:∀ c a w,Q (.panic c) (a.put oi.dst v) w->Q (.panic c) a w:=by exact fun _ _ _ h=>h):wpAnyH P md ops Q S (fuel+1) listed a w:=wV i h hi hg hy hS hs hf hr hQ
open Go.RowKit
structure zv (L:List Nat) (w w':World):Prop where
 os:w'.os=w.os
 tape:w'.tape=w.tape
 output:w'.output=w.output
 size:w.heap.size<=w'.heap.size
 block:∀ k,k<w.heap.size->k∉L->w'.heap[k]?=w.heap[k]?
theorem zv.refl (L:List Nat) (w:World):zv L w w:=⟨rfl,rfl,rfl,xd _,fun _ _ _=>rfl⟩
theorem zv.trans {L:List Nat} {a b c:World} (h:zv L a b) (k:zv L b c):zv L a c :=
 ⟨k.os.trans h.os,k.tape.trans h.tape,k.output.trans h.output,qh h.size k.size,
  fun i hi hn=>(k.block i (qe hi h.size) hn).trans (h.block i hi hn)⟩
theorem zv.mono (h:zv L w w') (hl:∀ k,k∈L->k∈L'):zv L' w w' :=
 ⟨h.os,h.tape,h.output,h.size,fun k hk hn=>h.block k hk (fun hm=>hn (hl k hm))⟩
theorem zv.then {a b:World} (h:zv L a b) (k:zv L' b c) (hl:∀ i,i∈L'->i∈L∨a.heap.size<=i):zv L a c :=
 ⟨k.os.trans h.os,k.tape.trans h.tape,k.output.trans h.output,qh h.size k.size,
  fun i hi hn=>(k.block i (qe hi h.size) (fun hm=>by
   rcases hl i hm with h' | h'
   ·exact hn h'
   ·omega)).trans (h.block i hi hn)⟩
theorem zv.alloc {a:World} (h:zv L a w) (o:Obj):zv L a (w.alloc o) :=
 h.trans ⟨rfl,rfl,rfl,by simp,fun k hk _=>Below.heap_alloc _ _ _ hk⟩
theorem zv.drew {a:World} (h:zv L a w):zv L a w.drew:=⟨h.os,h.tape,h.output,h.size,h.block⟩
theorem zv.drewN {a:World} (h:zv L a w) (n:Nat):zv L a (w.drewN n):=⟨h.os,h.tape,h.output,h.size,h.block⟩
theorem zv.setCell {L:List Nat} {a w:World} (h:zv L a w) {p:Addr} (hp:p.block∈L∨a.heap.size<=p.block) (u:Value):zv L a (w.setCell p u) :=
 ⟨h.os,h.tape,h.output,by simpa [World.setCell] using h.size,fun k hk hn=>(Below.heap_setCell _ _ _ _ (by
  rintro rfl;rcases hp with hp | hp
  ·exact hn hp
  ·omega)).trans (h.block k hk hn)⟩
theorem zv.grown {a:World} {row:Option Nat} (h:zv L a w) (hg:w.grownBy w' row) (hr:∀ k,row=some k->k∈L∨a.heap.size<=k):zv L a w' :=
 ⟨hg.os.trans h.os,hg.tape.trans h.tape,hg.output.trans h.output,qh h.size hg.size,fun k hk hn =>
  (hg.block k (qe hk h.size) (fun e=>by
   rcases hr k e.symm with h' | h'
   ·exact hn h'
   ·omega)).trans (h.block k hk hn)⟩
theorem zv.cell (h:zv L w w') (hp:p.block<w.heap.size) (hn:p.block∉L):w'.cell? p=w.cell? p :=
 yW (w:=w) (h.block p.block hp hn)
theorem zv.frozen {L:List Nat} {w w':World} (h:zv L w w') {p:Addr} (hp:p.block<w.heap.size) (hn:p.block∉L):w'.frozen? p=w.frozen? p :=
 World.frozen?_of_block (w:=w) (h.block p.block hp hn)
theorem zv.below {a:World} (h:zv L a w) (hl:∀ i,i∈L->a.heap.size<=i):Below a.heap.size a w :=
 ⟨h.os,h.tape,h.output,h.size,fun i hi=>h.block i hi (fun hm=>by have:=hl i hm;omega)⟩
theorem zv.of_below {a:World} (h:Below a.heap.size a w):zv L a w :=
 ⟨h.os,h.tape,h.output,h.size,fun i hi _=>h.block i hi⟩
theorem zz {o:Obj} (h:w.heap[b]?=some o):b<w.heap.size:=(yL.1 h).1
theorem zv.mo (h:zv L w w') (hl:∀ k,k∈L->k∈L':=by simp):zv L' w w':=h.mono hl
theorem zv.bl (h:zv L w w') (hk:k<w.heap.size) (hn:k∉L:=by simp):w'.heap[k]?=w.heap[k]?:=h.block k hk hn
theorem zv.kp {o:Obj} (h:zv L w w') (ho:w.heap[k]?=some o) (hn:k∉L:=by simp):w'.heap[k]?=some o:=(h.block k (zz ho) hn).trans ho
theorem zv.ce (h:zv L w w') (x:w.cell? p=some v) (hp:p.block<w.heap.size) (hn:p.block∉L:=by simp):w'.cell? p=some v:=(h.cell hp hn).trans x
theorem xo (w:World) (o:Obj):(w.alloc o).heap[w.heap.size]?=some o:=heap_alloc_new w o
theorem cZ (w:World) (o o':Obj):((w.alloc o).alloc o').heap[w.heap.size+1]?=some o':=by
 have:=heap_alloc_new (w.alloc o) o';simpa using this
theorem kC (w:World) (o o':Obj):((w.alloc o).alloc o').heap[w.heap.size]?=some o:=by
 rw [Below.heap_alloc _ _ _ (by simp),heap_alloc_new]
theorem zD (w:World) (o:Obj):(w.alloc o).heap.size=w.heap.size+1:=by simp
theorem zM {T:TypeId} {z:Nat × Nat} (h:w.heap[b]?=some (.cells cs T z)) (i:Nat):w.cell? ⟨b,i,none⟩=cs[i]?:=by
 simp [World.cell?,h]
theorem zv.tn {a b:World} (h:zv L a b) (k:zv [q] b c) (l:a.heap.size<=q):zv L a c:=h.then k fun i hi=>.inr (by rw [List.mem_singleton] at hi;rw [hi];exact l)
theorem Bz {T:TypeId} {o:Nat × Nat} (h:w.heap[b]?=some (.cells #[u] T o)):w.cell? ⟨b,0,none⟩=some u:=zM h 0
theorem uj {T:TypeId} {o:Nat × Nat} (h:w.heap[b]?=some (.cells #[u,v] T o)):w.cell? ⟨b,0,none⟩=some u/\w.cell? ⟨b,1,none⟩=some v:=⟨zM h 0,zM h 1⟩
theorem Za {T:TypeId} {o:Nat × Nat} (h:w.heap[b]?=some (.cells #[u,v,x] T o)):w.cell? ⟨b,0,none⟩=some u/\w.cell? ⟨b,1,none⟩=some v/\w.cell? ⟨b,2,none⟩=some x:=⟨zM h 0,zM h 1,zM h 2⟩
theorem pW {T:TypeId} {o:Nat × Nat} (h:w.heap[b]?=some (.cells #[u,v,x,y] T o)):w.cell? ⟨b,0,none⟩=some u/\w.cell? ⟨b,1,none⟩=some v/\w.cell? ⟨b,2,none⟩=some x/\w.cell? ⟨b,3,none⟩=some y:=⟨zM h 0,zM h 1,zM h 2,zM h 3⟩
theorem pZ {T:TypeId} {o:Nat × Nat} (h:w.heap[b]?=some (.cells #[u,v,x,y,z] T o)):w.cell? ⟨b,0,none⟩=some u/\w.cell? ⟨b,1,none⟩=some v/\w.cell? ⟨b,2,none⟩=some x/\w.cell? ⟨b,3,none⟩=some y/\w.cell? ⟨b,4,none⟩=some z:=⟨zM h 0,zM h 1,zM h 2,zM h 3,zM h 4⟩
theorem AP {s:Value} {T:TypeId} {o:Nat × Nat} (h:w.heap[b]?=some (.cells #[u,v,x,y,z,s] T o)):w.cell? ⟨b,0,none⟩=some u/\w.cell? ⟨b,1,none⟩=some v/\w.cell? ⟨b,2,none⟩=some x/\w.cell? ⟨b,3,none⟩=some y/\w.cell? ⟨b,4,none⟩=some z/\w.cell? ⟨b,5,none⟩=some s:=⟨zM h 0,zM h 1,zM h 2,zM h 3,zM h 4,zM h 5⟩
theorem xB {T:TypeId} (h:w.heap[b]?=some (.cells cs T (0,0))) (i:Nat):w.frozen? ⟨b,i,none⟩=false:=by
 simp [World.frozen?,h]
theorem Yh {T:TypeId} {z:Nat × Nat} (h:w.heap[b]?=some (.cells cs T z)) (i:Nat) (v:Value) :
  (w.setCell ⟨b,i,none⟩ v).heap[b]?=some (.cells (cs.setIfInBounds i v) T z):=by
 simp [World.setCell,Array.getElem?_modify,h]
theorem ZS (i:Nat) (v:Value) (h:k≠b):(w.setCell ⟨b,i,none⟩ v).heap[k]?=w.heap[k]?:=Below.heap_setCell _ _ _ _ h
def zO (n:Nat) (z:Value):Array Value:=Array.replicate n z
theorem df (z:Value) (n:Nat):madeCells #[z] (n*1)=zO n z:=by
 apply Array.ext
 ·simp [madeCells,zO]
 ·intro i h1 h2
  simp [madeCells,zO,Nat.mod_one]
theorem xW (t e:TypeId) {bytes:Nat} (ht:P.underlying t=some (.slice e)) (hi:(P.info? e).map (fun i=>(i.zero,i.size,i.bytes))=some (some z,1,bytes)) (hz:z.cells=#[z])
  (kl kc:IntKind) (n:Nat) (hb:bytes*n<=281474976710656) (h63:n<=9223372036854775807) (w:World) :
  (Instr.makeSlice t (.int kl (n:Int)) (.int kc (n:Int))).run P w = .ok (.slice (some ⟨w.heap.size,0,none⟩) n n) (w.alloc (.cells (zO n z) e)):=by
 obtain ⟨i,h1,h2,h3,h4⟩:=info_parts hi
 have LA:(i.bytes:Int)*(n:Int)<=281474976710656:=by
  have h:((i.bytes*n:Nat):Int)<=281474976710656:=by rw [h4];omega
  rwa [Int.natCast_mul] at h
 have hr:=run_make (P:=P) w t e i z ht h1 h2 kl kc n n (by omega) (by omega) LA (by omega);simp only [yz,hz,h3,df] at hr;exact hr
def Y7 (n:Nat) (f:Nat->Nat):Array Value:=Array.ofFn (n:=n) fun i => .int .u8 ((f i:Nat):Int)
theorem xL (h:i<n):(Y7 n f)[i]?=some (.int .u8 ((f i:Nat):Int)):=by
 simp [Y7,h]
theorem ae {v:Nat} (h:i<n):(Y7 n f).setIfInBounds i (.int .u8 (v:Int))=Y7 n (fun j=>if j=i then v else f j):=by
 apply yM;intro j;by_cases hj:j<n
 ·rw [xL hj,yP]
  by_cases e:j=i
  ·subst e;simp [Y7,h]
  ·rw [if_neg (fun q=>e q.symm),xL hj];simp [e]
 ·simp [Y7,hj]
theorem aB (n at' size:Nat) (w:World) (h1:1<=size) (h2:size<=8) (h3:at'+size<=n) (h4:n<=9007199254740992) :
  Calls Tryz.prog 131 #[.int .i64 (n:Int),.int .i64 (at':Int),.int .i64 (size:Int)] w fun e w'=>e = .returned (.bool true)/\w=w':=by
 have:(1:Int)<=(size:Int):=by omega
 have:(size:Int)<=8:=by omega
 have:(0:Int)<=(at':Int):=by omega
 have:(at':Int)<=(n:Int) - (size:Int):=by omega
 go_enter Tryz.func131,Tryz.ntmps131
 go_wp2
 go_ret;exact ⟨by simp,rfl⟩
def qt (v k:Nat):Nat:=v / 256 ^ k % 256
def gT (f:Nat->Nat) (p s v k i:Nat):Nat:=if p+s - k<=i/\i<p+s then qt v (p+s - 1 - i) else f i
theorem nN (f:Nat->Nat) (p s v:Nat):gT f p s v 0=f:=by
 funext i
 unfold gT;rw [if_neg (by omega)]
theorem nO (f:Nat->Nat) {p s:Nat} (v:Nat) (hk:k<s) (hq:q=p+s - 1 - k):gT f p s v (k+1)=fun i=>if i=q then qt v k else gT f p s v k i:=by
 funext i
 unfold gT;by_cases e:i=q
 ·rw [if_pos e,if_pos (by omega)]
  congr 1;omega
 ·rw [if_neg e]
  by_cases e2:p+s - k<=i/\i<p+s
  ·rw [if_pos e2,if_pos (by omega)]
  ·rw [if_neg e2,if_neg (by omega)]
theorem rf (v k:Nat):IntKind.u8.wrap ((v:Int) / 2 ^ (8*k))=((qt v k:Nat):Int):=by
 have e:(2:Int) ^ (8*k)=((256 ^ k:Nat):Int):=by
  rw [Int.pow_mul];simp
 unfold qt;rw [e];simp [IntKind.wrap,IntKind.signed,IntKind.bits]
def YC (f:Nat->Nat) (p s v i:Nat):Nat:=if p<=i/\i<p+s then qt v (p+s - 1 - i) else f i
theorem rh (f:Nat->Nat) (p s v:Nat):gT f p s v s=YC f p s v:=by
 funext i
 unfold gT YC;rw [zg]
theorem VO (hb:w.heap[b]?=some (.cells (Y7 N f) 5 (0,0))) (off len cap at' size v:Nat) (B9:off+len<=N) (hN:N<=100000) (h1:1<=size) (h2:size<=8) (DT:at'+size<=len) (hv:v<256 ^ size) :
  Calls Tryz.prog 134 #[.slice (some ⟨b,off,none⟩) len cap,.int .i64 (at':Int),.int .i64 (size:Int),.int .u64 (v:Int)] w fun e w' =>
   e = .returned (.bool true)/\w'.heap[b]?=some (.cells (Y7 N (YC f (off+at') size v)) 5 (0,0))/\zv [b] w w':=by
 have HB:=zh hb
 have GV:size<8->(v:Int) / 2 ^ (8*size)=0:=fun _=>by
  have e:(256:Nat) ^ size=2 ^ (8*size):=by rw [show (256:Nat)=2 ^ 8 from rfl,<- Nat.pow_mul]
  rw [e] at hv;have:((v / 2 ^ (8*size):Nat):Int)=0:=by rw [Nat.div_eq_of_lt hv];rfl
  simpa using this
 clear hb;have Io:size<8∨size=8:=by omega
 rcases Io with hs | hs
 case' inl =>
  have e0:=GV hs;have T8:(size:Int)<8:=by omega
  clear GV
 case' inr =>
  have T8:¬ (size:Int)<8:=by omega
  clear GV
 all_goals
  have Hhs:=zh hs;have Hhv:=zh hv;clear hs hv;go_enter Tryz.func134,Tryz.ntmps134;go_wp2_with fail;refine (aB len at' size _ h1 h2 DT (by omega)).mono ?_;rintro e w' ⟨rfl,rfl⟩;go_wp2_with fail
  go_loopw [28] (fun s wr=>∃ k:Nat,k<=size/\s = .int .i64 (k:Int)/\wr.heap[b]?=some (.cells (Y7 N (gT f (off+at') size v k)) 5 (0,0))/\zv [b] w wr) (fun s _=>size - (intOf s).toNat)
  case atStart=>exact ⟨0,yg _,rfl,by rw [nN];exact HB.o,zv.refl _ _⟩
  case round =>
   obtain ⟨k,hk,rfl,UW,GC⟩:=hrel;have MT:=zh UW;have LU:=zh GC;clear UW GC;by_cases Co:k<size
   ·obtain ⟨q,hq⟩:∃ q:Nat,at'+size - 1 - k=q:=⟨_,rfl⟩
    have eq:(at':Int)+(size:Int) - 1 - (k:Int)=(q:Int):=by omega
    have hqN:off+q<N:=by omega
    have cq:=(zM MT.o (off+q)).trans (xL hqN);have fq:=xB MT.o (off+q);have ew:IntKind.u8.wrap ((v:Int) / 2 ^ (8*k))=((qt v k:Nat):Int):=rf v k;have q0:(0:Int)<=(q:Int):=by omega
    have q1:(q:Int)<(len:Int):=by omega
    have E:=zh (nO f v Co (show off+q=off+at'+size - 1 - k by omega));have Hq:=zh hq;clear hq;go_wp2_with fail
    go_roundw
    case rel =>
     refine ⟨k+1,by omega,by go_num,?_,LU.o.setCell (.inl (by simp)) _⟩;rw [Yh MT.o,ae hqN,E.o]
    case measure=>simp [intOf];omega
   ·obtain rfl:k=size:=by omega
    go_wp2_with fail;go_ret;exact ⟨rfl,by rw [<- rh];exact MT.o,LU.o⟩
def Zu (f:Nat->Nat) (p:Nat):Nat->Nat
 | 0=>0
 | k+1=>Zu f p k*256+f (p+k)
theorem VP {f:Nat->Nat} {p:Nat} : ∀ {k:Nat},(∀ i,i<k->f (p+i)<=255)->Zu f p k<256 ^ k
 | 0,_=>by simp [Zu]
 | k+1,h=>by
  have:=VP (k:=k) (fun i hi=>h i (by omega));have:=h k (by omega);unfold Zu;rw [Nat.pow_succ];omega
theorem uk (a x:Nat) (ha:a<72057594037927936) (hx:x<=255):bits .or .u64 (IntKind.u64.wrap ((a:Int)*256)) (x:Int)=((a*256+x:Nat):Int):=by
 have e:IntKind.u64.wrap ((a:Int)*256)=((a*256:Nat):Int):=by
  rw [IntKind.wrap_u64];omega
 rw [e,u64_or_nat (a*256) x (by omega) (by omega)]
 have h:a*256 ||| x=a*256+x:=by
  have:a*256=a <<< 8:=by rw [Nat.shiftLeft_eq]
  rw [this,Nat.shiftLeft_add_eq_or_of_lt (by omega)]
 rw [h]
def zB (w:World) (b off n:Nat) (f:Nat->Nat):Prop:=∀ i,i<n->w.cell? ⟨b,off+i,none⟩=some (.int .u8 (f i:Int))/\f i<=255
theorem zB.chg (h:zB w b off n f) (c:zv L w w') (hb:b∉L:=by simp):zB w' b off n f:=fun i hi=>by
 obtain ⟨h1,h2⟩:=h i hi;exact ⟨(c.cell (p:=⟨b,off+i,none⟩) (yc w _ h1) hb).trans h1,h2⟩
theorem zB.sub (h:zB w b off n f) {a:Nat} (hm:a+m<=n):zB w b (off+a) m (fun i=>f (a+i)):=fun i hi=>by
 have:=h (a+i) (by omega);rw [<- Nat.add_assoc] at this;exact this
theorem zB.of_block (h:w.heap[b]?=some (.cells (Y7 N f) 5 (0,0))) (hf:∀ i,i<N->f i<=255) (hn:off+n<=N):zB w b off n (fun i=>f (off+i)):=fun i hi =>
 ⟨(zM h _).trans (xL (by omega)),hf _ (by omega)⟩
theorem Q0 (hb:zB w b off len f) (hcap:len<=cap) (hN:cap<=9223372036854775807) (B9:len<=9007199254740992) (at' size:Nat) (h1:1<=size) (h2:size<=8) (DT:at'+size<=len) :
  Calls Tryz.prog 80 #[.slice (some ⟨b,off,none⟩) len cap,.int .i64 (at':Int),.int .i64 (size:Int)] w fun e w'=>e = .returned (.tuple #[.int .u64 (Zu f at' size:Int),.bool true])/\w=w':=by
 have HB:=zh hb;clear hb;have:(0:Int)<=(at':Int):=by omega
 have:(at':Int)<=(at':Int)+(size:Int):=by omega
 have:(at':Int)+(size:Int)<=(cap:Int):=by omega
 have:at'+size - at'=size:=by omega
 go_enter Tryz.func80,Tryz.ntmps80;go_wp2_with fail;refine (aB len at' size _ h1 h2 DT (by omega)).mono ?_;rintro e w' ⟨rfl,rfl⟩;go_wp2_with fail
 go_loop [8,24] (fun s i=>∃ k:Nat,k<=size/\i = .int .i64 (k:Int)/\s = .int .u64 (Zu f at' k:Int)) (fun _ i=>size - (intOf i).toNat)
 case atStart=>exact ⟨0,yg _,rfl,rfl⟩
 case round =>
  obtain ⟨k,hk,rfl,rfl⟩:=hrel;by_cases Co:k<size
  ·obtain ⟨c,hf⟩:=HB.o (at'+k) (by omega)
   rw [<- Nat.add_assoc] at c;have:(0:Int)<=(k:Int):=by omega
   have:(k:Int)<(size:Int):=by omega
   have E:=zh (show Zu f at' (k+1)=Zu f at' k*256+f (at'+k) from rfl);have hl:Zu f at' k<256 ^ k:=VP fun i hi=>(HB.o (at'+i) (by omega)).2;have hp:256 ^ k<=256 ^ 7:=Nat.pow_le_pow_right (by omega) (by omega);rw [show (256:Nat) ^ 7=72057594037927936 by decide] at hp;have O:=zh (uk (Zu f at' k) (f (at'+k)) (by omega) hf);clear hl hp;go_wp2_with fail
   go_round
   case rel=>exact ⟨k+1,by omega,by go_num,by rw [E.o,O.o]⟩
   case measure=>simp [intOf];omega
  ·obtain rfl:k=size:=by omega
   go_wp2_with fail
   go_ret2
   exact ⟨rfl,rfl⟩
def Zv (f:Nat->Nat):Nat->Nat
 | 0=>1
 | k+1=>(31*Zv f k+f k+7) % 4294967291
theorem Q1 (f:Nat->Nat):∀ k,Zv f k<4294967291
 | 0=>by simp [Zv]
 | k+1=>by unfold Zv;exact Nat.mod_lt _ (by omega)
theorem kF (hb:zB w b off len f) (hN:len<=9007199254740992) :
  Calls Tryz.prog 129 #[.slice (some ⟨b,off,none⟩) len cap] w fun e w'=>e = .returned (.int .u32 (Zv f len:Int))/\w=w':=by
 have HB:=zh hb;clear hb;go_enter Tryz.func129,Tryz.ntmps129;go_wp2_with fail
 go_loop [3,8] (fun s i=>∃ k:Nat,k<=len/\i = .int .i64 (k:Int)/\s = .int .u64 (Zv f k:Int)) (fun _ i=>len - (intOf i).toNat)
 case atStart=>exact ⟨0,yg _,rfl,rfl⟩
 case round =>
  obtain ⟨k,hk,rfl,rfl⟩:=hrel;have:=Q1 f k;by_cases Co:k<len
  ·obtain ⟨c,hf⟩:=HB.o k Co
   have:(0:Int)<=(k:Int):=by omega
   have:(k:Int)<(len:Int):=by omega
   have E:=zh (show Zv f (k+1)=(31*Zv f k+f k+7) % 4294967291 from rfl);go_wp2_with fail
   go_round
   case rel=>exact ⟨k+1,by omega,by go_num,by rw [E.o];congr 1⟩
   case measure=>simp [intOf];omega
  ·obtain rfl:k=len:=by omega
   go_wp2_with fail;go_ret;exact ⟨by congr 1,rfl⟩
def zK (N:Nat) (V:Nat->Value):Array Value:=Array.ofFn (n:=N) fun i=>V i
def laid (V S:Nat->Value) (off m i:Nat):Value:=if off<=i/\i<off+m then S (i - off) else V i
theorem gU (V S:Nat->Value) (h:off+m<=N) :
  ((zK N V).toList.take off++((List.range m).map S++(zK N V).toList.drop (off+((List.range m).map S).length))).toArray=zK N (laid V S off m):=by
 apply yM;intro j;simp only [tA1,zK,laid,yX,List.length_range];have ht:((Array.ofFn (n:=N) fun i=>V i).toList.take off).length=off:=by simp;omega
 by_cases h1:j<off
 ·rw [yI (by rw [ht];exact h1),List.getElem?_take,if_pos h1]
  have hj:j<N:=by omega
  simp [hj];omega
 ·rw [yF (by rw [ht];omega),ht]
  by_cases h2:j - off<m
  ·rw [yI (by simpa using h2)]
   have hj:j<N:=by omega
   simp [hj,h2];intro h3;have:=h3 (by omega);omega
  ·rw [yF (by simp;omega)]
   simp only [yX,List.length_range,List.getElem?_drop];by_cases hj:j<N
   ·have e:off+m+(j - off - m)=j:=by omega
    simp [hj,e];omega
   ·have e:¬ off+m+(j - off - m)<N:=by omega
    simp [hj];omega
theorem YV {o:Oper} (Eg:o.guard=none) (d s:Operand) (dT sT:TypeId)
  (ho:o.op = .call { callee := .builtin .copy,args:=#[d,s],argTypes:=#[dT,sT] }) (DS:TypeId) (hu:P.underlying dT=some (.slice DS)) (Dg:(P.info? DS).map (·.size)=some 1)
  (g off DV E7:Nat) (sp:Option Addr) (DZ Fb:Nat) (hd:a.eval d = .slice (some ⟨g,off,none⟩) DV E7) (hs:a.eval s = .slice sp DZ Fb)
  (N:Nat) (V:Nat->Value) (t:TypeId) (hg:w.heap[g]?=some (.cells (zK N V) t (0,0))) (m:Nat) (hm:m=Nat.min DZ DV) (S:Nat->Value)
  (EN:0<m->∃ b o,sp=some ⟨b,o,none⟩/\∀ j,j<m->w.cell? ⟨b,o+j,none⟩=some (S j)) (h1:∀ j,j<m->(S j).oneCell'=true) (Ea:off+m<=N)
  (h:∀ w',Hd (w'.heap[g]?=some (.cells (zK N (laid V S off m)) t (0,0)))->zv [g] w w'->wpList P ops Q rest (a.put o.dst (goInt m)) w') :
  wpList P ops Q (o::rest) a w:=by
 by_cases h0:m=0
 ·subst h0
  refine wpList_copy_nothing Eg d s dT sT ho DS hu Dg _ sp DV E7 DZ Fb hd hs hm.symm ?_;refine h w (show _=_ from ?_) (zv.refl _ _);rw [hg];have:laid V S off 0=V:=by funext i;unfold laid;rw [if_neg (by omega)]
  rw [this]
 ·obtain ⟨b,q,rfl,hc⟩:=EN (by omega)
  have hl:((List.range m).map S).length=m:=by simp
  have hw:=wpList_copy_own (w:=w) (Q:=Q) (rest:=rest) (ops:=ops) Eg d s dT sT ho DS hu Dg g off DV E7 ⟨b,q,none⟩ DZ Fb hd hs (zK N V) t hg ((List.range m).map S) (by rw [hl,hm])
   (fun j v hj=>by
    simp only [yT] at hj;by_cases BY:j<m
    ·simp [BY] at hj
     subst hj;have e:(⟨b,q,none⟩:Addr).add j=⟨b,q+j,none⟩:=by unfold Addr.add;split <;> simp_all
     rw [e];exact hc j BY
    ·simp [BY] at hj)
   (by rw [hl];simp [zK];exact Ea)
   (fun v hv=>by obtain ⟨j,hj,rfl⟩:=yw.1 hv;exact h1 j (by simpa using hj))
  refine hw ?_;rw [hl];refine h _ (show _=_ from ?_) ⟨rfl,rfl,rfl,by simp [World.setRow],fun k hk hn=>setRow_other w g k _ (by simpa using hn)⟩;have hr:=gU V S Ea;rw [hl] at hr;rw [hr];exact setRow_heap w g _ _ t _ hg
theorem Xo (w:World) {o:Oper} (Eg:o.guard=none) (s x:Operand) (t:TypeId)
  (ho:o.op = .call { callee := .builtin .append,args:=#[s,x],argTypes:=#[t,t] })
  (base:Nat) (e:TypeId) (z:Value) (bytes:Nat) (ht:P.underlying t=some (.slice e)) (hi:(P.info? e).map (fun i=>(i.zero,i.size,i.bytes))=some (some z,1,bytes)) (MN:z.cells.size=1)
  (v:Value) (n:Nat) (xs:List Value) (hs:a.eval s=v) (BT:w.ownsRow base e 1 v n xs)
  (b c:Nat) (u:Value) (hx:a.eval x = .slice (some ⟨b,0,none⟩) 1 c) (hc:w.cell? ⟨b,0,none⟩=some u) (hu:u.oneCell'=true) (hn:n<=1000000) (GM:bytes<=64) (Dp:base<=w.heap.size)
  (h:∀ v' w',w'.ownsRow base e 1 v' (n+1) (xs++[u])->w.grownBy w' v.ownBlock->wpList P ops Q rest (a.put o.dst v') w'):wpList P ops Q (o::rest) a w:=by
 obtain ⟨i,h1,h2,h3,h4⟩:=info_parts hi;refine wpList_append_own w Eg s x t ho base e i z 1 bytes ht h1 h2 h3 h4 MN (by decide) v n xs hs BT ⟨b,0,none⟩ 1 c [u] hx rfl ?_ ?_ ?_ ?_ Dp fun v' w' a1 a2 _=>h v' w' a1 a2
 ·intro j q hj
  match j,hj with
  | 0,hj =>
   simp only [tA3,Option.some.injEq] at hj;subst hj;simpa [Addr.add] using hc
 ·intro q hq
  simp only [zms] at hq;subst hq;exact hu
 ·unfold maxLen;omega
 ·have:(n+1)*bytes<=(n+1)*64:=Nat.mul_le_mul_left _ GM
  omega
theorem X7:(Tryz.prog.info? 5).map (fun i=>(i.zero,i.size,i.bytes))=some (some (.int .u8 0),1,1):=by kernel_rfl
theorem ZW (n:Nat):zO n (.int .u8 0)=Y7 n (fun _=>0):=by
 apply Array.ext
 ·simp [zO,Y7]
 ·intro i h1 h2
  simp [zO,Y7]
theorem aC (hcap:128<=cap) (hN:cap<=9223372036854775807) :
  Calls Tryz.prog 128 #[.slice (some ⟨b,off,none⟩) 128 cap] w fun e w'=>e = .returned (.tuple #[.slice (some ⟨b,off,none⟩) 124 124,.slice (some ⟨b,off+124,none⟩) 4 4])/\zv [] w w':=by
 have:(124:Int)<=(cap:Int):=by omega
 have:(128:Int)<=(cap:Int):=by omega
 go_enter Tryz.func128,Tryz.ntmps128;go_wp2_with fail
 go_region
 go_wp2
 go_ret2
 exact ⟨rfl,(zv.refl _ _).drew⟩
def Yc (w:World) (a:Option Addr) (n cap:Nat) (f:Nat->Nat):Prop :=
 n<=cap/\cap<=maxLen/\(a=none->n=0/\cap=0)/\∀ b,a=some b->0<n->∃ k o,b=⟨k,o,none⟩/\zB w k o n f
def Zw (kind n:Nat) (f:Nat->Nat) (i:Nat):Nat:=if i=0 then kind else if i<1+n then f (i - 1) else 0
def ZM (kind n:Nat) (f:Nat->Nat):Nat->Nat:=YC (Zw kind n f) 124 4 (Zv (Zw kind n f) 124)
theorem af {a:Option Addr} (h:Yc w a n cap f) (hn:n<=123) (kind:Nat) (hk:kind<=255) :
  Calls Tryz.prog 135 #[.int .u8 (kind:Int),.slice a n cap] w fun e w'=>e = .returned (.tuple #[.slice (some ⟨w.heap.size,0,none⟩) 128 128,.int .i64 0]) /\
   w'.heap[w.heap.size]?=some (.cells (Y7 128 (ZM kind n f)) 5 (0,0))/\zv [] w w':=by
 have EA:∀ w:World,(Instr.makeSlice 81 (.int .i64 128) (.int .i64 128)).run Tryz.prog w = .ok (.slice (some ⟨w.heap.size,0,none⟩) 128 128) (w.alloc (.cells (zO 128 (.int .u8 0)) 5)):=xW (P:=Tryz.prog) 81 5 Tryz.underlying81 X7 rfl .i64 .i64 128 (by omega) (by omega);have z0:(zO 128 (.int .u8 0))[0]?=some (.int .u8 0):=by simp [zO]
 have H:=zh h;clear h;go_enter Tryz.func135,Tryz.ntmps135;go_wp2_with (refine YV rfl (.tmp 17) (.tmp 18) 81 81 rfl 5 Tryz.underlying81 (by kernel_rfl) w.heap.size 1 127 127 a n cap rfl rfl 128 (fun i => .int .u8 ((if i=0 then kind else 0:Nat):Int)) 5 ?c1 n ?c2 (fun i => .int .u8 (f i:Int)) ?c3 ?c4 ?c5 ?_)
 case c1 =>
  rw [xo,ZW];have:=ae (n:=128) (f:=fun _=>0) (i:=0) (v:=kind) (by omega);rw [this];rfl
 case c2 =>
  show n=min n 127
  omega
 case c3 =>
  intro hp;obtain ⟨_,_,h3,h4⟩:=H.o
  cases a with
  | none=>have:=(h3 rfl).1;omega
  | some q =>
   obtain ⟨k,o,rfl,hb⟩:=h4 q rfl hp;refine ⟨k,o,rfl,fun j hj=>?_⟩;have LA:=hb.chg ((zv.refl [] w).alloc (.cells ((zO 128 (.int .u8 0)).setIfInBounds 0 (.int .u8 (kind:Int))) 5)) (by simp);exact (LA j hj).1
 case c4=>intro j _;rfl
 case c5=>omega
 intro w1 HB hC
 have hf:∀ i,i<128->Zw kind n f i<=255:=fun i _=>by
  unfold Zw
  split
  ·exact hk
  ·split
   ·obtain ⟨_,_,h3,h4⟩:=H.o
    cases a with
    | none=>have:=(h3 rfl).1;omega
    | some q =>
     obtain ⟨k,o,rfl,hb⟩:=h4 q rfl (by omega);exact (hb (i - 1) (by omega)).2
   ·omega
 have EI:w1.heap[w.heap.size]?=some (.cells (Y7 128 (Zw kind n f)) 5 (0,0)):=by
  rw [HB.o]
  have:zK 128 (laid (fun i => .int .u8 ((if i=0 then kind else 0:Nat):Int)) (fun i => .int .u8 (f i:Int)) 1 n)=Y7 128 (Zw kind n f):=by
   unfold zK Y7;congr 1;funext i
   show laid _ _ 1 n (i:Nat)=Value.int .u8 ((Zw kind n f (i:Nat):Nat):Int)
   unfold laid Zw
   dsimp only
   by_cases e0:(i:Nat)=0
   ·rw [if_neg (by omega),if_pos e0,if_pos e0]
   ·by_cases e1:(i:Nat)<1+n
    ·rw [if_pos (by omega),if_neg e0,if_pos e1]
    ·rw [if_neg (by omega),if_neg e0,if_neg e0,if_neg e1]
  rw [this]
 have Cz:zv [w.heap.size] w w1:=(((zv.refl [w.heap.size] w).alloc _).trans hC);have Hf:=zh hf;have Py:=zh EI;have Ce:=zh Cz;clear hf EI Cz HB hC z0 EA;go_wp2_with fail;refine (aC (b:=w.heap.size) (off:=0) (cap:=128) (xd _) (by omega)).mono ?_;rintro e w2 ⟨rfl,Do⟩;have B2:=zh ((Do.block w.heap.size (zz Py.o) (by simp)).trans Py.o);have C2:=zh (Ce.o.then Do (by simp));clear Do
 have hS:zB w2 w.heap.size 0 124 (Zw kind n f):=by
  have:=zB.of_block B2.o Hf.o (off:=0) (n:=124) (by omega);simp only [yn] at this;exact this
 have BY:=Q1 (Zw kind n f) 124;have cS:=kF (cap:=124) hS (by omega);have hp:ZM kind n f=YC (Zw kind n f) 124 4 (Zv (Zw kind n f) 124):=rfl;generalize Zv (Zw kind n f) 124=S at *;have Hp:=zh hp;clear hp hS;go_wp2_with fail;refine cS.mono ?_;rintro e w' ⟨rfl,rfl⟩;go_wp2_with fail;refine (VO B2.o 124 4 4 0 4 S (by omega) (by omega) (by omega) (by omega) (by omega) (by rw [show (256:Nat) ^ 4=4294967296 by decide];omega)).mono ?_;rintro e w3 ⟨rfl,L4,El⟩;have B3:=zh L4;have C3:=zh (C2.o.trans El);clear L4 El;go_wp2_with fail
 go_ret2
 refine ⟨rfl,?_,zv.then (L:=[]) (zv.refl [] w) C3.o (by simp)⟩;rw [B3.o,Hp.o]
theorem dE {base e:Nat} {xs:List Value} (h:w.ownsRow base e 1 v (0+n) ([]++xs)) (hn:0<n) :
  ∃ g cap BV,v = .slice (some ⟨g,0,none⟩) n cap/\base<=g/\w.heap[g]?=some (.cells BV e (0,0))/\n<=cap/\cap<=maxLen/\BV.size=cap*1/\BV.toList.take n=xs:=by
 rcases h.2 with ⟨_,h0⟩ | ⟨g,cap,BV,h1,h2,h3,h4,h5,h6,h7⟩
 ·omega
 ·refine ⟨g,cap,BV,?_,h2,h3,?_,h5,h6,?_⟩
  ·rw [h1,yn]
  ·omega
  ·simpa using h7
theorem fJ (h:zB w b off n f):∀ j u,((List.range n).map fun i=>Value.int .u8 (f i:Int))[j]?=some u->w.cell? ((⟨b,off,none⟩:Addr).add j)=some u:=by
 intro j u hj;simp only [yT] at hj;by_cases BY:j<n
 ·simp [BY] at hj
  subst hj;have e:(⟨b,off,none⟩:Addr).add j=⟨b,off+j,none⟩:=by unfold Addr.add;split <;> simp_all
  rw [e];exact (h j BY).1
 ·simp [BY] at hj
theorem nP (h:zB w b off n f) (hn:n<=100000) (h0:0<n) :
  Calls Tryz.prog 130 #[.slice (some ⟨b,off,none⟩) n cap] w fun e w'=>∃ g c,e = .returned (.slice (some ⟨g,0,none⟩) n c)/\n<=c/\c<=maxLen/\w.heap.size<=g/\g<w'.heap.size/\zB w' g 0 n f/\zv [] w w':=by
 have Cr:=h.chg ((zv.refl [] w).alloc (.cells #[] 5));have Hn:=zh (fJ Cr);have H:=zh h;obtain ⟨i0,hi,Ia,Lj,LN⟩:=info_parts X7;have Hi:=zh hi;have he:=fun w:World=>Lib.run_eql_slice_nil (P:=Tryz.prog) w 81 5 (some ⟨b,off,none⟩) n cap 0 0 Tryz.underlying81;clear h Cr hi;go_enter Tryz.func130,Tryz.ntmps130;go_wp2_with (at_builtin;refine wpList_append_own _ rfl _ _ 81 rfl w.heap.size 5 i0 (.int .u8 0) 1 1 Tryz.underlying81 Hi.o Ia Lj LN rfl (by decide) _ 0 [] rfl (World.ownsRow_made w #[] 0 (xd _) (yg _) rfl) ⟨b,off,none⟩ n cap ((List.range n).map fun i=>Value.int .u8 (f i:Int)) rfl ?c0 Hn.o ?c1 ?c2 ?c3 ?c4 ?_)
 case c0=>simp
 case c1=>intro u hu;obtain ⟨a,_,rfl⟩:=yw.1 hu;rfl
 case c2=>unfold maxLen;omega
 case c3=>omega
 case c4=>simp
 intro v' w1 BT Ff _;obtain ⟨g,c,BV,rfl,q1,q2,q3,q4,q5,q6⟩:=dE (n:=n) (xs:=(List.range n).map fun i=>Value.int .u8 (f i:Int)) (by rw [yn,yy];exact BT) h0;have HO:=zh (zA q2 q6);have HG:=zh Ff;clear q2 q6 BT Ff;go_wp2_with fail;go_ret;have BY:=zz HO.o.1;refine ⟨g,c,rfl,q3,q4,q1,BY,fun i hi=>⟨?_,(H.o i hi).2⟩,?_⟩
 ·rw [zM HO.o.1,yn]
  have:=congrArg (fun l=>l[i]?) HO.o.2;simp only [List.getElem?_take,if_pos hi,yT,za hi,Option.map_some,yB] at this;exact this
 ·exact ((zv.refl [] w).alloc _).grown HG.o (fun k hk => .inr (by simp [Value.ownBlock] at hk;omega))
theorem VQ (f:Nat->Nat) (p:Nat):∀ k,Zu (fun i=>f (p+i)) 0 k=Zu f p k
 | 0=>rfl
 | k+1=>by unfold Zu;rw [VQ f p k,yn]
def qF (f:Nat->Nat):Prop:=Zu f 124 4=Zv f 124
theorem ri {a:Option Addr} (hn:n≠128) :
  Calls Tryz.prog 77 #[.slice a n cap] w fun e w'=>e = .returned (.tuple #[.int .u8 0,.slice none 0 0,.int .i64 10])/\w=w':=by
 have:((n:Int) != 128)=true:=by simp;omega
 clear hn;go_enter Tryz.func77,Tryz.ntmps77;go_wp2_with fail
 go_ret3
 exact ⟨rfl,rfl⟩
section
variable {w:World} {b off cap:Nat} {f:Nat->Nat} (h:zB w b off 128 f) (hcap:128<=cap) (hN:cap<=9223372036854775807)
include h hcap hN
theorem aD (hp:¬ qF f) :
  Calls Tryz.prog 77 #[.slice (some ⟨b,off,none⟩) 128 cap] w fun e w'=>e = .returned (.tuple #[.int .u8 0,.slice none 0 0,.int .i64 10])/\zv [] w w':=by
 have H:=zh h;have:=Q1 f 124;have:Zu f 124 4<4294967296:=VP (k:=4) fun i hi=>(h (124+i) (by omega)).2
 have:((Zu f 124 4:Int) != (Zv f 124:Int))=true:=by
  simp;intro e;exact hp (by unfold qF;omega)
 clear h hp;go_enter Tryz.func77,Tryz.ntmps77;go_wp2_with fail;refine (aC hcap hN).mono ?_;rintro e w1 ⟨rfl,Cz⟩;have Ce:=zh Cz;have h1:=H.o.chg Cz;have hS:zB w1 b off 124 f:=fun i hi=>h1 i (by omega);have hG:=h1.sub (a:=124) (m:=4) (by omega);have cG:=Q0 (cap:=4) hG (by omega) (by omega) (by omega) 0 4 (by omega) (by omega) (by omega);rw [VQ] at cG;have cS:=kF (cap:=124) hS (by omega);generalize Zu f 124 4=X at *;generalize Zv f 124=Y at *;clear h1 hS hG Cz;go_wp2_with fail;refine cG.mono ?_;rintro e w' ⟨rfl,rfl⟩;go_wp2_with fail;refine cS.mono ?_;rintro e w' ⟨rfl,rfl⟩;go_wp2_with fail
 go_ret3
 exact ⟨rfl,Ce.o⟩
theorem YM (hp:qF f) :
  Calls Tryz.prog 77 #[.slice (some ⟨b,off,none⟩) 128 cap] w fun e w'=>∃ g c,e = .returned (.tuple #[.int .u8 (f 0:Int),.slice (some ⟨g,0,none⟩) 123 c,.int .i64 0])/\123<=c/\c<=maxLen/\w.heap.size<=g/\g<w'.heap.size /\
   zB w' g 0 123 (fun i=>f (1+i))/\zv [] w w':=by
 have H:=zh h;have:=Q1 f 124;have Hp:=zh hp;clear h hp;go_enter Tryz.func77,Tryz.ntmps77;go_wp2_with fail;refine (aC hcap hN).mono ?_;rintro e w1 ⟨rfl,Cz⟩;have Ce:=zh Cz;have h1:=H.o.chg Cz;have H1:=zh h1;have hS:zB w1 b off 124 f:=fun i hi=>h1 i (by omega);have hG:=h1.sub (a:=124) (m:=4) (by omega);have cG:=Q0 (cap:=4) hG (by omega) (by omega) (by omega) 0 4 (by omega) (by omega) (by omega);rw [VQ,show Zu f 124 4=Zv f 124 from Hp.o] at cG;have cS:=kF (cap:=124) hS (by omega);generalize Zv f 124=Y at *;clear h1 hS hG Cz;go_wp2_with fail;refine cG.mono ?_;rintro e w' ⟨rfl,rfl⟩;go_wp2_with fail;refine cS.mono ?_;rintro e w' ⟨rfl,rfl⟩;have h1d:=H1.o.chg (zv.drew (zv.refl [] _));have Eo:=zh (h1d.sub (a:=1) (m:=123) (by omega));have x0:=(H1.o 0 (by omega)).1;rw [Nat.add_zero] at x0;have lb:=yc _ _ x0;clear h1d cG cS;go_wp2_with fail
 go_region_with (go_at_call 130;refine (nP (cap:=123) Eo.o (by omega) (by omega)).mono ?_;rintro e w2 ⟨g,c,rfl,r1,r2,r3,r4,r5,r6⟩;have:=r6.ce x0 lb;have R5:=zh r5;have R6:=zh r6;clear r5 r6)
 all_goals
  go_wp2_with fail
  go_ret3
  exact ⟨g,c,rfl,r1,r2,qh Ce.o.size r3,r4,R5.o,Ce.o.trans ((zv.drew (zv.refl [] _)).trans R6.o)⟩
end
end Go.Proofs.YtegpiomkmfhadaaGreat
