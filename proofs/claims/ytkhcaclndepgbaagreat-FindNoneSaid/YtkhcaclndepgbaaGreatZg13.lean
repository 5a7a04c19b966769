/- tally.Up, Down, Get, Free, Keep, New. · tally.New. -/
import Derived.Test.YtkhcaclndepgbaaGreatZg12
import Derived.Carry
set_option linter.unusedVariables false
set_option linter.unusedSimpArgs false
set_option maxRecDepth 100000
set_option maxHeartbeats 20000000
namespace Go.Proofs.YtkhcaclndepgbaaGreat
open Go.RowKit
def upE (T:Tal) (b:Int):Int:=if hasB T b then (if T.now b.toNat=65535 then 81 else 0) else 80
def up (T:Tal) (b:Int):Tal:=if upE T b=0 then T.set b.toNat (T.now b.toNat+1) else T
def downE (T:Tal) (b:Int):Int:=if hasB T b then (if T.now b.toNat=0 then 82 else 0) else 80
def down (T:Tal) (b:Int):Tal:=if downE T b=0 then T.set b.toNat (T.now b.toNat - 1) else T
theorem hasB_iff (T:Tal) (b:Int):hasB T b=true↔0≤b∧b<T.n:=by simp [hasB]
def getV (T:Tal) (b:Int):Int:=if hasB T b then (T.now b.toNat:Int) else 0
theorem keep_frees (T:Tal):T.keep.frees=T.frees+T.waits:=by
 refine cnt_split fun i _=>?_
 simp only [Tal.free,Tal.waitB,Tal.keep]
 by_cases q1:T.now i=0 <;> by_cases q2:T.kept i=0 <;> simp [q1,q2]
theorem keep_waits (T:Tal):T.keep.waits=0:=cnt_zero fun i _=>by
 simp only [Tal.waitB,Tal.keep]
 by_cases q1:T.now i=0 <;> simp [q1]
section
variable {w:World} {t bc bk:Nat} {T:Tal} (h:TallyAt w t bc bk T)
include h
theorem up_at (b:Int) :
  Calls Tryz.prog 96 #[.pointer (some ⟨t,0,none⟩),.int .i64 b] w fun e w'=>e = .returned (.int .i64 (upE T b))∧TallyAt w' t bc bk (up T b)∧Chg [t,bc,bk] w w':=by
 have n1:=h.n1
 have c0:=h.c0
 have hz:((T.n:Int)==0)=false:=by simp;omega
 by_cases hh:hasB T b=true
 ·obtain ⟨h0,h1⟩:=(hasB_iff T b).1 hh
  obtain ⟨b,rfl⟩:=Int.eq_ofNat_of_zero_le h0
  have hb:b<T.n:=by omega
  have cc:=h.cc hb
  have hnb:=h.now b hb
  by_cases hm:T.now b=65535
  ·have hd:((T.now b:Int)==65535)=true:=by simp [hm]
   have He:upE T b=81:=by simp [upE,hh,hm]
   clear hm
   go_enter Tryz.func96,Tryz.ntmps96
   go_wp2_with (first | (go_at_call 90;refine (blocks_at h).mono ?_;rintro e w' ⟨rfl,rfl⟩) | (go_at_call 147;refine (has_at h _).mono ?_;rintro e w' ⟨rfl,rfl⟩))
   go_ret
   exact ⟨by rw [He];rfl,by simpa [up,He] using h,Chg.refl _ _⟩
  ·have hd:((T.now b:Int)==65535)=false:=by simp;omega
   have He:upE T b=0:=by simp [upE,hh,hm]
   have Hu:up T b=T.set b (T.now b+1):=by simp [up,He]
   have hlt:T.now b+1≤65535:=by omega
   have hw:IntKind.u16.wrap ((T.now b:Int)+1)=((T.now b+1:Nat):Int):=by
    rw [IntWalk.u16_in ((T.now b:Int)+1) ⟨by omega,by omega⟩];omega
   clear hm
   go_enter Tryz.func96,Tryz.ntmps96
   go_wp2_with (first | (go_at_call 90;refine (blocks_at h).mono ?_;rintro e w' ⟨rfl,rfl⟩) | (go_at_call 147;refine (has_at h _).mono ?_;rintro e w' ⟨rfl,rfl⟩))
   refine (set_at h b (T.now b+1) hb hlt).mono ?_
   rintro e w1 ⟨rfl,hT,hC⟩
   go_wp2_with fail
   go_ret
   exact ⟨by rw [He];rfl,by rw [Hu];exact hT,hC⟩
 ·have hh':hasB T b=false:=by simpa using hh
  have He:upE T b=80:=by simp [upE,hh']
  clear hh
  go_enter Tryz.func96,Tryz.ntmps96
  go_wp2_with (first | (go_at_call 90;refine (blocks_at h).mono ?_;rintro e w' ⟨rfl,rfl⟩) | (go_at_call 147;refine (has_at h _).mono ?_;rintro e w' ⟨rfl,rfl⟩))
  go_ret
  exact ⟨by rw [He];rfl,by simpa [up,He] using h,Chg.refl _ _⟩
theorem down_at (b:Int) :
  Calls Tryz.prog 94 #[.pointer (some ⟨t,0,none⟩),.int .i64 b] w fun e w'=>e = .returned (.int .i64 (downE T b))∧TallyAt w' t bc bk (down T b)∧Chg [t,bc,bk] w w':=by
 have n1:=h.n1
 have c0:=h.c0
 have hz:((T.n:Int)==0)=false:=by simp;omega
 by_cases hh:hasB T b=true
 ·obtain ⟨h0,h1⟩:=(hasB_iff T b).1 hh
  obtain ⟨b,rfl⟩:=Int.eq_ofNat_of_zero_le h0
  have hb:b<T.n:=by omega
  have cc:=h.cc hb
  have hnb:=h.now b hb
  by_cases hm:T.now b=0
  ·have hd:((T.now b:Int)==0)=true:=by simp [hm]
   have He:downE T b=82:=by simp [downE,hh,hm]
   clear hm
   go_enter Tryz.func94,Tryz.ntmps94
   go_wp2_with (first | (go_at_call 90;refine (blocks_at h).mono ?_;rintro e w' ⟨rfl,rfl⟩) | (go_at_call 147;refine (has_at h _).mono ?_;rintro e w' ⟨rfl,rfl⟩))
   go_ret
   exact ⟨by rw [He];rfl,by simpa [down,He] using h,Chg.refl _ _⟩
  ·have hd:((T.now b:Int)==0)=false:=by simp;omega
   have He:downE T b=0:=by simp [downE,hh,hm]
   have Hu:down T b=T.set b (T.now b - 1):=by simp [down,He]
   have hlt:T.now b - 1≤65535:=by omega
   have hw:IntKind.u16.wrap ((T.now b:Int) - 1)=((T.now b - 1:Nat):Int):=by
    rw [IntWalk.u16_in ((T.now b:Int) - 1) ⟨by omega,by omega⟩];omega
   clear hm
   go_enter Tryz.func94,Tryz.ntmps94
   go_wp2_with (first | (go_at_call 90;refine (blocks_at h).mono ?_;rintro e w' ⟨rfl,rfl⟩) | (go_at_call 147;refine (has_at h _).mono ?_;rintro e w' ⟨rfl,rfl⟩))
   refine (set_at h b (T.now b - 1) hb hlt).mono ?_
   rintro e w1 ⟨rfl,hT,hC⟩
   go_wp2_with fail
   go_ret
   exact ⟨by rw [He];rfl,by rw [Hu];exact hT,hC⟩
 ·have hh':hasB T b=false:=by simpa using hh
  have He:downE T b=80:=by simp [downE,hh']
  clear hh
  go_enter Tryz.func94,Tryz.ntmps94
  go_wp2_with (first | (go_at_call 90;refine (blocks_at h).mono ?_;rintro e w' ⟨rfl,rfl⟩) | (go_at_call 147;refine (has_at h _).mono ?_;rintro e w' ⟨rfl,rfl⟩))
  go_ret
  exact ⟨by rw [He];rfl,by simpa [down,He] using h,Chg.refl _ _⟩
theorem get_at (b:Int) :
  Calls Tryz.prog 92 #[.pointer (some ⟨t,0,none⟩),.int .i64 b] w fun e w'=>e = .returned (.int .i64 (getV T b))∧w=w':=by
 have n1:=h.n1
 have c0:=h.c0
 by_cases hh:hasB T b=true
 ·obtain ⟨h0,h1⟩:=(hasB_iff T b).1 hh
  obtain ⟨b,rfl⟩:=Int.eq_ofNat_of_zero_le h0
  have hb:b<T.n:=by omega
  have cc:=h.cc hb
  have hnb:=h.now b hb
  have He:getV T b=(T.now b:Int):=by simp [getV,hh]
  go_enter Tryz.func92,Tryz.ntmps92
  go_wp2_with (first | (go_at_call 147;refine (has_at h _).mono ?_;rintro e w' ⟨rfl,rfl⟩))
  go_ret
  exact ⟨by rw [He];rfl,rfl⟩
 ·have hh':hasB T b=false:=by simpa using hh
  have He:getV T b=0:=by simp [getV,hh']
  clear hh
  go_enter Tryz.func92,Tryz.ntmps92
  go_wp2_with (first | (go_at_call 147;refine (has_at h _).mono ?_;rintro e w' ⟨rfl,rfl⟩))
  go_ret
  exact ⟨by rw [He];rfl,rfl⟩
def freeB (T:Tal) (b:Int):Bool:=hasB T b&&T.free b.toNat
theorem free_at (b:Int) :
  Calls Tryz.prog 130 #[.pointer (some ⟨t,0,none⟩),.int .i64 b] w fun e w'=>e = .returned (.bool (freeB T b))∧w=w':=by
 have n1:=h.n1
 have c0:=h.c0
 by_cases hh:hasB T b=true
 ·obtain ⟨h0,h1⟩:=(hasB_iff T b).1 hh
  obtain ⟨b,rfl⟩:=Int.eq_ofNat_of_zero_le h0
  have hb:b<T.n:=by omega
  have cc:=h.cc hb
  have hnb:=h.now b hb
  by_cases hm:T.now b=0
  ·have hd:((T.now b:Int)==0)=true:=by simp [hm]
   have He:freeB T b=((T.kept b:Int)==0):=by simp [freeB,Tal.free,hh,hm];rw [Bool.eq_iff_iff];simp
   clear hm
   go_enter Tryz.func130,Tryz.ntmps130
   go_wp2_with (first | (go_at_call 147;refine (has_at h _).mono ?_;rintro e w' ⟨rfl,rfl⟩) | (go_at_call 166;refine (was_at h _ hb).mono ?_;rintro e w' ⟨rfl,rfl⟩))
   go_ret
   exact ⟨by rw [He];rfl,rfl⟩
  ·have hd:((T.now b:Int)==0)=false:=by simp;omega
   have He:freeB T b=false:=by simp [freeB,Tal.free,hm]
   clear hm
   go_enter Tryz.func130,Tryz.ntmps130
   go_wp2_with (first | (go_at_call 147;refine (has_at h _).mono ?_;rintro e w' ⟨rfl,rfl⟩) | (go_at_call 166;refine (was_at h _ hb).mono ?_;rintro e w' ⟨rfl,rfl⟩))
   go_ret
   exact ⟨by rw [He];rfl,rfl⟩
 ·have hh':hasB T b=false:=by simpa using hh
  have He:freeB T b=false:=by simp [freeB,hh']
  clear hh
  go_enter Tryz.func130,Tryz.ntmps130
  go_wp2_with (first | (go_at_call 147;refine (has_at h _).mono ?_;rintro e w' ⟨rfl,rfl⟩))
  go_ret
  exact ⟨by rw [He];rfl,rfl⟩
theorem keep_at :
  Calls Tryz.prog 89 #[.pointer (some ⟨t,0,none⟩)] w fun e w'=>e = .returned (.tuple #[])∧TallyAt w' t bc bk T.keep∧Chg [t,bk] w w':=by
 have n1:=h.n1
 have c1:=h.c1
 have fl:=h.frees_le
 have wl:=h.waits_le
 obtain ⟨w1,hrun,hK,hturn⟩:=h.map.clear (t:=213) Tryz.underlying213 0
 have hg:=hturn.grown
 have ht:=(hg.block t h.lt0 (by simp [h.ne1])).trans h.top
 have c2:=zcb ht 2
 have c3:=zcb ht 3
 have f2:=zfb ht 2
 have f3:=zfb ht 3
 simp only [List.getElem?_toArray,List.getElem?_cons_zero,List.getElem?_cons_succ] at c2 c3
 go_enter Tryz.func89,Tryz.ntmps89
 go_wp2_with (go_at_call 90;refine (blocks_at h).mono ?_;rintro e w' ⟨rfl,rfl⟩)
 go_region
 go_wp2_with fail
 go_end0
 have hc:Chg [t,bk] w w1:=(Chg.refl _ _).grown hg (by simp)
 have hc2:Chg [t,bk] w ((w1.setCell ⟨t,2,none⟩ (.int .i64 (T.frees+T.waits))).setCell ⟨t,3,none⟩ (.int .i64 0)).drew :=
  ((hc.setCell (.inl (by simp)) _).setCell (.inl (by simp)) _).drew
 refine ⟨rfl,⟨h.n1,h.n2,h.now,h.now,?_,?_,?_,h.ne⟩,hc2⟩
 ·show ((w1.setCell ⟨t,2,none⟩ (.int .i64 (T.frees+T.waits))).setCell ⟨t,3,none⟩ (.int .i64 0)).heap[t]?=_
  rw [zsb (zsb ht 2 _),keep_frees,keep_waits]
  simp [Tal.keep]
 ·refine (hc2.block bc h.lt1 (by simp;exact ⟨h.ne.symm,h.ne2⟩)).trans h.cs
 ·have e:((w1.setCell ⟨t,2,none⟩ (.int .i64 (T.frees+T.waits))).setCell ⟨t,3,none⟩ (.int .i64 0)).drew.heap[bk]?=w1.heap[bk]?:=by
   show ((w1.setCell ⟨t,2,none⟩ (.int .i64 (T.frees+T.waits))).setCell ⟨t,3,none⟩ (.int .i64 0)).heap[bk]?=_
   rw [zso _ _ h.ne1.symm,zso _ _ h.ne1.symm]
  exact (hK.congr fun i _=>by simp [Tal.keptAt,Tal.keep]).same e
end
theorem info16:(Tryz.prog.info? 33).map (fun i=>(i.zero,i.size,i.bytes))=some (some (.int .u16 0),1,2):=by kernel_rfl
theorem zrow_u16s (n:Nat):zrow n (.int .u16 0)=u16s n (fun _=>0):=by
 apply Array.ext
 ·simp [zrow,u16s]
 ·intro i h1 h2
  simp [zrow,u16s]
theorem new_frees (n:Nat):(Tal.new n).frees=n:=cnt_all fun i _=>by simp [Tal.free,Tal.new]
theorem new_waits (n:Nat):(Tal.new n).waits=0:=cnt_zero fun i _=>by simp [Tal.waitB,Tal.new]
theorem tnew_at (n:Nat) (w:World) (h1:1≤n) (h2:n≤4096) :
  Calls Tryz.prog 106 #[.int .i64 (n:Int)] w fun e w'=>e = .returned (.tuple #[.pointer (some ⟨w.heap.size+2,0,none⟩),.int .i64 0]) ∧
   TallyAt w' (w.heap.size+2) w.heap.size (w.heap.size+1) (Tal.new n)∧Chg [] w w':=by
 have hmk:=run_make1 (P:=Tryz.prog) 163 33 Tryz.underlying163 info16 rfl .i64 .i64 n (by omega) (by omega)
 have hmm := @run_makeMap Tryz.prog
 go_enter Tryz.func106,Tryz.ntmps106
 go_wp2
 go_ret2
 have hc:Chg [] w (((w.alloc (.cells (zrow n (.int .u16 0)) 33)).alloc (.map #[] 0)).alloc (.cells #[.slice (some ⟨w.heap.size,0,none⟩) n n,.map (some (w.heap.size+1)),.int .i64 (n:Int),.int .i64 0] 215)) :=
  (((Chg.refl _ _).alloc _).alloc _).alloc _
 refine ⟨rfl,⟨h1,h2,fun _ _=>Nat.zero_le _,fun _ _=>Nat.zero_le _,?_,?_,?_,by omega⟩,hc⟩
 ·have:=znb ((w.alloc (.cells (zrow n (.int .u16 0)) 33)).alloc (.map #[] 0)) (.cells #[.slice (some ⟨w.heap.size,0,none⟩) n n,.map (some (w.heap.size+1)),.int .i64 (n:Int),.int .i64 0] 215)
  simp only [size_alloc'] at this
  rw [new_frees,new_waits]
  exact this
 ·rw [Below.heap_alloc _ _ _ (by simp;omega),Below.heap_alloc _ _ _ (by simp),znb,zrow_u16s];rfl
 ·have hm:=KMap.made (P:=Tryz.prog) (kt:=3) (et:=33) (w.alloc (.cells (zrow n (.int .u16 0)) 33)) n
  simp only [size_alloc'] at hm
  refine KMap.same (KMap.congr hm fun i _=>?_) (Below.heap_alloc _ _ _ (by simp))
  simp [Tal.keptAt,Tal.new]
end Go.Proofs.YtkhcaclndepgbaaGreat
