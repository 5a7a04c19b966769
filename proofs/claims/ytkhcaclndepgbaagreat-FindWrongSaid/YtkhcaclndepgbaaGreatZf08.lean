/- Package super: fields, the walk through a super's fields; setting one. · Package super: the iterator over a super's fields. -/
import Derived.Test.YtkhcaclndepgbaaGreatZf07
import Derived.Deep.RegionHeld3
import Derived.BigRegion
import Derived.Deep.RegionWith
set_option linter.unusedVariables false
set_option linter.unusedSimpArgs false
set_option maxRecDepth 100000
set_option maxHeartbeats 20000000
namespace Go.Proofs.YtkhcaclndepgbaaGreat
open Go.RowKit Go.Shelf
attribute [local go_sem] Oper.semAt_some
theorem roundIn_any {n m : Nat} {P : Program} {l : Nat} {f : FuncId} {tmps : Array Value} {a b : Code} {w : World} {R : Ending → World → Prop} (h : RoundIn Fence.wide n P l f tmps a b w R) : RoundIn Fence.wide m P l f tmps a b w R :=
 ⟨h.1, fun c cs _ => h.2 c cs (room_wide _)⟩
theorem YieldAt.any {n m : Nat} {P : Program} {l : Nat} {args : Array Value} {W : World} {R : Ending → World → Prop} (h : YieldAt Fence.wide n P l args W R) : YieldAt Fence.wide m P l args W R := by
 obtain ⟨fn, tmps, assign, body, h1, h2⟩ := h
 exact ⟨fn, tmps, assign, body, h1, roundIn_any h2⟩
structure Sup.Wf (S : Sup) : Prop where
 v : ∀ k, k < 18 → S.valS k < 256 ^ sizS k
def mkV (k x : Nat) : Value := if k = 0 then .int .u64 (x : Int) else if k < 10 then .int .u32 (x : Int) else .int .u64 (x : Int)
theorem cellV_mk (S : Sup) {k : Nat} (hk : k < 18) : S.cellV k = mkV k (S.valS k) := by
 unfold Sup.cellV mkV Sup.valS
 by_cases h0 : k = 0
 ·rw [if_pos h0, if_pos h0, if_pos h0]
 ·rw [if_neg h0, if_neg h0, if_neg h0]
  by_cases h1 : k = 1
  ·subst h1; rfl
  ·rw [if_neg h1, if_neg h1]
   by_cases h2 : k < 10
   ·rw [if_pos h2, if_pos h2, if_pos h2]
   ·rw [if_neg h2, if_neg h2, if_neg h2]
theorem row_congr {S S' : Sup} (h : ∀ i, i < 18 → S'.valS i = S.valS i) : S'.row = S.row := by
 apply Array.ext_getElem?
 intro i
 unfold Sup.row
 by_cases hi : i < 18
 ·rw [fnRow_get hi, fnRow_get hi, cellV_mk _ hi, cellV_mk _ hi, h i hi]
 ·rw [Array.getElem?_eq_none (by rw [fnRow_size]; omega), Array.getElem?_eq_none (by rw [fnRow_size]; omega)]
theorem row_set {S S' : Sup} {k : Nat} (hk : k < 18) (h : ∀ i, i < 18 → i ≠ k → S'.valS i = S.valS i) : S.row.setIfInBounds k (mkV k (S'.valS k)) = S'.row := by
 apply Array.ext_getElem?
 intro i
 unfold Sup.row
 by_cases hi : i < 18
 ·rw [Array.getElem?_setIfInBounds, fnRow_get hi, fnRow_get hi, cellV_mk _ hi]
  by_cases e : k = i
  ·subst e; rw [if_pos rfl, if_pos (by rw [fnRow_size]; exact hk), cellV_mk _ hi]
  ·rw [if_neg e, cellV_mk _ hi, h i hi (fun q => e q.symm)]
 ·rw [Array.getElem?_eq_none (by simp [fnRow_size]; omega), Array.getElem?_eq_none (by rw [fnRow_size]; omega)]
def Sup.ofV (v : Nat → Nat) : Sup := ⟨v 0, v 1, fun i => v (2 + i), fun i => v (10 + i)⟩
theorem ofV_val (v : Nat → Nat) {k : Nat} : (Sup.ofV v).valS k = v k := by
 unfold Sup.valS Sup.ofV
 by_cases h0 : k = 0
 ·rw [if_pos h0, h0]
 ·rw [if_neg h0]
  by_cases h1 : k = 1
  ·rw [if_pos h1, h1]
  ·rw [if_neg h1]
   by_cases h2 : k < 10
   ·rw [if_pos h2]; show v (2 + (k - 2)) = v k; rw [show 2 + (k - 2) = k by omega]
   ·rw [if_neg h2]; show v (10 + (k - 10)) = v k; rw [show 10 + (k - 10) = k by omega]
def setFn (k B0 ib : Nat) : Value := if k = 0 then .func (.func 177) #[] #[.pointer (some ⟨B0, 0, none⟩)] else if k = 1 then .func (.func 178) #[] #[.pointer (some ⟨B0, 0, none⟩)]
 else if k < 10 then .func (.func 179) #[] #[.pointer (some ⟨B0, 0, none⟩), .pointer (some ⟨ib, 0, none⟩)] else .func (.func 180) #[] #[.pointer (some ⟨B0, 0, none⟩), .pointer (some ⟨ib, 0, none⟩)]
def suAv (B0 sb : Nat) (k : Nat) (W : World) (av : Array Value) : Prop :=
 ∃ (S : Sup) (ib : Nat), S.Wf ∧ W.heap[sb]? = some (.cells S.row 49 (0, 0)) ∧ av = #[.int .i64 (offS k : Int), .agg #[.int .i64 (sizS k : Int), .int .u64 (S.valS k : Int), setFn k B0 ib]] ∧
  (2 ≤ k → W.heap[ib]? = some (.cells #[.int .i64 (if k < 10 then ((k - 2 : Nat) : Int) else ((k - 10 : Nat) : Int))] 3 (0, 0)) ∧ ib ≠ B0)
def suPj (sb : Nat) (W : World) : Prop := ∃ S : Sup, S.Wf ∧ W.heap[sb]? = some (.cells S.row 49 (0, 0))
section
variable {w : World} {B0 sb ib x : Nat} {S : Sup}
theorem set2_at (hB : w.cell? ⟨B0, 0, none⟩ = some (.pointer (some ⟨sb, 0, none⟩))) (hs : w.heap[sb]? = some (.cells S.row 49 (0, 0))) :
  Calls Tryz.prog 177 #[.int .u64 (x : Int), .pointer (some ⟨B0, 0, none⟩)] w fun e w' => (∃ v, e = .returned v) ∧ w'.heap[sb]? = some (.cells (S.row.setIfInBounds (0) (.int .u64 (x : Int))) 49 (0, 0)) ∧ Chg [sb] w w' := by
 have c0 := Sup.cell hs (i := 0) (by omega)
 have f0 := frozen_of_block hs 0
 have l0 := heap_lt hs
 have HS := Lib.hid hs
 clear hs
 go_enter Tryz.func177, Tryz.ntmps177
 go_wp2_with fail
 go_end0
 exact ⟨⟨_, rfl⟩, setCell_block HS.out _ _, (Chg.refl _ _).setCell (.inl (by simp)) _⟩
theorem set3_at (hB : w.cell? ⟨B0, 0, none⟩ = some (.pointer (some ⟨sb, 0, none⟩))) (hs : w.heap[sb]? = some (.cells S.row 49 (0, 0))) (hx : x < 4294967296) :
  Calls Tryz.prog 178 #[.int .u64 (x : Int), .pointer (some ⟨B0, 0, none⟩)] w fun e w' => (∃ v, e = .returned v) ∧ w'.heap[sb]? = some (.cells (S.row.setIfInBounds (1) (.int .u32 (x : Int))) 49 (0, 0)) ∧ Chg [sb] w w' := by
 have c0 := Sup.cell hs (i := 1) (by omega)
 have f0 := frozen_of_block hs 1
 have l0 := heap_lt hs
 have E1 : IntKind.u32.wrap (x : Int) = (x : Int) := by rw [IntKind.wrap_u32]; omega
 have HS := Lib.hid hs
 clear hs
 go_enter Tryz.func178, Tryz.ntmps178
 go_wp2_with fail
 go_end0
 exact ⟨⟨_, rfl⟩, setCell_block HS.out _ _, (Chg.refl _ _).setCell (.inl (by simp)) _⟩
theorem set4_at {j : Nat} (hj : j < 8) (hB : w.cell? ⟨B0, 0, none⟩ = some (.pointer (some ⟨sb, 0, none⟩))) (hi : w.cell? ⟨ib, 0, none⟩ = some (.int .i64 (j : Int))) (hs : w.heap[sb]? = some (.cells S.row 49 (0, 0))) (hx : x < 4294967296) :
  Calls Tryz.prog 179 #[.int .u64 (x : Int), .pointer (some ⟨B0, 0, none⟩), .pointer (some ⟨ib, 0, none⟩)] w fun e w' => (∃ v, e = .returned v) ∧ w'.heap[sb]? = some (.cells (S.row.setIfInBounds (2 + j) (.int .u32 (x : Int))) 49 (0, 0)) ∧ Chg [sb] w w' := by
 have c0 := Sup.cell hs (i := 2 + j) (by omega)
 have f0 := frozen_of_block hs (2 + j)
 have l0 := heap_lt hs
 have E1 : IntKind.u32.wrap (x : Int) = (x : Int) := by rw [IntKind.wrap_u32]; omega
 have i1 : (j : Int) < 8 := by omega
 have HS := Lib.hid hs
 clear hs
 go_enter Tryz.func179, Tryz.ntmps179
 go_upto_region 0 with fail
 go_region
 all_goals go_wp2_with fail
 go_end0
 exact ⟨⟨_, rfl⟩, setCell_block HS.out _ _, ((Chg.refl _ _).setCell (.inl (by simp)) _).drew⟩
theorem set5_at {j : Nat} (hj : j < 8) (hB : w.cell? ⟨B0, 0, none⟩ = some (.pointer (some ⟨sb, 0, none⟩))) (hi : w.cell? ⟨ib, 0, none⟩ = some (.int .i64 (j : Int))) (hs : w.heap[sb]? = some (.cells S.row 49 (0, 0))) :
  Calls Tryz.prog 180 #[.int .u64 (x : Int), .pointer (some ⟨B0, 0, none⟩), .pointer (some ⟨ib, 0, none⟩)] w fun e w' => (∃ v, e = .returned v) ∧ w'.heap[sb]? = some (.cells (S.row.setIfInBounds (10 + j) (.int .u64 (x : Int))) 49 (0, 0)) ∧ Chg [sb] w w' := by
 have c0 := Sup.cell hs (i := 10 + j) (by omega)
 have f0 := frozen_of_block hs (10 + j)
 have l0 := heap_lt hs
 have i1 : (j : Int) < 8 := by omega
 have HS := Lib.hid hs
 clear hs
 go_enter Tryz.func180, Tryz.ntmps180
 go_upto_region 0 with fail
 go_region
 all_goals go_wp2_with fail
 go_end0
 exact ⟨⟨_, rfl⟩, setCell_block HS.out _ _, ((Chg.refl _ _).setCell (.inl (by simp)) _).drew⟩
end
theorem suNext_at {w : World} {ab yb l at' size get : Nat} {gf : Fn} {lb : Array Value} {R : Ending → World → Prop} (ha : w.heap[ab]? = some (.cells #[.int .i64 (at' : Int)] 3 (0, 0))) (hy : w.cell? ⟨yb, 0, none⟩ = some (.func (.yield l) #[] #[])) (hne : yb ≠ ab) (hsz : size ≤ 8) (hat : at' ≤ 200)
  (hR : YieldAt Fence.wide 5 Tryz.prog l #[.int .i64 (at' : Int), .agg #[.int .i64 (size : Int), .int .u64 (get : Int), .func gf #[] lb]] (w.setCell ⟨ab, 0, none⟩ (.int .i64 ((at' + size : Nat) : Int))) R) (hb : ∀ e w', R e w' → ∃ b : Bool, e = .returned (.bool b)) :
  Calls Tryz.prog 176 #[.int .i64 (size : Int), .int .u64 (get : Int), .func gf #[] lb, .pointer (some ⟨ab, 0, none⟩), .pointer (some ⟨yb, 0, none⟩)] w R := by
 have c0 := cell_of_block ha 0
 simp only [List.getElem?_toArray, List.getElem?_cons_zero] at c0
 have f0 := frozen_of_block ha 0
 have l0 := heap_lt ha
 have c1 : (w.setCell ⟨ab, 0, none⟩ (.int .i64 ((at' + size : Nat) : Int))).cell? ⟨ab, 0, none⟩ = some (.int .i64 ((at' + size : Nat) : Int)) := by
  rw [cell_of_block (setCell_block ha 0 _) 0]; rfl
 have c2 : (w.setCell ⟨ab, 0, none⟩ (.int .i64 ((at' + size : Nat) : Int))).cell? ⟨yb, 0, none⟩ = some (.func (.yield l) #[] #[]) := (World.cell?_of_block (setCell_other 0 _ hne)).trans hy
 clear ha
 obtain ⟨fn, tmps, assign, body, hrun, hRR⟩ := hR
 rw [Int.natCast_add] at c1 c2 hrun hRR
 refine (callsIn_wide (n := 6)).1 ?_
 refine callsIn_of_wp Tryz.func176 rfl trivial ?_ rfl
 simp only [Tryz.ntmps176, List.size_toArray, List.length_cons, List.length_nil, Nat.reduceAdd, Nat.reduceSub, Array.replicate_succ, Array.replicate_zero, List.push_toArray, List.append_toArray, List.nil_append, List.cons_append]
 gi_wp2
 refine hRR.mono ?_
 intro e w' hr
 obtain ⟨b, rfl⟩ := hb e w' hr
 gi_wp2
 exact hr
theorem suFields_at {w : World} {sb : Nat} : Calls Tryz.prog 142 #[.pointer (some ⟨sb, 0, none⟩)] w fun e w' => e = .returned (.func (.func 175) #[] #[.pointer (some ⟨w.heap.size, 0, none⟩)]) ∧ w.alloc (.cells #[.pointer (some ⟨sb, 0, none⟩)] 232) = w' := by
 go_enter Tryz.func142, Tryz.ntmps142
 go_wp2_with fail
 go_ret
 exact ⟨rfl, rfl⟩
end Go.Proofs.YtkhcaclndepgbaaGreat
namespace Go.Proofs.YtkhcaclndepgbaaGreat
open Go.RowKit Go.Shelf
theorem off_succ {k : Nat} (hk : k < 18) : offS k + sizS k = offS (k + 1) := by
 unfold offS sizS
 repeat' split
 all_goals omega
theorem offS_le {k : Nat} (hk : k ≤ 18) : offS k ≤ 108 := by
 unfold offS
 repeat' split
 all_goals omega
theorem suFields_iter (n B0 sb : Nat) (Lw : List Nat) (w : World) (hB : w.cell? ⟨B0, 0, none⟩ = some (.pointer (some ⟨sb, 0, none⟩))) (h1 : B0 ∉ Lw) (hsb : sb < w.heap.size) (hsB : sb ≠ B0) (hLw : ∀ x, x ∈ Lw → x < w.heap.size) :
  IterA Fence.wide n Tryz.prog 175 #[.pointer (some ⟨B0, 0, none⟩)] (suPj sb) (suAv B0 sb) 18 Lw w := by
 intro l J Jx W hW hl0 hl hJ hJx hP hY hJ0
 have hBl : B0 < w.heap.size := World.block_lt_of_cell? w ⟨B0, 0, none⟩ hB
 have hBW := (hW.cell (p := ⟨B0, 0, none⟩) hBl).trans hB
 have hWs := hW.size
 clear hB
 obtain ⟨St, hSt⟩ : ∃ St : Nat → Nat → Nat → World → Prop, St = fun ab yb k wr => J k wr ∧ Chg (l :: Lw) W wr ∧ wr.heap[ab]? = some (.cells #[.int .i64 (offS k : Int)] 3 (0, 0)) ∧ wr.cell? ⟨yb, 0, none⟩ = some (.func (.yield l) #[] #[]) := ⟨_, rfl⟩
 have step : ∀ (ab yb ib k : Nat) (wr : World) (S : Sup) (gf : Fn) (lb : Array Value), W.heap.size ≤ ab → W.heap.size ≤ yb → yb ≠ ab → W.heap.size ≤ ib → ib ≠ ab → k < 18 → St ab yb k wr → S.Wf → wr.heap[sb]? = some (.cells S.row 49 (0, 0)) → setFn k B0 ib = .func gf #[] lb →
   (2 ≤ k → wr.heap[ib]? = some (.cells #[.int .i64 (if k < 10 then ((k - 2 : Nat) : Int) else ((k - 10 : Nat) : Int))] 3 (0, 0))) →
   Calls Tryz.prog 176 #[.int .i64 (sizS k : Int), .int .u64 (S.valS k : Int), .func gf #[] lb, .pointer (some ⟨ab, 0, none⟩), .pointer (some ⟨yb, 0, none⟩)] wr fun e w' =>
    ∃ b : Bool, e = .returned (.bool b) ∧ Hid ((b = true ∧ St ab yb (k + 1) w') ∨ (b = false ∧ Jx (k + 1) w')) := by
  intro ab yb ib k wr S gf lb a1 a2 a3 a4 a5 hk hst hS hs hf hib
  rw [hSt] at hst ⊢
  obtain ⟨s1, s2, s3, s4⟩ := hst
  have hbel : Below W.heap.size wr (wr.setCell ⟨ab, 0, none⟩ (.int .i64 ((offS k + sizS k : Nat) : Int))) := (Below.refl _ wr).setCell (by show W.heap.size ≤ ab; exact a1) _
  have hy := YieldAt.any (m := 5) (hY k (wr.setCell ⟨ab, 0, none⟩ (.int .i64 ((offS k + sizS k : Nat) : Int))) #[.int .i64 (offS k : Int), .agg #[.int .i64 (sizS k : Int), .int .u64 (S.valS k : Int), .func gf #[] lb]] (hJ k wr _ s1 hbel) hk
   ⟨S, ib, hS, (setCell_other 0 _ (by omega)).trans hs, by rw [hf], fun h2 => ⟨(setCell_other 0 _ a5).trans (hib h2), by omega⟩⟩)
  have hab : ab ∉ l :: Lw := by
   simp only [List.mem_cons, not_or]
   exact ⟨by omega, fun h => by have := hLw ab h; omega⟩
  have hyb : yb ∉ l :: Lw := by
   simp only [List.mem_cons, not_or]
   exact ⟨by omega, fun h => by have := hLw yb h; omega⟩
  have hcW : Chg (l :: Lw) W (wr.setCell ⟨ab, 0, none⟩ (.int .i64 ((offS k + sizS k : Nat) : Int))) := s2.setCell (.inr a1) _
  have hx := setCell_block s3 0 (.int .i64 ((offS k + sizS k : Nat) : Int))
  have hz := (World.cell?_of_block (setCell_other (w := wr) 0 (.int .i64 ((offS k + sizS k : Nat) : Int)) a3)).trans s4
  refine suNext_at s3 s4 a3 (by have := (siz_bd k).2; omega) (by have := offS_le (k := k) (by omega); omega) (hy.mono fun e w' hr => ?_) ?_
  ·rcases hr with ⟨rfl, r1, r2⟩ | ⟨rfl, r1, r2⟩
   ·refine ⟨true, rfl, Lib.hid (.inl ⟨rfl, r1, hcW.trans r2, ?_, ?_⟩)⟩
    ·rw [← off_succ hk]
     exact (r2.block ab (heap_lt hx) hab).trans hx
    ·exact (r2.cell (p := ⟨yb, 0, none⟩) (World.block_lt_of_cell? _ ⟨yb, 0, none⟩ hz) hyb).trans hz
   ·exact ⟨false, rfl, Lib.hid (.inr ⟨rfl, r1⟩)⟩
  ·rintro e w' ⟨b, rfl, _⟩
   exact ⟨b, rfl⟩
 have STEP := Lib.hid step
 have HJ := Lib.hid (And.intro hJ hP)
 have HST := Lib.hid hSt
 have HBW := Lib.hid hBW
 have HL := Lib.hid (And.intro hl0 (And.intro hl (And.intro hsb (And.intro hBl hWs))))
 have HN := Lib.hid (And.intro h1 (And.intro hsB hLw))
 have HJ0 := Lib.hid hJ0
 clear step hJ hP hSt hBW hl0 hl hsb hBl hWs h1 hsB hLw hJ0 hY
 refine callsIn_wide.2 ?_
 go_enter Tryz.func175, Tryz.ntmps175
 go_upto_region 2 with fail
 have hc1 : Chg (l :: Lw) W ((W.alloc (.cells #[.func (.yield l) #[] #[]] 273)).alloc (.cells #[.int .i64 0] 3)) := ((Chg.refl _ W).alloc _).alloc _
 have hb1 : Below W.heap.size W ((W.alloc (.cells #[.func (.yield l) #[] #[]] 273)).alloc (.cells #[.int .i64 0] 3)) := ((Below.refl _ W).alloc (Nat.le_refl _) _).alloc (by simp) _
 have k0 := new_block21 W (.cells #[.func (.yield l) #[] #[]] 273) (.cells #[.int .i64 0] 3)
 have k1 := new_block2 W (.cells #[.func (.yield l) #[] #[]] 273) (.cells #[.int .i64 0] 3)
 have hsz : ((W.alloc (.cells #[.func (.yield l) #[] #[]] 273)).alloc (.cells #[.int .i64 0] 3)).heap.size = W.heap.size + 2 := by simp
 generalize (W.alloc (.cells #[.func (.yield l) #[] #[]] 273)).alloc (.cells #[.int .i64 0] 3) = W1 at *
 obtain ⟨yb, hyb⟩ : ∃ yb, yb = W.heap.size := ⟨_, rfl⟩
 obtain ⟨ab, hab⟩ : ∃ ab, ab = W.heap.size + 1 := ⟨_, rfl⟩
 rw [← hab, ← hyb]
 rw [← hyb] at k0
 rw [← hab] at k1
 have st0 : St ab yb 0 W1 := by
  rw [HST.out]
  exact ⟨HJ.out.1 0 W W1 HJ0.out hb1, hc1, k1, (cell_of_block k0 0).trans rfl⟩
 have HAB := Lib.hid (And.intro hyb (And.intro hab hsz))
 have cbOf : ∀ k wr, St ab yb k wr → wr.cell? ⟨B0, 0, none⟩ = some (.pointer (some ⟨sb, 0, none⟩)) := fun k wr h => by
  rw [HST.out] at h
  exact (h.2.1.cell (p := ⟨B0, 0, none⟩) (by show B0 < W.heap.size; have := HL.out; omega) (by simp only [List.mem_cons, not_or]; exact ⟨by have := HL.out; omega, HN.out.1⟩)).trans HBW.out
 have sOf : ∀ k wr, St ab yb k wr → ∃ S : Sup, S.Wf ∧ wr.heap[sb]? = some (.cells S.row 49 (0, 0)) := fun k wr h => by
  rw [HST.out] at h
  exact HJ.out.2 k wr h.1
 have HCB := Lib.hid cbOf
 have HSO := Lib.hid sOf
 have abl : W.heap.size ≤ ab := by omega
 have ybl : W.heap.size ≤ yb := by omega
 have yab : yb ≠ ab := by omega
 have HO := Lib.hid (And.intro abl (And.intro ybl yab))
 clear hc1 hb1 k0 k1 hsz hyb hab cbOf sOf abl ybl yab
 have cB := HCB.out 0 W1 st0
 obtain ⟨S, hS, hs⟩ := HSO.out 0 W1 st0
 have c0 := Sup.cell hs (i := 0) (by omega)
 have cc := STEP.out ab yb (W.heap.size + 2) 0 W1 S (.func 177) #[.pointer (some ⟨B0, 0, none⟩)] HO.out.1 HO.out.2.1 HO.out.2.2 (by omega) (by have := HAB.out.2.1; omega) (by omega) st0 hS hs rfl (fun h => by omega)
 change Calls _ _ #[.int .i64 8, .int .u64 (S.gen : Int), .func (.func 177) #[] #[.pointer (some ⟨B0, 0, none⟩)], _, _] W1 _ at cc
 change W1.cell? ⟨sb, 0, none⟩ = some (.int .u64 (S.gen : Int)) at c0
 have CC := Lib.hid cc
 clear cc hs st0
 go_wp2_with fail
 refine CC.out.mono ?_
 clear CC c0 cB hS
 rintro e w2 ⟨b, rfl, HR⟩
 rcases HR.out with ⟨rfl, st1⟩ | ⟨rfl, jx⟩
 ·have cB := HCB.out 1 w2 st1
  obtain ⟨S, hS, hs⟩ := HSO.out 1 w2 st1
  have c0 := Sup.cell hs (i := 1) (by omega)
  have cc := STEP.out ab yb (W.heap.size + 2) 1 w2 S (.func 178) #[.pointer (some ⟨B0, 0, none⟩)] HO.out.1 HO.out.2.1 HO.out.2.2 (by omega) (by have := HAB.out.2.1; omega) (by omega) st1 hS hs rfl (fun h => by omega)
  change Calls _ _ #[.int .i64 4, .int .u64 (S.blocks : Int), .func (.func 178) #[] #[.pointer (some ⟨B0, 0, none⟩)], _, _] w2 _ at cc
  change w2.cell? ⟨sb, 1, none⟩ = some (.int .u32 (S.blocks : Int)) at c0
  have E1 : IntKind.u64.wrap (S.blocks : Int) = (S.blocks : Int) := by
   have := hS.v 1 (by omega)
   change S.blocks < 256 ^ 4 at this
   rw [IntKind.wrap_u64]; omega
  have CC := Lib.hid cc
  clear cc hs st1
  go_wp2_with fail
  refine CC.out.mono ?_
  clear CC c0 cB hS E1
  rintro e w3 ⟨b, rfl, HR⟩
  rcases HR.out with ⟨rfl, st2⟩ | ⟨rfl, jx⟩
  ·go_wp2_with fail
   go_loopg [27] 8 (fun gg s wr => ∃ k : Nat, gg = 8 - k ∧ k ≤ 8 ∧ s = .int .i64 (k : Int) ∧ St ab yb (2 + k) wr)
   case atStart => exact ⟨0, rfl, Nat.zero_le _, by go_num, st2⟩
   case round =>
    obtain ⟨k, hgg, hk8, rfl, st⟩ := hrel
    by_cases hk : k < 8
    ·have i1 : (k : Int) < 8 := by omega
     have cB := HCB.out _ wr st
     obtain ⟨S, hS, hs⟩ := HSO.out _ wr st
     go_upto_region 7 with fail
     have hcA := (Chg.refl [] wr).alloc (.cells #[.int .i64 (k : Int)] 3)
     have kib := new_block wr (.cells #[.int .i64 (k : Int)] 3)
     have hcs := hcA.size
     have stA : St ab yb (2 + k) (wr.alloc (.cells #[.int .i64 (k : Int)] 3)) := by
      rw [HST.out] at st ⊢
      obtain ⟨q1, q2, q3, q4⟩ := st
      exact ⟨HJ.out.1 _ _ _ q1 ((Below.refl _ wr).alloc q2.size _), q2.trans (hcA.mono (by simp)), (hcA.block ab (heap_lt q3) (by simp)).trans q3, (hcA.cell (p := ⟨yb, 0, none⟩) (World.block_lt_of_cell? wr ⟨yb, 0, none⟩ q4) (by simp)).trans q4⟩
     have hsA := (hcA.block sb (heap_lt hs) (by simp)).trans hs
     have cBA := (hcA.cell (p := ⟨B0, 0, none⟩) (World.block_lt_of_cell? wr ⟨B0, 0, none⟩ cB) (by simp)).trans cB
     have ibl : W.heap.size ≤ wr.heap.size := by rw [HST.out] at st; exact st.2.1.size
     have ibn : wr.heap.size ≠ ab := by rw [HST.out] at st; have := heap_lt st.2.2.1; omega
     generalize wr.alloc (.cells #[.int .i64 (k : Int)] 3) = wa at *
     obtain ⟨ib, hib⟩ : ∃ ib, ib = wr.heap.size := ⟨_, rfl⟩
     rw [← hib] at kib ibl ibn ⊢
     have c0 := Sup.cell hsA (i := 2 + k) (by omega)
     have c1 := cell_of_block kib 0
     simp only [List.getElem?_toArray, List.getElem?_cons_zero] at c1
     have eS : S.valS (2 + k) = S.roots k := by unfold Sup.valS; rw [if_neg (by omega), if_neg (by omega), if_pos (by omega), Nat.add_sub_cancel_left]
     have e4 : sizS (2 + k) = 4 := by unfold sizS; rw [if_neg (by omega), if_pos (by omega)]
     rw [cellV_mk _ (by omega), eS] at c0
     unfold mkV at c0
     rw [if_neg (by omega), if_pos (by omega)] at c0
     have stD : St ab yb (2 + k) wa.drew := by
      rw [HST.out] at stA ⊢
      exact ⟨HJ.out.1 _ _ _ stA.1 ⟨rfl, rfl, rfl, Nat.le_refl _, fun _ _ => rfl⟩, stA.2.1.drew, stA.2.2.1, stA.2.2.2⟩
     have cc := STEP.out ab yb ib (2 + k) wa.drew S (.func 179) #[.pointer (some ⟨B0, 0, none⟩), .pointer (some ⟨ib, 0, none⟩)] HO.out.1 HO.out.2.1 HO.out.2.2 ibl ibn (by omega) stD hS hsA (by unfold setFn; rw [if_neg (by omega), if_neg (by omega), if_pos (by omega)]) (fun h => by rw [if_pos (by omega), Nat.add_sub_cancel_left]; exact kib)
     rw [e4, eS] at cc
     change Calls _ _ #[.int .i64 4, _, _, _, _] wa.drew _ at cc
     have E1 : IntKind.u64.wrap (S.roots k : Int) = (S.roots k : Int) := by
      have := hS.v (2 + k) (by omega)
      rw [eS, e4] at this
      change S.roots k < 256 ^ 4 at this
      rw [IntKind.wrap_u64]; omega
     have CC := Lib.hid cc
     clear cc hcA hcs stA stD hsA cB hib ibl ibn kib hs st
     go_region_with (go_at_call 176; refine CC.out.mono ?_; clear CC c0 c1 cBA; rintro e w4 ⟨b, rfl, HR⟩)
     all_goals
      rcases HR.out with ⟨rfl, st1⟩ | ⟨rfl, jx⟩
      ·go_wp2_with fail
       go_roundg (8 - (k + 1))
       case measure => omega
       case rel => exact ⟨k + 1, rfl, by omega, by go_num, st1⟩
      ·go_wp2_with fail
       refine bodyPost_ret (results_none rfl _ _ _) rfl ?_
       exact ⟨⟨_, rfl⟩, .inr ⟨2 + k + 1, by omega, jx⟩⟩
    ·obtain rfl : k = 8 := by omega
     go_wp2_with fail
     go_loopg [42] 8 (fun gg s wr => ∃ k : Nat, gg = 8 - k ∧ k ≤ 8 ∧ s = .int .i64 (k : Int) ∧ St ab yb (10 + k) wr)
     case atStart => exact ⟨0, rfl, Nat.zero_le _, by go_num, st⟩
     case round =>
      clear st
      obtain ⟨k, hgg, hk8, rfl, st⟩ := hrel
      by_cases hk : k < 8
      ·have i1 : (k : Int) < 8 := by omega
       have cB := HCB.out _ wr st
       obtain ⟨S, hS, hs⟩ := HSO.out _ wr st
       go_upto_region 12 with fail
       have hcA := (Chg.refl [] wr).alloc (.cells #[.int .i64 (k : Int)] 3)
       have kib := new_block wr (.cells #[.int .i64 (k : Int)] 3)
       have hcs := hcA.size
       have stA : St ab yb (10 + k) (wr.alloc (.cells #[.int .i64 (k : Int)] 3)) := by
        rw [HST.out] at st ⊢
        obtain ⟨q1, q2, q3, q4⟩ := st
        exact ⟨HJ.out.1 _ _ _ q1 ((Below.refl _ wr).alloc q2.size _), q2.trans (hcA.mono (by simp)), (hcA.block ab (heap_lt q3) (by simp)).trans q3, (hcA.cell (p := ⟨yb, 0, none⟩) (World.block_lt_of_cell? wr ⟨yb, 0, none⟩ q4) (by simp)).trans q4⟩
       have hsA := (hcA.block sb (heap_lt hs) (by simp)).trans hs
       have cBA := (hcA.cell (p := ⟨B0, 0, none⟩) (World.block_lt_of_cell? wr ⟨B0, 0, none⟩ cB) (by simp)).trans cB
       have ibl : W.heap.size ≤ wr.heap.size := by rw [HST.out] at st; exact st.2.1.size
       have ibn : wr.heap.size ≠ ab := by rw [HST.out] at st; have := heap_lt st.2.2.1; omega
       generalize wr.alloc (.cells #[.int .i64 (k : Int)] 3) = wa at *
       obtain ⟨ib, hib⟩ : ∃ ib, ib = wr.heap.size := ⟨_, rfl⟩
       rw [← hib] at kib ibl ibn ⊢
       have c0 := Sup.cell hsA (i := 10 + k) (by omega)
       have c1 := cell_of_block kib 0
       simp only [List.getElem?_toArray, List.getElem?_cons_zero] at c1
       have eS : S.valS (10 + k) = S.marks k := by unfold Sup.valS; rw [if_neg (by omega), if_neg (by omega), if_neg (by omega), Nat.add_sub_cancel_left]
       have e4 : sizS (10 + k) = 8 := by unfold sizS; rw [if_neg (by omega), if_neg (by omega)]
       rw [cellV_mk _ (by omega), eS] at c0
       unfold mkV at c0
       rw [if_neg (by omega), if_neg (by omega)] at c0
       have stD : St ab yb (10 + k) wa.drew := by
        rw [HST.out] at stA ⊢
        exact ⟨HJ.out.1 _ _ _ stA.1 ⟨rfl, rfl, rfl, Nat.le_refl _, fun _ _ => rfl⟩, stA.2.1.drew, stA.2.2.1, stA.2.2.2⟩
       have cc := STEP.out ab yb ib (10 + k) wa.drew S (.func 180) #[.pointer (some ⟨B0, 0, none⟩), .pointer (some ⟨ib, 0, none⟩)] HO.out.1 HO.out.2.1 HO.out.2.2 ibl ibn (by omega) stD hS hsA (by unfold setFn; rw [if_neg (by omega), if_neg (by omega), if_neg (by omega)]) (fun h => by rw [if_neg (by omega), Nat.add_sub_cancel_left]; exact kib)
       rw [e4, eS] at cc
       change Calls _ _ #[.int .i64 8, _, _, _, _] wa.drew _ at cc
       have CC := Lib.hid cc
       clear cc hcA hcs stA stD hsA cB hib ibl ibn kib hs st
       go_region_with (go_at_call 176; refine CC.out.mono ?_; clear CC c0 c1 cBA; rintro e w4 ⟨b, rfl, HR⟩)
       all_goals
        rcases HR.out with ⟨rfl, st1⟩ | ⟨rfl, jx⟩
        ·go_wp2_with fail
         go_roundg (8 - (k + 1))
         case measure => omega
         case rel => exact ⟨k + 1, rfl, by omega, by go_num, st1⟩
        ·go_wp2_with fail
         refine bodyPost_ret (results_none rfl _ _ _) rfl ?_
         exact ⟨⟨_, rfl⟩, .inr ⟨10 + k + 1, by omega, jx⟩⟩
      ·obtain rfl : k = 8 := by omega
       go_wp2_with fail
       go_end0
       rw [HST.out] at st
       exact ⟨⟨_, rfl⟩, .inl st.1⟩
  ·go_wp2_with fail
   refine bodyPost_ret (results_none rfl _ _ _) rfl ?_
   exact ⟨⟨_, rfl⟩, .inr ⟨2, by omega, jx⟩⟩
 ·go_wp2_with fail
  refine bodyPost_ret (results_none rfl _ _ _) rfl ?_
  exact ⟨⟨_, rfl⟩, .inr ⟨1, by omega, jx⟩⟩
end Go.Proofs.YtkhcaclndepgbaaGreat
