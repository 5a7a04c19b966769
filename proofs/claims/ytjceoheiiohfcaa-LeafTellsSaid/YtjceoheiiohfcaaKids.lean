/- slices.Clone, Sort (of nothing), Compact at []uint64. -/
import Derived.Test.YtjceoheiiohfcaaSrt64
import Derived.Lib.SliceRun
namespace Go.Proofs.Ytjceoheiiohfcaa
open Go.RowKit
set_option linter.unusedVariables false
set_option linter.unusedSimpArgs false

theorem infoU64 : (Try.prog.info? 43).map (fun i => (i.zero, i.size, i.bytes)) = some (some (.int .u64 0), 1, 8) := by kernel_rfl

theorem nums_append {w : World} {b off n : Nat} {f : Nat → Nat} (h : NumsAt w b off n f) : ∀ j u, ((List.range n).map fun i => Value.int .u64 (f i : Int))[j]? = some u → w.cell? ((⟨b, off, none⟩ : Addr).add j) = some u := by
  intro j u hj
  simp only [List.getElem?_map] at hj
  by_cases hlt : j < n
  · simp [hlt] at hj
    subst hj
    have e : (⟨b, off, none⟩ : Addr).add j = ⟨b, off + j, none⟩ := by unfold Addr.add; split <;> simp_all
    rw [e]
    exact (h j hlt).1
  · simp [hlt] at hj

set_option maxRecDepth 20000 in
set_option maxHeartbeats 1000000 in
theorem clone64_at {w : World} {b off n cap : Nat} {f : Nat → Nat} (h : NumsAt w b off n f) (hn : n ≤ 100000) (h0 : 0 < n) :
    Calls Try.prog 39 #[.slice (some ⟨b, off, none⟩) n cap] w fun e w' => ∃ g c, e = .returned (.slice (some ⟨g, 0, none⟩) n c) ∧ n ≤ c ∧ c ≤ maxLen ∧ w.heap.size ≤ g ∧ Row64 w' g n f ∧ Chg [] w w' := by
  have hb2 := h.chg ((Chg.refl [] w).alloc (.cells #[] 43)) (by simp)
  have Hn := Lib.hid (nums_append hb2)
  have H := Lib.hid h
  obtain ⟨i0, hi, hz0, hz1, hz2⟩ := info_parts infoU64
  have Hi := Lib.hid hi
  have he := fun w : World => Lib.run_eql_slice_nil (P := Try.prog) w 22 43 (some ⟨b, off, none⟩) n cap 0 0 Try.underlying22
  clear h hb2 hi
  go_enter Try.func39, Try.ntmps39
  go_wp2_with (at_builtin; refine wpList_append_own _ rfl _ _ 22 rfl w.heap.size 43 i0 (.int .u64 0) 1 8 Try.underlying22 Hi.out hz0 hz1 hz2 rfl (by decide) _ 0 [] rfl (World.ownsRow_made w #[] 0 (Nat.le_refl _) (Nat.zero_le _) rfl) ⟨b, off, none⟩ n cap ((List.range n).map fun i => Value.int .u64 (f i : Int)) rfl ?c0 Hn.out ?c1 ?c2 ?c3 ?c4 ?_)
  case c0 => simp
  case c1 => intro u hu; obtain ⟨a, _, rfl⟩ := List.mem_map.1 hu; rfl
  case c2 => unfold maxLen; omega
  case c3 => omega
  case c4 => simp
  intro v' w1 hown hgrow _
  obtain ⟨g, c, cur, rfl, q1, q2, q3, q4, q5, q6⟩ := app_some' (n := n) (xs := (List.range n).map fun i => Value.int .u64 (f i : Int)) (by rw [Nat.zero_add, List.nil_append]; exact hown) h0
  have HO := Lib.hid (And.intro q2 q6)
  have HG := Lib.hid hgrow
  clear q2 q6 hown hgrow
  go_wp2_with fail
  go_ret
  refine ⟨g, c, rfl, q3, q4, q1, ⟨fun i hi => ⟨?_, (H.out i hi).2⟩, cur, HO.out.1⟩, ?_⟩
  · rw [cell_of_block HO.out.1, Nat.zero_add]
    have := congrArg (fun l => l[i]?) HO.out.2
    simp only [List.getElem?_take, if_pos hi, List.getElem?_map, List.getElem?_range hi, Option.map_some, Array.getElem?_toList] at this
    exact this
  · exact ((Chg.refl [] w).alloc _).grown HG.out (fun k hk => .inr (by simp [Value.ownBlock] at hk; omega))

def NoneLeft (w : World) (e : Ending) (w' : World) : Prop := ∃ a c, e = .returned (.slice a 0 c) ∧ Chg [] w w'
set_option maxRecDepth 20000 in
set_option maxHeartbeats 1000000 in
theorem clone64_none {w : World} : Calls Try.prog 39 #[.slice none 0 0] w (NoneLeft w) := by
  have he := fun w : World => Lib.run_eql_slice_nil (P := Try.prog) w 22 43 none 0 0 0 0 Try.underlying22
  go_enter Try.func39, Try.ntmps39
  go_wp2_with fail
  go_ret
  exact ⟨_, _, rfl, Chg.refl _ _⟩

set_option maxRecDepth 20000 in
set_option maxHeartbeats 1000000 in
theorem clone64_empty {w : World} {x : Addr} {cap : Nat} : Calls Try.prog 39 #[.slice (some x) 0 cap] w (NoneLeft w) := by
  obtain ⟨i0, hi, hz0, hz1, hz2⟩ := info_parts infoU64
  have Hi := Lib.hid hi
  have he := fun w : World => Lib.run_eql_slice_nil (P := Try.prog) w 22 43 (some x) 0 cap 0 0 Try.underlying22
  clear hi
  go_enter Try.func39, Try.ntmps39
  go_wp2_with (at_builtin; refine wpList_append_own _ rfl _ _ 22 rfl w.heap.size 43 i0 (.int .u64 0) 1 8 Try.underlying22 Hi.out hz0 hz1 hz2 rfl (by decide) _ 0 [] rfl (World.ownsRow_made w #[] 0 (Nat.le_refl _) (Nat.zero_le _) rfl) x 0 cap [] rfl rfl (by simp) (by simp) (by decide) (by decide) ?c4 ?_)
  case c4 => simp
  intro v' w1 hown hgrow _
  have HC : Hid (Chg [] w w1) := Lib.hid (((Chg.refl [] w).alloc _).grown hgrow (fun k hk => .inr (by simp [Value.ownBlock] at hk; omega)))
  obtain ⟨a, c, rfl⟩ : ∃ a c, v' = .slice a 0 c := by
    rcases hown.2 with ⟨h, _⟩ | ⟨g, cap, cur, h, _⟩
    · exact ⟨none, 0, h⟩
    · exact ⟨_, _, h⟩
  clear hown hgrow
  go_wp2_with fail
  go_ret
  exact ⟨_, _, rfl, HC.out⟩

set_option maxRecDepth 20000 in
set_option maxHeartbeats 1000000 in
theorem sort_none {w : World} {a : Option Addr} {c : Nat} : Calls Try.prog 40 #[.slice a 0 c] w fun e w' => e = .returned (.tuple #[]) ∧ w = w' := by
  have h1 : ∀ w : World, Calls Try.prog 45 #[.slice a 0 c, .int .i64 0, .int .i64 0] w fun e w' => e = .returned (.tuple #[]) ∧ w = w' := fun w => by
    go_enter Try.func45, Try.ntmps45
    go_wp2_with fail
    refine wp_loop_rounds 1 ?_
    rw [rounds_succ]
    go_wp2_with fail
    go_end0
    exact ⟨rfl, rfl⟩
  have h2 : ∀ (l : Int) (w : World), Calls Try.prog 43 #[.slice a 0 c, .int .i64 0, .int .i64 0, .int .i64 l] w fun e w' => e = .returned (.tuple #[]) ∧ w = w' := fun l w => by
    go_enter Try.func43, Try.ntmps43
    go_wp2_with fail
    refine wp_loop_rounds 1 ?_
    rw [rounds_succ]
    go_wp2_with fail
    refine (h1 _).mono ?_
    rintro e w' ⟨rfl, rfl⟩
    go_wp2_with fail
    exact bodyPost_ret (v := .tuple #[]) (by simp [results, Try.results43, go_sem]) rfl ⟨rfl, rfl⟩
  go_enter Try.func40, Try.ntmps40
  go_wp2_with fail
  refine (len_at 0 _ (by omega)).mono ?_
  rintro e w' ⟨l, rfl, rfl⟩
  go_wp2_with fail
  refine (h2 l _).mono ?_
  rintro e w' ⟨rfl, rfl⟩
  go_wp2_with fail
  go_end0
  exact ⟨rfl, rfl⟩

end Go.Proofs.Ytjceoheiiohfcaa
