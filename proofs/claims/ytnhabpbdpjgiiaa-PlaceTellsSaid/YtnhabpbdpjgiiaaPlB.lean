/- Layer 10: a list's clone, which ones are so, whether a sheet is right. -/
import Derived.Test.YtnhabpbdpjgiiaaPlA
import Derived.Test.YtnhabpbdpjgiiaaChgW
namespace Go.Proofs.Ytnhabpbdpjgiiaa
open Go.RowKit
set_option linter.unusedVariables false
set_option linter.unusedSimpArgs false

theorem own_empty (w : World) : (w.alloc (.cells #[] 3)).ownsRow w.heap.size 3 1 (.slice (some ⟨w.heap.size, 0, none⟩) 0 0) 0 [] :=
  ⟨rfl, .inr ⟨w.heap.size, 0, #[], rfl, Nat.le_refl _, new_block w _, Nat.zero_le _, by unfold maxLen; omega, rfl, rfl⟩⟩

set_option maxRecDepth 20000 in
theorem cloneI_at {w : World} {g c n : Nat} {l : List Nat} (e : n = l.length) (h : SlI w (.slice (some ⟨g, 0, none⟩) n c) l) (hl : l.length ≤ 10000) :
    Calls Try.prog 40 #[.slice (some ⟨g, 0, none⟩) n c] w fun e w' => ∃ v, e = .returned v ∧ w'.ownsRow w.heap.size 3 1 v l.length (intVs l) ∧ Chg [] w w' := by
  subst e
  have H := Lib.hid h
  clear h
  have hnil := fun w => Lib.run_eql_slice_nil (P := Try.prog) w 31 3 (some ⟨g, 0, none⟩) l.length c 0 0 Try.underlying31
  simp only [Option.isNone_some] at hnil
  have HE := Lib.hid (own_empty w)
  have HC0 := Lib.hid ((Chg.refl [] w).alloc (.cells #[] 3))
  go_enter Try.func40, Try.ntmps40
  go_wp2_with (at_builtin; refine wpList_appI rfl _ _ rfl w.heap.size _ [] rfl HE.out g c l rfl (H.out.chg HC0.out (by simp)) (by simp; omega) (by simp) ?_; intro v' w2 hown2 hg2; have HOWN2 := Lib.hid hown2; have HC2 := Lib.hid (HC0.out.grown hg2 (fun k hk => .inr (HE.out.lt k hk).1)); clear hown2 hg2)
  go_ret
  exact ⟨_, rfl, HOWN2.out, HC2.out⟩

/-- The places of those of the first k that are so. -/
def yesTo (p : Nat → Bool) (k : Nat) : List Nat := (List.range k).filter p
theorem yesTo_hit {p : Nat → Bool} {k : Nat} (h : p k = true) : yesTo p (k + 1) = yesTo p k ++ [k] := by simp [yesTo, List.range_succ, List.filter_append, h]
theorem yesTo_miss {p : Nat → Bool} {k : Nat} (h : p k = false) : yesTo p (k + 1) = yesTo p k := by simp [yesTo, List.range_succ, List.filter_append, h]
theorem yesTo_le (p : Nat → Bool) (k : Nat) : (yesTo p k).length ≤ k := Nat.le_trans (List.length_filter_le _ _) (by simp)
theorem mem_yesTo {p : Nat → Bool} {k b : Nat} : b ∈ yesTo p k ↔ b < k ∧ p b = true := by simp [yesTo]

set_option maxRecDepth 20000 in
theorem which_at {w : World} {h n : Nat} {p : Nat → Bool} (hb : w.heap[h]? = some (.cells (bools n p) 4 (0, 0))) (hn : n ≤ 4096) :
    Calls Try.prog 44 #[.slice (some ⟨h, 0, none⟩) n n] w fun e w' => ∃ v, e = .returned v ∧ w'.ownsRow w.heap.size 3 1 v (yesTo p n).length (intVs (yesTo p n)) ∧ Chg [] w w' := by
  have HB := Lib.hid hb
  have lh := heap_lt hb
  clear hb
  go_enter Try.func44, Try.ntmps44
  go_wp2_with fail
  go_loopw [3, 8] (fun v s wr => ∃ k : Nat, k ≤ n ∧ s = .int .i64 (k : Int) ∧ Hid (wr.ownsRow w.heap.size 3 1 v (yesTo p k).length (intVs (yesTo p k)) ∧ Chg [] w wr)) (fun _ s _ => n - (intOf s).toNat)
  case atStart => exact ⟨0, Nat.zero_le _, rfl, ⟨World.ownsRow_nil _ _ _ _, Chg.refl _ _⟩⟩
  case round =>
    obtain ⟨k, hk, rfl, hH⟩ := hrel
    have hown := hH.out.1
    have hC := hH.out.2
    have HOW := Lib.hid hown
    have HCW := Lib.hid hC
    have hsz := hC.size
    have HBK := Lib.hid (fun k hk => (hown.lt k hk).1 : ∀ k, (Value.ownBlock _ = some k) → w.heap.size ≤ k)
    by_cases hlt : k < n
    · have hcell := (hC.cell (p := ⟨h, k, none⟩) lh (by simp)).trans ((cell_of_block HB.out k).trans (bools_get hlt))
      have hyl := yesTo_le p k
      clear hown hC hH
      cases hp : p k with
      | true =>
        rw [hp] at hcell
        have HY := Lib.hid (yesTo_hit hp)
        have HN := Lib.hid (new_block wr (.cells #[.int .i64 (k : Int)] 3))
        go_wp2_with (at_builtin; refine wpList_app1 _ rfl _ _ 31 rfl w.heap.size 3 (.int .i64 0) 8 Try.underlying31 infoInt8 rfl _ _ _ rfl (own_chg HOW.out ((Chg.refl [] wr).alloc _) (by simp)) wr.heap.size 1 (.int .i64 (k : Int)) rfl (cell_of_block HN.out 0) rfl (by omega) (by omega) (by simp; omega) ?_; intro v' w2 hown2 hg2; have HOWN2 := Lib.hid hown2; have HC2 := Lib.hid ((HCW.out.alloc _).grown hg2 (fun k hk => .inr (HBK.out k hk))); clear hown2 hg2)
        go_roundw
        case rel => exact ⟨k + 1, by omega, by go_num, ⟨by rw [HY.out, intVs_app, List.length_append]; exact HOWN2.out, HC2.out⟩⟩
        case measure => simp [intOf]; omega
      | false =>
        rw [hp] at hcell
        have HY := Lib.hid (yesTo_miss hp)
        go_wp2_with fail
        go_roundw
        case rel => exact ⟨k + 1, by omega, by go_num, ⟨by rw [HY.out]; exact HOW.out, HCW.out⟩⟩
        case measure => simp [intOf]; omega
    · obtain rfl : k = n := by omega
      clear hown hC hH
      go_wp2_with fail
      go_ret
      exact ⟨_, rfl, HOW.out, HCW.out⟩

end Go.Proofs.Ytnhabpbdpjgiiaa
