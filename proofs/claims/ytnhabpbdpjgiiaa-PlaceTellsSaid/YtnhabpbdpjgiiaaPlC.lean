/- Layer 10: the counts of a page; a sheet of pages that stand nowhere. -/
import Derived.Test.YtnhabpbdpjgiiaaPlP
import Derived.Test.YtnhabpbdpjgiiaaSam10
namespace Go.Proofs.Ytnhabpbdpjgiiaa
open Go.RowKit
set_option linter.unusedVariables false
set_option linter.unusedSimpArgs false

theorem infoU16 : (Try.prog.info? 22).map (fun i => (i.zero, i.size, i.bytes)) = some (some (.int .u16 0), 1, 2) := by kernel_rfl
/-- The counts of m blocks from the lo-th on. -/
def cntVs (T : Tal) (lo m : Nat) : List Value := (List.range m).map fun j => .int .u16 (T.now (lo + j) : Int)
theorem cntVs_len (T : Tal) (lo m : Nat) : (cntVs T lo m).length = m := by simp [cntVs]
theorem cntVs_succ (T : Tal) (lo m : Nat) : cntVs T lo (m + 1) = cntVs T lo m ++ [.int .u16 (T.now (lo + m) : Int)] := by simp [cntVs, List.range_succ]
theorem own_chgT {w w' : World} {base n e : Nat} {v : Value} {xs : List Value} {L : List Nat} (h : w.ownsRow base e 1 v n xs) (c : Chg L w w') (hL : ∀ k, v.ownBlock = some k → k ∉ L) : w'.ownsRow base e 1 v n xs := by
  refine ⟨h.1, ?_⟩
  rcases h.2 with h | ⟨g, cap, cur, h1, h2, h3, h4⟩
  · exact .inl h
  · exact .inr ⟨g, cap, cur, h1, h2, (c.block g (heap_lt h3) (hL g (by rw [h1]; rfl))).trans h3, h4⟩

set_option maxRecDepth 20000 in
set_option maxHeartbeats 2000000 in
theorem counts_at {w : World} {t bc bk : Nat} {T : Tal} (H : TallyAt w t bc bk T) (p : Nat) (hp : 61 * p < T.n) :
    Calls Try.prog 47 #[.pointer (some ⟨t, 0, none⟩), .int .i64 (p : Int)] w fun e w' => ∃ v, e = .returned v ∧
      w'.ownsRow w.heap.size 22 1 v (min (61 * p + 61) T.n - 61 * p) (cntVs T (61 * p) (min (61 * p + 61) T.n - 61 * p)) ∧ Chg [] w w' := by
  have n2 := H.n2
  have HH := Lib.hid H
  have p0 : ¬ (p : Int) < 0 := by omega
  have e1 : (p : Int) * 61 = ((61 * p : Nat) : Int) := by omega
  have hmi : min (((p : Int) + 1) * 61) (T.n : Int) = ((min (61 * p + 61) T.n : Nat) : Int) := by omega
  clear H
  go_enter Try.func47, Try.ntmps47
  go_wp2_with fail
  go_loopw [5, 6] (fun v s wr => ∃ m : Nat, m ≤ min (61 * p + 61) T.n - 61 * p ∧ s = .int .i64 ((61 * p + m : Nat) : Int) ∧ Hid (wr.ownsRow w.heap.size 22 1 v m (cntVs T (61 * p) m) ∧ Chg [] w wr)) (fun _ s _ => T.n - (intOf s).toNat)
  case atStart => exact ⟨0, Nat.zero_le _, by simp, ⟨World.ownsRow_nil _ _ _ _, Chg.refl _ _⟩⟩
  case round =>
    obtain ⟨m, hm, rfl, hH⟩ := hrel
    have HT := Lib.hid (HH.out.chg hH.out.2 (by simp) (by simp) (by simp))
    have HOW := Lib.hid hH.out.1
    have HCW := Lib.hid hH.out.2
    have hsz := hH.out.2.size
    have HBK := Lib.hid (fun k hk => (hH.out.1.lt k hk).1 : ∀ k, (Value.ownBlock _ = some k) → w.heap.size ≤ k)
    clear hH
    by_cases hlt : m < min (61 * p + 61) T.n - 61 * p
    · have hbn : 61 * p + m < T.n := by omega
      have i1 : ((61 * p + m : Nat) : Int) < ((min (61 * p + 61) T.n : Nat) : Int) := by omega
      have hgv := get_at HT.out ((61 * p + m : Nat) : Int)
      rw [getV_nat hbn] at hgv
      have hb := HT.out.now _ hbn
      have hw16 : IntKind.u16.wrap (T.now (61 * p + m) : Int) = (T.now (61 * p + m) : Int) := by rw [IntKind.wrap_u16]; omega
      go_wp2_with fail
      refine (blocks_at HT.out).mono ?_
      rintro e w' ⟨rfl, rfl⟩
      go_wp2_with fail
      refine hgv.mono ?_
      rintro e w' ⟨rfl, rfl⟩
      have HN := Lib.hid (new_block wr (.cells #[.int .u16 (T.now (61 * p + m) : Int)] 22))
      go_wp2_with (at_builtin; refine wpList_app1 _ rfl _ _ 75 rfl w.heap.size 22 (.int .u16 0) 2 Try.underlying75 infoU16 rfl _ _ _ rfl (own_chgT HOW.out ((Chg.refl [] wr).alloc _) (by simp)) wr.heap.size 1 (.int .u16 (T.now (61 * p + m) : Int)) rfl (cell_of_block HN.out 0) rfl (by omega) (by omega) (by simp; omega) ?_; intro v' w2 hown2 hg2; have HOWN2 := Lib.hid hown2; have HC2 := Lib.hid ((HCW.out.alloc _).grown hg2 (fun k hk => .inr (HBK.out k hk))); clear hown2 hg2)
      go_roundw
      case rel => exact ⟨m + 1, by omega, by go_num, ⟨by rw [cntVs_succ]; exact HOWN2.out, HC2.out⟩⟩
      case measure => simp [intOf]; omega
    · obtain rfl : m = min (61 * p + 61) T.n - 61 * p := by omega
      have i1 : ¬ ((61 * p + (min (61 * p + 61) T.n - 61 * p) : Nat) : Int) < ((min (61 * p + 61) T.n : Nat) : Int) := by omega
      go_wp2_with fail
      refine (blocks_at HT.out).mono ?_
      rintro e w' ⟨rfl, rfl⟩
      go_wp2_with fail
      go_ret
      exact ⟨_, rfl, HOW.out, HCW.out⟩

end Go.Proofs.Ytnhabpbdpjgiiaa
