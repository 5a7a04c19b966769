/- catchmentlaw08.same: two lists of numbers. -/
import Derived.Test.YtnhabpbdpjgiiaaBackW
import Derived.Test.YtnhabpbdpjgiiaaQ
namespace Go.Proofs.Ytnhabpbdpjgiiaa
open Go.RowKit
set_option linter.unusedVariables false
set_option linter.unusedSimpArgs false

theorem changed_sl {w : World} {t bc bk : Nat} {T : Tal} (h : TallyAt w t bc bk T) :
    Calls Try.prog 28 #[.pointer (some ⟨t, 0, none⟩)] w fun e w' => ∃ v, e = .returned v ∧
      SlI w' v (chgs T) ∧ (∀ g, v.ownBlock = some g → w.heap.size ≤ g) ∧ Chg [] w w' :=
  (changed_at h).mono fun _ _ ⟨v, he, ho, hb⟩ => ⟨v, he, SlI.of_own ho, fun g hg => (ownBlock_new ho g hg).1, Chg.of_below hb⟩

theorem SlI.get {w : World} {a : Option Addr} {n cap : Nat} {l : List Nat} (h : SlI w (.slice a n cap) l) : n = l.length ∧ ∀ i, i < n → ∃ g, a = some ⟨g, 0, none⟩ ∧ w.cell? ⟨g, i, none⟩ = some (.int .i64 ((l.getD i 0 : Nat) : Int)) := by
  rcases h with ⟨hv, rfl⟩ | ⟨g, cap', hv, _, _, _, hc⟩
  · cases hv; exact ⟨rfl, fun i hi => by omega⟩
  · injection hv with h1 h2 h3
    subst h1 h2
    exact ⟨rfl, fun i hi => ⟨g, rfl, hc i hi⟩⟩

theorem list_ext_getD {l m : List Nat} (hl : l.length = m.length) (h : ∀ i, i < l.length → l.getD i 0 = m.getD i 0) : l = m := by
  apply List.ext_getElem hl
  intro i h1 h2
  have := h i h1
  simpa [List.getD_eq_getElem?_getD, List.getElem?_eq_getElem h1, List.getElem?_eq_getElem h2] using this

set_option maxRecDepth 20000 in
set_option maxHeartbeats 2000000 in
theorem same_at {w : World} {v1 v2 : Value} {l1 l2 : List Nat} (h1 : SlI w v1 l1) (h2 : SlI w v2 l2) (hb1 : l1.length ≤ 4096) (hb2 : l2.length ≤ 4096) :
    Calls Try.prog 22 #[v1, v2] w fun e w' => e = .returned (.bool (decide (l1 = l2))) ∧ Chg [] w w' := by
  obtain ⟨a, c, rfl⟩ := h1.len
  obtain ⟨b, d, rfl⟩ := h2.len
  by_cases hl : l1.length = l2.length
  · have hlb : (((l1.length : Nat) : Int) != ((l2.length : Nat) : Int)) = false := by simp; omega
    have Hl := Lib.hid hl
    clear hl
    go_enter Try.func22, Try.ntmps22
    go_wp2_with fail
    go_loopw [13] (fun s wr => ∃ i : Nat, i ≤ l1.length ∧ s = .int .i64 (i : Int) ∧ (∀ j, j < i → l1.getD j 0 = l2.getD j 0) ∧ Chg [] w wr) (fun s _ => l1.length - (intOf s).toNat)
    case atStart => exact ⟨0, Nat.zero_le _, rfl, fun j hj => by omega, Chg.refl _ _⟩
    case round =>
      obtain ⟨i, hi, rfl, hall, hC⟩ := hrel
      have Hall := Lib.hid hall
      have HC := Lib.hid hC
      clear hall hC
      by_cases hlt : i < l1.length
      · have hr1 := h1.chg HC.out (by simp)
        have hr2 := h2.chg HC.out (by simp)
        have hlt2 : i < l2.length := by rw [← Hl.out]; exact hlt
        obtain ⟨g1, rfl, c1⟩ := hr1.get.2 i hlt
        obtain ⟨g2, rfl, c2⟩ := hr2.get.2 i hlt2
        have n1 : l1.length ≤ c := by rcases h1 with ⟨hv, _⟩ | ⟨_, _, hv, hc, _⟩ <;> cases hv; exact hc
        have n2 : l2.length ≤ d := by rcases h2 with ⟨hv, _⟩ | ⟨_, _, hv, hc, _⟩ <;> cases hv; exact hc
        have i1 : (i : Int) < (l1.length : Int) := by omega
        have i2 : (i : Int) < (l2.length : Int) := by omega
        have i0 : (0 : Int) ≤ (i : Int) := by omega
        by_cases he : l1.getD i 0 = l2.getD i 0
        · have hd : (((l1.getD i 0 : Nat) : Int) != ((l2.getD i 0 : Nat) : Int)) = false := by simp only [bne_eq_false_iff_eq]; omega
          have He := Lib.hid he
          clear he hr1 hr2
          obtain ⟨x, hx⟩ : ∃ x, l1.getD i 0 = x := ⟨_, rfl⟩
          obtain ⟨y, hy⟩ : ∃ y, l2.getD i 0 = y := ⟨_, rfl⟩
          rw [hx] at c1 hd
          rw [hy] at c2 hd
          clear hx hy
          go_wp2_with fail
          go_quiet (fail)
          go_wp2_with fail
          go_roundw
          case rel =>
            refine ⟨i + 1, by omega, by go_num, fun j hj => ?_, HC.out.drewN _⟩
            by_cases e : j = i
            · subst e; exact He.out
            · exact Hall.out j (by omega)
          case measure => simp [intOf]; omega
        · have hd : (((l1.getD i 0 : Nat) : Int) != ((l2.getD i 0 : Nat) : Int)) = true := by simp only [bne_iff_ne]; omega
          have hne : decide (l1 = l2) = false := by
            rw [decide_eq_false_iff_not]
            rintro rfl
            exact he rfl
          have Hne := Lib.hid hne
          clear he hr1 hr2 hne
          generalize l1.getD i 0 = x at *
          generalize l2.getD i 0 = y at *
          go_wp2_with fail
          go_quiet (fail)
          go_wp2_with fail
          go_ret
          exact ⟨by rw [Hne.out]; rfl, HC.out.drewN _⟩
      · obtain rfl : i = l1.length := by omega
        have he : decide (l1 = l2) = true := by rw [decide_eq_true_iff]; exact list_ext_getD Hl.out Hall.out
        have He := Lib.hid he
        clear he
        go_wp2_with fail
        go_ret
        exact ⟨by rw [He.out]; rfl, HC.out⟩
  · have hlb : (((l1.length : Nat) : Int) != ((l2.length : Nat) : Int)) = true := by simp; omega
    have hne : decide (l1 = l2) = false := by
      rw [decide_eq_false_iff_not]
      rintro rfl
      exact hl rfl
    have Hne := Lib.hid hne
    clear hl hne
    go_enter Try.func22, Try.ntmps22
    go_wp2_with fail
    go_ret
    exact ⟨by rw [Hne.out]; rfl, Chg.refl _ _⟩

end Go.Proofs.Ytnhabpbdpjgiiaa
