/- leaf.kids. -/
import Derived.Test.YtjceoheiiohfcaaCompact
namespace Go.Proofs.Ytjceoheiiohfcaa
open Go.RowKit
set_option linter.unusedVariables false
set_option linter.unusedSimpArgs false

theorem good_sorted {f : Nat → Nat} {n : Nat} (hs : sortedTo f n) (h1 : 1 ≤ n) : Good f n ↔ f 0 ≠ 0 ∧ f (n - 1) < 4096 ∧ Apart f n := by
  constructor
  · rintro ⟨a, b⟩
    exact ⟨(a 0 (by omega)).1, (a (n - 1) (by omega)).2, fun i hi => b i (i + 1) (by omega) hi⟩
  · rintro ⟨a, b, c⟩
    refine ⟨fun i hi => ⟨?_, ?_⟩, fun i j hij hj => ?_⟩
    · by_cases e : i = 0
      · subst e; exact a
      · have := hs 0 i (by omega) hi; omega
    · by_cases e : i = n - 1
      · subst e; exact b
      · have := hs i (n - 1) (by omega) (by omega); omega
    · have h2 := c i (by omega)
      have h3 := hs i (i + 1) (by omega) (by omega)
      by_cases e : j = i + 1
      · subst e; exact h2
      · have := hs (i + 1) j (by omega) hj; omega

/-- What kids answers. -/
def kidsB (f : Nat → Nat) (n : Nat) : Bool := decide (1 ≤ n) && ((List.range n).all (fun i => decide (f i ≠ 0 ∧ f i < 4096)) && (List.range n).all (fun j => (List.range j).all fun i => decide (f i ≠ f j)))
theorem kidsB_iff (f : Nat → Nat) (n : Nat) : kidsB f n = true ↔ (1 ≤ n ∧ Good f n) := by
  simp only [kidsB, Good, Bool.and_eq_true, decide_eq_true_eq, List.all_eq_true, List.mem_range]
  constructor
  · rintro ⟨a, b, c⟩
    exact ⟨a, b, fun i j hij hj => c j hj i hij⟩
  · rintro ⟨a, b, c⟩
    exact ⟨a, b, fun j hj i hij => c i j hij hj⟩
theorem kidsB_eq {f : Nat → Nat} {n : Nat} {b : Bool} (h : (1 ≤ n ∧ Good f n) ↔ b = true) : kidsB f n = b := by
  rw [Bool.eq_iff_iff, kidsB_iff]
  exact h

set_option maxRecDepth 20000 in
set_option maxHeartbeats 2000000 in
theorem kids_at {A : List Nat} {w : World} {v : Value} {n : Nat} {f : Nat → Nat} (h : NumsIn A w v n f) (hn : n ≤ 12) :
    Calls Try.prog 33 #[v] w fun e w' => e = .returned (.bool (kidsB f n)) ∧ Chg [] w w' := by
  by_cases h0 : n = 0
  · subst h0
    have hk : kidsB f 0 = false := kidsB_eq (by simp)
    have c1 : Calls Try.prog 39 #[v] w (NoneLeft w) := by
      rcases h with ⟨⟨a, c, rfl, _, hn⟩, _⟩ | ⟨b, off, cap, rfl, _⟩
      · cases a with
        | none =>
          obtain rfl := hn rfl
          exact clone64_none
        | some x => exact clone64_empty
      · exact clone64_empty
    obtain ⟨a, cap, rfl⟩ := h.len
    rw [hk]
    clear hk h
    go_enter Try.func33, Try.ntmps33
    go_wp2_with fail
    refine c1.mono ?_
    clear c1
    rintro e w1 ⟨a', c', rfl, hC1⟩
    have HC1 := Lib.hid hC1
    clear hC1
    go_wp2_with fail
    refine sort_none.mono ?_
    rintro e w' ⟨rfl, rfl⟩
    go_wp2_with fail
    go_ret
    exact ⟨rfl, HC1.out⟩
  · rcases h with ⟨_, h⟩ | ⟨b, off, cap, rfl, q1, q2, q3, q4, hN⟩
    · exact absurd h h0
    · have h1 : 1 ≤ n := by omega
      have HN := Lib.hid hN
      have hz : ((n : Int) == 0) = false := by simp; omega
      clear hN h0
      go_enter Try.func33, Try.ntmps33
      go_wp2_with fail
      refine (clone64_at HN.out (by omega) h1).mono ?_
      rintro e w1 ⟨g, c, rfl, r1, r2, r3, hR, hC1⟩
      have HR := Lib.hid hR
      have HC1 := Lib.hid hC1
      unfold maxLen at r2
      clear hR hC1
      go_wp2_with fail
      refine (sort_at HR.out hn r1).mono ?_
      rintro e w2 ⟨rfl, f', hR2, hs, hG, hC2⟩
      have HR2 := Lib.hid hR2
      have HG := Lib.hid (hG.symm.trans (good_sorted hs h1))
      have Hs := Lib.hid hs
      have HC2 := Lib.hid (HC1.out.then hC2 (by simp; exact r3))
      clear hR2 hs hG hC2
      have c0 := HR2.out.cell (i := 0) (by omega)
      obtain ⟨k, hk⟩ : ∃ k, n = k + 1 := ⟨n - 1, by omega⟩
      have ck := HR2.out.cell (i := k) (by omega)
      have e1 : (n : Int) - 1 = (k : Int) := by omega
      have i0 : (0 : Int) ≤ (k : Int) := by omega
      have i1 : (k : Int) < (n : Int) := by omega
      have i2 : (0 : Int) < (n : Int) := by omega
      have ek : n - 1 = k := by omega
      rw [ek] at HG
      clear hk ek
      by_cases z0 : f' 0 = 0
      · have hd : ((f' 0 : Int) == 0) = true := by simp [z0]
        have E := Lib.hid (kidsB_eq (f := f) (n := n) (b := false) ⟨fun q => absurd z0 (HG.out.1 q.2).1, fun q => by cases q⟩)
        clear z0
        go_wp2_with fail
        go_ret
        exact ⟨by rw [E.out]; rfl, HC2.out⟩
      · have hd : ((f' 0 : Int) == 0) = false := by simp; omega
        by_cases z1 : f' k < 4096
        · have hd2 : ¬ (4096 : Int) ≤ (f' k : Int) := by omega
          have Hz := Lib.hid (And.intro z0 z1)
          clear z0 z1
          go_wp2_with fail
          refine (compact_at HR2.out h1 hn r1 (by omega)).mono ?_
          rintro e w3 ⟨m, rfl, m1, m2, hC3⟩
          have HC3 := Lib.hid (HC2.out.then hC3 (by simp; exact r3))
          have M2 := Lib.hid m2
          clear m2 hC3
          by_cases hmn : m = n
          · have hdm : ((m : Int) == (n : Int)) = true := by simp; omega
            have E := Lib.hid (kidsB_eq (f := f) (n := n) (b := true) ⟨fun _ => rfl, fun _ => ⟨h1, HG.out.2 ⟨Hz.out.1, Hz.out.2, M2.out.1 hmn⟩⟩⟩)
            clear hmn
            go_wp2_with fail
            go_ret
            exact ⟨by rw [E.out]; simp, HC3.out⟩
          · have hdm : ((m : Int) == (n : Int)) = false := by simp; omega
            have E := Lib.hid (kidsB_eq (f := f) (n := n) (b := false) ⟨fun q => absurd (M2.out.2 (HG.out.1 q.2).2.2) hmn, fun q => by cases q⟩)
            clear hmn
            go_wp2_with fail
            go_ret
            exact ⟨by rw [E.out]; simp, HC3.out⟩
        · have hd2 : (4096 : Int) ≤ (f' k : Int) := by omega
          have E := Lib.hid (kidsB_eq (f := f) (n := n) (b := false) ⟨fun q => absurd (HG.out.1 q.2).2.1 z1, fun q => by cases q⟩)
          clear z0 z1
          go_wp2_with fail
          go_ret
          exact ⟨by rw [E.out]; rfl, HC2.out⟩

end Go.Proofs.Ytjceoheiiohfcaa
