/- The reference of octets: Seal. -/
import Derived.Test.YtjceoheiiohfcaaRefR
import Derived.Test.YtjceoheiiohfcaaApp
import Derived.Test.YtjceoheiiohfcaaLPages
namespace Go.Proofs.Ytjceoheiiohfcaa
open Go.RowKit
set_option linter.unusedVariables false
set_option linter.unusedSimpArgs false

/-- A slice of n bytes of the call's own. -/
def OwnB (w : World) (base : Nat) (v : Value) (n : Nat) (F : Nat → Nat) : Prop := w.ownsRow base 5 1 v n ((List.range n).map fun i => Value.int .u8 (F i : Int))
def catF (F : Nat → Nat) (n : Nat) (G : Nat → Nat) (i : Nat) : Nat := if i < n then F i else G (i - n)
theorem cat_list (F G : Nat → Nat) (n m : Nat) : ((List.range n).map fun i => Value.int .u8 (F i : Int)) ++ ((List.range m).map fun i => Value.int .u8 (G i : Int)) = (List.range (n + m)).map fun i => Value.int .u8 (catF F n G i : Int) := by
  apply List.ext_getElem?
  intro j
  by_cases h1 : j < n
  · rw [List.getElem?_append_left (by simpa using h1)]
    simp [h1, catF, show j < n + m by omega]
  · rw [List.getElem?_append_right (by simpa using h1)]
    by_cases h2 : j < n + m
    · simp [h2, catF, h1, show j - n < m by omega]
    · simp [h2, show ¬ j - n < m by omega]
theorem OwnB.congr {w : World} {base : Nat} {v : Value} {n : Nat} {F G : Nat → Nat} (h : OwnB w base v n F) (e : ∀ i, i < n → F i = G i) : OwnB w base v n G := by
  unfold OwnB at *
  have : ((List.range n).map fun i => Value.int .u8 (F i : Int)) = (List.range n).map fun i => Value.int .u8 (G i : Int) := List.map_congr_left fun i hi => by rw [e i (by simpa using hi)]
  rwa [this] at h
theorem OwnB.keep {w w' : World} {base : Nat} {v : Value} {n : Nat} {F : Nat → Nat} (h : OwnB w base v n F) (c : Chg [] w w') : OwnB w' base v n F := by
  refine ⟨h.1, ?_⟩
  rcases h.2 with h | ⟨g, cap, cur, h1, h2, h3, h4⟩
  · exact .inl h
  · exact .inr ⟨g, cap, cur, h1, h2, (c.block g (heap_lt h3) (by simp)).trans h3, h4⟩
theorem OwnB.out {w : World} {base : Nat} {v : Value} {n : Nat} {F : Nat → Nat} (h : OwnB w base v n F) (h0 : 0 < n) (hF : ∀ i, i < n → F i ≤ 255) :
    ∃ g c, v = .slice (some ⟨g, 0, none⟩) n c ∧ base ≤ g ∧ g < w.heap.size ∧ n ≤ c ∧ c ≤ maxLen ∧ BytesAt w g 0 n F := by
  rcases h.2 with ⟨_, h0'⟩ | ⟨g, cap, cur, h1, h2, h3, h4, h5, h6, h7⟩
  · omega
  · refine ⟨g, cap, h1, h2, heap_lt h3, h4, h5, fun k hk => ⟨?_, hF k hk⟩⟩
    rw [Nat.zero_add, cell_of_block h3]
    have := congrArg (fun l => l[k]?) h7
    rw [Nat.mul_one] at this
    simp only [List.getElem?_take, if_pos hk, List.getElem?_map, List.getElem?_range hk, Option.map_some, Array.getElem?_toList] at this
    exact this

theorem wpList_appB {w : World} {ops : Array Oper} {rest : List Oper} {o : Oper} {a : Act} {Q : Exit → Act → World → Prop} (hgd : o.guard = none) (s x : Operand)
    (ho : o.op = .call { callee := .builtin .append, args := #[s, x], argTypes := #[25, 25] })
    (base : Nat) (v : Value) (n : Nat) (F : Nat → Nat) (hs : a.eval s = v) (hown : OwnB w base v n F)
    (b off m c : Nat) (G : Nat → Nat) (hx : a.eval x = .slice (some ⟨b, off, none⟩) m c) (hin : BytesAt w b off m G) (hnm : n + m ≤ 100000) (hbase : base ≤ w.heap.size)
    (h : ∀ v' w', OwnB w' base v' (n + m) (catF F n G) → w.grownBy w' v.ownBlock → wpList Try.prog ops Q rest (a.put o.dst v') w') : wpList Try.prog ops Q (o :: rest) a w := by
  obtain ⟨i, h1, h2, h3, h4⟩ := info_parts infoU8
  refine wpList_append_own w hgd s x 25 ho base 5 i (.int .u8 0) 1 1 Try.underlying25 h1 h2 h3 h4 rfl (by decide) v n _ hs hown ⟨b, off, none⟩ m c ((List.range m).map fun i => Value.int .u8 (G i : Int)) hx (by simp) (bytes_append hin) ?_ ?_ ?_ hbase fun v' w' a1 a2 _ => h v' w' (by unfold OwnB; rw [← cat_list]; exact a1) a2
  · intro u hu
    obtain ⟨q, _, rfl⟩ := List.mem_map.1 hu
    rfl
  · unfold maxLen; omega
  · omega

/-- A byte slice that was just laid out of literals. -/
theorem own_new {w : World} {x : Nat} : OwnB (w.alloc (.cells #[.int .u8 (x : Int)] 5)) w.heap.size (.slice (some ⟨w.heap.size, 0, none⟩) 1 1) 1 (fun _ => x) :=
  ⟨rfl, .inr ⟨w.heap.size, 1, _, rfl, Nat.le_refl _, new_block w _, Nat.le_refl _, by unfold maxLen; omega, rfl, rfl⟩⟩

/-- What the reference's Seal answers. -/
def RSeal (w : World) (kind n : Nat) (f : Nat → Nat) (e : Ending) (w' : World) : Prop :=
  ∃ g c, e = .returned (.tuple #[.slice (some ⟨g, 0, none⟩) 128 c, .int .i64 0]) ∧ 128 ≤ c ∧ c ≤ maxLen ∧ w.heap.size ≤ g ∧ g < w'.heap.size ∧ BytesAt w' g 0 128 (sealP kind n f) ∧ Chg [] w w'

theorem Chg.own {w W W' : World} {base n : Nat} {v : Value} {F : Nat → Nat} (h : Chg [] w W) (hown : OwnB W base v n F) (hg : W.grownBy W' v.ownBlock) (hb : w.heap.size ≤ base) : Chg [] w W' :=
  h.grown hg fun k hk => .inr (Nat.le_trans hb (hown.lt k hk).1)

def lenOf : Value → Nat | .slice _ n _ => n | _ => 0
theorem preP_le {kind n : Nat} {f : Nat → Nat} (hk : kind ≤ 255) (hf : ∀ i, i < n → f i ≤ 255) (i : Nat) : preP kind n f i ≤ 255 := by
  unfold preP
  split
  · exact hk
  · split
    · exact hf _ (by omega)
    · omega
theorem cat_put (F : Nat → Nat) (S : Nat) : ∀ i, i < 128 → catF F 124 (bigF S 4 4) i = putF F 124 4 S i := fun i hi => by
  unfold catF putF bigF
  by_cases h : i < 124
  · rw [if_pos h, if_neg (by omega)]
  · have e : 4 - 1 - (i - 124) = 124 + 4 - 1 - i := by omega
    rw [if_neg h, if_pos (by omega), if_pos (by omega), e]
theorem cat_seal {kind n : Nat} {f : Nat → Nat} : ∀ i, i < 128 → catF (preP kind n f) 124 (bigF (sumB (preP kind n f) 124) 4 4) i = sealP kind n f i := fun i hi => by
  unfold sealP
  exact cat_put _ _ i hi

set_option maxRecDepth 20000 in
set_option maxHeartbeats 4000000 in
theorem rseal_at {w : World} {b off n cap : Nat} {f : Nat → Nat} (h : BytesAt w b off n f) (hn : n ≤ 123) (kind : Nat) (hk : kind ≤ 255) :
    Calls Try.prog 27 #[.int .u8 (kind : Int), .slice (some ⟨b, off, none⟩) n cap] w (RSeal w kind n f) := by
  have d1 : ¬ (123 : Int) < (n : Int) := by omega
  have hW := (Chg.refl [] w).alloc (.cells #[.int .u8 (kind : Int)] 5)
  have Hb := Lib.hid (h.chg hW (by simp))
  have hf : ∀ i, i < n → f i ≤ 255 := fun i hi => (h i hi).2
  have Hf := Lib.hid hf
  have HW := Lib.hid hW
  clear h hf hW
  go_enter Try.func27, Try.ntmps27
  go_wp2_with (refine wpList_appB rfl (.tmp 13) (.tmp 14) rfl w.heap.size _ 1 (fun _ => kind) rfl own_new b off n cap f rfl Hb.out (by omega) (by simp) ?_)
  intro v w1 hown hgrow
  have hown' := hown.congr (G := preP kind n f) (fun i hi => by
    unfold catF preP
    by_cases e : i = 0
    · subst e; rfl
    · rw [if_neg (by omega), if_neg e, if_pos hi])
  have HO := Lib.hid hown'
  have HC := Lib.hid (HW.out.own own_new hgrow (Nat.le_refl _))
  obtain ⟨g, c, rfl, hg, hgl, hc1, hc2, hB⟩ := HO.out.out (by omega) (fun i _ => preP_le hk Hf.out i)
  clear hown hgrow hown' Hb d1 hB
  go_wp2_with fail
  go_loopw [6] (fun s wr => ∃ g m c, s = .slice (some ⟨g, 0, none⟩) m c ∧ n + 1 ≤ m ∧ m ≤ 124 ∧ OwnB wr w.heap.size (.slice (some ⟨g, 0, none⟩) m c) m (preP kind n f) ∧ Chg [] w wr) (fun s _ => 124 - lenOf s)
  case atStart => exact ⟨g, 1 + n, c, rfl, by omega, by omega, HO.out, HC.out⟩
  case round =>
    obtain ⟨g, m, c, rfl, hm1, hm2, hO, hC⟩ := hrel
    have HO := Lib.hid hO
    have HC := Lib.hid hC
    clear hO hC
    by_cases hm : m < 124
    · have j1 : (m : Int) < 124 := by omega
      have hn1 := (Chg.refl [] wr).alloc (.cells #[.int .u8 0] 5)
      have hb0 := new_block wr (.cells #[.int .u8 0] 5)
      have HO1 := Lib.hid (HO.out.keep hn1)
      have hz : BytesAt (wr.alloc (.cells #[.int .u8 0] 5)) wr.heap.size 0 1 (fun _ => 0) := fun i hi => by
        obtain rfl : i = 0 := by omega
        exact ⟨cell_of_block hb0 0, by decide⟩
      have HZ := Lib.hid hz
      have HC1 := Lib.hid (HC.out.trans hn1)
      have hsz := HC.out.size
      clear hn1 hb0 hz
      go_wp2_with (refine wpList_appB rfl (.tmp 19) (.tmp 20) rfl w.heap.size _ m (preP kind n f) rfl HO1.out wr.heap.size 0 1 1 (fun _ => 0) rfl HZ.out (by omega) (by simp; omega) ?_)
      intro v' w2 hown hgrow
      have hown' := hown.congr (G := preP kind n f) (fun i hi => by
        unfold catF
        by_cases e : i < m
        · rw [if_pos e]
        · rw [if_neg e]
          unfold preP
          rw [if_neg (by omega), if_neg (by omega)])
      have HC2 := Lib.hid (HC1.out.own HO1.out hgrow (Nat.le_refl _))
      obtain ⟨g', c', rfl, _⟩ := hown'.out (by omega) (fun i _ => preP_le hk Hf.out i)
      have HO2 := Lib.hid hown'
      clear hown hgrow hown'
      go_wp2_with fail
      go_roundw
      case rel => exact ⟨g', m + 1, c', rfl, by omega, by omega, HO2.out, HC2.out⟩
      case measure => simp [lenOf]; omega
    · obtain rfl : m = 124 := by omega
      obtain ⟨g0, c0, e0, hg, hgl, hc1, hc2, hB⟩ := HO.out.out (by omega) (fun i _ => preP_le hk Hf.out i)
      injection e0 with e0 _ e1
      injection e0 with e0
      injection e0 with e0
      subst e0 e1
      have cS := rsum_at (cap := c) hB (by omega)
      have hlt := sumB_lt (preP kind n f) 124
      obtain ⟨S, hS⟩ : ∃ S, sumB (preP kind n f) 124 = S := ⟨_, rfl⟩
      rw [hS] at cS hlt
      have HS := Lib.hid hS
      have cB := rbytes_at S 4 (by omega) (by omega) wr
      have u1 : IntKind.u64.wrap (S : Int) = (S : Int) := by rw [IntKind.wrap_u64]; omega
      clear hS hB
      go_wp2_with fail
      refine cS.mono ?_
      clear cS
      rintro e w' ⟨rfl, rfl⟩
      go_wp2_with fail
      refine cB.mono ?_
      clear cB
      rintro e w2 ⟨bb, rfl, hB2, hC2⟩
      have HO2 := Lib.hid (HO.out.keep hC2)
      have HB2 := Lib.hid hB2
      have HC2 := Lib.hid (HC.out.trans hC2)
      have hbb := BytesAt.of_block hB2 (fun i _ => by unfold bigF; split; exact byteAt_le _ _; omega) (off := 0) (n := 4) (by omega)
      simp only [Nat.zero_add] at hbb
      have HBB := Lib.hid hbb
      have hsz := HC2.out.size
      clear hB2 hC2 hbb
      go_wp2_with (refine wpList_appB rfl (.tmp 29) (.tmp 30) rfl w.heap.size _ 124 (preP kind n f) rfl HO2.out wr.heap.size 0 4 4 (bigF S 4 4) rfl HBB.out (by omega) hsz ?_)
      intro v' w3 hown hgrow
      have hown' := hown.congr (G := sealP kind n f) (by rw [← HS.out]; exact cat_seal)
      have HC3 := Lib.hid (HC2.out.own HO2.out hgrow (Nat.le_refl _))
      obtain ⟨g', c', rfl, k1, k2, k3, k4, k5⟩ := hown'.out (by omega) (fun i _ => sealP_le' hk Hf.out i)
      have HK := Lib.hid k5
      clear hown hgrow hown' k5
      go_wp2_with fail
      go_ret2
      exact ⟨g', c', rfl, k3, k4, k1, k2, HK.out, HC3.out⟩

end Go.Proofs.Ytjceoheiiohfcaa
