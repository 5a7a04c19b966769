/- Model.Volumes, Places, Size, Last; catchmentlow.EqualNumbers. -/
import Derived.Test.YtbejcmbdaoakbaaSoJ
import Derived.Test.YtbejcmbdaoakbaaMdF
namespace Go.Proofs.Ytbejcmbdaoakbaa
open Go.RowKit Go.Sort Go.Maps Go.Shelf
set_option linter.unusedVariables false
set_option linter.unusedSimpArgs false

theorem look_vol_no {w : World} {mb N : Nat} {D : DataW Nat} (h : OwnM w mb N D) {n : Nat} (hn : n < 18446744073709551616) (hk : has D (kU n) = false) :
    (Instr.lookup 62 (.map (some mb)) (.int .u64 (n : Int)) false).run Try.prog w = .ok (.map none) w := by
  have h2 : w.ownsMap Try.prog 23 (RVN (blksOf D)) mb N D := own_stay h KU fun v d ps kl hk hd hv => by
    obtain ⟨b, rfl, rfl, rfl⟩ := RV_inv hv
    have : b ∈ blksOf D := (blksOf_mem (h.canon KU)).2 ⟨kl, hk, by rw [hd]; rfl⟩
    unfold RVN
    simp only [if_pos this]
  obtain ⟨v, ps, hrun, hv⟩ := h2.lookup KU Try.underlying62 (z := .map none) (Try.zeroValue68 w) (zd := .nil) (zp := []) rfl (kU_key hn)
  rw [hrun]
  rw [atKey_of_not_has hk] at hv
  rcases RVN_inv hv with ⟨b, rfl, hb, _⟩ | ⟨rfl, hb⟩
  · cases hb
  · rfl

/-- The numbers of a state's volumes, rising. -/
def IdList (S : St) (l : List Nat) : Prop := l.Pairwise (· < ·) ∧ ∀ x, x ∈ l ↔ (S.vols (kU x)).isSome = true
/-- Has a volume a block at a place? -/
def plHas (V : Option VD) (x : Nat) : Bool := match V with | some D => has D (kU x) | none => false
def PlList (V : Option VD) (l : List Nat) : Prop := l.Pairwise (· < ·) ∧ ∀ x, x ∈ l ↔ plHas V x = true
def IdsPost (N : Nat) (w : World) (S : St) (e : Ending) (w' : World) : Prop := ∃ v l, e = .returned v ∧ IdList S l ∧ ListU w' w.heap.size v l ∧ l.length ≤ N ∧ Chg [] w w'
def PlsPost (w : World) (V : Option VD) (e : Ending) (w' : World) : Prop := ∃ v l, e = .returned v ∧ PlList V l ∧ ListU w' w.heap.size v l ∧ Chg [] w w'

theorem ListU.up {w : World} {B B' : Nat} {v : Value} {l : List Nat} (h : ListU w B v l) (hb : B' ≤ B) : ListU w B' v l := by
  rcases h with h | ⟨h1, g, c, h2, h3, h4, h5⟩
  · exact .inl h
  · exact .inr ⟨h1, g, c, h2, h3, Nat.le_trans hb h4, h5⟩
theorem ListU.chg {w w' : World} {B : Nat} {v : Value} {l L : List Nat} (h : ListU w B v l) (c : Chg L w w') (hL : ∀ g, g ∈ L → g < B) : ListU w' B v l := by
  rcases h with h | ⟨h1, g, k, h2, h3, h4, h5⟩
  · exact .inl h
  · exact .inr ⟨h1, g, k, h2, h3, h4, h5.chg c (fun hg => by have := hL g hg; omega)⟩

set_option maxRecDepth 20000 in
set_option maxHeartbeats 2000000 in
theorem volumes_at {N : Nat} {L : List Nat} {w : World} {p : Nat} {S : St} (h : MdAt N L w p S) (hN : N ≤ 1000000) :
    Calls Try.prog 20 #[.pointer (some ⟨p, 0, none⟩)] w (IdsPost N w S) := by
  obtain ⟨mb, D, C, hp, M⟩ := h
  have c := none_of hp
  unfold mdRow at hp
  have lp := heap_lt hp
  have x2 := cell_of_block hp 2
  simp only [List.getElem?_toArray, List.getElem?_cons_zero, List.getElem?_cons_succ] at x2
  have hsz : size D ≤ 1000000 := Nat.le_trans M.own.size_le hN
  have hown : (w.alloc (.cells #[.map (some mb)] 62)).ownsMap Try.prog 23 RV mb N D := M.own.alloc _
  have hk : ∀ ss, KeysU D ss → ∀ x, x ∈ ss → x < 18446744073709551616 := fun ss h => h.lt M.own
  have CS := Lib.hid ((callsIn_wide (n := 5)).1 (sortedU 5 (by omega) 58 #[.pointer (some ⟨w.heap.size, 0, none⟩)] (enters_of Try.func58 (by kernel_rfl) rfl) (KeysU D) hk (size D) (by unfold maxLen; omega) (by omega) _
    (keysGVols 2 (by omega) w.heap.size mb N D _ (by simp) (by simp) hown)))
  have CK := Lib.hid ((callsIn_wide (n := 5)).1 (keysVols_at 5 (some mb) w))
  have HV := Lib.hid M.vols
  have HN := Lib.hid M.own.size_le
  clear hp M hown hk hsz
  go_enter Try.func20, Try.ntmps20
  go_wp2_with fail
  refine c.mono ?_
  rintro e w' ⟨rfl, rfl⟩
  clear c
  go_wp2_with fail
  refine CK.out.mono ?_
  rintro e w1 ⟨rfl, rfl⟩
  go_wp2_with fail
  refine CS.out.mono ?_
  rintro e w2 ⟨v, l, ss, rfl, hS, hpl, hsl, hLu, hlN, hC⟩
  have HF := Lib.hid (And.intro (KeyList.of hS hpl hsl) (And.intro hLu hC))
  have HLN := Lib.hid hlN
  clear hS hpl hsl hLu hC CK CS hlN
  go_wp2_with fail
  go_ret
  refine ⟨v, l, rfl, ⟨HF.out.1.1, fun x => ?_⟩, HF.out.2.1.up (by simp), Nat.le_trans HLN.out HN.out, ((Chg.refl [] w).alloc _).trans HF.out.2.2⟩
  rw [HF.out.1.2, HV.out]
  cases has D (kU x) <;> simp

set_option maxRecDepth 20000 in
set_option maxHeartbeats 2000000 in
theorem places_at {N : Nat} {L : List Nat} {w : World} {p vol : Nat} {S : St} (h : MdAt N L w p S) (hN : N ≤ 1000000) (hv : vol < 18446744073709551616) :
    Calls Try.prog 24 #[.pointer (some ⟨p, 0, none⟩), .int .u64 (vol : Int)] w (PlsPost w (S.vols (kU vol))) := by
  obtain ⟨mb, D, C, hp, M⟩ := h
  have c := none_of hp
  unfold mdRow at hp
  have lp := heap_lt hp
  have x2 := cell_of_block hp 2
  simp only [List.getElem?_toArray, List.getElem?_cons_zero, List.getElem?_cons_succ] at x2
  have HV := Lib.hid (M.vols (kU vol))
  cases hh : has D (kU vol) with
  | true =>
    have hl := look_vol M.own hv hh
    obtain ⟨tb, htb⟩ : ∃ tb, tb = tok (D.atKey (kU vol) .nil) := ⟨_, rfl⟩
    have hO : OwnV w tb N (C tb) := by rw [htb]; exact (M.vol _ hh).2.2
    have HVv : Hid (S.vols (kU vol) = some (C tb)) := Lib.hid (by rw [HV.out, hh, htb]; rfl)
    rw [← htb] at hl
    have hsz : size (C tb) ≤ 1000000 := Nat.le_trans hO.size_le hN
    have hown : (w.alloc (.cells #[.map (some tb)] 68)).ownsMap Try.prog 23 RB tb N (C tb) := hO.alloc _
    have hk : ∀ ss, KeysU (C tb) ss → ∀ x, x ∈ ss → x < 18446744073709551616 := fun ss h => h.lt hO
    have CS := Lib.hid ((callsIn_wide (n := 5)).1 (sortedU 5 (by omega) 59 #[.pointer (some ⟨w.heap.size, 0, none⟩)] (enters_of Try.func59 (by kernel_rfl) rfl) (KeysU (C tb)) hk (size (C tb)) (by unfold maxLen; omega) (by omega) _
      (keysGBlk 2 (by omega) w.heap.size tb N (C tb) _ (by simp) (by simp) hown)))
    have CK := Lib.hid ((callsIn_wide (n := 5)).1 (keysBlk_at 5 (some tb) w))
    clear hp M hown hk hsz hh HV hO htb hv
    go_enter Try.func24, Try.ntmps24
    go_wp2_with fail
    refine c.mono ?_
    rintro e w' ⟨rfl, rfl⟩
    clear c
    go_wp2_with fail
    refine CK.out.mono ?_
    rintro e w1 ⟨rfl, rfl⟩
    go_wp2_with fail
    refine CS.out.mono ?_
    rintro e w2 ⟨v, l, ss, rfl, hS, hpl, hsl, hLu, hlN, hC⟩
    have HF := Lib.hid (And.intro (KeyList.of hS hpl hsl) (And.intro hLu hC))
    clear hS hpl hsl hLu hC CK CS
    go_wp2_with fail
    go_ret
    exact ⟨v, l, rfl, ⟨HF.out.1.1, fun x => by rw [HF.out.1.2, HVv.out]; rfl⟩, HF.out.2.1.up (by simp), ((Chg.refl [] w).alloc _).trans HF.out.2.2⟩
  | false =>
    have hl := look_vol_no M.own hv hh
    have HVv : Hid (S.vols (kU vol) = none) := Lib.hid (by rw [HV.out, hh]; rfl)
    have CS := Lib.hid ((callsIn_wide (n := 5)).1 (sortedU 5 (by omega) 59 #[.pointer (some ⟨w.heap.size, 0, none⟩)] (enters_of Try.func59 (by kernel_rfl) rfl) (fun ss => ss = []) (fun ss h x hx => by rw [h] at hx; cases hx) 0 (by unfold maxLen; omega) (by omega) (w.alloc (.cells #[.map none] 68))
      (keysGNilBlk 2 w.heap.size _ (by simp) (by simp))))
    have CK := Lib.hid ((callsIn_wide (n := 5)).1 (keysBlk_at 5 none w))
    clear hp M hh HV hv
    go_enter Try.func24, Try.ntmps24
    go_wp2_with fail
    refine c.mono ?_
    rintro e w' ⟨rfl, rfl⟩
    clear c
    go_wp2_with fail
    refine CK.out.mono ?_
    rintro e w1 ⟨rfl, rfl⟩
    go_wp2_with fail
    refine CS.out.mono ?_
    rintro e w2 ⟨v, l, ss, rfl, hS, hpl, hsl, hLu, hlN, hC⟩
    obtain rfl : l = [] := by rw [hS] at hpl; exact hpl.eq_nil
    have HF := Lib.hid (And.intro hLu hC)
    clear hS hpl hsl hLu hC CK CS
    go_wp2_with fail
    go_ret
    exact ⟨v, [], rfl, ⟨List.Pairwise.nil, fun x => by rw [HVv.out]; simp [plHas]⟩, HF.out.1.up (by simp), ((Chg.refl [] w).alloc _).trans HF.out.2⟩

set_option maxRecDepth 20000 in
theorem size_at {N : Nat} {L : List Nat} {w : World} {p : Nat} {S : St} (h : MdAt N L w p S) :
    Calls Try.prog 21 #[.pointer (some ⟨p, 0, none⟩)] w fun e w' => e = .returned (.int .u64 (S.size : Int)) ∧ w = w' := by
  obtain ⟨mb, D, C, hp, M⟩ := h
  have c := none_of hp
  unfold mdRow at hp
  have x0 := cell_of_block hp 0
  simp only [List.getElem?_toArray, List.getElem?_cons_zero, List.getElem?_cons_succ] at x0
  clear hp M
  go_enter Try.func21, Try.ntmps21
  go_wp2_with fail
  refine c.mono ?_
  rintro e w' ⟨rfl, rfl⟩
  go_wp2_with fail
  go_ret
  exact ⟨rfl, rfl⟩
set_option maxRecDepth 20000 in
theorem last_at {N : Nat} {L : List Nat} {w : World} {p : Nat} {S : St} (h : MdAt N L w p S) :
    Calls Try.prog 22 #[.pointer (some ⟨p, 0, none⟩)] w fun e w' => e = .returned (.int .u64 (S.last : Int)) ∧ w = w' := by
  obtain ⟨mb, D, C, hp, M⟩ := h
  have c := none_of hp
  unfold mdRow at hp
  have x1 := cell_of_block hp 1
  simp only [List.getElem?_toArray, List.getElem?_cons_zero, List.getElem?_cons_succ] at x1
  clear hp M
  go_enter Try.func22, Try.ntmps22
  go_wp2_with fail
  refine c.mono ?_
  rintro e w' ⟨rfl, rfl⟩
  go_wp2_with fail
  go_ret
  exact ⟨rfl, rfl⟩

end Go.Proofs.Ytbejcmbdaoakbaa
