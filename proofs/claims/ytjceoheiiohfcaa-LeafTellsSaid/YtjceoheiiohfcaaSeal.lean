/- Package octets: parts, Seal, Open; bytes.Clone. -/
import Derived.Test.YtjceoheiiohfcaaOct
import Derived.Test.YtjceoheiiohfcaaCopy
import Derived.Test.YtjceoheiiohfcaaApp
namespace Go.Proofs.Ytjceoheiiohfcaa
open Go.RowKit
set_option linter.unusedVariables false
set_option linter.unusedSimpArgs false

theorem infoU8 : (Try.prog.info? 5).map (fun i => (i.zero, i.size, i.bytes)) = some (some (.int .u8 0), 1, 1) := by kernel_rfl
theorem zrow_u8s (n : Nat) : zrow n (.int .u8 0) = u8s n (fun _ => 0) := by
  apply Array.ext
  · simp [zrow, u8s]
  · intro i h1 h2
    simp [zrow, u8s]

set_option maxRecDepth 20000 in
set_option maxHeartbeats 1000000 in
theorem parts_at {w : World} {b off cap : Nat} (hcap : 128 ≤ cap) (hN : cap ≤ 9223372036854775807) :
    Calls Try.prog 34 #[.slice (some ⟨b, off, none⟩) 128 cap] w fun e w' => e = .returned (.tuple #[.slice (some ⟨b, off, none⟩) 124 124, .slice (some ⟨b, off + 124, none⟩) 4 4]) ∧ Chg [] w w' := by
  have a1 : (124 : Int) ≤ (cap : Int) := by omega
  have a2 : (128 : Int) ≤ (cap : Int) := by omega
  go_enter Try.func34, Try.ntmps34
  go_wp2_with fail
  go_region
  go_wp2
  go_ret2
  exact ⟨rfl, (Chg.refl _ _).drew⟩

/-- A slice of bytes that came in: nil, or bytes in memory. -/
def BytesIn (w : World) (a : Option Addr) (n cap : Nat) (f : Nat → Nat) : Prop :=
  n ≤ cap ∧ cap ≤ maxLen ∧ (a = none → n = 0 ∧ cap = 0) ∧ ∀ b, a = some b → 0 < n → ∃ k o, b = ⟨k, o, none⟩ ∧ BytesAt w k o n f

/-- The page of a kind and a body, but for its sum. -/
def preP (kind n : Nat) (f : Nat → Nat) (i : Nat) : Nat := if i = 0 then kind else if i < 1 + n then f (i - 1) else 0
def sealP (kind n : Nat) (f : Nat → Nat) : Nat → Nat := putF (preP kind n f) 124 4 (sumB (preP kind n f) 124)

set_option maxRecDepth 20000 in
set_option maxHeartbeats 1000000 in
theorem seal_at {w : World} {a : Option Addr} {n cap : Nat} {f : Nat → Nat} (h : BytesIn w a n cap f) (hn : n ≤ 123) (kind : Nat) (hk : kind ≤ 255) :
    Calls Try.prog 20 #[.int .u8 (kind : Int), .slice a n cap] w fun e w' => e = .returned (.tuple #[.slice (some ⟨w.heap.size, 0, none⟩) 128 128, .int .i64 0]) ∧
      w'.heap[w.heap.size]? = some (.cells (u8s 128 (sealP kind n f)) 5 (0, 0)) ∧ Chg [] w w' := by
  have hmk : ∀ w : World, (Instr.makeSlice 25 (.int .i64 128) (.int .i64 128)).run Try.prog w = .ok (.slice (some ⟨w.heap.size, 0, none⟩) 128 128) (w.alloc (.cells (zrow 128 (.int .u8 0)) 5)) := run_make1 (P := Try.prog) 25 5 Try.underlying25 infoU8 rfl .i64 .i64 128 (by omega) (by omega)
  have z0 : (zrow 128 (.int .u8 0))[0]? = some (.int .u8 0) := by simp [zrow]
  have H := Lib.hid h
  clear h
  go_enter Try.func20, Try.ntmps20
  go_wp2_with (refine wpList_copy_fn rfl (.tmp 17) (.tmp 18) 25 25 rfl 5 Try.underlying25 (by kernel_rfl) w.heap.size 1 127 127 a n cap rfl rfl 128 (fun i => .int .u8 ((if i = 0 then kind else 0 : Nat) : Int)) 5 ?c1 n ?c2 (fun i => .int .u8 (f i : Int)) ?c3 ?c4 ?c5 ?_)
  case c1 =>
    rw [new_block, zrow_u8s]
    have := u8s_set (n := 128) (f := fun _ => 0) (i := 0) (v := kind) (by omega)
    rw [this]
    rfl
  case c2 =>
    show n = min n 127
    omega
  case c3 =>
    intro hp
    obtain ⟨_, _, h3, h4⟩ := H.out
    cases a with
    | none => have := (h3 rfl).1; omega
    | some q =>
      obtain ⟨k, o, rfl, hb⟩ := h4 q rfl hp
      refine ⟨k, o, rfl, fun j hj => ?_⟩
      have hb' := hb.chg ((Chg.refl [] w).alloc (.cells ((zrow 128 (.int .u8 0)).setIfInBounds 0 (.int .u8 (kind : Int))) 5)) (by simp)
      exact (hb' j hj).1
  case c4 => intro j _; rfl
  case c5 => omega
  intro w1 HB hC
  have hf : ∀ i, i < 128 → preP kind n f i ≤ 255 := fun i _ => by
    unfold preP
    split
    · exact hk
    · split
      · obtain ⟨_, _, h3, h4⟩ := H.out
        cases a with
        | none => have := (h3 rfl).1; omega
        | some q =>
          obtain ⟨k, o, rfl, hb⟩ := h4 q rfl (by omega)
          exact (hb (i - 1) (by omega)).2
      · omega
  have hB1 : w1.heap[w.heap.size]? = some (.cells (u8s 128 (preP kind n f)) 5 (0, 0)) := by
    rw [HB.out]
    have : fnRow 128 (laid (fun i => .int .u8 ((if i = 0 then kind else 0 : Nat) : Int)) (fun i => .int .u8 (f i : Int)) 1 n) = u8s 128 (preP kind n f) := by
      unfold fnRow u8s
      congr 1
      funext i
      show laid _ _ 1 n (i : Nat) = Value.int .u8 ((preP kind n f (i : Nat) : Nat) : Int)
      unfold laid preP
      dsimp only
      by_cases e0 : (i : Nat) = 0
      · rw [if_neg (by omega), if_pos e0, if_pos e0]
      · by_cases e1 : (i : Nat) < 1 + n
        · rw [if_pos (by omega), if_neg e0, if_pos e1]
        · rw [if_neg (by omega), if_neg e0, if_neg e0, if_neg e1]
    rw [this]
  have hC1 : Chg [w.heap.size] w w1 := (((Chg.refl [w.heap.size] w).alloc _).trans hC)
  have Hf := Lib.hid hf
  have HB1 := Lib.hid hB1
  have HC1 := Lib.hid hC1
  clear hf hB1 hC1 HB hC z0 hmk
  go_wp2_with fail
  refine (parts_at (b := w.heap.size) (off := 0) (cap := 128) (Nat.le_refl _) (by omega)).mono ?_
  rintro e w2 ⟨rfl, hC2⟩
  have B2 := Lib.hid ((hC2.block w.heap.size (heap_lt HB1.out) (by simp)).trans HB1.out)
  have C2 := Lib.hid (HC1.out.then hC2 (by simp))
  clear hC2
  have hS : BytesAt w2 w.heap.size 0 124 (preP kind n f) := by
    have := BytesAt.of_block B2.out Hf.out (off := 0) (n := 124) (by omega)
    simp only [Nat.zero_add] at this
    exact this
  have hlt := sumB_lt (preP kind n f) 124
  have cS := sum_at (cap := 124) hS (by omega)
  have hp : sealP kind n f = putF (preP kind n f) 124 4 (sumB (preP kind n f) 124) := rfl
  generalize sumB (preP kind n f) 124 = S at *
  have Hp := Lib.hid hp
  clear hp hS
  go_wp2_with fail
  refine cS.mono ?_
  rintro e w' ⟨rfl, rfl⟩
  go_wp2_with fail
  refine (put_at B2.out 124 4 4 0 4 S (by omega) (by omega) (by omega) (by omega) (by omega) (by rw [show (256 : Nat) ^ 4 = 4294967296 by decide]; omega)).mono ?_
  rintro e w3 ⟨rfl, hB3, hC3⟩
  have B3 := Lib.hid hB3
  have C3 := Lib.hid (C2.out.trans hC3)
  clear hB3 hC3
  go_wp2_with fail
  go_ret2
  refine ⟨rfl, ?_, Chg.then (L := []) (Chg.refl [] w) C3.out (by simp)⟩
  rw [B3.out, Hp.out]

/-! bytes.Clone of bytes in memory -/
theorem app_some' {w : World} {base e n : Nat} {v : Value} {xs : List Value} (h : w.ownsRow base e 1 v (0 + n) ([] ++ xs)) (hn : 0 < n) :
    ∃ g cap cur, v = .slice (some ⟨g, 0, none⟩) n cap ∧ base ≤ g ∧ w.heap[g]? = some (.cells cur e (0, 0)) ∧ n ≤ cap ∧ cap ≤ maxLen ∧ cur.size = cap * 1 ∧ cur.toList.take n = xs := by
  rcases h.2 with ⟨_, h0⟩ | ⟨g, cap, cur, h1, h2, h3, h4, h5, h6, h7⟩
  · omega
  · refine ⟨g, cap, cur, ?_, h2, h3, ?_, h5, h6, ?_⟩
    · rw [h1, Nat.zero_add]
    · omega
    · simpa using h7

theorem bytes_append {w : World} {b off n : Nat} {f : Nat → Nat} (h : BytesAt w b off n f) : ∀ j u, ((List.range n).map fun i => Value.int .u8 (f i : Int))[j]? = some u → w.cell? ((⟨b, off, none⟩ : Addr).add j) = some u := by
  intro j u hj
  simp only [List.getElem?_map] at hj
  by_cases hlt : j < n
  · simp [hlt] at hj
    subst hj
    have e : (⟨b, off, none⟩ : Addr).add j = ⟨b, off + j, none⟩ := by unfold Addr.add; split <;> simp_all
    rw [e]
    exact (h j hlt).1
  · simp [hlt] at hj

set_option maxRecDepth 20000 in
set_option maxHeartbeats 1000000 in
theorem bclone_at {w : World} {b off n cap : Nat} {f : Nat → Nat} (h : BytesAt w b off n f) (hn : n ≤ 100000) (h0 : 0 < n) :
    Calls Try.prog 36 #[.slice (some ⟨b, off, none⟩) n cap] w fun e w' => ∃ g c, e = .returned (.slice (some ⟨g, 0, none⟩) n c) ∧ n ≤ c ∧ c ≤ maxLen ∧ w.heap.size ≤ g ∧ g < w'.heap.size ∧ BytesAt w' g 0 n f ∧ Chg [] w w' := by
  have hb2 := h.chg ((Chg.refl [] w).alloc (.cells #[] 5)) (by simp)
  have Hn := Lib.hid (bytes_append hb2)
  have H := Lib.hid h
  obtain ⟨i0, hi, hz0, hz1, hz2⟩ := info_parts infoU8
  have Hi := Lib.hid hi
  have he := fun w : World => Lib.run_eql_slice_nil (P := Try.prog) w 25 5 (some ⟨b, off, none⟩) n cap 0 0 Try.underlying25
  clear h hb2 hi
  go_enter Try.func36, Try.ntmps36
  go_wp2_with (at_builtin; refine wpList_append_own _ rfl _ _ 25 rfl w.heap.size 5 i0 (.int .u8 0) 1 1 Try.underlying25 Hi.out hz0 hz1 hz2 rfl (by decide) _ 0 [] rfl (World.ownsRow_made w #[] 0 (Nat.le_refl _) (Nat.zero_le _) rfl) ⟨b, off, none⟩ n cap ((List.range n).map fun i => Value.int .u8 (f i : Int)) rfl ?c0 Hn.out ?c1 ?c2 ?c3 ?c4 ?_)
  case c0 => simp
  case c1 => intro u hu; obtain ⟨a, _, rfl⟩ := List.mem_map.1 hu; rfl
  case c2 => unfold maxLen; omega
  case c3 => omega
  case c4 => simp
  intro v' w1 hown hgrow _
  obtain ⟨g, c, cur, rfl, q1, q2, q3, q4, q5, q6⟩ := app_some' (n := n) (xs := (List.range n).map fun i => Value.int .u8 (f i : Int)) (by rw [Nat.zero_add, List.nil_append]; exact hown) h0
  have HO := Lib.hid (And.intro q2 q6)
  have HG := Lib.hid hgrow
  clear q2 q6 hown hgrow
  go_wp2_with fail
  go_ret
  have hlt := heap_lt HO.out.1
  refine ⟨g, c, rfl, q3, q4, q1, hlt, fun i hi => ⟨?_, (H.out i hi).2⟩, ?_⟩
  · rw [cell_of_block HO.out.1, Nat.zero_add]
    have := congrArg (fun l => l[i]?) HO.out.2
    simp only [List.getElem?_take, if_pos hi, List.getElem?_map, List.getElem?_range hi, Option.map_some, Array.getElem?_toList] at this
    exact this
  · exact ((Chg.refl [] w).alloc _).grown HG.out (fun k hk => .inr (by simp [Value.ownBlock] at hk; omega))

end Go.Proofs.Ytjceoheiiohfcaa
