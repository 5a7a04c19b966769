/- awake of layer 24: the chapter's examples. (Printed by mkmb.py.) -/
import Derived.Test.YtbejcmbdaoakbaaMdA
namespace Go.Proofs.Ytbejcmbdaoakbaa
open Go.RowKit Go.Maps
set_option linter.unusedVariables false
set_option linter.unusedSimpArgs false

def opD (b1 b2 : Nat) (k : Nat) : Value :=
  match k with
  | 1 => .slice (some ⟨b1, 0, none⟩) 128 128 | 3 => .slice (some ⟨b2, 0, none⟩) 128 128 | 9 => .slice (some ⟨b1, 0, none⟩) 128 128 | 10 => .slice (some ⟨b1, 1, none⟩) 127 127 | _ => .slice none 0 0
def wD (b1 b0 : Nat) (k : Nat) : Value :=
  match k with
  | 4 => .slice (some ⟨b1, 0, none⟩) 128 128 | 5 => .slice (some ⟨b0, 0, none⟩) 128 128 | 8 => .slice (some ⟨b0, 0, none⟩) 128 128 | _ => .slice none 0 0
def awkRow (b1 b2 b0 : Nat) : Array Value := #[.int .u8 1, .int .u64 0, .int .u64 0, .int .u64 0, .slice none 0 0, .int .i64 0, .int .u64 1, .slice none 0 0, .int .i64 0, .int .u8 5, .int .u64 1, .int .u64 3, .int .u64 0, .slice (some ⟨b1, 0, none⟩) 128 128, .int .i64 0, .int .u64 0, .slice none 0 0, .int .i64 0, .int .u8 3, .int .u64 1, .int .u64 0, .int .u64 0, .slice none 0 0, .int .i64 0, .int .u64 2, .slice none 0 0, .int .i64 0, .int .u8 5, .int .u64 1, .int .u64 3, .int .u64 0, .slice (some ⟨b2, 0, none⟩) 128 128, .int .i64 0, .int .u64 0, .slice none 0 0, .int .i64 0, .int .u8 4, .int .u64 2, .int .u64 3, .int .u64 0, .slice none 0 0, .int .i64 0, .int .u64 0, .slice (some ⟨b1, 0, none⟩) 128 128, .int .i64 0, .int .u8 4, .int .u64 1, .int .u64 0, .int .u64 0, .slice none 0 0, .int .i64 0, .int .u64 0, .slice (some ⟨b0, 0, none⟩) 128 128, .int .i64 0, .int .u8 6, .int .u64 2, .int .u64 0, .int .u64 4, .slice none 0 0, .int .i64 0, .int .u64 0, .slice none 0 0, .int .i64 1, .int .u8 6, .int .u64 2, .int .u64 0, .int .u64 5, .slice none 0 0, .int .i64 241, .int .u64 0, .slice none 0 0, .int .i64 0, .int .u8 4, .int .u64 2, .int .u64 3, .int .u64 0, .slice none 0 0, .int .i64 0, .int .u64 0, .slice (some ⟨b0, 0, none⟩) 128 128, .int .i64 0, .int .u8 5, .int .u64 1, .int .u64 4, .int .u64 0, .slice (some ⟨b1, 0, none⟩) 128 128, .int .i64 241, .int .u64 0, .slice none 0 0, .int .i64 0, .int .u8 5, .int .u64 1, .int .u64 3, .int .u64 0, .slice (some ⟨b1, 1, none⟩) 127 127, .int .i64 242, .int .u64 0, .slice none 0 0, .int .i64 0, .int .u8 5, .int .u64 7, .int .u64 9, .int .u64 0, .slice none 0 0, .int .i64 200, .int .u64 0, .slice none 0 0, .int .i64 0, .int .u8 2, .int .u64 1, .int .u64 0, .int .u64 0, .slice none 0 0, .int .i64 0, .int .u64 0, .slice none 0 0, .int .i64 0, .int .u8 1, .int .u64 0, .int .u64 0, .int .u64 0, .slice none 0 0, .int .i64 0, .int .u64 3, .slice none 0 0, .int .i64 0, .int .u8 9, .int .u64 0, .int .u64 0, .int .u64 0, .slice none 0 0, .int .i64 0, .int .u64 0, .slice none 0 0, .int .i64 2, .int .u8 0, .int .u64 0, .int .u64 0, .int .u64 0, .slice none 0 0, .int .i64 240, .int .u64 0, .slice none 0 0, .int .i64 0]
theorem awk_cells {w : World} {rb b1 b2 b0 : Nat} (h : w.heap[rb]? = some (.cells (awkRow b1 b2 b0) 80 (0, 0))) : ∀ k, k < 16 →
    w.cell? ⟨rb, k * 9, none⟩ = some (.int .u8 ((zA k).code : Int)) ∧ w.cell? ⟨rb, k * 9 + 1, none⟩ = some (.int .u64 ((zA k).vol : Int)) ∧ w.cell? ⟨rb, k * 9 + 2, none⟩ = some (.int .u64 ((zA k).pl : Int)) ∧ w.cell? ⟨rb, k * 9 + 3, none⟩ = some (.int .u64 ((zA k).n : Int)) ∧
    w.cell? ⟨rb, k * 9 + 4, none⟩ = some (opD b1 b2 k) ∧ w.cell? ⟨rb, k * 9 + 5, none⟩ = some (.int .i64 ((wA k).err : Int)) ∧ w.cell? ⟨rb, k * 9 + 6, none⟩ = some (.int .u64 ((wA k).vol : Int)) ∧ w.cell? ⟨rb, k * 9 + 7, none⟩ = some (wD b1 b0 k) ∧ w.cell? ⟨rb, k * 9 + 8, none⟩ = some (.int .i64 ((wA k).cnt : Int)) := by
  intro k hk
  have c := fun i => cell_of_block h i
  match k, hk with
  | 0, _ => exact ⟨c 0, c 1, c 2, c 3, c 4, c 5, c 6, c 7, c 8⟩
  | 1, _ => exact ⟨c 9, c 10, c 11, c 12, c 13, c 14, c 15, c 16, c 17⟩
  | 2, _ => exact ⟨c 18, c 19, c 20, c 21, c 22, c 23, c 24, c 25, c 26⟩
  | 3, _ => exact ⟨c 27, c 28, c 29, c 30, c 31, c 32, c 33, c 34, c 35⟩
  | 4, _ => exact ⟨c 36, c 37, c 38, c 39, c 40, c 41, c 42, c 43, c 44⟩
  | 5, _ => exact ⟨c 45, c 46, c 47, c 48, c 49, c 50, c 51, c 52, c 53⟩
  | 6, _ => exact ⟨c 54, c 55, c 56, c 57, c 58, c 59, c 60, c 61, c 62⟩
  | 7, _ => exact ⟨c 63, c 64, c 65, c 66, c 67, c 68, c 69, c 70, c 71⟩
  | 8, _ => exact ⟨c 72, c 73, c 74, c 75, c 76, c 77, c 78, c 79, c 80⟩
  | 9, _ => exact ⟨c 81, c 82, c 83, c 84, c 85, c 86, c 87, c 88, c 89⟩
  | 10, _ => exact ⟨c 90, c 91, c 92, c 93, c 94, c 95, c 96, c 97, c 98⟩
  | 11, _ => exact ⟨c 99, c 100, c 101, c 102, c 103, c 104, c 105, c 106, c 107⟩
  | 12, _ => exact ⟨c 108, c 109, c 110, c 111, c 112, c 113, c 114, c 115, c 116⟩
  | 13, _ => exact ⟨c 117, c 118, c 119, c 120, c 121, c 122, c 123, c 124, c 125⟩
  | 14, _ => exact ⟨c 126, c 127, c 128, c 129, c 130, c 131, c 132, c 133, c 134⟩
  | 15, _ => exact ⟨c 135, c 136, c 137, c 138, c 139, c 140, c 141, c 142, c 143⟩
  | n + 16, h => omega

theorem bytes_of_fill {w : World} {b x : Nat} (h : w.heap[b]? = some (.cells (u8s 128 (fun _ => x)) 5 (0, 0))) (hx : x ≤ 255) {off n : Nat} (hn : off + n ≤ 128) : BytesIn w (some ⟨b, off, none⟩) n n (fun _ => x) :=
  ⟨Nat.le_refl _, by unfold maxLen; omega, (fun h => by cases h), fun q hq _ => by injection hq with hq; subst hq; exact ⟨b, off, rfl, BytesAt.of_block h (fun _ _ => hx) hn⟩⟩
theorem opD_ok {w : World} {b1 b2 : Nat} (h1 : w.heap[b1]? = some (.cells (u8s 128 (fun _ => 1)) 5 (0, 0))) (h2 : w.heap[b2]? = some (.cells (u8s 128 (fun _ => 2)) 5 (0, 0))) : ∀ k, k < 16 → ∃ a cap, opD b1 b2 k = .slice a (zA k).len cap ∧ BytesIn w a (zA k).len cap (zA k).f ∧ OpOK (zA k) := by
  have B0 : BytesIn w none 0 0 zz := bytes_none
  have B1 := bytes_of_fill h1 (by omega) (off := 0) (n := 128) (by omega)
  have B1s := bytes_of_fill h1 (by omega) (off := 1) (n := 127) (by omega)
  have B2 := bytes_of_fill h2 (by omega) (off := 0) (n := 128) (by omega)
  intro k hk
  match k, hk with
  | 0, _ => exact ⟨_, _, rfl, B0, by constructor <;> simp [zA]⟩
  | 1, _ => exact ⟨_, _, rfl, B1, by constructor <;> simp [zA]⟩
  | 2, _ => exact ⟨_, _, rfl, B0, by constructor <;> simp [zA]⟩
  | 3, _ => exact ⟨_, _, rfl, B2, by constructor <;> simp [zA]⟩
  | 4, _ => exact ⟨_, _, rfl, B0, by constructor <;> simp [zA]⟩
  | 5, _ => exact ⟨_, _, rfl, B0, by constructor <;> simp [zA]⟩
  | 6, _ => exact ⟨_, _, rfl, B0, by constructor <;> simp [zA]⟩
  | 7, _ => exact ⟨_, _, rfl, B0, by constructor <;> simp [zA]⟩
  | 8, _ => exact ⟨_, _, rfl, B0, by constructor <;> simp [zA]⟩
  | 9, _ => exact ⟨_, _, rfl, B1, by constructor <;> simp [zA]⟩
  | 10, _ => exact ⟨_, _, rfl, B1s, by constructor <;> simp [zA]⟩
  | 11, _ => exact ⟨_, _, rfl, B0, by constructor <;> simp [zA]⟩
  | 12, _ => exact ⟨_, _, rfl, B0, by constructor <;> simp [zA]⟩
  | 13, _ => exact ⟨_, _, rfl, B0, by constructor <;> simp [zA]⟩
  | 14, _ => exact ⟨_, _, rfl, B0, by constructor <;> simp [zA]⟩
  | 15, _ => exact ⟨_, _, rfl, B0, by constructor <;> simp [zA]⟩
  | n + 16, h => omega
theorem wD_ok {w : World} {b1 b0 : Nat} (h1 : w.heap[b1]? = some (.cells (u8s 128 (fun _ => 1)) 5 (0, 0))) (h0 : w.heap[b0]? = some (.cells (u8s 128 (fun _ => 0)) 5 (0, 0))) : ∀ k, k < 16 → ∃ a cap, wD b1 b0 k = .slice a (wA k).n cap ∧ BytesIn w a (wA k).n cap (wA k).f := by
  have B0 : BytesIn w none 0 0 zz := bytes_none
  have B1 := bytes_of_fill h1 (by omega) (off := 0) (n := 128) (by omega)
  have Bz := bytes_of_fill h0 (by omega) (off := 0) (n := 128) (by omega)
  intro k hk
  match k, hk with
  | 0, _ => exact ⟨_, _, rfl, B0⟩
  | 1, _ => exact ⟨_, _, rfl, B0⟩
  | 2, _ => exact ⟨_, _, rfl, B0⟩
  | 3, _ => exact ⟨_, _, rfl, B0⟩
  | 4, _ => exact ⟨_, _, rfl, B1⟩
  | 5, _ => exact ⟨_, _, rfl, Bz⟩
  | 6, _ => exact ⟨_, _, rfl, B0⟩
  | 7, _ => exact ⟨_, _, rfl, B0⟩
  | 8, _ => exact ⟨_, _, rfl, Bz⟩
  | 9, _ => exact ⟨_, _, rfl, B0⟩
  | 10, _ => exact ⟨_, _, rfl, B0⟩
  | 11, _ => exact ⟨_, _, rfl, B0⟩
  | 12, _ => exact ⟨_, _, rfl, B0⟩
  | 13, _ => exact ⟨_, _, rfl, B0⟩
  | 14, _ => exact ⟨_, _, rfl, B0⟩
  | 15, _ => exact ⟨_, _, rfl, B0⟩
  | n + 16, h => omega

theorem awk_ok' : ∀ k, k < 16 → repEq (repOf (R4 k) (zA k)) (wA k) = true := awk_ok

/-- Under way. -/
structure AwkR (w wr : World) (p rb b1 b2 b0 k : Nat) (L : List Nat) : Prop where
  md : MdAt k L wr p (R4 k)
  out : ∀ b, b ∈ L → b ≠ rb ∧ b ≠ b1 ∧ b ≠ b2 ∧ b ≠ b0
  new : ∀ b, b ∈ L → w.heap.size ≤ b
  row : wr.heap[rb]? = some (.cells (awkRow b1 b2 b0) 80 (0, 0))
  h1 : wr.heap[b1]? = some (.cells (u8s 128 (fun _ => 1)) 5 (0, 0))
  h2 : wr.heap[b2]? = some (.cells (u8s 128 (fun _ => 2)) 5 (0, 0))
  h0 : wr.heap[b0]? = some (.cells (u8s 128 (fun _ => 0)) 5 (0, 0))
  chg : Chg [] w wr

set_option maxRecDepth 20000 in
set_option maxHeartbeats 8000000 in
theorem awake24_at {w : World} : Calls Try.prog 15 #[] w fun e w' => e = .returned (.bool true) ∧ Chg [] w w' := by
  have cN := new_ok (w := w) (n := 4) (by omega) (by omega)
  rw [show (((4 : Nat)) : Int) = 4 from rfl] at cN
  have c1 := fun w => filled_at (w := w) (x := 1) (by omega)
  have c2 := fun w => filled_at (w := w) (x := 2) (by omega)
  have c0 := fun w => filled_at (w := w) (x := 0) (by omega)
  go_enter Try.func15, Try.ntmps15
  go_wp2_with fail
  refine cN.mono ?_
  clear cN
  rintro e wa ⟨p, L, rfl, hM, hL, hC⟩
  unfold okPtr
  have HM := Lib.hid hM
  have HL := Lib.hid hL
  have HC := Lib.hid hC
  clear hM hL hC
  go_wp2_with fail
  refine (c1 wa).mono ?_
  rintro e wb ⟨rfl, hb1, hCb⟩
  have HB1 := Lib.hid hb1
  have HCb := Lib.hid hCb
  clear hb1 hCb
  go_wp2_with fail
  refine (c2 wb).mono ?_
  rintro e wc ⟨rfl, hb2, hCc⟩
  have HB2 := Lib.hid hb2
  have HCc := Lib.hid hCc
  clear hb2 hCc
  go_wp2_with fail
  refine (c0 wc).mono ?_
  rintro e wd ⟨rfl, hb0, hCd⟩
  have HB0 := Lib.hid hb0
  have HCd := Lib.hid hCd
  clear hb0 hCd c0 c1 c2
  go_wp2_with fail
  go_loopw [79] (fun s wr => ∃ k : Nat, k ≤ 16 ∧ s = .int .i64 (k : Int) ∧ ∃ L, Hid (AwkR w wr p wd.heap.size wa.heap.size wb.heap.size wc.heap.size k L)) (fun s _ => 16 - (intOf s).toNat)
  case atStart =>
    have hcw : Chg [] wd (wd.alloc (.cells (awkRow wa.heap.size wb.heap.size wc.heap.size) 80)) := (Chg.refl [] wd).alloc _
    have l1 := heap_lt HB1.out
    have l2 := heap_lt HB2.out
    have l0 := heap_lt HB0.out
    have s1 := HCb.out.size
    have s2 := HCc.out.size
    have s3 := HCd.out.size
    have la := HM.out.lt
    refine ⟨0, by omega, rfl, L, Lib.hid ?_⟩
    exact { md := (((HM.out.chg HCb.out (by simp)).chg HCc.out (by simp)).chg HCd.out (by simp)).chg hcw (by simp)
            out := fun b hb => by have := la b hb; omega
            new := HL.out
            row := new_block wd (.cells (awkRow wa.heap.size wb.heap.size wc.heap.size) 80)
            h1 := (hcw.block _ (by omega) (by simp)).trans ((HCd.out.block _ (by omega) (by simp)).trans ((HCc.out.block _ (by omega) (by simp)).trans HB1.out))
            h2 := (hcw.block _ (by omega) (by simp)).trans ((HCd.out.block _ (by omega) (by simp)).trans HB2.out)
            h0 := (hcw.block _ (by omega) (by simp)).trans HB0.out
            chg := (((HC.out.trans HCb.out).trans HCc.out).trans HCd.out).trans hcw }
  case round =>
    obtain ⟨k, hk, rfl, L', HA⟩ := hrel
    clear HM HL HC HB1 HCb HB2 HCc HB0 HCd
    by_cases h1 : k < 16
    · have hk16 : (k : Int) < 16 := by omega
      have i0 : (0 : Int) ≤ (k : Int) := by omega
      obtain ⟨y0, y1, y2, y3, y4, y5, y6, y7, y8⟩ := awk_cells HA.out.row k h1
      obtain ⟨oa, oc, eO, hBO, hOK⟩ := opD_ok HA.out.h1 HA.out.h2 k h1
      obtain ⟨wda, wdc, eW, hBW⟩ := wD_ok HA.out.h1 HA.out.h0 k h1
      rw [eO] at y4
      rw [eW] at y7
      have lb := heap_lt HA.out.row
      have HBO := Lib.hid hBO
      have HOK := Lib.hid hOK
      have HEW := Lib.hid eW
      clear hBO hOK hBW eO eW
      go_upto_region 8 with fail
      have hV := new_block wr (.cells #[.int .u8 ((zA k).code : Int), .int .u64 ((zA k).vol : Int), .int .u64 ((zA k).pl : Int), .int .u64 ((zA k).n : Int), .slice oa (zA k).len oc, .int .i64 ((wA k).err : Int), .int .u64 ((wA k).vol : Int), .slice wda (wA k).n wdc, .int .i64 ((wA k).cnt : Int)] 80)
      have HCV := Lib.hid ((Chg.refl [] wr).alloc (.cells #[.int .u8 ((zA k).code : Int), .int .u64 ((zA k).vol : Int), .int .u64 ((zA k).pl : Int), .int .u64 ((zA k).n : Int), .slice oa (zA k).len oc, .int .i64 ((wA k).err : Int), .int .u64 ((wA k).vol : Int), .slice wda (wA k).n wdc, .int .i64 ((wA k).cnt : Int)] 80))
      clear y0 y1 y2 y3 y4 y5 y6 y7 y8
      generalize wr.alloc (.cells #[.int .u8 ((zA k).code : Int), .int .u64 ((zA k).vol : Int), .int .u64 ((zA k).pl : Int), .int .u64 ((zA k).n : Int), .slice oa (zA k).len oc, .int .i64 ((wA k).err : Int), .int .u64 ((wA k).vol : Int), .slice wda (wA k).n wdc, .int .i64 ((wA k).cnt : Int)] 80) = W at *
      have v0 := cell_of_block hV 0
      have v1 := cell_of_block hV 1
      have v2 := cell_of_block hV 2
      have v3 := cell_of_block hV 3
      have v4 := cell_of_block hV 4
      have v5 := cell_of_block hV 5
      have v6 := cell_of_block hV 6
      have v7 := cell_of_block hV 7
      have v8 := cell_of_block hV 8
      simp only [List.getElem?_toArray, List.getElem?_cons_zero, List.getElem?_cons_succ] at v0 v1 v2 v3 v4 v5 v6 v7 v8
      have lv := heap_lt hV
      have HMd := Lib.hid (HA.out.md.chg HCV.out (by simp))
      have HBO2 := Lib.hid (HBO.out.chg HCV.out (by simp))
      have HH1 := Lib.hid ((HCV.out.block _ (heap_lt HA.out.h1) (by simp)).trans HA.out.h1)
      have HH0 := Lib.hid ((HCV.out.block _ (heap_lt HA.out.h0) (by simp)).trans HA.out.h0)
      have HVL := Lib.hid (show wr.heap.size ∉ L' from fun hm => absurd (HA.out.md.lt _ hm) (by omega))
      clear hV lb
      refine wp_region_held_drew (S := fun W' => W'.cell? ⟨wr.heap.size, 0, none⟩ = some (.int .u8 ((zA k).code : Int)) ∧ W'.cell? ⟨wr.heap.size, 1, none⟩ = some (.int .u64 ((zA k).vol : Int)) ∧ W'.cell? ⟨wr.heap.size, 2, none⟩ = some (.int .u64 ((zA k).pl : Int)) ∧ W'.cell? ⟨wr.heap.size, 3, none⟩ = some (.int .u64 ((zA k).n : Int)) ∧ W'.cell? ⟨wr.heap.size, 4, none⟩ = some (.slice oa (zA k).len oc) ∧ W'.cell? ⟨wr.heap.size, 5, none⟩ = some (.int .i64 ((wA k).err : Int)) ∧ W'.cell? ⟨wr.heap.size, 6, none⟩ = some (.int .u64 ((wA k).vol : Int)) ∧ W'.cell? ⟨wr.heap.size, 7, none⟩ = some (.slice wda (wA k).n wdc) ∧ W'.cell? ⟨wr.heap.size, 8, none⟩ = some (.int .i64 ((wA k).cnt : Int))) (by kernel_rfl) (by exact ⟨v0, v1, v2, v3, v4, v5, v6, v7, v8⟩) (fun hHeld => ?_)
      refine wpAnyH_take (i := 0) (oi := ?_) (v := ?_) ?_ (by kernel_rfl) (by kernel_rfl) (by kernel_rfl) ?_ (Or.inl ⟨?_, ?_⟩) hHeld ?_
      rotate_left 2
      · (simp only [List.getElem?_toArray, List.getElem?_cons_succ, List.getElem?_cons_zero]; rfl)
      · exact fun _ _ _ h => h
      · rfl
      · (rintro W' ⟨s0, s1, s2, s3, s4, s5, s6, s7, s8⟩; go_simp; first | done | with_reducible rfl)
      try simp only [Act.put, List.setIfInBounds_toArray, List.set_cons_zero, List.set_cons_succ]
      refine wpAnyH_take (i := 1) (oi := ?_) (v := ?_) ?_ (by kernel_rfl) (by kernel_rfl) (by kernel_rfl) ?_ (Or.inl ⟨?_, ?_⟩) hHeld ?_
      rotate_left 2
      · (simp only [List.getElem?_toArray, List.getElem?_cons_succ, List.getElem?_cons_zero]; rfl)
      · exact fun _ _ _ h => h
      · rfl
      · (rintro W' ⟨s0, s1, s2, s3, s4, s5, s6, s7, s8⟩; go_simp; first | done | with_reducible rfl)
      try simp only [Act.put, List.setIfInBounds_toArray, List.set_cons_zero, List.set_cons_succ]
      refine wpAnyH_take (i := 2) (oi := ?_) (v := ?_) ?_ (by kernel_rfl) (by kernel_rfl) (by kernel_rfl) ?_ (Or.inl ⟨?_, ?_⟩) hHeld ?_
      rotate_left 2
      · (simp only [List.getElem?_toArray, List.getElem?_cons_succ, List.getElem?_cons_zero]; rfl)
      · exact fun _ _ _ h => h
      · rfl
      · (rintro W' ⟨s0, s1, s2, s3, s4, s5, s6, s7, s8⟩; go_simp; first | done | with_reducible rfl)
      try simp only [Act.put, List.setIfInBounds_toArray, List.set_cons_zero, List.set_cons_succ]
      refine wpAnyH_take (i := 4) (oi := ?_) (v := ?_) ?_ (by kernel_rfl) (by kernel_rfl) (by kernel_rfl) ?_ (Or.inl ⟨?_, ?_⟩) hHeld ?_
      rotate_left 2
      · (simp only [List.getElem?_toArray, List.getElem?_cons_succ, List.getElem?_cons_zero]; rfl)
      · exact fun _ _ _ h => h
      · rfl
      · (rintro W' ⟨s0, s1, s2, s3, s4, s5, s6, s7, s8⟩; go_simp; first | done | with_reducible rfl)
      try simp only [Act.put, List.setIfInBounds_toArray, List.set_cons_zero, List.set_cons_succ]
      refine wpAnyH_take (i := 5) (oi := ?_) (v := ?_) ?_ (by kernel_rfl) (by kernel_rfl) (by kernel_rfl) ?_ (Or.inl ⟨?_, ?_⟩) hHeld ?_
      rotate_left 2
      · (simp only [List.getElem?_toArray, List.getElem?_cons_succ, List.getElem?_cons_zero]; rfl)
      · exact fun _ _ _ h => h
      · rfl
      · (rintro W' ⟨s0, s1, s2, s3, s4, s5, s6, s7, s8⟩; go_simp; first | done | with_reducible rfl)
      try simp only [Act.put, List.setIfInBounds_toArray, List.set_cons_zero, List.set_cons_succ]
      refine wpAnyH_ready (rs := [3]) (by kernel_rfl) (by simp) ?_
      refine AllReadyH.cons (o := ?_) ?_ (fun K hK => ?_) AllReadyH.nil
      rotate_left 1
      · (simp only [List.getElem?_toArray, List.getElem?_cons_succ, List.getElem?_cons_zero]; rfl)
      · (go_simp; refine (do_at (HMd.out.chg (Chg.refl [] W).drew (by simp)) (by omega) ⟨oa, oc, rfl, HBO2.out.chg (Chg.refl [] W).drew (by simp), HOK.out⟩).mono ?_; rintro e w2 ⟨L2, a2, c2, rfl, hM2, hL2, hB2, hF2, hC2⟩; have HC2 := Lib.hid ((Chg.refl L' W).drew.trans hC2); have HN := Lib.hid (And.intro hM2 (And.intro hL2 hB2)); clear hM2 hL2 hB2 hF2 hC2)
        refine hK.out _ _ ?_ (fun hHeld => ?_)
        · exact ⟨(HC2.out.cell (p := ⟨wr.heap.size, 0, none⟩) lv HVL.out).trans v0, (HC2.out.cell (p := ⟨wr.heap.size, 1, none⟩) lv HVL.out).trans v1, (HC2.out.cell (p := ⟨wr.heap.size, 2, none⟩) lv HVL.out).trans v2, (HC2.out.cell (p := ⟨wr.heap.size, 3, none⟩) lv HVL.out).trans v3, (HC2.out.cell (p := ⟨wr.heap.size, 4, none⟩) lv HVL.out).trans v4, (HC2.out.cell (p := ⟨wr.heap.size, 5, none⟩) lv HVL.out).trans v5, (HC2.out.cell (p := ⟨wr.heap.size, 6, none⟩) lv HVL.out).trans v6, (HC2.out.cell (p := ⟨wr.heap.size, 7, none⟩) lv HVL.out).trans v7, (HC2.out.cell (p := ⟨wr.heap.size, 8, none⟩) lv HVL.out).trans v8⟩
        clear hK K
        try simp only [Act.put, List.setIfInBounds_toArray, List.set_cons_zero, List.set_cons_succ]
        refine wpAnyH_ready (rs := [6]) (by kernel_rfl) (by simp) ?_
        refine AllReadyH.cons (o := ?_) ?_ (fun K hK => ?_) AllReadyH.nil
        rotate_left 1
        · (simp only [List.getElem?_toArray, List.getElem?_cons_succ, List.getElem?_cons_zero]; rfl)
        · (have h1' := (HC2.out.block _ (heap_lt HH1.out) (fun hb => (HA.out.out _ hb).2.1 rfl)).trans HH1.out; have h0' := (HC2.out.block _ (heap_lt HH0.out) (fun hb => (HA.out.out _ hb).2.2.2 rfl)).trans HH0.out; obtain ⟨wa', wc', eW', hB'⟩ := wD_ok h1' h0' k h1; have e3 := HEW.out.symm.trans eW'; injection e3 with e4 e5 e6; have cS := same24_at HN.out.2.2 hB'; rw [awk_ok' k h1] at cS; rw [← e4, ← e6] at cS; clear h1' h0' eW' hB' e4 e5 e6; go_simp; refine cS.mono ?_; clear cS; rintro e w3 ⟨rfl, hC3⟩; have HC3 := Lib.hid hC3; clear hC3)
          refine hK.out _ _ ?_ (fun hHeld => ?_)
          · exact ⟨(HC3.out.cell (p := ⟨wr.heap.size, 0, none⟩) (Nat.lt_of_lt_of_le lv HC2.out.size) (by simp)).trans ((HC2.out.cell (p := ⟨wr.heap.size, 0, none⟩) lv HVL.out).trans v0), (HC3.out.cell (p := ⟨wr.heap.size, 1, none⟩) (Nat.lt_of_lt_of_le lv HC2.out.size) (by simp)).trans ((HC2.out.cell (p := ⟨wr.heap.size, 1, none⟩) lv HVL.out).trans v1), (HC3.out.cell (p := ⟨wr.heap.size, 2, none⟩) (Nat.lt_of_lt_of_le lv HC2.out.size) (by simp)).trans ((HC2.out.cell (p := ⟨wr.heap.size, 2, none⟩) lv HVL.out).trans v2), (HC3.out.cell (p := ⟨wr.heap.size, 3, none⟩) (Nat.lt_of_lt_of_le lv HC2.out.size) (by simp)).trans ((HC2.out.cell (p := ⟨wr.heap.size, 3, none⟩) lv HVL.out).trans v3), (HC3.out.cell (p := ⟨wr.heap.size, 4, none⟩) (Nat.lt_of_lt_of_le lv HC2.out.size) (by simp)).trans ((HC2.out.cell (p := ⟨wr.heap.size, 4, none⟩) lv HVL.out).trans v4), (HC3.out.cell (p := ⟨wr.heap.size, 5, none⟩) (Nat.lt_of_lt_of_le lv HC2.out.size) (by simp)).trans ((HC2.out.cell (p := ⟨wr.heap.size, 5, none⟩) lv HVL.out).trans v5), (HC3.out.cell (p := ⟨wr.heap.size, 6, none⟩) (Nat.lt_of_lt_of_le lv HC2.out.size) (by simp)).trans ((HC2.out.cell (p := ⟨wr.heap.size, 6, none⟩) lv HVL.out).trans v6), (HC3.out.cell (p := ⟨wr.heap.size, 7, none⟩) (Nat.lt_of_lt_of_le lv HC2.out.size) (by simp)).trans ((HC2.out.cell (p := ⟨wr.heap.size, 7, none⟩) lv HVL.out).trans v7), (HC3.out.cell (p := ⟨wr.heap.size, 8, none⟩) (Nat.lt_of_lt_of_le lv HC2.out.size) (by simp)).trans ((HC2.out.cell (p := ⟨wr.heap.size, 8, none⟩) lv HVL.out).trans v8)⟩
          clear hK K
          try simp only [Act.put, List.setIfInBounds_toArray, List.set_cons_zero, List.set_cons_succ]
          refine wpAnyH_take (i := 7) (oi := ?_) (v := ?_) ?_ (by kernel_rfl) (by kernel_rfl) (by kernel_rfl) ?_ (Or.inl ⟨?_, ?_⟩) hHeld ?_
          rotate_left 2
          · (simp only [List.getElem?_toArray, List.getElem?_cons_succ, List.getElem?_cons_zero]; rfl)
          · exact fun _ _ _ h => h
          · rfl
          · (rintro W' ⟨s0, s1, s2, s3, s4, s5, s6, s7, s8⟩; go_simp; first | done | with_reducible rfl)
          try simp only [Act.put, List.setIfInBounds_toArray, List.set_cons_zero, List.set_cons_succ]
          refine wpAnyH_done (by kernel_rfl) ?_ _
          go_wp2_with fail
          have hc : Chg L' W w3 := HC2.out.trans (HC3.out.mono (by simp))
          have hin : ∀ b, b ∈ L2 → b ∈ L' ∨ wr.heap.size ≤ b := fun b hb => by
            rcases HN.out.2.1 b hb with h | h
            · exact .inl h
            · exact .inr (Nat.le_trans HCV.out.size h)
          have hlr := heap_lt HA.out.row
          have hl1 := heap_lt HA.out.h1
          have hl2 := heap_lt HA.out.h2
          have hl0 := heap_lt HA.out.h0
          have hA' : AwkR w w3 p wd.heap.size wa.heap.size wb.heap.size wc.heap.size (k + 1) L2 :=
            { md := HN.out.1.chg HC3.out (by simp)
              out := fun b hb => by
                rcases hin b hb with h | h
                · exact HA.out.out b h
                · omega
              new := fun b hb => by
                rcases hin b hb with h | h
                · exact HA.out.new b h
                · exact Nat.le_trans HA.out.chg.size h
              row := (hc.block _ (Nat.lt_of_lt_of_le hlr HCV.out.size) (fun hb => (HA.out.out _ hb).1 rfl)).trans ((HCV.out.block _ hlr (by simp)).trans HA.out.row)
              h1 := (hc.block _ (Nat.lt_of_lt_of_le hl1 HCV.out.size) (fun hb => (HA.out.out _ hb).2.1 rfl)).trans ((HCV.out.block _ hl1 (by simp)).trans HA.out.h1)
              h2 := (hc.block _ (Nat.lt_of_lt_of_le hl2 HCV.out.size) (fun hb => (HA.out.out _ hb).2.2.1 rfl)).trans ((HCV.out.block _ hl2 (by simp)).trans HA.out.h2)
              h0 := (hc.block _ (Nat.lt_of_lt_of_le hl0 HCV.out.size) (fun hb => (HA.out.out _ hb).2.2.2 rfl)).trans ((HCV.out.block _ hl0 (by simp)).trans HA.out.h0)
              chg := (HA.out.chg.trans HCV.out).then hc (fun i hi => .inr (HA.out.new i hi)) }
          go_roundw
          case rel => exact ⟨k + 1, by omega, by go_num, L2, Lib.hid hA'⟩
          case measure => simp [intOf]; omega
    · obtain rfl : k = 16 := by omega
      go_wp2_with fail
      go_ret
      exact ⟨rfl, HA.out.chg⟩

end Go.Proofs.Ytbejcmbdaoakbaa
