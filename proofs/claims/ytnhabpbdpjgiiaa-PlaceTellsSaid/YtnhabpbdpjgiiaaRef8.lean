/- The reference's tally (catchmentref08): how it lies in memory, and what its functions answer. -/
import Derived.Test.YtnhabpbdpjgiiaaRef0
namespace Go.Proofs.Ytnhabpbdpjgiiaa
open Go.RowKit
set_option linter.unusedVariables false
set_option linter.unusedSimpArgs false

/-- A slice of numbers in a block that is none of A. -/
def RN (A : List Nat) (w : World) (v : Value) (n : Nat) (f : Nat → Nat) : Prop :=
  ∃ g cap, v = .slice (some ⟨g, 0, none⟩) n cap ∧ n ≤ cap ∧ cap ≤ maxLen ∧ g < w.heap.size ∧ g ∉ A ∧ ∀ i, i < n → w.cell? ⟨g, i, none⟩ = some (.int .i64 (f i : Int))

theorem RN.chg {A L : List Nat} {w w' : World} {v : Value} {n : Nat} {f : Nat → Nat} (h : RN A w v n f) (c : Chg L w w') (hL : ∀ k, k ∈ L → k ∈ A ∨ w.heap.size ≤ k) : RN A w' v n f := by
  obtain ⟨g, cap, rfl, h1, h2, h3, h4, h5⟩ := h
  have hg : g ∉ L := fun hm => by rcases hL g hm with h | h; exact h4 h; omega
  exact ⟨g, cap, rfl, h1, h2, Nat.lt_of_lt_of_le h3 c.size, h4, fun i hi => (c.cell (p := ⟨g, i, none⟩) h3 hg).trans (h5 i hi)⟩
theorem RN.congr {A : List Nat} {w : World} {v : Value} {n : Nat} {f f' : Nat → Nat} (h : RN A w v n f) (e : ∀ i, i < n → f' i = f i) : RN A w v n f' := by
  obtain ⟨g, cap, rfl, h1, h2, h3, h4, h5⟩ := h
  exact ⟨g, cap, rfl, h1, h2, h3, h4, fun i hi => by rw [e i hi]; exact h5 i hi⟩
theorem RN.more {A B : List Nat} {w : World} {v : Value} {n : Nat} {f : Nat → Nat} (h : RN A w v n f) (hB : ∀ k, k ∈ B → k ∈ A ∨ w.heap.size ≤ k) : RN B w v n f := by
  obtain ⟨g, cap, rfl, h1, h2, h3, h4, h5⟩ := h
  exact ⟨g, cap, rfl, h1, h2, h3, fun hm => by rcases hB g hm with h | h; exact h4 h; omega, h5⟩

/-- The value is the reference's tally T. -/
structure RefT (A : List Nat) (w : World) (v1 v2 : Value) (T : Tal) : Prop where
  n1 : 1 ≤ T.n
  n2 : T.n ≤ 4096
  b1 : ∀ i, i < T.n → T.now i ≤ 65535
  b2 : ∀ i, i < T.n → T.kept i ≤ 65535
  now : RN A w v1 T.n T.now
  kept : RN A w v2 T.n T.kept

theorem RefT.chg {A L : List Nat} {w w' : World} {v1 v2 : Value} {T : Tal} (h : RefT A w v1 v2 T) (c : Chg L w w') (hL : ∀ k, k ∈ L → k ∈ A ∨ w.heap.size ≤ k) : RefT A w' v1 v2 T :=
  ⟨h.n1, h.n2, h.b1, h.b2, h.now.chg c hL, h.kept.chg c hL⟩
theorem RefT.more {A B : List Nat} {w : World} {v1 v2 : Value} {T : Tal} (h : RefT A w v1 v2 T) (hB : ∀ k, k ∈ B → k ∈ A ∨ w.heap.size ≤ k) : RefT B w v1 v2 T :=
  ⟨h.n1, h.n2, h.b1, h.b2, h.now.more hB, h.kept.more hB⟩

set_option maxRecDepth 20000 in
set_option maxHeartbeats 1000000 in
theorem r8new_bad (n : Int) (w : World) (h : n < 1 ∨ 4096 < n) :
    Calls Try.prog 8 #[.int .i64 n] w fun e w' => e = .returned (.tuple #[.agg #[.slice none 0 0, .slice none 0 0], .int .i64 2]) ∧ Chg [] w w' := by
  rcases h with h | h
  · go_enter Try.func8, Try.ntmps8
    go_wp2
    exact bodyPost_ret (v := .tuple #[.agg #[.slice none 0 0, .slice none 0 0], .int .i64 2]) (by simp [results, Try.results8, go_sem]) rfl ⟨rfl, (Chg.refl _ _).alloc _⟩
  · have h' : ¬ n < 1 := by omega
    go_enter Try.func8, Try.ntmps8
    go_wp2
    exact bodyPost_ret (v := .tuple #[.agg #[.slice none 0 0, .slice none 0 0], .int .i64 2]) (by simp [results, Try.results8, go_sem]) rfl ⟨rfl, (Chg.refl _ _).alloc _⟩

theorem zrow_RN {A : List Nat} {w : World} {b n : Nat} (h : w.heap[b]? = some (.cells (zrow n (.int .i64 0)) 3 (0, 0))) (hb : b ∉ A) (hn : n ≤ 4096) : RN A w (.slice (some ⟨b, 0, none⟩) n n) n (fun _ => 0) :=
  ⟨b, n, rfl, Nat.le_refl _, by unfold maxLen; omega, heap_lt h, hb, fun i hi => by rw [cell_of_block h]; simp [zrow, hi]⟩

theorem r8new_end {w : World} {n : Nat} {A : List Nat} {o : Obj} (hA : ∀ k, k ∈ A → k < w.heap.size) (h1 : 1 ≤ n) (h2 : n ≤ 4096) :
    RN A (((w.alloc o).alloc (.cells (zrow n (.int .i64 0)) 3)).alloc (.cells (zrow n (.int .i64 0)) 3)).drew (.slice (some ⟨w.heap.size + 1, 0, none⟩) n n) n (fun _ => 0) ∧
    RN A (((w.alloc o).alloc (.cells (zrow n (.int .i64 0)) 3)).alloc (.cells (zrow n (.int .i64 0)) 3)).drew (.slice (some ⟨w.heap.size + 1 + 1, 0, none⟩) n n) n (fun _ => 0) ∧
    Chg [] w (((w.alloc o).alloc (.cells (zrow n (.int .i64 0)) 3)).alloc (.cells (zrow n (.int .i64 0)) 3)).drew := by
  have x1 := new_block21 (w.alloc o) (.cells (zrow n (.int .i64 0)) 3) (.cells (zrow n (.int .i64 0)) 3)
  have x2 := new_block2 (w.alloc o) (.cells (zrow n (.int .i64 0)) 3) (.cells (zrow n (.int .i64 0)) 3)
  simp only [size_alloc'] at x1 x2
  exact ⟨zrow_RN x1 (fun h => by have := hA _ h; omega) h2, zrow_RN x2 (fun h => by have := hA _ h; omega) h2, ((((Chg.refl _ _).alloc _).alloc _).alloc _).drew⟩

set_option maxRecDepth 20000 in
set_option maxHeartbeats 1000000 in
theorem r8new_at (n : Nat) (w : World) (A : List Nat) (hA : ∀ k, k ∈ A → k < w.heap.size) (h1 : 1 ≤ n) (h2 : n ≤ 4096) :
    Calls Try.prog 8 #[.int .i64 (n : Int)] w fun e w' => ∃ v1 v2, e = .returned (.tuple #[.agg #[v1, v2], .int .i64 0]) ∧ RefT A w' v1 v2 (Tal.new n) ∧ Chg [] w w' := by
  have hmk := run_make1 (P := Try.prog) 31 3 Try.underlying31 infoInt8 rfl .i64 .i64 n (by omega) (by omega)
  go_enter Try.func8, Try.ntmps8
  go_wp2
  go_region
  · go_wp2
    obtain ⟨q1, q2, q3⟩ := r8new_end (o := .cells #[.slice (some ⟨w.heap.size + 1, 0, none⟩) n n, .slice (some ⟨w.heap.size + 1 + 1, 0, none⟩) n n] 33) hA h1 h2
    exact bodyPost_ret (v := .tuple #[.agg #[.slice (some ⟨w.heap.size + 1, 0, none⟩) n n, .slice (some ⟨w.heap.size + 1 + 1, 0, none⟩) n n], .int .i64 0]) (by simp [results, Try.results8, go_sem]) rfl
      ⟨_, _, rfl, ⟨h1, h2, fun _ _ => Nat.zero_le _, fun _ _ => Nat.zero_le _, q1, q2⟩, q3⟩
  · go_wp2
    obtain ⟨q1, q2, q3⟩ := r8new_end (o := .cells #[.slice (some ⟨w.heap.size + 1 + 1, 0, none⟩) n n, .slice (some ⟨w.heap.size + 1, 0, none⟩) n n] 33) hA h1 h2
    exact bodyPost_ret (v := .tuple #[.agg #[.slice (some ⟨w.heap.size + 1 + 1, 0, none⟩) n n, .slice (some ⟨w.heap.size + 1, 0, none⟩) n n], .int .i64 0]) (by simp [results, Try.results8, go_sem]) rfl
      ⟨_, _, rfl, ⟨h1, h2, fun _ _ => Nat.zero_le _, fun _ _ => Nat.zero_le _, q2, q1⟩, q3⟩

set_option maxRecDepth 20000 in
set_option maxHeartbeats 1000000 in
theorem r8keep_at {A : List Nat} {w : World} {v1 v2 : Value} {T : Tal} (h : RefT A w v1 v2 T) :
    Calls Try.prog 19 #[.agg #[v1, v2]] w fun e w' => e = .returned (.agg #[v1, v1]) ∧ RefT A w' v1 v1 T.keep ∧ Chg [] w w' := by
  have hc : Chg [] w ((w.alloc (.cells #[v1, v2] 33)).alloc (.cells #[v1, v1] 33)) := ((Chg.refl _ _).alloc _).alloc _
  have h2 := h.chg hc (by simp)
  have H : Hid (RefT A ((w.alloc (.cells #[v1, v2] 33)).alloc (.cells #[v1, v1] 33)) v1 v1 T.keep) := Lib.hid ⟨h2.n1, h2.n2, h2.b1, h2.b1, h2.now, h2.now⟩
  obtain ⟨g1, c1, rfl, _⟩ := h.now
  obtain ⟨g2, c2, rfl, _⟩ := h.kept
  have HC := Lib.hid hc
  clear hc h2 h
  go_enter Try.func19, Try.ntmps19
  go_wp2
  exact bodyPost_ret (v := .agg #[.slice (some ⟨g1, 0, none⟩) T.n c1, .slice (some ⟨g1, 0, none⟩) T.n c1]) (by simp [results, Try.results19, go_sem]) rfl ⟨rfl, H.out, HC.out⟩

end Go.Proofs.Ytnhabpbdpjgiiaa
