/- Bytes in memory: BytesAt, BytesIn, string(b), catchmentlow.Equal, Again. (Lines of the texts Oct, Seal and Str, for a seat without octets.) -/
import Derived.Test.YtbejcmbdaoakbaaProg
import Derived.Test.YtbejcmbdaoakbaaFr
import Derived.Test.YtbejcmbdaoakbaaCopy
import Derived.Laws.BytesArg
import Derived.Laws.IdiomStrings
namespace Go.Proofs.Ytbejcmbdaoakbaa
open Go.RowKit
set_option linter.unusedVariables false
set_option linter.unusedSimpArgs false

def u8s (n : Nat) (f : Nat → Nat) : Array Value := Array.ofFn (n := n) fun i => .int .u8 ((f i : Nat) : Int)
theorem u8s_get {n : Nat} {f : Nat → Nat} {i : Nat} (h : i < n) : (u8s n f)[i]? = some (.int .u8 ((f i : Nat) : Int)) := by
  simp [u8s, h]
theorem u8s_set {n : Nat} {f : Nat → Nat} {i v : Nat} (h : i < n) : (u8s n f).setIfInBounds i (.int .u8 (v : Int)) = u8s n (fun j => if j = i then v else f j) := by
  apply Array.ext_getElem?
  intro j
  by_cases hj : j < n
  · rw [u8s_get hj, Array.getElem?_setIfInBounds]
    by_cases e : j = i
    · subst e; simp [u8s, h]
    · rw [if_neg (fun q => e q.symm), u8s_get hj]; simp [e]
  · simp [u8s, hj]

/-- Bytes that stand in memory. -/
def BytesAt (w : World) (b off n : Nat) (f : Nat → Nat) : Prop := ∀ i, i < n → w.cell? ⟨b, off + i, none⟩ = some (.int .u8 (f i : Int)) ∧ f i ≤ 255
theorem BytesAt.chg {w w' : World} {b off n : Nat} {f : Nat → Nat} {L : List Nat} (h : BytesAt w b off n f) (c : Chg L w w') (hb : b ∉ L) : BytesAt w' b off n f := fun i hi => by
  obtain ⟨h1, h2⟩ := h i hi
  exact ⟨(c.cell (p := ⟨b, off + i, none⟩) (World.block_lt_of_cell? w _ h1) hb).trans h1, h2⟩
theorem BytesAt.sub {w : World} {b off n : Nat} {f : Nat → Nat} (h : BytesAt w b off n f) {a m : Nat} (hm : a + m ≤ n) : BytesAt w b (off + a) m (fun i => f (a + i)) := fun i hi => by
  have := h (a + i) (by omega)
  rw [← Nat.add_assoc] at this
  exact this
theorem BytesAt.of_block {w : World} {b N : Nat} {f : Nat → Nat} (h : w.heap[b]? = some (.cells (u8s N f) 5 (0, 0))) (hf : ∀ i, i < N → f i ≤ 255) {off n : Nat} (hn : off + n ≤ N) : BytesAt w b off n (fun i => f (off + i)) := fun i hi =>
  ⟨(cell_of_block h _).trans (u8s_get (by omega)), hf _ (by omega)⟩

theorem infoU8 : (Try.prog.info? 5).map (fun i => (i.zero, i.size, i.bytes)) = some (some (.int .u8 0), 1, 1) := by kernel_rfl
theorem zrow_u8s (n : Nat) : zrow n (.int .u8 0) = u8s n (fun _ => 0) := by
  apply Array.ext
  · simp [zrow, u8s]
  · intro i h1 h2
    simp [zrow, u8s]

/-- A slice of bytes that came in: nil, or bytes in memory. -/
def BytesIn (w : World) (a : Option Addr) (n cap : Nat) (f : Nat → Nat) : Prop :=
  n ≤ cap ∧ cap ≤ maxLen ∧ (a = none → n = 0 ∧ cap = 0) ∧ ∀ b, a = some b → 0 < n → ∃ k o, b = ⟨k, o, none⟩ ∧ BytesAt w k o n f

def bstr (n : Nat) (f : Nat → Nat) : ByteArray := strOfNums ((List.range n).map fun i => (f i : Int))
def eqF (n m : Nat) (f g : Nat → Nat) : Bool := decide (n = m) && (List.range n).all fun i => decide (f i = g i)
theorem eqF_iff {n m : Nat} {f g : Nat → Nat} : eqF n m f g = true ↔ n = m ∧ ∀ i, i < n → f i = g i := by
  simp [eqF]
theorem eqF_eq {n m : Nat} {f g : Nat → Nat} {b : Bool} (h : (n = m ∧ ∀ i, i < n → f i = g i) ↔ b = true) : eqF n m f g = b := by
  rw [Bool.eq_iff_iff, eqF_iff]; exact h
theorem bstr_toList (n : Nat) (f : Nat → Nat) : (bstr n f).toList = (List.range n).map fun i => UInt8.ofNat (f i) := by
  rw [ByteArray.toList_eq]
  unfold bstr
  rw [strOfNums_data, List.map_map]
  rfl
theorem bstr_size (n : Nat) (f : Nat → Nat) : (bstr n f).size = n := by
  unfold bstr
  rw [strOfNums_size]; simp
theorem bstr_beq {n m : Nat} {f g : Nat → Nat} (hf : ∀ i, i < n → f i ≤ 255) (hg : ∀ i, i < m → g i ≤ 255) : ((bstr n f).toList == (bstr m g).toList) = eqF n m f g := by
  rw [Bool.eq_iff_iff, eqF_iff, beq_iff_eq, bstr_toList, bstr_toList]
  constructor
  · intro h
    have hl := congrArg List.length h
    simp at hl
    subst hl
    refine ⟨rfl, fun i hi => ?_⟩
    have := congrArg (fun l => l[i]?) h
    simp only [List.getElem?_map, List.getElem?_range hi, Option.map_some, Option.some.injEq] at this
    have h2 := congrArg UInt8.toNat this
    have hfi := hf i hi
    have hgi := hg i hi
    simp at h2
    omega
  · rintro ⟨rfl, h⟩
    apply List.map_congr_left
    intro i hi
    rw [h i (by simpa using hi)]

theorem BytesIn.le {w : World} {a : Option Addr} {n cap : Nat} {f : Nat → Nat} (h : BytesIn w a n cap f) : ∀ i, i < n → f i ≤ 255 := by
  intro i hi
  obtain ⟨h1, h2, h3, h4⟩ := h
  cases a with
  | none => have := (h3 rfl).1; omega
  | some b =>
    obtain ⟨k, o, rfl, hb⟩ := h4 b rfl (by omega)
    exact (hb i hi).2

theorem BytesIn.chg {L : List Nat} {w w' : World} {a : Option Addr} {n cap : Nat} {f : Nat → Nat} (h : BytesIn w a n cap f) (c : Chg L w w') (hL : 0 < n → ∀ b, a = some b → b.block ∉ L) : BytesIn w' a n cap f :=
  ⟨h.1, h.2.1, h.2.2.1, fun b hb h0 => by
    obtain ⟨k, o, rfl, hc⟩ := h.2.2.2 b hb h0
    exact ⟨k, o, rfl, hc.chg c (hL h0 _ hb)⟩⟩

theorem conv_at {w : World} {a : Option Addr} {n cap : Nat} {f : Nat → Nat} (h : BytesIn w a n cap f) : (convert 24 9 (.slice a n cap)).run Try.prog w = .ok (.string (bstr n f)) w := by
  obtain ⟨h1, h2, h3, h4⟩ := h
  cases a with
  | none =>
    obtain ⟨rfl, rfl⟩ := h3 rfl
    rw [run_convert_bytes_string w 24 9 5 none 0 0 Try.underlying24 Try.underlying5 Try.underlying9]
    simp [Conv.bytesToString, loadCells]
    rfl
  | some b =>
    by_cases h0 : n = 0
    · subst h0
      rw [run_convert_bytes_string w 24 9 5 (some b) 0 cap Try.underlying24 Try.underlying5 Try.underlying9]
      simp [Conv.bytesToString, loadCells]
      rfl
    obtain ⟨k, o, rfl, hb⟩ := h4 b rfl (by omega)
    refine run_convert_bytes_arg (P := Try.prog) w 24 5 Try.underlying24 Try.underlying5 k o n cap _ (by simp) ?_ 9 Try.underlying9
    intro i hi
    rw [(hb i hi).1]
    simp [List.getD, List.getElem?_map, List.getElem?_range hi]

set_option maxRecDepth 20000 in
set_option maxHeartbeats 1000000 in
theorem equal_at {w : World} {a b : Option Addr} {n m c d : Nat} {f g : Nat → Nat} (h1 : BytesIn w a n c f) (h2 : BytesIn w b m d g) :
    Calls Try.prog 19 #[.slice a n c, .slice b m d] w fun e w' => e = .returned (.bool (eqF n m f g)) ∧ w = w' := by
  have c1 := conv_at h1
  have c2 := conv_at h2
  have E := Lib.hid (bstr_beq h1.le h2.le)
  clear h1 h2
  go_enter Try.func19, Try.ntmps19
  go_wp2_with fail
  go_ret
  exact ⟨by rw [← E.out]; rfl, rfl⟩

theorem bytesRow_get {n cap : Nat} {f : Nat → Nat} (hf : ∀ i, i < n → f i ≤ 255) {i : Nat} (hi : i < n) : (bytesRow (bstr n f) cap)[i]? = some (.int .u8 (f i : Int)) := by
  have hsz : (bstr n f).data.size = n := bstr_size n f
  unfold bytesRow
  rw [Array.getElem?_append_left (by simp [hsz]; exact hi), Array.getElem?_map]
  have h : (bstr n f).data[i]? = some (UInt8.ofNat (f i)) := by
    have := bstr_toList n f
    rw [ByteArray.toList_eq] at this
    rw [← Array.getElem?_toList, this]
    simp [hi]
  rw [h]
  have := hf i hi
  simp
  omega

set_option maxRecDepth 20000 in
set_option maxHeartbeats 1000000 in
theorem again_at {w : World} {a : Option Addr} {n c : Nat} {f : Nat → Nat} (h1 : BytesIn w a n c f) :
    Calls Try.prog 17 #[.slice a n c] w fun e w' => ∃ d, e = .returned (.slice (some ⟨w.heap.size, 0, none⟩) n d) ∧ w.heap.size < w'.heap.size ∧ BytesIn w' (some ⟨w.heap.size, 0, none⟩) n d f ∧ Chg [] w w' := by
  have c1 := conv_at h1
  have hn : n ≤ maxLen := Nat.le_trans h1.1 h1.2.1
  have c2 := run_bytes_of_string (P := Try.prog) w 9 24 5 (bstr n f) Try.underlying9 Try.underlying24 Try.underlying5
  have Hle := Lib.hid h1.le
  have hd1 := grownCap_ge w n 0 5
  have hd2 := grownCap_le_maxLen w n 0 5 hn
  rw [bstr_size] at c2
  generalize grownCap w n 0 5 = d at *
  have HD := Lib.hid (And.intro hd1 hd2)
  clear h1 hd1 hd2 hn
  go_enter Try.func17, Try.ntmps17
  go_wp2_with fail
  go_ret
  refine ⟨d, rfl, ?_, ⟨HD.out.1, HD.out.2, (fun h => by cases h), fun b hb _ => ?_⟩, ((Chg.refl [] w).alloc _).drew⟩
  · show w.heap.size < (w.alloc _).heap.size
    rw [size_alloc']; exact Nat.lt_succ_self _
  · injection hb with hb
    subst hb
    refine ⟨_, _, rfl, fun i hi => ⟨?_, Hle.out i hi⟩⟩
    refine Eq.trans (cell_of_block (heap_alloc_new w _) _) ?_
    rw [Nat.zero_add]
    exact bytesRow_get Hle.out hi

end Go.Proofs.Ytbejcmbdaoakbaa
