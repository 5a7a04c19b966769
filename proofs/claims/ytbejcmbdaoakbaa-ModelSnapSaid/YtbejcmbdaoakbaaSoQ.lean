/- Two models in hand, and blocks that are not theirs. -/
import Derived.Test.YtbejcmbdaoakbaaSoP
namespace Go.Proofs.Ytbejcmbdaoakbaa
open Go.RowKit Go.Sort Go.Maps
set_option linter.unusedVariables false
set_option linter.unusedSimpArgs false

structure Two24 (w wr : World) (p q : Nat) (X L M : List Nat) (a b : Nat) (S T : St) : Prop where
  m : MdAt a L wr p S
  q : MdAt b M wr q T
  ap : ∀ x, x ∈ L → x ∉ M
  nl : ∀ x, x ∈ L → w.heap.size ≤ x ∧ x ∉ X
  nm : ∀ x, x ∈ M → w.heap.size ≤ x ∧ x ∉ X
  xl : ∀ x, x ∈ X → x < wr.heap.size
  chg : Chg [] w wr
section
variable {w wr w' : World} {p q : Nat} {X L L' M M' : List Nat} {a a' b b' : Nat} {S S' T T' : St}
theorem Two24.step (h : Two24 w wr p q X L M a b S T) (c : Chg [] wr w') : Two24 w w' p q X L M a b S T :=
  { h with m := h.m.chg c (by simp), q := h.q.chg c (by simp), xl := fun x hx => Nat.lt_of_lt_of_le (h.xl x hx) c.size, chg := h.chg.trans c }
/-- The first one was asked, or changed. -/
theorem Two24.one (h : Two24 w wr p q X L M a b S T) (hM : MdAt a' L' w' p S') (hL : ∀ x, x ∈ L' → x ∈ L ∨ wr.heap.size ≤ x) (c : Chg L wr w') : Two24 w w' p q X L' M a' b S' T where
  m := hM
  q := h.q.chg c (fun x hx hl => h.ap x hl hx)
  ap := fun x hx hm => by
    rcases hL x hx with g | g
    · exact h.ap x g hm
    · have := h.q.lt x hm; omega
  nl := fun x hx => by
    rcases hL x hx with g | g
    · exact h.nl x g
    · exact ⟨Nat.le_trans h.chg.size g, fun hX => by have := h.xl x hX; omega⟩
  nm := h.nm
  xl := fun x hx => Nat.lt_of_lt_of_le (h.xl x hx) c.size
  chg := h.chg.then c (fun x hx => .inr (h.nl x hx).1)
/-- The second one was. -/
theorem Two24.two (h : Two24 w wr p q X L M a b S T) (hM : MdAt b' M' w' q T') (hL : ∀ x, x ∈ M' → x ∈ M ∨ wr.heap.size ≤ x) (c : Chg M wr w') : Two24 w w' p q X L M' a b' S T' where
  m := h.m.chg c (fun x hx hl => h.ap x hx hl)
  q := hM
  ap := fun x hx hm => by
    rcases hL x hm with g | g
    · exact h.ap x hx g
    · have := h.m.lt x hx; omega
  nl := h.nl
  nm := fun x hx => by
    rcases hL x hx with g | g
    · exact h.nm x g
    · exact ⟨Nat.le_trans h.chg.size g, fun hX => by have := h.xl x hX; omega⟩
  xl := fun x hx => Nat.lt_of_lt_of_le (h.xl x hx) c.size
  chg := h.chg.then c (fun x hx => .inr (h.nm x hx).1)
/-- What stands in the protected blocks stays. -/
theorem Two24.kept1 (h : Two24 w wr p q X L M a b S T) (c : Chg L wr w') {x : Nat} (hx : x ∈ X) : w'.heap[x]? = wr.heap[x]? := c.block x (h.xl x hx) (fun hl => (h.nl x hl).2 hx)
theorem Two24.kept2 (h : Two24 w wr p q X L M a b S T) (c : Chg M wr w') {x : Nat} (hx : x ∈ X) : w'.heap[x]? = wr.heap[x]? := c.block x (h.xl x hx) (fun hl => (h.nm x hl).2 hx)
theorem Two24.mono (h : Two24 w wr p q X L M a b S T) (ha : a ≤ a') (hb : b ≤ b') : Two24 w wr p q X L M a' b' S T := { h with m := h.m.mono ha, q := h.q.mono hb }
end

/-- read, at a place that there is. -/
theorem read_ok {N : Nat} {L : List Nat} {w : World} {p v q : Nat} {S : St} {D : VD} (h : MdAt N L w p S) (hN : N ≤ 1000000) (hv : v < 18446744073709551616) (hD : S.vols (kU v) = some D) (hq : q < S.size) :
    Calls Try.prog 26 #[.pointer (some ⟨p, 0, none⟩), .int .u64 (v : Int), .int .u64 (q : Int)] w fun e w' =>
      ∃ L' a c, e = .returned (.tuple #[.slice a 128 c, .bool true]) ∧ MdAt (N + 1) L' w' p S ∧ (∀ b, b ∈ L' → b ∈ L ∨ w.heap.size ≤ b) ∧ BytesIn w' a 128 c (byteOf' (blkAt D q)) ∧
        (∀ b, a = some b → w.heap.size ≤ b.block ∧ b.block ∉ L') ∧ Chg L w w' := by
  have c := read24_at h hN hv (q := q) (by have := size_lt h; omega)
  unfold ReadPost at c
  rw [rd_ok hD hq, rd_rep hD hq] at c
  exact c

end Go.Proofs.Ytbejcmbdaoakbaa
