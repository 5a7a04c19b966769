/- Appending one element to a slice of the call's own. -/
import Derived.Test.YtnhabpbdpjgiiaaFr
namespace Go.Proofs.Ytnhabpbdpjgiiaa
open Go.RowKit

theorem wpList_app1 {P : Program} (w : World) {ops : Array Oper} {rest : List Oper} {o : Oper} {a : Act} {Q : Exit → Act → World → Prop} (hgd : o.guard = none) (s x : Operand) (t : TypeId)
    (ho : o.op = .call { callee := .builtin .append, args := #[s, x], argTypes := #[t, t] })
    (base : Nat) (e : TypeId) (z : Value) (bytes : Nat) (ht : P.underlying t = some (.slice e)) (hi : (P.info? e).map (fun i => (i.zero, i.size, i.bytes)) = some (some z, 1, bytes)) (hzs : z.cells.size = 1)
    (v : Value) (n : Nat) (xs : List Value) (hs : a.eval s = v) (hown : w.ownsRow base e 1 v n xs)
    (b c : Nat) (u : Value) (hx : a.eval x = .slice (some ⟨b, 0, none⟩) 1 c) (hc : w.cell? ⟨b, 0, none⟩ = some u) (hu : u.oneCell' = true) (hn : n ≤ 1000000) (hb8 : bytes ≤ 64) (hbase : base ≤ w.heap.size)
    (h : ∀ v' w', w'.ownsRow base e 1 v' (n + 1) (xs ++ [u]) → w.grownBy w' v.ownBlock → wpList P ops Q rest (a.put o.dst v') w') : wpList P ops Q (o :: rest) a w := by
  obtain ⟨i, h1, h2, h3, h4⟩ := info_parts hi
  refine wpList_append_own w hgd s x t ho base e i z 1 bytes ht h1 h2 h3 h4 hzs (by decide) v n xs hs hown ⟨b, 0, none⟩ 1 c [u] hx rfl ?_ ?_ ?_ ?_ hbase fun v' w' a1 a2 _ => h v' w' a1 a2
  · intro j q hj
    match j, hj with
    | 0, hj =>
      simp only [List.getElem?_cons_zero, Option.some.injEq] at hj
      subst hj
      simpa [Addr.add] using hc
  · intro q hq
    simp only [List.mem_singleton] at hq
    subst hq
    exact hu
  · unfold maxLen; omega
  · have : (n + 1) * bytes ≤ (n + 1) * 64 := Nat.mul_le_mul_left _ hb8
    omega

/-- What an append to a row of the call's own leaves of the rest. -/
theorem Chg.app {L : List Nat} {a w w' : World} {v : Value} {n base : Nat} {e : TypeId} {xs : List Value} {o : Obj} (h : Chg L a w) (hown : w.ownsRow base e 1 v n xs) (hg : (w.alloc o).grownBy w' v.ownBlock) (hb : a.heap.size ≤ base) : Chg L a w' :=
  (h.alloc o).grown hg fun k hk => .inr (Nat.le_trans hb (hown.lt k hk).1)

end Go.Proofs.Ytnhabpbdpjgiiaa
