/- Layer 10, PlaceTells: what a round of the statement holds; catchmentlaw10.yes. -/
import Derived.Test.YtnhabpbdpjgiiaaR10E
import Derived.Test.YtnhabpbdpjgiiaaOps10
namespace Go.Proofs.Ytnhabpbdpjgiiaa
open Go.RowKit
set_option linter.unusedVariables false
set_option linter.unusedSimpArgs false

set_option maxRecDepth 20000 in
theorem yes10_at {w : World} {h n : Nat} {p : Nat → Bool} (hb : w.heap[h]? = some (.cells (bools n p) 4 (0, 0))) (hn : n ≤ 4096) :
    Calls Try.prog 23 #[.slice (some ⟨h, 0, none⟩) n n] w fun e w' => ∃ v, e = .returned v ∧ w'.ownsRow w.heap.size 3 1 v (yesTo p n).length (intVs (yesTo p n)) ∧ Chg [] w w' := by
  have HB := Lib.hid hb
  have lh := heap_lt hb
  clear hb
  go_enter Try.func23, Try.ntmps23
  go_wp2_with fail
  go_loopw [3, 7] (fun v s wr => ∃ k : Nat, k ≤ n ∧ s = .int .i64 (k : Int) ∧ Hid (wr.ownsRow w.heap.size 3 1 v (yesTo p k).length (intVs (yesTo p k)) ∧ Chg [] w wr)) (fun _ s _ => n - (intOf s).toNat)
  case atStart => exact ⟨0, Nat.zero_le _, rfl, ⟨World.ownsRow_nil _ _ _ _, Chg.refl _ _⟩⟩
  case round =>
    obtain ⟨k, hk, rfl, hH⟩ := hrel
    have hown := hH.out.1
    have hC := hH.out.2
    have HOW := Lib.hid hown
    have HCW := Lib.hid hC
    have hsz := hC.size
    have HBK := Lib.hid (fun k hk => (hown.lt k hk).1 : ∀ k, (Value.ownBlock _ = some k) → w.heap.size ≤ k)
    by_cases hlt : k < n
    · have hcell := (hC.cell (p := ⟨h, k, none⟩) lh (by simp)).trans ((cell_of_block HB.out k).trans (bools_get hlt))
      have hyl := yesTo_le p k
      clear hown hC hH
      cases hp : p k with
      | true =>
        rw [hp] at hcell
        have HY := Lib.hid (yesTo_hit hp)
        have HN := Lib.hid (new_block wr (.cells #[.int .i64 (k : Int)] 3))
        go_wp2_with (at_builtin; refine wpList_app1 _ rfl _ _ 31 rfl w.heap.size 3 (.int .i64 0) 8 Try.underlying31 infoInt8 rfl _ _ _ rfl (own_chg HOW.out ((Chg.refl [] wr).alloc _) (by simp)) wr.heap.size 1 (.int .i64 (k : Int)) rfl (cell_of_block HN.out 0) rfl (by omega) (by omega) (by simp; omega) ?_; intro v' w2 hown2 hg2; have HOWN2 := Lib.hid hown2; have HC2 := Lib.hid ((HCW.out.alloc _).grown hg2 (fun k hk => .inr (HBK.out k hk))); clear hown2 hg2)
        go_roundw
        case rel => exact ⟨k + 1, by omega, by go_num, ⟨by rw [HY.out, intVs_app, List.length_append]; exact HOWN2.out, HC2.out⟩⟩
        case measure => simp [intOf]; omega
      | false =>
        rw [hp] at hcell
        have HY := Lib.hid (yesTo_miss hp)
        go_wp2_with fail
        go_roundw
        case rel => exact ⟨k + 1, by omega, by go_num, ⟨by rw [HY.out]; exact HOW.out, HCW.out⟩⟩
        case measure => simp [intOf]; omega
    · obtain rfl : k = n := by omega
      clear hown hC hH
      go_wp2_with fail
      go_ret
      exact ⟨_, rfl, HOW.out, HCW.out⟩

/-- A round's state: the program's tally, pick and sheet beside the reference's. -/
structure Tl (w wr : World) (p t bc bk bq sq N : Nat) (n : Nat → Nat) (K : Pk) (T : Tal) (v1 v2 : Value) (A : Nat → Nat → Nat) (g c : Nat → Nat) : Prop where
  pt : PT wr p t bc bk K T
  m : wr.heap[bq]? = some (.cells #[v1, v2, .int .i64 (K.first : Int), .int .i64 (K.next : Int), .int .i64 (K.asked : Int)] 37 (0, 0))
  r : RefT [p, t, bc, bk, bq, sq] wr v1 v2 T
  s : wr.heap[sq]? = some (.cells #[.slice (some ⟨g 0, 0, none⟩) (n 0) (c 0), .slice (some ⟨g 1, 0, none⟩) (n 1) (c 1)] 42 (0, 0))
  sh : ShV wr (.slice (some ⟨g 0, 0, none⟩) (n 0) (c 0)) (.slice (some ⟨g 1, 0, none⟩) (n 1) (c 1)) A n g c
  nd : ∀ b, b ∈ [g 0, g 1] → b ∉ [p, t, bc, bk, bq, sq]
  lo : ShLo T n A
  f : K.first = 2
  tn : T.n = N
  chg : Chg [] w wr
  nb : bq ∉ [p, t, bc, bk] ∧ sq ∉ [p, t, bc, bk] ∧ sq ≠ bq
  nw : ∀ b, b ∈ [p, t, bc, bk, bq, sq] → w.heap.size ≤ b
theorem ShLo.same {T T' : Tal} {n : Nat → Nat} {a : Nat → Nat → Nat} (h : ShLo T n a) (e : T'.n = T.n) : ShLo T' n a := ⟨by rw [e]; exact h.n0, by rw [e]; exact h.n1, fun k i hk hi h0 => by rw [e]; exact h.has k i hk hi h0, h.apart⟩
/-- What leaves a state alone. -/
theorem Tl.chgd {w wr W : World} {p t bc bk bq sq N : Nat} {n : Nat → Nat} {K : Pk} {T : Tal} {v1 v2 : Value} {A : Nat → Nat → Nat} {g c : Nat → Nat} (H : Tl w wr p t bc bk bq sq N n K T v1 v2 A g c) (C : Chg [] wr W) : Tl w W p t bc bk bq sq N n K T v1 v2 A g c :=
  { H with pt := H.pt.chg C (by simp) (by simp) (by simp) (by simp), m := (C.block _ (heap_lt H.m) (by simp)).trans H.m, r := H.r.chg C (by simp), s := (C.block _ (heap_lt H.s) (by simp)).trans H.s, sh := H.sh.chg C (by simp) (by simp), chg := H.chg.trans C }
/-- Behind an operation. -/
theorem Tl.next {w wr W : World} {p t bc bk bq sq N : Nat} {n : Nat → Nat} {K K' : Pk} {T T' : Tal} {v1 v2 u1 u2 : Value} {A : Nat → Nat → Nat} {g c : Nat → Nat} (H : Tl w wr p t bc bk bq sq N n K T v1 v2 A g c) (hp : PT W p t bc bk K' T')
    (hm : W.heap[bq]? = some (.cells #[u1, u2, .int .i64 (K'.first : Int), .int .i64 (K'.next : Int), .int .i64 (K'.asked : Int)] 37 (0, 0))) (hr : RefT [p, t, bc, bk, bq, sq] W u1 u2 T') (C : Chg [p, t, bc, bk, bq] wr W) (hf : K'.first = K.first) (hn : T'.n = T.n) :
    Tl w W p t bc bk bq sq N n K' T' u1 u2 A g c := by
  have h0 := H.nd (g 0) (by simp)
  have h1 := H.nd (g 1) (by simp)
  have hb := H.nb
  simp only [List.mem_cons, List.not_mem_nil, or_false, not_or] at h0 h1 hb
  have e0 : sq ∉ [p, t, bc, bk, bq] := by
    simp only [List.mem_cons, List.not_mem_nil, or_false, not_or]
    exact ⟨hb.2.1.1, hb.2.1.2.1, hb.2.1.2.2.1, hb.2.1.2.2.2, hb.2.2⟩
  have e1 : g 0 ∉ [p, t, bc, bk, bq] := by
    simp only [List.mem_cons, List.not_mem_nil, or_false, not_or]
    exact ⟨h0.1, h0.2.1, h0.2.2.1, h0.2.2.2.1, h0.2.2.2.2.1⟩
  have e2 : g 1 ∉ [p, t, bc, bk, bq] := by
    simp only [List.mem_cons, List.not_mem_nil, or_false, not_or]
    exact ⟨h1.1, h1.2.1, h1.2.2.1, h1.2.2.2.1, h1.2.2.2.2.1⟩
  have hs := (C.block _ (heap_lt H.s) e0).trans H.s
  have hsh := H.sh.chg C e1 e2
  have hsub : ∀ i, i ∈ [p, t, bc, bk, bq] → i ∈ [p, t, bc, bk, bq, sq] := fun i hi => by
    simp only [List.mem_cons, List.not_mem_nil, or_false] at hi ⊢
    rcases hi with h | h | h | h | h <;> simp [h]
  have hc := H.chg.then C (fun i hi => .inr (H.nw i (hsub i hi)))
  exact ⟨hp, hm, hr, hs, hsh, H.nd, H.lo.same hn, hf.trans H.f, hn.trans H.tn, hc, H.nb, H.nw⟩
theorem sto5t {w : World} {b : Nat} {a0 a1 a2 a3 a4 : Value} (h : w.heap[b]? = some (.cells #[a0, a1, a2, a3, a4] 37 (0, 0))) (x0 x1 x2 x3 x4 : Value) :
    (((((w.setCell ⟨b, 0, none⟩ x0).setCell ⟨b, 1, none⟩ x1).setCell ⟨b, 2, none⟩ x2).setCell ⟨b, 3, none⟩ x3).setCell ⟨b, 4, none⟩ x4).heap[b]? = some (.cells #[x0, x1, x2, x3, x4] 37 (0, 0)) ∧
    Chg [b] w (((((w.setCell ⟨b, 0, none⟩ x0).setCell ⟨b, 1, none⟩ x1).setCell ⟨b, 2, none⟩ x2).setCell ⟨b, 3, none⟩ x3).setCell ⟨b, 4, none⟩ x4) := by
  refine ⟨?_, (((((Chg.refl _ _).setCell (.inl (by simp)) _).setCell (.inl (by simp)) _).setCell (.inl (by simp)) _).setCell (.inl (by simp)) _).setCell (.inl (by simp)) _⟩
  rw [setCell_block (setCell_block (setCell_block (setCell_block (setCell_block h 0 x0) 1 x1) 2 x2) 3 x3) 4 x4]
  rfl
theorem sto52t {w : World} {b : Nat} {a0 a1 a2 a3 a4 : Value} (h : w.heap[b]? = some (.cells #[a0, a1, a2, a3, a4] 37 (0, 0))) (x0 x1 : Value) :
    ((w.setCell ⟨b, 0, none⟩ x0).setCell ⟨b, 1, none⟩ x1).heap[b]? = some (.cells #[x0, x1, a2, a3, a4] 37 (0, 0)) ∧ Chg [b] w ((w.setCell ⟨b, 0, none⟩ x0).setCell ⟨b, 1, none⟩ x1) := by
  refine ⟨?_, ((Chg.refl _ _).setCell (.inl (by simp)) _).setCell (.inl (by simp)) _⟩
  rw [setCell_block (setCell_block h 0 x0) 1 x1]
  rfl
theorem sto2t {w : World} {b : Nat} {a0 a1 : Value} {T : TypeId} (h : w.heap[b]? = some (.cells #[a0, a1] T (0, 0))) (x0 x1 : Value) :
    ((w.setCell ⟨b, 0, none⟩ x0).setCell ⟨b, 1, none⟩ x1).heap[b]? = some (.cells #[x0, x1] T (0, 0)) ∧ Chg [b] w ((w.setCell ⟨b, 0, none⟩ x0).setCell ⟨b, 1, none⟩ x1) := by
  refine ⟨?_, ((Chg.refl _ _).setCell (.inl (by simp)) _).setCell (.inl (by simp)) _⟩
  rw [setCell_block (setCell_block h 0 x0) 1 x1]
  rfl

/-- Behind a Place: the sheet, the tally and the pick are what it left. -/
theorem Tl.placed {w wr W : World} {p t bc bk bq sq N : Nat} {n : Nat → Nat} {K K' : Pk} {T T' : Tal} {v1 v2 u1 u2 : Value} {A A' : Nat → Nat → Nat} {g c g' c' : Nat → Nat} (H : Tl w wr p t bc bk bq sq N n K T v1 v2 A g c) (hp : PT W p t bc bk K' T')
    (hm : W.heap[bq]? = some (.cells #[u1, u2, .int .i64 (K'.first : Int), .int .i64 (K'.next : Int), .int .i64 (K'.asked : Int)] 37 (0, 0))) (hr : RefT [p, t, bc, bk, bq, sq] W u1 u2 T')
    (hs : W.heap[sq]? = some (.cells #[.slice (some ⟨g' 0, 0, none⟩) (n 0) (c' 0), .slice (some ⟨g' 1, 0, none⟩) (n 1) (c' 1)] 42 (0, 0))) (hsh : ShV W (.slice (some ⟨g' 0, 0, none⟩) (n 0) (c' 0)) (.slice (some ⟨g' 1, 0, none⟩) (n 1) (c' 1)) A' n g' c') (hnd : ∀ b, b ∈ [g' 0, g' 1] → b ∉ [p, t, bc, bk, bq, sq])
    (hlo : ShLo T' n A') (C : Chg [p, t, bc, bk, bq, sq] wr W) (hf : K'.first = K.first) (hn : T'.n = T.n) :
    Tl w W p t bc bk bq sq N n K' T' u1 u2 A' g' c' :=
  { H with pt := hp, m := hm, r := hr, s := hs, sh := hsh, nd := hnd, lo := hlo, f := hf.trans H.f, tn := hn.trans H.tn, chg := H.chg.then C (fun i hi => .inr (H.nw i hi)) }

theorem Tl.lt {w wr : World} {p t bc bk bq sq N : Nat} {n : Nat → Nat} {K : Pk} {T : Tal} {v1 v2 : Value} {A : Nat → Nat → Nat} {g c : Nat → Nat} (H : Tl w wr p t bc bk bq sq N n K T v1 v2 A g c) : ∀ k, k ∈ [p, t, bc, bk, bq, sq] → k < wr.heap.size := by
  intro k hk
  simp only [List.mem_cons, List.not_mem_nil, or_false] at hk
  rcases hk with rfl | rfl | rfl | rfl | rfl | rfl
  · exact H.pt.hp.lt
  · exact H.pt.ht.lt0
  · exact H.pt.ht.lt1
  · exact H.pt.ht.lt2
  · exact heap_lt H.m
  · exact heap_lt H.s
theorem in4 {p t bc bk bq sq : Nat} : ∀ k, k ∈ [p, t, bc, bk] → k ∈ [p, t, bc, bk, bq, sq] := fun k hk => by
  simp only [List.mem_cons, List.not_mem_nil, or_false] at hk ⊢
  rcases hk with h | h | h | h <;> simp [h]
theorem in45 {p t bc bk bq : Nat} : ∀ k, k ∈ [p, t, bc, bk] → k ∈ [p, t, bc, bk, bq] := fun k hk => by
  simp only [List.mem_cons, List.not_mem_nil, or_false] at hk ⊢
  rcases hk with h | h | h | h <;> simp [h]
theorem bq_ne {p t bc bk bq : Nat} (h : bq ∉ [p, t, bc, bk]) : p ∉ [bq] ∧ t ∉ [bq] ∧ bc ∉ [bq] ∧ bk ∉ [bq] := by
  simp only [List.mem_cons, List.not_mem_nil, or_false, not_or] at h ⊢
  exact ⟨fun e => h.1 e.symm, fun e => h.2.1 e.symm, fun e => h.2.2.1 e.symm, fun e => h.2.2.2 e.symm⟩
/-- Behind an operation of both: the program's (wr to w3), the reference's (w3 to w4), the store (w4 to W). -/
theorem Tl.step {w wr w3 w4 W : World} {p t bc bk bq sq N : Nat} {n : Nat → Nat} {K K' : Pk} {T T' : Tal} {v1 v2 u1 u2 : Value} {A : Nat → Nat → Nat} {g c : Nat → Nat} (H : Tl w wr p t bc bk bq sq N n K T v1 v2 A g c) (hp : PT w3 p t bc bk K' T') (C3 : Chg [p, t, bc, bk] wr w3) (C4 : Chg [] w3 w4)
    (hm : W.heap[bq]? = some (.cells #[u1, u2, .int .i64 (K'.first : Int), .int .i64 (K'.next : Int), .int .i64 (K'.asked : Int)] 37 (0, 0))) (hr : RefT [p, t, bc, bk, bq, sq] w4 u1 u2 T') (CW : Chg [bq] w4 W) (hf : K'.first = K.first) (hn : T'.n = T.n) :
    Tl w W p t bc bk bq sq N n K' T' u1 u2 A g c := by
  have hb := bq_ne H.nb.1
  refine H.next ((hp.chg C4 (by simp) (by simp) (by simp) (by simp)).chg CW hb.1 hb.2.1 hb.2.2.1 hb.2.2.2) hm (hr.chg CW (fun k hk => .inl (by simp at hk; simp [hk]))) ?_ hf hn
  exact ((C3.mono in45).trans (C4.mono (by simp))).trans (CW.mono (by simp))
theorem sb_ne {p t bc bk bq sq : Nat} (h : bq ∉ [p, t, bc, bk] ∧ sq ∉ [p, t, bc, bk] ∧ sq ≠ bq) : p ∉ [sq, bq] ∧ t ∉ [sq, bq] ∧ bc ∉ [sq, bq] ∧ bk ∉ [sq, bq] := by
  obtain ⟨h1, h2, _⟩ := h
  simp only [List.mem_cons, List.not_mem_nil, or_false, not_or] at h1 h2 ⊢
  exact ⟨⟨fun e => h2.1 e.symm, fun e => h1.1 e.symm⟩, ⟨fun e => h2.2.1 e.symm, fun e => h1.2.1 e.symm⟩, ⟨fun e => h2.2.2.1 e.symm, fun e => h1.2.2.1 e.symm⟩, ⟨fun e => h2.2.2.2 e.symm, fun e => h1.2.2.2 e.symm⟩⟩
theorem sb_in {p t bc bk bq sq k : Nat} (h : k ∉ [p, t, bc, bk, bq, sq]) : k ∉ [sq, bq] := by
  simp only [List.mem_cons, List.not_mem_nil, or_false, not_or] at h ⊢
  exact ⟨h.2.2.2.2.2, h.2.2.2.2.1⟩
theorem sb_sub {p t bc bk bq sq : Nat} : ∀ k, k ∈ [sq, bq] → k ∈ [p, t, bc, bk, bq, sq] := fun k hk => by
  simp only [List.mem_cons, List.not_mem_nil, or_false] at hk ⊢
  rcases hk with h | h <;> simp [h]
theorem RefS.sl {A : List Nat} {w : World} {v1 v2 : Value} {g c h : Nat → Nat} {S : PS} (H : RefS A w v1 v2 g c h S) {k : Nat} (hk : k < 2) : SlI w (.slice (some ⟨g k, 0, none⟩) (S.n k) (c k)) (atL S.a S.n k) := by
  obtain ⟨cur, h1, h2, h3, h4, h5⟩ := H.ats k hk
  refine .inr ⟨g k, c k, by rw [atL_len], by rw [atL_len]; exact h3, h4, heap_lt h1, fun i hi => ?_⟩
  rw [atL_len] at hi
  rw [cell_of_block h1, h5 i hi, atL_get _ _ hi]

end Go.Proofs.Ytnhabpbdpjgiiaa
