/- Package base: a base's blocks are apart; a base is made anew out of its parts; SetRoot, SetMark. -/
import Derived.Test.YtkhcaclndepgbaaGreatZd29
set_option linter.unusedVariables false
set_option linter.unusedSimpArgs false
set_option maxRecDepth 100000
set_option maxHeartbeats 20000000
namespace Go.Proofs.YtkhcaclndepgbaaGreat
open Go.RowKit
theorem map_ne_cells {w : World} {a b : Nat} {es : Array MapEntry} {c : Nat} {cs : Array Value} {T : TypeId} {z : Nat × Nat} (ha : w.heap[a]? = some (.map es c)) (hb : w.heap[b]? = some (.cells cs T z)) : a ≠ b := by
 rintro rfl
 rw [ha] at hb
 cases hb
section
variable {w w' : World} {M : Bm} {R R' : Br} {B B' : Bs}
theorem BaseIn.nodup (h : BaseIn w M R B) : M.L.Nodup := by
 obtain ⟨es, c, hm⟩ := h.c.fm.obj
 obtain ⟨es', c', hk⟩ := h.c.pt.ht.map.obj
 have hb := h.c.top
 have hd := h.d.top
 have hbb := h.d.blk
 have hp := h.c.pt.hp.top
 have ht := h.c.pt.ht.top
 have hbc := h.c.pt.ht.cs
 simp only [Bm.L, List.nodup_cons, List.mem_cons, List.not_mem_nil, or_false, not_or, List.nodup_nil, and_true]
 refine ⟨⟨cells_ne hb hd (by decide), cells_ne hb hbb (by decide), cells_ne hb hp (by decide), cells_ne hb ht (by decide), cells_ne hb hbc (by decide), fun e => map_ne_cells hk hb e.symm, fun e => map_ne_cells hm hb e.symm⟩,
  ⟨cells_ne hd hbb (by decide), cells_ne hd hp (by decide), cells_ne hd ht (by decide), cells_ne hd hbc (by decide), fun e => map_ne_cells hk hd e.symm, fun e => map_ne_cells hm hd e.symm⟩,
  ⟨cells_ne hbb hp (by decide), cells_ne hbb ht (by decide), cells_ne hbb hbc (by decide), fun e => map_ne_cells hk hbb e.symm, fun e => map_ne_cells hm hbb e.symm⟩,
  ⟨cells_ne hp ht (by decide), cells_ne hp hbc (by decide), fun e => map_ne_cells hk hp e.symm, fun e => map_ne_cells hm hp e.symm⟩,
  ⟨cells_ne ht hbc (by decide), fun e => map_ne_cells hk ht e.symm, fun e => map_ne_cells hm ht e.symm⟩,
  ⟨fun e => map_ne_cells hk hbc e.symm, fun e => map_ne_cells hm hbc e.symm⟩, fun e => h.c.ne e.symm, fun e => e⟩
theorem nOf_pos {n k : Nat} (hn : 16 ≤ n) : 0 < nOf n k := by
 unfold nOf pg
 split <;> omega
theorem BaseIn.gL (h : BaseIn w M R B) {k : Nat} (hk : k < 2) : R.g k ∉ M.L := by
 have hn := nOf_pos (k := k) h.c.ok.n.1
 have hc : w.cell? ⟨R.g k, 0, none⟩ = some (.int .i64 (B.a k 0 : Int)) := by
  rcases h.c.sh.l k hk with ⟨e, _⟩ | ⟨g, c, e, h1, h2, h3, h4⟩
  ·cases e
  ·injection e with e _ _
   injection e with e
   injection e with e
   have := h4 0 (by rw [atL_len]; exact hn)
   rw [atL_get _ _ hn] at this
   rw [e]; exact this
 have no : ∀ {x : Nat} {v : Value}, w.cell? ⟨x, 0, none⟩ = some v → v ≠ .int .i64 (B.a k 0 : Int) → R.g k ≠ x := fun {x v} hx hv e => by
  rw [← e, hc] at hx
  injection hx with hx
  exact hv hx.symm
 have nm : ∀ {x : Nat} {es : Array MapEntry} {c : Nat}, w.heap[x]? = some (.map es c) → R.g k ≠ x := fun {x es c} hx e => by
  rw [← e] at hx
  simp [World.cell?, hx] at hc
 obtain ⟨es, c, hm⟩ := h.c.fm.obj
 obtain ⟨es', c', hk'⟩ := h.c.pt.ht.map.obj
 have n0 := h.c.pt.ht.n1
 simp only [Bm.L, List.mem_cons, List.not_mem_nil, or_false, not_or]
 refine ⟨no h.c.c0 (by simp), no (cell_of_block h.d.top 0) (by simp), ?_, no (cell_of_block h.c.pt.hp.top 0) (by simp), no (cell_of_block h.c.pt.ht.top 0) (by simp), no (h.c.pt.ht.cc (i := 0) (by omega)) (by simp), nm hk', nm hm⟩
 have hbb := (cell_of_block h.d.blk 0).trans (u8s_get (n := B.T.n * 128) (by omega))
 exact no hbb (by simp)
theorem BaseIn.fL (h : BaseIn w M R B) {k : Nat} {f : Nat → Nat} (hk : k < B.T.n) (hf : B.fr k = some f) : R.fg k ∉ M.L := by
 obtain ⟨_, _, _, cur, z, hx⟩ := h.c.fd k f hk hf
 obtain ⟨es, c, hm⟩ := h.c.fm.obj
 obtain ⟨es', c', hk'⟩ := h.c.pt.ht.map.obj
 simp only [Bm.L, List.mem_cons, List.not_mem_nil, or_false, not_or]
 exact ⟨cells_ne hx h.c.top (by decide), cells_ne hx h.d.top (by decide), cells_ne hx h.d.blk (by decide), cells_ne hx h.c.pt.hp.top (by decide), cells_ne hx h.c.pt.ht.top (by decide), cells_ne hx h.c.pt.ht.cs (by decide), fun e => map_ne_cells hk' hx e.symm, fun e => map_ne_cells hm hx e.symm⟩
theorem BaseIn.fd_keep (h : BaseIn w M R B) (c : Chg M.L w w') {k : Nat} {f : Nat → Nat} (hk : k < B.T.n) (hf : B.fr k = some f) : 128 ≤ R.fc k ∧ R.fc k ≤ maxLen ∧ BytesAt w' (R.fg k) 0 128 f ∧ ∃ cur z, w'.heap[R.fg k]? = some (.cells cur 5 z) := by
 obtain ⟨h1, h2, h3, cur, z, h4⟩ := h.c.fd k f hk hf
 have hn := h.fL hk hf
 exact ⟨h1, h2, h3.chg c hn, cur, z, (c.block _ (heap_lt h4) hn).trans h4⟩
theorem BaseIn.remake (h : BaseIn w M R B) (c : Chg M.L w w') (hn : B'.T.n = B.T.n) (ha : B'.a = B.a) (hg : R'.g = R.g) (hc : R'.c = R.c) (top : w'.heap[M.b]? = some (.cells (fnRow 44 (baseV M R' B')) 51 (0, 0))) (pt : PT w' M.p M.t M.bc M.bk B'.K B'.T)
  (fm : KMapV Tryz.prog 3 goodF w' M.mf B'.T.n (frV R' B')) (fd : ∀ k f, k < B'.T.n → B'.fr k = some f → 128 ≤ R'.fc k ∧ R'.fc k ≤ maxLen ∧ BytesAt w' (R'.fg k) 0 128 f ∧ ∃ cur z, w'.heap[R'.fg k]? = some (.cells cur 5 z))
  (d : DiskAt w' M.d M.bb (.slice none 0 0) ⟨B'.T.n, B'.D, []⟩) (ok : B'.Ok) : BaseIn w' M R' B' := by
 refine ⟨{ top := top, pt := pt, sh := ?_, fm := fm, fd := fd, ok := ok, ne := h.c.ne, glt := fun k hk => by rw [hg]; exact Nat.lt_of_lt_of_le (h.c.glt k hk) c.size }, d⟩
 rw [hn, ha, hg, hc]
 exact h.c.sh.chg c (h.gL (by omega)) (h.gL (by omega))
theorem baseV_same (hn : B'.T.n = B.T.n) (hS : B'.S = B.S) (hK : B'.Kp = B.Kp) (hg : R'.g = R.g) (hc : R'.c = R.c) : baseV M R' B' = baseV M R B := by
 funext i
 unfold baseV
 rw [hn, hS, hK, hg, hc]
theorem base_set {V V' : Nat → Value} {k : Nat} {v : Value} (hk : k < 44) (h1 : V' k = v) (h2 : ∀ j, j < 44 → j ≠ k → V' j = V j) : (fnRow 44 V).setIfInBounds k v = fnRow 44 V' := by
 apply Array.ext_getElem?
 intro j
 rw [Array.getElem?_setIfInBounds]
 by_cases hj : j < 44
 ·rw [fnRow_get hj, fnRow_get hj]
  by_cases e : k = j
  ·subst e; rw [if_pos rfl, if_pos (by rw [fnRow_size]; exact hk), h1]
  ·rw [if_neg e, h2 j hj (fun q => e q.symm)]
 ·rw [Array.getElem?_eq_none (by rw [fnRow_size]; omega), Array.getElem?_eq_none (by rw [fnRow_size]; omega)]
  by_cases e : k = j
  ·omega
  ·rw [if_neg e]
theorem BaseAt.of {F : List Nat} (h : BaseIn w M R B) (hF : ∀ x, Bown M R B x → x ∉ F) (h' : BaseIn w' M R' B') (hn : B'.T.n = B.T.n) (hg : R'.g = R.g) (hq : ∀ q, q ∈ F → q < w.heap.size)
  (hf : ∀ k, k < B.T.n → (B'.fr k).isSome = true → ((B.fr k).isSome = true ∧ R'.fg k = R.fg k) ∨ w.heap.size ≤ R'.fg k) : BaseAt w' M F B' := by
 refine ⟨R', h', fun x hx => ?_⟩
 rcases hx with hx | ⟨k, hk, rfl⟩ | ⟨k, hk, hs, rfl⟩
 ·exact hF x (.inl hx)
 ·rw [hg]; exact hF _ (.inr (.inl ⟨k, hk, rfl⟩))
 ·rcases hf k (by rw [← hn]; exact hk) hs with ⟨h1, h2⟩ | h1
  ·rw [h2]; exact hF _ (.inr (.inr ⟨k, by rw [← hn]; exact hk, h1, rfl⟩))
  ·intro hm; have := hq _ hm; omega
end
def Sup.setRoot (S : Sup) (i b : Nat) : Sup := { S with roots := fun j => if j = i then b else S.roots j }
def Sup.setMark (S : Sup) (i n : Nat) : Sup := { S with marks := fun j => if j = i then n else S.marks j }
def Bs.setRoot (B : Bs) (i b : Nat) : Bs := { B with S := B.S.setRoot i b }
def Bs.setMark (B : Bs) (i n : Nat) : Bs := { B with S := B.S.setMark i n }
theorem Bs.Ok.setRoot_ok {B : Bs} (h : B.Ok) {i b : Nat} (hi : 2 ≤ i) (hb : b < B.T.n) : (B.setRoot i b).Ok := by
 have hs : SupOf (B.S.setRoot i b) B.T.n B.a := ⟨⟨h.s.ok.gen, h.s.ok.blocks, fun j hj => by
   show (if j = i then b else B.S.roots j) < B.S.blocks
   split
   ·rw [h.s.b]; exact hb
   ·exact h.s.ok.roots j hj, h.s.ok.marks⟩, h.s.b, fun j hj => by
   show (if j = i then b else B.S.roots j) = _
   rw [if_neg (by omega)]; exact h.s.r j hj⟩
 exact { h with s := hs }
theorem Bs.Ok.setMark_ok {B : Bs} (h : B.Ok) {i n : Nat} (hn : n < 18446744073709551616) : (B.setMark i n).Ok := by
 have hs : SupOf (B.S.setMark i n) B.T.n B.a := ⟨⟨h.s.ok.gen, h.s.ok.blocks, h.s.ok.roots, fun j hj => by
   show (if j = i then n else B.S.marks j) < _
   split
   ·exact hn
   ·exact h.s.ok.marks j hj⟩, h.s.b, h.s.r⟩
 exact { h with s := hs }
theorem baseV_upS {M : Bm} {R : Br} {B : Bs} {S' : Sup} {k : Nat} (hk : k < 18) (hv : ∀ i, i < 18 → i ≠ k → S'.valS i = B.S.valS i) : (fnRow 44 (baseV M R B)).setIfInBounds (6 + k) (mkV k (S'.valS k)) = fnRow 44 (baseV M R { B with S := S' }) := by
 refine base_set (by omega) ?_ ?_
 ·rw [baseV_S _ _ _ hk]; exact cellV_mk _ hk
 ·intro j hj hne
  by_cases h6 : 6 ≤ j ∧ j < 24
  ·have e : j = 6 + (j - 6) := by omega
   rw [e, baseV_S _ _ _ (by omega), baseV_S _ _ _ (by omega), cellV_mk _ (by omega), cellV_mk _ (by omega)]
   show mkV _ (S'.valS (j - 6)) = _
   rw [hv (j - 6) (by omega) (by omega)]
  ·unfold baseV
   repeat' split
   all_goals first | rfl | omega
theorem bSetRoot_at {w : World} {M : Bm} {F : List Nat} {B : Bs} (h : BaseAt w M F B) (hF : ∀ q, q ∈ F → q < w.heap.size) {i b : Nat} (hi : 2 ≤ i ∧ i < 8) (hb : b = 0 ∨ 2 ≤ b ∧ b < B.T.n) :
  Calls Tryz.prog 29 #[.pointer (some ⟨M.b, 0, none⟩), .int .i64 (i : Int), .int .i64 (b : Int)] w fun e w' => e = .returned (.int .i64 0) ∧ BaseAt w' M F (B.setRoot i b) ∧ Chg M.L w w' := by
 obtain ⟨R, hB, hFF⟩ := h
 have n1 := hB.c.ok.n
 have cm := bMay_at hB.c
 have cb := bBlocks_at hB.c
 have hbn : b < B.T.n := by omega
 have c0 : w.cell? ⟨M.b, 8 + i, none⟩ = some (baseV M R B (8 + i)) := hB.c.cell (by omega)
 have f0 := frozen_of_block hB.c.top (8 + i)
 have l0 := heap_lt hB.c.top
 have E1 : IntKind.u32.wrap (b : Int) = (b : Int) := by rw [IntKind.wrap_u32]; omega
 have i1 : ¬ (i : Int) < 2 := by omega
 have i2 : ¬ (8 : Int) ≤ (i : Int) := by omega
 have i3 : (i : Int) < 8 := by omega
 have hc : Chg [M.b] w (w.setCell ⟨M.b, 8 + i, none⟩ (.int .u32 (b : Int))) := (Chg.refl _ _).setCell (.inl (by simp)) _
 have hcL := hc.mono (L' := M.L) (by simp [Bm.L])
 have htop := setCell_block hB.c.top (8 + i) (.int .u32 (b : Int))
 have hrow := baseV_upS (M := M) (R := R) (B := B) (S' := B.S.setRoot i b) (k := 2 + i) (by omega) (fun j hj hne => root_val (r := fun j => if j = i then b else B.S.roots j) (r' := B.S.roots) (fun h2 h10 => if_neg (by omega)))
 rw [show (B.S.setRoot i b).valS (2 + i) = b from (root_at _ _ _ _ (by omega)).trans (if_pos rfl), mkV_root (by omega), show 6 + (2 + i) = 8 + i by omega] at hrow
 rw [hrow] at htop
 have nd := hB.nodup
 simp only [Bm.L, List.nodup_cons, List.mem_cons, List.not_mem_nil, or_false, not_or, List.nodup_nil, and_true] at nd
 have hnb : ∀ x, x ≠ M.b → x ∉ [M.b] := fun x hx => by simpa using hx
 have hB' : BaseIn (w.setCell ⟨M.b, 8 + i, none⟩ (.int .u32 (b : Int))) M R (B.setRoot i b) := hB.remake hcL rfl rfl rfl rfl htop
  (hB.c.pt.chg hc (hnb _ (fun e => nd.1.2.2.1 e.symm)) (hnb _ (fun e => nd.1.2.2.2.1 e.symm)) (hnb _ (fun e => nd.1.2.2.2.2.1 e.symm)) (hnb _ (fun e => nd.1.2.2.2.2.2.1 e.symm)))
  (hB.c.fm.chg hc (hnb _ (fun e => nd.1.2.2.2.2.2.2 e.symm))) (fun k f hk hf => hB.fd_keep hcL hk hf)
  (hB.d.chg hc (hnb _ (fun e => nd.1.1 e.symm)) (hnb _ (fun e => nd.1.2.1 e.symm)) (fun k hk => by cases hk)) (hB.c.ok.setRoot_ok hi.1 hbn)
 have hA := BaseAt.of hB hFF hB' rfl rfl hF (fun k hk hs => .inl ⟨hs, rfl⟩)
 have HA := Lib.hid (And.intro hA hcL)
 have c0' : ∃ v, w.cell? ⟨M.b, 8 + i, none⟩ = some v := ⟨_, c0⟩
 obtain ⟨v0, c0'⟩ := c0'
 clear hA hB' hB hFF hc hcL htop hrow c0 nd hnb
 rcases hb with rfl | hb
 ·go_enter Tryz.func29, Tryz.ntmps29
  go_wp2_with fail
  refine (cm).mono ?_
  rintro e w' ⟨rfl, rfl⟩
  go_wp2_with fail
  go_ret
  exact ⟨rfl, HA.out.1, HA.out.2⟩
 ·have j0 : ¬ (b : Int) = 0 := by omega
  have j1 : ¬ (b : Int) < 2 := by omega
  have j2 : ¬ (B.T.n : Int) ≤ (b : Int) := by omega
  go_enter Tryz.func29, Tryz.ntmps29
  go_wp2_with fail
  refine (cm).mono ?_
  rintro e w' ⟨rfl, rfl⟩
  go_wp2_with fail
  refine (cb).mono ?_
  rintro e w' ⟨rfl, rfl⟩
  go_wp2_with fail
  go_ret
  exact ⟨rfl, HA.out.1, HA.out.2⟩
theorem mark_other {S : Sup} {i n j : Nat} (h : j ≠ 10 + i) : (S.setMark i n).valS j = S.valS j := by
 unfold Sup.valS
 by_cases c : j < 10
 ·repeat' split
  all_goals first | rfl | omega
 ·rw [if_neg (by omega), if_neg (by omega), if_neg (by omega), if_neg (by omega), if_neg (by omega), if_neg (by omega)]
  show (if j - 10 = i then n else S.marks (j - 10)) = S.marks (j - 10)
  rw [if_neg (by omega)]
theorem mark_at {S : Sup} {i n : Nat} : (S.setMark i n).valS (10 + i) = n := by
 unfold Sup.valS Sup.setMark
 rw [if_neg (by omega), if_neg (by omega), if_neg (by omega), Nat.add_sub_cancel_left]
 exact if_pos rfl
theorem mkV_mark {i x : Nat} : mkV (10 + i) x = .int .u64 (x : Int) := by unfold mkV; rw [if_neg (by omega), if_neg (by omega)]
theorem bSetMark_at {w : World} {M : Bm} {F : List Nat} {B : Bs} (h : BaseAt w M F B) (hF : ∀ q, q ∈ F → q < w.heap.size) {i b : Nat} (hi : i < 8) (hb : b < 18446744073709551616) :
  Calls Tryz.prog 30 #[.pointer (some ⟨M.b, 0, none⟩), .int .i64 (i : Int), .int .u64 (b : Int)] w fun e w' => e = .returned (.int .i64 0) ∧ BaseAt w' M F (B.setMark i b) ∧ Chg M.L w w' := by
 obtain ⟨R, hB, hFF⟩ := h
 have n1 := hB.c.ok.n
 have cm := bMay_at hB.c
 have c0 : w.cell? ⟨M.b, 16 + i, none⟩ = some (baseV M R B (16 + i)) := hB.c.cell (by omega)
 have f0 := frozen_of_block hB.c.top (16 + i)
 have l0 := heap_lt hB.c.top
 have i1 : ¬ (i : Int) < 0 := by omega
 have i2 : ¬ (8 : Int) ≤ (i : Int) := by omega
 have i3 : (i : Int) < 8 := by omega
 have hc : Chg [M.b] w (w.setCell ⟨M.b, 16 + i, none⟩ (.int .u64 (b : Int))) := (Chg.refl _ _).setCell (.inl (by simp)) _
 have hcL := hc.mono (L' := M.L) (by simp [Bm.L])
 have htop := setCell_block hB.c.top (16 + i) (.int .u64 (b : Int))
 have hrow := baseV_upS (M := M) (R := R) (B := B) (S' := B.S.setMark i b) (k := 10 + i) (by omega) (fun j hj hne => mark_other hne)
 rw [mark_at, mkV_mark, show 6 + (10 + i) = 16 + i by omega] at hrow
 rw [hrow] at htop
 have nd := hB.nodup
 simp only [Bm.L, List.nodup_cons, List.mem_cons, List.not_mem_nil, or_false, not_or, List.nodup_nil, and_true] at nd
 have hnb : ∀ x, x ≠ M.b → x ∉ [M.b] := fun x hx => by simpa using hx
 have hB' : BaseIn (w.setCell ⟨M.b, 16 + i, none⟩ (.int .u64 (b : Int))) M R (B.setMark i b) := hB.remake hcL rfl rfl rfl rfl htop
  (hB.c.pt.chg hc (hnb _ (fun e => nd.1.2.2.1 e.symm)) (hnb _ (fun e => nd.1.2.2.2.1 e.symm)) (hnb _ (fun e => nd.1.2.2.2.2.1 e.symm)) (hnb _ (fun e => nd.1.2.2.2.2.2.1 e.symm)))
  (hB.c.fm.chg hc (hnb _ (fun e => nd.1.2.2.2.2.2.2 e.symm))) (fun k f hk hf => hB.fd_keep hcL hk hf)
  (hB.d.chg hc (hnb _ (fun e => nd.1.1 e.symm)) (hnb _ (fun e => nd.1.2.1 e.symm)) (fun k hk => by cases hk)) (hB.c.ok.setMark_ok hb)
 have hA := BaseAt.of hB hFF hB' rfl rfl hF (fun k hk hs => .inl ⟨hs, rfl⟩)
 have HA := Lib.hid (And.intro hA hcL)
 have c0' : ∃ v, w.cell? ⟨M.b, 16 + i, none⟩ = some v := ⟨_, c0⟩
 obtain ⟨v0, c0'⟩ := c0'
 clear hA hB' hB hFF hc hcL htop hrow c0 nd hnb
 go_enter Tryz.func30, Tryz.ntmps30
 go_wp2_with fail
 refine (cm).mono ?_
 rintro e w' ⟨rfl, rfl⟩
 go_wp2_with fail
 go_ret
 exact ⟨rfl, HA.out.1, HA.out.2⟩
end Go.Proofs.YtkhcaclndepgbaaGreat
