/- catchmentlaw08.same: two lists of numbers. · Layer 10: the counts of a page; a sheet of pages that stand nowhere. · Layer 10: a sheet of pages that stand nowhere. (Printed by mkple.py.) · Layer 10: the stage of a statement: begun; what is left of room. -/
import Derived.Test.YtkhcaclndepgbaaGreatZd17
import Derived.Test.YtkhcaclndepgbaaGreatZd15
import Derived.Test.YtkhcaclndepgbaaGreatZd22
set_option linter.unusedVariables false
set_option linter.unusedSimpArgs false
set_option maxRecDepth 100000
set_option maxHeartbeats 20000000
namespace Go.Proofs.YtkhcaclndepgbaaGreat
open Go.RowKit
theorem changed_sl {w : World} {t bc bk : Nat} {T : Tal} (h : TallyAt w t bc bk T) :
  Calls Tryz.prog 79 #[.pointer (some ⟨t, 0, none⟩)] w fun e w' => ∃ v, e = .returned v ∧
   SlI w' v (chgs T) ∧ (∀ g, v.ownBlock = some g → w.heap.size ≤ g) ∧ Chg [] w w' :=
 (changed_at h).mono fun _ _ ⟨v, he, ho, hb⟩ => ⟨v, he, SlI.of_own ho, fun g hg => (ownBlock_new ho g hg).1, Chg.of_below hb⟩
theorem SlI.get {w : World} {a : Option Addr} {n cap : Nat} {l : List Nat} (h : SlI w (.slice a n cap) l) : n = l.length ∧ ∀ i, i < n → ∃ g, a = some ⟨g, 0, none⟩ ∧ w.cell? ⟨g, i, none⟩ = some (.int .i64 ((l.getD i 0 : Nat) : Int)) := by
 rcases h with ⟨hv, rfl⟩ | ⟨g, cap', hv, _, _, _, hc⟩
 ·cases hv; exact ⟨rfl, fun i hi => by omega⟩
 ·injection hv with h1 h2 h3
  subst h1 h2
  exact ⟨rfl, fun i hi => ⟨g, rfl, hc i hi⟩⟩
theorem list_ext_getD {l m : List Nat} (hl : l.length = m.length) (h : ∀ i, i < l.length → l.getD i 0 = m.getD i 0) : l = m := by
 apply List.ext_getElem hl
 intro i h1 h2
 have := h i h1
 simpa [List.getD_eq_getElem?_getD, List.getElem?_eq_getElem h1, List.getElem?_eq_getElem h2] using this
end Go.Proofs.YtkhcaclndepgbaaGreat
namespace Go.Proofs.YtkhcaclndepgbaaGreat
open Go.RowKit
theorem infoU16 : (Tryz.prog.info? 33).map (fun i => (i.zero, i.size, i.bytes)) = some (some (.int .u16 0), 1, 2) := by kernel_rfl
def cntVs (T : Tal) (lo m : Nat) : List Value := (List.range m).map fun j => .int .u16 (T.now (lo + j) : Int)
theorem cntVs_len (T : Tal) (lo m : Nat) : (cntVs T lo m).length = m := by simp [cntVs]
theorem cntVs_succ (T : Tal) (lo m : Nat) : cntVs T lo (m + 1) = cntVs T lo m ++ [.int .u16 (T.now (lo + m) : Int)] := by simp [cntVs, List.range_succ]
theorem own_chgT {w w' : World} {base n e : Nat} {v : Value} {xs : List Value} {L : List Nat} (h : w.ownsRow base e 1 v n xs) (c : Chg L w w') (hL : ∀ k, v.ownBlock = some k → k ∉ L) : w'.ownsRow base e 1 v n xs := by
 refine ⟨h.1, ?_⟩
 rcases h.2 with h | ⟨g, cap, cur, h1, h2, h3, h4⟩
 ·exact .inl h
 ·exact .inr ⟨g, cap, cur, h1, h2, (c.block g (heap_lt h3) (hL g (by rw [h1]; rfl))).trans h3, h4⟩
theorem counts_at {w : World} {t bc bk : Nat} {T : Tal} (H : TallyAt w t bc bk T) (p : Nat) (hp : 61 * p < T.n) :
  Calls Tryz.prog 144 #[.pointer (some ⟨t, 0, none⟩), .int .i64 (p : Int)] w fun e w' => ∃ v, e = .returned v ∧
   w'.ownsRow w.heap.size 33 1 v (min (61 * p + 61) T.n - 61 * p) (cntVs T (61 * p) (min (61 * p + 61) T.n - 61 * p)) ∧ Chg [] w w' := by
 have n2 := H.n2
 have HH := Lib.hid H
 have p0 : ¬ (p : Int) < 0 := by omega
 have e1 : (p : Int) * 61 = ((61 * p : Nat) : Int) := by omega
 have hmi : min (((p : Int) + 1) * 61) (T.n : Int) = ((min (61 * p + 61) T.n : Nat) : Int) := by omega
 clear H
 go_enter Tryz.func144, Tryz.ntmps144
 go_wp2_with fail
 go_loopw [5, 6] (fun v s wr => ∃ m : Nat, m ≤ min (61 * p + 61) T.n - 61 * p ∧ s = .int .i64 ((61 * p + m : Nat) : Int) ∧ Hid (wr.ownsRow w.heap.size 33 1 v m (cntVs T (61 * p) m) ∧ Chg [] w wr)) (fun _ s _ => T.n - (intOf s).toNat)
 case atStart => exact ⟨0, Nat.zero_le _, by simp, ⟨World.ownsRow_nil _ _ _ _, Chg.refl _ _⟩⟩
 case round =>
  obtain ⟨m, hm, rfl, hH⟩ := hrel
  have HT := Lib.hid (HH.out.chg hH.out.2 (by simp) (by simp) (by simp))
  have HOW := Lib.hid hH.out.1
  have HCW := Lib.hid hH.out.2
  have hsz := hH.out.2.size
  have HBK := Lib.hid (fun k hk => (hH.out.1.lt k hk).1 : ∀ k, (Value.ownBlock _ = some k) → w.heap.size ≤ k)
  clear hH
  by_cases hlt : m < min (61 * p + 61) T.n - 61 * p
  ·have hbn : 61 * p + m < T.n := by omega
   have i1 : ((61 * p + m : Nat) : Int) < ((min (61 * p + 61) T.n : Nat) : Int) := by omega
   have hgv := get_at HT.out ((61 * p + m : Nat) : Int)
   rw [getV_nat hbn] at hgv
   have hb := HT.out.now _ hbn
   have hw16 : IntKind.u16.wrap (T.now (61 * p + m) : Int) = (T.now (61 * p + m) : Int) := by rw [IntKind.wrap_u16]; omega
   go_wp2_with fail
   refine (blocks_at HT.out).mono ?_
   rintro e w' ⟨rfl, rfl⟩
   go_wp2_with fail
   refine hgv.mono ?_
   rintro e w' ⟨rfl, rfl⟩
   have HN := Lib.hid (new_block wr (.cells #[.int .u16 (T.now (61 * p + m) : Int)] 33))
   go_wp2_with (at_builtin; refine wpList_app1 _ rfl _ _ 163 rfl w.heap.size 33 (.int .u16 0) 2 Tryz.underlying163 infoU16 rfl _ _ _ rfl (own_chgT HOW.out ((Chg.refl [] wr).alloc _) (by simp)) wr.heap.size 1 (.int .u16 (T.now (61 * p + m) : Int)) rfl (cell_of_block HN.out 0) rfl (by omega) (by omega) (by simp; omega) ?_; intro v' w2 hown2 hg2; have HOWN2 := Lib.hid hown2; have HC2 := Lib.hid ((HCW.out.alloc _).grown hg2 (fun k hk => .inr (HBK.out k hk))); clear hown2 hg2)
   go_roundw
   case rel => exact ⟨m + 1, by omega, by go_num, ⟨by rw [cntVs_succ]; exact HOWN2.out, HC2.out⟩⟩
   case measure => simp [intOf]; omega
  ·obtain rfl : m = min (61 * p + 61) T.n - 61 * p := by omega
   have i1 : ¬ ((61 * p + (min (61 * p + 61) T.n - 61 * p) : Nat) : Int) < ((min (61 * p + 61) T.n : Nat) : Int) := by omega
   go_wp2_with fail
   refine (blocks_at HT.out).mono ?_
   rintro e w' ⟨rfl, rfl⟩
   go_wp2_with fail
   go_ret
   exact ⟨_, rfl, HOW.out, HCW.out⟩
end Go.Proofs.YtkhcaclndepgbaaGreat
namespace Go.Proofs.YtkhcaclndepgbaaGreat
open Go.RowKit
def nOf (n : Nat) (k : Nat) : Nat := if k = 0 then pg n else pg (pg n)
theorem empty_ok (T : Tal) : ShOk T (nOf T.n) (fun _ _ => 0) := ⟨rfl, rfl, fun k i _ _ h => absurd rfl h, fun k i k' i' _ _ _ _ h => absurd rfl h⟩
theorem zrow_sl {w : World} {b n : Nat} (h : w.heap[b]? = some (.cells (zrow n (.int .i64 0)) 3 (0, 0))) (hn : n ≤ 4096) {A : Nat → Nat → Nat} {nn : Nat → Nat} {k : Nat} (hA : ∀ i, A k i = 0) (hk : nn k = n) : SlI w (.slice (some ⟨b, 0, none⟩) n n) (atL A nn k) := by
 refine .inr ⟨b, n, by rw [atL_len, hk], by rw [atL_len, hk]; exact Nat.le_refl _, by unfold maxLen; omega, heap_lt h, fun i hi => ?_⟩
 rw [atL_len] at hi
 rw [atL_get _ _ hi, hA, cell_of_block h]
 rw [hk] at hi
 simp [zrow, hi]
def EmptyR (n : Nat) (w : World) (e : Ending) (w' : World) : Prop :=
 ∃ v0 v1 g c, e = .returned (.agg #[v0, v1]) ∧ ShV w' v0 v1 (fun _ _ => 0) (nOf n) g c ∧ (∀ k, k < 2 → w.heap.size ≤ g k) ∧ Chg [] w w'
theorem empty_end {w W : World} {n r h0 h1 : Nat} (hn : n ≤ 4096) (hC : Chg [] w W) (hr : W.heap[r]? = some (.cells #[.slice none 0 0, .slice none 0 0] 42 (0, 0))) (hrw : w.heap.size ≤ r)
  (hb0 : W.heap[h0]? = some (.cells (zrow (pg n) (.int .i64 0)) 3 (0, 0))) (hb1 : W.heap[h1]? = some (.cells (zrow (pg (pg n)) (.int .i64 0)) 3 (0, 0))) (h0r : h0 ≠ r) (h1r : h1 ≠ r) (hw0 : w.heap.size ≤ h0) (hw1 : w.heap.size ≤ h1) :
  ∀ W2, W2 = (W.setCell ⟨r, 0, none⟩ (.slice (some ⟨h0, 0, none⟩) (pg n) (pg n))).setCell ⟨r, 1, none⟩ (.slice (some ⟨h1, 0, none⟩) (pg (pg n)) (pg (pg n))) →
   W2.cell? ⟨r, 0, none⟩ = some (.slice (some ⟨h0, 0, none⟩) (pg n) (pg n)) ∧ W2.cell? ⟨r, 1, none⟩ = some (.slice (some ⟨h1, 0, none⟩) (pg (pg n)) (pg (pg n))) ∧
   EmptyR n w (.returned (.agg #[.slice (some ⟨h0, 0, none⟩) (pg n) (pg n), .slice (some ⟨h1, 0, none⟩) (pg (pg n)) (pg (pg n))])) W2 := by
 rintro W2 rfl
 have hW := setCell_block (setCell_block hr 0 (.slice (some ⟨h0, 0, none⟩) (pg n) (pg n))) 1 (.slice (some ⟨h1, 0, none⟩) (pg (pg n)) (pg (pg n)))
 have k0 := cell_of_block hW 0
 have k1 := cell_of_block hW 1
 simp only [List.setIfInBounds_toArray, List.set_cons_zero, List.set_cons_succ, List.getElem?_toArray, List.getElem?_cons_zero, List.getElem?_cons_succ] at k0 k1
 have p2 := pg_le (n := n)
 have p4 := pg_le (n := pg n)
 refine ⟨k0, k1, _, _, fun k => if k = 0 then h0 else h1, nOf n, rfl, ⟨rfl, rfl, fun k hk => ?_⟩, fun k hk => ?_, (hC.setCell (.inr hrw) _).setCell (.inr hrw) _⟩
 ·have hk2 : k = 0 ∨ k = 1 := by omega
  rcases hk2 with rfl | rfl
  ·exact zrow_sl (k := 0) ((setCell_other 1 _ h0r).trans ((setCell_other 0 _ h0r).trans hb0)) (by omega) (fun _ => rfl) rfl
  ·exact zrow_sl (k := 1) ((setCell_other 1 _ h1r).trans ((setCell_other 0 _ h1r).trans hb1)) (by omega) (fun _ => rfl) rfl
 ·have hk2 : k = 0 ∨ k = 1 := by omega
  rcases hk2 with rfl | rfl <;> simp <;> omega
end Go.Proofs.YtkhcaclndepgbaaGreat
namespace Go.Proofs.YtkhcaclndepgbaaGreat
open Go.RowKit
theorem need_new {n : Nat} (h : 16 ≤ n) : (needN n : Int) ≤ roomI (Tal.new n) 2 := by
 have h2 : cnt 2 (Tal.new n).free = 2 := cnt_all fun i _ => by simp [Tal.free, Tal.new]
 unfold roomI
 rw [new_frees, h2]
 unfold needN pg
 omega
theorem need_pos {n : Nat} (h : 1 ≤ n) : 2 ≤ needN n := by have := pg_pos h; have := pg_pos this; unfold needN; omega
theorem room_set_le {T : Tal} {b v f : Nat} (hb : b < T.n) : roomI (T.set b v) f ≤ roomI T f + 1 := by
 have h1 := frees_set T v hb
 unfold roomI
 by_cases hf : b < f
 ·have h2 := cnt_upd (p := T.free) (q := (T.set b v).free) (n := f) hf (fun i _ hne => by simp [Tal.free, Tal.set, hne])
  cases h3 : T.free b <;> cases h4 : (T.set b v).free b <;> simp [h3, h4] at h1 h2 <;> omega
 ·have h2 : cnt f (T.set b v).free = cnt f T.free := cnt_congr fun i hi => by
   have : i ≠ b := by omega
   simp [Tal.free, Tal.set, this]
  rw [h2]
  cases h3 : T.free b <;> cases h4 : (T.set b v).free b <;> simp [h3, h4] at h1 <;> omega
theorem T1_room_le {S : PS} {k i : Nat} (h : ShOk S.T S.n S.a) (hk : k < 2) (hi : i < S.n k) (f : Nat) : roomI (S.T1 k i) f ≤ roomI S.T f + 1 := by
 unfold PS.T1
 split
 ·omega
 ·rename_i h0
  have ⟨h1, h2⟩ := h.has k i hk hi h0
  rw [down_now h1 h2]
  exact room_set_le h1
theorem step_first {S : PS} (H : PInv S) {k i : Nat} : (S.step k i).K.first = S.K.first := (takeK_bd (T := S.T1 k i) H.f (by rw [T1_n]; exact H.nx)).2.2.2
theorem step_room {S : PS} (H : PInv S) {k i : Nat} (hk : k < 2) (hi : i < S.n k) (hw : S.want k i = true) : roomI (S.step k i).T S.K.first ≤ roomI S.T S.K.first := by
 obtain ⟨b, ht, h1, h2, h3⟩ := H.block hk hi hw
 have ⟨e1, e2⟩ := step_some ht
 have hs := room_some (T := S.T1 k i) h1 (by rw [T1_n]; exact h2) h3
 have := T1_room_le H.ok hk hi S.K.first
 rw [e1, hs]
 omega
theorem step_n {S : PS} (H : PInv S) {k i : Nat} (hk : k < 2) (hi : i < S.n k) (hw : S.want k i = true) : (S.step k i).T.n = S.T.n := by
 obtain ⟨b, ht, _⟩ := H.block hk hi hw
 rw [(step_some ht).1]
 exact T1_n S k i
theorem fin_ok {T : Tal} {K : Pk} {n : Nat → Nat} {a : Nat → Nat → Nat} (h : ShOk T n a) (hf : K.first ≤ K.next) (hn : K.next ≤ T.n) (hr : (needN T.n : Int) ≤ roomI T K.first) :
  PInv (PS.start T K n a).fin ∧ (PS.start T K n a).fin.next = none ∧ (PS.start T K n a).fin.n = n ∧ (PS.start T K n a).fin.T.n = T.n ∧ (PS.start T K n a).fin.K.first = K.first ∧ roomI (PS.start T K n a).fin.T K.first ≤ roomI T K.first := by
 have := PS.fin_ind (Q := fun S => PInv S ∧ S.n = n ∧ S.T.n = T.n ∧ S.K.first = K.first ∧ roomI S.T K.first ≤ roomI T K.first)
  (fun S k i ⟨q1, q2, q3, q4, q5⟩ hk hi hw => ⟨q1.step hk hi hw, q2, (step_n q1 hk hi hw).trans q3, (step_first q1).trans q4, by
   have := step_room q1 hk hi hw
   rw [q4] at this
   omega⟩) _ (PS.start T K n a) (Nat.le_refl _) ⟨PInv.start h hf hn hr, rfl, rfl, rfl, Int.le_refl _⟩
 exact ⟨this.1.1, this.2, this.1.2.1, this.1.2.2.1, this.1.2.2.2.1, this.1.2.2.2.2⟩
theorem keep_ok {T : Tal} {n : Nat → Nat} {a : Nat → Nat → Nat} (h : ShOk T n a) : ShOk T.keep n a := ⟨h.n0, h.n1, h.has, h.apart⟩
noncomputable def begF (n : Nat) : PS := (PS.start (Tal.new n) ⟨2, 2, 0⟩ (nOf n) (fun _ _ => 0)).fin
theorem beg_ok {n : Nat} (h : 16 ≤ n) : PInv (begF n) ∧ (begF n).next = none ∧ (begF n).n = nOf n ∧ (begF n).T.n = n ∧ (begF n).K.first = 2 :=
 have := fin_ok (empty_ok (Tal.new n)) (K := ⟨2, 2, 0⟩) (Nat.le_refl _) (show 2 ≤ n by omega) (need_new h)
 ⟨this.1, this.2.1, this.2.2.1, this.2.2.2.1, this.2.2.2.2.1⟩
end Go.Proofs.YtkhcaclndepgbaaGreat
