/- The reference of layer 24: Places. (Printed by mkrplaces.py.) -/
import Derived.Test.YtbejcmbdaoakbaaRg3
import Derived.Deep.LoopGhost
import Derived.Deep.CutBlock
namespace Go.Proofs.Ytbejcmbdaoakbaa
open Go.RowKit Go.Sort
set_option linter.unusedVariables false
set_option linter.unusedSimpArgs false

theorem infoX64 : (Try.prog.info? 23).map (fun i => (i.zero, i.size, i.bytes)) = some (some (.int .u64 0), 1, 8) := by kernel_rfl
def uVs (l : List Nat) : List Value := l.map fun n : Nat => Value.int .u64 (n : Int)
theorem uVs_app (a b : List Nat) : uVs (a ++ b) = uVs a ++ uVs b := List.map_append
theorem uVs_len (a : List Nat) : (uVs a).length = a.length := List.length_map ..
theorem uVs_one (a : List Nat) : ∀ u, u ∈ uVs a → u.oneCell' = true := by
  intro u h
  obtain ⟨q, _, rfl⟩ := List.mem_map.1 h
  rfl
theorem uVs_get (a : List Nat) (i : Nat) (h : i < a.length) : (uVs a)[i]? = some (.int .u64 ((a[i]! : Nat) : Int)) := by
  unfold uVs
  rw [List.getElem?_map, List.getElem?_eq_getElem h, getElem!_pos a i h]
  rfl
theorem ownRow_up {W : World} {base base' size n : Nat} {e : TypeId} {v : Value} {xs : List Value} (h : W.ownsRow base e size v n xs) (hb : base' ≤ base) : W.ownsRow base' e size v n xs := by
  refine ⟨h.1, ?_⟩
  rcases h.2 with h | ⟨g, c, cur, h1, h2, h3⟩
  · exact .inl h
  · exact .inr ⟨g, c, cur, h1, Nat.le_trans hb h2, h3⟩
theorem ba_toList_len (s : ByteArray) : ∀ n i r, s.size - i = n → (ByteArray.toList.loop s i r).length = n + r.length := by
  intro n
  induction n with
  | zero =>
    intro i r h
    rw [ByteArray.toList.loop.eq_def]
    rw [if_neg (by omega)]
    simp
  | succ n ih =>
    intro i r h
    rw [ByteArray.toList.loop.eq_def]
    rw [if_pos (by omega), ih (i+1) _ (by omega)]
    simp; omega
theorem str_isEmpty (s : ByteArray) (h : s ≠ ⟨#[]⟩) : s.toList.isEmpty = false := by
  have := ba_toList_len s s.size 0 [] rfl
  have h0 : s.size ≠ 0 := by
    intro e
    apply h
    cases s with | mk d => 
    have : d.size = 0 := e
    rw [Array.eq_empty_of_size_eq_zero this]
  cases hh : s.toList with
  | nil => unfold ByteArray.toList at hh; rw [hh] at this; simp at this; omega
  | cons a b => rfl
theorem src_part {W : World} {base n g c j m k : Nat} {l l' : List Nat} (h : W.ownsRow base 23 1 (.slice (some ⟨g, 0, none⟩) n c) n (uVs l)) (hn : n = l.length) (hm : l'.length = m) (hj : j + m ≤ n) (hl : ∀ i, i < m → l'[i]! = l[j + i]!) : AppSrc W 1 (.slice (some ⟨g, j, none⟩) m k) m (uVs l') := by
  refine ⟨by rw [uVs_len, hm, Nat.mul_one], uVs_one _, .inl ⟨g, j, k, rfl, (h.lt g rfl).2, fun i u hu => ?_⟩⟩
  have hi : i < l'.length := by
    have := (List.getElem?_eq_some_iff.1 hu).1
    rw [uVs_len] at this; exact this
  rcases h.2 with ⟨e, _⟩ | ⟨g', cp, cur, e, hb, hg, r1, r2, r3, r4⟩
  · cases e
  · injection e with e _ _
    injection e with e
    injection e with e
    subst e
    rw [cell_of_block hg, ← hu, uVs_get l' i hi, hl i (by omega), ← uVs_get l (j + i) (by omega), ← r4, List.getElem?_take_of_lt (by omega), Array.getElem?_toList]
theorem src_take {W : World} {base n g c j k : Nat} {l : List Nat} (h : W.ownsRow base 23 1 (.slice (some ⟨g, 0, none⟩) n c) n (uVs l)) (hn : n = l.length) (hj : j ≤ n) : AppSrc W 1 (.slice (some ⟨g, 0, none⟩) j k) j (uVs (l.take j)) :=
  src_part h hn (by rw [List.length_take]; omega) (by omega) (fun i hi => by rw [getElem!_pos (l.take j) i (by rw [List.length_take]; omega), getElem!_pos l (0 + i) (by omega), List.getElem_take]; simp)
theorem src_drop {W : World} {base n g c j k : Nat} {l : List Nat} (h : W.ownsRow base 23 1 (.slice (some ⟨g, 0, none⟩) n c) n (uVs l)) (hn : n = l.length) (hj : j ≤ n) : AppSrc W 1 (.slice (some ⟨g, j, none⟩) (n - j) k) (n - j) (uVs (l.drop j)) :=
  src_part h hn (by rw [List.length_drop]; omega) (by omega) (fun i hi => by rw [getElem!_pos (l.drop j) i (by rw [List.length_drop]; omega), getElem!_pos l (j + i) (by omega), List.getElem_drop])
theorem src_dropc {W : World} {base n g c j : Nat} {l : List Nat} (h : W.ownsRow base 23 1 (.slice (some ⟨g, 0, none⟩) n c) n (uVs l)) (hn : n = l.length) (hj : j ≤ n) (hc : n ≤ c) : AppSrc W 1 (.slice (if c = j then some ⟨g, 0, none⟩ else some ⟨g, j, none⟩) (n - j) (c - j)) (n - j) (uVs (l.drop j)) := by
  by_cases e : c = j
  · rw [if_pos e]
    exact src_part (j := 0) h hn (by rw [List.length_drop]; omega) (by omega) (fun i hi => by omega)
  · rw [if_neg e]
    exact src_drop h hn hj
/-- The first that is not below x. -/
def loIx (l : List Nat) (x : Nat) : Nat := l.findIdx fun y => decide (x ≤ y)
theorem loIx_le (l : List Nat) (x : Nat) : loIx l x ≤ l.length := List.findIdx_le_length
theorem loIx_lo (l : List Nat) (x : Nat) : ∀ k, k < loIx l x → l[k]! < x := by
  intro k hk
  have hk' := Nat.lt_of_lt_of_le hk (loIx_le l x)
  have := List.not_of_lt_findIdx hk
  rw [getElem!_pos l k hk']
  simpa using this
theorem loIx_hi (l : List Nat) (x : Nat) (h : loIx l x < l.length) : x ≤ l[loIx l x]! := by
  have := List.findIdx_getElem (p := fun y => decide (x ≤ y)) (w := h)
  rw [getElem!_pos l _ h]
  unfold loIx
  simpa using this
theorem PlR.eq {ps : PutL} {i j : Nat} {l : List Nat} (h : l[j]! = (ps[i]!).1) (hj : j < l.length) : (ps[i]!).1 ∈ l := by
  rw [← h, getElem!_pos l j hj]; exact List.getElem_mem _
/-- What Places has behind i puts. -/
def PlR (ps : PutL) (i : Nat) (l : List Nat) : Prop := l.Pairwise (· < ·) ∧ ∀ x, x ∈ l ↔ (∃ j, j < i ∧ (ps[j]!).1 = x) ∧ blockOf ps x ≠ ⟨#[]⟩
theorem PlR.zero (ps : PutL) : PlR ps 0 [] := ⟨List.Pairwise.nil, fun x => ⟨fun h => (by cases h), fun h => by obtain ⟨⟨j, hj, _⟩, _⟩ := h; omega⟩⟩
/-- Nothing there: passed over. -/
theorem PlR.none {ps : PutL} {i : Nat} {l : List Nat} (h : PlR ps i l) (he : blockOf ps (ps[i]!).1 = ⟨#[]⟩) : PlR ps (i + 1) l := by
  refine ⟨h.1, fun x => (h.2 x).trans ⟨fun ⟨⟨j, hj, e⟩, hb⟩ => ⟨⟨j, by omega, e⟩, hb⟩, fun ⟨⟨j, hj, e⟩, hb⟩ => ⟨⟨j, ?_, e⟩, hb⟩⟩⟩
  by_cases hji : j = i
  · subst hji; rw [← e] at hb; exact absurd he hb
  · omega
/-- It is there already. -/
theorem PlR.there {ps : PutL} {i : Nat} {l : List Nat} (h : PlR ps i l) (he : (ps[i]!).1 ∈ l) : PlR ps (i + 1) l := by
  refine ⟨h.1, fun x => ⟨fun hx => ?_, fun ⟨⟨j, hj, e⟩, hb⟩ => ?_⟩⟩
  · obtain ⟨⟨j, hj, e⟩, hb⟩ := (h.2 x).1 hx
    exact ⟨⟨j, by omega, e⟩, hb⟩
  · by_cases hji : j = i
    · subst hji; rw [← e]; exact he
    · exact (h.2 x).2 ⟨⟨j, by omega, e⟩, hb⟩
/-- It comes in, between the smaller and the greater. -/
theorem PlR.put {ps : PutL} {i j : Nat} {l : List Nat} (h : PlR ps i l) (hj : j ≤ l.length) (hlo : ∀ k, k < j → l[k]! < (ps[i]!).1) (hne : blockOf ps (ps[i]!).1 ≠ ⟨#[]⟩) (hhi : j < l.length → (ps[i]!).1 < l[j]!) :
    PlR ps (i + 1) (l.take j ++ [(ps[i]!).1] ++ l.drop j) := by
  generalize hx : (ps[i]!).1 = x at *
  have hs := h.1
  have hlt : ∀ y, y ∈ l.take j → y < x := by
    intro y hy
    obtain ⟨k, hk, rfl⟩ := List.getElem_of_mem hy
    have hk' : k < j := by rw [List.length_take] at hk; omega
    have := hlo k hk'
    rw [getElem!_pos l k (by omega)] at this
    rw [List.getElem_take]
    exact this
  have hgt : ∀ y, y ∈ l.drop j → x < y := by
    intro y hy
    obtain ⟨k, hk, rfl⟩ := List.getElem_of_mem hy
    rw [List.length_drop] at hk
    have h0 := hhi (by omega)
    rw [getElem!_pos l j (by omega)] at h0
    rw [List.getElem_drop]
    rcases Nat.eq_zero_or_pos k with rfl | hk0
    · simpa using h0
    · have := (List.pairwise_iff_getElem.1 hs) j (j + k) (by omega) (by omega) (by omega)
      omega
  have htd : ∀ y, y ∈ l ↔ y ∈ l.take j ∨ y ∈ l.drop j := fun y => by rw [← List.mem_append, List.take_append_drop]
  refine ⟨?_, fun y => ?_⟩
  · rw [List.append_assoc, List.pairwise_append]
    refine ⟨hs.sublist (List.take_sublist ..), ?_, fun a ha b hb => ?_⟩
    · rw [List.singleton_append, List.pairwise_cons]
      exact ⟨hgt, hs.sublist (List.drop_sublist ..)⟩
    · rcases List.mem_append.1 hb with hb | hb
      · rw [List.mem_singleton.1 hb]; exact hlt a ha
      · exact Nat.lt_trans (hlt a ha) (hgt b hb)
  · rw [List.mem_append, List.mem_append, List.mem_singleton]
    constructor
    · intro hy
      rcases hy with (hy | rfl) | hy
      · obtain ⟨⟨k, hk, e⟩, hb⟩ := (h.2 y).1 ((htd y).2 (.inl hy))
        exact ⟨⟨k, by omega, e⟩, hb⟩
      · exact ⟨⟨i, by omega, hx⟩, hne⟩
      · obtain ⟨⟨k, hk, e⟩, hb⟩ := (h.2 y).1 ((htd y).2 (.inr hy))
        exact ⟨⟨k, by omega, e⟩, hb⟩
    · rintro ⟨⟨k, hk, e⟩, hb⟩
      by_cases hki : k = i
      · subst hki
        exact .inl (.inr (e.symm.trans hx))
      · rcases (htd y).1 ((h.2 y).2 ⟨⟨k, by omega, e⟩, hb⟩) with hy | hy
        · exact .inl (.inl hy)
        · exact .inr hy

set_option maxRecDepth 20000 in
set_option maxHeartbeats 8000000 in
theorem r24Places_at {L : List Nat} {w : World} {pv : Value} {ps : PutL} {id : Nat} (h : PutsV L w pv ps) (hn : ps.length ≤ 1000000) :
    Calls Try.prog 25 #[.agg #[.int .u64 (id : Int), pv]] w fun e w' => ∃ v l, e = .returned v ∧ PlR ps ps.length l ∧ w'.ownsRow w.heap.size 23 1 v l.length (uVs l) ∧ l.length ≤ ps.length ∧ Chg [] w w' := by
  obtain ⟨pa, pc, hpv, _, _⟩ := ownRow_slice h.1
  subst hpv
  obtain ⟨n, hn'⟩ : ∃ n, n = ps.length := ⟨_, rfl⟩
  have hn1 : n ≤ 1000000 := by omega
  rw [← hn']
  have Hn := Lib.hid hn'
  have H := Lib.hid h
  have HN6 := Lib.hid hn
  have hb := new_block w (.cells #[.int .u64 (id : Int), .slice pa n pc] 52)
  have hC := (Chg.refl [] w).alloc (.cells #[.int .u64 (id : Int), .slice pa n pc] 52)
  clear hn' hn h
  go_enter Try.func25, Try.ntmps25
  go_upto_region 1 with fail
  have HCC := Lib.hid hC
  have HBB := Lib.hid hb
  have lb := heap_lt hb
  clear hb hC
  generalize w.alloc (.cells #[.int .u64 (id : Int), .slice pa n pc] 52) = W at *
  obtain ⟨b, hbe⟩ : ∃ b, b = w.heap.size := ⟨_, rfl⟩
  have HBE := Lib.hid hbe
  rw [← hbe] at lb ⊢
  clear hbe
  go_wp2_with fail
  go_loopg [3, 4, 5, 6] n (fun gg s3 s4 s5 s6 wr => ∃ (i : Nat) (l : List Nat) (a : Option Addr) (len c : Nat), gg = n - i ∧ i ≤ n ∧ s4 = .int .i64 (i : Int) ∧ s3 = .slice a len c ∧ Hid (wr.ownsRow W.heap.size 23 1 (.slice a len c) len (uVs l) ∧ len = l.length ∧ Chg [] W wr ∧ PlR ps i l ∧ l.length ≤ i))
  case atStart => exact ⟨0, [], none, 0, 0, rfl, Nat.zero_le _, by go_num, rfl, ⟨World.ownsRow_nil W W.heap.size 23 1, rfl, Chg.refl _ _, PlR.zero ps, Nat.le_refl _⟩⟩
  case round =>
    obtain ⟨i, l, a, len, c, hgg, hin, rfl, rfl, hX⟩ := hrel
    obtain ⟨hown, hlen, hch, hpl, hli⟩ := hX.out
    have HGG := Lib.hid hgg
    have HOW := Lib.hid hown
    have HLE := Lib.hid hlen
    have HCH := Lib.hid hch
    have HPL := Lib.hid hpl
    have HLI := Lib.hid hli
    have hlen1 : len ≤ 1000000 := by omega
    have hbw : wr.heap[b]? = some (.cells #[.int .u64 (id : Int), .slice pa n pc] 52 (0, 0)) := (hch.block b lb (by simp)).trans (by rw [HBE.out]; exact HBB.out)
    have x0 := cell_of_block hbw 0
    have x1 := cell_of_block hbw 1
    simp only [List.getElem?_toArray, List.getElem?_cons_zero, List.getElem?_cons_succ] at x0 x1
    have HBW := Lib.hid hbw
    clear hgg hown hlen hch hpl hli hX hbw
    by_cases hi : i < n
    · have i1 : (i : Int) < (n : Int) := by omega
      obtain ⟨g, c', e1, _, _, _, hgl, hcell⟩ := ownRow_cells H.out.1 (by have := Hn.out; omega)
      have e1' := congrArg Value.ownBlock e1
      injection e1 with e1a e1b e1c
      subst e1a
      have hkl : i < ps.length := by have := Hn.out; omega
      have hgt := putCells_get ps i hkl
      have p0 := (HCH.out.cell (p := ⟨g, i * 2, none⟩) (Nat.lt_of_lt_of_le hgl HCC.out.size) (by simp)).trans ((HCC.out.cell (p := ⟨g, i * 2, none⟩) hgl (by simp)).trans ((hcell _ (by omega)).trans hgt.1))
      obtain ⟨xv, hxv⟩ : ∃ xv, xv = (ps[i]!).1 := ⟨_, rfl⟩
      rw [← hxv] at p0
      have HXV := Lib.hid hxv
      have HKL := Lib.hid hkl
      have HG := Lib.hid (Nat.lt_of_lt_of_le hgl HCC.out.size)
      clear e1' e1b e1c hgl hcell hgt hxv hkl
      obtain ⟨jj, hjj⟩ : ∃ jj, jj = loIx l xv := ⟨_, rfl⟩
      have hjl : jj ≤ len := by have h1 := loIx_le l xv; have h2 := HLE.out; omega
      have HLO : Hid (∀ k, k < jj → l[k]! < xv) := Lib.hid (by rw [hjj]; exact loIx_lo l xv)
      have HHI : Hid (jj < len → xv ≤ l[jj]!) := Lib.hid (fun hl => by rw [hjj]; exact loIx_hi l xv (by rw [← hjj, ← HLE.out]; exact hl))
      have HCL : Hid (∀ k, k < len → ∃ g, a = some ⟨g, 0, none⟩ ∧ wr.cell? ⟨g, k, none⟩ = some (.int .u64 ((l[k]! : Nat) : Int))) := Lib.hid (by
        intro k hk
        rcases HOW.out.2 with ⟨e, e2⟩ | ⟨g, cp, cur, e, hb, hg, r1, r2, r3, r4⟩
        · omega
        · injection e with e _ _
          refine ⟨g, e, ?_⟩
          rw [cell_of_block hg, ← uVs_get l k (by have := HLE.out; omega), ← r4, List.getElem?_take_of_lt (by omega), Array.getElem?_toList])
      clear hjj
      go_upto_block 2 with fail
      go_cut [6] from 20 to 33 (fun s wx => s = .int .i64 (jj : Int) ∧ Hid (wx = wr))
      case first =>
        go_wp2_with fail
        go_loop [6] (fun s => ∃ j : Nat, j ≤ jj ∧ s = .int .i64 (j : Int)) (fun s => jj - (intOf s).toNat)
        case atStart => exact ⟨0, Nat.zero_le _, by go_num⟩
        case round =>
          obtain ⟨j, hj, rfl⟩ := hrel
          by_cases hjn : j < len
          · have k1 : (j : Int) < (len : Int) := by omega
            obtain ⟨ga, rfl, hc⟩ := HCL.out j hjn
            have hlo := HLO.out j
            obtain ⟨y, hy⟩ : ∃ y, y = l[j]! := ⟨_, rfl⟩
            rw [← hy] at hc hlo
            by_cases hjj : j < jj
            · have k2 : (y : Int) < (xv : Int) := by have := hlo hjj; omega
              have d2 : decide ((y : Int) < (xv : Int)) = true := by simp; omega
              clear hy hlo
              go_wp2_with fail
              go_round
              case rel => exact ⟨j + 1, by omega, by go_num⟩
              case measure => simp [intOf]; omega
            · obtain rfl : j = jj := by omega
              have hyx := HHI.out hjn
              rw [← hy] at hyx
              have k2 : ¬ (y : Int) < (xv : Int) := by omega
              have d2 : decide ((y : Int) < (xv : Int)) = false := by simp; omega
              clear hy hlo hyx
              go_wp2_with fail
              go_meet
              exact ⟨rfl, rfl⟩
          · obtain rfl : j = jj := by omega
            have k1 : ¬ (j : Int) < (len : Int) := by omega
            go_wp2_with fail
            go_meet
            exact ⟨rfl, rfl⟩
      case rest =>
        obtain ⟨rfl, hwx⟩ := hcut
        have := hwx.out
        subst this
        have hB := r24Block_at (id := id) (x := xv) ((H.out.chg HCC.out (by simp)).chg HCH.out (by simp)) HN6.out
        rw [← Hn.out] at hB
        have HBK := Lib.hid hB
        clear hB hwx
        go_wp2_with fail
        refine HBK.out.mono ?_
        rintro e w2 ⟨rfl, hC2⟩
        have HC2 := Lib.hid hC2
        have HOW2 := Lib.hid (ownRow_chg HOW.out hC2 (by simp))
        have HCH2 := Lib.hid (HCH.out.trans hC2)
        clear hC2 HBK x0 x1 p0
        obtain ⟨st, hst⟩ : ∃ st, st = blockOf ps xv := ⟨_, rfl⟩
        rw [← hst]
        have HST := Lib.hid hst
        by_cases he : st = ⟨#[]⟩
        · subst he
          clear hst
          go_wp2_with fail
          go_roundg (n - (i + 1))
          case measure => have := HGG.out; omega
          case rel => exact ⟨i + 1, l, a, len, c, rfl, by omega, by go_num, rfl, ⟨HOW2.out, HLE.out, HCH2.out, PlR.none HPL.out (by rw [← HXV.out]; exact HST.out.symm), by have := HLI.out; omega⟩⟩
        · have d3 : st.toList.isEmpty = false := str_isEmpty st he
          have d4 : ¬ st.toList = [] := fun q => by rw [q] at d3; cases d3
          have HNE := Lib.hid he
          clear he
          clear hst
          by_cases hq : jj < len ∧ l[jj]! = xv
          · obtain ⟨q1, q2⟩ := hq
            have k1 : (jj : Int) < (len : Int) := by omega
            obtain ⟨ga, ha, hc⟩ := HCL.out jj q1
            subst ha
            have hc := (HC2.out.cell (p := ⟨ga, jj, none⟩) (World.block_lt_of_cell? _ ⟨ga, jj, none⟩ hc) (by simp)).trans hc
            rw [q2] at hc
            have HQ2 := Lib.hid q2
            clear q2
            go_wp2_with fail
            go_roundg (n - (i + 1))
            case measure => have := HGG.out; omega
            case rel => exact ⟨i + 1, l, _, len, c, rfl, by omega, by go_num, rfl, ⟨HOW2.out, HLE.out, HCH2.out, PlR.there HPL.out (PlR.eq (by rw [← HXV.out]; exact HQ2.out) (by rw [← HLE.out]; exact q1)), by have := HLI.out; omega⟩⟩
          · have HNEW : Hid (PlR ps (i + 1) (l.take jj ++ [xv] ++ l.drop jj)) := Lib.hid (by
              have h1 := PlR.put (j := jj) HPL.out (by rw [← HLE.out]; exact hjl) (by rw [← HXV.out]; exact HLO.out) (by rw [← HXV.out, ← HST.out]; exact HNE.out) (fun hl => by
                rw [← HXV.out]
                rw [← HLE.out] at hl
                have := HHI.out hl
                have : l[jj]! ≠ xv := fun e => hq ⟨hl, e⟩
                omega)
              rw [← HXV.out] at h1
              exact h1)
            have HJL : Hid (jj < len → l[jj]! ≠ xv) := Lib.hid (fun h1 h2 => hq ⟨h1, h2⟩)
            clear hq
            have HLN : Hid ((l.take jj ++ [xv] ++ l.drop jj).length = len + 1) := Lib.hid (by have := HLE.out; simp; omega)
            have HC0 := Lib.hid ((Chg.refl [] w2).drew)
            by_cases hjn : jj < len
            · have k1 : (jj : Int) < (len : Int) := by omega
              obtain ⟨ga, ha, hc⟩ := HCL.out jj hjn
              subst ha
              have hc := (HC2.out.cell (p := ⟨ga, jj, none⟩) (World.block_lt_of_cell? _ ⟨ga, jj, none⟩ hc) (by simp)).trans hc
              obtain ⟨y, hy⟩ : ∃ y, y = l[jj]! := ⟨_, rfl⟩
              have hyx : y ≠ xv := by rw [hy]; exact HJL.out hjn
              rw [← hy] at hc
              have k2 : ((y : Int) == (xv : Int)) = false := by simp; omega
              have k3 : (y == xv) = false := by simpa using hyx
              clear hy hyx
              go_upto_region 10 with fail
              clear hc k2 k3 k1 d3 d4
              have hcp : len ≤ c := by
                obtain ⟨_, _, e, h1, _⟩ := ownRow_slice HOW.out
                injection e with _ _ e
                rw [e]; exact h1
              have k5 : (jj : Int) ≤ (c : Int) := by omega
              have k6 : ¬ (c : Int) < (jj : Int) := by omega
              refine wp_region_held_drew (S := fun _ => True) (by kernel_rfl) (by trivial) (fun hHeld => ?_)
              refine wpAnyH_take (i := 1) (oi := ?_) (v := ?_) ?_ (by kernel_rfl) (by kernel_rfl) (by kernel_rfl) ?_ (Or.inl ⟨?_, ?_⟩) hHeld ?_
              rotate_left 2
              · (simp only [List.getElem?_toArray, List.getElem?_cons_succ, List.getElem?_cons_zero]; rfl)
              · exact fun _ _ _ h => h
              · rfl
              · (rintro W' _; go_simp; first | done | with_reducible rfl)
              try simp only [Act.put, List.setIfInBounds_toArray, List.set_cons_zero, List.set_cons_succ]
              refine wpAnyH_take (i := 2) (oi := ?_) (v := ?_) ?_ (by kernel_rfl) (by kernel_rfl) (by kernel_rfl) ?_ (Or.inl ⟨?_, ?_⟩) hHeld ?_
              rotate_left 2
              · (simp only [List.getElem?_toArray, List.getElem?_cons_succ, List.getElem?_cons_zero]; rfl)
              · exact fun _ _ _ h => h
              · rfl
              · (rintro W' _; go_simp; first | done | with_reducible rfl)
              try simp only [Act.put, List.setIfInBounds_toArray, List.set_cons_zero, List.set_cons_succ]
              refine wpAnyH_take (i := 3) (oi := ?_) (v := ?_) ?_ (by kernel_rfl) (by kernel_rfl) (by kernel_rfl) ?_ (Or.inl ⟨?_, ?_⟩) hHeld ?_
              rotate_left 2
              · (simp only [List.getElem?_toArray, List.getElem?_cons_succ, List.getElem?_cons_zero]; rfl)
              · exact fun _ _ _ h => h
              · rfl
              · (rintro W' _; go_simp; first | done | with_reducible rfl)
              try simp only [Act.put, List.setIfInBounds_toArray, List.set_cons_zero, List.set_cons_succ]
              refine wpAnyH_take (i := 5) (oi := ?_) (v := ?_) ?_ (by kernel_rfl) (by kernel_rfl) (by kernel_rfl) ?_ (Or.inl ⟨?_, ?_⟩) hHeld ?_
              rotate_left 2
              · (simp only [List.getElem?_toArray, List.getElem?_cons_succ, List.getElem?_cons_zero]; rfl)
              · exact fun _ _ _ h => h
              · rfl
              · (rintro W' _; go_simp; first | done | with_reducible rfl)
              try simp only [Act.put, List.setIfInBounds_toArray, List.set_cons_zero, List.set_cons_succ]
              refine wpAnyH_take (i := 8) (oi := ?_) (v := ?_) ?_ (by kernel_rfl) (by kernel_rfl) (by kernel_rfl) ?_ (Or.inl ⟨?_, ?_⟩) hHeld ?_
              rotate_left 2
              · (simp only [List.getElem?_toArray, List.getElem?_cons_succ, List.getElem?_cons_zero]; rfl)
              · exact fun _ _ _ h => h
              · rfl
              · (rintro W' _; go_simp; first | done | with_reducible rfl)
              try simp only [Act.put, List.setIfInBounds_toArray, List.set_cons_zero, List.set_cons_succ]
              refine wpAnyH_take (i := 9) (oi := ?_) (v := ?_) ?_ (by kernel_rfl) (by kernel_rfl) (by kernel_rfl) ?_ (Or.inl ⟨?_, ?_⟩) hHeld ?_
              rotate_left 2
              · (simp only [List.getElem?_toArray, List.getElem?_cons_succ, List.getElem?_cons_zero]; rfl)
              · exact fun _ _ _ h => h
              · rfl
              · (rintro W' _; go_simp; first | done | with_reducible rfl)
              try simp only [Act.put, List.setIfInBounds_toArray, List.set_cons_zero, List.set_cons_succ]
              refine wpAnyH_take (i := 10) (oi := ?_) (v := ?_) ?_ (by kernel_rfl) (by kernel_rfl) (by kernel_rfl) ?_ (Or.inl ⟨?_, ?_⟩) hHeld ?_
              rotate_left 2
              · (simp only [List.getElem?_toArray, List.getElem?_cons_succ, List.getElem?_cons_zero]; rfl)
              · exact fun _ _ _ h => h
              · rfl
              · (rintro W' _; go_simp; first | done | with_reducible rfl)
              try simp only [Act.put, List.setIfInBounds_toArray, List.set_cons_zero, List.set_cons_succ]
              have HS1 : Hid (AppSrc w2 1 (.slice (some ⟨ga, 0, none⟩) jj c) jj (uVs (l.take jj))) := Lib.hid (src_take HOW2.out HLE.out (by omega))
              have HS2 : Hid (AppSrc w2 1 (.slice (if c = jj then some ⟨ga, 0, none⟩ else some ⟨ga, jj, none⟩) (len - jj) (c - jj)) (len - jj) (uVs (l.drop jj))) := Lib.hid (src_dropc HOW2.out HLE.out (by omega) (by omega))
              generalize w2.drew = V at *
              refine wpAnyH_ready (rs := [0, 6]) (by kernel_rfl) (by simp) ?_
              refine AllReadyH.cons (o := ?_) ?_ (fun K hK => ?_) ?_
              rotate_left 1
              · (simp only [List.getElem?_toArray, List.getElem?_cons_succ, List.getElem?_cons_zero]; rfl)
              · (go_simp; have hstZ := (Chg.refl [] V).alloc (.cells #[] 23); have hnbZ := new_block V (.cells #[] 23); have HZZ := Lib.hid hnbZ; have HCZ := Lib.hid (HC0.out.trans hstZ); have HLZ := Lib.hid (HC0.out.size); clear hnbZ hstZ; generalize V.alloc (.cells #[] 23) = VZ at *)
                refine hK.out _ _ ?_ (fun hHeld => ?_)
                · trivial
                clear hK K
                try simp only [Act.put, List.setIfInBounds_toArray, List.set_cons_zero, List.set_cons_succ]
                refine wpAnyH_ready (rs := [4, 6]) (by kernel_rfl) (by simp) ?_
                refine AllReadyH.cons (o := ?_) ?_ (fun K hK => ?_) ?_
                rotate_left 1
                · (simp only [List.getElem?_toArray, List.getElem?_cons_succ, List.getElem?_cons_zero]; rfl)
                · (refine step_app (base := w2.heap.size) (xs := []) (news := uVs (l.take jj)) rfl (.tmp 52) (.tmp 55) 47 rfl rfl Try.underlying47 infoX64 (by rfl) (by omega) (by omega) (by simp [Act.eval, Act.put]) (by simp [Act.eval, Act.put]) (own_zero HZZ.out HLZ.out) (HS1.out.chg HCZ.out (by simp)) (by omega) HCZ.out.size ?_; intro vaZA VZA hownZA hgZA; rw [Nat.zero_add, List.nil_append] at hownZA; have hstZA : Chg [V.heap.size] VZ VZA := (Chg.refl _ VZ).grown hgZA (fun k hk => .inl (by rw [← (show V.heap.size = k from Option.some.inj hk)]; simp)); have HCZA := Lib.hid (HCZ.out.then hstZA (fun q hq => .inr (by simp only [List.mem_singleton] at hq; rw [hq]; exact HLZ.out))); have HAZA := Lib.hid hownZA; clear hownZA hgZA hstZA)
                  refine hK.out _ _ ?_ (fun hHeld => ?_)
                  · trivial
                  clear hK K
                  try simp only [Act.put, List.setIfInBounds_toArray, List.set_cons_zero, List.set_cons_succ]
                  refine wpAnyH_ready (rs := [6]) (by kernel_rfl) (by simp) ?_
                  refine AllReadyH.cons (o := ?_) ?_ (fun K hK => ?_) AllReadyH.nil
                  rotate_left 1
                  · (simp only [List.getElem?_toArray, List.getElem?_cons_succ, List.getElem?_cons_zero]; rfl)
                  · (go_simp; have hstZAB := (Chg.refl [] VZA).alloc (.cells #[.int .u64 (xv : Int)] 23); have hnbZAB := new_block VZA (.cells #[.int .u64 (xv : Int)] 23); have HAZAB := Lib.hid (ownRow_chg HAZA.out hstZAB (by simp)); have HBZAB := Lib.hid hnbZAB; have HCZAB := Lib.hid (HCZA.out.trans hstZAB); have HLZAB := Lib.hid (HCZA.out.size); clear hnbZAB hstZAB; generalize VZA.alloc (.cells #[.int .u64 (xv : Int)] 23) = VZAB at *)
                    refine hK.out _ _ ?_ (fun hHeld => ?_)
                    · trivial
                    clear hK K
                    try simp only [Act.put, List.setIfInBounds_toArray, List.set_cons_zero, List.set_cons_succ]
                    refine wpAnyH_ready (rs := [7]) (by kernel_rfl) (by simp) ?_
                    refine AllReadyH.cons (o := ?_) ?_ (fun K hK => ?_) AllReadyH.nil
                    rotate_left 1
                    · (simp only [List.getElem?_toArray, List.getElem?_cons_succ, List.getElem?_cons_zero]; rfl)
                    · (refine step_app (base := w2.heap.size) (news := [.int .u64 (xv : Int)]) rfl (.tmp 56) (.tmp 58) 47 rfl rfl Try.underlying47 infoX64 (by rfl) (by omega) (by omega) (by simp [Act.eval, Act.put]) (by simp [Act.eval, Act.put]) HAZAB.out (AppSrc.blk1 HBZAB.out rfl) (by omega) HCZAB.out.size ?_; intro vaZABAB VZABAB hownZABAB hgZABAB; have HCZABAB := Lib.hid (HCZAB.out.grown hgZABAB (fun k hk => .inr (HAZAB.out.lt k hk).1)); obtain ⟨axZABAB, cxZABAB, hvxZABAB, _, _⟩ := ownRow_slice hownZABAB; subst hvxZABAB; have HAZABAB := Lib.hid hownZABAB; clear hownZABAB hgZABAB)
                      refine hK.out _ _ ?_ (fun hHeld => ?_)
                      · trivial
                      clear hK K
                      try simp only [Act.put, List.setIfInBounds_toArray, List.set_cons_zero, List.set_cons_succ]
                      refine wpAnyH_ready (rs := [11]) (by kernel_rfl) (by simp) ?_
                      refine AllReadyH.cons (o := ?_) ?_ (fun K hK => ?_) AllReadyH.nil
                      rotate_left 1
                      · (simp only [List.getElem?_toArray, List.getElem?_cons_succ, List.getElem?_cons_zero]; rfl)
                      · (refine step_app (base := w2.heap.size) (news := uVs (l.drop jj)) rfl (.tmp 59) (.tmp 62) 47 rfl rfl Try.underlying47 infoX64 (by rfl) (by omega) (by omega) (by simp [Act.eval, Act.put]) (by simp [Act.eval, Act.put]) HAZABAB.out (HS2.out.chg HCZABAB.out (by simp)) (by omega) HCZABAB.out.size ?_; intro vz VZZ hownz hgz; have HCz := Lib.hid (HCZABAB.out.grown hgz (fun k hk => .inr (HAZABAB.out.lt k hk).1)); rw [show jj + 1 + (len - jj) = len + 1 by omega] at hownz; obtain ⟨axz, cxz, hvxz, _, _⟩ := ownRow_slice hownz; subst hvxz; have HAz := Lib.hid hownz; clear hownz hgz)
                        refine hK.out _ _ ?_ (fun hHeld => ?_)
                        · trivial
                        clear hK K
                        try simp only [Act.put, List.setIfInBounds_toArray, List.set_cons_zero, List.set_cons_succ]
                        refine wpAnyH_take (i := 12) (oi := ?_) (v := ?_) ?_ (by kernel_rfl) (by kernel_rfl) (by kernel_rfl) ?_ (Or.inl ⟨?_, ?_⟩) hHeld ?_
                        rotate_left 2
                        · (simp only [List.getElem?_toArray, List.getElem?_cons_succ, List.getElem?_cons_zero]; rfl)
                        · exact fun _ _ _ h => h
                        · rfl
                        · (rintro W' _; go_simp; first | done | with_reducible rfl)
                        try simp only [Act.put, List.setIfInBounds_toArray, List.set_cons_zero, List.set_cons_succ]
                        refine wpAnyH_done (by kernel_rfl) ?_ _
                        go_wp2_with fail
                        all_goals
                          go_roundg (n - (i + 1))
                          case measure => have := HGG.out; omega
                          case rel => exact ⟨i + 1, l.take jj ++ [xv] ++ l.drop jj, axz, len + 1, cxz, rfl, by omega, by go_num, rfl, ⟨by rw [uVs_app, uVs_app]; exact ownRow_up HAz.out HCH2.out.size, HLN.out.symm, HCH2.out.trans HCz.out, HNEW.out, by rw [HLN.out]; have := HLI.out; have := HLE.out; omega⟩⟩
                refine AllReadyH.cons (o := ?_) ?_ (fun K hK => ?_) AllReadyH.nil
                rotate_left 1
                · (simp only [List.getElem?_toArray, List.getElem?_cons_succ, List.getElem?_cons_zero]; rfl)
                · (go_simp; have hstZB := (Chg.refl [] VZ).alloc (.cells #[.int .u64 (xv : Int)] 23); have hnbZB := new_block VZ (.cells #[.int .u64 (xv : Int)] 23); have HZZB := Lib.hid ((hstZB.block _ (heap_lt HZZ.out) (by simp)).trans HZZ.out); have HBZB := Lib.hid hnbZB; have HCZB := Lib.hid (HCZ.out.trans hstZB); have HLZB := Lib.hid (HCZ.out.size); clear hnbZB hstZB; generalize VZ.alloc (.cells #[.int .u64 (xv : Int)] 23) = VZB at *)
                  refine hK.out _ _ ?_ (fun hHeld => ?_)
                  · trivial
                  clear hK K
                  try simp only [Act.put, List.setIfInBounds_toArray, List.set_cons_zero, List.set_cons_succ]
                  refine wpAnyH_ready (rs := [4]) (by kernel_rfl) (by simp) ?_
                  refine AllReadyH.cons (o := ?_) ?_ (fun K hK => ?_) AllReadyH.nil
                  rotate_left 1
                  · (simp only [List.getElem?_toArray, List.getElem?_cons_succ, List.getElem?_cons_zero]; rfl)
                  · (refine step_app (base := w2.heap.size) (xs := []) (news := uVs (l.take jj)) rfl (.tmp 52) (.tmp 55) 47 rfl rfl Try.underlying47 infoX64 (by rfl) (by omega) (by omega) (by simp [Act.eval, Act.put]) (by simp [Act.eval, Act.put]) (own_zero HZZB.out HLZ.out) (HS1.out.chg HCZB.out (by simp)) (by omega) HCZB.out.size ?_; intro vaZBA VZBA hownZBA hgZBA; rw [Nat.zero_add, List.nil_append] at hownZBA; have hstZBA : Chg [V.heap.size] VZB VZBA := (Chg.refl _ VZB).grown hgZBA (fun k hk => .inl (by rw [← (show V.heap.size = k from Option.some.inj hk)]; simp)); have HBZBA := Lib.hid ((hstZBA.block _ (heap_lt HBZB.out) (by simp only [List.mem_singleton]; exact blk_ne HZZB.out HBZB.out (by simp))).trans HBZB.out); have HCZBA := Lib.hid (HCZB.out.then hstZBA (fun q hq => .inr (by simp only [List.mem_singleton] at hq; rw [hq]; exact HLZ.out))); have HAZBA := Lib.hid hownZBA; clear hownZBA hgZBA hstZBA)
                    refine hK.out _ _ ?_ (fun hHeld => ?_)
                    · trivial
                    clear hK K
                    try simp only [Act.put, List.setIfInBounds_toArray, List.set_cons_zero, List.set_cons_succ]
                    refine wpAnyH_ready (rs := [7]) (by kernel_rfl) (by simp) ?_
                    refine AllReadyH.cons (o := ?_) ?_ (fun K hK => ?_) AllReadyH.nil
                    rotate_left 1
                    · (simp only [List.getElem?_toArray, List.getElem?_cons_succ, List.getElem?_cons_zero]; rfl)
                    · (refine step_app (base := w2.heap.size) (news := [.int .u64 (xv : Int)]) rfl (.tmp 56) (.tmp 58) 47 rfl rfl Try.underlying47 infoX64 (by rfl) (by omega) (by omega) (by simp [Act.eval, Act.put]) (by simp [Act.eval, Act.put]) HAZBA.out (AppSrc.blk1 HBZBA.out rfl) (by omega) HCZBA.out.size ?_; intro vaZBAAB VZBAAB hownZBAAB hgZBAAB; have HCZBAAB := Lib.hid (HCZBA.out.grown hgZBAAB (fun k hk => .inr (HAZBA.out.lt k hk).1)); obtain ⟨axZBAAB, cxZBAAB, hvxZBAAB, _, _⟩ := ownRow_slice hownZBAAB; subst hvxZBAAB; have HAZBAAB := Lib.hid hownZBAAB; clear hownZBAAB hgZBAAB)
                      refine hK.out _ _ ?_ (fun hHeld => ?_)
                      · trivial
                      clear hK K
                      try simp only [Act.put, List.setIfInBounds_toArray, List.set_cons_zero, List.set_cons_succ]
                      refine wpAnyH_ready (rs := [11]) (by kernel_rfl) (by simp) ?_
                      refine AllReadyH.cons (o := ?_) ?_ (fun K hK => ?_) AllReadyH.nil
                      rotate_left 1
                      · (simp only [List.getElem?_toArray, List.getElem?_cons_succ, List.getElem?_cons_zero]; rfl)
                      · (refine step_app (base := w2.heap.size) (news := uVs (l.drop jj)) rfl (.tmp 59) (.tmp 62) 47 rfl rfl Try.underlying47 infoX64 (by rfl) (by omega) (by omega) (by simp [Act.eval, Act.put]) (by simp [Act.eval, Act.put]) HAZBAAB.out (HS2.out.chg HCZBAAB.out (by simp)) (by omega) HCZBAAB.out.size ?_; intro vz VZZ hownz hgz; have HCz := Lib.hid (HCZBAAB.out.grown hgz (fun k hk => .inr (HAZBAAB.out.lt k hk).1)); rw [show jj + 1 + (len - jj) = len + 1 by omega] at hownz; obtain ⟨axz, cxz, hvxz, _, _⟩ := ownRow_slice hownz; subst hvxz; have HAz := Lib.hid hownz; clear hownz hgz)
                        refine hK.out _ _ ?_ (fun hHeld => ?_)
                        · trivial
                        clear hK K
                        try simp only [Act.put, List.setIfInBounds_toArray, List.set_cons_zero, List.set_cons_succ]
                        refine wpAnyH_take (i := 12) (oi := ?_) (v := ?_) ?_ (by kernel_rfl) (by kernel_rfl) (by kernel_rfl) ?_ (Or.inl ⟨?_, ?_⟩) hHeld ?_
                        rotate_left 2
                        · (simp only [List.getElem?_toArray, List.getElem?_cons_succ, List.getElem?_cons_zero]; rfl)
                        · exact fun _ _ _ h => h
                        · rfl
                        · (rintro W' _; go_simp; first | done | with_reducible rfl)
                        try simp only [Act.put, List.setIfInBounds_toArray, List.set_cons_zero, List.set_cons_succ]
                        refine wpAnyH_done (by kernel_rfl) ?_ _
                        go_wp2_with fail
                        all_goals
                          go_roundg (n - (i + 1))
                          case measure => have := HGG.out; omega
                          case rel => exact ⟨i + 1, l.take jj ++ [xv] ++ l.drop jj, axz, len + 1, cxz, rfl, by omega, by go_num, rfl, ⟨by rw [uVs_app, uVs_app]; exact ownRow_up HAz.out HCH2.out.size, HLN.out.symm, HCH2.out.trans HCz.out, HNEW.out, by rw [HLN.out]; have := HLI.out; have := HLE.out; omega⟩⟩
              refine AllReadyH.cons (o := ?_) ?_ (fun K hK => ?_) AllReadyH.nil
              rotate_left 1
              · (simp only [List.getElem?_toArray, List.getElem?_cons_succ, List.getElem?_cons_zero]; rfl)
              · (go_simp; have hstB := (Chg.refl [] V).alloc (.cells #[.int .u64 (xv : Int)] 23); have hnbB := new_block V (.cells #[.int .u64 (xv : Int)] 23); have HBB := Lib.hid hnbB; have HCB := Lib.hid (HC0.out.trans hstB); have HLB := Lib.hid (HC0.out.size); clear hnbB hstB; generalize V.alloc (.cells #[.int .u64 (xv : Int)] 23) = VB at *)
                refine hK.out _ _ ?_ (fun hHeld => ?_)
                · trivial
                clear hK K
                try simp only [Act.put, List.setIfInBounds_toArray, List.set_cons_zero, List.set_cons_succ]
                refine wpAnyH_ready (rs := [0]) (by kernel_rfl) (by simp) ?_
                refine AllReadyH.cons (o := ?_) ?_ (fun K hK => ?_) AllReadyH.nil
                rotate_left 1
                · (simp only [List.getElem?_toArray, List.getElem?_cons_succ, List.getElem?_cons_zero]; rfl)
                · (go_simp; have hstBZ := (Chg.refl [] VB).alloc (.cells #[] 23); have hnbBZ := new_block VB (.cells #[] 23); have HBBZ := Lib.hid ((hstBZ.block _ (heap_lt HBB.out) (by simp)).trans HBB.out); have HZBZ := Lib.hid hnbBZ; have HCBZ := Lib.hid (HCB.out.trans hstBZ); have HLBZ := Lib.hid (HCB.out.size); clear hnbBZ hstBZ; generalize VB.alloc (.cells #[] 23) = VBZ at *)
                  refine hK.out _ _ ?_ (fun hHeld => ?_)
                  · trivial
                  clear hK K
                  try simp only [Act.put, List.setIfInBounds_toArray, List.set_cons_zero, List.set_cons_succ]
                  refine wpAnyH_ready (rs := [4]) (by kernel_rfl) (by simp) ?_
                  refine AllReadyH.cons (o := ?_) ?_ (fun K hK => ?_) AllReadyH.nil
                  rotate_left 1
                  · (simp only [List.getElem?_toArray, List.getElem?_cons_succ, List.getElem?_cons_zero]; rfl)
                  · (refine step_app (base := w2.heap.size) (xs := []) (news := uVs (l.take jj)) rfl (.tmp 52) (.tmp 55) 47 rfl rfl Try.underlying47 infoX64 (by rfl) (by omega) (by omega) (by simp [Act.eval, Act.put]) (by simp [Act.eval, Act.put]) (own_zero HZBZ.out HLBZ.out) (HS1.out.chg HCBZ.out (by simp)) (by omega) HCBZ.out.size ?_; intro vaBZA VBZA hownBZA hgBZA; rw [Nat.zero_add, List.nil_append] at hownBZA; have hstBZA : Chg [VB.heap.size] VBZ VBZA := (Chg.refl _ VBZ).grown hgBZA (fun k hk => .inl (by rw [← (show VB.heap.size = k from Option.some.inj hk)]; simp)); have HBBZA := Lib.hid ((hstBZA.block _ (heap_lt HBBZ.out) (by simp only [List.mem_singleton]; exact blk_ne HZBZ.out HBBZ.out (by simp))).trans HBBZ.out); have HCBZA := Lib.hid (HCBZ.out.then hstBZA (fun q hq => .inr (by simp only [List.mem_singleton] at hq; rw [hq]; exact HLBZ.out))); have HABZA := Lib.hid hownBZA; clear hownBZA hgBZA hstBZA)
                    refine hK.out _ _ ?_ (fun hHeld => ?_)
                    · trivial
                    clear hK K
                    try simp only [Act.put, List.setIfInBounds_toArray, List.set_cons_zero, List.set_cons_succ]
                    refine wpAnyH_ready (rs := [7]) (by kernel_rfl) (by simp) ?_
                    refine AllReadyH.cons (o := ?_) ?_ (fun K hK => ?_) AllReadyH.nil
                    rotate_left 1
                    · (simp only [List.getElem?_toArray, List.getElem?_cons_succ, List.getElem?_cons_zero]; rfl)
                    · (refine step_app (base := w2.heap.size) (news := [.int .u64 (xv : Int)]) rfl (.tmp 56) (.tmp 58) 47 rfl rfl Try.underlying47 infoX64 (by rfl) (by omega) (by omega) (by simp [Act.eval, Act.put]) (by simp [Act.eval, Act.put]) HABZA.out (AppSrc.blk1 HBBZA.out rfl) (by omega) HCBZA.out.size ?_; intro vaBZAAB VBZAAB hownBZAAB hgBZAAB; have HCBZAAB := Lib.hid (HCBZA.out.grown hgBZAAB (fun k hk => .inr (HABZA.out.lt k hk).1)); obtain ⟨axBZAAB, cxBZAAB, hvxBZAAB, _, _⟩ := ownRow_slice hownBZAAB; subst hvxBZAAB; have HABZAAB := Lib.hid hownBZAAB; clear hownBZAAB hgBZAAB)
                      refine hK.out _ _ ?_ (fun hHeld => ?_)
                      · trivial
                      clear hK K
                      try simp only [Act.put, List.setIfInBounds_toArray, List.set_cons_zero, List.set_cons_succ]
                      refine wpAnyH_ready (rs := [11]) (by kernel_rfl) (by simp) ?_
                      refine AllReadyH.cons (o := ?_) ?_ (fun K hK => ?_) AllReadyH.nil
                      rotate_left 1
                      · (simp only [List.getElem?_toArray, List.getElem?_cons_succ, List.getElem?_cons_zero]; rfl)
                      · (refine step_app (base := w2.heap.size) (news := uVs (l.drop jj)) rfl (.tmp 59) (.tmp 62) 47 rfl rfl Try.underlying47 infoX64 (by rfl) (by omega) (by omega) (by simp [Act.eval, Act.put]) (by simp [Act.eval, Act.put]) HABZAAB.out (HS2.out.chg HCBZAAB.out (by simp)) (by omega) HCBZAAB.out.size ?_; intro vz VZZ hownz hgz; have HCz := Lib.hid (HCBZAAB.out.grown hgz (fun k hk => .inr (HABZAAB.out.lt k hk).1)); rw [show jj + 1 + (len - jj) = len + 1 by omega] at hownz; obtain ⟨axz, cxz, hvxz, _, _⟩ := ownRow_slice hownz; subst hvxz; have HAz := Lib.hid hownz; clear hownz hgz)
                        refine hK.out _ _ ?_ (fun hHeld => ?_)
                        · trivial
                        clear hK K
                        try simp only [Act.put, List.setIfInBounds_toArray, List.set_cons_zero, List.set_cons_succ]
                        refine wpAnyH_take (i := 12) (oi := ?_) (v := ?_) ?_ (by kernel_rfl) (by kernel_rfl) (by kernel_rfl) ?_ (Or.inl ⟨?_, ?_⟩) hHeld ?_
                        rotate_left 2
                        · (simp only [List.getElem?_toArray, List.getElem?_cons_succ, List.getElem?_cons_zero]; rfl)
                        · exact fun _ _ _ h => h
                        · rfl
                        · (rintro W' _; go_simp; first | done | with_reducible rfl)
                        try simp only [Act.put, List.setIfInBounds_toArray, List.set_cons_zero, List.set_cons_succ]
                        refine wpAnyH_done (by kernel_rfl) ?_ _
                        go_wp2_with fail
                        all_goals
                          go_roundg (n - (i + 1))
                          case measure => have := HGG.out; omega
                          case rel => exact ⟨i + 1, l.take jj ++ [xv] ++ l.drop jj, axz, len + 1, cxz, rfl, by omega, by go_num, rfl, ⟨by rw [uVs_app, uVs_app]; exact ownRow_up HAz.out HCH2.out.size, HLN.out.symm, HCH2.out.trans HCz.out, HNEW.out, by rw [HLN.out]; have := HLI.out; have := HLE.out; omega⟩⟩
            · have k1 : ¬ (jj : Int) < (len : Int) := by omega
              obtain rfl : jj = len := by omega
              go_upto_region 10 with fail
              clear k1 d3 d4
              rcases HOW.out.2 with ⟨e1, e2⟩ | ⟨ga, cp, cur, e1, _⟩
              · injection e1 with e1 e3 e4
                subst e1 e4 e2
                have HS1 : Hid (AppSrc w2 1 (.slice none 0 0) 0 (uVs (l.take 0))) := Lib.hid ⟨by simp [uVs], uVs_one _, .inr ⟨0, rfl, rfl⟩⟩
                refine wp_region_held_drew (S := fun _ => True) (by kernel_rfl) (by trivial) (fun hHeld => ?_)
                refine wpAnyH_take (i := 1) (oi := ?_) (v := ?_) ?_ (by kernel_rfl) (by kernel_rfl) (by kernel_rfl) ?_ (Or.inl ⟨?_, ?_⟩) hHeld ?_
                rotate_left 2
                · (simp only [List.getElem?_toArray, List.getElem?_cons_succ, List.getElem?_cons_zero]; rfl)
                · exact fun _ _ _ h => h
                · rfl
                · (rintro W' _; go_simp; first | done | with_reducible rfl)
                try simp only [Act.put, List.setIfInBounds_toArray, List.set_cons_zero, List.set_cons_succ]
                refine wpAnyH_take (i := 2) (oi := ?_) (v := ?_) ?_ (by kernel_rfl) (by kernel_rfl) (by kernel_rfl) ?_ (Or.inl ⟨?_, ?_⟩) hHeld ?_
                rotate_left 2
                · (simp only [List.getElem?_toArray, List.getElem?_cons_succ, List.getElem?_cons_zero]; rfl)
                · exact fun _ _ _ h => h
                · rfl
                · (rintro W' _; go_simp; first | done | with_reducible rfl)
                try simp only [Act.put, List.setIfInBounds_toArray, List.set_cons_zero, List.set_cons_succ]
                refine wpAnyH_take (i := 3) (oi := ?_) (v := ?_) ?_ (by kernel_rfl) (by kernel_rfl) (by kernel_rfl) ?_ (Or.inl ⟨?_, ?_⟩) hHeld ?_
                rotate_left 2
                · (simp only [List.getElem?_toArray, List.getElem?_cons_succ, List.getElem?_cons_zero]; rfl)
                · exact fun _ _ _ h => h
                · rfl
                · (rintro W' _; go_simp; first | done | with_reducible rfl)
                try simp only [Act.put, List.setIfInBounds_toArray, List.set_cons_zero, List.set_cons_succ]
                refine wpAnyH_take (i := 5) (oi := ?_) (v := ?_) ?_ (by kernel_rfl) (by kernel_rfl) (by kernel_rfl) ?_ (Or.inl ⟨?_, ?_⟩) hHeld ?_
                rotate_left 2
                · (simp only [List.getElem?_toArray, List.getElem?_cons_succ, List.getElem?_cons_zero]; rfl)
                · exact fun _ _ _ h => h
                · rfl
                · (rintro W' _; go_simp; first | done | with_reducible rfl)
                try simp only [Act.put, List.setIfInBounds_toArray, List.set_cons_zero, List.set_cons_succ]
                refine wpAnyH_take (i := 8) (oi := ?_) (v := ?_) ?_ (by kernel_rfl) (by kernel_rfl) (by kernel_rfl) ?_ (Or.inl ⟨?_, ?_⟩) hHeld ?_
                rotate_left 2
                · (simp only [List.getElem?_toArray, List.getElem?_cons_succ, List.getElem?_cons_zero]; rfl)
                · exact fun _ _ _ h => h
                · rfl
                · (rintro W' _; go_simp; first | done | with_reducible rfl)
                try simp only [Act.put, List.setIfInBounds_toArray, List.set_cons_zero, List.set_cons_succ]
                refine wpAnyH_take (i := 9) (oi := ?_) (v := ?_) ?_ (by kernel_rfl) (by kernel_rfl) (by kernel_rfl) ?_ (Or.inl ⟨?_, ?_⟩) hHeld ?_
                rotate_left 2
                · (simp only [List.getElem?_toArray, List.getElem?_cons_succ, List.getElem?_cons_zero]; rfl)
                · exact fun _ _ _ h => h
                · rfl
                · (rintro W' _; go_simp; first | done | with_reducible rfl)
                try simp only [Act.put, List.setIfInBounds_toArray, List.set_cons_zero, List.set_cons_succ]
                refine wpAnyH_take (i := 10) (oi := ?_) (v := ?_) ?_ (by kernel_rfl) (by kernel_rfl) (by kernel_rfl) ?_ (Or.inl ⟨?_, ?_⟩) hHeld ?_
                rotate_left 2
                · (simp only [List.getElem?_toArray, List.getElem?_cons_succ, List.getElem?_cons_zero]; rfl)
                · exact fun _ _ _ h => h
                · rfl
                · (rintro W' _; go_simp; first | done | with_reducible rfl)
                try simp only [Act.put, List.setIfInBounds_toArray, List.set_cons_zero, List.set_cons_succ]
                have HS2 : Hid (AppSrc w2 1 (.slice none 0 0) 0 (uVs (l.drop 0))) := Lib.hid ⟨by have := HLE.out; rw [uVs_len, List.length_drop]; omega, uVs_one _, .inr ⟨0, rfl, rfl⟩⟩
                generalize w2.drew = V at *
                refine wpAnyH_ready (rs := [0, 6]) (by kernel_rfl) (by simp) ?_
                refine AllReadyH.cons (o := ?_) ?_ (fun K hK => ?_) ?_
                rotate_left 1
                · (simp only [List.getElem?_toArray, List.getElem?_cons_succ, List.getElem?_cons_zero]; rfl)
                · (go_simp; have hstZ := (Chg.refl [] V).alloc (.cells #[] 23); have hnbZ := new_block V (.cells #[] 23); have HZZ := Lib.hid hnbZ; have HCZ := Lib.hid (HC0.out.trans hstZ); have HLZ := Lib.hid (HC0.out.size); clear hnbZ hstZ; generalize V.alloc (.cells #[] 23) = VZ at *)
                  refine hK.out _ _ ?_ (fun hHeld => ?_)
                  · trivial
                  clear hK K
                  try simp only [Act.put, List.setIfInBounds_toArray, List.set_cons_zero, List.set_cons_succ]
                  refine wpAnyH_ready (rs := [4, 6]) (by kernel_rfl) (by simp) ?_
                  refine AllReadyH.cons (o := ?_) ?_ (fun K hK => ?_) ?_
                  rotate_left 1
                  · (simp only [List.getElem?_toArray, List.getElem?_cons_succ, List.getElem?_cons_zero]; rfl)
                  · (refine step_app (base := w2.heap.size) (xs := []) (news := uVs (l.take 0)) rfl (.tmp 52) (.tmp 55) 47 rfl rfl Try.underlying47 infoX64 (by rfl) (by omega) (by omega) (by simp [Act.eval, Act.put]) (by simp [Act.eval, Act.put]) (own_zero HZZ.out HLZ.out) (HS1.out.chg HCZ.out (by simp)) (by omega) HCZ.out.size ?_; intro vaZA VZA hownZA hgZA; rw [Nat.zero_add, List.nil_append] at hownZA; have hstZA : Chg [V.heap.size] VZ VZA := (Chg.refl _ VZ).grown hgZA (fun k hk => .inl (by rw [← (show V.heap.size = k from Option.some.inj hk)]; simp)); have HCZA := Lib.hid (HCZ.out.then hstZA (fun q hq => .inr (by simp only [List.mem_singleton] at hq; rw [hq]; exact HLZ.out))); have HAZA := Lib.hid hownZA; clear hownZA hgZA hstZA)
                    refine hK.out _ _ ?_ (fun hHeld => ?_)
                    · trivial
                    clear hK K
                    try simp only [Act.put, List.setIfInBounds_toArray, List.set_cons_zero, List.set_cons_succ]
                    refine wpAnyH_ready (rs := [6]) (by kernel_rfl) (by simp) ?_
                    refine AllReadyH.cons (o := ?_) ?_ (fun K hK => ?_) AllReadyH.nil
                    rotate_left 1
                    · (simp only [List.getElem?_toArray, List.getElem?_cons_succ, List.getElem?_cons_zero]; rfl)
                    · (go_simp; have hstZAB := (Chg.refl [] VZA).alloc (.cells #[.int .u64 (xv : Int)] 23); have hnbZAB := new_block VZA (.cells #[.int .u64 (xv : Int)] 23); have HAZAB := Lib.hid (ownRow_chg HAZA.out hstZAB (by simp)); have HBZAB := Lib.hid hnbZAB; have HCZAB := Lib.hid (HCZA.out.trans hstZAB); have HLZAB := Lib.hid (HCZA.out.size); clear hnbZAB hstZAB; generalize VZA.alloc (.cells #[.int .u64 (xv : Int)] 23) = VZAB at *)
                      refine hK.out _ _ ?_ (fun hHeld => ?_)
                      · trivial
                      clear hK K
                      try simp only [Act.put, List.setIfInBounds_toArray, List.set_cons_zero, List.set_cons_succ]
                      refine wpAnyH_ready (rs := [7]) (by kernel_rfl) (by simp) ?_
                      refine AllReadyH.cons (o := ?_) ?_ (fun K hK => ?_) AllReadyH.nil
                      rotate_left 1
                      · (simp only [List.getElem?_toArray, List.getElem?_cons_succ, List.getElem?_cons_zero]; rfl)
                      · (refine step_app (base := w2.heap.size) (news := [.int .u64 (xv : Int)]) rfl (.tmp 56) (.tmp 58) 47 rfl rfl Try.underlying47 infoX64 (by rfl) (by omega) (by omega) (by simp [Act.eval, Act.put]) (by simp [Act.eval, Act.put]) HAZAB.out (AppSrc.blk1 HBZAB.out rfl) (by omega) HCZAB.out.size ?_; intro vaZABAB VZABAB hownZABAB hgZABAB; have HCZABAB := Lib.hid (HCZAB.out.grown hgZABAB (fun k hk => .inr (HAZAB.out.lt k hk).1)); obtain ⟨axZABAB, cxZABAB, hvxZABAB, _, _⟩ := ownRow_slice hownZABAB; subst hvxZABAB; have HAZABAB := Lib.hid hownZABAB; clear hownZABAB hgZABAB)
                        refine hK.out _ _ ?_ (fun hHeld => ?_)
                        · trivial
                        clear hK K
                        try simp only [Act.put, List.setIfInBounds_toArray, List.set_cons_zero, List.set_cons_succ]
                        refine wpAnyH_ready (rs := [11]) (by kernel_rfl) (by simp) ?_
                        refine AllReadyH.cons (o := ?_) ?_ (fun K hK => ?_) AllReadyH.nil
                        rotate_left 1
                        · (simp only [List.getElem?_toArray, List.getElem?_cons_succ, List.getElem?_cons_zero]; rfl)
                        · (refine step_app (base := w2.heap.size) (news := uVs (l.drop 0)) rfl (.tmp 59) (.tmp 62) 47 rfl rfl Try.underlying47 infoX64 (by rfl) (by omega) (by omega) (by simp [Act.eval, Act.put]) (by simp [Act.eval, Act.put]) HAZABAB.out (HS2.out.chg HCZABAB.out (by simp)) (by omega) HCZABAB.out.size ?_; intro vz VZZ hownz hgz; have HCz := Lib.hid (HCZABAB.out.grown hgz (fun k hk => .inr (HAZABAB.out.lt k hk).1)); rw [show 0 + 1 + (0) = 0 + 1 by omega] at hownz; obtain ⟨axz, cxz, hvxz, _, _⟩ := ownRow_slice hownz; subst hvxz; have HAz := Lib.hid hownz; clear hownz hgz)
                          refine hK.out _ _ ?_ (fun hHeld => ?_)
                          · trivial
                          clear hK K
                          try simp only [Act.put, List.setIfInBounds_toArray, List.set_cons_zero, List.set_cons_succ]
                          refine wpAnyH_take (i := 12) (oi := ?_) (v := ?_) ?_ (by kernel_rfl) (by kernel_rfl) (by kernel_rfl) ?_ (Or.inl ⟨?_, ?_⟩) hHeld ?_
                          rotate_left 2
                          · (simp only [List.getElem?_toArray, List.getElem?_cons_succ, List.getElem?_cons_zero]; rfl)
                          · exact fun _ _ _ h => h
                          · rfl
                          · (rintro W' _; go_simp; first | done | with_reducible rfl)
                          try simp only [Act.put, List.setIfInBounds_toArray, List.set_cons_zero, List.set_cons_succ]
                          refine wpAnyH_done (by kernel_rfl) ?_ _
                          go_wp2_with fail
                          all_goals
                            go_roundg (n - (i + 1))
                            case measure => have := HGG.out; omega
                            case rel => exact ⟨i + 1, l.take 0 ++ [xv] ++ l.drop 0, axz, 0 + 1, cxz, rfl, by omega, by go_num, rfl, ⟨by rw [uVs_app, uVs_app]; exact ownRow_up HAz.out HCH2.out.size, HLN.out.symm, HCH2.out.trans HCz.out, HNEW.out, by rw [HLN.out]; have := HLI.out; have := HLE.out; omega⟩⟩
                  refine AllReadyH.cons (o := ?_) ?_ (fun K hK => ?_) AllReadyH.nil
                  rotate_left 1
                  · (simp only [List.getElem?_toArray, List.getElem?_cons_succ, List.getElem?_cons_zero]; rfl)
                  · (go_simp; have hstZB := (Chg.refl [] VZ).alloc (.cells #[.int .u64 (xv : Int)] 23); have hnbZB := new_block VZ (.cells #[.int .u64 (xv : Int)] 23); have HZZB := Lib.hid ((hstZB.block _ (heap_lt HZZ.out) (by simp)).trans HZZ.out); have HBZB := Lib.hid hnbZB; have HCZB := Lib.hid (HCZ.out.trans hstZB); have HLZB := Lib.hid (HCZ.out.size); clear hnbZB hstZB; generalize VZ.alloc (.cells #[.int .u64 (xv : Int)] 23) = VZB at *)
                    refine hK.out _ _ ?_ (fun hHeld => ?_)
                    · trivial
                    clear hK K
                    try simp only [Act.put, List.setIfInBounds_toArray, List.set_cons_zero, List.set_cons_succ]
                    refine wpAnyH_ready (rs := [4]) (by kernel_rfl) (by simp) ?_
                    refine AllReadyH.cons (o := ?_) ?_ (fun K hK => ?_) AllReadyH.nil
                    rotate_left 1
                    · (simp only [List.getElem?_toArray, List.getElem?_cons_succ, List.getElem?_cons_zero]; rfl)
                    · (refine step_app (base := w2.heap.size) (xs := []) (news := uVs (l.take 0)) rfl (.tmp 52) (.tmp 55) 47 rfl rfl Try.underlying47 infoX64 (by rfl) (by omega) (by omega) (by simp [Act.eval, Act.put]) (by simp [Act.eval, Act.put]) (own_zero HZZB.out HLZ.out) (HS1.out.chg HCZB.out (by simp)) (by omega) HCZB.out.size ?_; intro vaZBA VZBA hownZBA hgZBA; rw [Nat.zero_add, List.nil_append] at hownZBA; have hstZBA : Chg [V.heap.size] VZB VZBA := (Chg.refl _ VZB).grown hgZBA (fun k hk => .inl (by rw [← (show V.heap.size = k from Option.some.inj hk)]; simp)); have HBZBA := Lib.hid ((hstZBA.block _ (heap_lt HBZB.out) (by simp only [List.mem_singleton]; exact blk_ne HZZB.out HBZB.out (by simp))).trans HBZB.out); have HCZBA := Lib.hid (HCZB.out.then hstZBA (fun q hq => .inr (by simp only [List.mem_singleton] at hq; rw [hq]; exact HLZ.out))); have HAZBA := Lib.hid hownZBA; clear hownZBA hgZBA hstZBA)
                      refine hK.out _ _ ?_ (fun hHeld => ?_)
                      · trivial
                      clear hK K
                      try simp only [Act.put, List.setIfInBounds_toArray, List.set_cons_zero, List.set_cons_succ]
                      refine wpAnyH_ready (rs := [7]) (by kernel_rfl) (by simp) ?_
                      refine AllReadyH.cons (o := ?_) ?_ (fun K hK => ?_) AllReadyH.nil
                      rotate_left 1
                      · (simp only [List.getElem?_toArray, List.getElem?_cons_succ, List.getElem?_cons_zero]; rfl)
                      · (refine step_app (base := w2.heap.size) (news := [.int .u64 (xv : Int)]) rfl (.tmp 56) (.tmp 58) 47 rfl rfl Try.underlying47 infoX64 (by rfl) (by omega) (by omega) (by simp [Act.eval, Act.put]) (by simp [Act.eval, Act.put]) HAZBA.out (AppSrc.blk1 HBZBA.out rfl) (by omega) HCZBA.out.size ?_; intro vaZBAAB VZBAAB hownZBAAB hgZBAAB; have HCZBAAB := Lib.hid (HCZBA.out.grown hgZBAAB (fun k hk => .inr (HAZBA.out.lt k hk).1)); obtain ⟨axZBAAB, cxZBAAB, hvxZBAAB, _, _⟩ := ownRow_slice hownZBAAB; subst hvxZBAAB; have HAZBAAB := Lib.hid hownZBAAB; clear hownZBAAB hgZBAAB)
                        refine hK.out _ _ ?_ (fun hHeld => ?_)
                        · trivial
                        clear hK K
                        try simp only [Act.put, List.setIfInBounds_toArray, List.set_cons_zero, List.set_cons_succ]
                        refine wpAnyH_ready (rs := [11]) (by kernel_rfl) (by simp) ?_
                        refine AllReadyH.cons (o := ?_) ?_ (fun K hK => ?_) AllReadyH.nil
                        rotate_left 1
                        · (simp only [List.getElem?_toArray, List.getElem?_cons_succ, List.getElem?_cons_zero]; rfl)
                        · (refine step_app (base := w2.heap.size) (news := uVs (l.drop 0)) rfl (.tmp 59) (.tmp 62) 47 rfl rfl Try.underlying47 infoX64 (by rfl) (by omega) (by omega) (by simp [Act.eval, Act.put]) (by simp [Act.eval, Act.put]) HAZBAAB.out (HS2.out.chg HCZBAAB.out (by simp)) (by omega) HCZBAAB.out.size ?_; intro vz VZZ hownz hgz; have HCz := Lib.hid (HCZBAAB.out.grown hgz (fun k hk => .inr (HAZBAAB.out.lt k hk).1)); rw [show 0 + 1 + (0) = 0 + 1 by omega] at hownz; obtain ⟨axz, cxz, hvxz, _, _⟩ := ownRow_slice hownz; subst hvxz; have HAz := Lib.hid hownz; clear hownz hgz)
                          refine hK.out _ _ ?_ (fun hHeld => ?_)
                          · trivial
                          clear hK K
                          try simp only [Act.put, List.setIfInBounds_toArray, List.set_cons_zero, List.set_cons_succ]
                          refine wpAnyH_take (i := 12) (oi := ?_) (v := ?_) ?_ (by kernel_rfl) (by kernel_rfl) (by kernel_rfl) ?_ (Or.inl ⟨?_, ?_⟩) hHeld ?_
                          rotate_left 2
                          · (simp only [List.getElem?_toArray, List.getElem?_cons_succ, List.getElem?_cons_zero]; rfl)
                          · exact fun _ _ _ h => h
                          · rfl
                          · (rintro W' _; go_simp; first | done | with_reducible rfl)
                          try simp only [Act.put, List.setIfInBounds_toArray, List.set_cons_zero, List.set_cons_succ]
                          refine wpAnyH_done (by kernel_rfl) ?_ _
                          go_wp2_with fail
                          all_goals
                            go_roundg (n - (i + 1))
                            case measure => have := HGG.out; omega
                            case rel => exact ⟨i + 1, l.take 0 ++ [xv] ++ l.drop 0, axz, 0 + 1, cxz, rfl, by omega, by go_num, rfl, ⟨by rw [uVs_app, uVs_app]; exact ownRow_up HAz.out HCH2.out.size, HLN.out.symm, HCH2.out.trans HCz.out, HNEW.out, by rw [HLN.out]; have := HLI.out; have := HLE.out; omega⟩⟩
                refine AllReadyH.cons (o := ?_) ?_ (fun K hK => ?_) AllReadyH.nil
                rotate_left 1
                · (simp only [List.getElem?_toArray, List.getElem?_cons_succ, List.getElem?_cons_zero]; rfl)
                · (go_simp; have hstB := (Chg.refl [] V).alloc (.cells #[.int .u64 (xv : Int)] 23); have hnbB := new_block V (.cells #[.int .u64 (xv : Int)] 23); have HBB := Lib.hid hnbB; have HCB := Lib.hid (HC0.out.trans hstB); have HLB := Lib.hid (HC0.out.size); clear hnbB hstB; generalize V.alloc (.cells #[.int .u64 (xv : Int)] 23) = VB at *)
                  refine hK.out _ _ ?_ (fun hHeld => ?_)
                  · trivial
                  clear hK K
                  try simp only [Act.put, List.setIfInBounds_toArray, List.set_cons_zero, List.set_cons_succ]
                  refine wpAnyH_ready (rs := [0]) (by kernel_rfl) (by simp) ?_
                  refine AllReadyH.cons (o := ?_) ?_ (fun K hK => ?_) AllReadyH.nil
                  rotate_left 1
                  · (simp only [List.getElem?_toArray, List.getElem?_cons_succ, List.getElem?_cons_zero]; rfl)
                  · (go_simp; have hstBZ := (Chg.refl [] VB).alloc (.cells #[] 23); have hnbBZ := new_block VB (.cells #[] 23); have HBBZ := Lib.hid ((hstBZ.block _ (heap_lt HBB.out) (by simp)).trans HBB.out); have HZBZ := Lib.hid hnbBZ; have HCBZ := Lib.hid (HCB.out.trans hstBZ); have HLBZ := Lib.hid (HCB.out.size); clear hnbBZ hstBZ; generalize VB.alloc (.cells #[] 23) = VBZ at *)
                    refine hK.out _ _ ?_ (fun hHeld => ?_)
                    · trivial
                    clear hK K
                    try simp only [Act.put, List.setIfInBounds_toArray, List.set_cons_zero, List.set_cons_succ]
                    refine wpAnyH_ready (rs := [4]) (by kernel_rfl) (by simp) ?_
                    refine AllReadyH.cons (o := ?_) ?_ (fun K hK => ?_) AllReadyH.nil
                    rotate_left 1
                    · (simp only [List.getElem?_toArray, List.getElem?_cons_succ, List.getElem?_cons_zero]; rfl)
                    · (refine step_app (base := w2.heap.size) (xs := []) (news := uVs (l.take 0)) rfl (.tmp 52) (.tmp 55) 47 rfl rfl Try.underlying47 infoX64 (by rfl) (by omega) (by omega) (by simp [Act.eval, Act.put]) (by simp [Act.eval, Act.put]) (own_zero HZBZ.out HLBZ.out) (HS1.out.chg HCBZ.out (by simp)) (by omega) HCBZ.out.size ?_; intro vaBZA VBZA hownBZA hgBZA; rw [Nat.zero_add, List.nil_append] at hownBZA; have hstBZA : Chg [VB.heap.size] VBZ VBZA := (Chg.refl _ VBZ).grown hgBZA (fun k hk => .inl (by rw [← (show VB.heap.size = k from Option.some.inj hk)]; simp)); have HBBZA := Lib.hid ((hstBZA.block _ (heap_lt HBBZ.out) (by simp only [List.mem_singleton]; exact blk_ne HZBZ.out HBBZ.out (by simp))).trans HBBZ.out); have HCBZA := Lib.hid (HCBZ.out.then hstBZA (fun q hq => .inr (by simp only [List.mem_singleton] at hq; rw [hq]; exact HLBZ.out))); have HABZA := Lib.hid hownBZA; clear hownBZA hgBZA hstBZA)
                      refine hK.out _ _ ?_ (fun hHeld => ?_)
                      · trivial
                      clear hK K
                      try simp only [Act.put, List.setIfInBounds_toArray, List.set_cons_zero, List.set_cons_succ]
                      refine wpAnyH_ready (rs := [7]) (by kernel_rfl) (by simp) ?_
                      refine AllReadyH.cons (o := ?_) ?_ (fun K hK => ?_) AllReadyH.nil
                      rotate_left 1
                      · (simp only [List.getElem?_toArray, List.getElem?_cons_succ, List.getElem?_cons_zero]; rfl)
                      · (refine step_app (base := w2.heap.size) (news := [.int .u64 (xv : Int)]) rfl (.tmp 56) (.tmp 58) 47 rfl rfl Try.underlying47 infoX64 (by rfl) (by omega) (by omega) (by simp [Act.eval, Act.put]) (by simp [Act.eval, Act.put]) HABZA.out (AppSrc.blk1 HBBZA.out rfl) (by omega) HCBZA.out.size ?_; intro vaBZAAB VBZAAB hownBZAAB hgBZAAB; have HCBZAAB := Lib.hid (HCBZA.out.grown hgBZAAB (fun k hk => .inr (HABZA.out.lt k hk).1)); obtain ⟨axBZAAB, cxBZAAB, hvxBZAAB, _, _⟩ := ownRow_slice hownBZAAB; subst hvxBZAAB; have HABZAAB := Lib.hid hownBZAAB; clear hownBZAAB hgBZAAB)
                        refine hK.out _ _ ?_ (fun hHeld => ?_)
                        · trivial
                        clear hK K
                        try simp only [Act.put, List.setIfInBounds_toArray, List.set_cons_zero, List.set_cons_succ]
                        refine wpAnyH_ready (rs := [11]) (by kernel_rfl) (by simp) ?_
                        refine AllReadyH.cons (o := ?_) ?_ (fun K hK => ?_) AllReadyH.nil
                        rotate_left 1
                        · (simp only [List.getElem?_toArray, List.getElem?_cons_succ, List.getElem?_cons_zero]; rfl)
                        · (refine step_app (base := w2.heap.size) (news := uVs (l.drop 0)) rfl (.tmp 59) (.tmp 62) 47 rfl rfl Try.underlying47 infoX64 (by rfl) (by omega) (by omega) (by simp [Act.eval, Act.put]) (by simp [Act.eval, Act.put]) HABZAAB.out (HS2.out.chg HCBZAAB.out (by simp)) (by omega) HCBZAAB.out.size ?_; intro vz VZZ hownz hgz; have HCz := Lib.hid (HCBZAAB.out.grown hgz (fun k hk => .inr (HABZAAB.out.lt k hk).1)); rw [show 0 + 1 + (0) = 0 + 1 by omega] at hownz; obtain ⟨axz, cxz, hvxz, _, _⟩ := ownRow_slice hownz; subst hvxz; have HAz := Lib.hid hownz; clear hownz hgz)
                          refine hK.out _ _ ?_ (fun hHeld => ?_)
                          · trivial
                          clear hK K
                          try simp only [Act.put, List.setIfInBounds_toArray, List.set_cons_zero, List.set_cons_succ]
                          refine wpAnyH_take (i := 12) (oi := ?_) (v := ?_) ?_ (by kernel_rfl) (by kernel_rfl) (by kernel_rfl) ?_ (Or.inl ⟨?_, ?_⟩) hHeld ?_
                          rotate_left 2
                          · (simp only [List.getElem?_toArray, List.getElem?_cons_succ, List.getElem?_cons_zero]; rfl)
                          · exact fun _ _ _ h => h
                          · rfl
                          · (rintro W' _; go_simp; first | done | with_reducible rfl)
                          try simp only [Act.put, List.setIfInBounds_toArray, List.set_cons_zero, List.set_cons_succ]
                          refine wpAnyH_done (by kernel_rfl) ?_ _
                          go_wp2_with fail
                          all_goals
                            go_roundg (n - (i + 1))
                            case measure => have := HGG.out; omega
                            case rel => exact ⟨i + 1, l.take 0 ++ [xv] ++ l.drop 0, axz, 0 + 1, cxz, rfl, by omega, by go_num, rfl, ⟨by rw [uVs_app, uVs_app]; exact ownRow_up HAz.out HCH2.out.size, HLN.out.symm, HCH2.out.trans HCz.out, HNEW.out, by rw [HLN.out]; have := HLI.out; have := HLE.out; omega⟩⟩
              · injection e1 with e1 _ e4
                subst e1 e4
                have hcp : jj ≤ c := by
                  obtain ⟨_, _, e, h1, _⟩ := ownRow_slice HOW.out
                  injection e with _ _ e
                  rw [e]; exact h1
                have k5 : (jj : Int) ≤ (c : Int) := by omega
                have k6 : ¬ (c : Int) < (jj : Int) := by omega
                refine wp_region_held_drew (S := fun _ => True) (by kernel_rfl) (by trivial) (fun hHeld => ?_)
                refine wpAnyH_take (i := 1) (oi := ?_) (v := ?_) ?_ (by kernel_rfl) (by kernel_rfl) (by kernel_rfl) ?_ (Or.inl ⟨?_, ?_⟩) hHeld ?_
                rotate_left 2
                · (simp only [List.getElem?_toArray, List.getElem?_cons_succ, List.getElem?_cons_zero]; rfl)
                · exact fun _ _ _ h => h
                · rfl
                · (rintro W' _; go_simp; first | done | with_reducible rfl)
                try simp only [Act.put, List.setIfInBounds_toArray, List.set_cons_zero, List.set_cons_succ]
                refine wpAnyH_take (i := 2) (oi := ?_) (v := ?_) ?_ (by kernel_rfl) (by kernel_rfl) (by kernel_rfl) ?_ (Or.inl ⟨?_, ?_⟩) hHeld ?_
                rotate_left 2
                · (simp only [List.getElem?_toArray, List.getElem?_cons_succ, List.getElem?_cons_zero]; rfl)
                · exact fun _ _ _ h => h
                · rfl
                · (rintro W' _; go_simp; first | done | with_reducible rfl)
                try simp only [Act.put, List.setIfInBounds_toArray, List.set_cons_zero, List.set_cons_succ]
                refine wpAnyH_take (i := 3) (oi := ?_) (v := ?_) ?_ (by kernel_rfl) (by kernel_rfl) (by kernel_rfl) ?_ (Or.inl ⟨?_, ?_⟩) hHeld ?_
                rotate_left 2
                · (simp only [List.getElem?_toArray, List.getElem?_cons_succ, List.getElem?_cons_zero]; rfl)
                · exact fun _ _ _ h => h
                · rfl
                · (rintro W' _; go_simp; first | done | with_reducible rfl)
                try simp only [Act.put, List.setIfInBounds_toArray, List.set_cons_zero, List.set_cons_succ]
                refine wpAnyH_take (i := 5) (oi := ?_) (v := ?_) ?_ (by kernel_rfl) (by kernel_rfl) (by kernel_rfl) ?_ (Or.inl ⟨?_, ?_⟩) hHeld ?_
                rotate_left 2
                · (simp only [List.getElem?_toArray, List.getElem?_cons_succ, List.getElem?_cons_zero]; rfl)
                · exact fun _ _ _ h => h
                · rfl
                · (rintro W' _; go_simp; first | done | with_reducible rfl)
                try simp only [Act.put, List.setIfInBounds_toArray, List.set_cons_zero, List.set_cons_succ]
                refine wpAnyH_take (i := 8) (oi := ?_) (v := ?_) ?_ (by kernel_rfl) (by kernel_rfl) (by kernel_rfl) ?_ (Or.inl ⟨?_, ?_⟩) hHeld ?_
                rotate_left 2
                · (simp only [List.getElem?_toArray, List.getElem?_cons_succ, List.getElem?_cons_zero]; rfl)
                · exact fun _ _ _ h => h
                · rfl
                · (rintro W' _; go_simp; first | done | with_reducible rfl)
                try simp only [Act.put, List.setIfInBounds_toArray, List.set_cons_zero, List.set_cons_succ]
                refine wpAnyH_take (i := 9) (oi := ?_) (v := ?_) ?_ (by kernel_rfl) (by kernel_rfl) (by kernel_rfl) ?_ (Or.inl ⟨?_, ?_⟩) hHeld ?_
                rotate_left 2
                · (simp only [List.getElem?_toArray, List.getElem?_cons_succ, List.getElem?_cons_zero]; rfl)
                · exact fun _ _ _ h => h
                · rfl
                · (rintro W' _; go_simp; first | done | with_reducible rfl)
                try simp only [Act.put, List.setIfInBounds_toArray, List.set_cons_zero, List.set_cons_succ]
                refine wpAnyH_take (i := 10) (oi := ?_) (v := ?_) ?_ (by kernel_rfl) (by kernel_rfl) (by kernel_rfl) ?_ (Or.inl ⟨?_, ?_⟩) hHeld ?_
                rotate_left 2
                · (simp only [List.getElem?_toArray, List.getElem?_cons_succ, List.getElem?_cons_zero]; rfl)
                · exact fun _ _ _ h => h
                · rfl
                · (rintro W' _; go_simp; first | done | with_reducible rfl)
                try simp only [Act.put, List.setIfInBounds_toArray, List.set_cons_zero, List.set_cons_succ]
                have HS1 : Hid (AppSrc w2 1 (.slice (some ⟨ga, 0, none⟩) jj c) jj (uVs (l.take jj))) := Lib.hid (src_take HOW2.out HLE.out (by omega))
                have HS2 : Hid (AppSrc w2 1 (.slice (if c = jj then some ⟨ga, 0, none⟩ else some ⟨ga, jj, none⟩) (jj - jj) (c - jj)) (jj - jj) (uVs (l.drop jj))) := Lib.hid (src_dropc HOW2.out HLE.out (by omega) (by omega))
                generalize w2.drew = V at *
                refine wpAnyH_ready (rs := [0, 6]) (by kernel_rfl) (by simp) ?_
                refine AllReadyH.cons (o := ?_) ?_ (fun K hK => ?_) ?_
                rotate_left 1
                · (simp only [List.getElem?_toArray, List.getElem?_cons_succ, List.getElem?_cons_zero]; rfl)
                · (go_simp; have hstZ := (Chg.refl [] V).alloc (.cells #[] 23); have hnbZ := new_block V (.cells #[] 23); have HZZ := Lib.hid hnbZ; have HCZ := Lib.hid (HC0.out.trans hstZ); have HLZ := Lib.hid (HC0.out.size); clear hnbZ hstZ; generalize V.alloc (.cells #[] 23) = VZ at *)
                  refine hK.out _ _ ?_ (fun hHeld => ?_)
                  · trivial
                  clear hK K
                  try simp only [Act.put, List.setIfInBounds_toArray, List.set_cons_zero, List.set_cons_succ]
                  refine wpAnyH_ready (rs := [4, 6]) (by kernel_rfl) (by simp) ?_
                  refine AllReadyH.cons (o := ?_) ?_ (fun K hK => ?_) ?_
                  rotate_left 1
                  · (simp only [List.getElem?_toArray, List.getElem?_cons_succ, List.getElem?_cons_zero]; rfl)
                  · (refine step_app (base := w2.heap.size) (xs := []) (news := uVs (l.take jj)) rfl (.tmp 52) (.tmp 55) 47 rfl rfl Try.underlying47 infoX64 (by rfl) (by omega) (by omega) (by simp [Act.eval, Act.put]) (by simp [Act.eval, Act.put]) (own_zero HZZ.out HLZ.out) (HS1.out.chg HCZ.out (by simp)) (by omega) HCZ.out.size ?_; intro vaZA VZA hownZA hgZA; rw [Nat.zero_add, List.nil_append] at hownZA; have hstZA : Chg [V.heap.size] VZ VZA := (Chg.refl _ VZ).grown hgZA (fun k hk => .inl (by rw [← (show V.heap.size = k from Option.some.inj hk)]; simp)); have HCZA := Lib.hid (HCZ.out.then hstZA (fun q hq => .inr (by simp only [List.mem_singleton] at hq; rw [hq]; exact HLZ.out))); have HAZA := Lib.hid hownZA; clear hownZA hgZA hstZA)
                    refine hK.out _ _ ?_ (fun hHeld => ?_)
                    · trivial
                    clear hK K
                    try simp only [Act.put, List.setIfInBounds_toArray, List.set_cons_zero, List.set_cons_succ]
                    refine wpAnyH_ready (rs := [6]) (by kernel_rfl) (by simp) ?_
                    refine AllReadyH.cons (o := ?_) ?_ (fun K hK => ?_) AllReadyH.nil
                    rotate_left 1
                    · (simp only [List.getElem?_toArray, List.getElem?_cons_succ, List.getElem?_cons_zero]; rfl)
                    · (go_simp; have hstZAB := (Chg.refl [] VZA).alloc (.cells #[.int .u64 (xv : Int)] 23); have hnbZAB := new_block VZA (.cells #[.int .u64 (xv : Int)] 23); have HAZAB := Lib.hid (ownRow_chg HAZA.out hstZAB (by simp)); have HBZAB := Lib.hid hnbZAB; have HCZAB := Lib.hid (HCZA.out.trans hstZAB); have HLZAB := Lib.hid (HCZA.out.size); clear hnbZAB hstZAB; generalize VZA.alloc (.cells #[.int .u64 (xv : Int)] 23) = VZAB at *)
                      refine hK.out _ _ ?_ (fun hHeld => ?_)
                      · trivial
                      clear hK K
                      try simp only [Act.put, List.setIfInBounds_toArray, List.set_cons_zero, List.set_cons_succ]
                      refine wpAnyH_ready (rs := [7]) (by kernel_rfl) (by simp) ?_
                      refine AllReadyH.cons (o := ?_) ?_ (fun K hK => ?_) AllReadyH.nil
                      rotate_left 1
                      · (simp only [List.getElem?_toArray, List.getElem?_cons_succ, List.getElem?_cons_zero]; rfl)
                      · (refine step_app (base := w2.heap.size) (news := [.int .u64 (xv : Int)]) rfl (.tmp 56) (.tmp 58) 47 rfl rfl Try.underlying47 infoX64 (by rfl) (by omega) (by omega) (by simp [Act.eval, Act.put]) (by simp [Act.eval, Act.put]) HAZAB.out (AppSrc.blk1 HBZAB.out rfl) (by omega) HCZAB.out.size ?_; intro vaZABAB VZABAB hownZABAB hgZABAB; have HCZABAB := Lib.hid (HCZAB.out.grown hgZABAB (fun k hk => .inr (HAZAB.out.lt k hk).1)); obtain ⟨axZABAB, cxZABAB, hvxZABAB, _, _⟩ := ownRow_slice hownZABAB; subst hvxZABAB; have HAZABAB := Lib.hid hownZABAB; clear hownZABAB hgZABAB)
                        refine hK.out _ _ ?_ (fun hHeld => ?_)
                        · trivial
                        clear hK K
                        try simp only [Act.put, List.setIfInBounds_toArray, List.set_cons_zero, List.set_cons_succ]
                        refine wpAnyH_ready (rs := [11]) (by kernel_rfl) (by simp) ?_
                        refine AllReadyH.cons (o := ?_) ?_ (fun K hK => ?_) AllReadyH.nil
                        rotate_left 1
                        · (simp only [List.getElem?_toArray, List.getElem?_cons_succ, List.getElem?_cons_zero]; rfl)
                        · (refine step_app (base := w2.heap.size) (news := uVs (l.drop jj)) rfl (.tmp 59) (.tmp 62) 47 rfl rfl Try.underlying47 infoX64 (by rfl) (by omega) (by omega) (by simp [Act.eval, Act.put]) (by simp [Act.eval, Act.put]) HAZABAB.out (HS2.out.chg HCZABAB.out (by simp)) (by omega) HCZABAB.out.size ?_; intro vz VZZ hownz hgz; have HCz := Lib.hid (HCZABAB.out.grown hgz (fun k hk => .inr (HAZABAB.out.lt k hk).1)); rw [show jj + 1 + (jj - jj) = jj + 1 by omega] at hownz; obtain ⟨axz, cxz, hvxz, _, _⟩ := ownRow_slice hownz; subst hvxz; have HAz := Lib.hid hownz; clear hownz hgz)
                          refine hK.out _ _ ?_ (fun hHeld => ?_)
                          · trivial
                          clear hK K
                          try simp only [Act.put, List.setIfInBounds_toArray, List.set_cons_zero, List.set_cons_succ]
                          refine wpAnyH_take (i := 12) (oi := ?_) (v := ?_) ?_ (by kernel_rfl) (by kernel_rfl) (by kernel_rfl) ?_ (Or.inl ⟨?_, ?_⟩) hHeld ?_
                          rotate_left 2
                          · (simp only [List.getElem?_toArray, List.getElem?_cons_succ, List.getElem?_cons_zero]; rfl)
                          · exact fun _ _ _ h => h
                          · rfl
                          · (rintro W' _; go_simp; first | done | with_reducible rfl)
                          try simp only [Act.put, List.setIfInBounds_toArray, List.set_cons_zero, List.set_cons_succ]
                          refine wpAnyH_done (by kernel_rfl) ?_ _
                          go_wp2_with fail
                          all_goals
                            go_roundg (n - (i + 1))
                            case measure => have := HGG.out; omega
                            case rel => exact ⟨i + 1, l.take jj ++ [xv] ++ l.drop jj, axz, jj + 1, cxz, rfl, by omega, by go_num, rfl, ⟨by rw [uVs_app, uVs_app]; exact ownRow_up HAz.out HCH2.out.size, HLN.out.symm, HCH2.out.trans HCz.out, HNEW.out, by rw [HLN.out]; have := HLI.out; have := HLE.out; omega⟩⟩
                  refine AllReadyH.cons (o := ?_) ?_ (fun K hK => ?_) AllReadyH.nil
                  rotate_left 1
                  · (simp only [List.getElem?_toArray, List.getElem?_cons_succ, List.getElem?_cons_zero]; rfl)
                  · (go_simp; have hstZB := (Chg.refl [] VZ).alloc (.cells #[.int .u64 (xv : Int)] 23); have hnbZB := new_block VZ (.cells #[.int .u64 (xv : Int)] 23); have HZZB := Lib.hid ((hstZB.block _ (heap_lt HZZ.out) (by simp)).trans HZZ.out); have HBZB := Lib.hid hnbZB; have HCZB := Lib.hid (HCZ.out.trans hstZB); have HLZB := Lib.hid (HCZ.out.size); clear hnbZB hstZB; generalize VZ.alloc (.cells #[.int .u64 (xv : Int)] 23) = VZB at *)
                    refine hK.out _ _ ?_ (fun hHeld => ?_)
                    · trivial
                    clear hK K
                    try simp only [Act.put, List.setIfInBounds_toArray, List.set_cons_zero, List.set_cons_succ]
                    refine wpAnyH_ready (rs := [4]) (by kernel_rfl) (by simp) ?_
                    refine AllReadyH.cons (o := ?_) ?_ (fun K hK => ?_) AllReadyH.nil
                    rotate_left 1
                    · (simp only [List.getElem?_toArray, List.getElem?_cons_succ, List.getElem?_cons_zero]; rfl)
                    · (refine step_app (base := w2.heap.size) (xs := []) (news := uVs (l.take jj)) rfl (.tmp 52) (.tmp 55) 47 rfl rfl Try.underlying47 infoX64 (by rfl) (by omega) (by omega) (by simp [Act.eval, Act.put]) (by simp [Act.eval, Act.put]) (own_zero HZZB.out HLZ.out) (HS1.out.chg HCZB.out (by simp)) (by omega) HCZB.out.size ?_; intro vaZBA VZBA hownZBA hgZBA; rw [Nat.zero_add, List.nil_append] at hownZBA; have hstZBA : Chg [V.heap.size] VZB VZBA := (Chg.refl _ VZB).grown hgZBA (fun k hk => .inl (by rw [← (show V.heap.size = k from Option.some.inj hk)]; simp)); have HBZBA := Lib.hid ((hstZBA.block _ (heap_lt HBZB.out) (by simp only [List.mem_singleton]; exact blk_ne HZZB.out HBZB.out (by simp))).trans HBZB.out); have HCZBA := Lib.hid (HCZB.out.then hstZBA (fun q hq => .inr (by simp only [List.mem_singleton] at hq; rw [hq]; exact HLZ.out))); have HAZBA := Lib.hid hownZBA; clear hownZBA hgZBA hstZBA)
                      refine hK.out _ _ ?_ (fun hHeld => ?_)
                      · trivial
                      clear hK K
                      try simp only [Act.put, List.setIfInBounds_toArray, List.set_cons_zero, List.set_cons_succ]
                      refine wpAnyH_ready (rs := [7]) (by kernel_rfl) (by simp) ?_
                      refine AllReadyH.cons (o := ?_) ?_ (fun K hK => ?_) AllReadyH.nil
                      rotate_left 1
                      · (simp only [List.getElem?_toArray, List.getElem?_cons_succ, List.getElem?_cons_zero]; rfl)
                      · (refine step_app (base := w2.heap.size) (news := [.int .u64 (xv : Int)]) rfl (.tmp 56) (.tmp 58) 47 rfl rfl Try.underlying47 infoX64 (by rfl) (by omega) (by omega) (by simp [Act.eval, Act.put]) (by simp [Act.eval, Act.put]) HAZBA.out (AppSrc.blk1 HBZBA.out rfl) (by omega) HCZBA.out.size ?_; intro vaZBAAB VZBAAB hownZBAAB hgZBAAB; have HCZBAAB := Lib.hid (HCZBA.out.grown hgZBAAB (fun k hk => .inr (HAZBA.out.lt k hk).1)); obtain ⟨axZBAAB, cxZBAAB, hvxZBAAB, _, _⟩ := ownRow_slice hownZBAAB; subst hvxZBAAB; have HAZBAAB := Lib.hid hownZBAAB; clear hownZBAAB hgZBAAB)
                        refine hK.out _ _ ?_ (fun hHeld => ?_)
                        · trivial
                        clear hK K
                        try simp only [Act.put, List.setIfInBounds_toArray, List.set_cons_zero, List.set_cons_succ]
                        refine wpAnyH_ready (rs := [11]) (by kernel_rfl) (by simp) ?_
                        refine AllReadyH.cons (o := ?_) ?_ (fun K hK => ?_) AllReadyH.nil
                        rotate_left 1
                        · (simp only [List.getElem?_toArray, List.getElem?_cons_succ, List.getElem?_cons_zero]; rfl)
                        · (refine step_app (base := w2.heap.size) (news := uVs (l.drop jj)) rfl (.tmp 59) (.tmp 62) 47 rfl rfl Try.underlying47 infoX64 (by rfl) (by omega) (by omega) (by simp [Act.eval, Act.put]) (by simp [Act.eval, Act.put]) HAZBAAB.out (HS2.out.chg HCZBAAB.out (by simp)) (by omega) HCZBAAB.out.size ?_; intro vz VZZ hownz hgz; have HCz := Lib.hid (HCZBAAB.out.grown hgz (fun k hk => .inr (HAZBAAB.out.lt k hk).1)); rw [show jj + 1 + (jj - jj) = jj + 1 by omega] at hownz; obtain ⟨axz, cxz, hvxz, _, _⟩ := ownRow_slice hownz; subst hvxz; have HAz := Lib.hid hownz; clear hownz hgz)
                          refine hK.out _ _ ?_ (fun hHeld => ?_)
                          · trivial
                          clear hK K
                          try simp only [Act.put, List.setIfInBounds_toArray, List.set_cons_zero, List.set_cons_succ]
                          refine wpAnyH_take (i := 12) (oi := ?_) (v := ?_) ?_ (by kernel_rfl) (by kernel_rfl) (by kernel_rfl) ?_ (Or.inl ⟨?_, ?_⟩) hHeld ?_
                          rotate_left 2
                          · (simp only [List.getElem?_toArray, List.getElem?_cons_succ, List.getElem?_cons_zero]; rfl)
                          · exact fun _ _ _ h => h
                          · rfl
                          · (rintro W' _; go_simp; first | done | with_reducible rfl)
                          try simp only [Act.put, List.setIfInBounds_toArray, List.set_cons_zero, List.set_cons_succ]
                          refine wpAnyH_done (by kernel_rfl) ?_ _
                          go_wp2_with fail
                          all_goals
                            go_roundg (n - (i + 1))
                            case measure => have := HGG.out; omega
                            case rel => exact ⟨i + 1, l.take jj ++ [xv] ++ l.drop jj, axz, jj + 1, cxz, rfl, by omega, by go_num, rfl, ⟨by rw [uVs_app, uVs_app]; exact ownRow_up HAz.out HCH2.out.size, HLN.out.symm, HCH2.out.trans HCz.out, HNEW.out, by rw [HLN.out]; have := HLI.out; have := HLE.out; omega⟩⟩
                refine AllReadyH.cons (o := ?_) ?_ (fun K hK => ?_) AllReadyH.nil
                rotate_left 1
                · (simp only [List.getElem?_toArray, List.getElem?_cons_succ, List.getElem?_cons_zero]; rfl)
                · (go_simp; have hstB := (Chg.refl [] V).alloc (.cells #[.int .u64 (xv : Int)] 23); have hnbB := new_block V (.cells #[.int .u64 (xv : Int)] 23); have HBB := Lib.hid hnbB; have HCB := Lib.hid (HC0.out.trans hstB); have HLB := Lib.hid (HC0.out.size); clear hnbB hstB; generalize V.alloc (.cells #[.int .u64 (xv : Int)] 23) = VB at *)
                  refine hK.out _ _ ?_ (fun hHeld => ?_)
                  · trivial
                  clear hK K
                  try simp only [Act.put, List.setIfInBounds_toArray, List.set_cons_zero, List.set_cons_succ]
                  refine wpAnyH_ready (rs := [0]) (by kernel_rfl) (by simp) ?_
                  refine AllReadyH.cons (o := ?_) ?_ (fun K hK => ?_) AllReadyH.nil
                  rotate_left 1
                  · (simp only [List.getElem?_toArray, List.getElem?_cons_succ, List.getElem?_cons_zero]; rfl)
                  · (go_simp; have hstBZ := (Chg.refl [] VB).alloc (.cells #[] 23); have hnbBZ := new_block VB (.cells #[] 23); have HBBZ := Lib.hid ((hstBZ.block _ (heap_lt HBB.out) (by simp)).trans HBB.out); have HZBZ := Lib.hid hnbBZ; have HCBZ := Lib.hid (HCB.out.trans hstBZ); have HLBZ := Lib.hid (HCB.out.size); clear hnbBZ hstBZ; generalize VB.alloc (.cells #[] 23) = VBZ at *)
                    refine hK.out _ _ ?_ (fun hHeld => ?_)
                    · trivial
                    clear hK K
                    try simp only [Act.put, List.setIfInBounds_toArray, List.set_cons_zero, List.set_cons_succ]
                    refine wpAnyH_ready (rs := [4]) (by kernel_rfl) (by simp) ?_
                    refine AllReadyH.cons (o := ?_) ?_ (fun K hK => ?_) AllReadyH.nil
                    rotate_left 1
                    · (simp only [List.getElem?_toArray, List.getElem?_cons_succ, List.getElem?_cons_zero]; rfl)
                    · (refine step_app (base := w2.heap.size) (xs := []) (news := uVs (l.take jj)) rfl (.tmp 52) (.tmp 55) 47 rfl rfl Try.underlying47 infoX64 (by rfl) (by omega) (by omega) (by simp [Act.eval, Act.put]) (by simp [Act.eval, Act.put]) (own_zero HZBZ.out HLBZ.out) (HS1.out.chg HCBZ.out (by simp)) (by omega) HCBZ.out.size ?_; intro vaBZA VBZA hownBZA hgBZA; rw [Nat.zero_add, List.nil_append] at hownBZA; have hstBZA : Chg [VB.heap.size] VBZ VBZA := (Chg.refl _ VBZ).grown hgBZA (fun k hk => .inl (by rw [← (show VB.heap.size = k from Option.some.inj hk)]; simp)); have HBBZA := Lib.hid ((hstBZA.block _ (heap_lt HBBZ.out) (by simp only [List.mem_singleton]; exact blk_ne HZBZ.out HBBZ.out (by simp))).trans HBBZ.out); have HCBZA := Lib.hid (HCBZ.out.then hstBZA (fun q hq => .inr (by simp only [List.mem_singleton] at hq; rw [hq]; exact HLBZ.out))); have HABZA := Lib.hid hownBZA; clear hownBZA hgBZA hstBZA)
                      refine hK.out _ _ ?_ (fun hHeld => ?_)
                      · trivial
                      clear hK K
                      try simp only [Act.put, List.setIfInBounds_toArray, List.set_cons_zero, List.set_cons_succ]
                      refine wpAnyH_ready (rs := [7]) (by kernel_rfl) (by simp) ?_
                      refine AllReadyH.cons (o := ?_) ?_ (fun K hK => ?_) AllReadyH.nil
                      rotate_left 1
                      · (simp only [List.getElem?_toArray, List.getElem?_cons_succ, List.getElem?_cons_zero]; rfl)
                      · (refine step_app (base := w2.heap.size) (news := [.int .u64 (xv : Int)]) rfl (.tmp 56) (.tmp 58) 47 rfl rfl Try.underlying47 infoX64 (by rfl) (by omega) (by omega) (by simp [Act.eval, Act.put]) (by simp [Act.eval, Act.put]) HABZA.out (AppSrc.blk1 HBBZA.out rfl) (by omega) HCBZA.out.size ?_; intro vaBZAAB VBZAAB hownBZAAB hgBZAAB; have HCBZAAB := Lib.hid (HCBZA.out.grown hgBZAAB (fun k hk => .inr (HABZA.out.lt k hk).1)); obtain ⟨axBZAAB, cxBZAAB, hvxBZAAB, _, _⟩ := ownRow_slice hownBZAAB; subst hvxBZAAB; have HABZAAB := Lib.hid hownBZAAB; clear hownBZAAB hgBZAAB)
                        refine hK.out _ _ ?_ (fun hHeld => ?_)
                        · trivial
                        clear hK K
                        try simp only [Act.put, List.setIfInBounds_toArray, List.set_cons_zero, List.set_cons_succ]
                        refine wpAnyH_ready (rs := [11]) (by kernel_rfl) (by simp) ?_
                        refine AllReadyH.cons (o := ?_) ?_ (fun K hK => ?_) AllReadyH.nil
                        rotate_left 1
                        · (simp only [List.getElem?_toArray, List.getElem?_cons_succ, List.getElem?_cons_zero]; rfl)
                        · (refine step_app (base := w2.heap.size) (news := uVs (l.drop jj)) rfl (.tmp 59) (.tmp 62) 47 rfl rfl Try.underlying47 infoX64 (by rfl) (by omega) (by omega) (by simp [Act.eval, Act.put]) (by simp [Act.eval, Act.put]) HABZAAB.out (HS2.out.chg HCBZAAB.out (by simp)) (by omega) HCBZAAB.out.size ?_; intro vz VZZ hownz hgz; have HCz := Lib.hid (HCBZAAB.out.grown hgz (fun k hk => .inr (HABZAAB.out.lt k hk).1)); rw [show jj + 1 + (jj - jj) = jj + 1 by omega] at hownz; obtain ⟨axz, cxz, hvxz, _, _⟩ := ownRow_slice hownz; subst hvxz; have HAz := Lib.hid hownz; clear hownz hgz)
                          refine hK.out _ _ ?_ (fun hHeld => ?_)
                          · trivial
                          clear hK K
                          try simp only [Act.put, List.setIfInBounds_toArray, List.set_cons_zero, List.set_cons_succ]
                          refine wpAnyH_take (i := 12) (oi := ?_) (v := ?_) ?_ (by kernel_rfl) (by kernel_rfl) (by kernel_rfl) ?_ (Or.inl ⟨?_, ?_⟩) hHeld ?_
                          rotate_left 2
                          · (simp only [List.getElem?_toArray, List.getElem?_cons_succ, List.getElem?_cons_zero]; rfl)
                          · exact fun _ _ _ h => h
                          · rfl
                          · (rintro W' _; go_simp; first | done | with_reducible rfl)
                          try simp only [Act.put, List.setIfInBounds_toArray, List.set_cons_zero, List.set_cons_succ]
                          refine wpAnyH_done (by kernel_rfl) ?_ _
                          go_wp2_with fail
                          all_goals
                            go_roundg (n - (i + 1))
                            case measure => have := HGG.out; omega
                            case rel => exact ⟨i + 1, l.take jj ++ [xv] ++ l.drop jj, axz, jj + 1, cxz, rfl, by omega, by go_num, rfl, ⟨by rw [uVs_app, uVs_app]; exact ownRow_up HAz.out HCH2.out.size, HLN.out.symm, HCH2.out.trans HCz.out, HNEW.out, by rw [HLN.out]; have := HLI.out; have := HLE.out; omega⟩⟩
    · obtain rfl : i = n := by omega
      go_wp2_with fail
      go_ret
      have HC := Lib.hid (HCC.out.trans HCH.out)
      refine ⟨.slice a len c, l, rfl, HPL.out, ?_, HLI.out, HC.out⟩
      rw [← HLE.out]
      exact ownRow_up HOW.out HCC.out.size

end Go.Proofs.Ytbejcmbdaoakbaa
