/- catchmentlaw10.PlaceRoom: the walk. (Printed by mkroom.py.) -/
import Derived.Test.YtnhabpbdpjgiiaaAwk10
import Derived.Test.YtnhabpbdpjgiiaaRow
import Derived.Deep.LoopGhost
namespace Go.Proofs.Ytnhabpbdpjgiiaa
open Go.RowKit
set_option linter.unusedVariables false
set_option linter.unusedSimpArgs false

theorem take_sh {T : Tal} {n : Nat → Nat} {a : Nat → Nat → Nat} (h : ShOk T n a) {b : Nat} (hf : T.free b = true) : ShOk (T.set b 1) n a := by
  refine ⟨h.n0, h.n1, fun k i hk hi h0 => ?_, h.apart⟩
  have := h.has k i hk hi h0
  refine ⟨this.1, ?_⟩
  rw [set_now]
  split
  · omega
  · exact this.2
theorem cell4 {w : World} {b : Nat} {v0 v1 v2 v3 : Value} {T : TypeId} {z : Nat × Nat} (h : w.heap[b]? = some (.cells #[v0, v1, v2, v3] T z)) :
    w.cell? ⟨b, 0, none⟩ = some v0 ∧ w.cell? ⟨b, 1, none⟩ = some v1 ∧ w.cell? ⟨b, 2, none⟩ = some v2 ∧ w.cell? ⟨b, 3, none⟩ = some v3 :=
  ⟨cell_of_block h 0, cell_of_block h 1, cell_of_block h 2, cell_of_block h 3⟩
/-- In hand: the stage, somewhere behind its beginning. -/
structure RoomR (w wr : World) (xs p t bc bk : Nat) (K : Pk) (T : Tal) (g c : Nat → Nat) (A : Nat → Nat → Nat) (n : Nat → Nat) (N : Nat) : Prop where
  st : StageAt wr xs p t bc bk K T g c A n
  f : K.first = 2
  n : T.n = N
  chg : Chg [] w wr
  new : ∀ b, b ∈ [xs, p, t, bc, bk, g 0, g 1] → w.heap.size ≤ b
theorem RoomR.new4 {w wr : World} {xs p t bc bk : Nat} {K : Pk} {T : Tal} {g c : Nat → Nat} {A : Nat → Nat → Nat} {n : Nat → Nat} {N : Nat} (h : RoomR w wr xs p t bc bk K T g c A n N) : ∀ i, i ∈ [p, t, bc, bk] → i ∈ ([] : List Nat) ∨ w.heap.size ≤ i :=
  fun i hi => .inr (h.new i (by simp at hi ⊢; rcases hi with h | h | h | h <;> simp [h]))
theorem RoomR.take {w wr w' : World} {xs p t bc bk : Nat} {K : Pk} {T : Tal} {g c : Nat → Nat} {A : Nat → Nat → Nat} {n : Nat → Nat} {N b : Nat} (h : RoomR w wr xs p t bc bk K T g c A n N) (hp : PT w' p t bc bk (takeK T K) (T.set b 1)) (hf : T.free b = true) (hk : (takeK T K).first = K.first) (C : Chg [p, t, bc, bk] wr w') :
    RoomR w w' xs p t bc bk (takeK T K) (T.set b 1) g c A n N :=
  { st := h.st.turn hp (take_sh h.st.ok hf) C, f := hk.trans h.f, n := h.n, chg := h.chg.then C h.new4, new := h.new }

set_option maxRecDepth 20000 in
set_option maxHeartbeats 8000000 in
theorem placeRoom_walk (b0 : Int) (l0 : Int) (w : World) (h0 : (Lit.int .u16 b0).wf = true) (h1 : (Lit.int .u8 l0).wf = true) :
    Calls Try.prog 5 #[.int .u16 b0, .int .u8 l0] w fun e w' => e = .returned (.bool true) ∧ Below w.heap.size w w' := by
  obtain ⟨b, rfl, hb⟩ : ∃ b : Nat, b0 = (b : Int) ∧ b ≤ 65535 := by
    simp [Lit.wf, IntKind.min, IntKind.max, IntKind.signed, IntKind.bits] at h0
    exact ⟨b0.toNat, by omega, by omega⟩
  obtain ⟨l, rfl, hl⟩ : ∃ l : Nat, l0 = (l : Int) ∧ l ≤ 255 := by
    simp [Lit.wf, IntKind.min, IntKind.max, IntKind.signed, IntKind.bits] at h1
    exact ⟨l0.toNat, by omega, by omega⟩
  clear h0 h1
  obtain ⟨N, hN⟩ : ∃ N, N = 16 + b % 385 := ⟨_, rfl⟩
  have hN1 : 16 ≤ N ∧ N ≤ 400 := by omega
  have cB := begun_at w hb
  rw [← hN] at cB
  have HBO := Lib.hid (beg_ok hN1.1)
  go_enter Try.func5, Try.ntmps5
  go_wp2_with fail
  refine cB.mono ?_
  clear cB hN
  rintro e w1 ⟨xs, p, t, bc, bk, g, c, rfl, hst, hC, hnew⟩
  have HR0 : Hid (RoomR w w1 xs p t bc bk (begF N).K (begF N).T.keep g c (begF N).a (begF N).n N) := Lib.hid { st := hst, f := HBO.out.2.2.2.2, n := HBO.out.2.2.2.1, chg := hC, new := hnew }
  clear hst hC hnew
  generalize (begF N).K = K0 at HR0
  generalize (begF N).T.keep = T0 at HR0
  generalize (begF N).a = A at HR0
  generalize (begF N).n = n at HR0
  go_wp2_with fail
  go_loopg [8] (roomI T0 2).toNat (fun gg s wr => ∃ K T, gg = (roomI T 2).toNat ∧ Hid (RoomR w wr xs p t bc bk K T g c A n N)) 
  case atStart => exact ⟨K0, T0, rfl, HR0⟩
  case round =>
    obtain ⟨K1, T, hgg, HR⟩ := hrel
    have top := HR.out.st.top
    have x0 := cell_of_block top 0
    have x1 := cell_of_block top 1
    have x2 := cell_of_block top 2
    have x3 := cell_of_block top 3
    simp only [List.getElem?_toArray, List.getElem?_cons_zero, List.getElem?_cons_succ] at x0 x1 x2 x3
    clear top
    have cR := PT.room HR.out.st.pt
    rw [HR.out.f] at cR
    have hrb := roomI_bd (T := T) (f := 2) (by rw [HR.out.n]; omega)
    have HTN := Lib.hid HR.out.n
    rw [HR.out.n] at hrb
    by_cases hr : (l : Int) < roomI T 2
    · have HTK := Lib.hid (all_take HR.out.st.pt (by rw [HR.out.f]; omega))
      go_wp2_with fail
      refine cR.mono ?_
      rintro e w' ⟨rfl, rfl⟩
      clear cR
      go_wp2_with fail
      obtain ⟨bb, k1, k2, k3, k4, k5, k6⟩ := HTK.out
      refine k6.mono ?_
      clear k6
      rintro e w2 ⟨rfl, hP2, hC2⟩
      have HR2 := Lib.hid (HR.out.take hP2 k3 k5 hC2)
      rw [HR.out.f] at k4
      have K4 := Lib.hid k4
      clear hP2 hC2 k1 k2 k3 k4 k5 x0 x1 x2 x3
      go_wp2_with fail
      go_roundg (roomI (T.set bb 1) 2).toNat
      case measure => have := K4.out; omega
      case rel => exact ⟨_, _, rfl, HR2⟩
    · go_wp2_with fail
      refine cR.mono ?_
      rintro e w' ⟨rfl, rfl⟩
      clear cR
      go_upto_region 8 with fail
      have HQ := Lib.hid (fun k => (HR.out.st.pt).drewN k : ∀ k, PT (wr.drewN k) p t bc bk K1 T)
      have HQR := Lib.hid (fun k => by have := PT.room (HQ.out k); rw [HR.out.f] at this; exact this : ∀ k, Calls Try.prog 29 #[.pointer (some ⟨p, 0, none⟩)] (wr.drewN k) fun e w' => e = .returned (.int .i64 (roomI T 2)) ∧ wr.drewN k = w')
      have HQB := Lib.hid (fun k => by have := blocks_at (HQ.out k).ht; rw [HTN.out] at this; exact this : ∀ k, Calls Try.prog 30 #[.pointer (some ⟨t, 0, none⟩)] (wr.drewN k) fun e w' => e = .returned (.int .i64 (N : Int)) ∧ wr.drewN k = w')
      go_quiet (first | (go_at_call 29; exact quiet_left (HQR.out _)) | (go_at_call 30; exact quiet_left (HQB.out _)) | (go_at_call 10; exact quiet_left (need_at _ (by omega) (by omega))))
      have y0 : (wr.drewN nq).cell? ⟨xs, 0, none⟩ = _ := x0
      have y1 : (wr.drewN nq).cell? ⟨xs, 1, none⟩ = _ := x1
      have y2 : (wr.drewN nq).cell? ⟨xs, 2, none⟩ = _ := x2
      have y3 : (wr.drewN nq).cell? ⟨xs, 3, none⟩ = _ := x3
      have HS := Lib.hid (HR.out.st.chg ((Chg.refl [] wr).drewN nq))
      have HCX := Lib.hid (HR.out.chg.drewN nq)
      have HN4 := Lib.hid HR.out.new4
      have HKF := Lib.hid HR.out.f
      clear x0 x1 x2 x3
      generalize wr.drewN nq = w3 at *
      have lx := heap_lt HS.out.top
      go_upto_region 9 with fail
      go_cut [14] (fun ev wz => Hid (∃ K2 T2, PT wz p t bc bk K2 T2 ∧ wz.heap[xs]? = some (.cells #[.pointer (some ⟨t, 0, none⟩), .pointer (some ⟨p, 0, none⟩), .slice (some ⟨g 0, 0, none⟩) (n 0) (c 0), .slice (some ⟨g 1, 0, none⟩) (n 1) (c 1)] 69 (0, 0)) ∧ Chg [] w wz ∧ K2.first = 2 ∧
        ((roomI T 2 < (needN N : Int) ∧ ev = .int .i64 90 ∧ T2 = T) ∨ ((needN N : Int) ≤ roomI T 2 ∧ ev = .int .i64 0 ∧ roomI T2 2 ≤ roomI T 2))))
      case first =>
        by_cases hlt : roomI T 2 < (needN N : Int)
        case' pos =>
          have HPL := Lib.hid (fun (W : World) (C : Chg [] w3 W) => by
            have := place_full (HS.out.chg C).pt (HS.out.chg C).sh HS.out.ok (by rw [HTN.out, HKF.out]; exact hlt)
            exact this : ∀ W : World, Chg [] w3 W → Calls Try.prog 20 #[.pointer (some ⟨t, 0, none⟩), .pointer (some ⟨p, 0, none⟩), .agg #[.slice (some ⟨g 0, 0, none⟩) (n 0) (c 0), .slice (some ⟨g 1, 0, none⟩) (n 1) (c 1)]] W fun e w' => e = .returned (.tuple #[.agg #[.slice none 0 0, .slice none 0 0], .slice none 0 0, .slice none 0 0, .int .i64 90]) ∧ Chg [] W w')
          have HC0 := Lib.hid ((Chg.refl [] w3).drew)
          refine wp_region_held_drew (S := fun W' => W'.cell? ⟨xs, 0, none⟩ = some (.pointer (some ⟨t, 0, none⟩)) ∧ W'.cell? ⟨xs, 1, none⟩ = some (.pointer (some ⟨p, 0, none⟩)) ∧ W'.cell? ⟨xs, 2, none⟩ = some (.slice (some ⟨g 0, 0, none⟩) (n 0) (c 0)) ∧ W'.cell? ⟨xs, 3, none⟩ = some (.slice (some ⟨g 1, 0, none⟩) (n 1) (c 1))) (by kernel_rfl) (by exact ⟨y0, y1, y2, y3⟩) (fun hHeld => ?_)
          refine wpAnyH_take (i := 0) (oi := ?_) (v := ?_) ?_ (by kernel_rfl) (by kernel_rfl) (by kernel_rfl) ?_ (Or.inl ⟨?_, ?_⟩) hHeld ?_
          rotate_left 2
          · (simp only [List.getElem?_toArray, List.getElem?_cons_succ, List.getElem?_cons_zero]; rfl)
          · exact fun _ _ _ h => h
          · rfl
          · (rintro W' ⟨s0, s1, s2, s3⟩; go_simp; first | done | with_reducible rfl)
          try simp only [Act.put, List.setIfInBounds_toArray, List.set_cons_zero, List.set_cons_succ]
          refine wpAnyH_take (i := 1) (oi := ?_) (v := ?_) ?_ (by kernel_rfl) (by kernel_rfl) (by kernel_rfl) ?_ (Or.inl ⟨?_, ?_⟩) hHeld ?_
          rotate_left 2
          · (simp only [List.getElem?_toArray, List.getElem?_cons_succ, List.getElem?_cons_zero]; rfl)
          · exact fun _ _ _ h => h
          · rfl
          · (rintro W' ⟨s0, s1, s2, s3⟩; go_simp; first | done | with_reducible rfl)
          try simp only [Act.put, List.setIfInBounds_toArray, List.set_cons_zero, List.set_cons_succ]
          refine wpAnyH_take (i := 2) (oi := ?_) (v := ?_) ?_ (by kernel_rfl) (by kernel_rfl) (by kernel_rfl) ?_ (Or.inl ⟨?_, ?_⟩) hHeld ?_
          rotate_left 2
          · (simp only [List.getElem?_toArray, List.getElem?_cons_succ, List.getElem?_cons_zero]; rfl)
          · exact fun _ _ _ h => h
          · rfl
          · (rintro W' ⟨s0, s1, s2, s3⟩; go_simp; first | done | with_reducible rfl)
          try simp only [Act.put, List.setIfInBounds_toArray, List.set_cons_zero, List.set_cons_succ]
          refine wpAnyH_take (i := 3) (oi := ?_) (v := ?_) ?_ (by kernel_rfl) (by kernel_rfl) (by kernel_rfl) ?_ (Or.inl ⟨?_, ?_⟩) hHeld ?_
          rotate_left 2
          · (simp only [List.getElem?_toArray, List.getElem?_cons_succ, List.getElem?_cons_zero]; rfl)
          · exact fun _ _ _ h => h
          · rfl
          · (rintro W' ⟨s0, s1, s2, s3⟩; go_simp; first | done | with_reducible rfl)
          try simp only [Act.put, List.setIfInBounds_toArray, List.set_cons_zero, List.set_cons_succ]
          refine wpAnyH_take (i := 4) (oi := ?_) (v := ?_) ?_ (by kernel_rfl) (by kernel_rfl) (by kernel_rfl) ?_ (Or.inl ⟨?_, ?_⟩) hHeld ?_
          rotate_left 2
          · (simp only [List.getElem?_toArray, List.getElem?_cons_succ, List.getElem?_cons_zero]; rfl)
          · exact fun _ _ _ h => h
          · rfl
          · (rintro W' ⟨s0, s1, s2, s3⟩; go_simp; first | done | with_reducible rfl)
          try simp only [Act.put, List.setIfInBounds_toArray, List.set_cons_zero, List.set_cons_succ]
          refine wpAnyH_take (i := 5) (oi := ?_) (v := ?_) ?_ (by kernel_rfl) (by kernel_rfl) (by kernel_rfl) ?_ (Or.inl ⟨?_, ?_⟩) hHeld ?_
          rotate_left 2
          · (simp only [List.getElem?_toArray, List.getElem?_cons_succ, List.getElem?_cons_zero]; rfl)
          · exact fun _ _ _ h => h
          · rfl
          · (rintro W' ⟨s0, s1, s2, s3⟩; go_simp; first | done | with_reducible rfl)
          try simp only [Act.put, List.setIfInBounds_toArray, List.set_cons_zero, List.set_cons_succ]
          refine wpAnyH_take (i := 6) (oi := ?_) (v := ?_) ?_ (by kernel_rfl) (by kernel_rfl) (by kernel_rfl) ?_ (Or.inl ⟨?_, ?_⟩) hHeld ?_
          rotate_left 2
          · (simp only [List.getElem?_toArray, List.getElem?_cons_succ, List.getElem?_cons_zero]; rfl)
          · exact fun _ _ _ h => h
          · rfl
          · (rintro W' ⟨s0, s1, s2, s3⟩; go_simp; first | done | with_reducible rfl)
          try simp only [Act.put, List.setIfInBounds_toArray, List.set_cons_zero, List.set_cons_succ]
          refine wpAnyH_take (i := 7) (oi := ?_) (v := ?_) ?_ (by kernel_rfl) (by kernel_rfl) (by kernel_rfl) ?_ (Or.inl ⟨?_, ?_⟩) hHeld ?_
          rotate_left 2
          · (simp only [List.getElem?_toArray, List.getElem?_cons_succ, List.getElem?_cons_zero]; rfl)
          · exact fun _ _ _ h => h
          · rfl
          · (rintro W' ⟨s0, s1, s2, s3⟩; go_simp; first | done | with_reducible rfl)
          try simp only [Act.put, List.setIfInBounds_toArray, List.set_cons_zero, List.set_cons_succ]
          refine wpAnyH_take (i := 8) (oi := ?_) (v := ?_) ?_ (by kernel_rfl) (by kernel_rfl) (by kernel_rfl) ?_ (Or.inl ⟨?_, ?_⟩) hHeld ?_
          rotate_left 2
          · (simp only [List.getElem?_toArray, List.getElem?_cons_succ, List.getElem?_cons_zero]; rfl)
          · exact fun _ _ _ h => h
          · rfl
          · (rintro W' ⟨s0, s1, s2, s3⟩; go_simp; first | done | with_reducible rfl)
          try simp only [Act.put, List.setIfInBounds_toArray, List.set_cons_zero, List.set_cons_succ]
          refine wpAnyH_take (i := 9) (oi := ?_) (v := ?_) ?_ (by kernel_rfl) (by kernel_rfl) (by kernel_rfl) ?_ (Or.inl ⟨?_, ?_⟩) hHeld ?_
          rotate_left 2
          · (simp only [List.getElem?_toArray, List.getElem?_cons_succ, List.getElem?_cons_zero]; rfl)
          · exact fun _ _ _ h => h
          · rfl
          · (rintro W' ⟨s0, s1, s2, s3⟩; go_simp; first | done | with_reducible rfl)
          try simp only [Act.put, List.setIfInBounds_toArray, List.set_cons_zero, List.set_cons_succ]
          refine wpAnyH_take (i := 10) (oi := ?_) (v := ?_) ?_ (by kernel_rfl) (by kernel_rfl) (by kernel_rfl) ?_ (Or.inl ⟨?_, ?_⟩) hHeld ?_
          rotate_left 2
          · (simp only [List.getElem?_toArray, List.getElem?_cons_succ, List.getElem?_cons_zero]; rfl)
          · exact fun _ _ _ h => h
          · rfl
          · (rintro W' ⟨s0, s1, s2, s3⟩; go_simp; first | done | with_reducible rfl)
          try simp only [Act.put, List.setIfInBounds_toArray, List.set_cons_zero, List.set_cons_succ]
          refine wpAnyH_take (i := 11) (oi := ?_) (v := ?_) ?_ (by kernel_rfl) (by kernel_rfl) (by kernel_rfl) ?_ (Or.inl ⟨?_, ?_⟩) hHeld ?_
          rotate_left 2
          · (simp only [List.getElem?_toArray, List.getElem?_cons_succ, List.getElem?_cons_zero]; rfl)
          · exact fun _ _ _ h => h
          · rfl
          · (rintro W' ⟨s0, s1, s2, s3⟩; go_simp; first | done | with_reducible rfl)
          try simp only [Act.put, List.setIfInBounds_toArray, List.set_cons_zero, List.set_cons_succ]
          generalize w3.drew = w4 at *
          refine wpAnyH_ready (rs := [12, 18]) (by kernel_rfl) (by simp) ?_
          refine AllReadyH.cons (o := ?_) ?_ (fun K hK => ?_) ?_
          rotate_left 1
          · (simp only [List.getElem?_toArray, List.getElem?_cons_succ, List.getElem?_cons_zero]; rfl)
          · (go_simp; refine (HPL.out w4 HC0.out).mono ?_; rintro e w6 ⟨rfl, hD⟩; have HCE := Lib.hid (HC0.out.trans hD); have FT := Lib.hid ((HCE.out.block _ lx (by simp)).trans HS.out.top); have FP := Lib.hid (HS.out.chg HCE.out).pt; have HCW := Lib.hid (HCX.out.trans HCE.out); clear hD)
            refine hK.out _ _ ?_ (fun hHeld => ?_)
            · (have hh := cell4 FT.out; exact hh)
            clear hK K
            try simp only [Act.put, List.setIfInBounds_toArray, List.set_cons_zero, List.set_cons_succ]
            refine wpAnyH_take (i := 13) (oi := ?_) (v := ?_) ?_ (by kernel_rfl) (by kernel_rfl) (by kernel_rfl) ?_ (Or.inl ⟨?_, ?_⟩) hHeld ?_
            rotate_left 2
            · (simp only [List.getElem?_toArray, List.getElem?_cons_succ, List.getElem?_cons_zero]; rfl)
            · exact fun _ _ _ h => h
            · rfl
            · (rintro W' ⟨s0, s1, s2, s3⟩; go_simp; first | done | with_reducible rfl)
            try simp only [Act.put, List.setIfInBounds_toArray, List.set_cons_zero, List.set_cons_succ]
            refine wpAnyH_take (i := 14) (oi := ?_) (v := ?_) ?_ (by kernel_rfl) (by kernel_rfl) (by kernel_rfl) ?_ (Or.inl ⟨?_, ?_⟩) hHeld ?_
            rotate_left 2
            · (simp only [List.getElem?_toArray, List.getElem?_cons_succ, List.getElem?_cons_zero]; rfl)
            · exact fun _ _ _ h => h
            · rfl
            · (rintro W' ⟨s0, s1, s2, s3⟩; go_simp; first | done | with_reducible rfl)
            try simp only [Act.put, List.setIfInBounds_toArray, List.set_cons_zero, List.set_cons_succ]
            refine wpAnyH_take (i := 15) (oi := ?_) (v := ?_) ?_ (by kernel_rfl) (by kernel_rfl) (by kernel_rfl) ?_ (Or.inl ⟨?_, ?_⟩) hHeld ?_
            rotate_left 2
            · (simp only [List.getElem?_toArray, List.getElem?_cons_succ, List.getElem?_cons_zero]; rfl)
            · exact fun _ _ _ h => h
            · rfl
            · (rintro W' ⟨s0, s1, s2, s3⟩; go_simp; first | done | with_reducible rfl)
            try simp only [Act.put, List.setIfInBounds_toArray, List.set_cons_zero, List.set_cons_succ]
            refine wpAnyH_take (i := 16) (oi := ?_) (v := ?_) ?_ (by kernel_rfl) (by kernel_rfl) (by kernel_rfl) ?_ (Or.inl ⟨?_, ?_⟩) hHeld ?_
            rotate_left 2
            · (simp only [List.getElem?_toArray, List.getElem?_cons_succ, List.getElem?_cons_zero]; rfl)
            · exact fun _ _ _ h => h
            · rfl
            · (rintro W' ⟨s0, s1, s2, s3⟩; go_simp; first | done | with_reducible rfl)
            try simp only [Act.put, List.setIfInBounds_toArray, List.set_cons_zero, List.set_cons_succ]
            refine wpAnyH_take (i := 17) (oi := ?_) (v := ?_) ?_ (by kernel_rfl) (by kernel_rfl) (by kernel_rfl) ?_ (Or.inl ⟨?_, ?_⟩) hHeld ?_
            rotate_left 2
            · (simp only [List.getElem?_toArray, List.getElem?_cons_succ, List.getElem?_cons_zero]; rfl)
            · exact fun _ _ _ h => h
            · rfl
            · (rintro W' ⟨s0, s1, s2, s3⟩; go_simp; first | done | with_reducible rfl)
            try simp only [Act.put, List.setIfInBounds_toArray, List.set_cons_zero, List.set_cons_succ]
            refine wpAnyH_ready (rs := [18]) (by kernel_rfl) (by simp) ?_
            refine AllReadyH.cons (o := ?_) ?_ (fun K hK => ?_) AllReadyH.nil
            rotate_left 1
            · (simp only [List.getElem?_toArray, List.getElem?_cons_succ, List.getElem?_cons_zero]; rfl)
            · (go_simp; have FA := Lib.hid (new_block w6 (.cells #[.slice none 0 0, .slice none 0 0] 42)); have CA := (Chg.refl [] w6).alloc (.cells #[.slice none 0 0, .slice none 0 0] 42); have FT2 := Lib.hid ((CA.block _ (heap_lt FT.out) (by simp)).trans FT.out); have FP2 := Lib.hid (FP.out.chg CA (by simp) (by simp) (by simp) (by simp)); have HCW2 := Lib.hid (HCW.out.trans CA); have HRX : Hid (xs ∉ [w6.heap.size] ∧ p ∉ [w6.heap.size] ∧ t ∉ [w6.heap.size] ∧ bc ∉ [w6.heap.size] ∧ bk ∉ [w6.heap.size] ∧ w.heap.size ≤ w6.heap.size) := Lib.hid (by have a0 := HS.out.pt.hp.lt; have a1 := HS.out.pt.ht.lt0; have a2 := HS.out.pt.ht.lt1; have a3 := HS.out.pt.ht.lt2; have a4 := lx; have b0 := FP.out.hp.lt; have b1 := FP.out.ht.lt0; have b2 := FP.out.ht.lt1; have b3 := FP.out.ht.lt2; have b4 := heap_lt FT.out; have b5 := HCW.out.size; simp; omega); clear CA; generalize w6.alloc _ = w7 at *)
              refine hK.out _ _ ?_ (fun hHeld => ?_)
              · (have hh := cell4 FT2.out; exact hh)
              clear hK K
              try simp only [Act.put, List.setIfInBounds_toArray, List.set_cons_zero, List.set_cons_succ]
              refine wpAnyH_ready (rs := [19]) (by kernel_rfl) (by simp) ?_
              refine AllReadyH.cons (o := ?_) ?_ (fun K hK => ?_) AllReadyH.nil
              rotate_left 1
              · (simp only [List.getElem?_toArray, List.getElem?_cons_succ, List.getElem?_cons_zero]; rfl)
              · (have za := cell_of_block FA.out 0; have zb := cell_of_block FA.out 1; have f4 := frozen_of_block FA.out 0; have f5 := frozen_of_block FA.out 1; simp only [List.getElem?_toArray, List.getElem?_cons_zero, List.getElem?_cons_succ] at za zb; have CR : Chg [w6.heap.size] w7 ((w7.setCell ⟨w6.heap.size, 0, none⟩ (.slice none 0 0)).setCell ⟨w6.heap.size, 1, none⟩ (.slice none 0 0)) := ((Chg.refl _ _).setCell (.inl (by simp)) _).setCell (.inl (by simp)) _; have GT := Lib.hid ((CR.block _ (heap_lt FT2.out) HRX.out.1).trans FT2.out); have GP := Lib.hid (FP2.out.chg CR HRX.out.2.1 HRX.out.2.2.1 HRX.out.2.2.2.1 HRX.out.2.2.2.2.1); have GC := Lib.hid (HCW2.out.then CR (fun i hi => by have := HRX.out.2.2.2.2.2; simp at hi; right; omega)); clear CR; go_simp)
                refine hK.out _ _ ?_ (fun hHeld => ?_)
                · (have hh := cell4 GT.out; exact hh)
                clear hK K
                try simp only [Act.put, List.setIfInBounds_toArray, List.set_cons_zero, List.set_cons_succ]
                refine wpAnyH_take (i := 20) (oi := ?_) (v := ?_) ?_ (by kernel_rfl) (by kernel_rfl) (by kernel_rfl) ?_ (Or.inl ⟨?_, ?_⟩) hHeld ?_
                rotate_left 2
                · (simp only [List.getElem?_toArray, List.getElem?_cons_succ, List.getElem?_cons_zero]; rfl)
                · exact fun _ _ _ h => h
                · rfl
                · (rintro W' ⟨s0, s1, s2, s3⟩; go_simp; first | done | with_reducible rfl)
                try simp only [Act.put, List.setIfInBounds_toArray, List.set_cons_zero, List.set_cons_succ]
                refine wpAnyH_take (i := 21) (oi := ?_) (v := ?_) ?_ (by kernel_rfl) (by kernel_rfl) (by kernel_rfl) ?_ (Or.inl ⟨?_, ?_⟩) hHeld ?_
                rotate_left 2
                · (simp only [List.getElem?_toArray, List.getElem?_cons_succ, List.getElem?_cons_zero]; rfl)
                · exact fun _ _ _ h => h
                · rfl
                · (rintro W' ⟨s0, s1, s2, s3⟩; go_simp; first | done | with_reducible rfl)
                try simp only [Act.put, List.setIfInBounds_toArray, List.set_cons_zero, List.set_cons_succ]
                refine wpAnyH_take (i := 22) (oi := ?_) (v := ?_) ?_ (by kernel_rfl) (by kernel_rfl) (by kernel_rfl) ?_ (Or.inl ⟨?_, ?_⟩) hHeld ?_
                rotate_left 2
                · (simp only [List.getElem?_toArray, List.getElem?_cons_succ, List.getElem?_cons_zero]; rfl)
                · exact fun _ _ _ h => h
                · rfl
                · (rintro W' ⟨s0, s1, s2, s3⟩; go_simp; first | done | with_reducible rfl)
                try simp only [Act.put, List.setIfInBounds_toArray, List.set_cons_zero, List.set_cons_succ]
                refine wpAnyH_done (by kernel_rfl) ?_ _
                go_wp2_with fail
                go_meet
                exact ⟨_, _, GP.out, GT.out, GC.out, HKF.out, .inl ⟨hlt, rfl, rfl⟩⟩
          refine AllReadyH.cons (o := ?_) ?_ (fun K hK => ?_) AllReadyH.nil
          rotate_left 1
          · (simp only [List.getElem?_toArray, List.getElem?_cons_succ, List.getElem?_cons_zero]; rfl)
          · (go_simp; have FA := Lib.hid (new_block w4 (.cells #[.slice none 0 0, .slice none 0 0] 42)); have HAL := Lib.hid (show w3.heap.size ≤ w4.heap.size from HC0.out.size); have HC5 := Lib.hid (HC0.out.alloc (.cells #[.slice none 0 0, .slice none 0 0] 42)); have HRX : Hid (xs ∉ [w4.heap.size] ∧ p ∉ [w4.heap.size] ∧ t ∉ [w4.heap.size] ∧ bc ∉ [w4.heap.size] ∧ bk ∉ [w4.heap.size] ∧ w.heap.size ≤ w4.heap.size) := Lib.hid (by have a0 := HS.out.pt.hp.lt; have a1 := HS.out.pt.ht.lt0; have a2 := HS.out.pt.ht.lt1; have a3 := HS.out.pt.ht.lt2; have a4 := lx; have b0 := HC0.out.size; have b1 := HCX.out.size; simp; omega); generalize w4.alloc _ = w5 at *)
            refine hK.out _ _ ?_ (fun hHeld => ?_)
            · (have hh := cell4 ((HC5.out.block _ lx (by simp)).trans HS.out.top); exact hh)
            clear hK K
            try simp only [Act.put, List.setIfInBounds_toArray, List.set_cons_zero, List.set_cons_succ]
            refine wpAnyH_ready (rs := [12]) (by kernel_rfl) (by simp) ?_
            refine AllReadyH.cons (o := ?_) ?_ (fun K hK => ?_) AllReadyH.nil
            rotate_left 1
            · (simp only [List.getElem?_toArray, List.getElem?_cons_succ, List.getElem?_cons_zero]; rfl)
            · (go_simp; refine (HPL.out w5 HC5.out).mono ?_; rintro e w6 ⟨rfl, hD⟩; have HCE := Lib.hid (HC5.out.trans hD); have FT := Lib.hid ((HCE.out.block _ lx (by simp)).trans HS.out.top); have FP := Lib.hid (HS.out.chg HCE.out).pt; have FA2 := Lib.hid ((hD.block _ (heap_lt FA.out) (by simp)).trans FA.out); have HCW := Lib.hid (HCX.out.trans HCE.out); clear hD)
              refine hK.out _ _ ?_ (fun hHeld => ?_)
              · (have hh := cell4 FT.out; exact hh)
              clear hK K
              try simp only [Act.put, List.setIfInBounds_toArray, List.set_cons_zero, List.set_cons_succ]
              refine wpAnyH_take (i := 13) (oi := ?_) (v := ?_) ?_ (by kernel_rfl) (by kernel_rfl) (by kernel_rfl) ?_ (Or.inl ⟨?_, ?_⟩) hHeld ?_
              rotate_left 2
              · (simp only [List.getElem?_toArray, List.getElem?_cons_succ, List.getElem?_cons_zero]; rfl)
              · exact fun _ _ _ h => h
              · rfl
              · (rintro W' ⟨s0, s1, s2, s3⟩; go_simp; first | done | with_reducible rfl)
              try simp only [Act.put, List.setIfInBounds_toArray, List.set_cons_zero, List.set_cons_succ]
              refine wpAnyH_take (i := 14) (oi := ?_) (v := ?_) ?_ (by kernel_rfl) (by kernel_rfl) (by kernel_rfl) ?_ (Or.inl ⟨?_, ?_⟩) hHeld ?_
              rotate_left 2
              · (simp only [List.getElem?_toArray, List.getElem?_cons_succ, List.getElem?_cons_zero]; rfl)
              · exact fun _ _ _ h => h
              · rfl
              · (rintro W' ⟨s0, s1, s2, s3⟩; go_simp; first | done | with_reducible rfl)
              try simp only [Act.put, List.setIfInBounds_toArray, List.set_cons_zero, List.set_cons_succ]
              refine wpAnyH_take (i := 15) (oi := ?_) (v := ?_) ?_ (by kernel_rfl) (by kernel_rfl) (by kernel_rfl) ?_ (Or.inl ⟨?_, ?_⟩) hHeld ?_
              rotate_left 2
              · (simp only [List.getElem?_toArray, List.getElem?_cons_succ, List.getElem?_cons_zero]; rfl)
              · exact fun _ _ _ h => h
              · rfl
              · (rintro W' ⟨s0, s1, s2, s3⟩; go_simp; first | done | with_reducible rfl)
              try simp only [Act.put, List.setIfInBounds_toArray, List.set_cons_zero, List.set_cons_succ]
              refine wpAnyH_take (i := 16) (oi := ?_) (v := ?_) ?_ (by kernel_rfl) (by kernel_rfl) (by kernel_rfl) ?_ (Or.inl ⟨?_, ?_⟩) hHeld ?_
              rotate_left 2
              · (simp only [List.getElem?_toArray, List.getElem?_cons_succ, List.getElem?_cons_zero]; rfl)
              · exact fun _ _ _ h => h
              · rfl
              · (rintro W' ⟨s0, s1, s2, s3⟩; go_simp; first | done | with_reducible rfl)
              try simp only [Act.put, List.setIfInBounds_toArray, List.set_cons_zero, List.set_cons_succ]
              refine wpAnyH_take (i := 17) (oi := ?_) (v := ?_) ?_ (by kernel_rfl) (by kernel_rfl) (by kernel_rfl) ?_ (Or.inl ⟨?_, ?_⟩) hHeld ?_
              rotate_left 2
              · (simp only [List.getElem?_toArray, List.getElem?_cons_succ, List.getElem?_cons_zero]; rfl)
              · exact fun _ _ _ h => h
              · rfl
              · (rintro W' ⟨s0, s1, s2, s3⟩; go_simp; first | done | with_reducible rfl)
              try simp only [Act.put, List.setIfInBounds_toArray, List.set_cons_zero, List.set_cons_succ]
              refine wpAnyH_ready (rs := [19]) (by kernel_rfl) (by simp) ?_
              refine AllReadyH.cons (o := ?_) ?_ (fun K hK => ?_) AllReadyH.nil
              rotate_left 1
              · (simp only [List.getElem?_toArray, List.getElem?_cons_succ, List.getElem?_cons_zero]; rfl)
              · (have za := cell_of_block FA2.out 0; have zb := cell_of_block FA2.out 1; have f4 := frozen_of_block FA2.out 0; have f5 := frozen_of_block FA2.out 1; simp only [List.getElem?_toArray, List.getElem?_cons_zero, List.getElem?_cons_succ] at za zb; have CR : Chg [w4.heap.size] w6 ((w6.setCell ⟨w4.heap.size, 0, none⟩ (.slice none 0 0)).setCell ⟨w4.heap.size, 1, none⟩ (.slice none 0 0)) := ((Chg.refl _ _).setCell (.inl (by simp)) _).setCell (.inl (by simp)) _; have GT := Lib.hid ((CR.block _ (heap_lt FT.out) HRX.out.1).trans FT.out); have GP := Lib.hid (FP.out.chg CR HRX.out.2.1 HRX.out.2.2.1 HRX.out.2.2.2.1 HRX.out.2.2.2.2.1); have GC := Lib.hid (HCW.out.then CR (fun i hi => by have := HRX.out.2.2.2.2.2; simp at hi; right; omega)); clear CR; go_simp)
                refine hK.out _ _ ?_ (fun hHeld => ?_)
                · (have hh := cell4 GT.out; exact hh)
                clear hK K
                try simp only [Act.put, List.setIfInBounds_toArray, List.set_cons_zero, List.set_cons_succ]
                refine wpAnyH_take (i := 20) (oi := ?_) (v := ?_) ?_ (by kernel_rfl) (by kernel_rfl) (by kernel_rfl) ?_ (Or.inl ⟨?_, ?_⟩) hHeld ?_
                rotate_left 2
                · (simp only [List.getElem?_toArray, List.getElem?_cons_succ, List.getElem?_cons_zero]; rfl)
                · exact fun _ _ _ h => h
                · rfl
                · (rintro W' ⟨s0, s1, s2, s3⟩; go_simp; first | done | with_reducible rfl)
                try simp only [Act.put, List.setIfInBounds_toArray, List.set_cons_zero, List.set_cons_succ]
                refine wpAnyH_take (i := 21) (oi := ?_) (v := ?_) ?_ (by kernel_rfl) (by kernel_rfl) (by kernel_rfl) ?_ (Or.inl ⟨?_, ?_⟩) hHeld ?_
                rotate_left 2
                · (simp only [List.getElem?_toArray, List.getElem?_cons_succ, List.getElem?_cons_zero]; rfl)
                · exact fun _ _ _ h => h
                · rfl
                · (rintro W' ⟨s0, s1, s2, s3⟩; go_simp; first | done | with_reducible rfl)
                try simp only [Act.put, List.setIfInBounds_toArray, List.set_cons_zero, List.set_cons_succ]
                refine wpAnyH_take (i := 22) (oi := ?_) (v := ?_) ?_ (by kernel_rfl) (by kernel_rfl) (by kernel_rfl) ?_ (Or.inl ⟨?_, ?_⟩) hHeld ?_
                rotate_left 2
                · (simp only [List.getElem?_toArray, List.getElem?_cons_succ, List.getElem?_cons_zero]; rfl)
                · exact fun _ _ _ h => h
                · rfl
                · (rintro W' ⟨s0, s1, s2, s3⟩; go_simp; first | done | with_reducible rfl)
                try simp only [Act.put, List.setIfInBounds_toArray, List.set_cons_zero, List.set_cons_succ]
                refine wpAnyH_done (by kernel_rfl) ?_ _
                go_wp2_with fail
                go_meet
                exact ⟨_, _, GP.out, GT.out, GC.out, HKF.out, .inl ⟨hlt, rfl, rfl⟩⟩

        case' neg =>
          have HPL := Lib.hid (fun (W : World) (C : Chg [] w3 W) => place_ok (HS.out.chg C).pt (HS.out.chg C).sh HS.out.ok (by rw [HTN.out, HKF.out]; omega) : ∀ W : World, Chg [] w3 W → Calls Try.prog 20 #[.pointer (some ⟨t, 0, none⟩), .pointer (some ⟨p, 0, none⟩), .agg #[.slice (some ⟨g 0, 0, none⟩) (n 0) (c 0), .slice (some ⟨g 1, 0, none⟩) (n 1) (c 1)]] W (Placed W p t bc bk (PS.start T K1 n A).fin))
          have HFO := Lib.hid (fin_ok HS.out.ok HS.out.pt.f HS.out.pt.n (by rw [HTN.out, HKF.out]; omega))
          have HC0 := Lib.hid ((Chg.refl [] w3).drew)
          refine wp_region_held_drew (S := fun W' => W'.cell? ⟨xs, 0, none⟩ = some (.pointer (some ⟨t, 0, none⟩)) ∧ W'.cell? ⟨xs, 1, none⟩ = some (.pointer (some ⟨p, 0, none⟩)) ∧ W'.cell? ⟨xs, 2, none⟩ = some (.slice (some ⟨g 0, 0, none⟩) (n 0) (c 0)) ∧ W'.cell? ⟨xs, 3, none⟩ = some (.slice (some ⟨g 1, 0, none⟩) (n 1) (c 1))) (by kernel_rfl) (by exact ⟨y0, y1, y2, y3⟩) (fun hHeld => ?_)
          refine wpAnyH_take (i := 0) (oi := ?_) (v := ?_) ?_ (by kernel_rfl) (by kernel_rfl) (by kernel_rfl) ?_ (Or.inl ⟨?_, ?_⟩) hHeld ?_
          rotate_left 2
          · (simp only [List.getElem?_toArray, List.getElem?_cons_succ, List.getElem?_cons_zero]; rfl)
          · exact fun _ _ _ h => h
          · rfl
          · (rintro W' ⟨s0, s1, s2, s3⟩; go_simp; first | done | with_reducible rfl)
          try simp only [Act.put, List.setIfInBounds_toArray, List.set_cons_zero, List.set_cons_succ]
          refine wpAnyH_take (i := 1) (oi := ?_) (v := ?_) ?_ (by kernel_rfl) (by kernel_rfl) (by kernel_rfl) ?_ (Or.inl ⟨?_, ?_⟩) hHeld ?_
          rotate_left 2
          · (simp only [List.getElem?_toArray, List.getElem?_cons_succ, List.getElem?_cons_zero]; rfl)
          · exact fun _ _ _ h => h
          · rfl
          · (rintro W' ⟨s0, s1, s2, s3⟩; go_simp; first | done | with_reducible rfl)
          try simp only [Act.put, List.setIfInBounds_toArray, List.set_cons_zero, List.set_cons_succ]
          refine wpAnyH_take (i := 2) (oi := ?_) (v := ?_) ?_ (by kernel_rfl) (by kernel_rfl) (by kernel_rfl) ?_ (Or.inl ⟨?_, ?_⟩) hHeld ?_
          rotate_left 2
          · (simp only [List.getElem?_toArray, List.getElem?_cons_succ, List.getElem?_cons_zero]; rfl)
          · exact fun _ _ _ h => h
          · rfl
          · (rintro W' ⟨s0, s1, s2, s3⟩; go_simp; first | done | with_reducible rfl)
          try simp only [Act.put, List.setIfInBounds_toArray, List.set_cons_zero, List.set_cons_succ]
          refine wpAnyH_take (i := 3) (oi := ?_) (v := ?_) ?_ (by kernel_rfl) (by kernel_rfl) (by kernel_rfl) ?_ (Or.inl ⟨?_, ?_⟩) hHeld ?_
          rotate_left 2
          · (simp only [List.getElem?_toArray, List.getElem?_cons_succ, List.getElem?_cons_zero]; rfl)
          · exact fun _ _ _ h => h
          · rfl
          · (rintro W' ⟨s0, s1, s2, s3⟩; go_simp; first | done | with_reducible rfl)
          try simp only [Act.put, List.setIfInBounds_toArray, List.set_cons_zero, List.set_cons_succ]
          refine wpAnyH_take (i := 4) (oi := ?_) (v := ?_) ?_ (by kernel_rfl) (by kernel_rfl) (by kernel_rfl) ?_ (Or.inl ⟨?_, ?_⟩) hHeld ?_
          rotate_left 2
          · (simp only [List.getElem?_toArray, List.getElem?_cons_succ, List.getElem?_cons_zero]; rfl)
          · exact fun _ _ _ h => h
          · rfl
          · (rintro W' ⟨s0, s1, s2, s3⟩; go_simp; first | done | with_reducible rfl)
          try simp only [Act.put, List.setIfInBounds_toArray, List.set_cons_zero, List.set_cons_succ]
          refine wpAnyH_take (i := 5) (oi := ?_) (v := ?_) ?_ (by kernel_rfl) (by kernel_rfl) (by kernel_rfl) ?_ (Or.inl ⟨?_, ?_⟩) hHeld ?_
          rotate_left 2
          · (simp only [List.getElem?_toArray, List.getElem?_cons_succ, List.getElem?_cons_zero]; rfl)
          · exact fun _ _ _ h => h
          · rfl
          · (rintro W' ⟨s0, s1, s2, s3⟩; go_simp; first | done | with_reducible rfl)
          try simp only [Act.put, List.setIfInBounds_toArray, List.set_cons_zero, List.set_cons_succ]
          refine wpAnyH_take (i := 6) (oi := ?_) (v := ?_) ?_ (by kernel_rfl) (by kernel_rfl) (by kernel_rfl) ?_ (Or.inl ⟨?_, ?_⟩) hHeld ?_
          rotate_left 2
          · (simp only [List.getElem?_toArray, List.getElem?_cons_succ, List.getElem?_cons_zero]; rfl)
          · exact fun _ _ _ h => h
          · rfl
          · (rintro W' ⟨s0, s1, s2, s3⟩; go_simp; first | done | with_reducible rfl)
          try simp only [Act.put, List.setIfInBounds_toArray, List.set_cons_zero, List.set_cons_succ]
          refine wpAnyH_take (i := 7) (oi := ?_) (v := ?_) ?_ (by kernel_rfl) (by kernel_rfl) (by kernel_rfl) ?_ (Or.inl ⟨?_, ?_⟩) hHeld ?_
          rotate_left 2
          · (simp only [List.getElem?_toArray, List.getElem?_cons_succ, List.getElem?_cons_zero]; rfl)
          · exact fun _ _ _ h => h
          · rfl
          · (rintro W' ⟨s0, s1, s2, s3⟩; go_simp; first | done | with_reducible rfl)
          try simp only [Act.put, List.setIfInBounds_toArray, List.set_cons_zero, List.set_cons_succ]
          refine wpAnyH_take (i := 8) (oi := ?_) (v := ?_) ?_ (by kernel_rfl) (by kernel_rfl) (by kernel_rfl) ?_ (Or.inl ⟨?_, ?_⟩) hHeld ?_
          rotate_left 2
          · (simp only [List.getElem?_toArray, List.getElem?_cons_succ, List.getElem?_cons_zero]; rfl)
          · exact fun _ _ _ h => h
          · rfl
          · (rintro W' ⟨s0, s1, s2, s3⟩; go_simp; first | done | with_reducible rfl)
          try simp only [Act.put, List.setIfInBounds_toArray, List.set_cons_zero, List.set_cons_succ]
          refine wpAnyH_take (i := 9) (oi := ?_) (v := ?_) ?_ (by kernel_rfl) (by kernel_rfl) (by kernel_rfl) ?_ (Or.inl ⟨?_, ?_⟩) hHeld ?_
          rotate_left 2
          · (simp only [List.getElem?_toArray, List.getElem?_cons_succ, List.getElem?_cons_zero]; rfl)
          · exact fun _ _ _ h => h
          · rfl
          · (rintro W' ⟨s0, s1, s2, s3⟩; go_simp; first | done | with_reducible rfl)
          try simp only [Act.put, List.setIfInBounds_toArray, List.set_cons_zero, List.set_cons_succ]
          refine wpAnyH_take (i := 10) (oi := ?_) (v := ?_) ?_ (by kernel_rfl) (by kernel_rfl) (by kernel_rfl) ?_ (Or.inl ⟨?_, ?_⟩) hHeld ?_
          rotate_left 2
          · (simp only [List.getElem?_toArray, List.getElem?_cons_succ, List.getElem?_cons_zero]; rfl)
          · exact fun _ _ _ h => h
          · rfl
          · (rintro W' ⟨s0, s1, s2, s3⟩; go_simp; first | done | with_reducible rfl)
          try simp only [Act.put, List.setIfInBounds_toArray, List.set_cons_zero, List.set_cons_succ]
          refine wpAnyH_take (i := 11) (oi := ?_) (v := ?_) ?_ (by kernel_rfl) (by kernel_rfl) (by kernel_rfl) ?_ (Or.inl ⟨?_, ?_⟩) hHeld ?_
          rotate_left 2
          · (simp only [List.getElem?_toArray, List.getElem?_cons_succ, List.getElem?_cons_zero]; rfl)
          · exact fun _ _ _ h => h
          · rfl
          · (rintro W' ⟨s0, s1, s2, s3⟩; go_simp; first | done | with_reducible rfl)
          try simp only [Act.put, List.setIfInBounds_toArray, List.set_cons_zero, List.set_cons_succ]
          generalize w3.drew = w4 at *
          refine wpAnyH_ready (rs := [12, 18]) (by kernel_rfl) (by simp) ?_
          refine AllReadyH.cons (o := ?_) ?_ (fun K hK => ?_) ?_
          rotate_left 1
          · (simp only [List.getElem?_toArray, List.getElem?_cons_succ, List.getElem?_cons_zero]; rfl)
          · (go_simp; refine (HPL.out w4 HC0.out).mono ?_; rintro e w6 ⟨u0, u1, z0, z1, g2, c2, rfl, ⟨rfl, rfl, hsl⟩, _, _, hpt, hD, _, _, _, _⟩; have FT := Lib.hid ((hD.block _ (heap_lt (HS.out.chg HC0.out).top) (HS.out.nd xs (by simp))).trans (HS.out.chg HC0.out).top); have FP := Lib.hid hpt; have HCW := Lib.hid ((HCX.out.trans HC0.out).then hD HN4.out); clear hsl hpt hD)
            refine hK.out _ _ ?_ (fun hHeld => ?_)
            · (have hh := cell4 FT.out; exact hh)
            clear hK K
            try simp only [Act.put, List.setIfInBounds_toArray, List.set_cons_zero, List.set_cons_succ]
            refine wpAnyH_take (i := 13) (oi := ?_) (v := ?_) ?_ (by kernel_rfl) (by kernel_rfl) (by kernel_rfl) ?_ (Or.inl ⟨?_, ?_⟩) hHeld ?_
            rotate_left 2
            · (simp only [List.getElem?_toArray, List.getElem?_cons_succ, List.getElem?_cons_zero]; rfl)
            · exact fun _ _ _ h => h
            · rfl
            · (rintro W' ⟨s0, s1, s2, s3⟩; go_simp; first | done | with_reducible rfl)
            try simp only [Act.put, List.setIfInBounds_toArray, List.set_cons_zero, List.set_cons_succ]
            refine wpAnyH_take (i := 14) (oi := ?_) (v := ?_) ?_ (by kernel_rfl) (by kernel_rfl) (by kernel_rfl) ?_ (Or.inl ⟨?_, ?_⟩) hHeld ?_
            rotate_left 2
            · (simp only [List.getElem?_toArray, List.getElem?_cons_succ, List.getElem?_cons_zero]; rfl)
            · exact fun _ _ _ h => h
            · rfl
            · (rintro W' ⟨s0, s1, s2, s3⟩; go_simp; first | done | with_reducible rfl)
            try simp only [Act.put, List.setIfInBounds_toArray, List.set_cons_zero, List.set_cons_succ]
            refine wpAnyH_take (i := 15) (oi := ?_) (v := ?_) ?_ (by kernel_rfl) (by kernel_rfl) (by kernel_rfl) ?_ (Or.inl ⟨?_, ?_⟩) hHeld ?_
            rotate_left 2
            · (simp only [List.getElem?_toArray, List.getElem?_cons_succ, List.getElem?_cons_zero]; rfl)
            · exact fun _ _ _ h => h
            · rfl
            · (rintro W' ⟨s0, s1, s2, s3⟩; go_simp; first | done | with_reducible rfl)
            try simp only [Act.put, List.setIfInBounds_toArray, List.set_cons_zero, List.set_cons_succ]
            refine wpAnyH_take (i := 16) (oi := ?_) (v := ?_) ?_ (by kernel_rfl) (by kernel_rfl) (by kernel_rfl) ?_ (Or.inl ⟨?_, ?_⟩) hHeld ?_
            rotate_left 2
            · (simp only [List.getElem?_toArray, List.getElem?_cons_succ, List.getElem?_cons_zero]; rfl)
            · exact fun _ _ _ h => h
            · rfl
            · (rintro W' ⟨s0, s1, s2, s3⟩; go_simp; first | done | with_reducible rfl)
            try simp only [Act.put, List.setIfInBounds_toArray, List.set_cons_zero, List.set_cons_succ]
            refine wpAnyH_take (i := 17) (oi := ?_) (v := ?_) ?_ (by kernel_rfl) (by kernel_rfl) (by kernel_rfl) ?_ (Or.inl ⟨?_, ?_⟩) hHeld ?_
            rotate_left 2
            · (simp only [List.getElem?_toArray, List.getElem?_cons_succ, List.getElem?_cons_zero]; rfl)
            · exact fun _ _ _ h => h
            · rfl
            · (rintro W' ⟨s0, s1, s2, s3⟩; go_simp; first | done | with_reducible rfl)
            try simp only [Act.put, List.setIfInBounds_toArray, List.set_cons_zero, List.set_cons_succ]
            refine wpAnyH_ready (rs := [18]) (by kernel_rfl) (by simp) ?_
            refine AllReadyH.cons (o := ?_) ?_ (fun K hK => ?_) AllReadyH.nil
            rotate_left 1
            · (simp only [List.getElem?_toArray, List.getElem?_cons_succ, List.getElem?_cons_zero]; rfl)
            · (go_simp; have FA := Lib.hid (new_block w6 (.cells #[.slice none 0 0, .slice none 0 0] 42)); have CA := (Chg.refl [] w6).alloc (.cells #[.slice none 0 0, .slice none 0 0] 42); have FT2 := Lib.hid ((CA.block _ (heap_lt FT.out) (by simp)).trans FT.out); have FP2 := Lib.hid (FP.out.chg CA (by simp) (by simp) (by simp) (by simp)); have HCW2 := Lib.hid (HCW.out.trans CA); have HRX : Hid (xs ∉ [w6.heap.size] ∧ p ∉ [w6.heap.size] ∧ t ∉ [w6.heap.size] ∧ bc ∉ [w6.heap.size] ∧ bk ∉ [w6.heap.size] ∧ w.heap.size ≤ w6.heap.size) := Lib.hid (by have a0 := HS.out.pt.hp.lt; have a1 := HS.out.pt.ht.lt0; have a2 := HS.out.pt.ht.lt1; have a3 := HS.out.pt.ht.lt2; have a4 := lx; have b0 := FP.out.hp.lt; have b1 := FP.out.ht.lt0; have b2 := FP.out.ht.lt1; have b3 := FP.out.ht.lt2; have b4 := heap_lt FT.out; have b5 := HCW.out.size; simp; omega); clear CA; generalize w6.alloc _ = w7 at *)
              refine hK.out _ _ ?_ (fun hHeld => ?_)
              · (have hh := cell4 FT2.out; exact hh)
              clear hK K
              try simp only [Act.put, List.setIfInBounds_toArray, List.set_cons_zero, List.set_cons_succ]
              refine wpAnyH_ready (rs := [19]) (by kernel_rfl) (by simp) ?_
              refine AllReadyH.cons (o := ?_) ?_ (fun K hK => ?_) AllReadyH.nil
              rotate_left 1
              · (simp only [List.getElem?_toArray, List.getElem?_cons_succ, List.getElem?_cons_zero]; rfl)
              · (have za := cell_of_block FA.out 0; have zb := cell_of_block FA.out 1; have f4 := frozen_of_block FA.out 0; have f5 := frozen_of_block FA.out 1; simp only [List.getElem?_toArray, List.getElem?_cons_zero, List.getElem?_cons_succ] at za zb; have CR : Chg [w6.heap.size] w7 ((w7.setCell ⟨w6.heap.size, 0, none⟩ (.slice (some ⟨g2 0, 0, none⟩) ((PS.start T K1 n A).fin.n 0) (c2 0))).setCell ⟨w6.heap.size, 1, none⟩ (.slice (some ⟨g2 1, 0, none⟩) ((PS.start T K1 n A).fin.n 1) (c2 1))) := ((Chg.refl _ _).setCell (.inl (by simp)) _).setCell (.inl (by simp)) _; have GT := Lib.hid ((CR.block _ (heap_lt FT2.out) HRX.out.1).trans FT2.out); have GP := Lib.hid (FP2.out.chg CR HRX.out.2.1 HRX.out.2.2.1 HRX.out.2.2.2.1 HRX.out.2.2.2.2.1); have GC := Lib.hid (HCW2.out.then CR (fun i hi => by have := HRX.out.2.2.2.2.2; simp at hi; right; omega)); clear CR; go_simp)
                refine hK.out _ _ ?_ (fun hHeld => ?_)
                · (have hh := cell4 GT.out; exact hh)
                clear hK K
                try simp only [Act.put, List.setIfInBounds_toArray, List.set_cons_zero, List.set_cons_succ]
                refine wpAnyH_take (i := 20) (oi := ?_) (v := ?_) ?_ (by kernel_rfl) (by kernel_rfl) (by kernel_rfl) ?_ (Or.inl ⟨?_, ?_⟩) hHeld ?_
                rotate_left 2
                · (simp only [List.getElem?_toArray, List.getElem?_cons_succ, List.getElem?_cons_zero]; rfl)
                · exact fun _ _ _ h => h
                · rfl
                · (rintro W' ⟨s0, s1, s2, s3⟩; go_simp; first | done | with_reducible rfl)
                try simp only [Act.put, List.setIfInBounds_toArray, List.set_cons_zero, List.set_cons_succ]
                refine wpAnyH_take (i := 21) (oi := ?_) (v := ?_) ?_ (by kernel_rfl) (by kernel_rfl) (by kernel_rfl) ?_ (Or.inl ⟨?_, ?_⟩) hHeld ?_
                rotate_left 2
                · (simp only [List.getElem?_toArray, List.getElem?_cons_succ, List.getElem?_cons_zero]; rfl)
                · exact fun _ _ _ h => h
                · rfl
                · (rintro W' ⟨s0, s1, s2, s3⟩; go_simp; first | done | with_reducible rfl)
                try simp only [Act.put, List.setIfInBounds_toArray, List.set_cons_zero, List.set_cons_succ]
                refine wpAnyH_take (i := 22) (oi := ?_) (v := ?_) ?_ (by kernel_rfl) (by kernel_rfl) (by kernel_rfl) ?_ (Or.inl ⟨?_, ?_⟩) hHeld ?_
                rotate_left 2
                · (simp only [List.getElem?_toArray, List.getElem?_cons_succ, List.getElem?_cons_zero]; rfl)
                · exact fun _ _ _ h => h
                · rfl
                · (rintro W' ⟨s0, s1, s2, s3⟩; go_simp; first | done | with_reducible rfl)
                try simp only [Act.put, List.setIfInBounds_toArray, List.set_cons_zero, List.set_cons_succ]
                refine wpAnyH_done (by kernel_rfl) ?_ _
                go_wp2_with fail
                go_meet
                exact ⟨_, _, GP.out, GT.out, GC.out, HFO.out.2.2.2.2.1.trans HKF.out, .inr ⟨by omega, rfl, by have := HFO.out.2.2.2.2.2; rw [HKF.out] at this; exact this⟩⟩
          refine AllReadyH.cons (o := ?_) ?_ (fun K hK => ?_) AllReadyH.nil
          rotate_left 1
          · (simp only [List.getElem?_toArray, List.getElem?_cons_succ, List.getElem?_cons_zero]; rfl)
          · (go_simp; have FA := Lib.hid (new_block w4 (.cells #[.slice none 0 0, .slice none 0 0] 42)); have HAL := Lib.hid (show w3.heap.size ≤ w4.heap.size from HC0.out.size); have HC5 := Lib.hid (HC0.out.alloc (.cells #[.slice none 0 0, .slice none 0 0] 42)); have HRX : Hid (xs ∉ [w4.heap.size] ∧ p ∉ [w4.heap.size] ∧ t ∉ [w4.heap.size] ∧ bc ∉ [w4.heap.size] ∧ bk ∉ [w4.heap.size] ∧ w.heap.size ≤ w4.heap.size) := Lib.hid (by have a0 := HS.out.pt.hp.lt; have a1 := HS.out.pt.ht.lt0; have a2 := HS.out.pt.ht.lt1; have a3 := HS.out.pt.ht.lt2; have a4 := lx; have b0 := HC0.out.size; have b1 := HCX.out.size; simp; omega); generalize w4.alloc _ = w5 at *)
            refine hK.out _ _ ?_ (fun hHeld => ?_)
            · (have hh := cell4 ((HC5.out.block _ lx (by simp)).trans HS.out.top); exact hh)
            clear hK K
            try simp only [Act.put, List.setIfInBounds_toArray, List.set_cons_zero, List.set_cons_succ]
            refine wpAnyH_ready (rs := [12]) (by kernel_rfl) (by simp) ?_
            refine AllReadyH.cons (o := ?_) ?_ (fun K hK => ?_) AllReadyH.nil
            rotate_left 1
            · (simp only [List.getElem?_toArray, List.getElem?_cons_succ, List.getElem?_cons_zero]; rfl)
            · (go_simp; refine (HPL.out w5 HC5.out).mono ?_; rintro e w6 ⟨u0, u1, z0, z1, g2, c2, rfl, ⟨rfl, rfl, hsl⟩, _, _, hpt, hD, _, _, _, _⟩; have FT := Lib.hid ((hD.block _ (heap_lt (HS.out.chg HC5.out).top) (HS.out.nd xs (by simp))).trans (HS.out.chg HC5.out).top); have FP := Lib.hid hpt; have FA2 := Lib.hid ((hD.block _ (heap_lt FA.out) (by have hs := HS.out.pt; have a0 := HS.out.pt.hp.lt; have a1 := HS.out.pt.ht.lt0; have a2 := HS.out.pt.ht.lt1; have a3 := HS.out.pt.ht.lt2; have s1 := HAL.out; simp; omega)).trans FA.out); have HCW := Lib.hid ((HCX.out.trans HC5.out).then hD HN4.out); clear hsl hpt hD)
              refine hK.out _ _ ?_ (fun hHeld => ?_)
              · (have hh := cell4 FT.out; exact hh)
              clear hK K
              try simp only [Act.put, List.setIfInBounds_toArray, List.set_cons_zero, List.set_cons_succ]
              refine wpAnyH_take (i := 13) (oi := ?_) (v := ?_) ?_ (by kernel_rfl) (by kernel_rfl) (by kernel_rfl) ?_ (Or.inl ⟨?_, ?_⟩) hHeld ?_
              rotate_left 2
              · (simp only [List.getElem?_toArray, List.getElem?_cons_succ, List.getElem?_cons_zero]; rfl)
              · exact fun _ _ _ h => h
              · rfl
              · (rintro W' ⟨s0, s1, s2, s3⟩; go_simp; first | done | with_reducible rfl)
              try simp only [Act.put, List.setIfInBounds_toArray, List.set_cons_zero, List.set_cons_succ]
              refine wpAnyH_take (i := 14) (oi := ?_) (v := ?_) ?_ (by kernel_rfl) (by kernel_rfl) (by kernel_rfl) ?_ (Or.inl ⟨?_, ?_⟩) hHeld ?_
              rotate_left 2
              · (simp only [List.getElem?_toArray, List.getElem?_cons_succ, List.getElem?_cons_zero]; rfl)
              · exact fun _ _ _ h => h
              · rfl
              · (rintro W' ⟨s0, s1, s2, s3⟩; go_simp; first | done | with_reducible rfl)
              try simp only [Act.put, List.setIfInBounds_toArray, List.set_cons_zero, List.set_cons_succ]
              refine wpAnyH_take (i := 15) (oi := ?_) (v := ?_) ?_ (by kernel_rfl) (by kernel_rfl) (by kernel_rfl) ?_ (Or.inl ⟨?_, ?_⟩) hHeld ?_
              rotate_left 2
              · (simp only [List.getElem?_toArray, List.getElem?_cons_succ, List.getElem?_cons_zero]; rfl)
              · exact fun _ _ _ h => h
              · rfl
              · (rintro W' ⟨s0, s1, s2, s3⟩; go_simp; first | done | with_reducible rfl)
              try simp only [Act.put, List.setIfInBounds_toArray, List.set_cons_zero, List.set_cons_succ]
              refine wpAnyH_take (i := 16) (oi := ?_) (v := ?_) ?_ (by kernel_rfl) (by kernel_rfl) (by kernel_rfl) ?_ (Or.inl ⟨?_, ?_⟩) hHeld ?_
              rotate_left 2
              · (simp only [List.getElem?_toArray, List.getElem?_cons_succ, List.getElem?_cons_zero]; rfl)
              · exact fun _ _ _ h => h
              · rfl
              · (rintro W' ⟨s0, s1, s2, s3⟩; go_simp; first | done | with_reducible rfl)
              try simp only [Act.put, List.setIfInBounds_toArray, List.set_cons_zero, List.set_cons_succ]
              refine wpAnyH_take (i := 17) (oi := ?_) (v := ?_) ?_ (by kernel_rfl) (by kernel_rfl) (by kernel_rfl) ?_ (Or.inl ⟨?_, ?_⟩) hHeld ?_
              rotate_left 2
              · (simp only [List.getElem?_toArray, List.getElem?_cons_succ, List.getElem?_cons_zero]; rfl)
              · exact fun _ _ _ h => h
              · rfl
              · (rintro W' ⟨s0, s1, s2, s3⟩; go_simp; first | done | with_reducible rfl)
              try simp only [Act.put, List.setIfInBounds_toArray, List.set_cons_zero, List.set_cons_succ]
              refine wpAnyH_ready (rs := [19]) (by kernel_rfl) (by simp) ?_
              refine AllReadyH.cons (o := ?_) ?_ (fun K hK => ?_) AllReadyH.nil
              rotate_left 1
              · (simp only [List.getElem?_toArray, List.getElem?_cons_succ, List.getElem?_cons_zero]; rfl)
              · (have za := cell_of_block FA2.out 0; have zb := cell_of_block FA2.out 1; have f4 := frozen_of_block FA2.out 0; have f5 := frozen_of_block FA2.out 1; simp only [List.getElem?_toArray, List.getElem?_cons_zero, List.getElem?_cons_succ] at za zb; have CR : Chg [w4.heap.size] w6 ((w6.setCell ⟨w4.heap.size, 0, none⟩ (.slice (some ⟨g2 0, 0, none⟩) ((PS.start T K1 n A).fin.n 0) (c2 0))).setCell ⟨w4.heap.size, 1, none⟩ (.slice (some ⟨g2 1, 0, none⟩) ((PS.start T K1 n A).fin.n 1) (c2 1))) := ((Chg.refl _ _).setCell (.inl (by simp)) _).setCell (.inl (by simp)) _; have GT := Lib.hid ((CR.block _ (heap_lt FT.out) HRX.out.1).trans FT.out); have GP := Lib.hid (FP.out.chg CR HRX.out.2.1 HRX.out.2.2.1 HRX.out.2.2.2.1 HRX.out.2.2.2.2.1); have GC := Lib.hid (HCW.out.then CR (fun i hi => by have := HRX.out.2.2.2.2.2; simp at hi; right; omega)); clear CR; go_simp)
                refine hK.out _ _ ?_ (fun hHeld => ?_)
                · (have hh := cell4 GT.out; exact hh)
                clear hK K
                try simp only [Act.put, List.setIfInBounds_toArray, List.set_cons_zero, List.set_cons_succ]
                refine wpAnyH_take (i := 20) (oi := ?_) (v := ?_) ?_ (by kernel_rfl) (by kernel_rfl) (by kernel_rfl) ?_ (Or.inl ⟨?_, ?_⟩) hHeld ?_
                rotate_left 2
                · (simp only [List.getElem?_toArray, List.getElem?_cons_succ, List.getElem?_cons_zero]; rfl)
                · exact fun _ _ _ h => h
                · rfl
                · (rintro W' ⟨s0, s1, s2, s3⟩; go_simp; first | done | with_reducible rfl)
                try simp only [Act.put, List.setIfInBounds_toArray, List.set_cons_zero, List.set_cons_succ]
                refine wpAnyH_take (i := 21) (oi := ?_) (v := ?_) ?_ (by kernel_rfl) (by kernel_rfl) (by kernel_rfl) ?_ (Or.inl ⟨?_, ?_⟩) hHeld ?_
                rotate_left 2
                · (simp only [List.getElem?_toArray, List.getElem?_cons_succ, List.getElem?_cons_zero]; rfl)
                · exact fun _ _ _ h => h
                · rfl
                · (rintro W' ⟨s0, s1, s2, s3⟩; go_simp; first | done | with_reducible rfl)
                try simp only [Act.put, List.setIfInBounds_toArray, List.set_cons_zero, List.set_cons_succ]
                refine wpAnyH_take (i := 22) (oi := ?_) (v := ?_) ?_ (by kernel_rfl) (by kernel_rfl) (by kernel_rfl) ?_ (Or.inl ⟨?_, ?_⟩) hHeld ?_
                rotate_left 2
                · (simp only [List.getElem?_toArray, List.getElem?_cons_succ, List.getElem?_cons_zero]; rfl)
                · exact fun _ _ _ h => h
                · rfl
                · (rintro W' ⟨s0, s1, s2, s3⟩; go_simp; first | done | with_reducible rfl)
                try simp only [Act.put, List.setIfInBounds_toArray, List.set_cons_zero, List.set_cons_succ]
                refine wpAnyH_done (by kernel_rfl) ?_ _
                go_wp2_with fail
                go_meet
                exact ⟨_, _, GP.out, GT.out, GC.out, HFO.out.2.2.2.2.1.trans HKF.out, .inr ⟨by omega, rfl, by have := HFO.out.2.2.2.2.2; rw [HKF.out] at this; exact this⟩⟩

      case rest =>
        obtain ⟨K2, T2, hp2, ht2, hc2, hf2, hcase⟩ := hcut.out
        clear hcut y0 y1 y2 y3
        have x0 := cell_of_block ht2 0
        have x1 := cell_of_block ht2 1
        have x2 := cell_of_block ht2 2
        have x3 := cell_of_block ht2 3
        simp only [List.getElem?_toArray, List.getElem?_cons_zero, List.getElem?_cons_succ] at x0 x1 x2 x3
        have cR := PT.room hp2
        rw [hf2] at cR
        have HC2 := Lib.hid hc2
        clear hp2 ht2 hc2 hf2 x2 x3
        rcases hcase with ⟨hlt, rfl, rfl⟩ | ⟨hge, rfl, hle⟩
        · go_wp2_with fail
          refine cR.mono ?_
          rintro e w' ⟨rfl, rfl⟩
          clear cR
          go_wp2_with fail
          refine (awake10_at _).mono ?_
          rintro e w9 ⟨rfl, hC9⟩
          have HC9 := Lib.hid (HC2.out.trans hC9)
          clear hC9
          go_wp2_with fail
          go_ret
          exact ⟨rfl, HC9.out.below (by simp)⟩
        · have hlt : ¬ roomI T 2 < (needN N : Int) := by omega
          go_wp2_with fail
          refine cR.mono ?_
          rintro e w' ⟨rfl, rfl⟩
          clear cR
          go_wp2_with fail
          refine (awake10_at _).mono ?_
          rintro e w9 ⟨rfl, hC9⟩
          have HC9 := Lib.hid (HC2.out.trans hC9)
          clear hC9
          go_wp2_with fail
          go_ret
          exact ⟨rfl, HC9.out.below (by simp)⟩

end Go.Proofs.Ytnhabpbdpjgiiaa
