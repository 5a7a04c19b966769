/- Layer 10: place.Place of a stage, whether there is room or not: what is left, and where a statement keeps it. -/
import Derived.Test.YtnhabpbdpjgiiaaPlO
namespace Go.Proofs.Ytnhabpbdpjgiiaa
open Go.RowKit
set_option linter.unusedVariables false
set_option linter.unusedSimpArgs false

/-- What Place of a stage leaves, from wc to w6. -/
def PlQ (wc w6 : World) (p t bc bk : Nat) (K : Pk) (T : Tal) (A : Nat → Nat → Nat) (n : Nat → Nat) (N : Nat) (v0 v1 z0 z1 : Value) (ev : Int) : Prop :=
  (roomI T 2 < (needN N : Int) ∧ ev = 90 ∧ z0 = .slice none 0 0 ∧ z1 = .slice none 0 0 ∧ Chg [] wc w6) ∨
  ((needN N : Int) ≤ roomI T 2 ∧ ev = 0 ∧ ∃ g2 c2 : Nat → Nat, ShV w6 v0 v1 (PS.start T K n A).fin.a n g2 c2 ∧ SlI w6 z0 (yesTo ((PS.start T K n A).fin.p 0) (n 0)) ∧ SlI w6 z1 (yesTo ((PS.start T K n A).fin.p 1) (n 1)) ∧
    PT w6 p t bc bk (PS.start T K n A).fin.K (PS.start T K n A).fin.T ∧ Chg [p, t, bc, bk] wc w6 ∧ (∀ k, k < 2 → wc.heap.size ≤ g2 k) ∧ (∀ b, z0.ownBlock = some b → wc.heap.size ≤ b) ∧ (∀ b, z1.ownBlock = some b → wc.heap.size ≤ b))
def PlAny (wc : World) (p t bc bk : Nat) (K : Pk) (T : Tal) (A : Nat → Nat → Nat) (n : Nat → Nat) (N : Nat) (e : Ending) (w6 : World) : Prop :=
  ∃ (a0 a1 a2 a3 : Option Addr) (m0 m1 m2 m3 c0 c1 c2 c3 : Nat) (ev : Int), e = .returned (.tuple #[.agg #[.slice a0 m0 c0, .slice a1 m1 c1], .slice a2 m2 c2, .slice a3 m3 c3, .int .i64 ev]) ∧
    Hid (PlQ wc w6 p t bc bk K T A n N (.slice a0 m0 c0) (.slice a1 m1 c1) (.slice a2 m2 c2) (.slice a3 m3 c3) ev)
theorem SlI.form {w : World} {v : Value} {l : List Nat} (h : SlI w v l) : ∃ a c, v = .slice a l.length c ∧ ∀ b, v.ownBlock = some b → b < w.heap.size := by
  rcases h with ⟨rfl, rfl⟩ | ⟨g, c, rfl, _, _, hl, _⟩
  · exact ⟨none, 0, rfl, fun b hb => by cases hb⟩
  · refine ⟨_, c, rfl, fun b hb => ?_⟩
    have : g = b := by simpa [Value.ownBlock] using hb
    omega

theorem place_any {w wc : World} {xs p t bc bk : Nat} {K : Pk} {T : Tal} {g c : Nat → Nat} {A : Nat → Nat → Nat} {n : Nat → Nat} {N : Nat} (H : StO w xs p t bc bk K T g c A n N) (C : Chg [] w wc) :
    Calls Try.prog 20 #[.pointer (some ⟨t, 0, none⟩), .pointer (some ⟨p, 0, none⟩), .agg #[.slice (some ⟨g 0, 0, none⟩) (n 0) (c 0), .slice (some ⟨g 1, 0, none⟩) (n 1) (c 1)]] wc (PlAny wc p t bc bk K T A n N) := by
  by_cases hr : roomI T 2 < (needN N : Int)
  · refine (place_full (H.st.chg C).pt (H.st.chg C).sh H.st.ok (by rw [H.n, H.f]; exact hr)).mono ?_
    rintro e w6 ⟨rfl, hC⟩
    exact ⟨_, _, _, _, _, _, _, _, _, _, _, _, _, rfl, .inl ⟨hr, rfl, rfl, rfl, hC⟩⟩
  · have hr' : (needN N : Int) ≤ roomI T 2 := by omega
    have fo := fin_ok H.st.ok H.st.pt.f H.st.pt.n (by rw [H.n, H.f]; exact hr')
    refine (place_ok (H.st.chg C).pt (H.st.chg C).sh H.st.ok (by rw [H.n, H.f]; exact hr')).mono ?_
    rintro e w6 ⟨u0, u1, z0, z1, g2, c2, rfl, hs, hz0, hz1, hpt, hC, hg, _, hb0, hb1⟩
    rw [fo.2.2.1] at hs hz0 hz1
    obtain ⟨a2, c2', rfl, _⟩ := hz0.form
    obtain ⟨a3, c3', rfl, _⟩ := hz1.form
    have e0 := hs.e0
    have e1 := hs.e1
    subst e0 e1
    exact ⟨_, _, _, _, _, _, _, _, _, _, _, _, _, rfl, .inr ⟨hr', rfl, g2, c2, hs, hz0, hz1, hpt, hC, hg, hb0, hb1⟩⟩

/-- What the statement has behind it: its copy of the sheet lies in block sb. -/
structure PlEnd (w W : World) (p t bc bk : Nat) (K : Pk) (T : Tal) (A : Nat → Nat → Nat) (n : Nat → Nat) (N sb : Nat) (v0 v1 z0 z1 : Value) (ev : Int) : Prop where
  s : w.heap.size ≤ sb
  sc : W.heap[sb]? = some (.cells #[v0, v1] 42 (0, 0))
  sn : sb ∉ [p, t, bc, bk]
  q : PlQ w W p t bc bk K T A n N v0 v1 z0 z1 ev

theorem plEnd_mk {w wc w6 W : World} {xs p t bc bk : Nat} {K : Pk} {T : Tal} {g c : Nat → Nat} {A : Nat → Nat → Nat} {n : Nat → Nat} {N r : Nat} {v0 v1 z0 z1 : Value} {ev : Int} (H : StO w xs p t bc bk K T g c A n N) (C : Chg [] w wc) (h : PlQ wc w6 p t bc bk K T A n N v0 v1 z0 z1 ev)
    (CR : Chg [r] w6 W) (hr : w.heap.size ≤ r) (hrr : r < wc.heap.size ∨ w6.heap.size ≤ r) (hb : W.heap[r]? = some (.cells #[v0, v1] 42 (0, 0))) : PlEnd w W p t bc bk K T A n N r v0 v1 z0 z1 ev := by
  have a0 := H.st.pt.hp.lt
  have a1 := H.st.pt.ht.lt0
  have a2 := H.st.pt.ht.lt1
  have a3 := H.st.pt.ht.lt2
  have sz := C.size
  have hn : r ∉ [p, t, bc, bk] := by simp; omega
  refine ⟨hr, hb, hn, ?_⟩
  rcases h with ⟨h1, h2, h3, h4, hC⟩ | ⟨h1, h2, g2, c2, hs, hz0, hz1, hpt, hC, hg, hb0, hb1⟩
  · exact .inl ⟨h1, h2, h3, h4, (C.trans hC).then CR (fun i hi => by simp at hi; right; omega)⟩
  · refine .inr ⟨h1, h2, g2, c2, ?_, ?_, ?_, ?_, ?_, ?_, ?_, ?_⟩
    · have l0 := (hs.cap (k := 0) (by omega)).2
      have l1 := (hs.cap (k := 1) (by omega)).2
      have q0 := hg 0 (by omega)
      have q1 := hg 1 (by omega)
      exact hs.chg CR (by simp; omega) (by simp; omega)
    · obtain ⟨a, c', hv, hl⟩ := hz0.form
      exact hz0.chg CR (fun b hb => by have := hb0 b hb; have := hl b hb; simp; omega)
    · obtain ⟨a, c', hv, hl⟩ := hz1.form
      exact hz1.chg CR (fun b hb => by have := hb1 b hb; have := hl b hb; simp; omega)
    · exact hpt.chg CR (by simp; omega) (by simp; omega) (by simp; omega) (by simp; omega)
    · exact ((C.mono (by simp)).trans hC).then CR (fun i hi => by simp at hi; right; omega)
    · exact fun k hk => Nat.le_trans sz (hg k hk)
    · exact fun b hb => Nat.le_trans sz (hb0 b hb)
    · exact fun b hb => Nat.le_trans sz (hb1 b hb)

end Go.Proofs.Ytnhabpbdpjgiiaa
