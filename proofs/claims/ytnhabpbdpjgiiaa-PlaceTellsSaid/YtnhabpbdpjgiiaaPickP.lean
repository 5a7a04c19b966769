/- A pick and its tally together: one predicate, one contract for each call. -/
import Derived.Test.YtnhabpbdpjgiiaaPickT
import Derived.Test.YtnhabpbdpjgiiaaTalN
namespace Go.Proofs.Ytnhabpbdpjgiiaa
open Go.RowKit

structure PT (w : World) (p t bc bk : Nat) (K : Pk) (T : Tal) : Prop where
  hp : PickAt w p t K
  ht : TallyAt w t bc bk T
  f : K.first ≤ K.next
  n : K.next ≤ T.n
  a : K.asked ≤ 4096

theorem askK_bd {T : Tal} {K : Pk} {n : Int} (hf : K.first ≤ T.n) (hn : T.n ≤ 4096) (ha : K.asked ≤ 4096) : (askK T K n).first = K.first ∧ (askK T K n).next = K.next ∧ (askK T K n).asked ≤ 4096 := by
  have hb := roomI_bd hf
  unfold askK askE
  by_cases h0 : n < 0
  · simp [h0]; exact ha
  · by_cases h1 : roomI T K.first - K.asked < n
    · simp [h0, h1]; exact ha
    · simp [h0, h1]; omega

theorem takeK_bd {T : Tal} {K : Pk} (hf : K.first ≤ K.next) (hn : K.next ≤ T.n) : (takeK T K).first ≤ (takeK T K).next ∧ (takeK T K).next ≤ T.n ∧ (takeK T K).asked = K.asked ∧ (takeK T K).first = K.first := by
  unfold takeK
  cases hr : takeR T K with
  | none => exact ⟨hf, hn, rfl, rfl⟩
  | some b =>
    obtain ⟨h1, h2, _⟩ := takeR_spec hf hn hr
    by_cases e : b + 1 = T.n
    · simp [e]; omega
    · simp [e]; omega

theorem takeT_n (T : Tal) (K : Pk) : (takeT T K).n = T.n := by
  unfold takeT
  cases takeR T K <;> rfl
theorem up_n (T : Tal) (b : Int) : (up T b).n = T.n := by unfold up; split <;> rfl
theorem down_n (T : Tal) (b : Int) : (down T b).n = T.n := by unfold down; split <;> rfl

section
variable {w : World} {p t bc bk : Nat} {K : Pk} {T : Tal} (h : PT w p t bc bk K T)
include h

theorem PT.chg {w' : World} {L : List Nat} (c : Chg L w w') (h0 : p ∉ L) (h1 : t ∉ L) (h2 : bc ∉ L) (h3 : bk ∉ L) : PT w' p t bc bk K T :=
  ⟨h.hp.chg c h0, h.ht.chg c h1 h2 h3, h.f, h.n, h.a⟩
theorem PT.drew : PT w.drew p t bc bk K T := ⟨⟨h.hp.top⟩, h.ht.chg (Chg.drew (Chg.refl [] _)) (by simp) (by simp) (by simp), h.f, h.n, h.a⟩
theorem PT.drewN (n : Nat) : PT (w.drewN n) p t bc bk K T := ⟨⟨h.hp.top⟩, h.ht.chg (Chg.drewN (Chg.refl [] _) n) (by simp) (by simp) (by simp), h.f, h.n, h.a⟩

theorem PT.room : Calls Try.prog 29 #[.pointer (some ⟨p, 0, none⟩)] w fun e w' => e = .returned (.int .i64 (roomI T K.first)) ∧ w = w' :=
  room_at h.hp h.ht (Nat.le_trans h.f h.n)
theorem PT.take : Calls Try.prog 13 #[.pointer (some ⟨p, 0, none⟩)] w fun e w' => e = .returned (.tuple #[.int .i64 (takeB T K), .int .i64 (takeE T K)]) ∧ PT w' p t bc bk (takeK T K) (takeT T K) ∧ Chg [p, t, bc, bk] w w' := by
  refine (take_at h.hp h.ht h.f h.n).mono fun e w' ⟨he, hp', ht', hc⟩ => ⟨he, ?_, hc⟩
  obtain ⟨b1, b2, b3, _⟩ := takeK_bd h.f h.n
  exact ⟨hp', ht', b1, by rw [takeT_n]; exact b2, by rw [b3]; exact h.a⟩
theorem PT.up (b : Int) : Calls Try.prog 15 #[.pointer (some ⟨t, 0, none⟩), .int .i64 b] w fun e w' => e = .returned (.int .i64 (upE T b)) ∧ PT w' p t bc bk K (up T b) ∧ Chg [p, t, bc, bk] w w' :=
  (up_at h.ht b).mono fun _ _ ⟨he, ht', hc⟩ => ⟨he, ⟨h.hp.chg hc (pick_ne h.hp h.ht), ht', h.f, by rw [up_n]; exact h.n, h.a⟩, hc.mono (by simp)⟩
theorem PT.down (b : Int) : Calls Try.prog 17 #[.pointer (some ⟨t, 0, none⟩), .int .i64 b] w fun e w' => e = .returned (.int .i64 (downE T b)) ∧ PT w' p t bc bk K (down T b) ∧ Chg [p, t, bc, bk] w w' :=
  (down_at h.ht b).mono fun _ _ ⟨he, ht', hc⟩ => ⟨he, ⟨h.hp.chg hc (pick_ne h.hp h.ht), ht', h.f, by rw [down_n]; exact h.n, h.a⟩, hc.mono (by simp)⟩
theorem PT.keep : Calls Try.prog 18 #[.pointer (some ⟨t, 0, none⟩)] w fun e w' => e = .returned (.tuple #[]) ∧ PT w' p t bc bk K T.keep ∧ Chg [p, t, bc, bk] w w' := by
  have hne := pick_ne h.hp h.ht
  refine (keep_at h.ht).mono fun _ _ ⟨he, ht', hc⟩ => ⟨he, ⟨h.hp.chg hc (by simp at hne ⊢; exact ⟨hne.1, hne.2.2⟩), ht', h.f, h.n, h.a⟩, hc.mono (by simp)⟩
end

theorem tnew_ex (n : Nat) (w : World) (h1 : 1 ≤ n) (h2 : n ≤ 4096) :
    Calls Try.prog 6 #[.int .i64 (n : Int)] w fun e w' => ∃ t bc bk, e = .returned (.tuple #[.pointer (some ⟨t, 0, none⟩), .int .i64 0]) ∧
      TallyAt w' t bc bk (Tal.new n) ∧ Chg [] w w' ∧ w.heap.size ≤ t ∧ w.heap.size ≤ bc ∧ w.heap.size ≤ bk :=
  (tnew_at n w h1 h2).mono fun _ _ ⟨he, ht, hc⟩ => ⟨_, _, _, he, ht, hc, by omega, by omega, by omega⟩

theorem pnew_ex {w : World} {t bc bk m : Nat} (h : TallyAt w t bc bk (Tal.new m)) (n : Nat) (hn : n ≤ m) :
    Calls Try.prog 7 #[.pointer (some ⟨t, 0, none⟩), .int .i64 (n : Int)] w fun e w' => ∃ p, e = .returned (.tuple #[.pointer (some ⟨p, 0, none⟩), .int .i64 0]) ∧
      PT w' p t bc bk ⟨n, n, 0⟩ (Tal.new m) ∧ Chg [] w w' ∧ w.heap.size ≤ p :=
  (pnew_at h n hn).mono fun _ _ ⟨he, hp, hc⟩ => ⟨_, he, ⟨hp, h.chg hc (by simp) (by simp) (by simp), Nat.le_refl _, hn, Nat.zero_le _⟩, hc, Nat.le_refl _⟩

/-- A tally and a pick, both new. -/
theorem PT.made {w1 w2 : World} {t p bc bk : Nat} {n first : Nat} (ht : TallyAt w1 t bc bk (Tal.new n)) (hp : PickAt w2 p t ⟨first, first, 0⟩) (hc : Chg [] w1 w2) (hn : first ≤ n) : PT w2 p t bc bk ⟨first, first, 0⟩ (Tal.new n) :=
  ⟨hp, ht.chg hc (by simp) (by simp) (by simp), Nat.le_refl _, hn, Nat.zero_le _⟩

end Go.Proofs.Ytnhabpbdpjgiiaa
