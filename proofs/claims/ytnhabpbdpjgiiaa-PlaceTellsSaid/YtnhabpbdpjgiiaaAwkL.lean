/- Layer 10: the chapter's examples, reckoned. -/
import Derived.Test.YtnhabpbdpjgiiaaPlT
namespace Go.Proofs.Ytnhabpbdpjgiiaa
open Go.RowKit
set_option linter.unusedVariables false

def aF1 : PS := (PS.start (Tal.new 16) ⟨2, 2, 0⟩ (nOf 16) (fun _ _ => 0)).fin
def aS2 : PS := PS.start aF1.T.keep aF1.K aF1.n aF1.a
def aF3 : PS := (PS.start (up aF1.T.keep 9) aF1.K aF1.n aF1.a).fin
set_option maxRecDepth 100000
theorem a1_n0 : aF1.n 0 = 1 := by kernel_rfl
theorem a1_n1 : aF1.n 1 = 1 := by kernel_rfl
theorem a1_a0 : aF1.a 0 0 = 2 := by kernel_rfl
theorem a1_a1 : aF1.a 1 0 = 3 := by kernel_rfl
theorem a1_y0 : yesTo (aF1.p 0) (aF1.n 0) = [0] := by kernel_rfl
theorem a1_y1 : yesTo (aF1.p 1) (aF1.n 1) = [0] := by kernel_rfl
theorem a1_l0 : atL aF1.a aF1.n 0 = [2] := by kernel_rfl
theorem a1_l1 : atL aF1.a aF1.n 1 = [3] := by kernel_rfl
theorem a1_t1 : aF1.T.now 1 = 0 := by kernel_rfl
theorem a1_t2 : aF1.T.now 2 = 1 := by kernel_rfl
theorem a1_t3 : aF1.T.now 3 = 1 := by kernel_rfl
theorem a1_tn : aF1.T.n = 16 := by kernel_rfl
theorem a2_next : aS2.next = none := by kernel_rfl
theorem a2_room : (needN aF1.T.keep.n : Int) ≤ roomI aF1.T.keep aF1.K.first := of_decide_eq_true (by kernel_rfl)
theorem a3_room : (needN (up aF1.T.keep 9).n : Int) ≤ roomI (up aF1.T.keep 9) aF1.K.first := of_decide_eq_true (by kernel_rfl)
theorem a3_l0 : atL aF3.a aF3.n 0 = [4] := by kernel_rfl
theorem a3_l1 : atL aF3.a aF3.n 1 = [5] := by kernel_rfl
theorem a3_y0 : yesTo (aF3.p 0) (aF3.n 0) = [0] := by kernel_rfl
theorem a3_y1 : yesTo (aF3.p 1) (aF3.n 1) = [0] := by kernel_rfl
theorem a3_g2 : getV aF3.T 2 = 0 := by kernel_rfl
theorem a3_g3 : getV aF3.T 3 = 0 := by kernel_rfl
theorem a2_y0 : yesTo (aS2.p 0) (aS2.n 0) = [] := by kernel_rfl
theorem a2_y1 : yesTo (aS2.p 1) (aS2.n 1) = [] := by kernel_rfl
theorem a3_n0 : aF3.n 0 = 1 := by kernel_rfl
theorem a3_n1 : aF3.n 1 = 1 := by kernel_rfl
theorem a1_inv : PInv aF1 := (fin_ok (empty_ok (Tal.new 16)) (K := ⟨2, 2, 0⟩) (Nat.le_refl _) (show 2 ≤ 16 by omega) (need_new (n := 16) (by decide))).1
theorem up_ok {T : Tal} {n : Nat → Nat} {a : Nat → Nat → Nat} (h : ShOk T n a) (b : Int) : ShOk (up T b) n a := by
  refine ⟨by rw [up_n]; exact h.n0, by rw [up_n]; exact h.n1, fun k i hk hi h0 => ?_, h.apart⟩
  have := h.has k i hk hi h0
  refine ⟨by rw [up_n]; exact this.1, ?_⟩
  unfold up
  split
  · rw [set_now]
    split
    · omega
    · exact this.2
  · exact this.2
end Go.Proofs.Ytnhabpbdpjgiiaa
