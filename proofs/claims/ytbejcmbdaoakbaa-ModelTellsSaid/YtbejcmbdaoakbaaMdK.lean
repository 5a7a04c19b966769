/- The chapter's examples, plainly: what each of the sixteen operations tells. -/
import Derived.Test.YtbejcmbdaoakbaaMdZ
import Derived.Test.YtbejcmbdaoakbaaMdV
namespace Go.Proofs.Ytbejcmbdaoakbaa
open Go.RowKit Go.Maps
set_option linter.unusedVariables false
set_option linter.unusedSimpArgs false

noncomputable def runS (S : St) (z : Nat → Opn) : Nat → St
  | 0 => S
  | k + 1 => stOf (runS S z k) (z k)
theorem upd_kU {V : Lit → Option VD} {a b : Nat} {x : Option VD} : upd V (kU a) x (kU b) = if b = a then x else V (kU b) := by
  by_cases h : b = a
  · subst h; rw [upd_same, if_pos rfl]
  · rw [upd_other (fun e => h (kU_inj e)), if_neg h]

def zz : Nat → Nat := fun _ => 0
def ones : Nat → Nat := fun _ => 1
def twos : Nat → Nat := fun _ => 2
def zA (k : Nat) : Opn :=
  match k with
  | 0 => ⟨1, 0, 0, 0, 0, zz⟩ | 1 => ⟨5, 1, 3, 0, 128, ones⟩ | 2 => ⟨3, 1, 0, 0, 0, zz⟩ | 3 => ⟨5, 1, 3, 0, 128, twos⟩
  | 4 => ⟨4, 2, 3, 0, 0, zz⟩ | 5 => ⟨4, 1, 0, 0, 0, zz⟩ | 6 => ⟨6, 2, 0, 4, 0, zz⟩ | 7 => ⟨6, 2, 0, 5, 0, zz⟩
  | 8 => ⟨4, 2, 3, 0, 0, zz⟩ | 9 => ⟨5, 1, 4, 0, 128, ones⟩ | 10 => ⟨5, 1, 3, 0, 127, ones⟩ | 11 => ⟨5, 7, 9, 0, 0, zz⟩
  | 12 => ⟨2, 1, 0, 0, 0, zz⟩ | 13 => ⟨1, 0, 0, 0, 0, zz⟩ | 14 => ⟨9, 0, 0, 0, 0, zz⟩ | _ => ⟨0, 0, 0, 0, 0, zz⟩
def wA (k : Nat) : Rep :=
  match k with
  | 0 => ⟨0, 1, 0, zz, 0⟩ | 2 => ⟨0, 2, 0, zz, 0⟩ | 4 => ⟨0, 0, 128, ones, 0⟩ | 5 => ⟨0, 0, 128, zz, 0⟩ | 6 => ⟨0, 0, 0, zz, 1⟩ | 7 => ⟨241, 0, 0, zz, 0⟩
  | 8 => ⟨0, 0, 128, zz, 0⟩ | 9 => ⟨241, 0, 0, zz, 0⟩ | 10 => ⟨242, 0, 0, zz, 0⟩ | 11 => ⟨200, 0, 0, zz, 0⟩ | 13 => ⟨0, 3, 0, zz, 0⟩ | 14 => ⟨0, 0, 0, zz, 2⟩ | 15 => ⟨240, 0, 0, zz, 0⟩
  | _ => ⟨0, 0, 0, zz, 0⟩

def vE : VD := .map []
def v1 : VD := .map [(kU 3, .held (.agg (u8s 128 ones)))]
def v2 : VD := .map [(kU 3, .held (.agg (u8s 128 twos)))]
theorem put_e (f : Nat → Nat) : (vE).put (kU 3) (.held (.agg (u8s 128 f))) = .map [(kU 3, .held (.agg (u8s 128 f)))] := rfl
theorem put_v1 (f : Nat → Nat) : (v1).put (kU 3) (.held (.agg (u8s 128 f))) = .map [(kU 3, .held (.agg (u8s 128 f)))] := rfl
theorem del_v1 : Lib.deleteFuncD (pdT 0 4) v1 = vE := by
  unfold Lib.deleteFuncD v1 vE
  simp [pdT, kU]
theorem at_v1 : blkAt v1 3 = .agg (u8s 128 ones) := rfl
theorem at_e (n : Nat) : blkAt vE n = .agg zBlk := rfl
theorem at_v2 : blkAt v2 0 = .agg zBlk := rfl

noncomputable def U1 : Lit → Option VD := upd (fun _ => none) (kU 1) (some vE)
noncomputable def U2 : Lit → Option VD := upd U1 (kU 1) (some v1)
noncomputable def U3 : Lit → Option VD := upd U2 (kU 2) (some v1)
noncomputable def U4 : Lit → Option VD := upd U3 (kU 1) (some v2)
noncomputable def U7 : Lit → Option VD := upd U4 (kU 2) (some vE)
noncomputable def U13 : Lit → Option VD := upd U7 (kU 1) none
noncomputable def U14 : Lit → Option VD := upd U13 (kU 3) (some vE)
theorem U4_1 : U4 (kU 1) = some v2 := by unfold U4; rw [upd_kU]; rfl
theorem U4_2 : U4 (kU 2) = some v1 := by unfold U4; rw [upd_kU, if_neg (by decide)]; unfold U3; rw [upd_kU]; rfl
theorem U7_1 : U7 (kU 1) = some v2 := by unfold U7; rw [upd_kU, if_neg (by decide)]; exact U4_1
theorem U7_2 : U7 (kU 2) = some vE := by unfold U7; rw [upd_kU]; rfl
theorem U7_7 : U7 (kU 7) = none := by
  unfold U7 U4 U3 U2 U1
  rw [upd_kU, if_neg (by decide), upd_kU, if_neg (by decide), upd_kU, if_neg (by decide), upd_kU, if_neg (by decide), upd_kU, if_neg (by decide)]
theorem U2_1 : U2 (kU 1) = some v1 := by unfold U2; rw [upd_kU]; rfl
theorem U2_2 : U2 (kU 2) = none := by unfold U2 U1; rw [upd_kU, if_neg (by decide), upd_kU, if_neg (by decide)]
theorem U1_1 : U1 (kU 1) = some vE := by unfold U1; rw [upd_kU]; rfl
theorem U3_1 : U3 (kU 1) = some v1 := by unfold U3; rw [upd_kU, if_neg (by decide)]; exact U2_1
theorem U13_3 : U13 (kU 3) = none := by
  unfold U13 U7 U4 U3 U2 U1
  rw [upd_kU, if_neg (by decide), upd_kU, if_neg (by decide), upd_kU, if_neg (by decide), upd_kU, if_neg (by decide), upd_kU, if_neg (by decide), upd_kU, if_neg (by decide)]

noncomputable def R4 (k : Nat) : St := runS (St.new 4) zA k
theorem r0 : R4 0 = ⟨4, 0, 0, fun _ => none⟩ := rfl
theorem r1 : R4 1 = ⟨4, 1, 1, U1⟩ := by
  show stOf (R4 0) (zA 0) = _
  rw [r0]
  simp [stOf, errOf, flagsOf, wrongS, zA, St.made, U1, vE]
theorem r2 : R4 2 = ⟨4, 1, 1, U2⟩ := by
  show stOf (R4 1) (zA 1) = _
  rw [r1]
  simp [stOf, errOf, flagsOf, wrongS, zA, St.setVol, St.volOf, U1_1, U2, put_e, v1]
theorem r3 : R4 3 = ⟨4, 2, 2, U3⟩ := by
  show stOf (R4 2) (zA 2) = _
  rw [r2]
  simp [stOf, errOf, flagsOf, wrongS, zA, St.made, St.volOf, U2_1, U2_2, U3]
theorem r4 : R4 4 = ⟨4, 2, 2, U4⟩ := by
  show stOf (R4 3) (zA 3) = _
  rw [r3]
  simp [stOf, errOf, flagsOf, wrongS, zA, St.setVol, St.volOf, U3_1, U4, put_v1, v2]
theorem r5 : R4 5 = ⟨4, 2, 2, U4⟩ := by
  show stOf (R4 4) (zA 4) = _
  rw [r4]
  simp [stOf, errOf, flagsOf, wrongS, zA]
theorem r6 : R4 6 = ⟨4, 2, 2, U4⟩ := by
  show stOf (R4 5) (zA 5) = _
  rw [r5]
  simp [stOf, errOf, flagsOf, wrongS, zA]
theorem r7 : R4 7 = ⟨4, 2, 2, U7⟩ := by
  show stOf (R4 6) (zA 6) = _
  rw [r6]
  simp [stOf, errOf, flagsOf, wrongS, zA, St.setVol, St.volOf, U4_2, U7, del_v1]
theorem r8 : R4 8 = ⟨4, 2, 2, U7⟩ := by
  show stOf (R4 7) (zA 7) = _
  rw [r7]
  simp [stOf, errOf, flagsOf, wrongS, zA, U7_2]
theorem r9 : R4 9 = ⟨4, 2, 2, U7⟩ := by
  show stOf (R4 8) (zA 8) = _
  rw [r8]
  simp [stOf, errOf, flagsOf, wrongS, zA, U7_2]
theorem r10 : R4 10 = ⟨4, 2, 2, U7⟩ := by
  show stOf (R4 9) (zA 9) = _
  rw [r9]
  simp [stOf, errOf, flagsOf, wrongS, zA, U7_1]
theorem r11 : R4 11 = ⟨4, 2, 2, U7⟩ := by
  show stOf (R4 10) (zA 10) = _
  rw [r10]
  simp [stOf, errOf, flagsOf, wrongS, zA, U7_1]
theorem r12 : R4 12 = ⟨4, 2, 2, U7⟩ := by
  show stOf (R4 11) (zA 11) = _
  rw [r11]
  simp [stOf, errOf, flagsOf, wrongS, zA, U7_7]
theorem r13 : R4 13 = ⟨4, 2, 1, U13⟩ := by
  show stOf (R4 12) (zA 12) = _
  rw [r12]
  simp [stOf, errOf, flagsOf, wrongS, zA, U7_1, St.drop, U13]
theorem r14 : R4 14 = ⟨4, 3, 2, U14⟩ := by
  show stOf (R4 13) (zA 13) = _
  rw [r13]
  simp [stOf, errOf, flagsOf, wrongS, zA, U13_3, St.made, U14, vE]
theorem r15 : R4 15 = ⟨4, 3, 2, U14⟩ := by
  show stOf (R4 14) (zA 14) = _
  rw [r14]
  simp [stOf, errOf, flagsOf, wrongS, zA]

theorem byte_u8s {f : Nat → Nat} {i : Nat} (hi : i < 128) : byteOf' (.agg (u8s 128 f)) i = f i := by
  unfold byteOf'
  simp only [u8s_get hi]
  rfl
theorem byte_z {i : Nat} (hi : i < 128) : byteOf' (.agg zBlk) i = 0 := by
  unfold byteOf'
  have : zBlk[i]? = some (.int .u8 0) := by unfold zBlk; simp [hi]
  simp only [this]
  rfl

theorem awk_ok : ∀ k, k < 16 → repEq (repOf (R4 k) (zA k)) (wA k) = true := by
  intro k hk
  have hd : ∀ {a b : Nat} {f : Nat → Nat}, eqF 0 0 f zz = true := by intro a b f; simp [eqF_iff]
  match k, hk with
  | 0, _ => rw [r0]; simp [repEq, repOf, errOf, flagsOf, wrongS, zA, wA, eqF_iff]
  | 1, _ => rw [r1]; simp [repEq, repOf, errOf, flagsOf, wrongS, zA, wA, U1_1, Rep.none, eqF_iff]
  | 2, _ => rw [r2]; simp [repEq, repOf, errOf, flagsOf, wrongS, zA, wA, U2_1, eqF_iff]
  | 3, _ => rw [r3]; simp [repEq, repOf, errOf, flagsOf, wrongS, zA, wA, U3_1, Rep.none, eqF_iff]
  | 4, _ =>
    rw [r4]
    simp [repEq, repOf, errOf, flagsOf, wrongS, zA, wA, U4_2, St.volOf, at_v1, eqF_iff]
    exact fun i hi => byte_u8s hi
  | 5, _ =>
    rw [r5]
    simp [repEq, repOf, errOf, flagsOf, wrongS, zA, wA, U4_1, St.volOf, at_v2, eqF_iff]
    exact fun i hi => byte_z hi
  | 6, _ => rw [r6]; simp [repEq, repOf, errOf, flagsOf, wrongS, zA, wA, U4_2, St.volOf, del_v1, eqF_iff]; rfl
  | 7, _ => rw [r7]; simp [repEq, repOf, errOf, flagsOf, wrongS, zA, wA, U7_2, eqF_iff]
  | 8, _ =>
    rw [r8]
    simp [repEq, repOf, errOf, flagsOf, wrongS, zA, wA, U7_2, St.volOf, at_e, eqF_iff]
    exact fun i hi => byte_z hi
  | 9, _ => rw [r9]; simp [repEq, repOf, errOf, flagsOf, wrongS, zA, wA, U7_1, eqF_iff]
  | 10, _ => rw [r10]; simp [repEq, repOf, errOf, flagsOf, wrongS, zA, wA, U7_1, eqF_iff]
  | 11, _ => rw [r11]; simp [repEq, repOf, errOf, flagsOf, wrongS, zA, wA, U7_7, eqF_iff]
  | 12, _ => rw [r12]; simp [repEq, repOf, errOf, flagsOf, wrongS, zA, wA, U7_1, Rep.none, eqF_iff]
  | 13, _ => rw [r13]; simp [repEq, repOf, errOf, flagsOf, wrongS, zA, wA, eqF_iff]
  | 14, _ => rw [r14]; simp [repEq, repOf, errOf, flagsOf, wrongS, zA, wA, eqF_iff]
  | 15, _ => rw [r15]; simp [repEq, repOf, errOf, flagsOf, wrongS, zA, wA, eqF_iff]
  | n + 16, h => omega

end Go.Proofs.Ytbejcmbdaoakbaa
