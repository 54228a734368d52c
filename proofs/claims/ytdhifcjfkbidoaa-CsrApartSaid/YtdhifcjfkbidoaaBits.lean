/- Numbers of 32 bits: plain laws. -/
import Derived.Test.YtdhifcjfkbidoaaReal
import Derived.Laws.BitsAllLaws
set_option linter.unusedVariables false
namespace Go.Proofs.Ytdhifcjfkbidoaa
open Go.RowKit

def U (X : BitVec 32) : Int := (X.toNat : Int)
theorem U_of {x : Int} (h : 0 ≤ x ∧ x ≤ 4294967295) : ∃ X, x = U X := by
  refine ⟨BitVec.ofNat 32 x.toNat, ?_⟩
  unfold U
  rw [BitVec.toNat_ofNat]
  omega
theorem U_range (X : BitVec 32) : 0 ≤ U X ∧ U X ≤ 4294967295 := by
  unfold U
  have := X.isLt
  omega
theorem U_inj {X Y : BitVec 32} : U X = U Y ↔ X = Y := by
  unfold U
  constructor
  · intro h
    exact BitVec.eq_of_toNat_eq (by omega)
  · rintro rfl; rfl
theorem U_beq (X Y : BitVec 32) : (U X == U Y) = (X == Y) := by
  rw [Bool.eq_iff_iff]; simp [U_inj]
theorem U_and (X Y : BitVec 32) : bits .and .u32 (U X) (U Y) = U (X &&& Y) := by
  unfold U
  rw [u32_and_nat _ _ X.isLt Y.isLt, BitVec.toNat_and]
theorem U_or (X Y : BitVec 32) : bits .or .u32 (U X) (U Y) = U (X ||| Y) := by
  unfold U
  rw [u32_or_nat _ _ X.isLt Y.isLt, BitVec.toNat_or]
theorem U_andNot (X Y : BitVec 32) : bits .andNot .u32 (U X) (U Y) = U (X &&& ~~~Y) := by
  unfold U
  rw [u32_andNot_nat _ _ X.isLt Y.isLt, BitVec.toNat_and, BitVec.toNat_not]
theorem U_0 : U 0 = 0 := rfl
theorem U_all : U (BitVec.allOnes 32) = 4294967295 := by decide
/-- What the bus lets a register be, bit by bit. -/
theorem U_bus (r : Reg) (P C V X : BitVec 32) (hp : r.p = U P) (hc : r.c = U C) (hv : r.v = U V) : busVal r (U X) = U (((V &&& ~~~P) ||| (X &&& P)) &&& ~~~(X &&& C)) := by
  unfold busVal
  rw [hp, hc, hv, U_andNot, U_and, U_or, U_and, U_andNot]

theorem all_get (i : Nat) (h : i < 32) : (4294967295#32)[i] = true := by
  have e : (4294967295#32) = BitVec.allOnes 32 := rfl
  simp only [e, BitVec.getElem_allOnes]

theorem lines_mask (M : BitVec 32) : busVal ⟨0, 4294967295, 0, 0⟩ (U M) = U M := by
  rw [U_bus _ (BitVec.allOnes 32) 0 0 M U_all.symm U_0.symm U_0.symm, U_inj]
  ext i hi
  simp
  exact fun _ => all_get i hi
theorem lines_clear (X : BitVec 32) : busVal ⟨0, 0, 4294967295, U X⟩ (U X) = 0 := by
  rw [U_bus _ 0 (BitVec.allOnes 32) X X U_0.symm U_all.symm rfl, ← U_0, U_inj]
  ext i hi
  simp
theorem and_zero (M : BitVec 32) : bits .and .u32 0 (U M) = 0 := by
  rw [← U_0, U_and, U_inj]
  ext i hi
  simp
end Go.Proofs.Ytdhifcjfkbidoaa
