/- The contracts of the arms of a balance and of the laws' copies of lines. No condition. -/
import Derived.Test.YtefgdkjcoeikmaaFrac5
namespace Go.Proofs.Ytefgdkjcoeikmaa
open Go.ChangeShapes Go.WideShapes Go.ChangeAt Go.RowKit
set_option linter.unusedVariables false

abbrev ofLine (zt zb ut ub : Int) : Ending := .returned (lineV zt zb ut ub)
def eqL (zt1 zb1 ut1 ub1 zt2 zb2 ut2 ub2 : Int) : Bool := eqP zt1 zb1 zt2 zb2 && eqP ut1 ub1 ut2 ub2
theorem eqL_self (a b c d : Int) : eqL a b c d a b c d = true := by simp [eqL, eqP_self]
/-! ### arms -/
def rlIn (a b o : Int) : Bool := armsOkB a b && inB o 0 1000
def rlOk (a b o : Int) : Bool := rlIn a b o && mkOk (o * a) b
def rlT (a b o : Int) : Int := if rlIn a b o then mkT (o * a) b else 0
def rlB (a b o : Int) : Int := if rlIn a b o then mkB (o * a) b else 0
theorem rl_facts {a b o : Int} (h1 : armsOkB a b = true) (h2 : inB o 0 1000 = true) : 1 ≤ a ∧ a ≤ 1000 ∧ 1 ≤ b ∧ b ≤ 1000 ∧ 0 ≤ o ∧ o ≤ 1000 ∧ 0 ≤ o * a ∧ o * a ≤ 1000000 := by
  simp [armsOkB, inB] at h1 h2
  have m := mul_bound (x := o) (y := a) (A := 1000) (B := 1000) ⟨by omega, by omega⟩ ⟨by omega, by omega⟩
  have := Int.mul_nonneg (a := o) (b := a) (by omega) (by omega)
  omega
def subIn (a b o t d : Int) : Bool := rlOk a b o && eqP (rlT a b o) (rlB a b o) t d
def subOk (a b o t d : Int) : Bool := subIn a b o t d && mkOk (t * b) (d * a)
def subT (a b o t d : Int) : Int := if subIn a b o t d then mkT (t * b) (d * a) else 0
def subB (a b o t d : Int) : Int := if subIn a b o t d then mkB (t * b) (d * a) else 0
theorem rl_ok_facts {a b o : Int} (h : rlOk a b o = true) : fracOk (rlT a b o) (rlB a b o) = true ∧ 1 ≤ a ∧ a ≤ 1000 ∧ 1 ≤ b ∧ b ≤ 1000 := by
  unfold rlOk at h
  simp only [Bool.and_eq_true] at h
  obtain ⟨h1, h2⟩ := h
  have h1' := h1
  unfold rlIn at h1'
  simp only [Bool.and_eq_true] at h1'
  obtain ⟨f1, f2, f3, f4, _⟩ := rl_facts h1'.1 h1'.2
  unfold mkOk at h2
  simp only [Bool.and_eq_true] at h2
  refine ⟨?_, f1, f2, f3, f4⟩
  rw [rlT, rlB, h1, mkT, mkB, h2.1]
  exact (red_ok h2.2).1
theorem sub_facts {t d a b : Int} (h : fracOk t d = true) (f1 : 1 ≤ a) (f2 : a ≤ 1000) (f3 : 1 ≤ b) (f4 : b ≤ 1000) : -1000000000 ≤ t * b ∧ t * b ≤ 1000000000 ∧ -1000000000 ≤ d * a ∧ d * a ≤ 1000000000 := by
  obtain ⟨⟨a1, a2⟩, ⟨a3, a4⟩, _⟩ := fracOk_iff.1 h
  have m1 := mul_bound (x := t) (y := b) (A := 1000000) (B := 1000) ⟨a1, a2⟩ ⟨by omega, f4⟩
  have m2 := mul_bound (x := d) (y := a) (A := 1000000) (B := 1000) ⟨by omega, a4⟩ ⟨by omega, f2⟩
  omega
end Go.Proofs.Ytefgdkjcoeikmaa
