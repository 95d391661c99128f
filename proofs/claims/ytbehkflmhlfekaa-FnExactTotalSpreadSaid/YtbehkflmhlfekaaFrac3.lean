/- The contracts of adding, multiplying, subtracting and dividing fractions. No condition. -/
import Derived.Test.YtbehkflmhlfekaaFrac2
namespace Go.Proofs.Ytbehkflmhlfekaa
open Go.ChangeShapes Go.WideShapes Go.ChangeAt Go.RowKit
set_option linter.unusedVariables false

def addIn (t1 b1 t2 b2 : Int) : Bool := fracOk t1 b1 && fracOk t2 b2
def addOk (t1 b1 t2 b2 : Int) : Bool := addIn t1 b1 t2 b2 && redOk (t1 * b2 + t2 * b1) (b1 * b2)
def addT (t1 b1 t2 b2 : Int) : Int := if addIn t1 b1 t2 b2 then redT (t1 * b2 + t2 * b1) (b1 * b2) else 0
def addB (t1 b1 t2 b2 : Int) : Int := if addIn t1 b1 t2 b2 then redB (t1 * b2 + t2 * b1) (b1 * b2) else 0
def timOk (t1 b1 t2 b2 : Int) : Bool := addIn t1 b1 t2 b2 && redOk (t1 * t2) (b1 * b2)
def timT (t1 b1 t2 b2 : Int) : Int := if addIn t1 b1 t2 b2 then redT (t1 * t2) (b1 * b2) else 0
def timB (t1 b1 t2 b2 : Int) : Int := if addIn t1 b1 t2 b2 then redB (t1 * t2) (b1 * b2) else 0

theorem frac_facts {t1 b1 t2 b2 : Int} (h1 : fracOk t1 b1 = true) (h2 : fracOk t2 b2 = true) :
    -1000000000000 ≤ t1 * b2 ∧ t1 * b2 ≤ 1000000000000 ∧ -1000000000000 ≤ t2 * b1 ∧ t2 * b1 ≤ 1000000000000 ∧ 1 ≤ b1 * b2 ∧ b1 * b2 ≤ 1000000000000 ∧ -1000000000000 ≤ t1 * t2 ∧ t1 * t2 ≤ 1000000000000 ∧
    -1000000 ≤ t1 ∧ t1 ≤ 1000000 ∧ -1000000 ≤ t2 ∧ t2 ≤ 1000000 ∧ 1 ≤ b1 ∧ b1 ≤ 1000000 ∧ 1 ≤ b2 ∧ b2 ≤ 1000000 := by
  obtain ⟨⟨a1, a2⟩, ⟨a3, a4⟩, _⟩ := fracOk_iff.1 h1
  obtain ⟨⟨c1, c2⟩, ⟨c3, c4⟩, _⟩ := fracOk_iff.1 h2
  have m1 := mul_bound (x := t1) (y := b2) (A := 1000000) (B := 1000000) ⟨a1, a2⟩ ⟨by omega, c4⟩
  have m2 := mul_bound (x := t2) (y := b1) (A := 1000000) (B := 1000000) ⟨c1, c2⟩ ⟨by omega, a4⟩
  have m3 := mul_bound (x := b1) (y := b2) (A := 1000000) (B := 1000000) ⟨by omega, a4⟩ ⟨by omega, c4⟩
  have m4 := mul_bound (x := t1) (y := t2) (A := 1000000) (B := 1000000) ⟨a1, a2⟩ ⟨c1, c2⟩
  have m5 : 1 ≤ b1 * b2 := by
    have := Int.mul_pos (show 0 < b1 by omega) (show 0 < b2 by omega); omega
  omega

end Go.Proofs.Ytbehkflmhlfekaa
