/- The contracts of the reference's adding and multiplying of fractions, of subtracting and dividing. No condition but the ranges that each contract names. -/
import Derived.Test.YtefgdkjcoeikmaaFrac3
namespace Go.Proofs.Ytefgdkjcoeikmaa
open Go.ChangeShapes Go.WideShapes Go.ChangeAt Go.RowKit
set_option linter.unusedVariables false

theorem mk_in_range {t b : Int} (hb : b ≠ 0) (h1 : -1000000000000 ≤ t) (h2 : t ≤ 1000000000000) (h3 : -1000000000000 ≤ b) (h4 : b ≤ 1000000000000) : mkT t b = redT t b ∧ mkB t b = redB t b ∧ mkOk t b = redOk t b := by
  have h : mkIn t b = true := by simp [mkIn, inB, hb]; omega
  simp [mkT, mkB, mkOk, h]
/-- the reference divides by the divisor of the bottoms first -/
theorem add_parts {t1 b1 t2 b2 : Int} (h1 : fracOk t1 b1 = true) (h2 : fracOk t2 b2 = true) : ∃ g x y : Int, g = (Int.gcd b1 b2 : Int) ∧ 1 ≤ g ∧ g ≤ 1000000 ∧ b1 / g = x ∧ b2 / g = y ∧ 1 ≤ x ∧ x ≤ 1000000 ∧ 1 ≤ y ∧ y ≤ 1000000 ∧ b1 = g * x ∧ b2 = g * y ∧
    -1000000000000 ≤ t1 * y ∧ t1 * y ≤ 1000000000000 ∧ -1000000000000 ≤ t2 * x ∧ t2 * x ≤ 1000000000000 ∧ 1 ≤ x * b2 ∧ x * b2 ≤ 1000000000000 := by
  obtain ⟨⟨a1, a2⟩, ⟨a3, a4⟩, _⟩ := fracOk_iff.1 h1
  obtain ⟨⟨c1, c2⟩, ⟨c3, c4⟩, _⟩ := fracOk_iff.1 h2
  have hg := gcd_pos (t := b1) (b := b2) (by omega)
  have hg2 := gcd_le (t := b1) (b := b2) (by omega)
  obtain ⟨x, hx⟩ := Int.gcd_dvd_left b1 b2
  obtain ⟨y, hy⟩ := Int.gcd_dvd_right b1 b2
  refine ⟨_, x, y, rfl, ?_⟩
  generalize (Int.gcd b1 b2 : Int) = g at *
  have x1 : 1 ≤ x := by
    rcases Int.lt_or_le x 1 with h | h
    · have := Int.mul_nonneg (show 0 ≤ g by omega) (show 0 ≤ -x by omega)
      rw [Int.mul_neg] at this; omega
    · exact h
  have y1 : 1 ≤ y := by
    rcases Int.lt_or_le y 1 with h | h
    · have := Int.mul_nonneg (show 0 ≤ g by omega) (show 0 ≤ -y by omega)
      rw [Int.mul_neg] at this; omega
    · exact h
  have x2 : x ≤ b1 := by
    have := Int.mul_nonneg (show 0 ≤ g - 1 by omega) (show 0 ≤ x by omega)
    grind
  have y2 : y ≤ b2 := by
    have := Int.mul_nonneg (show 0 ≤ g - 1 by omega) (show 0 ≤ y by omega)
    grind
  have m1 := mul_bound (x := t1) (y := y) (A := 1000000) (B := 1000000) ⟨a1, a2⟩ ⟨by omega, by omega⟩
  have m2 := mul_bound (x := t2) (y := x) (A := 1000000) (B := 1000000) ⟨c1, c2⟩ ⟨by omega, by omega⟩
  have m3 := mul_bound (x := x) (y := b2) (A := 1000000) (B := 1000000) ⟨by omega, by omega⟩ ⟨by omega, c4⟩
  have m5 : 1 ≤ x * b2 := by have := Int.mul_pos (show 0 < x by omega) (show 0 < b2 by omega); omega
  refine ⟨by omega, by omega, ?_, ?_, x1, by omega, y1, by omega, hx, hy, by omega, by omega, by omega, by omega, by omega, by omega⟩
  · conv => lhs; arg 1; rw [hx]
    exact Int.mul_ediv_cancel_left _ (by omega)
  · conv => lhs; arg 1; rw [hy]
    exact Int.mul_ediv_cancel_left _ (by omega)
theorem red_parts (t b : Int) (hb : 0 < b) : nt t b = t.tdiv (Int.gcd t b) ∧ nb t b = b / (Int.gcd t b) := by
  unfold nt nb
  rw [if_neg (by omega), if_neg (by omega)]
  exact ⟨rfl, Int.tdiv_eq_ediv_of_nonneg (by omega)⟩

end Go.Proofs.Ytefgdkjcoeikmaa
