/- Plain laws of fractions by their values: what is valid and small comes out, and as itself. No program, no condition. -/
import Derived.Test.YtefgdkjcoeikmaaLine4
namespace Go.Proofs.Ytefgdkjcoeikmaa
open Go.ChangeShapes Go.WideShapes Go.ChangeAt Go.RowKit
set_option linter.unusedVariables false
set_option linter.unusedSimpArgs false

/-- T / B is valid and has the value x / y -/
def V (T B x y : Int) : Prop := fracOk T B = true ∧ 1 ≤ y ∧ T * y = x * B
theorem V.ok {T B x y : Int} (h : V T B x y) : fracOk T B = true := h.1
theorem V.pos {T B x y : Int} (h : V T B x y) : 1 ≤ B := (fracOk_iff.1 h.1).2.1.1
theorem V.self {T B : Int} (h : fracOk T B = true) : V T B T B := ⟨h, (fracOk_iff.1 h).2.1.1, rfl⟩
theorem mul_pos1 {a b : Int} (ha : 1 ≤ a) (hb : 1 ≤ b) : 1 ≤ a * b := by have := Int.mul_pos (show 0 < a by omega) (show 0 < b by omega); omega
theorem V.uniq {T B x y T' B' x' y' : Int} (h : V T B x y) (k : V T' B' x' y') (e : x * y' = x' * y) : T = T' ∧ B = B' := by
  obtain ⟨h1, h2, h3⟩ := h
  obtain ⟨k1, k2, k3⟩ := k
  obtain ⟨_, ⟨p1, _⟩, g1⟩ := fracOk_iff.1 h1
  obtain ⟨_, ⟨p2, _⟩, g2⟩ := fracOk_iff.1 k1
  refine red_unique (by omega) (by omega) g1 g2 ?_
  have hyy : y * y' ≠ 0 := Int.mul_ne_zero (by omega) (by omega)
  refine Int.eq_of_mul_eq_mul_right hyy ?_
  have e1 : T * B' * (y * y') = (T * y) * (B' * y') := by grind
  have e2 : T' * B * (y * y') = (T' * y') * (B * y) := by grind
  rw [e1, e2, h3, k3]
  have e3 : x * B * (B' * y') = (x * y') * (B * B') := by grind
  have e4 : x' * B' * (B * y) = (x' * y) * (B * B') := by grind
  rw [e3, e4, e]
theorem V.neg {T B x y : Int} (h : V T B x y) : V (wrap64 (-T)) B (-x) y := by
  obtain ⟨h1, h2, h3⟩ := h
  obtain ⟨⟨a1, a2⟩, b, g⟩ := fracOk_iff.1 h1
  have e : wrap64 (-T) = -T := by unfold wrap64; omega
  rw [e]
  refine ⟨fracOk_iff.2 ⟨⟨by omega, by omega⟩, b, by rw [Int.neg_gcd]; exact g⟩, h2, ?_⟩
  rw [Int.neg_mul, h3, Int.neg_mul]
theorem V.other {T B x y x' y' : Int} (h : V T B x y) (hy : 1 ≤ y') (e : x * y' = x' * y) : V T B x' y' := by
  obtain ⟨h1, h2, h3⟩ := h
  refine ⟨h1, hy, ?_⟩
  refine Int.eq_of_mul_eq_mul_right (show y ≠ 0 by omega) ?_
  have e1 : T * y' * y = (T * y) * y' := by grind
  have e2 : x' * B * y = (x' * y) * B := by grind
  rw [e1, e2, h3, ← e]; grind
theorem red_V {t b x y : Int} (hb : b ≠ 0) (hy : 1 ≤ y) (e : t * y = x * b) (h : redOk t b = true) : V (redT t b) (redB t b) x y := by
  refine ⟨(red_ok h).1, hy, ?_⟩
  have q := red_val hb h
  refine Int.eq_of_mul_eq_mul_right hb ?_
  have e1 : redT t b * y * b = (redT t b * b) * y := by grind
  have e2 : x * redB t b * b = (x * b) * redB t b := by grind
  rw [e1, e2, q, ← e]; grind
theorem add_eq {T1 B1 x1 y1 T2 B2 x2 y2 : Int} (h : V T1 B1 x1 y1) (k : V T2 B2 x2 y2) : (T1 * B2 + T2 * B1) * (y1 * y2) = (x1 * y2 + x2 * y1) * (B1 * B2) := by
  obtain ⟨_, _, h3⟩ := h
  obtain ⟨_, _, k3⟩ := k
  have e1 : (T1 * B2 + T2 * B1) * (y1 * y2) = (T1 * y1) * (B2 * y2) + (T2 * y2) * (B1 * y1) := by grind
  rw [e1, h3, k3]; grind
theorem tim_eq {T1 B1 x1 y1 T2 B2 x2 y2 : Int} (h : V T1 B1 x1 y1) (k : V T2 B2 x2 y2) : (T1 * T2) * (y1 * y2) = (x1 * x2) * (B1 * B2) := by
  obtain ⟨_, _, h3⟩ := h
  obtain ⟨_, _, k3⟩ := k
  have e1 : (T1 * T2) * (y1 * y2) = (T1 * y1) * (T2 * y2) := by grind
  rw [e1, h3, k3]; grind
theorem ov_eq {T1 B1 x1 y1 T2 B2 x2 y2 : Int} (h : V T1 B1 x1 y1) (k : V T2 B2 x2 y2) : (T1 * B2) * (y1 * x2) = (x1 * y2) * (B1 * T2) := by
  obtain ⟨_, _, h3⟩ := h
  obtain ⟨_, _, k3⟩ := k
  have e1 : (T1 * B2) * (y1 * x2) = (T1 * y1) * (x2 * B2) := by grind
  rw [e1, h3, ← k3]; grind
theorem V.add {T1 B1 x1 y1 T2 B2 x2 y2 : Int} (h : V T1 B1 x1 y1) (k : V T2 B2 x2 y2) (ho : addOk T1 B1 T2 B2 = true) : V (addT T1 B1 T2 B2) (addB T1 B1 T2 B2) (x1 * y2 + x2 * y1) (y1 * y2) := by
  have hi : addIn T1 B1 T2 B2 = true := by simp [addIn, h.1, k.1]
  simp only [addOk, hi, Bool.true_and] at ho
  simp only [addT, addB, hi, if_true]
  exact red_V (Int.mul_ne_zero (by have := h.pos; omega) (by have := k.pos; omega)) (mul_pos1 h.2.1 k.2.1) (add_eq h k) ho
theorem V.addOk_ {T1 B1 x1 y1 T2 B2 x2 y2 x y : Int} (h : V T1 B1 x1 y1) (k : V T2 B2 x2 y2) (hy : 1 ≤ y) (hy2 : y ≤ 1000000) (hx : -1000000 ≤ x) (hx2 : x ≤ 1000000) (e : (x1 * y2 + x2 * y1) * y = x * (y1 * y2)) : addOk T1 B1 T2 B2 = true := by
  have hi : addIn T1 B1 T2 B2 = true := by simp [addIn, h.1, k.1]
  simp only [addOk, hi, Bool.true_and]
  refine redOk_of (x := x) (y := y) (Int.mul_ne_zero (by have := h.pos; omega) (by have := k.pos; omega)) hy ?_ hx hx2 hy2
  have q := add_eq h k
  have hyy : y1 * y2 ≠ 0 := by have := mul_pos1 h.2.1 k.2.1; omega
  refine Int.eq_of_mul_eq_mul_right hyy ?_
  have e1 : (T1 * B2 + T2 * B1) * y * (y1 * y2) = ((T1 * B2 + T2 * B1) * (y1 * y2)) * y := by grind
  have e2 : x * (B1 * B2) * (y1 * y2) = (x * (y1 * y2)) * (B1 * B2) := by grind
  rw [e1, e2, q, ← e]; grind
theorem V.tim {T1 B1 x1 y1 T2 B2 x2 y2 : Int} (h : V T1 B1 x1 y1) (k : V T2 B2 x2 y2) (ho : timOk T1 B1 T2 B2 = true) : V (timT T1 B1 T2 B2) (timB T1 B1 T2 B2) (x1 * x2) (y1 * y2) := by
  have hi : addIn T1 B1 T2 B2 = true := by simp [addIn, h.1, k.1]
  simp only [timOk, hi, Bool.true_and] at ho
  simp only [timT, timB, hi, if_true]
  exact red_V (Int.mul_ne_zero (by have := h.pos; omega) (by have := k.pos; omega)) (mul_pos1 h.2.1 k.2.1) (tim_eq h k) ho
theorem V.timOk_ {T1 B1 x1 y1 T2 B2 x2 y2 : Int} (h : V T1 B1 x1 y1) (k : V T2 B2 x2 y2) (hy2 : y1 * y2 ≤ 1000000) (hx : -1000000 ≤ x1 * x2) (hx2 : x1 * x2 ≤ 1000000) : timOk T1 B1 T2 B2 = true := by
  have hi : addIn T1 B1 T2 B2 = true := by simp [addIn, h.1, k.1]
  simp only [timOk, hi, Bool.true_and]
  exact redOk_of (x := x1 * x2) (y := y1 * y2) (Int.mul_ne_zero (by have := h.pos; omega) (by have := k.pos; omega)) (mul_pos1 h.2.1 k.2.1) (tim_eq h k) hx hx2 hy2
/-- a quotient whose value is small -/
theorem V.ov {T1 B1 x1 y1 T2 B2 x2 y2 x y : Int} (h : V T1 B1 x1 y1) (k : V T2 B2 x2 y2) (hx0 : 1 ≤ x2) (hy : 1 ≤ y) (hy2 : y ≤ 1000000) (hx : -1000000 ≤ x) (hx2 : x ≤ 1000000) (e : (x1 * y2) * y = x * (y1 * x2)) :
    ovOk T1 B1 T2 B2 = true ∧ V (ovT T1 B1 T2 B2) (ovB T1 B1 T2 B2) x y := by
  have hT : T2 ≠ 0 := by
    intro q
    have := k.2.2
    rw [q, Int.zero_mul] at this
    have := mul_pos1 hx0 k.pos
    omega
  have hi : ovIn T1 B1 T2 B2 = true := by simp [ovIn, h.1, k.1, hT]
  have hb : B1 * T2 ≠ 0 := Int.mul_ne_zero (by have := h.pos; omega) hT
  have q := ov_eq h k
  have hyy : y1 * x2 ≠ 0 := by have := mul_pos1 h.2.1 hx0; omega
  have e3 : (T1 * B2) * y = x * (B1 * T2) := by
    refine Int.eq_of_mul_eq_mul_right hyy ?_
    have e1 : T1 * B2 * y * (y1 * x2) = (T1 * B2 * (y1 * x2)) * y := by grind
    have e2 : x * (B1 * T2) * (y1 * x2) = (x * (y1 * x2)) * (B1 * T2) := by grind
    rw [e1, e2, q, ← e]; grind
  have ho := redOk_of (x := x) (y := y) hb hy e3 hx hx2 hy2
  simp only [ovOk, ovT, ovB, hi, Bool.true_and, if_true]
  exact ⟨ho, red_V hb hy e3 ho⟩
/-- bounds of the reduced parts -/
theorem red_small {t b : Int} {M N : Int} (hb : 1 ≤ b) (hN : b ≤ N) (h1 : -M ≤ t) (h2 : t ≤ M) : -M ≤ nt t b ∧ nt t b ≤ M ∧ 1 ≤ nb t b ∧ nb t b ≤ N := by
  have hg := gcd_pos (t := t) (show b ≠ 0 by omega)
  have hp := (red_spec (t := t) (show b ≠ 0 by omega)).1
  have a1 := tdiv_bound hg h1 h2
  have a2 := tdiv_bound (t := b) hg (show -N ≤ b by omega) hN
  unfold nt nb at *
  rw [if_neg (by omega)] at *
  rw [if_neg (by omega)]
  omega
/-- a drawn fraction -/
theorem mk_small {t b M N : Int} (hb : 1 ≤ b) (hN : b ≤ N) (h1 : -M ≤ t) (h2 : t ≤ M) (hM : M ≤ 1000000) (hN2 : N ≤ 1000000) : mkOk t b = true ∧ fracOk (mkT t b) (mkB t b) = true ∧ -M ≤ mkT t b ∧ mkT t b ≤ M ∧ 1 ≤ mkB t b ∧ mkB t b ≤ N ∧ V (mkT t b) (mkB t b) t b := by
  have hb0 : b ≠ 0 := by omega
  obtain ⟨e1, e2, e3⟩ := mk_in_range (t := t) hb0 (by omega) (by omega) (by omega) (by omega)
  have ho := redOk_of (x := t) (y := b) hb0 hb rfl (by omega) (by omega) (by omega)
  obtain ⟨o1, o2, o3⟩ := red_ok ho
  obtain ⟨s1, s2, s3, s4⟩ := red_small hb hN h1 h2
  rw [e1, e2, e3, o2, o3]
  rw [o2, o3] at o1
  refine ⟨ho, o1, s1, s2, s3, s4, ?_⟩
  have := red_V hb0 hb rfl ho
  rw [o2, o3] at this; exact this
end Go.Proofs.Ytefgdkjcoeikmaa
