/- Plain laws of drawn lines: shown and corrected undo each other, two points give the line back, chains agree. No program, no condition. -/
import Derived.Test.YtefgdkjcoeikmaaFracV
import Derived.Test.YtefgdkjcoeikmaaLine3
namespace Go.Proofs.Ytefgdkjcoeikmaa
open Go.ChangeShapes Go.WideShapes Go.ChangeAt Go.RowKit
set_option linter.unusedVariables false
set_option linter.unusedSimpArgs false

/-- a small valid fraction -/
def Sm (t b : Int) : Prop := fracOk t b = true ∧ -20 ≤ t ∧ t ≤ 20 ∧ 1 ≤ b ∧ b ≤ 12
/-- a drawn line -/
def SmL (p q r s : Int) : Prop := Sm p q ∧ Sm r s ∧ 1 ≤ r
theorem SmL.line {p q r s : Int} (h : SmL p q r s) : lineOkB p q r s = true := by
  obtain ⟨⟨h1, _⟩, ⟨h2, _⟩, h3⟩ := h
  simp [lineOkB, h1, h2]; omega
theorem shown_all {zt zb ut ub vt vb x1 y1 x2 y2 x3 y3 : Int} (h1 : V zt zb x1 y1) (h2 : V ut ub x2 y2) (h3 : V vt vb x3 y3) (hu : 0 < ut) (b1 : y2 * y3 ≤ 1000000) (b2 : -1000000 ≤ x2 * x3) (b3 : x2 * x3 ≤ 1000000) :
    (shOk zt zb ut ub vt vb = true → V (shT zt zb ut ub vt vb) (shB zt zb ut ub vt vb) (x1 * (y2 * y3) + (x2 * x3) * y1) (y1 * (y2 * y3))) ∧
    (y1 * (y2 * y3) ≤ 1000000 → -1000000 ≤ x1 * (y2 * y3) + (x2 * x3) * y1 → x1 * (y2 * y3) + (x2 * x3) * y1 ≤ 1000000 → shOk zt zb ut ub vt vb = true) := by
  have ht := h2.timOk_ h3 b1 b2 b3
  have hp := h2.tim h3 ht
  have hl : lineOkB zt zb ut ub = true := by simp [lineOkB, h1.1, h2.1, hu]
  have hi : shIn zt zb ut ub vt vb = true := by simp [shIn, hl, ht]
  refine ⟨fun ho => ?_, fun c1 c2 c3 => ?_⟩
  · simp only [shOk, hi, Bool.true_and] at ho
    simp only [shT, shB, hi, if_true]
    exact h1.add hp ho
  · simp only [shOk, hi, Bool.true_and]
    exact h1.addOk_ hp (mul_pos1 h1.2.1 hp.2.1) c1 c2 c3 rfl
theorem Sm.v {t b : Int} (h : Sm t b) : V t b t b := V.self h.1

/-- the parts of what line p/q + r/s shows at x/y -/
def sX (p q r s x y : Int) : Int := p * (s * y) + (r * x) * q
def sY (q s y : Int) : Int := q * (s * y)
theorem sX_in {p q r s x y M : Int} (hp : -20 ≤ p ∧ p ≤ 20) (hq : 1 ≤ q ∧ q ≤ 12) (hr : 1 ≤ r ∧ r ≤ 20) (hs : 1 ≤ s ∧ s ≤ 12) (hx : -M ≤ x ∧ x ≤ M) (hy : 1 ≤ y ∧ y ≤ 12) :
    -(2880 + 240 * M) ≤ sX p q r s x y ∧ sX p q r s x y ≤ 2880 + 240 * M := by
  have a1 := mul_bound (x := s) (y := y) (A := 12) (B := 12) (by omega) (by omega)
  have a2 := mul_bound (x := p) (y := s * y) (A := 20) (B := 12 * 12) (by omega) a1
  have a3 := mul_bound (x := r) (y := x) (A := 20) (B := M) (by omega) hx
  have a4 := mul_bound (x := r * x) (y := q) (A := 20 * M) (B := 12) a3 (by omega)
  have e : 20 * M * 12 = 240 * M := by omega
  unfold sX
  omega
theorem sY_in {q s y : Int} (hq : 1 ≤ q ∧ q ≤ 12) (hs : 1 ≤ s ∧ s ≤ 12) (hy : 1 ≤ y ∧ y ≤ 12) : 1 ≤ sY q s y ∧ sY q s y ≤ 1728 := by
  have a1 := mul_bound (x := s) (y := y) (A := 12) (B := 12) (by omega) (by omega)
  have a2 := mul_bound (x := q) (y := s * y) (A := 12) (B := 12 * 12) (by omega) a1
  have a3 := mul_pos1 hq.1 (mul_pos1 hs.1 hy.1)
  unfold sY
  omega
/-- line a shows a value x/y that is small -/
theorem shown_small {p q r s t b x y M : Int} (ha : SmL p q r s) (hv : V t b x y) (hx : -M ≤ x ∧ x ≤ M) (hM : M ≤ 40) (hy : 1 ≤ y ∧ y ≤ 12) :
    shOk p q r s t b = true ∧ V (shT p q r s t b) (shB p q r s t b) (sX p q r s x y) (sY q s y) := by
  obtain ⟨⟨h1, h11, h12, h13, h14⟩, ⟨h2, h21, h22, h23, h24⟩, h3⟩ := ha
  have a1 := mul_bound (x := s) (y := y) (A := 12) (B := 12) (by omega) (by omega)
  have a3 := mul_bound (x := r) (y := x) (A := 20) (B := M) (by omega) hx
  obtain ⟨k1, k2⟩ := shown_all (V.self h1) (V.self h2) hv (by omega) (by omega) (by omega) (by omega)
  have b1 := sX_in (p := p) (q := q) (r := r) (s := s) (x := x) (y := y) ⟨h11, h12⟩ ⟨h13, h14⟩ ⟨h3, h22⟩ ⟨h23, h24⟩ hx hy
  have b2 := sY_in (q := q) (s := s) (y := y) ⟨h13, h14⟩ ⟨h23, h24⟩ hy
  unfold sX at b1
  unfold sY at b2
  have ho := k2 (by omega) (by omega) (by omega)
  exact ⟨ho, k1 ho⟩
/-- what is shown, corrected, is the value -/
theorem corrected_back {p q r s t b S D : Int} (ha : SmL p q r s) (hv : Sm t b) (hs : V S D (sX p q r s t b) (sY q s b)) : coOk p q r s S D = true ∧ coT p q r s S D = t ∧ coB p q r s S D = b := by
  have hl := ha.line
  obtain ⟨⟨h1, h11, h12, h13, h14⟩, ⟨h2, h21, h22, h23, h24⟩, h3⟩ := ha
  obtain ⟨v1, v2, v3, v4, v5⟩ := hv
  have hn := (V.self h1).neg
  have a1 := mul_bound (x := s) (y := b) (A := 12) (B := 12) (by omega) (by omega)
  have a2 := mul_pos1 h23 v4
  have a3 := mul_bound (x := r) (y := t) (A := 20) (B := 20) (by omega) (by omega)
  have ho := hs.addOk_ hn (x := r * t) (y := s * b) a2 (by omega) (by omega) (by omega) (by unfold sX sY; grind)
  have hd := (hs.add hn ho).other (x' := r * t) (y' := s * b) a2 (by unfold sX sY; grind)
  have hi : coIn p q r s S D = true := by simp [coIn, hl, ho]
  obtain ⟨o1, o2⟩ := hd.ov (V.self h2) h3 v4 (by omega) (by omega) (by omega) (x := t) (by grind)
  obtain ⟨e1, e2⟩ := o2.uniq (V.self v1) rfl
  simp only [coOk, coT, coB, hi, Bool.true_and, if_true]
  exact ⟨o1, e1, e2⟩
/-- a value and one more -/
theorem one_more {t b : Int} (hv : Sm t b) : addOk t b 1 1 = true ∧ V (addT t b 1 1) (addB t b 1 1) (t + b) b := by
  obtain ⟨v1, v2, v3, v4, v5⟩ := hv
  have h1 : fracOk 1 1 = true := by decide
  have ho := (V.self v1).addOk_ (V.self h1) (x := t + b) (y := b) v4 (by omega) (by omega) (by omega) (by grind)
  exact ⟨ho, ((V.self v1).add (V.self h1) ho).other v4 (by grind)⟩
/-- the line through two points of a line -/
theorem through_back {p q r s t b S D W E T2 D2 : Int} (ha : SmL p q r s) (hv : Sm t b) (hs : V S D (sX p q r s t b) (sY q s b)) (hw : V W E (t + b) b) (ht : V T2 D2 (sX p q r s (t + b) b) (sY q s b)) :
    ltIn t b S D W E T2 D2 = true ∧ ltZT t b S D W E T2 D2 = p ∧ ltZB t b S D W E T2 D2 = q ∧ ltUT t b S D W E T2 D2 = r ∧ ltUB t b S D W E T2 D2 = s := by
  have hl := ha.line
  obtain ⟨⟨h1, h11, h12, h13, h14⟩, ⟨h2, h21, h22, h23, h24⟩, h3⟩ := ha
  obtain ⟨v1, v2, v3, v4, v5⟩ := hv
  have hbb := mul_pos1 v4 v4
  -- the values differ
  have hne : eqP t b W E = false := by
    cases he : eqP t b W E
    · rfl
    · simp only [eqP, Bool.and_eq_true, beq_iff_eq] at he
      obtain ⟨rfl, rfl⟩ := he
      have := hw.2.2
      have e : (t + b) * b = t * b + b * b := by grind
      omega
  have hvn := (V.self v1).neg
  have hsn := hs.neg
  -- dv = 1
  have o1 := hw.addOk_ hvn (x := 1) (y := 1) (by omega) (by omega) (by omega) (by omega) (by grind)
  have d1 := (hw.add hvn o1).other (x' := 1) (y' := 1) (by omega) (by grind)
  -- ds = r / s
  have o2 := ht.addOk_ hsn (x := r) (y := s) h23 (by omega) (by omega) (by omega) (by unfold sX sY; grind)
  have d2 := (ht.add hsn o2).other (x' := r) (y' := s) h23 (by unfold sX sY; grind)
  -- unit
  obtain ⟨o3, d3⟩ := d2.ov d1 (by omega) h23 (by omega) (by omega) (by omega) (x := r) (by grind)
  obtain ⟨u1, u2⟩ := d3.uniq (V.self h2) rfl
  -- p = r t / s b
  have a1 := mul_bound (x := s) (y := b) (A := 12) (B := 12) (by omega) (by omega)
  have a3 := mul_bound (x := r) (y := t) (A := 20) (B := 20) (by omega) (by omega)
  have o4 := d3.timOk_ (V.self v1) (by omega) (by omega) (by omega)
  have d4 := d3.tim (V.self v1) o4
  have d4n := d4.neg
  -- zero
  have o5 := hs.addOk_ d4n (x := p) (y := q) h13 (by omega) (by omega) (by omega) (by unfold sX sY; grind)
  have d5 := (hs.add d4n o5).other (x' := p) (y' := q) h13 (by unfold sX sY; grind)
  obtain ⟨w1, w2⟩ := d5.uniq (V.self h1) rfl
  have U1 : ltUT t b S D W E T2 D2 = r := u1
  have U2 : ltUB t b S D W E T2 D2 = s := u2
  have Z1 : ltZT t b S D W E T2 D2 = p := w1
  have Z2 : ltZB t b S D W E T2 D2 = q := w2
  have O3 : ltUOk t b S D W E T2 D2 = true := o3
  have O4 : ltPOk t b S D W E T2 D2 = true := o4
  have O5 : ltZOk t b S D W E T2 D2 = true := o5
  have O1 : suOk W E t b = true := o1
  have O2 : suOk T2 D2 S D = true := o2
  refine ⟨?_, Z1, Z2, U1, U2⟩
  simp only [ltIn, v1, hs.1, hw.1, ht.1, hne, O1, O2, O3, O4, O5, Z1, Z2, U1, U2, hl]
  rfl
end Go.Proofs.Ytefgdkjcoeikmaa
