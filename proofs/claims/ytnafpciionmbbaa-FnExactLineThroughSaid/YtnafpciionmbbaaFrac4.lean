/- The contracts of the reference's adding and multiplying of fractions, of subtracting and dividing. No condition but the ranges that each contract names. -/
import Derived.Test.YtnafpciionmbbaaFrac3
namespace Go.Proofs.Ytnafpciionmbbaa
open Go.ChangeShapes Go.WideShapes Go.ChangeAt Go.RowKit
set_option linter.unusedVariables false

set_option maxHeartbeats 1600000 in
theorem spec_TimesFractions_bad1 (t1 b1 t2 b2 : Int) (w : World) (h1 : fracOk t1 b1 = false) :
    Calls Try.prog 117 #[.agg #[.int .i64 t1, .int .i64 b1], .agg #[.int .i64 t2, .int .i64 b2]] w fun e w' => e = frac 0 0 false ∧ Ext w w' := by
  go_enter Try.func117, Try.ntmps117
  go_wp2_with (go_at_call 109; refine (spec_FractionOk _ _ _).mono ?_; rintro e w1 ⟨rfl, hx⟩; obtain ⟨hc, hf⟩ := bcell hx)
  have c0 := ext_cell hx (b := w.heap.size + 2) (off := 0) (v := .int .i64 0) (by go_simp)
  have c1 := ext_cell hx (b := w.heap.size + 2) (off := 1) (v := .int .i64 0) (by go_simp)
  exact bodyPost_ret (v := .tuple #[.agg #[.int .i64 0, .int .i64 0], .bool false]) (by simp [results, Try.results117, go_sem, c0, c1]) rfl ⟨rfl, (by repeat (first | (with_reducible exact ext_refl _) | (with_reducible refine ext_setCell ?_ ?_ _) | (with_reducible refine ext_alloc ?_ _) | (with_reducible refine ext_drewN ?_ _) | (with_reducible refine ext_drew ?_) | (with_reducible refine ext_trans ?_ (by assumption)) | (dsimp only; omega) | omega | (simp; omega)))⟩
set_option maxHeartbeats 1600000 in
theorem spec_TimesFractions_bad2 (t1 b1 t2 b2 : Int) (w : World) (h1 : fracOk t1 b1 = true) (h2 : fracOk t2 b2 = false) :
    Calls Try.prog 117 #[.agg #[.int .i64 t1, .int .i64 b1], .agg #[.int .i64 t2, .int .i64 b2]] w fun e w' => e = frac 0 0 false ∧ Ext w w' := by
  go_enter Try.func117, Try.ntmps117
  go_wp2_with fail
  refine (spec_FractionOk _ _ _).mono ?_
  rintro e w1 ⟨rfl, hx⟩
  obtain ⟨hc, hf⟩ := bcell hx
  go_wp2_with fail
  refine (spec_FractionOk _ _ _).mono ?_
  rintro e w2 ⟨rfl, hx2⟩
  obtain ⟨hc2, hf2⟩ := bcell hx2
  have hz1 : w.heap.size + 1 + 1 < w1.heap.size := by have := hx.size; simp at this; omega
  have hz2 : w.heap.size + 1 < w1.heap.size := by omega
  have hz3 : w.heap.size < w1.heap.size := by omega
  go_wp2_with fail
  have c0 := ext_cell hx2 (ext_cell hx (b := w.heap.size + 2) (off := 0) (v := .int .i64 0) (by go_simp))
  have c1 := ext_cell hx2 (ext_cell hx (b := w.heap.size + 2) (off := 1) (v := .int .i64 0) (by go_simp))
  exact bodyPost_ret (v := .tuple #[.agg #[.int .i64 0, .int .i64 0], .bool false]) (by simp [results, Try.results117, go_sem, c0, c1]) rfl ⟨rfl, (by repeat (first | (with_reducible exact ext_refl _) | (with_reducible refine ext_setCell ?_ ?_ _) | (with_reducible refine ext_alloc ?_ _) | (with_reducible refine ext_drewN ?_ _) | (with_reducible refine ext_drew ?_) | (with_reducible refine ext_trans ?_ (by assumption)) | (dsimp only; omega) | omega | (simp; omega)))⟩

theorem mk_in_range {t b : Int} (hb : b ≠ 0) (h1 : -1000000000000 ≤ t) (h2 : t ≤ 1000000000000) (h3 : -1000000000000 ≤ b) (h4 : b ≤ 1000000000000) : mkT t b = redT t b ∧ mkB t b = redB t b ∧ mkOk t b = redOk t b := by
  have h : mkIn t b = true := by simp [mkIn, inB, hb]; omega
  simp [mkT, mkB, mkOk, h]
set_option maxHeartbeats 1600000 in
theorem spec_TimesFractions_good (t1 b1 t2 b2 : Int) (w : World) (h1 : fracOk t1 b1 = true) (h2 : fracOk t2 b2 = true) :
    Calls Try.prog 117 #[.agg #[.int .i64 t1, .int .i64 b1], .agg #[.int .i64 t2, .int .i64 b2]] w fun e w' => e = frac (redT (t1 * t2) (b1 * b2)) (redB (t1 * t2) (b1 * b2)) (redOk (t1 * t2) (b1 * b2)) ∧ Ext w w' := by
  obtain ⟨f1, f2, f3, f4, f5, f6, f7, f8, f9, f10, f11, f12, f13, f14, f15, f16⟩ := frac_facts h1 h2
  have HM := Lib.hid (mk_in_range (t := t1 * t2) (b := b1 * b2) (by omega) f7 f8 (by omega) f6)
  go_enter Try.func117, Try.ntmps117
  go_wp2_with fail
  refine (spec_FractionOk _ _ _).mono ?_
  rintro e w1 ⟨rfl, hx⟩
  obtain ⟨hc, hf⟩ := bcell hx
  go_wp2_with fail
  refine (spec_FractionOk _ _ _).mono ?_
  rintro e w2 ⟨rfl, hx2⟩
  obtain ⟨hc2, hf2⟩ := bcell hx2
  have hz1 : w.heap.size + 1 + 1 < w1.heap.size := by have := hx.size; simp at this; omega
  have hz2 : w.heap.size + 1 < w1.heap.size := by omega
  have hz3 : w.heap.size < w1.heap.size := by omega
  go_wp2_with fail
  refine (spec_MakeFraction _ _ _).mono ?_
  rintro e w3 ⟨rfl, hx3⟩
  obtain ⟨hc3, hf3⟩ := bcell hx3
  have hz4 : w.heap.size + 1 + 1 < w2.heap.size := by have := hx2.size; omega
  go_wp2_with fail
  have c0 := ext_cell hx3 (ext_cell hx2 (ext_cell hx (b := w.heap.size + 2) (off := 0) (v := .int .i64 0) (by go_simp)))
  have c1 := ext_cell hx3 (ext_cell hx2 (ext_cell hx (b := w.heap.size + 2) (off := 1) (v := .int .i64 0) (by go_simp)))
  exact bodyPost_ret (v := .tuple #[.agg #[.int .i64 (mkT (t1 * t2) (b1 * b2)), .int .i64 (mkB (t1 * t2) (b1 * b2))], .bool (mkOk (t1 * t2) (b1 * b2))]) (by simp [results, Try.results117, go_sem, c0, c1]) rfl
    ⟨by rw [HM.out.1, HM.out.2.1, HM.out.2.2], (by repeat (first | (with_reducible exact ext_refl _) | (with_reducible refine ext_setCell ?_ ?_ _) | (with_reducible refine ext_alloc ?_ _) | (with_reducible refine ext_drewN ?_ _) | (with_reducible refine ext_drew ?_) | (with_reducible refine ext_trans ?_ (by assumption)) | (dsimp only; omega) | omega | (simp; omega)))⟩
theorem spec_TimesFractions (t1 b1 t2 b2 : Int) (w : World) :
    Calls Try.prog 117 #[.agg #[.int .i64 t1, .int .i64 b1], .agg #[.int .i64 t2, .int .i64 b2]] w fun e w' => e = frac (timT t1 b1 t2 b2) (timB t1 b1 t2 b2) (timOk t1 b1 t2 b2) ∧ Ext w w' := by
  cases h1 : fracOk t1 b1
  · have hm : addIn t1 b1 t2 b2 = false := by simp [addIn, h1]
    simpa [timT, timB, timOk, hm] using spec_TimesFractions_bad1 t1 b1 t2 b2 w h1
  · cases h2 : fracOk t2 b2
    · have hm : addIn t1 b1 t2 b2 = false := by simp [addIn, h2]
      simpa [timT, timB, timOk, hm] using spec_TimesFractions_bad2 t1 b1 t2 b2 w h1 h2
    · have hm : addIn t1 b1 t2 b2 = true := by simp [addIn, h1, h2]
      simpa [timT, timB, timOk, hm] using spec_TimesFractions_good t1 b1 t2 b2 w h1 h2

set_option maxHeartbeats 1600000 in
theorem spec_AddFractions_bad1 (t1 b1 t2 b2 : Int) (w : World) (h1 : fracOk t1 b1 = false) :
    Calls Try.prog 123 #[.agg #[.int .i64 t1, .int .i64 b1], .agg #[.int .i64 t2, .int .i64 b2]] w fun e w' => e = frac 0 0 false ∧ Ext w w' := by
  go_enter Try.func123, Try.ntmps123
  go_wp2_with (go_at_call 109; refine (spec_FractionOk _ _ _).mono ?_; rintro e w1 ⟨rfl, hx⟩; obtain ⟨hc, hf⟩ := bcell hx)
  have c0 := ext_cell hx (b := w.heap.size + 2) (off := 0) (v := .int .i64 0) (by go_simp)
  have c1 := ext_cell hx (b := w.heap.size + 2) (off := 1) (v := .int .i64 0) (by go_simp)
  exact bodyPost_ret (v := .tuple #[.agg #[.int .i64 0, .int .i64 0], .bool false]) (by simp [results, Try.results123, go_sem, c0, c1]) rfl ⟨rfl, (by repeat (first | (with_reducible exact ext_refl _) | (with_reducible refine ext_setCell ?_ ?_ _) | (with_reducible refine ext_alloc ?_ _) | (with_reducible refine ext_drewN ?_ _) | (with_reducible refine ext_drew ?_) | (with_reducible refine ext_trans ?_ (by assumption)) | (dsimp only; omega) | omega | (simp; omega)))⟩
set_option maxHeartbeats 1600000 in
theorem spec_AddFractions_bad2 (t1 b1 t2 b2 : Int) (w : World) (h1 : fracOk t1 b1 = true) (h2 : fracOk t2 b2 = false) :
    Calls Try.prog 123 #[.agg #[.int .i64 t1, .int .i64 b1], .agg #[.int .i64 t2, .int .i64 b2]] w fun e w' => e = frac 0 0 false ∧ Ext w w' := by
  go_enter Try.func123, Try.ntmps123
  go_wp2_with fail
  refine (spec_FractionOk _ _ _).mono ?_
  rintro e w1 ⟨rfl, hx⟩
  obtain ⟨hc, hf⟩ := bcell hx
  go_wp2_with fail
  refine (spec_FractionOk _ _ _).mono ?_
  rintro e w2 ⟨rfl, hx2⟩
  obtain ⟨hc2, hf2⟩ := bcell hx2
  have hz1 : w.heap.size + 1 + 1 < w1.heap.size := by have := hx.size; simp at this; omega
  have hz2 : w.heap.size + 1 < w1.heap.size := by omega
  have hz3 : w.heap.size < w1.heap.size := by omega
  go_wp2_with fail
  have c0 := ext_cell hx2 (ext_cell hx (b := w.heap.size + 2) (off := 0) (v := .int .i64 0) (by go_simp))
  have c1 := ext_cell hx2 (ext_cell hx (b := w.heap.size + 2) (off := 1) (v := .int .i64 0) (by go_simp))
  exact bodyPost_ret (v := .tuple #[.agg #[.int .i64 0, .int .i64 0], .bool false]) (by simp [results, Try.results123, go_sem, c0, c1]) rfl ⟨rfl, (by repeat (first | (with_reducible exact ext_refl _) | (with_reducible refine ext_setCell ?_ ?_ _) | (with_reducible refine ext_alloc ?_ _) | (with_reducible refine ext_drewN ?_ _) | (with_reducible refine ext_drew ?_) | (with_reducible refine ext_trans ?_ (by assumption)) | (dsimp only; omega) | omega | (simp; omega)))⟩

/-- the reference divides by the divisor of the bottoms first -/
theorem add_parts {t1 b1 t2 b2 : Int} (h1 : fracOk t1 b1 = true) (h2 : fracOk t2 b2 = true) : ∃ g x y : Int, g = (Int.gcd b1 b2 : Int) ∧ 1 ≤ g ∧ g ≤ 1000000 ∧ b1 / g = x ∧ b2 / g = y ∧ 1 ≤ x ∧ x ≤ 1000000 ∧ 1 ≤ y ∧ y ≤ 1000000 ∧ b1 = g * x ∧ b2 = g * y ∧
    -1000000000000 ≤ t1 * y ∧ t1 * y ≤ 1000000000000 ∧ -1000000000000 ≤ t2 * x ∧ t2 * x ≤ 1000000000000 ∧ 1 ≤ x * b2 ∧ x * b2 ≤ 1000000000000 := by
  obtain ⟨⟨a1, a2⟩, ⟨a3, a4⟩, _⟩ := fracOk_iff.1 h1
  obtain ⟨⟨c1, c2⟩, ⟨c3, c4⟩, _⟩ := fracOk_iff.1 h2
  have hg := gcd_pos (t := b1) (b := b2) (by omega)
  have hg2 := gcd_le (t := b1) (b := b2) (by omega)
  obtain ⟨x, hx⟩ := Int.gcd_dvd_left b1 b2
  obtain ⟨y, hy⟩ := Int.gcd_dvd_right b1 b2
  refine ⟨_, x, y, rfl, ?_⟩
  generalize (Int.gcd b1 b2 : Int) = g at *
  have x1 : 1 ≤ x := by
    rcases Int.lt_or_le x 1 with h | h
    · have := Int.mul_nonneg (show 0 ≤ g by omega) (show 0 ≤ -x by omega)
      rw [Int.mul_neg] at this; omega
    · exact h
  have y1 : 1 ≤ y := by
    rcases Int.lt_or_le y 1 with h | h
    · have := Int.mul_nonneg (show 0 ≤ g by omega) (show 0 ≤ -y by omega)
      rw [Int.mul_neg] at this; omega
    · exact h
  have x2 : x ≤ b1 := by
    have := Int.mul_nonneg (show 0 ≤ g - 1 by omega) (show 0 ≤ x by omega)
    grind
  have y2 : y ≤ b2 := by
    have := Int.mul_nonneg (show 0 ≤ g - 1 by omega) (show 0 ≤ y by omega)
    grind
  have m1 := mul_bound (x := t1) (y := y) (A := 1000000) (B := 1000000) ⟨a1, a2⟩ ⟨by omega, by omega⟩
  have m2 := mul_bound (x := t2) (y := x) (A := 1000000) (B := 1000000) ⟨c1, c2⟩ ⟨by omega, by omega⟩
  have m3 := mul_bound (x := x) (y := b2) (A := 1000000) (B := 1000000) ⟨by omega, by omega⟩ ⟨by omega, c4⟩
  have m5 : 1 ≤ x * b2 := by have := Int.mul_pos (show 0 < x by omega) (show 0 < b2 by omega); omega
  refine ⟨by omega, by omega, ?_, ?_, x1, by omega, y1, by omega, hx, hy, by omega, by omega, by omega, by omega, by omega, by omega⟩
  · conv => lhs; arg 1; rw [hx]
    exact Int.mul_ediv_cancel_left _ (by omega)
  · conv => lhs; arg 1; rw [hy]
    exact Int.mul_ediv_cancel_left _ (by omega)
theorem red_parts (t b : Int) (hb : 0 < b) : nt t b = t.tdiv (Int.gcd t b) ∧ nb t b = b / (Int.gcd t b) := by
  unfold nt nb
  rw [if_neg (by omega), if_neg (by omega)]
  exact ⟨rfl, Int.tdiv_eq_ediv_of_nonneg (by omega)⟩

set_option maxHeartbeats 3200000 in
theorem spec_AddFractions_false (t1 b1 t2 b2 : Int) (w : World) (h1 : fracOk t1 b1 = true) (h2 : fracOk t2 b2 = true) (g x y : Int) (hg : g = (Int.gcd b1 b2 : Int)) (g1 : 1 ≤ g) (g2 : g ≤ 1000000) (ex : b1 / g = x) (ey : b2 / g = y)
    (x1 : 1 ≤ x) (x2 : x ≤ 1000000) (y1 : 1 ≤ y) (y2 : y ≤ 1000000) (m1 : -1000000000000 ≤ t1 * y) (m2 : t1 * y ≤ 1000000000000) (m3 : -1000000000000 ≤ t2 * x) (m4 : t2 * x ≤ 1000000000000) (m5 : 1 ≤ x * b2) (m6 : x * b2 ≤ 1000000000000)
    (hr : fracOk ((t1 * y + t2 * x).tdiv (Int.gcd (t1 * y + t2 * x) (x * b2))) (x * b2 / Int.gcd (t1 * y + t2 * x) (x * b2)) = false) :
    Calls Try.prog 123 #[.agg #[.int .i64 t1, .int .i64 b1], .agg #[.int .i64 t2, .int .i64 b2]] w fun e w' => e = frac 0 0 false ∧ Ext w w' := by
  obtain ⟨⟨a1, a2⟩, ⟨a3, a4⟩, _⟩ := fracOk_iff.1 h1
  obtain ⟨⟨c1, c2⟩, ⟨c3, c4⟩, _⟩ := fracOk_iff.1 h2
  have p1 := gcd_pos (t := (t1 * y + t2 * x)) (b := x * b2) (by omega)
  have p2 := gcd_le (t := (t1 * y + t2 * x)) (b := x * b2) (by omega)
  have p3 : (Int.gcd (t1 * y + t2 * x) (x * b2) : Int) ≤ 1000000000000 := by omega
  obtain ⟨t3, t4⟩ := tdiv_bound p1 (t := (t1 * y + t2 * x)) (M := 2000000000000) (by omega) (by omega)
  have d1 : 0 ≤ x * b2 / Int.gcd (t1 * y + t2 * x) (x * b2) := Int.ediv_nonneg (by omega) (by omega)
  have d2 : x * b2 / Int.gcd (t1 * y + t2 * x) (x * b2) ≤ 2000000000000 := by have := Int.ediv_le_self (Int.gcd (t1 * y + t2 * x) (x * b2)) (show 0 ≤ x * b2 by omega); omega
  clear p2
  have HG := Lib.hid hg
  clear hg
  go_enter Try.func123, Try.ntmps123
  go_wp2_with fail
  refine (spec_FractionOk _ _ _).mono ?_
  rintro e w1 ⟨rfl, hx⟩
  obtain ⟨hc, hf⟩ := bcell hx
  go_wp2_with fail
  refine (spec_FractionOk _ _ _).mono ?_
  rintro e w2 ⟨rfl, hx2⟩
  obtain ⟨hc2, hf2⟩ := bcell hx2
  have hz1 : w.heap.size + 1 + 1 < w1.heap.size := by have := hx.size; simp at this; omega
  have hz2 : w.heap.size + 1 < w1.heap.size := by omega
  have hz3 : w.heap.size < w1.heap.size := by omega
  go_wp2_with fail
  refine (spec_gcd _ _ _ (by omega) (by omega) (by omega) (by omega)).mono ?_
  rintro e w3 ⟨rfl, m, rfl⟩
  rw [← HG.out]
  go_wp2_with fail
  go_quiet (fail)
  go_wp2_with fail
  go_quiet (fail)
  go_wp2_with fail
  refine (spec_gcd _ _ _ (by omega) (by omega) (by omega) (by omega)).mono ?_
  rintro e w4 ⟨rfl, m', rfl⟩
  go_wp2_with fail
  go_region
  go_wp2_with fail
  refine (spec_FractionOk _ _ _).mono ?_
  rintro e w5 ⟨rfl, hx5⟩
  obtain ⟨hc5, hf5⟩ := bcell hx5
  have hz5 : w.heap.size + 1 + 1 < w2.heap.size := by have := hx2.size; omega
  have hz6 : w.heap.size + 1 + 1 < w2.heap.size + 1 := by omega
  go_wp2_with fail
  have c0 := ext_cell (ext_trans (ext_drewN (ext_alloc hx2 _) _) hx5) (ext_cell hx (b := w.heap.size + 2) (off := 0) (v := .int .i64 0) (by go_simp))
  have c1 := ext_cell (ext_trans (ext_drewN (ext_alloc hx2 _) _) hx5) (ext_cell hx (b := w.heap.size + 2) (off := 1) (v := .int .i64 0) (by go_simp))
  exact bodyPost_ret (v := .tuple #[.agg #[.int .i64 0, .int .i64 0], .bool false]) (by simp [results, Try.results123, go_sem, c0, c1]) rfl ⟨rfl, (by repeat (first | (with_reducible exact ext_refl _) | (with_reducible refine ext_setCell ?_ ?_ _) | (with_reducible refine ext_alloc ?_ _) | (with_reducible refine ext_drewN ?_ _) | (with_reducible refine ext_drew ?_) | (with_reducible refine ext_trans ?_ (by assumption)) | (dsimp only; omega) | omega | (simp; omega)))⟩

set_option maxHeartbeats 3200000 in
theorem spec_AddFractions_true (t1 b1 t2 b2 : Int) (w : World) (h1 : fracOk t1 b1 = true) (h2 : fracOk t2 b2 = true) (g x y : Int) (hg : g = (Int.gcd b1 b2 : Int)) (g1 : 1 ≤ g) (g2 : g ≤ 1000000) (ex : b1 / g = x) (ey : b2 / g = y)
    (x1 : 1 ≤ x) (x2 : x ≤ 1000000) (y1 : 1 ≤ y) (y2 : y ≤ 1000000) (m1 : -1000000000000 ≤ t1 * y) (m2 : t1 * y ≤ 1000000000000) (m3 : -1000000000000 ≤ t2 * x) (m4 : t2 * x ≤ 1000000000000) (m5 : 1 ≤ x * b2) (m6 : x * b2 ≤ 1000000000000)
    (hr : fracOk ((t1 * y + t2 * x).tdiv (Int.gcd (t1 * y + t2 * x) (x * b2))) (x * b2 / Int.gcd (t1 * y + t2 * x) (x * b2)) = true) :
    Calls Try.prog 123 #[.agg #[.int .i64 t1, .int .i64 b1], .agg #[.int .i64 t2, .int .i64 b2]] w fun e w' => e = frac ((t1 * y + t2 * x).tdiv (Int.gcd (t1 * y + t2 * x) (x * b2))) (x * b2 / Int.gcd (t1 * y + t2 * x) (x * b2)) true ∧ Ext w w' := by
  obtain ⟨⟨a1, a2⟩, ⟨a3, a4⟩, _⟩ := fracOk_iff.1 h1
  obtain ⟨⟨c1, c2⟩, ⟨c3, c4⟩, _⟩ := fracOk_iff.1 h2
  have p1 := gcd_pos (t := (t1 * y + t2 * x)) (b := x * b2) (by omega)
  have p2 := gcd_le (t := (t1 * y + t2 * x)) (b := x * b2) (by omega)
  have p3 : (Int.gcd (t1 * y + t2 * x) (x * b2) : Int) ≤ 1000000000000 := by omega
  obtain ⟨t3, t4⟩ := tdiv_bound p1 (t := (t1 * y + t2 * x)) (M := 2000000000000) (by omega) (by omega)
  have d1 : 0 ≤ x * b2 / Int.gcd (t1 * y + t2 * x) (x * b2) := Int.ediv_nonneg (by omega) (by omega)
  have d2 : x * b2 / Int.gcd (t1 * y + t2 * x) (x * b2) ≤ 2000000000000 := by have := Int.ediv_le_self (Int.gcd (t1 * y + t2 * x) (x * b2)) (show 0 ≤ x * b2 by omega); omega
  clear p2
  have HG := Lib.hid hg
  clear hg
  go_enter Try.func123, Try.ntmps123
  go_wp2_with fail
  refine (spec_FractionOk _ _ _).mono ?_
  rintro e w1 ⟨rfl, hx⟩
  obtain ⟨hc, hf⟩ := bcell hx
  go_wp2_with fail
  refine (spec_FractionOk _ _ _).mono ?_
  rintro e w2 ⟨rfl, hx2⟩
  obtain ⟨hc2, hf2⟩ := bcell hx2
  have hz1 : w.heap.size + 1 + 1 < w1.heap.size := by have := hx.size; simp at this; omega
  have hz2 : w.heap.size + 1 < w1.heap.size := by omega
  have hz3 : w.heap.size < w1.heap.size := by omega
  go_wp2_with fail
  refine (spec_gcd _ _ _ (by omega) (by omega) (by omega) (by omega)).mono ?_
  rintro e w3 ⟨rfl, m, rfl⟩
  rw [← HG.out]
  go_wp2_with fail
  go_quiet (fail)
  go_wp2_with fail
  go_quiet (fail)
  go_wp2_with fail
  refine (spec_gcd _ _ _ (by omega) (by omega) (by omega) (by omega)).mono ?_
  rintro e w4 ⟨rfl, m', rfl⟩
  go_wp2_with fail
  go_region
  go_wp2_with fail
  refine (spec_FractionOk _ _ _).mono ?_
  rintro e w5 ⟨rfl, hx5⟩
  obtain ⟨hc5, hf5⟩ := bcell hx5
  have hz5 : w.heap.size + 1 + 1 < w2.heap.size := by have := hx2.size; omega
  have hz6 : w.heap.size + 1 + 1 < w2.heap.size + 1 := by omega
  go_wp2_with fail
  have c0 := ext_cell (ext_trans (ext_drewN (ext_alloc hx2 _) _) hx5) (ext_cell hx (b := w.heap.size + 2) (off := 0) (v := .int .i64 0) (by go_simp))
  have c1 := ext_cell (ext_trans (ext_drewN (ext_alloc hx2 _) _) hx5) (ext_cell hx (b := w.heap.size + 2) (off := 1) (v := .int .i64 0) (by go_simp))
  exact bodyPost_ret (v := .tuple #[.agg #[.int .i64 ((t1 * y + t2 * x).tdiv (Int.gcd (t1 * y + t2 * x) (x * b2))), .int .i64 (x * b2 / Int.gcd (t1 * y + t2 * x) (x * b2))], .bool true]) (by simp [results, Try.results123, go_sem, c0, c1]) rfl ⟨rfl, (by repeat (first | (with_reducible exact ext_refl _) | (with_reducible refine ext_setCell ?_ ?_ _) | (with_reducible refine ext_alloc ?_ _) | (with_reducible refine ext_drewN ?_ _) | (with_reducible refine ext_drew ?_) | (with_reducible refine ext_trans ?_ (by assumption)) | (dsimp only; omega) | omega | (simp; omega)))⟩

theorem spec_AddFractions_good (t1 b1 t2 b2 : Int) (w : World) (h1 : fracOk t1 b1 = true) (h2 : fracOk t2 b2 = true) :
    Calls Try.prog 123 #[.agg #[.int .i64 t1, .int .i64 b1], .agg #[.int .i64 t2, .int .i64 b2]] w fun e w' => e = frac (redT (t1 * b2 + t2 * b1) (b1 * b2)) (redB (t1 * b2 + t2 * b1) (b1 * b2)) (redOk (t1 * b2 + t2 * b1) (b1 * b2)) ∧ Ext w w' := by
  obtain ⟨g, x, y, hg, g1, g2, ex, ey, x1, x2, y1, y2, e1, e2, m1, m2, m3, m4, m5, m6⟩ := add_parts h1 h2
  obtain ⟨n1, n2⟩ := red_parts (t1 * y + t2 * x) (x * b2) (by omega)
  have hbb : b1 * b2 ≠ 0 := by
    rw [e1, Int.mul_assoc]
    exact Int.mul_ne_zero (by omega) (by omega)
  have hv : (t1 * b2 + t2 * b1) * (x * b2) = (t1 * y + t2 * x) * (b1 * b2) := by
    rw [e1]
    conv => lhs; rw [e2]
    conv => rhs; rw [e2]
    grind
  rw [redT_congr hbb (show x * b2 ≠ 0 by omega) hv, redB_congr hbb (show x * b2 ≠ 0 by omega) hv, redOk_congr hbb (show x * b2 ≠ 0 by omega) hv]
  cases hr : fracOk ((t1 * y + t2 * x).tdiv (Int.gcd (t1 * y + t2 * x) (x * b2))) (x * b2 / Int.gcd (t1 * y + t2 * x) (x * b2))
  · have ho : redOk (t1 * y + t2 * x) (x * b2) = false := by unfold redOk; rw [n1, n2]; exact hr
    rw [redT, redB, ho]
    exact spec_AddFractions_false t1 b1 t2 b2 w h1 h2 g x y hg g1 g2 ex ey x1 x2 y1 y2 m1 m2 m3 m4 m5 m6 hr
  · have ho : redOk (t1 * y + t2 * x) (x * b2) = true := by unfold redOk; rw [n1, n2]; exact hr
    rw [redT, redB, ho, n1, n2]
    exact spec_AddFractions_true t1 b1 t2 b2 w h1 h2 g x y hg g1 g2 ex ey x1 x2 y1 y2 m1 m2 m3 m4 m5 m6 hr
theorem spec_AddFractions (t1 b1 t2 b2 : Int) (w : World) :
    Calls Try.prog 123 #[.agg #[.int .i64 t1, .int .i64 b1], .agg #[.int .i64 t2, .int .i64 b2]] w fun e w' => e = frac (addT t1 b1 t2 b2) (addB t1 b1 t2 b2) (addOk t1 b1 t2 b2) ∧ Ext w w' := by
  cases h1 : fracOk t1 b1
  · have hm : addIn t1 b1 t2 b2 = false := by simp [addIn, h1]
    simpa [addT, addB, addOk, hm] using spec_AddFractions_bad1 t1 b1 t2 b2 w h1
  · cases h2 : fracOk t2 b2
    · have hm : addIn t1 b1 t2 b2 = false := by simp [addIn, h2]
      simpa [addT, addB, addOk, hm] using spec_AddFractions_bad2 t1 b1 t2 b2 w h1 h2
    · have hm : addIn t1 b1 t2 b2 = true := by simp [addIn, h1, h2]
      simpa [addT, addB, addOk, hm] using spec_AddFractions_good t1 b1 t2 b2 w h1 h2
end Go.Proofs.Ytnafpciionmbbaa
