/- The contracts of adding, multiplying, subtracting and dividing fractions. No condition. -/
import Derived.Test.YtefgdkjcoeikmaaFrac2
namespace Go.Proofs.Ytefgdkjcoeikmaa
open Go.ChangeShapes Go.WideShapes Go.ChangeAt Go.RowKit
set_option linter.unusedVariables false

def addIn (t1 b1 t2 b2 : Int) : Bool := fracOk t1 b1 && fracOk t2 b2
def addOk (t1 b1 t2 b2 : Int) : Bool := addIn t1 b1 t2 b2 && redOk (t1 * b2 + t2 * b1) (b1 * b2)
def addT (t1 b1 t2 b2 : Int) : Int := if addIn t1 b1 t2 b2 then redT (t1 * b2 + t2 * b1) (b1 * b2) else 0
def addB (t1 b1 t2 b2 : Int) : Int := if addIn t1 b1 t2 b2 then redB (t1 * b2 + t2 * b1) (b1 * b2) else 0
def timOk (t1 b1 t2 b2 : Int) : Bool := addIn t1 b1 t2 b2 && redOk (t1 * t2) (b1 * b2)
def timT (t1 b1 t2 b2 : Int) : Int := if addIn t1 b1 t2 b2 then redT (t1 * t2) (b1 * b2) else 0
def timB (t1 b1 t2 b2 : Int) : Int := if addIn t1 b1 t2 b2 then redB (t1 * t2) (b1 * b2) else 0

theorem frac_facts {t1 b1 t2 b2 : Int} (h1 : fracOk t1 b1 = true) (h2 : fracOk t2 b2 = true) :
    -1000000000000 ≤ t1 * b2 ∧ t1 * b2 ≤ 1000000000000 ∧ -1000000000000 ≤ t2 * b1 ∧ t2 * b1 ≤ 1000000000000 ∧ 1 ≤ b1 * b2 ∧ b1 * b2 ≤ 1000000000000 ∧ -1000000000000 ≤ t1 * t2 ∧ t1 * t2 ≤ 1000000000000 ∧
    -1000000 ≤ t1 ∧ t1 ≤ 1000000 ∧ -1000000 ≤ t2 ∧ t2 ≤ 1000000 ∧ 1 ≤ b1 ∧ b1 ≤ 1000000 ∧ 1 ≤ b2 ∧ b2 ≤ 1000000 := by
  obtain ⟨⟨a1, a2⟩, ⟨a3, a4⟩, _⟩ := fracOk_iff.1 h1
  obtain ⟨⟨c1, c2⟩, ⟨c3, c4⟩, _⟩ := fracOk_iff.1 h2
  have m1 := mul_bound (x := t1) (y := b2) (A := 1000000) (B := 1000000) ⟨a1, a2⟩ ⟨by omega, c4⟩
  have m2 := mul_bound (x := t2) (y := b1) (A := 1000000) (B := 1000000) ⟨c1, c2⟩ ⟨by omega, a4⟩
  have m3 := mul_bound (x := b1) (y := b2) (A := 1000000) (B := 1000000) ⟨by omega, a4⟩ ⟨by omega, c4⟩
  have m4 := mul_bound (x := t1) (y := t2) (A := 1000000) (B := 1000000) ⟨a1, a2⟩ ⟨c1, c2⟩
  have m5 : 1 ≤ b1 * b2 := by
    have := Int.mul_pos (show 0 < b1 by omega) (show 0 < b2 by omega); omega
  omega

set_option maxHeartbeats 1600000 in
theorem impl_AddFractions_bad1 (t1 b1 t2 b2 : Int) (w : World) (h1 : fracOk t1 b1 = false) :
    Calls Try.prog 27 #[.agg #[.int .i64 t1, .int .i64 b1], .agg #[.int .i64 t2, .int .i64 b2]] w fun e w' => e = frac 0 0 false ∧ Ext w w' := by
  go_enter Try.func27, Try.ntmps27
  go_wp2_with (go_at_call 66; refine (impl_FractionOk _ _ _).mono ?_; rintro e w1 ⟨rfl, hx⟩; obtain ⟨hc, hf⟩ := bcell hx)
  have c0 := ext_cell hx (b := w.heap.size + 2) (off := 0) (v := .int .i64 0) (by go_simp)
  have c1 := ext_cell hx (b := w.heap.size + 2) (off := 1) (v := .int .i64 0) (by go_simp)
  exact bodyPost_ret (v := .tuple #[.agg #[.int .i64 0, .int .i64 0], .bool false]) (by simp [results, Try.results27, go_sem, c0, c1]) rfl ⟨rfl, (by repeat (first | (with_reducible exact ext_refl _) | (with_reducible refine ext_setCell ?_ ?_ _) | (with_reducible refine ext_alloc ?_ _) | (with_reducible refine ext_drewN ?_ _) | (with_reducible refine ext_drew ?_) | (with_reducible refine ext_trans ?_ (by assumption)) | (dsimp only; omega) | omega | (simp; omega)))⟩
set_option maxHeartbeats 1600000 in
theorem impl_AddFractions_bad2 (t1 b1 t2 b2 : Int) (w : World) (h1 : fracOk t1 b1 = true) (h2 : fracOk t2 b2 = false) :
    Calls Try.prog 27 #[.agg #[.int .i64 t1, .int .i64 b1], .agg #[.int .i64 t2, .int .i64 b2]] w fun e w' => e = frac 0 0 false ∧ Ext w w' := by
  go_enter Try.func27, Try.ntmps27
  go_wp2_with fail
  refine (impl_FractionOk _ _ _).mono ?_
  rintro e w1 ⟨rfl, hx⟩
  obtain ⟨hc, hf⟩ := bcell hx
  go_wp2_with fail
  refine (impl_FractionOk _ _ _).mono ?_
  rintro e w2 ⟨rfl, hx2⟩
  obtain ⟨hc2, hf2⟩ := bcell hx2
  have hz1 : w.heap.size + 1 + 1 < w1.heap.size := by have := hx.size; simp at this; omega
  have hz2 : w.heap.size + 1 < w1.heap.size := by omega
  have hz3 : w.heap.size < w1.heap.size := by omega
  go_wp2_with fail
  have c0 := ext_cell hx2 (ext_cell hx (b := w.heap.size + 2) (off := 0) (v := .int .i64 0) (by go_simp))
  have c1 := ext_cell hx2 (ext_cell hx (b := w.heap.size + 2) (off := 1) (v := .int .i64 0) (by go_simp))
  exact bodyPost_ret (v := .tuple #[.agg #[.int .i64 0, .int .i64 0], .bool false]) (by simp [results, Try.results27, go_sem, c0, c1]) rfl ⟨rfl, (by repeat (first | (with_reducible exact ext_refl _) | (with_reducible refine ext_setCell ?_ ?_ _) | (with_reducible refine ext_alloc ?_ _) | (with_reducible refine ext_drewN ?_ _) | (with_reducible refine ext_drew ?_) | (with_reducible refine ext_trans ?_ (by assumption)) | (dsimp only; omega) | omega | (simp; omega)))⟩

set_option maxHeartbeats 1600000 in
theorem impl_AddFractions_good (t1 b1 t2 b2 : Int) (w : World) (h1 : fracOk t1 b1 = true) (h2 : fracOk t2 b2 = true) :
    Calls Try.prog 27 #[.agg #[.int .i64 t1, .int .i64 b1], .agg #[.int .i64 t2, .int .i64 b2]] w fun e w' => e = frac (redT (t1 * b2 + t2 * b1) (b1 * b2)) (redB (t1 * b2 + t2 * b1) (b1 * b2)) (redOk (t1 * b2 + t2 * b1) (b1 * b2)) ∧ Ext w w' := by
  obtain ⟨f1, f2, f3, f4, f5, f6, f7, f8, f9, f10, f11, f12, f13, f14, f15, f16⟩ := frac_facts h1 h2
  go_enter Try.func27, Try.ntmps27
  go_wp2_with fail
  refine (impl_FractionOk _ _ _).mono ?_
  rintro e w1 ⟨rfl, hx⟩
  obtain ⟨hc, hf⟩ := bcell hx
  go_wp2_with fail
  refine (impl_FractionOk _ _ _).mono ?_
  rintro e w2 ⟨rfl, hx2⟩
  obtain ⟨hc2, hf2⟩ := bcell hx2
  have hz1 : w.heap.size + 1 + 1 < w1.heap.size := by have := hx.size; simp at this; omega
  have hz2 : w.heap.size + 1 < w1.heap.size := by omega
  have hz3 : w.heap.size < w1.heap.size := by omega
  go_wp2_with fail
  refine (impl_reduced _ _ _ (by omega) (by omega) (by omega) (by omega) (by omega)).mono ?_
  rintro e w3 ⟨rfl, hx3⟩
  obtain ⟨hc3, hf3⟩ := bcell hx3
  have hz4 : w.heap.size + 1 + 1 < w2.heap.size := by have := hx2.size; omega
  go_wp2_with fail
  have c0 := ext_cell hx3 (ext_cell hx2 (ext_cell hx (b := w.heap.size + 2) (off := 0) (v := .int .i64 0) (by go_simp)))
  have c1 := ext_cell hx3 (ext_cell hx2 (ext_cell hx (b := w.heap.size + 2) (off := 1) (v := .int .i64 0) (by go_simp)))
  exact bodyPost_ret (v := .tuple #[.agg #[.int .i64 (redT (t1 * b2 + t2 * b1) (b1 * b2)), .int .i64 (redB (t1 * b2 + t2 * b1) (b1 * b2))], .bool (redOk (t1 * b2 + t2 * b1) (b1 * b2))]) (by simp [results, Try.results27, go_sem, c0, c1]) rfl ⟨rfl, (by repeat (first | (with_reducible exact ext_refl _) | (with_reducible refine ext_setCell ?_ ?_ _) | (with_reducible refine ext_alloc ?_ _) | (with_reducible refine ext_drewN ?_ _) | (with_reducible refine ext_drew ?_) | (with_reducible refine ext_trans ?_ (by assumption)) | (dsimp only; omega) | omega | (simp; omega)))⟩
theorem impl_AddFractions (t1 b1 t2 b2 : Int) (w : World) :
    Calls Try.prog 27 #[.agg #[.int .i64 t1, .int .i64 b1], .agg #[.int .i64 t2, .int .i64 b2]] w fun e w' => e = frac (addT t1 b1 t2 b2) (addB t1 b1 t2 b2) (addOk t1 b1 t2 b2) ∧ Ext w w' := by
  cases h1 : fracOk t1 b1
  · have hm : addIn t1 b1 t2 b2 = false := by simp [addIn, h1]
    simpa [addT, addB, addOk, hm] using impl_AddFractions_bad1 t1 b1 t2 b2 w h1
  · cases h2 : fracOk t2 b2
    · have hm : addIn t1 b1 t2 b2 = false := by simp [addIn, h2]
      simpa [addT, addB, addOk, hm] using impl_AddFractions_bad2 t1 b1 t2 b2 w h1 h2
    · have hm : addIn t1 b1 t2 b2 = true := by simp [addIn, h1, h2]
      simpa [addT, addB, addOk, hm] using impl_AddFractions_good t1 b1 t2 b2 w h1 h2

set_option maxHeartbeats 1600000 in
theorem impl_TimesFractions_bad1 (t1 b1 t2 b2 : Int) (w : World) (h1 : fracOk t1 b1 = false) :
    Calls Try.prog 67 #[.agg #[.int .i64 t1, .int .i64 b1], .agg #[.int .i64 t2, .int .i64 b2]] w fun e w' => e = frac 0 0 false ∧ Ext w w' := by
  go_enter Try.func67, Try.ntmps67
  go_wp2_with (go_at_call 66; refine (impl_FractionOk _ _ _).mono ?_; rintro e w1 ⟨rfl, hx⟩; obtain ⟨hc, hf⟩ := bcell hx)
  have c0 := ext_cell hx (b := w.heap.size + 2) (off := 0) (v := .int .i64 0) (by go_simp)
  have c1 := ext_cell hx (b := w.heap.size + 2) (off := 1) (v := .int .i64 0) (by go_simp)
  exact bodyPost_ret (v := .tuple #[.agg #[.int .i64 0, .int .i64 0], .bool false]) (by simp [results, Try.results67, go_sem, c0, c1]) rfl ⟨rfl, (by repeat (first | (with_reducible exact ext_refl _) | (with_reducible refine ext_setCell ?_ ?_ _) | (with_reducible refine ext_alloc ?_ _) | (with_reducible refine ext_drewN ?_ _) | (with_reducible refine ext_drew ?_) | (with_reducible refine ext_trans ?_ (by assumption)) | (dsimp only; omega) | omega | (simp; omega)))⟩
set_option maxHeartbeats 1600000 in
theorem impl_TimesFractions_bad2 (t1 b1 t2 b2 : Int) (w : World) (h1 : fracOk t1 b1 = true) (h2 : fracOk t2 b2 = false) :
    Calls Try.prog 67 #[.agg #[.int .i64 t1, .int .i64 b1], .agg #[.int .i64 t2, .int .i64 b2]] w fun e w' => e = frac 0 0 false ∧ Ext w w' := by
  go_enter Try.func67, Try.ntmps67
  go_wp2_with fail
  refine (impl_FractionOk _ _ _).mono ?_
  rintro e w1 ⟨rfl, hx⟩
  obtain ⟨hc, hf⟩ := bcell hx
  go_wp2_with fail
  refine (impl_FractionOk _ _ _).mono ?_
  rintro e w2 ⟨rfl, hx2⟩
  obtain ⟨hc2, hf2⟩ := bcell hx2
  have hz1 : w.heap.size + 1 + 1 < w1.heap.size := by have := hx.size; simp at this; omega
  have hz2 : w.heap.size + 1 < w1.heap.size := by omega
  have hz3 : w.heap.size < w1.heap.size := by omega
  go_wp2_with fail
  have c0 := ext_cell hx2 (ext_cell hx (b := w.heap.size + 2) (off := 0) (v := .int .i64 0) (by go_simp))
  have c1 := ext_cell hx2 (ext_cell hx (b := w.heap.size + 2) (off := 1) (v := .int .i64 0) (by go_simp))
  exact bodyPost_ret (v := .tuple #[.agg #[.int .i64 0, .int .i64 0], .bool false]) (by simp [results, Try.results67, go_sem, c0, c1]) rfl ⟨rfl, (by repeat (first | (with_reducible exact ext_refl _) | (with_reducible refine ext_setCell ?_ ?_ _) | (with_reducible refine ext_alloc ?_ _) | (with_reducible refine ext_drewN ?_ _) | (with_reducible refine ext_drew ?_) | (with_reducible refine ext_trans ?_ (by assumption)) | (dsimp only; omega) | omega | (simp; omega)))⟩

set_option maxHeartbeats 1600000 in
theorem impl_TimesFractions_good (t1 b1 t2 b2 : Int) (w : World) (h1 : fracOk t1 b1 = true) (h2 : fracOk t2 b2 = true) :
    Calls Try.prog 67 #[.agg #[.int .i64 t1, .int .i64 b1], .agg #[.int .i64 t2, .int .i64 b2]] w fun e w' => e = frac (redT (t1 * t2) (b1 * b2)) (redB (t1 * t2) (b1 * b2)) (redOk (t1 * t2) (b1 * b2)) ∧ Ext w w' := by
  obtain ⟨f1, f2, f3, f4, f5, f6, f7, f8, f9, f10, f11, f12, f13, f14, f15, f16⟩ := frac_facts h1 h2
  go_enter Try.func67, Try.ntmps67
  go_wp2_with fail
  refine (impl_FractionOk _ _ _).mono ?_
  rintro e w1 ⟨rfl, hx⟩
  obtain ⟨hc, hf⟩ := bcell hx
  go_wp2_with fail
  refine (impl_FractionOk _ _ _).mono ?_
  rintro e w2 ⟨rfl, hx2⟩
  obtain ⟨hc2, hf2⟩ := bcell hx2
  have hz1 : w.heap.size + 1 + 1 < w1.heap.size := by have := hx.size; simp at this; omega
  have hz2 : w.heap.size + 1 < w1.heap.size := by omega
  have hz3 : w.heap.size < w1.heap.size := by omega
  go_wp2_with fail
  refine (impl_reduced _ _ _ (by omega) (by omega) (by omega) (by omega) (by omega)).mono ?_
  rintro e w3 ⟨rfl, hx3⟩
  obtain ⟨hc3, hf3⟩ := bcell hx3
  have hz4 : w.heap.size + 1 + 1 < w2.heap.size := by have := hx2.size; omega
  go_wp2_with fail
  have c0 := ext_cell hx3 (ext_cell hx2 (ext_cell hx (b := w.heap.size + 2) (off := 0) (v := .int .i64 0) (by go_simp)))
  have c1 := ext_cell hx3 (ext_cell hx2 (ext_cell hx (b := w.heap.size + 2) (off := 1) (v := .int .i64 0) (by go_simp)))
  exact bodyPost_ret (v := .tuple #[.agg #[.int .i64 (redT (t1 * t2) (b1 * b2)), .int .i64 (redB (t1 * t2) (b1 * b2))], .bool (redOk (t1 * t2) (b1 * b2))]) (by simp [results, Try.results67, go_sem, c0, c1]) rfl ⟨rfl, (by repeat (first | (with_reducible exact ext_refl _) | (with_reducible refine ext_setCell ?_ ?_ _) | (with_reducible refine ext_alloc ?_ _) | (with_reducible refine ext_drewN ?_ _) | (with_reducible refine ext_drew ?_) | (with_reducible refine ext_trans ?_ (by assumption)) | (dsimp only; omega) | omega | (simp; omega)))⟩
theorem impl_TimesFractions (t1 b1 t2 b2 : Int) (w : World) :
    Calls Try.prog 67 #[.agg #[.int .i64 t1, .int .i64 b1], .agg #[.int .i64 t2, .int .i64 b2]] w fun e w' => e = frac (timT t1 b1 t2 b2) (timB t1 b1 t2 b2) (timOk t1 b1 t2 b2) ∧ Ext w w' := by
  cases h1 : fracOk t1 b1
  · have hm : addIn t1 b1 t2 b2 = false := by simp [addIn, h1]
    simpa [timT, timB, timOk, hm] using impl_TimesFractions_bad1 t1 b1 t2 b2 w h1
  · cases h2 : fracOk t2 b2
    · have hm : addIn t1 b1 t2 b2 = false := by simp [addIn, h2]
      simpa [timT, timB, timOk, hm] using impl_TimesFractions_bad2 t1 b1 t2 b2 w h1 h2
    · have hm : addIn t1 b1 t2 b2 = true := by simp [addIn, h1, h2]
      simpa [timT, timB, timOk, hm] using impl_TimesFractions_good t1 b1 t2 b2 w h1 h2
end Go.Proofs.Ytefgdkjcoeikmaa
