/- The contracts of subtracting and dividing fractions, of the laws' copies of fractions, and of lines being valid. No condition but the ranges that each contract names. -/
import Derived.Test.YtefgdkjcoeikmaaFrac4
namespace Go.Proofs.Ytefgdkjcoeikmaa
open Go.ChangeShapes Go.WideShapes Go.ChangeAt Go.RowKit
set_option linter.unusedVariables false

abbrev ofFrac (x y : Int) : Ending := .returned (.agg #[.int .i64 x, .int .i64 y])
def eqP (t1 b1 t2 b2 : Int) : Bool := t1 == t2 && b1 == b2
theorem eqP_self (t b : Int) : eqP t b t b = true := by simp [eqP]
set_option maxHeartbeats 1600000 in
theorem laws_eqFraction (t1 b1 t2 b2 : Int) (w : World) :
    Calls Try.prog 61 #[.agg #[.int .i64 t1, .int .i64 b1], .agg #[.int .i64 t2, .int .i64 b2]] w fun e w' => e = .returned (.bool (eqP t1 b1 t2 b2)) ∧ Ext w w' := by
  cases h1 : (t1 == t2)
  · have h1' : (t1 != t2) = true := by simp [bne, h1]
    go_enter Try.func61, Try.ntmps61
    go_wp2
    go_ret
    exact ⟨ret_bool (by simp [eqP, h1]), (by repeat (first | (with_reducible exact ext_refl _) | (with_reducible refine ext_setCell ?_ ?_ _) | (with_reducible refine ext_alloc ?_ _) | (with_reducible refine ext_drewN ?_ _) | (with_reducible refine ext_drew ?_) | (with_reducible refine ext_trans ?_ (by assumption)) | (dsimp only; omega) | omega | (simp; omega)))⟩
  · have h1' : (t1 != t2) = false := by simp [bne, h1]
    cases h2 : (b1 == b2)
    · have h2' : (b1 != b2) = true := by simp [bne, h2]
      go_enter Try.func61, Try.ntmps61
      go_wp2
      go_ret
      exact ⟨ret_bool (by simp [eqP, h1, h2]), (by repeat (first | (with_reducible exact ext_refl _) | (with_reducible refine ext_setCell ?_ ?_ _) | (with_reducible refine ext_alloc ?_ _) | (with_reducible refine ext_drewN ?_ _) | (with_reducible refine ext_drew ?_) | (with_reducible refine ext_trans ?_ (by assumption)) | (dsimp only; omega) | omega | (simp; omega)))⟩
    · have h2' : (b1 != b2) = false := by simp [bne, h2]
      go_enter Try.func61, Try.ntmps61
      go_wp2
      go_ret
      exact ⟨ret_bool (by simp [eqP, h1, h2]), (by repeat (first | (with_reducible exact ext_refl _) | (with_reducible refine ext_setCell ?_ ?_ _) | (with_reducible refine ext_alloc ?_ _) | (with_reducible refine ext_drewN ?_ _) | (with_reducible refine ext_drew ?_) | (with_reducible refine ext_trans ?_ (by assumption)) | (dsimp only; omega) | omega | (simp; omega)))⟩
set_option maxHeartbeats 1600000 in
theorem impl_minus (t1 b1 t2 b2 : Int) (w : World) :
    Calls Try.prog 68 #[.agg #[.int .i64 t1, .int .i64 b1], .agg #[.int .i64 t2, .int .i64 b2]] w fun e w' => e = frac (addT t1 b1 (wrap64 (-t2)) b2) (addB t1 b1 (wrap64 (-t2)) b2) (addOk t1 b1 (wrap64 (-t2)) b2) ∧ Ext w w' := by
  go_enter Try.func68, Try.ntmps68
  go_wp2_with (go_at_call 27; refine (impl_AddFractions _ _ _ _ _).mono ?_; rintro e w1 ⟨rfl, hx⟩; obtain ⟨hc, hf⟩ := bcell hx)
  have c0 := ext_cell hx (b := w.heap.size + 2) (off := 0) (v := .int .i64 0) (by go_simp)
  have c1 := ext_cell hx (b := w.heap.size + 2) (off := 1) (v := .int .i64 0) (by go_simp)
  exact bodyPost_ret (v := .tuple #[.agg #[.int .i64 (addT t1 b1 (wrap64 (-t2)) b2), .int .i64 (addB t1 b1 (wrap64 (-t2)) b2)], .bool (addOk t1 b1 (wrap64 (-t2)) b2)]) (by simp [results, Try.results68, go_sem, c0, c1]) rfl ⟨rfl, (by repeat (first | (with_reducible exact ext_refl _) | (with_reducible refine ext_setCell ?_ ?_ _) | (with_reducible refine ext_alloc ?_ _) | (with_reducible refine ext_drewN ?_ _) | (with_reducible refine ext_drew ?_) | (with_reducible refine ext_trans ?_ (by assumption)) | (dsimp only; omega) | omega | (simp; omega)))⟩

/-! ### dividing -/
def ovIn (t1 b1 t2 b2 : Int) : Bool := fracOk t1 b1 && fracOk t2 b2 && !(t2 == 0)
def ovOk (t1 b1 t2 b2 : Int) : Bool := ovIn t1 b1 t2 b2 && redOk (t1 * b2) (b1 * t2)
def ovT (t1 b1 t2 b2 : Int) : Int := if ovIn t1 b1 t2 b2 then redT (t1 * b2) (b1 * t2) else 0
def ovB (t1 b1 t2 b2 : Int) : Int := if ovIn t1 b1 t2 b2 then redB (t1 * b2) (b1 * t2) else 0
theorem over_facts {t1 b1 t2 b2 : Int} (h1 : fracOk t1 b1 = true) (h2 : fracOk t2 b2 = true) : -1000000000000 ≤ t1 * b2 ∧ t1 * b2 ≤ 1000000000000 ∧ -1000000000000 ≤ b1 * t2 ∧ b1 * t2 ≤ 1000000000000 ∧ (t2 ≠ 0 → b1 * t2 ≠ 0) ∧ (t2 = 0 → b1 * t2 = 0) := by
  obtain ⟨⟨a1, a2⟩, ⟨a3, a4⟩, _⟩ := fracOk_iff.1 h1
  obtain ⟨⟨c1, c2⟩, ⟨c3, c4⟩, _⟩ := fracOk_iff.1 h2
  have m1 := mul_bound (x := t1) (y := b2) (A := 1000000) (B := 1000000) ⟨a1, a2⟩ ⟨by omega, c4⟩
  have m2 := mul_bound (x := b1) (y := t2) (A := 1000000) (B := 1000000) ⟨by omega, a4⟩ ⟨c1, c2⟩
  refine ⟨by omega, by omega, by omega, by omega, fun h => Int.mul_ne_zero (by omega) h, fun h => by rw [h, Int.mul_zero]⟩
/-- the reference divides without looking -/
theorem over_mk {t1 b1 t2 b2 : Int} (h1 : fracOk t1 b1 = true) (h2 : fracOk t2 b2 = true) : mkT (t1 * b2) (b1 * t2) = ovT t1 b1 t2 b2 ∧ mkB (t1 * b2) (b1 * t2) = ovB t1 b1 t2 b2 ∧ mkOk (t1 * b2) (b1 * t2) = ovOk t1 b1 t2 b2 := by
  obtain ⟨f1, f2, f3, f4, f5, f6⟩ := over_facts h1 h2
  by_cases h : t2 = 0
  · have e1 : mkIn (t1 * b2) (b1 * t2) = false := by simp [mkIn, f6 h]
    have e2 : ovIn t1 b1 t2 b2 = false := by simp [ovIn, h]
    simp [mkT, mkB, mkOk, ovT, ovB, ovOk, e1, e2]
  · obtain ⟨e1, e2, e3⟩ := mk_in_range (f5 h) f1 f2 f3 f4
    have e4 : ovIn t1 b1 t2 b2 = true := by simp [ovIn, h1, h2, h]
    simp [ovT, ovB, ovOk, e1, e2, e3, e4]
set_option maxHeartbeats 1600000 in
theorem impl_over_bad1 (t1 b1 t2 b2 : Int) (w : World) (h1 : fracOk t1 b1 = false) :
    Calls Try.prog 69 #[.agg #[.int .i64 t1, .int .i64 b1], .agg #[.int .i64 t2, .int .i64 b2]] w fun e w' => e = frac 0 0 false ∧ Ext w w' := by
  go_enter Try.func69, Try.ntmps69
  go_wp2_with (go_at_call 66; refine (impl_FractionOk _ _ _).mono ?_; rintro e w1 ⟨rfl, hx⟩; obtain ⟨hc, hf⟩ := bcell hx)
  have c0 := ext_cell hx (b := w.heap.size + 2) (off := 0) (v := .int .i64 0) (by go_simp)
  have c1 := ext_cell hx (b := w.heap.size + 2) (off := 1) (v := .int .i64 0) (by go_simp)
  exact bodyPost_ret (v := .tuple #[.agg #[.int .i64 0, .int .i64 0], .bool false]) (by simp [results, Try.results69, go_sem, c0, c1]) rfl ⟨rfl, (by repeat (first | (with_reducible exact ext_refl _) | (with_reducible refine ext_setCell ?_ ?_ _) | (with_reducible refine ext_alloc ?_ _) | (with_reducible refine ext_drewN ?_ _) | (with_reducible refine ext_drew ?_) | (with_reducible refine ext_trans ?_ (by assumption)) | (dsimp only; omega) | omega | (simp; omega)))⟩
set_option maxHeartbeats 1600000 in
theorem impl_over_bad2 (t1 b1 t2 b2 : Int) (w : World) (h1 : fracOk t1 b1 = true) (h2 : fracOk t2 b2 = false) :
    Calls Try.prog 69 #[.agg #[.int .i64 t1, .int .i64 b1], .agg #[.int .i64 t2, .int .i64 b2]] w fun e w' => e = frac 0 0 false ∧ Ext w w' := by
  go_enter Try.func69, Try.ntmps69
  go_wp2_with fail
  refine (impl_FractionOk _ _ _).mono ?_
  rintro e w1 ⟨rfl, hx⟩
  obtain ⟨hc, hf⟩ := bcell hx
  go_wp2_with fail
  refine (impl_FractionOk _ _ _).mono ?_
  rintro e w2 ⟨rfl, hx2⟩
  obtain ⟨hc2, hf2⟩ := bcell hx2
  have hz1 : w.heap.size + 1 + 1 < w1.heap.size := by have := hx.size; simp at this; omega
  have hz2 : w.heap.size + 1 < w1.heap.size := by omega
  have hz3 : w.heap.size < w1.heap.size := by omega
  go_wp2_with fail
  have c0 := ext_cell hx2 (ext_cell hx (b := w.heap.size + 2) (off := 0) (v := .int .i64 0) (by go_simp))
  have c1 := ext_cell hx2 (ext_cell hx (b := w.heap.size + 2) (off := 1) (v := .int .i64 0) (by go_simp))
  exact bodyPost_ret (v := .tuple #[.agg #[.int .i64 0, .int .i64 0], .bool false]) (by simp [results, Try.results69, go_sem, c0, c1]) rfl ⟨rfl, (by repeat (first | (with_reducible exact ext_refl _) | (with_reducible refine ext_setCell ?_ ?_ _) | (with_reducible refine ext_alloc ?_ _) | (with_reducible refine ext_drewN ?_ _) | (with_reducible refine ext_drew ?_) | (with_reducible refine ext_trans ?_ (by assumption)) | (dsimp only; omega) | omega | (simp; omega)))⟩
set_option maxHeartbeats 1600000 in
theorem impl_over_bad3 (t1 b1 t2 b2 : Int) (w : World) (h1 : fracOk t1 b1 = true) (h2 : fracOk t2 b2 = true) (h3 : (t2 == 0) = true) :
    Calls Try.prog 69 #[.agg #[.int .i64 t1, .int .i64 b1], .agg #[.int .i64 t2, .int .i64 b2]] w fun e w' => e = frac 0 0 false ∧ Ext w w' := by
  go_enter Try.func69, Try.ntmps69
  go_wp2_with fail
  refine (impl_FractionOk _ _ _).mono ?_
  rintro e w1 ⟨rfl, hx⟩
  obtain ⟨hc, hf⟩ := bcell hx
  go_wp2_with fail
  refine (impl_FractionOk _ _ _).mono ?_
  rintro e w2 ⟨rfl, hx2⟩
  obtain ⟨hc2, hf2⟩ := bcell hx2
  have hz1 : w.heap.size + 1 + 1 < w1.heap.size := by have := hx.size; simp at this; omega
  have hz2 : w.heap.size + 1 < w1.heap.size := by omega
  have hz3 : w.heap.size < w1.heap.size := by omega
  go_wp2_with fail
  have c0 := ext_cell hx2 (ext_cell hx (b := w.heap.size + 2) (off := 0) (v := .int .i64 0) (by go_simp))
  have c1 := ext_cell hx2 (ext_cell hx (b := w.heap.size + 2) (off := 1) (v := .int .i64 0) (by go_simp))
  exact bodyPost_ret (v := .tuple #[.agg #[.int .i64 0, .int .i64 0], .bool false]) (by simp [results, Try.results69, go_sem, c0, c1]) rfl ⟨rfl, (by repeat (first | (with_reducible exact ext_refl _) | (with_reducible refine ext_setCell ?_ ?_ _) | (with_reducible refine ext_alloc ?_ _) | (with_reducible refine ext_drewN ?_ _) | (with_reducible refine ext_drew ?_) | (with_reducible refine ext_trans ?_ (by assumption)) | (dsimp only; omega) | omega | (simp; omega)))⟩
set_option maxHeartbeats 1600000 in
theorem impl_over_good (t1 b1 t2 b2 : Int) (w : World) (h1 : fracOk t1 b1 = true) (h2 : fracOk t2 b2 = true) (h3 : (t2 == 0) = false) :
    Calls Try.prog 69 #[.agg #[.int .i64 t1, .int .i64 b1], .agg #[.int .i64 t2, .int .i64 b2]] w fun e w' => e = frac (redT (t1 * b2) (b1 * t2)) (redB (t1 * b2) (b1 * t2)) (redOk (t1 * b2) (b1 * t2)) ∧ Ext w w' := by
  obtain ⟨f1, f2, f3, f4, f5, f6⟩ := over_facts h1 h2
  have hb := f5 (by simpa using h3)
  clear f5 f6
  have HB := Lib.hid hb
  clear hb
  go_enter Try.func69, Try.ntmps69
  go_wp2_with fail
  refine (impl_FractionOk _ _ _).mono ?_
  rintro e w1 ⟨rfl, hx⟩
  obtain ⟨hc, hf⟩ := bcell hx
  go_wp2_with fail
  refine (impl_FractionOk _ _ _).mono ?_
  rintro e w2 ⟨rfl, hx2⟩
  obtain ⟨hc2, hf2⟩ := bcell hx2
  have hz1 : w.heap.size + 1 + 1 < w1.heap.size := by have := hx.size; simp at this; omega
  have hz2 : w.heap.size + 1 < w1.heap.size := by omega
  have hz3 : w.heap.size < w1.heap.size := by omega
  go_wp2_with fail
  refine (impl_reduced _ _ _ HB.out (by omega) (by omega) (by omega) (by omega)).mono ?_
  rintro e w3 ⟨rfl, hx3⟩
  obtain ⟨hc3, hf3⟩ := bcell hx3
  have hz4 : w.heap.size + 1 + 1 < w2.heap.size := by have := hx2.size; omega
  go_wp2_with fail
  have c0 := ext_cell hx3 (ext_cell hx2 (ext_cell hx (b := w.heap.size + 2) (off := 0) (v := .int .i64 0) (by go_simp)))
  have c1 := ext_cell hx3 (ext_cell hx2 (ext_cell hx (b := w.heap.size + 2) (off := 1) (v := .int .i64 0) (by go_simp)))
  exact bodyPost_ret (v := .tuple #[.agg #[.int .i64 (redT (t1 * b2) (b1 * t2)), .int .i64 (redB (t1 * b2) (b1 * t2))], .bool (redOk (t1 * b2) (b1 * t2))]) (by simp [results, Try.results69, go_sem, c0, c1]) rfl ⟨rfl, (by repeat (first | (with_reducible exact ext_refl _) | (with_reducible refine ext_setCell ?_ ?_ _) | (with_reducible refine ext_alloc ?_ _) | (with_reducible refine ext_drewN ?_ _) | (with_reducible refine ext_drew ?_) | (with_reducible refine ext_trans ?_ (by assumption)) | (dsimp only; omega) | omega | (simp; omega)))⟩
theorem impl_over (t1 b1 t2 b2 : Int) (w : World) :
    Calls Try.prog 69 #[.agg #[.int .i64 t1, .int .i64 b1], .agg #[.int .i64 t2, .int .i64 b2]] w fun e w' => e = frac (ovT t1 b1 t2 b2) (ovB t1 b1 t2 b2) (ovOk t1 b1 t2 b2) ∧ Ext w w' := by
  cases h1 : fracOk t1 b1
  · have hm : ovIn t1 b1 t2 b2 = false := by simp [ovIn, h1]
    simpa [ovT, ovB, ovOk, hm] using impl_over_bad1 t1 b1 t2 b2 w h1
  · cases h2 : fracOk t2 b2
    · have hm : ovIn t1 b1 t2 b2 = false := by simp [ovIn, h2]
      simpa [ovT, ovB, ovOk, hm] using impl_over_bad2 t1 b1 t2 b2 w h1 h2
    · cases h3 : (t2 == 0)
      · have hm : ovIn t1 b1 t2 b2 = true := by simp [ovIn, h1, h2, h3]
        simpa [ovT, ovB, ovOk, hm] using impl_over_good t1 b1 t2 b2 w h1 h2 h3
      · have hm : ovIn t1 b1 t2 b2 = false := by simp [ovIn, h3]
        simpa [ovT, ovB, ovOk, hm] using impl_over_bad3 t1 b1 t2 b2 w h1 h2 h3

/-! ### lines -/
def lineOkB (zt zb ut ub : Int) : Bool := fracOk zt zb && fracOk ut ub && decide (0 < ut)
abbrev lineV (zt zb ut ub : Int) : Value := .agg #[.int .i64 zt, .int .i64 zb, .int .i64 ut, .int .i64 ub]
set_option maxHeartbeats 1600000 in
theorem impl_LineOk (zt zb ut ub : Int) (w : World) :
    Calls Try.prog 30 #[lineV zt zb ut ub] w fun e w' => e = .returned (.bool (lineOkB zt zb ut ub)) ∧ Ext w w' := by
  cases h1 : fracOk zt zb
  · go_enter Try.func30, Try.ntmps30
    go_wp2_with fail
    refine (impl_FractionOk _ _ _).mono ?_
    rintro e w1 ⟨rfl, hx⟩
    obtain ⟨hc, hf⟩ := bcell hx
    go_wp2_with fail
    go_ret
    exact ⟨ret_bool (by simp [lineOkB, h1]), (by repeat (first | (with_reducible exact ext_refl _) | (with_reducible refine ext_setCell ?_ ?_ _) | (with_reducible refine ext_alloc ?_ _) | (with_reducible refine ext_drewN ?_ _) | (with_reducible refine ext_drew ?_) | (with_reducible refine ext_trans ?_ (by assumption)) | (dsimp only; omega) | omega | (simp; omega)))⟩
  · cases h2 : fracOk ut ub
    · go_enter Try.func30, Try.ntmps30
      go_wp2_with fail
      refine (impl_FractionOk _ _ _).mono ?_
      rintro e w1 ⟨rfl, hx⟩
      obtain ⟨hc, hf⟩ := bcell hx
      go_wp2_with fail
      refine (impl_FractionOk _ _ _).mono ?_
      rintro e w2 ⟨rfl, hx2⟩
      go_wp2_with fail
      go_ret
      exact ⟨ret_bool (by simp [lineOkB, h1, h2]), (by repeat (first | (with_reducible exact ext_refl _) | (with_reducible refine ext_setCell ?_ ?_ _) | (with_reducible refine ext_alloc ?_ _) | (with_reducible refine ext_drewN ?_ _) | (with_reducible refine ext_drew ?_) | (with_reducible refine ext_trans ?_ (by assumption)) | (dsimp only; omega) | omega | (simp; omega)))⟩
    · go_enter Try.func30, Try.ntmps30
      go_wp2_with fail
      refine (impl_FractionOk _ _ _).mono ?_
      rintro e w1 ⟨rfl, hx⟩
      obtain ⟨hc, hf⟩ := bcell hx
      go_wp2_with fail
      refine (impl_FractionOk _ _ _).mono ?_
      rintro e w2 ⟨rfl, hx2⟩
      obtain ⟨hc2, hf2⟩ := bcell hx2
      have hz3 : w.heap.size < w1.heap.size := by have := hx.size; simp at this; omega
      go_wp2_with fail
      go_ret
      exact ⟨ret_bool (by simp [lineOkB, h1, h2]), (by repeat (first | (with_reducible exact ext_refl _) | (with_reducible refine ext_setCell ?_ ?_ _) | (with_reducible refine ext_alloc ?_ _) | (with_reducible refine ext_drewN ?_ _) | (with_reducible refine ext_drew ?_) | (with_reducible refine ext_trans ?_ (by assumption)) | (dsimp only; omega) | omega | (simp; omega)))⟩
end Go.Proofs.Ytefgdkjcoeikmaa
