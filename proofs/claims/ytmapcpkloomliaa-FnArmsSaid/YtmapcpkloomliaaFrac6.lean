/- The contracts of the arms of a balance and of the laws' copies of lines. No condition. -/
import Derived.Test.YtmapcpkloomliaaFrac5
namespace Go.Proofs.Ytmapcpkloomliaa
open Go.ChangeShapes Go.WideShapes Go.ChangeAt Go.RowKit
set_option linter.unusedVariables false

abbrev ofLine (zt zb ut ub : Int) : Ending := .returned (lineV zt zb ut ub)
def eqL (zt1 zb1 ut1 ub1 zt2 zb2 ut2 ub2 : Int) : Bool := eqP zt1 zb1 zt2 zb2 && eqP ut1 ub1 ut2 ub2
theorem eqL_self (a b c d : Int) : eqL a b c d a b c d = true := by simp [eqL, eqP_self]
/-! ### arms -/
def rlIn (a b o : Int) : Bool := armsOkB a b && inB o 0 1000
def rlOk (a b o : Int) : Bool := rlIn a b o && mkOk (o * a) b
def rlT (a b o : Int) : Int := if rlIn a b o then mkT (o * a) b else 0
def rlB (a b o : Int) : Int := if rlIn a b o then mkB (o * a) b else 0
theorem rl_facts {a b o : Int} (h1 : armsOkB a b = true) (h2 : inB o 0 1000 = true) : 1 ≤ a ∧ a ≤ 1000 ∧ 1 ≤ b ∧ b ≤ 1000 ∧ 0 ≤ o ∧ o ≤ 1000 ∧ 0 ≤ o * a ∧ o * a ≤ 1000000 := by
  simp [armsOkB, inB] at h1 h2
  have m := mul_bound (x := o) (y := a) (A := 1000) (B := 1000) ⟨by omega, by omega⟩ ⟨by omega, by omega⟩
  have := Int.mul_nonneg (a := o) (b := a) (by omega) (by omega)
  omega
set_option maxHeartbeats 1600000 in
theorem impl_ReadLeft (a b o : Int) (w : World) :
    Calls Try.prog 41 #[.int .i64 a, .int .i64 b, .int .i64 o] w fun e w' => e = frac (rlT a b o) (rlB a b o) (rlOk a b o) ∧ Ext w w' := by
  cases h1 : armsOkB a b
  · have hm : rlIn a b o = false := by simp [rlIn, h1]
    go_enter Try.func41, Try.ntmps41
    go_wp2_with (go_at_call 45; refine (impl_ArmsOk _ _ _).mono ?_; rintro e w' ⟨rfl, rfl⟩)
    exact bodyPost_ret (v := .tuple #[.agg #[.int .i64 0, .int .i64 0], .bool false]) (by simp [results, Try.results41, go_sem]) rfl ⟨by simp [frac, rlT, rlB, rlOk, hm], (by repeat (first | (with_reducible exact ext_refl _) | (with_reducible refine ext_setCell ?_ ?_ _) | (with_reducible refine ext_alloc ?_ _) | (with_reducible refine ext_drewN ?_ _) | (with_reducible refine ext_drew ?_) | (with_reducible refine ext_trans ?_ (by assumption)) | (dsimp only; omega) | omega | (simp; omega)))⟩
  · cases h2 : inB o 0 1000
    · have hm : rlIn a b o = false := by simp [rlIn, h2]
      go_enter Try.func41, Try.ntmps41
      go_wp2_with (first
        | (go_at_call 45; refine (impl_ArmsOk _ _ _).mono ?_; rintro e w' ⟨rfl, rfl⟩)
        | (go_at_call 62; refine (impl_in _ _ _ _).mono ?_; rintro e w' ⟨rfl, rfl⟩))
      exact bodyPost_ret (v := .tuple #[.agg #[.int .i64 0, .int .i64 0], .bool false]) (by simp [results, Try.results41, go_sem]) rfl ⟨by simp [frac, rlT, rlB, rlOk, hm], (by repeat (first | (with_reducible exact ext_refl _) | (with_reducible refine ext_setCell ?_ ?_ _) | (with_reducible refine ext_alloc ?_ _) | (with_reducible refine ext_drewN ?_ _) | (with_reducible refine ext_drew ?_) | (with_reducible refine ext_trans ?_ (by assumption)) | (dsimp only; omega) | omega | (simp; omega)))⟩
    · have hm : rlIn a b o = true := by simp [rlIn, h1, h2]
      obtain ⟨f1, f2, f3, f4, f5, f6, f7, f8⟩ := rl_facts h1 h2
      go_enter Try.func41, Try.ntmps41
      go_wp2_with (first
        | (go_at_call 45; refine (impl_ArmsOk _ _ _).mono ?_; rintro e w' ⟨rfl, rfl⟩)
        | (go_at_call 62; refine (impl_in _ _ _ _).mono ?_; rintro e w' ⟨rfl, rfl⟩)
        | (go_at_call 71; refine (impl_MakeFraction _ _ _).mono ?_; rintro e w1 ⟨rfl, hx⟩; obtain ⟨hc, hf⟩ := bcell hx))
      have c0 := ext_cell hx (b := w.heap.size) (off := 0) (v := .int .i64 0) (by go_simp)
      have c1 := ext_cell hx (b := w.heap.size) (off := 1) (v := .int .i64 0) (by go_simp)
      exact bodyPost_ret (v := .tuple #[.agg #[.int .i64 (mkT (o * a) b), .int .i64 (mkB (o * a) b)], .bool (mkOk (o * a) b)]) (by simp [results, Try.results41, go_sem, c0, c1]) rfl ⟨by simp [frac, rlT, rlB, rlOk, hm], (by repeat (first | (with_reducible exact ext_refl _) | (with_reducible refine ext_setCell ?_ ?_ _) | (with_reducible refine ext_alloc ?_ _) | (with_reducible refine ext_drewN ?_ _) | (with_reducible refine ext_drew ?_) | (with_reducible refine ext_trans ?_ (by assumption)) | (dsimp only; omega) | omega | (simp; omega)))⟩
set_option maxHeartbeats 1600000 in
theorem impl_ReadRight (a b o : Int) (w : World) :
    Calls Try.prog 42 #[.int .i64 a, .int .i64 b, .int .i64 o] w fun e w' => e = frac (rlT b a o) (rlB b a o) (rlOk b a o) ∧ Ext w w' := by
  go_enter Try.func42, Try.ntmps42
  go_wp2_with (go_at_call 41; refine (impl_ReadLeft _ _ _ _).mono ?_; rintro e w1 ⟨rfl, hx⟩; obtain ⟨hc, hf⟩ := bcell hx)
  have c0 := ext_cell hx (b := w.heap.size) (off := 0) (v := .int .i64 0) (by go_simp)
  have c1 := ext_cell hx (b := w.heap.size) (off := 1) (v := .int .i64 0) (by go_simp)
  exact bodyPost_ret (v := .tuple #[.agg #[.int .i64 (rlT b a o), .int .i64 (rlB b a o)], .bool (rlOk b a o)]) (by simp [results, Try.results42, go_sem, c0, c1]) rfl ⟨rfl, (by repeat (first | (with_reducible exact ext_refl _) | (with_reducible refine ext_setCell ?_ ?_ _) | (with_reducible refine ext_alloc ?_ _) | (with_reducible refine ext_drewN ?_ _) | (with_reducible refine ext_drew ?_) | (with_reducible refine ext_trans ?_ (by assumption)) | (dsimp only; omega) | omega | (simp; omega)))⟩
set_option maxHeartbeats 1600000 in
theorem impl_SquareFrom (t1 b1 t2 b2 : Int) (w : World) :
    Calls Try.prog 43 #[.agg #[.int .i64 t1, .int .i64 b1], .agg #[.int .i64 t2, .int .i64 b2]] w fun e w' => e = frac (timT t1 b1 t2 b2) (timB t1 b1 t2 b2) (timOk t1 b1 t2 b2) ∧ Ext w w' := by
  go_enter Try.func43, Try.ntmps43
  go_wp2_with (go_at_call 72; refine (impl_TimesFractions _ _ _ _ _).mono ?_; rintro e w1 ⟨rfl, hx⟩; obtain ⟨hc, hf⟩ := bcell hx)
  have c0 := ext_cell hx (b := w.heap.size + 2) (off := 0) (v := .int .i64 0) (by go_simp)
  have c1 := ext_cell hx (b := w.heap.size + 2) (off := 1) (v := .int .i64 0) (by go_simp)
  exact bodyPost_ret (v := .tuple #[.agg #[.int .i64 (timT t1 b1 t2 b2), .int .i64 (timB t1 b1 t2 b2)], .bool (timOk t1 b1 t2 b2)]) (by simp [results, Try.results43, go_sem, c0, c1]) rfl ⟨rfl, (by repeat (first | (with_reducible exact ext_refl _) | (with_reducible refine ext_setCell ?_ ?_ _) | (with_reducible refine ext_alloc ?_ _) | (with_reducible refine ext_drewN ?_ _) | (with_reducible refine ext_drew ?_) | (with_reducible refine ext_trans ?_ (by assumption)) | (dsimp only; omega) | omega | (simp; omega)))⟩

def subIn (a b o t d : Int) : Bool := rlOk a b o && eqP (rlT a b o) (rlB a b o) t d
def subOk (a b o t d : Int) : Bool := subIn a b o t d && mkOk (t * b) (d * a)
def subT (a b o t d : Int) : Int := if subIn a b o t d then mkT (t * b) (d * a) else 0
def subB (a b o t d : Int) : Int := if subIn a b o t d then mkB (t * b) (d * a) else 0
theorem rl_ok_facts {a b o : Int} (h : rlOk a b o = true) : fracOk (rlT a b o) (rlB a b o) = true ∧ 1 ≤ a ∧ a ≤ 1000 ∧ 1 ≤ b ∧ b ≤ 1000 := by
  unfold rlOk at h
  simp only [Bool.and_eq_true] at h
  obtain ⟨h1, h2⟩ := h
  have h1' := h1
  unfold rlIn at h1'
  simp only [Bool.and_eq_true] at h1'
  obtain ⟨f1, f2, f3, f4, _⟩ := rl_facts h1'.1 h1'.2
  unfold mkOk at h2
  simp only [Bool.and_eq_true] at h2
  refine ⟨?_, f1, f2, f3, f4⟩
  rw [rlT, rlB, h1, mkT, mkB, h2.1]
  exact (red_ok h2.2).1
theorem sub_facts {t d a b : Int} (h : fracOk t d = true) (f1 : 1 ≤ a) (f2 : a ≤ 1000) (f3 : 1 ≤ b) (f4 : b ≤ 1000) : -1000000000 ≤ t * b ∧ t * b ≤ 1000000000 ∧ -1000000000 ≤ d * a ∧ d * a ≤ 1000000000 := by
  obtain ⟨⟨a1, a2⟩, ⟨a3, a4⟩, _⟩ := fracOk_iff.1 h
  have m1 := mul_bound (x := t) (y := b) (A := 1000000) (B := 1000) ⟨a1, a2⟩ ⟨by omega, f4⟩
  have m2 := mul_bound (x := d) (y := a) (A := 1000000) (B := 1000) ⟨by omega, a4⟩ ⟨by omega, f2⟩
  omega
set_option maxHeartbeats 1600000 in
theorem impl_Substitute (a b o t d : Int) (w : World) :
    Calls Try.prog 44 #[.int .i64 a, .int .i64 b, .int .i64 o, .agg #[.int .i64 t, .int .i64 d]] w fun e w' => e = frac (subT a b o t d) (subB a b o t d) (subOk a b o t d) ∧ Ext w w' := by
  cases h1 : rlOk a b o
  · have hm : subIn a b o t d = false := by simp [subIn, h1]
    go_enter Try.func44, Try.ntmps44
    go_wp2_with fail
    refine (impl_ReadLeft _ _ _ _).mono ?_
    rintro e w1 ⟨rfl, hx⟩
    obtain ⟨hc, hf⟩ := bcell hx
    have hz2 : w.heap.size + 1 < w1.heap.size := by have := hx.size; simp at this; omega
    have hz3 : w.heap.size < w1.heap.size := by omega
    go_wp2_with fail
    have c0 := ext_cell hx (b := w.heap.size + 1) (off := 0) (v := .int .i64 0) (by go_simp)
    have c1 := ext_cell hx (b := w.heap.size + 1) (off := 1) (v := .int .i64 0) (by go_simp)
    exact bodyPost_ret (v := .tuple #[.agg #[.int .i64 0, .int .i64 0], .bool false]) (by simp [results, Try.results44, go_sem, c0, c1, hz2]) rfl ⟨by simp [frac, subT, subB, subOk, hm], (by repeat (first | (with_reducible exact ext_refl _) | (with_reducible refine ext_setCell ?_ ?_ _) | (with_reducible refine ext_alloc ?_ _) | (with_reducible refine ext_drewN ?_ _) | (with_reducible refine ext_drew ?_) | (with_reducible refine ext_trans ?_ (by assumption)) | (dsimp only; omega) | omega | (simp; omega)))⟩
  · obtain ⟨q1, q2, q3, q4, q5⟩ := rl_ok_facts h1
    by_cases ht : rlT a b o = t
    · subst ht
      by_cases hd : rlB a b o = d
      · subst hd
        have hm : subIn a b o (rlT a b o) (rlB a b o) = true := by simp [subIn, h1, eqP]
        obtain ⟨f1, f2, f3, f4⟩ := sub_facts q1 q2 q3 q4 q5
        go_enter Try.func44, Try.ntmps44
        go_wp2_with fail
        refine (impl_ReadLeft _ _ _ _).mono ?_
        rintro e w1 ⟨rfl, hx⟩
        obtain ⟨hc, hf⟩ := bcell hx
        have hz2 : w.heap.size + 1 < w1.heap.size := by have := hx.size; simp at this; omega
        have hz3 : w.heap.size < w1.heap.size := by omega
        go_wp2_with fail
        refine (impl_MakeFraction _ _ _).mono ?_
        rintro e w2 ⟨rfl, hx2⟩
        obtain ⟨hc2, hf2⟩ := bcell hx2
        have hz4 : w.heap.size + 1 < w1.heap.size + 1 := by omega
        go_wp2_with fail
        have c0 := ext_cell (ext_trans (ext_alloc hx _) hx2) (b := w.heap.size + 1) (off := 0) (v := .int .i64 0) (by go_simp)
        have c1 := ext_cell (ext_trans (ext_alloc hx _) hx2) (b := w.heap.size + 1) (off := 1) (v := .int .i64 0) (by go_simp)
        exact bodyPost_ret (v := .tuple #[.agg #[.int .i64 (mkT (rlT a b o * b) (rlB a b o * a)), .int .i64 (mkB (rlT a b o * b) (rlB a b o * a))], .bool (mkOk (rlT a b o * b) (rlB a b o * a))]) (by simp [results, Try.results44, go_sem, c0, c1]) rfl ⟨by simp [frac, subT, subB, subOk, hm], (by repeat (first | (with_reducible exact ext_refl _) | (with_reducible refine ext_setCell ?_ ?_ _) | (with_reducible refine ext_alloc ?_ _) | (with_reducible refine ext_drewN ?_ _) | (with_reducible refine ext_drew ?_) | (with_reducible refine ext_trans ?_ (by assumption)) | (dsimp only; omega) | omega | (simp; omega)))⟩
      · have hm : subIn a b o (rlT a b o) d = false := by simp [subIn, eqP, hd]
        go_enter Try.func44, Try.ntmps44
        go_wp2_with fail
        refine (impl_ReadLeft _ _ _ _).mono ?_
        rintro e w1 ⟨rfl, hx⟩
        obtain ⟨hc, hf⟩ := bcell hx
        have hz2 : w.heap.size + 1 < w1.heap.size := by have := hx.size; simp at this; omega
        have hz3 : w.heap.size < w1.heap.size := by omega
        go_wp2_with fail
        have c0 := ext_cell hx (b := w.heap.size + 1) (off := 0) (v := .int .i64 0) (by go_simp)
        have c1 := ext_cell hx (b := w.heap.size + 1) (off := 1) (v := .int .i64 0) (by go_simp)
        exact bodyPost_ret (v := .tuple #[.agg #[.int .i64 0, .int .i64 0], .bool false]) (by simp [results, Try.results44, go_sem, c0, c1, hz2]) rfl ⟨by simp [frac, subT, subB, subOk, hm], (by repeat (first | (with_reducible exact ext_refl _) | (with_reducible refine ext_setCell ?_ ?_ _) | (with_reducible refine ext_alloc ?_ _) | (with_reducible refine ext_drewN ?_ _) | (with_reducible refine ext_drew ?_) | (with_reducible refine ext_trans ?_ (by assumption)) | (dsimp only; omega) | omega | (simp; omega)))⟩
    · have hm : subIn a b o t d = false := by simp [subIn, eqP, ht]
      go_enter Try.func44, Try.ntmps44
      go_wp2_with fail
      refine (impl_ReadLeft _ _ _ _).mono ?_
      rintro e w1 ⟨rfl, hx⟩
      obtain ⟨hc, hf⟩ := bcell hx
      have hz2 : w.heap.size + 1 < w1.heap.size := by have := hx.size; simp at this; omega
      have hz3 : w.heap.size < w1.heap.size := by omega
      go_wp2_with fail
      have c0 := ext_cell hx (b := w.heap.size + 1) (off := 0) (v := .int .i64 0) (by go_simp)
      have c1 := ext_cell hx (b := w.heap.size + 1) (off := 1) (v := .int .i64 0) (by go_simp)
      exact bodyPost_ret (v := .tuple #[.agg #[.int .i64 0, .int .i64 0], .bool false]) (by simp [results, Try.results44, go_sem, c0, c1, hz2]) rfl ⟨by simp [frac, subT, subB, subOk, hm], (by repeat (first | (with_reducible exact ext_refl _) | (with_reducible refine ext_setCell ?_ ?_ _) | (with_reducible refine ext_alloc ?_ _) | (with_reducible refine ext_drewN ?_ _) | (with_reducible refine ext_drew ?_) | (with_reducible refine ext_trans ?_ (by assumption)) | (dsimp only; omega) | omega | (simp; omega)))⟩
end Go.Proofs.Ytmapcpkloomliaa
