/- The contracts of what an instrument shows and of chains of instruments. No condition. -/
import Derived.Test.YtefgdkjcoeikmaaFrac6
namespace Go.Proofs.Ytefgdkjcoeikmaa
open Go.ChangeShapes Go.WideShapes Go.ChangeAt Go.RowKit
set_option linter.unusedVariables false
set_option linter.unusedSimpArgs false

def shIn (zt zb ut ub vt vb : Int) : Bool := lineOkB zt zb ut ub && timOk ut ub vt vb
def shOk (zt zb ut ub vt vb : Int) : Bool := shIn zt zb ut ub vt vb && addOk zt zb (timT ut ub vt vb) (timB ut ub vt vb)
def shT (zt zb ut ub vt vb : Int) : Int := if shIn zt zb ut ub vt vb then addT zt zb (timT ut ub vt vb) (timB ut ub vt vb) else 0
def shB (zt zb ut ub vt vb : Int) : Int := if shIn zt zb ut ub vt vb then addB zt zb (timT ut ub vt vb) (timB ut ub vt vb) else 0
set_option maxHeartbeats 3200000 in
theorem impl_Shown (zt zb ut ub vt vb : Int) (w : World) :
    Calls Try.prog 25 #[lineV zt zb ut ub, .agg #[.int .i64 vt, .int .i64 vb]] w fun e w' => e = frac (shT zt zb ut ub vt vb) (shB zt zb ut ub vt vb) (shOk zt zb ut ub vt vb) ∧ Ext w w' := by
  cases h1 : lineOkB zt zb ut ub
  · have hm : shIn zt zb ut ub vt vb = false := by simp [shIn, h1]
    go_enter Try.func25, Try.ntmps25
    go_wp2_with fail
    refine (impl_LineOk _ _ _ _ _).mono ?_
    rintro e w1 ⟨rfl, hx1⟩
    obtain ⟨hc1, hf1⟩ := bcell hx1
    have hy12 : w.heap.size + 1 + 1 < w1.heap.size := by have := hx1.size; simp at this; omega
    have hy11 : w.heap.size + 1 < w1.heap.size := by omega
    have hy10 : w.heap.size < w1.heap.size := by omega
    go_wp2_with fail
    have c0 := ext_cell hx1 (b := w.heap.size + 2) (off := 0) (v := .int .i64 0) (by go_simp)
    have c1 := ext_cell hx1 (b := w.heap.size + 2) (off := 1) (v := .int .i64 0) (by go_simp)
    exact bodyPost_ret (v := .tuple #[.agg #[.int .i64 (0), .int .i64 (0)], .bool (false)]) (by simp [results, Try.results25, go_sem, c0, c1]) rfl ⟨by simp [frac, shT, shB, shOk, hm], (by repeat (first | (with_reducible exact ext_refl _) | (with_reducible refine ext_setCell ?_ ?_ _) | (with_reducible refine ext_alloc ?_ _) | (with_reducible refine ext_drewN ?_ _) | (with_reducible refine ext_drew ?_) | (with_reducible refine ext_trans ?_ (by assumption)) | (dsimp only; omega) | omega | (simp; omega)))⟩
  · cases h2 : fracOk vt vb
    · have hm : shIn zt zb ut ub vt vb = false := by simp [shIn, timOk, addIn, h2]
      go_enter Try.func25, Try.ntmps25
      go_wp2_with fail
      refine (impl_LineOk _ _ _ _ _).mono ?_
      rintro e w1 ⟨rfl, hx1⟩
      obtain ⟨hc1, hf1⟩ := bcell hx1
      have hy12 : w.heap.size + 1 + 1 < w1.heap.size := by have := hx1.size; simp at this; omega
      have hy11 : w.heap.size + 1 < w1.heap.size := by omega
      have hy10 : w.heap.size < w1.heap.size := by omega
      go_wp2_with fail
      refine (impl_FractionOk _ _ _).mono ?_
      rintro e w2 ⟨rfl, hx2⟩
      obtain ⟨hc2, hf2⟩ := bcell hx2
      have hy22 : w.heap.size + 1 + 1 < w2.heap.size := by have := hx2.size; omega
      have hy21 : w.heap.size + 1 < w2.heap.size := by omega
      have hy20 : w.heap.size < w2.heap.size := by omega
      go_wp2_with fail
      have c0 := ext_cell hx2 (ext_cell hx1 (b := w.heap.size + 2) (off := 0) (v := .int .i64 0) (by go_simp))
      have c1 := ext_cell hx2 (ext_cell hx1 (b := w.heap.size + 2) (off := 1) (v := .int .i64 0) (by go_simp))
      exact bodyPost_ret (v := .tuple #[.agg #[.int .i64 (0), .int .i64 (0)], .bool (false)]) (by simp [results, Try.results25, go_sem, c0, c1]) rfl ⟨by simp [frac, shT, shB, shOk, hm], (by repeat (first | (with_reducible exact ext_refl _) | (with_reducible refine ext_setCell ?_ ?_ _) | (with_reducible refine ext_alloc ?_ _) | (with_reducible refine ext_drewN ?_ _) | (with_reducible refine ext_drew ?_) | (with_reducible refine ext_trans ?_ (by assumption)) | (dsimp only; omega) | omega | (simp; omega)))⟩
    · cases h3 : timOk ut ub vt vb
      · have hm : shIn zt zb ut ub vt vb = false := by simp [shIn, h3]
        go_enter Try.func25, Try.ntmps25
        go_wp2_with fail
        refine (impl_LineOk _ _ _ _ _).mono ?_
        rintro e w1 ⟨rfl, hx1⟩
        obtain ⟨hc1, hf1⟩ := bcell hx1
        have hy12 : w.heap.size + 1 + 1 < w1.heap.size := by have := hx1.size; simp at this; omega
        have hy11 : w.heap.size + 1 < w1.heap.size := by omega
        have hy10 : w.heap.size < w1.heap.size := by omega
        go_wp2_with fail
        refine (impl_FractionOk _ _ _).mono ?_
        rintro e w2 ⟨rfl, hx2⟩
        obtain ⟨hc2, hf2⟩ := bcell hx2
        have hy22 : w.heap.size + 1 + 1 < w2.heap.size := by have := hx2.size; omega
        have hy21 : w.heap.size + 1 < w2.heap.size := by omega
        have hy20 : w.heap.size < w2.heap.size := by omega
        go_wp2_with fail
        refine (impl_TimesFractions _ _ _ _ _).mono ?_
        rintro e w3 ⟨rfl, hx3⟩
        obtain ⟨hc3, hf3⟩ := bcell hx3
        have hy32 : w.heap.size + 1 + 1 < w3.heap.size := by have := hx3.size; omega
        have hy31 : w.heap.size + 1 < w3.heap.size := by omega
        have hy30 : w.heap.size < w3.heap.size := by omega
        go_wp2_with fail
        have c0 := ext_cell hx3 (ext_cell hx2 (ext_cell hx1 (b := w.heap.size + 2) (off := 0) (v := .int .i64 0) (by go_simp)))
        have c1 := ext_cell hx3 (ext_cell hx2 (ext_cell hx1 (b := w.heap.size + 2) (off := 1) (v := .int .i64 0) (by go_simp)))
        exact bodyPost_ret (v := .tuple #[.agg #[.int .i64 (0), .int .i64 (0)], .bool (false)]) (by simp [results, Try.results25, go_sem, c0, c1, hy32]) rfl ⟨by simp [frac, shT, shB, shOk, hm], (by repeat (first | (with_reducible exact ext_refl _) | (with_reducible refine ext_setCell ?_ ?_ _) | (with_reducible refine ext_alloc ?_ _) | (with_reducible refine ext_drewN ?_ _) | (with_reducible refine ext_drew ?_) | (with_reducible refine ext_trans ?_ (by assumption)) | (dsimp only; omega) | omega | (simp; omega)))⟩
      · have hm : shIn zt zb ut ub vt vb = true := by simp [shIn, h1, h3]
        go_enter Try.func25, Try.ntmps25
        go_wp2_with fail
        refine (impl_LineOk _ _ _ _ _).mono ?_
        rintro e w1 ⟨rfl, hx1⟩
        obtain ⟨hc1, hf1⟩ := bcell hx1
        have hy12 : w.heap.size + 1 + 1 < w1.heap.size := by have := hx1.size; simp at this; omega
        have hy11 : w.heap.size + 1 < w1.heap.size := by omega
        have hy10 : w.heap.size < w1.heap.size := by omega
        go_wp2_with fail
        refine (impl_FractionOk _ _ _).mono ?_
        rintro e w2 ⟨rfl, hx2⟩
        obtain ⟨hc2, hf2⟩ := bcell hx2
        have hy22 : w.heap.size + 1 + 1 < w2.heap.size := by have := hx2.size; omega
        have hy21 : w.heap.size + 1 < w2.heap.size := by omega
        have hy20 : w.heap.size < w2.heap.size := by omega
        go_wp2_with fail
        refine (impl_TimesFractions _ _ _ _ _).mono ?_
        rintro e w3 ⟨rfl, hx3⟩
        obtain ⟨hc3, hf3⟩ := bcell hx3
        have hy32 : w.heap.size + 1 + 1 < w3.heap.size := by have := hx3.size; omega
        have hy31 : w.heap.size + 1 < w3.heap.size := by omega
        have hy30 : w.heap.size < w3.heap.size := by omega
        go_wp2_with fail
        refine (impl_AddFractions _ _ _ _ _).mono ?_
        rintro e w4 ⟨rfl, hx4⟩
        obtain ⟨hc4, hf4⟩ := bcell hx4
        have hy42 : w.heap.size + 1 + 1 < w4.heap.size := by have := hx4.size; simp at this; omega
        have hy41 : w.heap.size + 1 < w4.heap.size := by omega
        have hy40 : w.heap.size < w4.heap.size := by omega
        go_wp2_with fail
        have c0 := ext_cell (ext_trans (ext_alloc (ext_refl _) _) hx4) (ext_cell hx3 (ext_cell hx2 (ext_cell hx1 (b := w.heap.size + 2) (off := 0) (v := .int .i64 0) (by go_simp))))
        have c1 := ext_cell (ext_trans (ext_alloc (ext_refl _) _) hx4) (ext_cell hx3 (ext_cell hx2 (ext_cell hx1 (b := w.heap.size + 2) (off := 1) (v := .int .i64 0) (by go_simp))))
        exact bodyPost_ret (v := .tuple #[.agg #[.int .i64 (addT zt zb (timT ut ub vt vb) (timB ut ub vt vb)), .int .i64 (addB zt zb (timT ut ub vt vb) (timB ut ub vt vb))], .bool (addOk zt zb (timT ut ub vt vb) (timB ut ub vt vb))]) (by simp [results, Try.results25, go_sem, c0, c1]) rfl ⟨by simp [frac, shT, shB, shOk, hm], (by repeat (first | (with_reducible exact ext_refl _) | (with_reducible refine ext_setCell ?_ ?_ _) | (with_reducible refine ext_alloc ?_ _) | (with_reducible refine ext_drewN ?_ _) | (with_reducible refine ext_drew ?_) | (with_reducible refine ext_trans ?_ (by assumption)) | (dsimp only; omega) | omega | (simp; omega)))⟩
end Go.Proofs.Ytefgdkjcoeikmaa
