/- The contracts of chains of instruments, and of the program's correcting and ratio. No condition. -/
import Derived.Test.YtefgdkjcoeikmaaLine1
namespace Go.Proofs.Ytefgdkjcoeikmaa
open Go.ChangeShapes Go.WideShapes Go.ChangeAt Go.RowKit
set_option linter.unusedVariables false
set_option linter.unusedSimpArgs false

abbrev lineR (zt zb ut ub : Int) (ok : Bool) : Ending := .returned (.tuple #[lineV zt zb ut ub, .bool ok])
theorem tim_comm (t1 b1 t2 b2 : Int) : timT t2 b2 t1 b1 = timT t1 b1 t2 b2 ∧ timB t2 b2 t1 b1 = timB t1 b1 t2 b2 ∧ timOk t2 b2 t1 b1 = timOk t1 b1 t2 b2 := by
  have h : addIn t2 b2 t1 b1 = addIn t1 b1 t2 b2 := by unfold addIn; exact Bool.and_comm _ _
  simp only [timT, timB, timOk, h, Int.mul_comm t2 t1, Int.mul_comm b2 b1]
  exact ⟨trivial, trivial, trivial⟩
def chIn (az ab au av bz bb bu bv : Int) : Bool := lineOkB az ab au av && lineOkB bz bb bu bv && timOk au av bu bv && shOk bz bb bu bv az ab
def chZT (az ab au av bz bb bu bv : Int) : Int := if chIn az ab au av bz bb bu bv then shT bz bb bu bv az ab else 0
def chZB (az ab au av bz bb bu bv : Int) : Int := if chIn az ab au av bz bb bu bv then shB bz bb bu bv az ab else 0
def chUT (az ab au av bz bb bu bv : Int) : Int := if chIn az ab au av bz bb bu bv then timT au av bu bv else 0
def chUB (az ab au av bz bb bu bv : Int) : Int := if chIn az ab au av bz bb bu bv then timB au av bu bv else 0
set_option maxHeartbeats 3200000 in
theorem impl_ChainLines (az ab au av bz bb bu bv : Int) (w : World) :
    Calls Try.prog 29 #[lineV az ab au av, lineV bz bb bu bv] w fun e w' => e = lineR (chZT az ab au av bz bb bu bv) (chZB az ab au av bz bb bu bv) (chUT az ab au av bz bb bu bv) (chUB az ab au av bz bb bu bv) (chIn az ab au av bz bb bu bv) ∧ Ext w w' := by
  cases h1 : lineOkB az ab au av
  · have hm : chIn az ab au av bz bb bu bv = false := by simp [chIn, h1]
    go_enter Try.func29, Try.ntmps29
    go_wp2_with fail
    refine (impl_LineOk _ _ _ _ _).mono ?_
    rintro e w1 ⟨rfl, hx1⟩
    obtain ⟨hc1, hf1⟩ := bcell hx1
    have hy12 : w.heap.size + 1 + 1 < w1.heap.size := by have := hx1.size; simp at this; omega
    have hy11 : w.heap.size + 1 < w1.heap.size := by omega
    have hy10 : w.heap.size < w1.heap.size := by omega
    go_wp2_with fail
    have c0 := ext_cell hx1 (b := w.heap.size + 2) (off := 0) (v := .int .i64 0) (by go_simp)
    have c1 := ext_cell hx1 (b := w.heap.size + 2) (off := 1) (v := .int .i64 0) (by go_simp)
    have c2 := ext_cell hx1 (b := w.heap.size + 2) (off := 2) (v := .int .i64 0) (by go_simp)
    have c3 := ext_cell hx1 (b := w.heap.size + 2) (off := 3) (v := .int .i64 0) (by go_simp)
    exact bodyPost_ret (v := .tuple #[lineV (0) (0) (0) (0), .bool (false)]) (by simp [results, Try.results29, go_sem, c0, c1, c2, c3]) rfl ⟨by simp [lineR, chZT, chZB, chUT, chUB, hm], (by repeat (first | (with_reducible exact ext_refl _) | (with_reducible refine ext_setCell ?_ ?_ _) | (with_reducible refine ext_alloc ?_ _) | (with_reducible refine ext_drewN ?_ _) | (with_reducible refine ext_drew ?_) | (with_reducible refine ext_trans ?_ (by assumption)) | (dsimp only; omega) | omega | (simp; omega)))⟩
  · cases h2 : lineOkB bz bb bu bv
    · have hm : chIn az ab au av bz bb bu bv = false := by simp [chIn, h2]
      go_enter Try.func29, Try.ntmps29
      go_wp2_with fail
      refine (impl_LineOk _ _ _ _ _).mono ?_
      rintro e w1 ⟨rfl, hx1⟩
      obtain ⟨hc1, hf1⟩ := bcell hx1
      have hy12 : w.heap.size + 1 + 1 < w1.heap.size := by have := hx1.size; simp at this; omega
      have hy11 : w.heap.size + 1 < w1.heap.size := by omega
      have hy10 : w.heap.size < w1.heap.size := by omega
      go_wp2_with fail
      refine (impl_LineOk _ _ _ _ _).mono ?_
      rintro e w2 ⟨rfl, hx2⟩
      obtain ⟨hc2, hf2⟩ := bcell hx2
      have hy22 : w.heap.size + 1 + 1 < w2.heap.size := by have := hx2.size; omega
      have hy21 : w.heap.size + 1 < w2.heap.size := by omega
      have hy20 : w.heap.size < w2.heap.size := by omega
      go_wp2_with fail
      have c0 := ext_cell hx2 (ext_cell hx1 (b := w.heap.size + 2) (off := 0) (v := .int .i64 0) (by go_simp))
      have c1 := ext_cell hx2 (ext_cell hx1 (b := w.heap.size + 2) (off := 1) (v := .int .i64 0) (by go_simp))
      have c2 := ext_cell hx2 (ext_cell hx1 (b := w.heap.size + 2) (off := 2) (v := .int .i64 0) (by go_simp))
      have c3 := ext_cell hx2 (ext_cell hx1 (b := w.heap.size + 2) (off := 3) (v := .int .i64 0) (by go_simp))
      exact bodyPost_ret (v := .tuple #[lineV (0) (0) (0) (0), .bool (false)]) (by simp [results, Try.results29, go_sem, c0, c1, c2, c3]) rfl ⟨by simp [lineR, chZT, chZB, chUT, chUB, hm], (by repeat (first | (with_reducible exact ext_refl _) | (with_reducible refine ext_setCell ?_ ?_ _) | (with_reducible refine ext_alloc ?_ _) | (with_reducible refine ext_drewN ?_ _) | (with_reducible refine ext_drew ?_) | (with_reducible refine ext_trans ?_ (by assumption)) | (dsimp only; omega) | omega | (simp; omega)))⟩
    · cases h3 : timOk au av bu bv
      · have h3x : timOk au av bu bv = false := h3
        have hm : chIn az ab au av bz bb bu bv = false := by simp [chIn, h3x]
        clear h3x
        go_enter Try.func29, Try.ntmps29
        go_wp2_with fail
        refine (impl_LineOk _ _ _ _ _).mono ?_
        rintro e w1 ⟨rfl, hx1⟩
        obtain ⟨hc1, hf1⟩ := bcell hx1
        have hy12 : w.heap.size + 1 + 1 < w1.heap.size := by have := hx1.size; simp at this; omega
        have hy11 : w.heap.size + 1 < w1.heap.size := by omega
        have hy10 : w.heap.size < w1.heap.size := by omega
        go_wp2_with fail
        refine (impl_LineOk _ _ _ _ _).mono ?_
        rintro e w2 ⟨rfl, hx2⟩
        obtain ⟨hc2, hf2⟩ := bcell hx2
        have hy22 : w.heap.size + 1 + 1 < w2.heap.size := by have := hx2.size; omega
        have hy21 : w.heap.size + 1 < w2.heap.size := by omega
        have hy20 : w.heap.size < w2.heap.size := by omega
        go_wp2_with fail
        refine (impl_TimesFractions _ _ _ _ _).mono ?_
        rintro e w3 ⟨rfl, hx3⟩
        obtain ⟨hc3, hf3⟩ := bcell hx3
        have hy32 : w.heap.size + 1 + 1 < w3.heap.size := by have := hx3.size; omega
        have hy31 : w.heap.size + 1 < w3.heap.size := by omega
        have hy30 : w.heap.size < w3.heap.size := by omega
        go_wp2_with fail
        refine (impl_Shown _ _ _ _ _ _ _).mono ?_
        rintro e w4 ⟨rfl, hx4⟩
        obtain ⟨hc4, hf4⟩ := bcell hx4
        have hy42 : w.heap.size + 1 + 1 < w4.heap.size := by have := hx4.size; simp at this; omega
        have hy41 : w.heap.size + 1 < w4.heap.size := by omega
        have hy40 : w.heap.size < w4.heap.size := by omega
        have hq4 : w3.heap.size < w4.heap.size := by have := hx4.size; simp at this; omega
        go_wp2_with fail
        have c0 := ext_cell (ext_trans (ext_alloc (ext_refl _) _) hx4) (ext_cell hx3 (ext_cell hx2 (ext_cell hx1 (b := w.heap.size + 2) (off := 0) (v := .int .i64 0) (by go_simp))))
        have c1 := ext_cell (ext_trans (ext_alloc (ext_refl _) _) hx4) (ext_cell hx3 (ext_cell hx2 (ext_cell hx1 (b := w.heap.size + 2) (off := 1) (v := .int .i64 0) (by go_simp))))
        have c2 := ext_cell (ext_trans (ext_alloc (ext_refl _) _) hx4) (ext_cell hx3 (ext_cell hx2 (ext_cell hx1 (b := w.heap.size + 2) (off := 2) (v := .int .i64 0) (by go_simp))))
        have c3 := ext_cell (ext_trans (ext_alloc (ext_refl _) _) hx4) (ext_cell hx3 (ext_cell hx2 (ext_cell hx1 (b := w.heap.size + 2) (off := 3) (v := .int .i64 0) (by go_simp))))
        exact bodyPost_ret (v := .tuple #[lineV (0) (0) (0) (0), .bool (false)]) (by simp [results, Try.results29, go_sem, c0, c1, c2, c3, hy42]) rfl ⟨by simp [lineR, chZT, chZB, chUT, chUB, hm], (by repeat (first | (with_reducible exact ext_refl _) | (with_reducible refine ext_setCell ?_ ?_ _) | (with_reducible refine ext_alloc ?_ _) | (with_reducible refine ext_drewN ?_ _) | (with_reducible refine ext_drew ?_) | (with_reducible refine ext_trans ?_ (by assumption)) | (dsimp only; omega) | omega | (simp; omega)))⟩
      · have h3x : timOk au av bu bv = true := h3
        cases h4 : shOk bz bb bu bv az ab
        · have hm : chIn az ab au av bz bb bu bv = false := by simp [chIn, h4]
          clear h3x
          go_enter Try.func29, Try.ntmps29
          go_wp2_with fail
          refine (impl_LineOk _ _ _ _ _).mono ?_
          rintro e w1 ⟨rfl, hx1⟩
          obtain ⟨hc1, hf1⟩ := bcell hx1
          have hy12 : w.heap.size + 1 + 1 < w1.heap.size := by have := hx1.size; simp at this; omega
          have hy11 : w.heap.size + 1 < w1.heap.size := by omega
          have hy10 : w.heap.size < w1.heap.size := by omega
          go_wp2_with fail
          refine (impl_LineOk _ _ _ _ _).mono ?_
          rintro e w2 ⟨rfl, hx2⟩
          obtain ⟨hc2, hf2⟩ := bcell hx2
          have hy22 : w.heap.size + 1 + 1 < w2.heap.size := by have := hx2.size; omega
          have hy21 : w.heap.size + 1 < w2.heap.size := by omega
          have hy20 : w.heap.size < w2.heap.size := by omega
          go_wp2_with fail
          refine (impl_TimesFractions _ _ _ _ _).mono ?_
          rintro e w3 ⟨rfl, hx3⟩
          obtain ⟨hc3, hf3⟩ := bcell hx3
          have hy32 : w.heap.size + 1 + 1 < w3.heap.size := by have := hx3.size; omega
          have hy31 : w.heap.size + 1 < w3.heap.size := by omega
          have hy30 : w.heap.size < w3.heap.size := by omega
          go_wp2_with fail
          refine (impl_Shown _ _ _ _ _ _ _).mono ?_
          rintro e w4 ⟨rfl, hx4⟩
          obtain ⟨hc4, hf4⟩ := bcell hx4
          have hy42 : w.heap.size + 1 + 1 < w4.heap.size := by have := hx4.size; simp at this; omega
          have hy41 : w.heap.size + 1 < w4.heap.size := by omega
          have hy40 : w.heap.size < w4.heap.size := by omega
          have hq4 : w3.heap.size < w4.heap.size := by have := hx4.size; simp at this; omega
          go_wp2_with fail
          have c0 := ext_cell (ext_trans (ext_alloc (ext_refl _) _) hx4) (ext_cell hx3 (ext_cell hx2 (ext_cell hx1 (b := w.heap.size + 2) (off := 0) (v := .int .i64 0) (by go_simp))))
          have c1 := ext_cell (ext_trans (ext_alloc (ext_refl _) _) hx4) (ext_cell hx3 (ext_cell hx2 (ext_cell hx1 (b := w.heap.size + 2) (off := 1) (v := .int .i64 0) (by go_simp))))
          have c2 := ext_cell (ext_trans (ext_alloc (ext_refl _) _) hx4) (ext_cell hx3 (ext_cell hx2 (ext_cell hx1 (b := w.heap.size + 2) (off := 2) (v := .int .i64 0) (by go_simp))))
          have c3 := ext_cell (ext_trans (ext_alloc (ext_refl _) _) hx4) (ext_cell hx3 (ext_cell hx2 (ext_cell hx1 (b := w.heap.size + 2) (off := 3) (v := .int .i64 0) (by go_simp))))
          exact bodyPost_ret (v := .tuple #[lineV (0) (0) (0) (0), .bool (false)]) (by simp [results, Try.results29, go_sem, c0, c1, c2, c3, hy42]) rfl ⟨by simp [lineR, chZT, chZB, chUT, chUB, hm], (by repeat (first | (with_reducible exact ext_refl _) | (with_reducible refine ext_setCell ?_ ?_ _) | (with_reducible refine ext_alloc ?_ _) | (with_reducible refine ext_drewN ?_ _) | (with_reducible refine ext_drew ?_) | (with_reducible refine ext_trans ?_ (by assumption)) | (dsimp only; omega) | omega | (simp; omega)))⟩
        · have hm : chIn az ab au av bz bb bu bv = true := by simp [chIn, h1, h2, h3x, h4]
          clear h3x
          go_enter Try.func29, Try.ntmps29
          go_wp2_with fail
          refine (impl_LineOk _ _ _ _ _).mono ?_
          rintro e w1 ⟨rfl, hx1⟩
          obtain ⟨hc1, hf1⟩ := bcell hx1
          have hy12 : w.heap.size + 1 + 1 < w1.heap.size := by have := hx1.size; simp at this; omega
          have hy11 : w.heap.size + 1 < w1.heap.size := by omega
          have hy10 : w.heap.size < w1.heap.size := by omega
          go_wp2_with fail
          refine (impl_LineOk _ _ _ _ _).mono ?_
          rintro e w2 ⟨rfl, hx2⟩
          obtain ⟨hc2, hf2⟩ := bcell hx2
          have hy22 : w.heap.size + 1 + 1 < w2.heap.size := by have := hx2.size; omega
          have hy21 : w.heap.size + 1 < w2.heap.size := by omega
          have hy20 : w.heap.size < w2.heap.size := by omega
          go_wp2_with fail
          refine (impl_TimesFractions _ _ _ _ _).mono ?_
          rintro e w3 ⟨rfl, hx3⟩
          obtain ⟨hc3, hf3⟩ := bcell hx3
          have hy32 : w.heap.size + 1 + 1 < w3.heap.size := by have := hx3.size; omega
          have hy31 : w.heap.size + 1 < w3.heap.size := by omega
          have hy30 : w.heap.size < w3.heap.size := by omega
          go_wp2_with fail
          refine (impl_Shown _ _ _ _ _ _ _).mono ?_
          rintro e w4 ⟨rfl, hx4⟩
          obtain ⟨hc4, hf4⟩ := bcell hx4
          have hy42 : w.heap.size + 1 + 1 < w4.heap.size := by have := hx4.size; simp at this; omega
          have hy41 : w.heap.size + 1 < w4.heap.size := by omega
          have hy40 : w.heap.size < w4.heap.size := by omega
          have hq4 : w3.heap.size < w4.heap.size := by have := hx4.size; simp at this; omega
          go_wp2_with fail
          have c0 := ext_cell (ext_trans (ext_alloc (ext_refl _) _) hx4) (ext_cell hx3 (ext_cell hx2 (ext_cell hx1 (b := w.heap.size + 2) (off := 0) (v := .int .i64 0) (by go_simp))))
          have c1 := ext_cell (ext_trans (ext_alloc (ext_refl _) _) hx4) (ext_cell hx3 (ext_cell hx2 (ext_cell hx1 (b := w.heap.size + 2) (off := 1) (v := .int .i64 0) (by go_simp))))
          have c2 := ext_cell (ext_trans (ext_alloc (ext_refl _) _) hx4) (ext_cell hx3 (ext_cell hx2 (ext_cell hx1 (b := w.heap.size + 2) (off := 2) (v := .int .i64 0) (by go_simp))))
          have c3 := ext_cell (ext_trans (ext_alloc (ext_refl _) _) hx4) (ext_cell hx3 (ext_cell hx2 (ext_cell hx1 (b := w.heap.size + 2) (off := 3) (v := .int .i64 0) (by go_simp))))
          exact bodyPost_ret (v := .tuple #[lineV (shT bz bb bu bv az ab) (shB bz bb bu bv az ab) (timT au av bu bv) (timB au av bu bv), .bool (true)]) (by simp [results, Try.results29, go_sem, c0, c1, c2, c3, hy42]) rfl ⟨by simp [lineR, chZT, chZB, chUT, chUB, hm], (by repeat (first | (with_reducible exact ext_refl _) | (with_reducible refine ext_setCell ?_ ?_ _) | (with_reducible refine ext_alloc ?_ _) | (with_reducible refine ext_drewN ?_ _) | (with_reducible refine ext_drew ?_) | (with_reducible refine ext_trans ?_ (by assumption)) | (dsimp only; omega) | omega | (simp; omega)))⟩
/-! ### what is shown, corrected -/
def coIn (zt zb ut ub st sb : Int) : Bool := lineOkB zt zb ut ub && addOk st sb (wrap64 (-zt)) zb
def coOk (zt zb ut ub st sb : Int) : Bool := coIn zt zb ut ub st sb && ovOk (addT st sb (wrap64 (-zt)) zb) (addB st sb (wrap64 (-zt)) zb) ut ub
def coT (zt zb ut ub st sb : Int) : Int := if coIn zt zb ut ub st sb then ovT (addT st sb (wrap64 (-zt)) zb) (addB st sb (wrap64 (-zt)) zb) ut ub else 0
def coB (zt zb ut ub st sb : Int) : Int := if coIn zt zb ut ub st sb then ovB (addT st sb (wrap64 (-zt)) zb) (addB st sb (wrap64 (-zt)) zb) ut ub else 0
set_option maxHeartbeats 3200000 in
theorem impl_Corrected (zt zb ut ub st sb : Int) (w : World) :
    Calls Try.prog 26 #[lineV zt zb ut ub, .agg #[.int .i64 st, .int .i64 sb]] w fun e w' => e = frac (coT zt zb ut ub st sb) (coB zt zb ut ub st sb) (coOk zt zb ut ub st sb) ∧ Ext w w' := by
  cases h1 : lineOkB zt zb ut ub
  · have hm : coIn zt zb ut ub st sb = false := by simp [coIn, h1]
    go_enter Try.func26, Try.ntmps26
    go_wp2_with fail
    refine (impl_LineOk _ _ _ _ _).mono ?_
    rintro e w1 ⟨rfl, hx1⟩
    obtain ⟨hc1, hf1⟩ := bcell hx1
    have hy12 : w.heap.size + 1 + 1 < w1.heap.size := by have := hx1.size; simp at this; omega
    have hy11 : w.heap.size + 1 < w1.heap.size := by omega
    have hy10 : w.heap.size < w1.heap.size := by omega
    go_wp2_with fail
    have c0 := ext_cell hx1 (b := w.heap.size + 2) (off := 0) (v := .int .i64 0) (by go_simp)
    have c1 := ext_cell hx1 (b := w.heap.size + 2) (off := 1) (v := .int .i64 0) (by go_simp)
    exact bodyPost_ret (v := .tuple #[.agg #[.int .i64 (0), .int .i64 (0)], .bool (false)]) (by simp [results, Try.results26, go_sem, c0, c1]) rfl ⟨by simp [frac, coT, coB, coOk, hm], (by repeat (first | (with_reducible exact ext_refl _) | (with_reducible refine ext_setCell ?_ ?_ _) | (with_reducible refine ext_alloc ?_ _) | (with_reducible refine ext_drewN ?_ _) | (with_reducible refine ext_drew ?_) | (with_reducible refine ext_trans ?_ (by assumption)) | (dsimp only; omega) | omega | (simp; omega)))⟩
  · cases h2 : fracOk st sb
    · have hm : coIn zt zb ut ub st sb = false := by simp [coIn, addOk, addIn, h2]
      go_enter Try.func26, Try.ntmps26
      go_wp2_with fail
      refine (impl_LineOk _ _ _ _ _).mono ?_
      rintro e w1 ⟨rfl, hx1⟩
      obtain ⟨hc1, hf1⟩ := bcell hx1
      have hy12 : w.heap.size + 1 + 1 < w1.heap.size := by have := hx1.size; simp at this; omega
      have hy11 : w.heap.size + 1 < w1.heap.size := by omega
      have hy10 : w.heap.size < w1.heap.size := by omega
      go_wp2_with fail
      refine (impl_FractionOk _ _ _).mono ?_
      rintro e w2 ⟨rfl, hx2⟩
      obtain ⟨hc2, hf2⟩ := bcell hx2
      have hy22 : w.heap.size + 1 + 1 < w2.heap.size := by have := hx2.size; omega
      have hy21 : w.heap.size + 1 < w2.heap.size := by omega
      have hy20 : w.heap.size < w2.heap.size := by omega
      go_wp2_with fail
      have c0 := ext_cell hx2 (ext_cell hx1 (b := w.heap.size + 2) (off := 0) (v := .int .i64 0) (by go_simp))
      have c1 := ext_cell hx2 (ext_cell hx1 (b := w.heap.size + 2) (off := 1) (v := .int .i64 0) (by go_simp))
      exact bodyPost_ret (v := .tuple #[.agg #[.int .i64 (0), .int .i64 (0)], .bool (false)]) (by simp [results, Try.results26, go_sem, c0, c1]) rfl ⟨by simp [frac, coT, coB, coOk, hm], (by repeat (first | (with_reducible exact ext_refl _) | (with_reducible refine ext_setCell ?_ ?_ _) | (with_reducible refine ext_alloc ?_ _) | (with_reducible refine ext_drewN ?_ _) | (with_reducible refine ext_drew ?_) | (with_reducible refine ext_trans ?_ (by assumption)) | (dsimp only; omega) | omega | (simp; omega)))⟩
    · cases h3 : addOk st sb (wrap64 (-zt)) zb
      · have hm : coIn zt zb ut ub st sb = false := by simp [coIn, h3]
        go_enter Try.func26, Try.ntmps26
        go_wp2_with fail
        refine (impl_LineOk _ _ _ _ _).mono ?_
        rintro e w1 ⟨rfl, hx1⟩
        obtain ⟨hc1, hf1⟩ := bcell hx1
        have hy12 : w.heap.size + 1 + 1 < w1.heap.size := by have := hx1.size; simp at this; omega
        have hy11 : w.heap.size + 1 < w1.heap.size := by omega
        have hy10 : w.heap.size < w1.heap.size := by omega
        go_wp2_with fail
        refine (impl_FractionOk _ _ _).mono ?_
        rintro e w2 ⟨rfl, hx2⟩
        obtain ⟨hc2, hf2⟩ := bcell hx2
        have hy22 : w.heap.size + 1 + 1 < w2.heap.size := by have := hx2.size; omega
        have hy21 : w.heap.size + 1 < w2.heap.size := by omega
        have hy20 : w.heap.size < w2.heap.size := by omega
        go_wp2_with fail
        refine (impl_minus _ _ _ _ _).mono ?_
        rintro e w3 ⟨rfl, hx3⟩
        obtain ⟨hc3, hf3⟩ := bcell hx3
        have hy32 : w.heap.size + 1 + 1 < w3.heap.size := by have := hx3.size; omega
        have hy31 : w.heap.size + 1 < w3.heap.size := by omega
        have hy30 : w.heap.size < w3.heap.size := by omega
        go_wp2_with fail
        have c0 := ext_cell hx3 (ext_cell hx2 (ext_cell hx1 (b := w.heap.size + 2) (off := 0) (v := .int .i64 0) (by go_simp)))
        have c1 := ext_cell hx3 (ext_cell hx2 (ext_cell hx1 (b := w.heap.size + 2) (off := 1) (v := .int .i64 0) (by go_simp)))
        exact bodyPost_ret (v := .tuple #[.agg #[.int .i64 (0), .int .i64 (0)], .bool (false)]) (by simp [results, Try.results26, go_sem, c0, c1, hy32]) rfl ⟨by simp [frac, coT, coB, coOk, hm], (by repeat (first | (with_reducible exact ext_refl _) | (with_reducible refine ext_setCell ?_ ?_ _) | (with_reducible refine ext_alloc ?_ _) | (with_reducible refine ext_drewN ?_ _) | (with_reducible refine ext_drew ?_) | (with_reducible refine ext_trans ?_ (by assumption)) | (dsimp only; omega) | omega | (simp; omega)))⟩
      · have hm : coIn zt zb ut ub st sb = true := by simp [coIn, h1, h3]
        go_enter Try.func26, Try.ntmps26
        go_wp2_with fail
        refine (impl_LineOk _ _ _ _ _).mono ?_
        rintro e w1 ⟨rfl, hx1⟩
        obtain ⟨hc1, hf1⟩ := bcell hx1
        have hy12 : w.heap.size + 1 + 1 < w1.heap.size := by have := hx1.size; simp at this; omega
        have hy11 : w.heap.size + 1 < w1.heap.size := by omega
        have hy10 : w.heap.size < w1.heap.size := by omega
        go_wp2_with fail
        refine (impl_FractionOk _ _ _).mono ?_
        rintro e w2 ⟨rfl, hx2⟩
        obtain ⟨hc2, hf2⟩ := bcell hx2
        have hy22 : w.heap.size + 1 + 1 < w2.heap.size := by have := hx2.size; omega
        have hy21 : w.heap.size + 1 < w2.heap.size := by omega
        have hy20 : w.heap.size < w2.heap.size := by omega
        go_wp2_with fail
        refine (impl_minus _ _ _ _ _).mono ?_
        rintro e w3 ⟨rfl, hx3⟩
        obtain ⟨hc3, hf3⟩ := bcell hx3
        have hy32 : w.heap.size + 1 + 1 < w3.heap.size := by have := hx3.size; omega
        have hy31 : w.heap.size + 1 < w3.heap.size := by omega
        have hy30 : w.heap.size < w3.heap.size := by omega
        go_wp2_with fail
        refine (impl_over _ _ _ _ _).mono ?_
        rintro e w4 ⟨rfl, hx4⟩
        obtain ⟨hc4, hf4⟩ := bcell hx4
        have hy42 : w.heap.size + 1 + 1 < w4.heap.size := by have := hx4.size; simp at this; omega
        have hy41 : w.heap.size + 1 < w4.heap.size := by omega
        have hy40 : w.heap.size < w4.heap.size := by omega
        go_wp2_with fail
        have c0 := ext_cell (ext_trans (ext_alloc (ext_refl _) _) hx4) (ext_cell hx3 (ext_cell hx2 (ext_cell hx1 (b := w.heap.size + 2) (off := 0) (v := .int .i64 0) (by go_simp))))
        have c1 := ext_cell (ext_trans (ext_alloc (ext_refl _) _) hx4) (ext_cell hx3 (ext_cell hx2 (ext_cell hx1 (b := w.heap.size + 2) (off := 1) (v := .int .i64 0) (by go_simp))))
        exact bodyPost_ret (v := .tuple #[.agg #[.int .i64 (ovT (addT st sb (wrap64 (-zt)) zb) (addB st sb (wrap64 (-zt)) zb) ut ub), .int .i64 (ovB (addT st sb (wrap64 (-zt)) zb) (addB st sb (wrap64 (-zt)) zb) ut ub)], .bool (ovOk (addT st sb (wrap64 (-zt)) zb) (addB st sb (wrap64 (-zt)) zb) ut ub)]) (by simp [results, Try.results26, go_sem, c0, c1, hy42]) rfl ⟨by simp [frac, coT, coB, coOk, hm], (by repeat (first | (with_reducible exact ext_refl _) | (with_reducible refine ext_setCell ?_ ?_ _) | (with_reducible refine ext_alloc ?_ _) | (with_reducible refine ext_drewN ?_ _) | (with_reducible refine ext_drew ?_) | (with_reducible refine ext_trans ?_ (by assumption)) | (dsimp only; omega) | omega | (simp; omega)))⟩
end Go.Proofs.Ytefgdkjcoeikmaa
