/- The contracts of the functions that make, add, multiply and divide fractions. No condition but the ranges that each contract names. -/
import Derived.Test.YtefgdkjcoeikmaaFrac
namespace Go.Proofs.Ytefgdkjcoeikmaa
open Go.ChangeShapes Go.WideShapes Go.ChangeAt Go.RowKit
set_option linter.unusedVariables false

def mkIn (t b : Int) : Bool := !(b == 0) && inB t (-1000000000000) 1000000000000 && inB b (-1000000000000) 1000000000000
def mkOk (t b : Int) : Bool := mkIn t b && redOk t b
def mkT (t b : Int) : Int := if mkIn t b then redT t b else 0
def mkB (t b : Int) : Int := if mkIn t b then redB t b else 0
abbrev frac (x y : Int) (ok : Bool) : Ending := .returned (.tuple #[.agg #[.int .i64 x, .int .i64 y], .bool ok])

set_option maxHeartbeats 1600000 in
theorem impl_MakeFraction (t b : Int) (w : World) :
    Calls Try.prog 60 #[.int .i64 t, .int .i64 b] w fun e w' => e = frac (mkT t b) (mkB t b) (mkOk t b) ∧ Ext w w' := by
  by_cases hb : b = 0
  · have hm : mkIn t b = false := by simp [mkIn, hb]
    have eb : (b == 0) = true := by simpa using hb
    have HB := Lib.hid hb
    clear hb
    go_enter Try.func60, Try.ntmps60
    go_wp2_with (go_at_call 73; refine (impl_in _ _ _ _).mono ?_; rintro e w' ⟨rfl, rfl⟩)
    exact bodyPost_ret (v := .tuple #[.agg #[.int .i64 0, .int .i64 0], .bool false]) (by simp [results, Try.results60, go_sem]) rfl ⟨by simp [frac, mkT, mkB, mkOk, hm], (by repeat (first | (with_reducible exact ext_refl _) | (with_reducible refine ext_setCell ?_ ?_ _) | (with_reducible refine ext_alloc ?_ _) | (with_reducible refine ext_drewN ?_ _) | (with_reducible refine ext_drew ?_) | (with_reducible refine ext_trans ?_ (by assumption)) | (dsimp only; omega) | omega | (simp; omega)))⟩
  · have eb : (b == 0) = false := by simpa using hb
    cases h1 : inB t (-1000000000000) 1000000000000
    · have hm : mkIn t b = false := by simp [mkIn, h1]
      go_enter Try.func60, Try.ntmps60
      go_wp2_with (go_at_call 73; refine (impl_in _ _ _ _).mono ?_; rintro e w' ⟨rfl, rfl⟩)
      exact bodyPost_ret (v := .tuple #[.agg #[.int .i64 0, .int .i64 0], .bool false]) (by simp [results, Try.results60, go_sem]) rfl ⟨by simp [frac, mkT, mkB, mkOk, hm], (by repeat (first | (with_reducible exact ext_refl _) | (with_reducible refine ext_setCell ?_ ?_ _) | (with_reducible refine ext_alloc ?_ _) | (with_reducible refine ext_drewN ?_ _) | (with_reducible refine ext_drew ?_) | (with_reducible refine ext_trans ?_ (by assumption)) | (dsimp only; omega) | omega | (simp; omega)))⟩
    · cases h2 : inB b (-1000000000000) 1000000000000
      · have hm : mkIn t b = false := by simp [mkIn, h2]
        go_enter Try.func60, Try.ntmps60
        go_wp2_with (go_at_call 73; refine (impl_in _ _ _ _).mono ?_; rintro e w' ⟨rfl, rfl⟩)
        exact bodyPost_ret (v := .tuple #[.agg #[.int .i64 0, .int .i64 0], .bool false]) (by simp [results, Try.results60, go_sem]) rfl ⟨by simp [frac, mkT, mkB, mkOk, hm], (by repeat (first | (with_reducible exact ext_refl _) | (with_reducible refine ext_setCell ?_ ?_ _) | (with_reducible refine ext_alloc ?_ _) | (with_reducible refine ext_drewN ?_ _) | (with_reducible refine ext_drew ?_) | (with_reducible refine ext_trans ?_ (by assumption)) | (dsimp only; omega) | omega | (simp; omega)))⟩
      · have hm : mkIn t b = true := by simp [mkIn, h1, h2, eb]
        obtain ⟨c1, c2⟩ := inB_true.1 h1
        obtain ⟨c3, c4⟩ := inB_true.1 h2
        go_enter Try.func60, Try.ntmps60
        go_wp2_with (first
          | (go_at_call 73; refine (impl_in _ _ _ _).mono ?_; rintro e w' ⟨rfl, rfl⟩)
          | (go_at_call 70; refine (impl_reduced _ _ _ hb (by omega) (by omega) (by omega) (by omega)).mono ?_; rintro e w1 ⟨rfl, hx⟩; obtain ⟨hc, hf⟩ := bcell hx))
        have c0 := ext_cell hx (b := w.heap.size) (off := 0) (v := .int .i64 0) (by go_simp)
        have c1 := ext_cell hx (b := w.heap.size) (off := 1) (v := .int .i64 0) (by go_simp)
        exact bodyPost_ret (v := .tuple #[.agg #[.int .i64 (redT t b), .int .i64 (redB t b)], .bool (redOk t b)]) (by simp [results, Try.results60, go_sem, c0, c1]) rfl ⟨by simp [frac, mkT, mkB, mkOk, hm], (by repeat (first | (with_reducible exact ext_refl _) | (with_reducible refine ext_setCell ?_ ?_ _) | (with_reducible refine ext_alloc ?_ _) | (with_reducible refine ext_drewN ?_ _) | (with_reducible refine ext_drew ?_) | (with_reducible refine ext_trans ?_ (by assumption)) | (dsimp only; omega) | omega | (simp; omega)))⟩

set_option maxHeartbeats 1600000 in
theorem spec_MakeFraction (t b : Int) (w : World) :
    Calls Try.prog 57 #[.int .i64 t, .int .i64 b] w fun e w' => e = frac (mkT t b) (mkB t b) (mkOk t b) ∧ Ext w w' := by
  by_cases hb : b = 0
  · have hm : mkIn t b = false := by simp [mkIn, hb]
    have eb : (b == 0) = true := by simpa using hb
    have HB := Lib.hid hb
    clear hb
    go_enter Try.func57, Try.ntmps57
    go_wp2_with (go_at_call 85; refine (spec_in _ _ _ _).mono ?_; rintro e w' ⟨rfl, rfl⟩)
    exact bodyPost_ret (v := .tuple #[.agg #[.int .i64 0, .int .i64 0], .bool false]) (by simp [results, Try.results57, go_sem]) rfl ⟨by simp [frac, mkT, mkB, mkOk, hm], (by repeat (first | (with_reducible exact ext_refl _) | (with_reducible refine ext_setCell ?_ ?_ _) | (with_reducible refine ext_alloc ?_ _) | (with_reducible refine ext_drewN ?_ _) | (with_reducible refine ext_drew ?_) | (with_reducible refine ext_trans ?_ (by assumption)) | (dsimp only; omega) | omega | (simp; omega)))⟩
  · have eb : (b == 0) = false := by simpa using hb
    cases h1 : inB t (-1000000000000) 1000000000000
    · have hm : mkIn t b = false := by simp [mkIn, h1]
      go_enter Try.func57, Try.ntmps57
      go_wp2_with (go_at_call 85; refine (spec_in _ _ _ _).mono ?_; rintro e w' ⟨rfl, rfl⟩)
      exact bodyPost_ret (v := .tuple #[.agg #[.int .i64 0, .int .i64 0], .bool false]) (by simp [results, Try.results57, go_sem]) rfl ⟨by simp [frac, mkT, mkB, mkOk, hm], (by repeat (first | (with_reducible exact ext_refl _) | (with_reducible refine ext_setCell ?_ ?_ _) | (with_reducible refine ext_alloc ?_ _) | (with_reducible refine ext_drewN ?_ _) | (with_reducible refine ext_drew ?_) | (with_reducible refine ext_trans ?_ (by assumption)) | (dsimp only; omega) | omega | (simp; omega)))⟩
    · cases h2 : inB b (-1000000000000) 1000000000000
      · have hm : mkIn t b = false := by simp [mkIn, h2]
        go_enter Try.func57, Try.ntmps57
        go_wp2_with (go_at_call 85; refine (spec_in _ _ _ _).mono ?_; rintro e w' ⟨rfl, rfl⟩)
        exact bodyPost_ret (v := .tuple #[.agg #[.int .i64 0, .int .i64 0], .bool false]) (by simp [results, Try.results57, go_sem]) rfl ⟨by simp [frac, mkT, mkB, mkOk, hm], (by repeat (first | (with_reducible exact ext_refl _) | (with_reducible refine ext_setCell ?_ ?_ _) | (with_reducible refine ext_alloc ?_ _) | (with_reducible refine ext_drewN ?_ _) | (with_reducible refine ext_drew ?_) | (with_reducible refine ext_trans ?_ (by assumption)) | (dsimp only; omega) | omega | (simp; omega)))⟩
      · have hm : mkIn t b = true := by simp [mkIn, h1, h2, eb]
        obtain ⟨c1, c2⟩ := inB_true.1 h1
        obtain ⟨c3, c4⟩ := inB_true.1 h2
        have hg := gcd_pos (t := t) hb
        have hg2 := gcd_le (t := t) hb
        obtain ⟨t1, t2⟩ := tdiv_bound hg c1 c2
        obtain ⟨t3, t4⟩ := tdiv_bound hg c3 c4
        have hg3 : (Int.gcd t b : Int) ≤ 4611686018427387904 := by omega
        clear hg2
        by_cases hneg : b < 0
        · have N1 : Hid (nt t b = (- t.tdiv (Int.gcd t b))) := by unfold Hid nt; rw [if_pos hneg, Int.neg_tdiv]
          have N2 : Hid (nb t b = (- b.tdiv (Int.gcd t b))) := by unfold Hid nb; rw [if_pos hneg, Int.neg_tdiv]
          cases hr : fracOk (- t.tdiv (Int.gcd t b)) (- b.tdiv (Int.gcd t b))
          · have HR : Hid (redOk t b = false) := by unfold Hid redOk; rw [N1.out, N2.out]; exact hr
            go_enter Try.func57, Try.ntmps57
            go_wp2_with (first
              | (go_at_call 85; refine (spec_in _ _ _ _).mono ?_; rintro e w' ⟨rfl, rfl⟩)
              | (go_at_call 89; refine (spec_gcd _ _ _ (by omega) (by omega) (by omega) (by omega)).mono ?_; rintro e w' ⟨rfl, m, rfl⟩))
            go_region
            go_wp2_with (go_at_call 90; refine (spec_FractionOk _ _ _).mono ?_; rintro e w1 ⟨rfl, hx⟩; obtain ⟨hc, hf⟩ := bcell hx)
            have c0 := ext_cell hx (b := w.heap.size) (off := 0) (v := .int .i64 0) (by go_simp)
            have c1 := ext_cell hx (b := w.heap.size) (off := 1) (v := .int .i64 0) (by go_simp)
            exact bodyPost_ret (v := .tuple #[.agg #[.int .i64 0, .int .i64 0], .bool false]) (by simp [results, Try.results57, go_sem, c0, c1]) rfl
              ⟨by rw [mkT, mkB, mkOk, hm, redT, redB, HR.out]; first | rfl | (simp only [if_true]; rw [N1.out, N2.out]; rfl), (by repeat (first | (with_reducible exact ext_refl _) | (with_reducible refine ext_setCell ?_ ?_ _) | (with_reducible refine ext_alloc ?_ _) | (with_reducible refine ext_drewN ?_ _) | (with_reducible refine ext_drew ?_) | (with_reducible refine ext_trans ?_ (by assumption)) | (dsimp only; omega) | omega | (simp; omega)))⟩
          · have HR : Hid (redOk t b = true) := by unfold Hid redOk; rw [N1.out, N2.out]; exact hr
            go_enter Try.func57, Try.ntmps57
            go_wp2_with (first
              | (go_at_call 85; refine (spec_in _ _ _ _).mono ?_; rintro e w' ⟨rfl, rfl⟩)
              | (go_at_call 89; refine (spec_gcd _ _ _ (by omega) (by omega) (by omega) (by omega)).mono ?_; rintro e w' ⟨rfl, m, rfl⟩))
            go_region
            go_wp2_with (go_at_call 90; refine (spec_FractionOk _ _ _).mono ?_; rintro e w1 ⟨rfl, hx⟩; obtain ⟨hc, hf⟩ := bcell hx)
            have c0 := ext_cell hx (b := w.heap.size) (off := 0) (v := .int .i64 0) (by go_simp)
            have c1 := ext_cell hx (b := w.heap.size) (off := 1) (v := .int .i64 0) (by go_simp)
            exact bodyPost_ret (v := .tuple #[.agg #[.int .i64 (- t.tdiv (Int.gcd t b)), .int .i64 (- b.tdiv (Int.gcd t b))], .bool true]) (by simp [results, Try.results57, go_sem, c0, c1]) rfl
              ⟨by rw [mkT, mkB, mkOk, hm, redT, redB, HR.out]; first | rfl | (simp only [if_true]; rw [N1.out, N2.out]; rfl), (by repeat (first | (with_reducible exact ext_refl _) | (with_reducible refine ext_setCell ?_ ?_ _) | (with_reducible refine ext_alloc ?_ _) | (with_reducible refine ext_drewN ?_ _) | (with_reducible refine ext_drew ?_) | (with_reducible refine ext_trans ?_ (by assumption)) | (dsimp only; omega) | omega | (simp; omega)))⟩
        · have N1 : Hid (nt t b = (t.tdiv (Int.gcd t b))) := by unfold Hid nt; rw [if_neg hneg]
          have N2 : Hid (nb t b = (b.tdiv (Int.gcd t b))) := by unfold Hid nb; rw [if_neg hneg]
          cases hr : fracOk (t.tdiv (Int.gcd t b)) (b.tdiv (Int.gcd t b))
          · have HR : Hid (redOk t b = false) := by unfold Hid redOk; rw [N1.out, N2.out]; exact hr
            go_enter Try.func57, Try.ntmps57
            go_wp2_with (first
              | (go_at_call 85; refine (spec_in _ _ _ _).mono ?_; rintro e w' ⟨rfl, rfl⟩)
              | (go_at_call 89; refine (spec_gcd _ _ _ (by omega) (by omega) (by omega) (by omega)).mono ?_; rintro e w' ⟨rfl, m, rfl⟩))
            go_region
            go_wp2_with (go_at_call 90; refine (spec_FractionOk _ _ _).mono ?_; rintro e w1 ⟨rfl, hx⟩; obtain ⟨hc, hf⟩ := bcell hx)
            have c0 := ext_cell hx (b := w.heap.size) (off := 0) (v := .int .i64 0) (by go_simp)
            have c1 := ext_cell hx (b := w.heap.size) (off := 1) (v := .int .i64 0) (by go_simp)
            exact bodyPost_ret (v := .tuple #[.agg #[.int .i64 0, .int .i64 0], .bool false]) (by simp [results, Try.results57, go_sem, c0, c1]) rfl
              ⟨by rw [mkT, mkB, mkOk, hm, redT, redB, HR.out]; first | rfl | (simp only [if_true]; rw [N1.out, N2.out]; rfl), (by repeat (first | (with_reducible exact ext_refl _) | (with_reducible refine ext_setCell ?_ ?_ _) | (with_reducible refine ext_alloc ?_ _) | (with_reducible refine ext_drewN ?_ _) | (with_reducible refine ext_drew ?_) | (with_reducible refine ext_trans ?_ (by assumption)) | (dsimp only; omega) | omega | (simp; omega)))⟩
          · have HR : Hid (redOk t b = true) := by unfold Hid redOk; rw [N1.out, N2.out]; exact hr
            go_enter Try.func57, Try.ntmps57
            go_wp2_with (first
              | (go_at_call 85; refine (spec_in _ _ _ _).mono ?_; rintro e w' ⟨rfl, rfl⟩)
              | (go_at_call 89; refine (spec_gcd _ _ _ (by omega) (by omega) (by omega) (by omega)).mono ?_; rintro e w' ⟨rfl, m, rfl⟩))
            go_region
            go_wp2_with (go_at_call 90; refine (spec_FractionOk _ _ _).mono ?_; rintro e w1 ⟨rfl, hx⟩; obtain ⟨hc, hf⟩ := bcell hx)
            have c0 := ext_cell hx (b := w.heap.size) (off := 0) (v := .int .i64 0) (by go_simp)
            have c1 := ext_cell hx (b := w.heap.size) (off := 1) (v := .int .i64 0) (by go_simp)
            exact bodyPost_ret (v := .tuple #[.agg #[.int .i64 (t.tdiv (Int.gcd t b)), .int .i64 (b.tdiv (Int.gcd t b))], .bool true]) (by simp [results, Try.results57, go_sem, c0, c1]) rfl
              ⟨by rw [mkT, mkB, mkOk, hm, redT, redB, HR.out]; first | rfl | (simp only [if_true]; rw [N1.out, N2.out]; rfl), (by repeat (first | (with_reducible exact ext_refl _) | (with_reducible refine ext_setCell ?_ ?_ _) | (with_reducible refine ext_alloc ?_ _) | (with_reducible refine ext_drewN ?_ _) | (with_reducible refine ext_drew ?_) | (with_reducible refine ext_trans ?_ (by assumption)) | (dsimp only; omega) | omega | (simp; omega)))⟩
end Go.Proofs.Ytefgdkjcoeikmaa
