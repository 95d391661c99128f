/- The draws of fractions and lines (seat D). No condition but those of each contract. -/
import Derived.Test.YtefgdkjcoeikmaaDrawC
import Derived.Test.YtefgdkjcoeikmaaLinesP
namespace Go.Proofs.Ytefgdkjcoeikmaa
open Go.ChangeShapes Go.WideShapes Go.ChangeAt Go.RowKit
set_option linter.unusedVariables false
set_option linter.unusedSimpArgs false

/-- what a cursor's draw leaves of the cells of a block -/
theorem Drew.cell {g : Nat} {w w' : World} (h : Drew g w w') {b o : Nat} {v : Value} (hb : b ≠ g) (hl : b < w.heap.size) (hc : w.cell? ⟨b, o, none⟩ = some v) : w'.cell? ⟨b, o, none⟩ = some v := by
  rw [World.cell?_of_block (w := w) (a := ⟨b, o, none⟩) (h.block b hb hl)]; exact hc
theorem Drew.frozen {g : Nat} {w w' : World} (h : Drew g w w') {b o : Nat} (hb : b ≠ g) (hl : b < w.heap.size) (hc : w.frozen? ⟨b, o, none⟩ = false) : w'.frozen? ⟨b, o, none⟩ = false := by
  rw [World.frozen?_of_block (w := w) (a := ⟨b, o, none⟩) (h.block b hb hl)]; exact hc
theorem res_drew2 {g : Nat} {w wk : World} {T : TypeId} (hg : g < w.heap.size) (E : Drew g (w.alloc (.cells #[.int .i64 0, .int .i64 0] T)) wk) :
    wk.cell? ⟨w.heap.size, 0, none⟩ = some (.int .i64 0) ∧ wk.cell? ⟨w.heap.size, 1, none⟩ = some (.int .i64 0) ∧ (∀ j, wk.frozen? ⟨w.heap.size, j, none⟩ = false) ∧ w.heap.size < wk.heap.size := by
  have hz := E.size
  simp at hz
  refine ⟨E.cell (by omega) (by simp) (by go_simp), E.cell (by omega) (by simp) (by go_simp), fun j => E.frozen (by omega) (by simp) (by go_simp), by omega⟩

set_option maxHeartbeats 3200000 in
theorem l02Fraction_c (g : Nat) (w : World) (h : Cur w g) :
    Calls Try.prog 65 #[.pointer (some ⟨g, 0, none⟩)] w fun e w' => ∃ t b : Int, e = .returned (.agg #[.int .i64 t, .int .i64 b]) ∧ Sm t b ∧ Cur w' g ∧ Drew g w w' := by
  have hg0 := h.lt
  go_enter Try.func65, Try.ntmps65
  go_wp2_with fail
  refine (l01Below_c g 41 _ (h.ext (ext_alloc (ext_refl _) _)) (by omega) (by omega)).mono ?_
  rintro e w1 ⟨x, hx, rfl, hc1, hw1⟩
  go_wp2_with fail
  refine (l01Below_c g 12 _ hc1 (by omega) (by omega)).mono ?_
  rintro e w2 ⟨y, hy, rfl, hc2, hw2⟩
  obtain ⟨m1, m2, m3, m4, m5, m6, _⟩ := mk_small (t := (x : Int) - 20) (b := 1 + (y : Int)) (M := 20) (N := 12) (by omega) (by omega) (by omega) (by omega) (by omega) (by omega)
  go_wp2_with fail
  refine (spec_MakeFraction _ _ _).mono ?_
  rw [m1]
  generalize mkT ((x : Int) - 20) (1 + (y : Int)) = t at *
  generalize mkB ((x : Int) - 20) (1 + (y : Int)) = b at *
  rintro e w3 ⟨rfl, hx3⟩
  have E : Drew g (w.alloc (.cells #[.int .i64 0, .int .i64 0] 41)) w3 := ((Drew.of_within hw1).trans (Drew.of_within hw2)).trans (Drew.ext hx3)
  have hc3 := hc2.ext hx3
  obtain ⟨c0, c1, cf, cz⟩ := res_drew2 hg0 E
  have EW : Drew g w w3 := (Drew.ext (ext_alloc (ext_refl _) _)).trans E
  have HSm := Lib.hid (show Sm t b from ⟨m2, m3, m4, m5, m6⟩)
  clear hw1 hw2 hx3 m1 m2 m3 m4 m5 m6
  go_wp2_with fail
  have hB1 := ((Below.refl w.heap.size w3).setCell (p := ⟨w.heap.size, 0, none⟩) (Nat.le_refl _) (.int .i64 t)).setCell (p := ⟨w.heap.size, 1, none⟩) (Nat.le_refl _) (.int .i64 b)
  have hB := hB1.alloc (by have := hB1.size; omega) (.cells #[.int .i64 t, .int .i64 b] 41)
  exact bodyPost_ret (v := .agg #[.int .i64 t, .int .i64 b]) (by simp [results, Try.results65, go_sem, c0, c1, cf, cz]) rfl ⟨t, b, rfl, HSm.out, hc3.below hB hg0, EW.then_below hB⟩

theorem res_drew4 {g : Nat} {w wk : World} {T : TypeId} (hg : g < w.heap.size) (E : Drew g (w.alloc (.cells #[.int .i64 0, .int .i64 0, .int .i64 0, .int .i64 0] T)) wk) :
    (∀ j, j < 4 → wk.cell? ⟨w.heap.size, j, none⟩ = some (.int .i64 0)) ∧ (∀ j, wk.frozen? ⟨w.heap.size, j, none⟩ = false) ∧ w.heap.size < wk.heap.size := by
  have hz := E.size
  simp at hz
  refine ⟨fun j hj => E.cell (by omega) (by simp) ?_, fun j => E.frozen (by omega) (by simp) (by go_simp), by omega⟩
  obtain rfl | rfl | rfl | rfl : j = 0 ∨ j = 1 ∨ j = 2 ∨ j = 3 := by omega
  all_goals go_simp

set_option maxHeartbeats 6400000 in
theorem l17Line_c (g : Nat) (w : World) (h : Cur w g) :
    Calls Try.prog 64 #[.pointer (some ⟨g, 0, none⟩)] w fun e w' => ∃ p q r s : Int, e = .returned (lineV p q r s) ∧ SmL p q r s ∧ Cur w' g ∧ Drew g w w' := by
  have hg0 := h.lt
  go_enter Try.func64, Try.ntmps64
  go_wp2_with fail
  refine (l02Fraction_c g _ (h.ext (ext_alloc (ext_refl _) _))).mono ?_
  rintro e w1 ⟨p, q, rfl, hs1, hc1, hd1⟩
  have hsz1 := hd1.size
  simp at hsz1
  go_wp2_with fail
  refine (l01Below_c g 20 _ (hc1.ext (ext_alloc (ext_refl _) _)) (by omega) (by omega)).mono ?_
  rintro e w2 ⟨x, hx, rfl, hc2, hw2⟩
  go_wp2_with fail
  refine (l01Below_c g 12 _ hc2 (by omega) (by omega)).mono ?_
  rintro e w3 ⟨y, hy, rfl, hc3, hw3⟩
  obtain ⟨m1, m2, m3, m4, m5, m6, m7⟩ := mk_small (t := 1 + (x : Int)) (b := 1 + (y : Int)) (M := 20) (N := 12) (by omega) (by omega) (by omega) (by omega) (by omega) (by omega)
  have hr1 : 1 ≤ mkT (1 + (x : Int)) (1 + (y : Int)) := by
    have e := m7.2.2
    have p1 := mul_pos1 (show 1 ≤ 1 + (x : Int) by omega) m5
    rcases Int.lt_or_le 0 (mkT (1 + (x : Int)) (1 + (y : Int))) with k | k
    · exact k
    · exfalso
      have := Int.mul_nonneg (show 0 ≤ -mkT (1 + (x : Int)) (1 + (y : Int)) by omega) (show 0 ≤ 1 + (y : Int) by omega)
      rw [Int.neg_mul] at this
      omega
  clear m7
  go_wp2_with fail
  refine (spec_MakeFraction _ _ _).mono ?_
  rw [m1]
  generalize mkT (1 + (x : Int)) (1 + (y : Int)) = r at *
  generalize mkB (1 + (x : Int)) (1 + (y : Int)) = s at *
  rintro e w4 ⟨rfl, hx4⟩
  have E2 : Drew g (w1.alloc (.cells #[.int .i64 p, .int .i64 q] 41)) w4 := ((Drew.of_within hw2).trans (Drew.of_within hw3)).trans (Drew.ext hx4)
  have E1 : Drew g (w.alloc (.cells #[.int .i64 0, .int .i64 0, .int .i64 0, .int .i64 0] 43)) w4 := hd1.trans ((Drew.ext (ext_alloc (ext_refl _) _)).trans E2)
  have hc4 := hc3.ext hx4
  obtain ⟨c0, cf, cz⟩ := res_drew4 hg0 E1
  have c00 := c0 0 (by omega)
  have c01 := c0 1 (by omega)
  have c02 := c0 2 (by omega)
  have c03 := c0 3 (by omega)
  have d0 : w4.cell? ⟨w1.heap.size, 0, none⟩ = some (.int .i64 p) := E2.cell (by omega) (by simp) (by go_simp)
  have d1 : w4.cell? ⟨w1.heap.size, 1, none⟩ = some (.int .i64 q) := E2.cell (by omega) (by simp) (by go_simp)
  have dz : w1.heap.size < w4.heap.size := by have := E2.size; simp at this; omega
  have hne : w.heap.size ≠ w1.heap.size := by omega
  have hne2 : w1.heap.size ≠ w.heap.size := by omega
  have EW : Drew g w w4 := (Drew.ext (ext_alloc (ext_refl _) _)).trans E1
  have HSm := Lib.hid (show SmL p q r s from ⟨hs1, ⟨m2, m3, m4, m5, m6⟩, hr1⟩)
  clear hw2 hw3 hx4 m1 m2 m3 m4 m5 m6 c0 hd1 hsz1 hr1
  go_wp2_with fail
  have hB1 := ((((Below.refl w.heap.size w4).setCell (p := ⟨w.heap.size, 0, none⟩) (Nat.le_refl _) (.int .i64 p)).setCell (p := ⟨w.heap.size, 1, none⟩) (Nat.le_refl _) (.int .i64 q)).setCell (p := ⟨w.heap.size, 2, none⟩) (Nat.le_refl _) (.int .i64 r)).setCell (p := ⟨w.heap.size, 3, none⟩) (Nat.le_refl _) (.int .i64 s)
  have hB := hB1.alloc (by have := hB1.size; omega) (.cells #[.int .i64 r, .int .i64 s] 41)
  exact bodyPost_ret (v := lineV p q r s) (by simp [results, Try.results64, go_sem, c00, c01, c02, c03, cf, cz]) rfl ⟨p, q, r, s, rfl, HSm.out, hc4.below hB hg0, EW.then_below hB⟩
end Go.Proofs.Ytefgdkjcoeikmaa
