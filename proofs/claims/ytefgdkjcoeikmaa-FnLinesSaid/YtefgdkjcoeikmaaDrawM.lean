/- The draw of two lines and a value (seat D). No condition but those of each contract. -/
import Derived.Test.YtefgdkjcoeikmaaDrawL
import Derived.Deep.RegionLaw
namespace Go.Proofs.Ytefgdkjcoeikmaa
open Go.ChangeShapes Go.WideShapes Go.ChangeAt Go.RowKit
set_option linter.unusedVariables false
set_option linter.unusedSimpArgs false

theorem Drew.ext_of {g : Nat} {w w' : World} (h : Drew g w w') (hg : w.heap.size ≤ g) : Ext w w' := ⟨h.os, h.tape, h.output, h.size, fun b hb => h.block b (by omega) hb⟩

set_option maxHeartbeats 12800000 in
set_option maxRecDepth 100000 in
theorem spec_DrawLines (a : Option Addr) (n0 c : Nat) (X0 : Nat → Int) (w : World) (h : BytesAt w a n0 X0) (hn : n0 ≤ 1048576) :
    Calls Try.prog 24 #[.slice a n0 c] w fun e w' => ∃ p q r s p' q' r' s' t b : Int, e = .returned (.tuple #[lineV p q r s, lineV p' q' r' s', .agg #[.int .i64 t, .int .i64 b]]) ∧ SmL p q r s ∧ SmL p' q' r' s' ∧ Sm t b ∧ Ext w w' := by
  have E3 : Ext w (((w.alloc (.cells #[.int .i64 0, .int .i64 0, .int .i64 0, .int .i64 0] 43)).alloc (.cells #[.int .i64 0, .int .i64 0, .int .i64 0, .int .i64 0] 43)).alloc (.cells #[.int .i64 0, .int .i64 0] 41)) := ext_alloc (ext_alloc (ext_alloc (ext_refl _) _) _) _
  have h3 := h.ext E3
  go_enter Try.func24, Try.ntmps24
  go_wp2_with fail
  refine (l01New_c _ _ _ _ _ h3 hn).mono ?_
  rintro e w1 ⟨g, rfl, hc1, hg, hx1⟩
  have hg1 := hc1.lt
  have hg' : w.heap.size + 3 ≤ g := by simpa using hg
  go_wp2_with fail
  refine (l17Line_c g _ hc1).mono ?_
  rintro e w2 ⟨p, q, r, s, rfl, hs2, hc2, hd2⟩
  have hsz2 := hd2.size
  go_wp2_with fail
  refine (l17Line_c g _ (hc2.ext (ext_alloc (ext_refl _) _))).mono ?_
  rintro e w3 ⟨p', q', r', s', rfl, hs3, hc3, hd3⟩
  have hsz3 := hd3.size
  simp at hsz3
  have hdA : Drew g (((w.alloc (.cells #[.int .i64 0, .int .i64 0, .int .i64 0, .int .i64 0] 43)).alloc (.cells #[.int .i64 0, .int .i64 0, .int .i64 0, .int .i64 0] 43)).alloc (.cells #[.int .i64 0, .int .i64 0] 41)) w2 := (Drew.ext hx1).trans hd2
  have hdB : Drew g (((w.alloc (.cells #[.int .i64 0, .int .i64 0, .int .i64 0, .int .i64 0] 43)).alloc (.cells #[.int .i64 0, .int .i64 0, .int .i64 0, .int .i64 0] 43)).alloc (.cells #[.int .i64 0, .int .i64 0] 41)) w3 := hdA.trans ((Drew.ext (ext_alloc (ext_refl _) (.cells #[.int .i64 p, .int .i64 q, .int .i64 r, .int .i64 s] 43))).trans hd3)
  have c00_0 : (((w.alloc (.cells #[.int .i64 0, .int .i64 0, .int .i64 0, .int .i64 0] 43)).alloc (.cells #[.int .i64 0, .int .i64 0, .int .i64 0, .int .i64 0] 43)).alloc (.cells #[.int .i64 0, .int .i64 0] 41)).cell? ⟨w.heap.size, 0, none⟩ = some (.int .i64 0) := by go_simp; try omega
  have c00 := hdB.cell (by omega) (by simp <;> omega) c00_0
  clear c00_0
  have c01_0 : (((w.alloc (.cells #[.int .i64 0, .int .i64 0, .int .i64 0, .int .i64 0] 43)).alloc (.cells #[.int .i64 0, .int .i64 0, .int .i64 0, .int .i64 0] 43)).alloc (.cells #[.int .i64 0, .int .i64 0] 41)).cell? ⟨w.heap.size, 1, none⟩ = some (.int .i64 0) := by go_simp; try omega
  have c01 := hdB.cell (by omega) (by simp <;> omega) c01_0
  clear c01_0
  have c02_0 : (((w.alloc (.cells #[.int .i64 0, .int .i64 0, .int .i64 0, .int .i64 0] 43)).alloc (.cells #[.int .i64 0, .int .i64 0, .int .i64 0, .int .i64 0] 43)).alloc (.cells #[.int .i64 0, .int .i64 0] 41)).cell? ⟨w.heap.size, 2, none⟩ = some (.int .i64 0) := by go_simp; try omega
  have c02 := hdB.cell (by omega) (by simp <;> omega) c02_0
  clear c02_0
  have c03_0 : (((w.alloc (.cells #[.int .i64 0, .int .i64 0, .int .i64 0, .int .i64 0] 43)).alloc (.cells #[.int .i64 0, .int .i64 0, .int .i64 0, .int .i64 0] 43)).alloc (.cells #[.int .i64 0, .int .i64 0] 41)).cell? ⟨w.heap.size, 3, none⟩ = some (.int .i64 0) := by go_simp; try omega
  have c03 := hdB.cell (by omega) (by simp <;> omega) c03_0
  clear c03_0
  have c10_0 : (((w.alloc (.cells #[.int .i64 0, .int .i64 0, .int .i64 0, .int .i64 0] 43)).alloc (.cells #[.int .i64 0, .int .i64 0, .int .i64 0, .int .i64 0] 43)).alloc (.cells #[.int .i64 0, .int .i64 0] 41)).cell? ⟨w.heap.size + 1, 0, none⟩ = some (.int .i64 0) := by go_simp; try omega
  have c10 := hdB.cell (by omega) (by simp <;> omega) c10_0
  clear c10_0
  have c11_0 : (((w.alloc (.cells #[.int .i64 0, .int .i64 0, .int .i64 0, .int .i64 0] 43)).alloc (.cells #[.int .i64 0, .int .i64 0, .int .i64 0, .int .i64 0] 43)).alloc (.cells #[.int .i64 0, .int .i64 0] 41)).cell? ⟨w.heap.size + 1, 1, none⟩ = some (.int .i64 0) := by go_simp; try omega
  have c11 := hdB.cell (by omega) (by simp <;> omega) c11_0
  clear c11_0
  have c12_0 : (((w.alloc (.cells #[.int .i64 0, .int .i64 0, .int .i64 0, .int .i64 0] 43)).alloc (.cells #[.int .i64 0, .int .i64 0, .int .i64 0, .int .i64 0] 43)).alloc (.cells #[.int .i64 0, .int .i64 0] 41)).cell? ⟨w.heap.size + 1, 2, none⟩ = some (.int .i64 0) := by go_simp; try omega
  have c12 := hdB.cell (by omega) (by simp <;> omega) c12_0
  clear c12_0
  have c13_0 : (((w.alloc (.cells #[.int .i64 0, .int .i64 0, .int .i64 0, .int .i64 0] 43)).alloc (.cells #[.int .i64 0, .int .i64 0, .int .i64 0, .int .i64 0] 43)).alloc (.cells #[.int .i64 0, .int .i64 0] 41)).cell? ⟨w.heap.size + 1, 3, none⟩ = some (.int .i64 0) := by go_simp; try omega
  have c13 := hdB.cell (by omega) (by simp <;> omega) c13_0
  clear c13_0
  have c20_0 : (((w.alloc (.cells #[.int .i64 0, .int .i64 0, .int .i64 0, .int .i64 0] 43)).alloc (.cells #[.int .i64 0, .int .i64 0, .int .i64 0, .int .i64 0] 43)).alloc (.cells #[.int .i64 0, .int .i64 0] 41)).cell? ⟨w.heap.size + 2, 0, none⟩ = some (.int .i64 0) := by go_simp; try omega
  have c20 := hdB.cell (by omega) (by simp <;> omega) c20_0
  clear c20_0
  have c21_0 : (((w.alloc (.cells #[.int .i64 0, .int .i64 0, .int .i64 0, .int .i64 0] 43)).alloc (.cells #[.int .i64 0, .int .i64 0, .int .i64 0, .int .i64 0] 43)).alloc (.cells #[.int .i64 0, .int .i64 0] 41)).cell? ⟨w.heap.size + 2, 1, none⟩ = some (.int .i64 0) := by go_simp; try omega
  have c21 := hdB.cell (by omega) (by simp <;> omega) c21_0
  clear c21_0
  have f0 : ∀ j, w3.frozen? ⟨w.heap.size, j, none⟩ = false := fun j => hdB.frozen (by omega) (by simp <;> omega) (by go_simp; try omega)
  have f1 : ∀ j, w3.frozen? ⟨w.heap.size + 1, j, none⟩ = false := fun j => hdB.frozen (by omega) (by simp <;> omega) (by go_simp; try omega)
  have f2 : ∀ j, w3.frozen? ⟨w.heap.size + 2, j, none⟩ = false := fun j => hdB.frozen (by omega) (by simp <;> omega) (by go_simp; try omega)
  have d0 : w3.cell? ⟨w2.heap.size, 0, none⟩ = some (.int .i64 p) := hd3.cell (by omega) (by simp) (by go_simp)
  have d1 : w3.cell? ⟨w2.heap.size, 1, none⟩ = some (.int .i64 q) := hd3.cell (by omega) (by simp) (by go_simp)
  have d2 : w3.cell? ⟨w2.heap.size, 2, none⟩ = some (.int .i64 r) := hd3.cell (by omega) (by simp) (by go_simp)
  have d3 : w3.cell? ⟨w2.heap.size, 3, none⟩ = some (.int .i64 s) := hd3.cell (by omega) (by simp) (by go_simp)
  have hne6 : w2.heap.size ≠ g := by have := hc2.lt; omega
  have hE : Ext w3 (w3.alloc (.cells #[.int .i64 p', .int .i64 q', .int .i64 r', .int .i64 s'] 43)) := ext_alloc (ext_refl _) _
  have hcW := (hc3.ext hE).ext (ext_drew (ext_refl _))
  have hEW : Ext w3 (w3.alloc (.cells #[.int .i64 p', .int .i64 q', .int .i64 r', .int .i64 s'] 43)).drew := ext_drew hE
  have c00W := ext_cell hEW c00
  have c01W := ext_cell hEW c01
  have c02W := ext_cell hEW c02
  have c03W := ext_cell hEW c03
  have c10W := ext_cell hEW c10
  have c11W := ext_cell hEW c11
  have c12W := ext_cell hEW c12
  have c13W := ext_cell hEW c13
  have c20W := ext_cell hEW c20
  have c21W := ext_cell hEW c21
  have d0W := ext_cell hEW d0
  have d1W := ext_cell hEW d1
  have d2W := ext_cell hEW d2
  have d3W := ext_cell hEW d3
  have e0W : (w3.alloc (.cells #[.int .i64 p', .int .i64 q', .int .i64 r', .int .i64 s'] 43)).drew.cell? ⟨w3.heap.size, 0, none⟩ = some (.int .i64 p') := by go_simp
  have e1W : (w3.alloc (.cells #[.int .i64 p', .int .i64 q', .int .i64 r', .int .i64 s'] 43)).drew.cell? ⟨w3.heap.size, 1, none⟩ = some (.int .i64 q') := by go_simp
  have e2W : (w3.alloc (.cells #[.int .i64 p', .int .i64 q', .int .i64 r', .int .i64 s'] 43)).drew.cell? ⟨w3.heap.size, 2, none⟩ = some (.int .i64 r') := by go_simp
  have e3W : (w3.alloc (.cells #[.int .i64 p', .int .i64 q', .int .i64 r', .int .i64 s'] 43)).drew.cell? ⟨w3.heap.size, 3, none⟩ = some (.int .i64 s') := by go_simp
  have f0W : ∀ j, (w3.alloc (.cells #[.int .i64 p', .int .i64 q', .int .i64 r', .int .i64 s'] 43)).drew.frozen? ⟨w.heap.size, j, none⟩ = false := fun j => by rw [hEW.frozen (p := ⟨w.heap.size, j, none⟩) (show _ < _ by show w.heap.size < w3.heap.size; omega)]; exact f0 j
  have f1W : ∀ j, (w3.alloc (.cells #[.int .i64 p', .int .i64 q', .int .i64 r', .int .i64 s'] 43)).drew.frozen? ⟨w.heap.size + 1, j, none⟩ = false := fun j => by rw [hEW.frozen (p := ⟨w.heap.size + 1, j, none⟩) (show _ < _ by show w.heap.size + 1 < w3.heap.size; omega)]; exact f1 j
  have f2W : ∀ j, (w3.alloc (.cells #[.int .i64 p', .int .i64 q', .int .i64 r', .int .i64 s'] 43)).drew.frozen? ⟨w.heap.size + 2, j, none⟩ = false := fun j => by rw [hEW.frozen (p := ⟨w.heap.size + 2, j, none⟩) (show _ < _ by show w.heap.size + 2 < w3.heap.size; omega)]; exact f2 j
  have hcg := hc3.lt
  have hWz : (w3.alloc (.cells #[.int .i64 p', .int .i64 q', .int .i64 r', .int .i64 s'] 43)).drew.heap.size = w3.heap.size + 1 := by simp
  have hdC : Drew g w (w3.alloc (.cells #[.int .i64 p', .int .i64 q', .int .i64 r', .int .i64 s'] 43)).drew := (Drew.ext E3).trans (hdB.trans (Drew.ext hEW))
  have HWZ := Lib.hid hWz
  have HCW := Lib.hid hcW
  have HDC := Lib.hid hdC
  have HS2 := Lib.hid hs2
  have HS3 := Lib.hid hs3
  clear hWz hcW hdC hs2 hs3
  go_wp2_with fail
  go_region_law (first
    | (go_simp
       go_at_call 65
       refine (l02Fraction_c g _ HCW.out).mono ?_
       rintro e w4 ⟨t, b, rfl, hs4, hc4, hd4⟩
       have hz4 := hd4.size
       rw [HWZ.out] at hz4
       have c00X := hd4.cell (by omega) (by rw [HWZ.out]; omega) c00W
       have c01X := hd4.cell (by omega) (by rw [HWZ.out]; omega) c01W
       have c02X := hd4.cell (by omega) (by rw [HWZ.out]; omega) c02W
       have c03X := hd4.cell (by omega) (by rw [HWZ.out]; omega) c03W
       have c10X := hd4.cell (by omega) (by rw [HWZ.out]; omega) c10W
       have c11X := hd4.cell (by omega) (by rw [HWZ.out]; omega) c11W
       have c12X := hd4.cell (by omega) (by rw [HWZ.out]; omega) c12W
       have c13X := hd4.cell (by omega) (by rw [HWZ.out]; omega) c13W
       have c20X := hd4.cell (by omega) (by rw [HWZ.out]; omega) c20W
       have c21X := hd4.cell (by omega) (by rw [HWZ.out]; omega) c21W
       have d0X := hd4.cell (by omega) (by rw [HWZ.out]; omega) d0W
       have d1X := hd4.cell (by omega) (by rw [HWZ.out]; omega) d1W
       have d2X := hd4.cell (by omega) (by rw [HWZ.out]; omega) d2W
       have d3X := hd4.cell (by omega) (by rw [HWZ.out]; omega) d3W
       have e0X := hd4.cell (by omega) (by rw [HWZ.out]; omega) e0W
       have e1X := hd4.cell (by omega) (by rw [HWZ.out]; omega) e1W
       have e2X := hd4.cell (by omega) (by rw [HWZ.out]; omega) e2W
       have e3X := hd4.cell (by omega) (by rw [HWZ.out]; omega) e3W
       have f0X := fun j => hd4.frozen (by omega) (by rw [HWZ.out]; omega) (f0W j)
       have f1X := fun j => hd4.frozen (by omega) (by rw [HWZ.out]; omega) (f1W j)
       have f2X := fun j => hd4.frozen (by omega) (by rw [HWZ.out]; omega) (f2W j)
       have HS4 := Lib.hid hs4
       clear hs4))
  all_goals
    go_wp2_with fail
    have hB := ((((((((((Below.refl w.heap.size w4).setCell (p := ⟨w.heap.size, 0, none⟩) (show w.heap.size ≤ w.heap.size by omega) (.int .i64 p)).setCell (p := ⟨w.heap.size, 1, none⟩) (show w.heap.size ≤ w.heap.size by omega) (.int .i64 q)).setCell (p := ⟨w.heap.size, 2, none⟩) (show w.heap.size ≤ w.heap.size by omega) (.int .i64 r)).setCell (p := ⟨w.heap.size, 3, none⟩) (show w.heap.size ≤ w.heap.size by omega) (.int .i64 s)).setCell (p := ⟨w.heap.size + 1, 0, none⟩) (show w.heap.size ≤ w.heap.size + 1 by omega) (.int .i64 p')).setCell (p := ⟨w.heap.size + 1, 1, none⟩) (show w.heap.size ≤ w.heap.size + 1 by omega) (.int .i64 q')).setCell (p := ⟨w.heap.size + 1, 2, none⟩) (show w.heap.size ≤ w.heap.size + 1 by omega) (.int .i64 r')).setCell (p := ⟨w.heap.size + 1, 3, none⟩) (show w.heap.size ≤ w.heap.size + 1 by omega) (.int .i64 s')).setCell (p := ⟨w.heap.size + 1 + 1, 0, none⟩) (show w.heap.size ≤ w.heap.size + 1 + 1 by omega) (.int .i64 t)).setCell (p := ⟨w.heap.size + 1 + 1, 1, none⟩) (show w.heap.size ≤ w.heap.size + 1 + 1 by omega) (.int .i64 b)
    have hEX : Ext w w4 := Drew.ext_of (HDC.out.trans hd4) (by omega)
    exact bodyPost_ret (v := .tuple #[lineV p q r s, lineV p' q' r' s', .agg #[.int .i64 t, .int .i64 b]]) (by simp [results, Try.results24, go_sem, c00X, c01X, c02X, c03X, c10X, c11X, c12X, c13X, c20X, c21X, f0X, f1X, f2X]) rfl ⟨p, q, r, s, p', q', r', s', t, b, rfl, HS2.out, HS3.out, HS4.out, Below.trans hEX hB⟩
end Go.Proofs.Ytefgdkjcoeikmaa
