/- The reference's line through two points: one way of the walk a theorem. No condition. -/
import Derived.Test.YtnafpciionmbbaaLine6
import Derived.Deep.RegionHeld3
import Derived.Deep.DeepCutAuto
namespace Go.Proofs.Ytnafpciionmbbaa
open Go.ChangeShapes Go.WideShapes Go.ChangeAt Go.RowKit
set_option linter.unusedVariables false
set_option linter.unusedSimpArgs false

theorem spec_Add_su (t1 b1 t2 b2 : Int) (w : World) :
    Calls Try.prog 123 #[.agg #[.int .i64 t1, .int .i64 b1], .agg #[.int .i64 (wrap64 (-t2)), .int .i64 b2]] w fun e w' => e = frac (suT t1 b1 t2 b2) (suB t1 b1 t2 b2) (suOk t1 b1 t2 b2) ∧ Ext w w' := spec_AddFractions t1 b1 (wrap64 (-t2)) b2 w
theorem su_valid {t1 b1 t2 b2 : Int} (h : suOk t1 b1 t2 b2 = true) : fracOk (suT t1 b1 t2 b2) (suB t1 b1 t2 b2) = true := add_valid h
set_option maxHeartbeats 6400000 in
theorem spec_LT_bad0 (a b c d e f g h : Int) (w : World) (h0 : fracOk a b = false) :
    Calls Try.prog 101 #[.agg #[.int .i64 a, .int .i64 b], .agg #[.int .i64 c, .int .i64 d], .agg #[.int .i64 e, .int .i64 f], .agg #[.int .i64 g, .int .i64 h]] w fun en w' => en = lineR 0 0 0 0 false ∧ Ext w w' := by
  go_enter Try.func101, Try.ntmps101
  go_wp2_with fail
  refine (spec_FractionOk _ _ _).mono ?_
  rintro en w1 ⟨rfl, hx1⟩
  have y1 : w.heap.size < w1.heap.size := by have := hx1.size; simp at this; omega
  have k2 := ext_cell hx1 (b := w.heap.size) (off := 0) (v := .int .i64 (a)) (by go_simp)
  have k3 := ext_cell hx1 (b := w.heap.size) (off := 1) (v := .int .i64 (b)) (by go_simp)
  have y4 : w.heap.size + 1 < w1.heap.size := by have := hx1.size; simp at this; omega
  have k5 := ext_cell hx1 (b := w.heap.size + 1) (off := 0) (v := .int .i64 (c)) (by go_simp)
  have k6 := ext_cell hx1 (b := w.heap.size + 1) (off := 1) (v := .int .i64 (d)) (by go_simp)
  have y7 : w.heap.size + 1 + 1 < w1.heap.size := by have := hx1.size; simp at this; omega
  have k8 := ext_cell hx1 (b := w.heap.size + 1 + 1) (off := 0) (v := .int .i64 (e)) (by go_simp)
  have k9 := ext_cell hx1 (b := w.heap.size + 1 + 1) (off := 1) (v := .int .i64 (f)) (by go_simp)
  have y10 : w.heap.size + 1 + 1 + 1 < w1.heap.size := by have := hx1.size; simp at this; omega
  have k11 := ext_cell hx1 (b := w.heap.size + 1 + 1 + 1) (off := 0) (v := .int .i64 (g)) (by go_simp)
  have k12 := ext_cell hx1 (b := w.heap.size + 1 + 1 + 1) (off := 1) (v := .int .i64 (h)) (by go_simp)
  have y13 : w.heap.size + 1 + 1 + 1 + 1 < w1.heap.size := by have := hx1.size; simp at this; omega
  have k14 := ext_cell hx1 (b := w.heap.size + 1 + 1 + 1 + 1) (off := 0) (v := .int .i64 (0)) (by go_simp)
  have k15 := ext_cell hx1 (b := w.heap.size + 1 + 1 + 1 + 1) (off := 1) (v := .int .i64 (0)) (by go_simp)
  have k16 := ext_cell hx1 (b := w.heap.size + 1 + 1 + 1 + 1) (off := 2) (v := .int .i64 (0)) (by go_simp)
  have k17 := ext_cell hx1 (b := w.heap.size + 1 + 1 + 1 + 1) (off := 3) (v := .int .i64 (0)) (by go_simp)
  have f18 : w1.frozen? ⟨w.heap.size + 1 + 1 + 1 + 1, 0, none⟩ = false := by rw [hx1.frozen (p := ⟨w.heap.size + 1 + 1 + 1 + 1, 0, none⟩) (by simp; try omega)]; go_simp
  have f19 : w1.frozen? ⟨w.heap.size + 1 + 1 + 1 + 1, 1, none⟩ = false := by rw [hx1.frozen (p := ⟨w.heap.size + 1 + 1 + 1 + 1, 1, none⟩) (by simp; try omega)]; go_simp
  have f20 : w1.frozen? ⟨w.heap.size + 1 + 1 + 1 + 1, 2, none⟩ = false := by rw [hx1.frozen (p := ⟨w.heap.size + 1 + 1 + 1 + 1, 2, none⟩) (by simp; try omega)]; go_simp
  have f21 : w1.frozen? ⟨w.heap.size + 1 + 1 + 1 + 1, 3, none⟩ = false := by rw [hx1.frozen (p := ⟨w.heap.size + 1 + 1 + 1 + 1, 3, none⟩) (by simp; try omega)]; go_simp
  go_wp2_with fail
  exact bodyPost_ret (v := .tuple #[lineV (0) (0) (0) (0), .bool false]) (by simp [results, Try.results101, go_sem, k14, k15, k16, k17]) rfl ⟨rfl, (by repeat (first | (with_reducible exact ext_refl _) | (with_reducible refine ext_setCell ?_ ?_ _) | (with_reducible refine ext_alloc ?_ _) | (with_reducible refine ext_drewN ?_ _) | (with_reducible refine ext_drew ?_) | (with_reducible refine ext_trans ?_ (by assumption)) | (dsimp only; omega) | omega | (simp; omega)))⟩
set_option maxHeartbeats 6400000 in
theorem spec_LT_bad1 (a b c d e f g h : Int) (w : World) (h0 : fracOk a b = true) (h1 : fracOk c d = false) :
    Calls Try.prog 101 #[.agg #[.int .i64 a, .int .i64 b], .agg #[.int .i64 c, .int .i64 d], .agg #[.int .i64 e, .int .i64 f], .agg #[.int .i64 g, .int .i64 h]] w fun en w' => en = lineR 0 0 0 0 false ∧ Ext w w' := by
  go_enter Try.func101, Try.ntmps101
  go_wp2_with fail
  refine (spec_FractionOk _ _ _).mono ?_
  rintro en w1 ⟨rfl, hx1⟩
  have y1 : w.heap.size < w1.heap.size := by have := hx1.size; simp at this; omega
  have k2 := ext_cell hx1 (b := w.heap.size) (off := 0) (v := .int .i64 (a)) (by go_simp)
  have k3 := ext_cell hx1 (b := w.heap.size) (off := 1) (v := .int .i64 (b)) (by go_simp)
  have y4 : w.heap.size + 1 < w1.heap.size := by have := hx1.size; simp at this; omega
  have k5 := ext_cell hx1 (b := w.heap.size + 1) (off := 0) (v := .int .i64 (c)) (by go_simp)
  have k6 := ext_cell hx1 (b := w.heap.size + 1) (off := 1) (v := .int .i64 (d)) (by go_simp)
  have y7 : w.heap.size + 1 + 1 < w1.heap.size := by have := hx1.size; simp at this; omega
  have k8 := ext_cell hx1 (b := w.heap.size + 1 + 1) (off := 0) (v := .int .i64 (e)) (by go_simp)
  have k9 := ext_cell hx1 (b := w.heap.size + 1 + 1) (off := 1) (v := .int .i64 (f)) (by go_simp)
  have y10 : w.heap.size + 1 + 1 + 1 < w1.heap.size := by have := hx1.size; simp at this; omega
  have k11 := ext_cell hx1 (b := w.heap.size + 1 + 1 + 1) (off := 0) (v := .int .i64 (g)) (by go_simp)
  have k12 := ext_cell hx1 (b := w.heap.size + 1 + 1 + 1) (off := 1) (v := .int .i64 (h)) (by go_simp)
  have y13 : w.heap.size + 1 + 1 + 1 + 1 < w1.heap.size := by have := hx1.size; simp at this; omega
  have k14 := ext_cell hx1 (b := w.heap.size + 1 + 1 + 1 + 1) (off := 0) (v := .int .i64 (0)) (by go_simp)
  have k15 := ext_cell hx1 (b := w.heap.size + 1 + 1 + 1 + 1) (off := 1) (v := .int .i64 (0)) (by go_simp)
  have k16 := ext_cell hx1 (b := w.heap.size + 1 + 1 + 1 + 1) (off := 2) (v := .int .i64 (0)) (by go_simp)
  have k17 := ext_cell hx1 (b := w.heap.size + 1 + 1 + 1 + 1) (off := 3) (v := .int .i64 (0)) (by go_simp)
  have f18 : w1.frozen? ⟨w.heap.size + 1 + 1 + 1 + 1, 0, none⟩ = false := by rw [hx1.frozen (p := ⟨w.heap.size + 1 + 1 + 1 + 1, 0, none⟩) (by simp; try omega)]; go_simp
  have f19 : w1.frozen? ⟨w.heap.size + 1 + 1 + 1 + 1, 1, none⟩ = false := by rw [hx1.frozen (p := ⟨w.heap.size + 1 + 1 + 1 + 1, 1, none⟩) (by simp; try omega)]; go_simp
  have f20 : w1.frozen? ⟨w.heap.size + 1 + 1 + 1 + 1, 2, none⟩ = false := by rw [hx1.frozen (p := ⟨w.heap.size + 1 + 1 + 1 + 1, 2, none⟩) (by simp; try omega)]; go_simp
  have f21 : w1.frozen? ⟨w.heap.size + 1 + 1 + 1 + 1, 3, none⟩ = false := by rw [hx1.frozen (p := ⟨w.heap.size + 1 + 1 + 1 + 1, 3, none⟩) (by simp; try omega)]; go_simp
  go_wp2_with fail
  refine (spec_FractionOk _ _ _).mono ?_
  rintro en w2 ⟨rfl, hx2⟩
  have q22 : Ext w1 w2 := hx2
  have y23 : w.heap.size < w2.heap.size := Nat.lt_of_lt_of_le y1 q22.size
  have y24 : w.heap.size + 1 < w2.heap.size := Nat.lt_of_lt_of_le y4 q22.size
  have y25 : w.heap.size + 1 + 1 < w2.heap.size := Nat.lt_of_lt_of_le y7 q22.size
  have y26 : w.heap.size + 1 + 1 + 1 < w2.heap.size := Nat.lt_of_lt_of_le y10 q22.size
  have y27 : w.heap.size + 1 + 1 + 1 + 1 < w2.heap.size := Nat.lt_of_lt_of_le y13 q22.size
  have k28 := ext_cell q22 k2
  have k29 := ext_cell q22 k3
  have k30 := ext_cell q22 k5
  have k31 := ext_cell q22 k6
  have k32 := ext_cell q22 k8
  have k33 := ext_cell q22 k9
  have k34 := ext_cell q22 k11
  have k35 := ext_cell q22 k12
  have k36 := ext_cell q22 k14
  have k37 := ext_cell q22 k15
  have k38 := ext_cell q22 k16
  have k39 := ext_cell q22 k17
  have f40 : w2.frozen? ⟨w.heap.size + 1 + 1 + 1 + 1, 0, none⟩ = false := (q22.frozen (p := ⟨w.heap.size + 1 + 1 + 1 + 1, 0, none⟩) y13).trans f18
  have f41 : w2.frozen? ⟨w.heap.size + 1 + 1 + 1 + 1, 1, none⟩ = false := (q22.frozen (p := ⟨w.heap.size + 1 + 1 + 1 + 1, 1, none⟩) y13).trans f19
  have f42 : w2.frozen? ⟨w.heap.size + 1 + 1 + 1 + 1, 2, none⟩ = false := (q22.frozen (p := ⟨w.heap.size + 1 + 1 + 1 + 1, 2, none⟩) y13).trans f20
  have f43 : w2.frozen? ⟨w.heap.size + 1 + 1 + 1 + 1, 3, none⟩ = false := (q22.frozen (p := ⟨w.heap.size + 1 + 1 + 1 + 1, 3, none⟩) y13).trans f21
  clear k2 k3 k5 k6 k8 k9 k11 k12 k14 k15 k16 k17 y1 y4 y7 y10 y13 f18 f19 f20 f21
  go_wp2_with fail
  exact bodyPost_ret (v := .tuple #[lineV (0) (0) (0) (0), .bool false]) (by simp [results, Try.results101, go_sem, k36, k37, k38, k39]) rfl ⟨rfl, (by repeat (first | (with_reducible exact ext_refl _) | (with_reducible refine ext_setCell ?_ ?_ _) | (with_reducible refine ext_alloc ?_ _) | (with_reducible refine ext_drewN ?_ _) | (with_reducible refine ext_drew ?_) | (with_reducible refine ext_trans ?_ (by assumption)) | (dsimp only; omega) | omega | (simp; omega)))⟩
set_option maxHeartbeats 6400000 in
theorem spec_LT_bad2 (a b c d e f g h : Int) (w : World) (h0 : fracOk a b = true) (h1 : fracOk c d = true) (h2 : fracOk e f = false) :
    Calls Try.prog 101 #[.agg #[.int .i64 a, .int .i64 b], .agg #[.int .i64 c, .int .i64 d], .agg #[.int .i64 e, .int .i64 f], .agg #[.int .i64 g, .int .i64 h]] w fun en w' => en = lineR 0 0 0 0 false ∧ Ext w w' := by
  go_enter Try.func101, Try.ntmps101
  go_wp2_with fail
  refine (spec_FractionOk _ _ _).mono ?_
  rintro en w1 ⟨rfl, hx1⟩
  have y1 : w.heap.size < w1.heap.size := by have := hx1.size; simp at this; omega
  have k2 := ext_cell hx1 (b := w.heap.size) (off := 0) (v := .int .i64 (a)) (by go_simp)
  have k3 := ext_cell hx1 (b := w.heap.size) (off := 1) (v := .int .i64 (b)) (by go_simp)
  have y4 : w.heap.size + 1 < w1.heap.size := by have := hx1.size; simp at this; omega
  have k5 := ext_cell hx1 (b := w.heap.size + 1) (off := 0) (v := .int .i64 (c)) (by go_simp)
  have k6 := ext_cell hx1 (b := w.heap.size + 1) (off := 1) (v := .int .i64 (d)) (by go_simp)
  have y7 : w.heap.size + 1 + 1 < w1.heap.size := by have := hx1.size; simp at this; omega
  have k8 := ext_cell hx1 (b := w.heap.size + 1 + 1) (off := 0) (v := .int .i64 (e)) (by go_simp)
  have k9 := ext_cell hx1 (b := w.heap.size + 1 + 1) (off := 1) (v := .int .i64 (f)) (by go_simp)
  have y10 : w.heap.size + 1 + 1 + 1 < w1.heap.size := by have := hx1.size; simp at this; omega
  have k11 := ext_cell hx1 (b := w.heap.size + 1 + 1 + 1) (off := 0) (v := .int .i64 (g)) (by go_simp)
  have k12 := ext_cell hx1 (b := w.heap.size + 1 + 1 + 1) (off := 1) (v := .int .i64 (h)) (by go_simp)
  have y13 : w.heap.size + 1 + 1 + 1 + 1 < w1.heap.size := by have := hx1.size; simp at this; omega
  have k14 := ext_cell hx1 (b := w.heap.size + 1 + 1 + 1 + 1) (off := 0) (v := .int .i64 (0)) (by go_simp)
  have k15 := ext_cell hx1 (b := w.heap.size + 1 + 1 + 1 + 1) (off := 1) (v := .int .i64 (0)) (by go_simp)
  have k16 := ext_cell hx1 (b := w.heap.size + 1 + 1 + 1 + 1) (off := 2) (v := .int .i64 (0)) (by go_simp)
  have k17 := ext_cell hx1 (b := w.heap.size + 1 + 1 + 1 + 1) (off := 3) (v := .int .i64 (0)) (by go_simp)
  have f18 : w1.frozen? ⟨w.heap.size + 1 + 1 + 1 + 1, 0, none⟩ = false := by rw [hx1.frozen (p := ⟨w.heap.size + 1 + 1 + 1 + 1, 0, none⟩) (by simp; try omega)]; go_simp
  have f19 : w1.frozen? ⟨w.heap.size + 1 + 1 + 1 + 1, 1, none⟩ = false := by rw [hx1.frozen (p := ⟨w.heap.size + 1 + 1 + 1 + 1, 1, none⟩) (by simp; try omega)]; go_simp
  have f20 : w1.frozen? ⟨w.heap.size + 1 + 1 + 1 + 1, 2, none⟩ = false := by rw [hx1.frozen (p := ⟨w.heap.size + 1 + 1 + 1 + 1, 2, none⟩) (by simp; try omega)]; go_simp
  have f21 : w1.frozen? ⟨w.heap.size + 1 + 1 + 1 + 1, 3, none⟩ = false := by rw [hx1.frozen (p := ⟨w.heap.size + 1 + 1 + 1 + 1, 3, none⟩) (by simp; try omega)]; go_simp
  go_wp2_with fail
  refine (spec_FractionOk _ _ _).mono ?_
  rintro en w2 ⟨rfl, hx2⟩
  have q22 : Ext w1 w2 := hx2
  have y23 : w.heap.size < w2.heap.size := Nat.lt_of_lt_of_le y1 q22.size
  have y24 : w.heap.size + 1 < w2.heap.size := Nat.lt_of_lt_of_le y4 q22.size
  have y25 : w.heap.size + 1 + 1 < w2.heap.size := Nat.lt_of_lt_of_le y7 q22.size
  have y26 : w.heap.size + 1 + 1 + 1 < w2.heap.size := Nat.lt_of_lt_of_le y10 q22.size
  have y27 : w.heap.size + 1 + 1 + 1 + 1 < w2.heap.size := Nat.lt_of_lt_of_le y13 q22.size
  have k28 := ext_cell q22 k2
  have k29 := ext_cell q22 k3
  have k30 := ext_cell q22 k5
  have k31 := ext_cell q22 k6
  have k32 := ext_cell q22 k8
  have k33 := ext_cell q22 k9
  have k34 := ext_cell q22 k11
  have k35 := ext_cell q22 k12
  have k36 := ext_cell q22 k14
  have k37 := ext_cell q22 k15
  have k38 := ext_cell q22 k16
  have k39 := ext_cell q22 k17
  have f40 : w2.frozen? ⟨w.heap.size + 1 + 1 + 1 + 1, 0, none⟩ = false := (q22.frozen (p := ⟨w.heap.size + 1 + 1 + 1 + 1, 0, none⟩) y13).trans f18
  have f41 : w2.frozen? ⟨w.heap.size + 1 + 1 + 1 + 1, 1, none⟩ = false := (q22.frozen (p := ⟨w.heap.size + 1 + 1 + 1 + 1, 1, none⟩) y13).trans f19
  have f42 : w2.frozen? ⟨w.heap.size + 1 + 1 + 1 + 1, 2, none⟩ = false := (q22.frozen (p := ⟨w.heap.size + 1 + 1 + 1 + 1, 2, none⟩) y13).trans f20
  have f43 : w2.frozen? ⟨w.heap.size + 1 + 1 + 1 + 1, 3, none⟩ = false := (q22.frozen (p := ⟨w.heap.size + 1 + 1 + 1 + 1, 3, none⟩) y13).trans f21
  clear k2 k3 k5 k6 k8 k9 k11 k12 k14 k15 k16 k17 y1 y4 y7 y10 y13 f18 f19 f20 f21
  go_wp2_with fail
  refine (spec_FractionOk _ _ _).mono ?_
  rintro en w3 ⟨rfl, hx3⟩
  have q44 : Ext w2 w3 := hx3
  have y45 : w.heap.size < w3.heap.size := Nat.lt_of_lt_of_le y23 q44.size
  have y46 : w.heap.size + 1 < w3.heap.size := Nat.lt_of_lt_of_le y24 q44.size
  have y47 : w.heap.size + 1 + 1 < w3.heap.size := Nat.lt_of_lt_of_le y25 q44.size
  have y48 : w.heap.size + 1 + 1 + 1 < w3.heap.size := Nat.lt_of_lt_of_le y26 q44.size
  have y49 : w.heap.size + 1 + 1 + 1 + 1 < w3.heap.size := Nat.lt_of_lt_of_le y27 q44.size
  have k50 := ext_cell q44 k28
  have k51 := ext_cell q44 k29
  have k52 := ext_cell q44 k30
  have k53 := ext_cell q44 k31
  have k54 := ext_cell q44 k32
  have k55 := ext_cell q44 k33
  have k56 := ext_cell q44 k34
  have k57 := ext_cell q44 k35
  have k58 := ext_cell q44 k36
  have k59 := ext_cell q44 k37
  have k60 := ext_cell q44 k38
  have k61 := ext_cell q44 k39
  have f62 : w3.frozen? ⟨w.heap.size + 1 + 1 + 1 + 1, 0, none⟩ = false := (q44.frozen (p := ⟨w.heap.size + 1 + 1 + 1 + 1, 0, none⟩) y27).trans f40
  have f63 : w3.frozen? ⟨w.heap.size + 1 + 1 + 1 + 1, 1, none⟩ = false := (q44.frozen (p := ⟨w.heap.size + 1 + 1 + 1 + 1, 1, none⟩) y27).trans f41
  have f64 : w3.frozen? ⟨w.heap.size + 1 + 1 + 1 + 1, 2, none⟩ = false := (q44.frozen (p := ⟨w.heap.size + 1 + 1 + 1 + 1, 2, none⟩) y27).trans f42
  have f65 : w3.frozen? ⟨w.heap.size + 1 + 1 + 1 + 1, 3, none⟩ = false := (q44.frozen (p := ⟨w.heap.size + 1 + 1 + 1 + 1, 3, none⟩) y27).trans f43
  clear k28 k29 k30 k31 k32 k33 k34 k35 k36 k37 k38 k39 y23 y24 y25 y26 y27 f40 f41 f42 f43
  go_wp2_with fail
  exact bodyPost_ret (v := .tuple #[lineV (0) (0) (0) (0), .bool false]) (by simp [results, Try.results101, go_sem, k58, k59, k60, k61]) rfl ⟨rfl, (by repeat (first | (with_reducible exact ext_refl _) | (with_reducible refine ext_setCell ?_ ?_ _) | (with_reducible refine ext_alloc ?_ _) | (with_reducible refine ext_drewN ?_ _) | (with_reducible refine ext_drew ?_) | (with_reducible refine ext_trans ?_ (by assumption)) | (dsimp only; omega) | omega | (simp; omega)))⟩
set_option maxHeartbeats 6400000 in
theorem spec_LT_bad3 (a b c d e f g h : Int) (w : World) (h0 : fracOk a b = true) (h1 : fracOk c d = true) (h2 : fracOk e f = true) (h3 : fracOk g h = false) :
    Calls Try.prog 101 #[.agg #[.int .i64 a, .int .i64 b], .agg #[.int .i64 c, .int .i64 d], .agg #[.int .i64 e, .int .i64 f], .agg #[.int .i64 g, .int .i64 h]] w fun en w' => en = lineR 0 0 0 0 false ∧ Ext w w' := by
  go_enter Try.func101, Try.ntmps101
  go_wp2_with fail
  refine (spec_FractionOk _ _ _).mono ?_
  rintro en w1 ⟨rfl, hx1⟩
  have y1 : w.heap.size < w1.heap.size := by have := hx1.size; simp at this; omega
  have k2 := ext_cell hx1 (b := w.heap.size) (off := 0) (v := .int .i64 (a)) (by go_simp)
  have k3 := ext_cell hx1 (b := w.heap.size) (off := 1) (v := .int .i64 (b)) (by go_simp)
  have y4 : w.heap.size + 1 < w1.heap.size := by have := hx1.size; simp at this; omega
  have k5 := ext_cell hx1 (b := w.heap.size + 1) (off := 0) (v := .int .i64 (c)) (by go_simp)
  have k6 := ext_cell hx1 (b := w.heap.size + 1) (off := 1) (v := .int .i64 (d)) (by go_simp)
  have y7 : w.heap.size + 1 + 1 < w1.heap.size := by have := hx1.size; simp at this; omega
  have k8 := ext_cell hx1 (b := w.heap.size + 1 + 1) (off := 0) (v := .int .i64 (e)) (by go_simp)
  have k9 := ext_cell hx1 (b := w.heap.size + 1 + 1) (off := 1) (v := .int .i64 (f)) (by go_simp)
  have y10 : w.heap.size + 1 + 1 + 1 < w1.heap.size := by have := hx1.size; simp at this; omega
  have k11 := ext_cell hx1 (b := w.heap.size + 1 + 1 + 1) (off := 0) (v := .int .i64 (g)) (by go_simp)
  have k12 := ext_cell hx1 (b := w.heap.size + 1 + 1 + 1) (off := 1) (v := .int .i64 (h)) (by go_simp)
  have y13 : w.heap.size + 1 + 1 + 1 + 1 < w1.heap.size := by have := hx1.size; simp at this; omega
  have k14 := ext_cell hx1 (b := w.heap.size + 1 + 1 + 1 + 1) (off := 0) (v := .int .i64 (0)) (by go_simp)
  have k15 := ext_cell hx1 (b := w.heap.size + 1 + 1 + 1 + 1) (off := 1) (v := .int .i64 (0)) (by go_simp)
  have k16 := ext_cell hx1 (b := w.heap.size + 1 + 1 + 1 + 1) (off := 2) (v := .int .i64 (0)) (by go_simp)
  have k17 := ext_cell hx1 (b := w.heap.size + 1 + 1 + 1 + 1) (off := 3) (v := .int .i64 (0)) (by go_simp)
  have f18 : w1.frozen? ⟨w.heap.size + 1 + 1 + 1 + 1, 0, none⟩ = false := by rw [hx1.frozen (p := ⟨w.heap.size + 1 + 1 + 1 + 1, 0, none⟩) (by simp; try omega)]; go_simp
  have f19 : w1.frozen? ⟨w.heap.size + 1 + 1 + 1 + 1, 1, none⟩ = false := by rw [hx1.frozen (p := ⟨w.heap.size + 1 + 1 + 1 + 1, 1, none⟩) (by simp; try omega)]; go_simp
  have f20 : w1.frozen? ⟨w.heap.size + 1 + 1 + 1 + 1, 2, none⟩ = false := by rw [hx1.frozen (p := ⟨w.heap.size + 1 + 1 + 1 + 1, 2, none⟩) (by simp; try omega)]; go_simp
  have f21 : w1.frozen? ⟨w.heap.size + 1 + 1 + 1 + 1, 3, none⟩ = false := by rw [hx1.frozen (p := ⟨w.heap.size + 1 + 1 + 1 + 1, 3, none⟩) (by simp; try omega)]; go_simp
  go_wp2_with fail
  refine (spec_FractionOk _ _ _).mono ?_
  rintro en w2 ⟨rfl, hx2⟩
  have q22 : Ext w1 w2 := hx2
  have y23 : w.heap.size < w2.heap.size := Nat.lt_of_lt_of_le y1 q22.size
  have y24 : w.heap.size + 1 < w2.heap.size := Nat.lt_of_lt_of_le y4 q22.size
  have y25 : w.heap.size + 1 + 1 < w2.heap.size := Nat.lt_of_lt_of_le y7 q22.size
  have y26 : w.heap.size + 1 + 1 + 1 < w2.heap.size := Nat.lt_of_lt_of_le y10 q22.size
  have y27 : w.heap.size + 1 + 1 + 1 + 1 < w2.heap.size := Nat.lt_of_lt_of_le y13 q22.size
  have k28 := ext_cell q22 k2
  have k29 := ext_cell q22 k3
  have k30 := ext_cell q22 k5
  have k31 := ext_cell q22 k6
  have k32 := ext_cell q22 k8
  have k33 := ext_cell q22 k9
  have k34 := ext_cell q22 k11
  have k35 := ext_cell q22 k12
  have k36 := ext_cell q22 k14
  have k37 := ext_cell q22 k15
  have k38 := ext_cell q22 k16
  have k39 := ext_cell q22 k17
  have f40 : w2.frozen? ⟨w.heap.size + 1 + 1 + 1 + 1, 0, none⟩ = false := (q22.frozen (p := ⟨w.heap.size + 1 + 1 + 1 + 1, 0, none⟩) y13).trans f18
  have f41 : w2.frozen? ⟨w.heap.size + 1 + 1 + 1 + 1, 1, none⟩ = false := (q22.frozen (p := ⟨w.heap.size + 1 + 1 + 1 + 1, 1, none⟩) y13).trans f19
  have f42 : w2.frozen? ⟨w.heap.size + 1 + 1 + 1 + 1, 2, none⟩ = false := (q22.frozen (p := ⟨w.heap.size + 1 + 1 + 1 + 1, 2, none⟩) y13).trans f20
  have f43 : w2.frozen? ⟨w.heap.size + 1 + 1 + 1 + 1, 3, none⟩ = false := (q22.frozen (p := ⟨w.heap.size + 1 + 1 + 1 + 1, 3, none⟩) y13).trans f21
  clear k2 k3 k5 k6 k8 k9 k11 k12 k14 k15 k16 k17 y1 y4 y7 y10 y13 f18 f19 f20 f21
  go_wp2_with fail
  refine (spec_FractionOk _ _ _).mono ?_
  rintro en w3 ⟨rfl, hx3⟩
  have q44 : Ext w2 w3 := hx3
  have y45 : w.heap.size < w3.heap.size := Nat.lt_of_lt_of_le y23 q44.size
  have y46 : w.heap.size + 1 < w3.heap.size := Nat.lt_of_lt_of_le y24 q44.size
  have y47 : w.heap.size + 1 + 1 < w3.heap.size := Nat.lt_of_lt_of_le y25 q44.size
  have y48 : w.heap.size + 1 + 1 + 1 < w3.heap.size := Nat.lt_of_lt_of_le y26 q44.size
  have y49 : w.heap.size + 1 + 1 + 1 + 1 < w3.heap.size := Nat.lt_of_lt_of_le y27 q44.size
  have k50 := ext_cell q44 k28
  have k51 := ext_cell q44 k29
  have k52 := ext_cell q44 k30
  have k53 := ext_cell q44 k31
  have k54 := ext_cell q44 k32
  have k55 := ext_cell q44 k33
  have k56 := ext_cell q44 k34
  have k57 := ext_cell q44 k35
  have k58 := ext_cell q44 k36
  have k59 := ext_cell q44 k37
  have k60 := ext_cell q44 k38
  have k61 := ext_cell q44 k39
  have f62 : w3.frozen? ⟨w.heap.size + 1 + 1 + 1 + 1, 0, none⟩ = false := (q44.frozen (p := ⟨w.heap.size + 1 + 1 + 1 + 1, 0, none⟩) y27).trans f40
  have f63 : w3.frozen? ⟨w.heap.size + 1 + 1 + 1 + 1, 1, none⟩ = false := (q44.frozen (p := ⟨w.heap.size + 1 + 1 + 1 + 1, 1, none⟩) y27).trans f41
  have f64 : w3.frozen? ⟨w.heap.size + 1 + 1 + 1 + 1, 2, none⟩ = false := (q44.frozen (p := ⟨w.heap.size + 1 + 1 + 1 + 1, 2, none⟩) y27).trans f42
  have f65 : w3.frozen? ⟨w.heap.size + 1 + 1 + 1 + 1, 3, none⟩ = false := (q44.frozen (p := ⟨w.heap.size + 1 + 1 + 1 + 1, 3, none⟩) y27).trans f43
  clear k28 k29 k30 k31 k32 k33 k34 k35 k36 k37 k38 k39 y23 y24 y25 y26 y27 f40 f41 f42 f43
  go_wp2_with fail
  refine (spec_FractionOk _ _ _).mono ?_
  rintro en w4 ⟨rfl, hx4⟩
  have q66 : Ext w3 w4 := hx4
  have y67 : w.heap.size < w4.heap.size := Nat.lt_of_lt_of_le y45 q66.size
  have y68 : w.heap.size + 1 < w4.heap.size := Nat.lt_of_lt_of_le y46 q66.size
  have y69 : w.heap.size + 1 + 1 < w4.heap.size := Nat.lt_of_lt_of_le y47 q66.size
  have y70 : w.heap.size + 1 + 1 + 1 < w4.heap.size := Nat.lt_of_lt_of_le y48 q66.size
  have y71 : w.heap.size + 1 + 1 + 1 + 1 < w4.heap.size := Nat.lt_of_lt_of_le y49 q66.size
  have k72 := ext_cell q66 k50
  have k73 := ext_cell q66 k51
  have k74 := ext_cell q66 k52
  have k75 := ext_cell q66 k53
  have k76 := ext_cell q66 k54
  have k77 := ext_cell q66 k55
  have k78 := ext_cell q66 k56
  have k79 := ext_cell q66 k57
  have k80 := ext_cell q66 k58
  have k81 := ext_cell q66 k59
  have k82 := ext_cell q66 k60
  have k83 := ext_cell q66 k61
  have f84 : w4.frozen? ⟨w.heap.size + 1 + 1 + 1 + 1, 0, none⟩ = false := (q66.frozen (p := ⟨w.heap.size + 1 + 1 + 1 + 1, 0, none⟩) y49).trans f62
  have f85 : w4.frozen? ⟨w.heap.size + 1 + 1 + 1 + 1, 1, none⟩ = false := (q66.frozen (p := ⟨w.heap.size + 1 + 1 + 1 + 1, 1, none⟩) y49).trans f63
  have f86 : w4.frozen? ⟨w.heap.size + 1 + 1 + 1 + 1, 2, none⟩ = false := (q66.frozen (p := ⟨w.heap.size + 1 + 1 + 1 + 1, 2, none⟩) y49).trans f64
  have f87 : w4.frozen? ⟨w.heap.size + 1 + 1 + 1 + 1, 3, none⟩ = false := (q66.frozen (p := ⟨w.heap.size + 1 + 1 + 1 + 1, 3, none⟩) y49).trans f65
  clear k50 k51 k52 k53 k54 k55 k56 k57 k58 k59 k60 k61 y45 y46 y47 y48 y49 f62 f63 f64 f65
  go_wp2_with fail
  exact bodyPost_ret (v := .tuple #[lineV (0) (0) (0) (0), .bool false]) (by simp [results, Try.results101, go_sem, k80, k81, k82, k83]) rfl ⟨rfl, (by repeat (first | (with_reducible exact ext_refl _) | (with_reducible refine ext_setCell ?_ ?_ _) | (with_reducible refine ext_alloc ?_ _) | (with_reducible refine ext_drewN ?_ _) | (with_reducible refine ext_drew ?_) | (with_reducible refine ext_trans ?_ (by assumption)) | (dsimp only; omega) | omega | (simp; omega)))⟩
set_option maxHeartbeats 6400000 in
theorem spec_LT_same (a b c d g h : Int) (w : World) (h0 : fracOk a b = true) (h1 : fracOk c d = true) (h3 : fracOk g h = true) :
    Calls Try.prog 101 #[.agg #[.int .i64 a, .int .i64 b], .agg #[.int .i64 c, .int .i64 d], .agg #[.int .i64 a, .int .i64 b], .agg #[.int .i64 g, .int .i64 h]] w fun en w' => en = lineR 0 0 0 0 false ∧ Ext w w' := by
  go_enter Try.func101, Try.ntmps101
  go_wp2_with fail
  refine (spec_FractionOk _ _ _).mono ?_
  rintro en w1 ⟨rfl, hx1⟩
  have y1 : w.heap.size < w1.heap.size := by have := hx1.size; simp at this; omega
  have k2 := ext_cell hx1 (b := w.heap.size) (off := 0) (v := .int .i64 (a)) (by go_simp)
  have k3 := ext_cell hx1 (b := w.heap.size) (off := 1) (v := .int .i64 (b)) (by go_simp)
  have y4 : w.heap.size + 1 < w1.heap.size := by have := hx1.size; simp at this; omega
  have k5 := ext_cell hx1 (b := w.heap.size + 1) (off := 0) (v := .int .i64 (c)) (by go_simp)
  have k6 := ext_cell hx1 (b := w.heap.size + 1) (off := 1) (v := .int .i64 (d)) (by go_simp)
  have y7 : w.heap.size + 1 + 1 < w1.heap.size := by have := hx1.size; simp at this; omega
  have k8 := ext_cell hx1 (b := w.heap.size + 1 + 1) (off := 0) (v := .int .i64 (a)) (by go_simp)
  have k9 := ext_cell hx1 (b := w.heap.size + 1 + 1) (off := 1) (v := .int .i64 (b)) (by go_simp)
  have y10 : w.heap.size + 1 + 1 + 1 < w1.heap.size := by have := hx1.size; simp at this; omega
  have k11 := ext_cell hx1 (b := w.heap.size + 1 + 1 + 1) (off := 0) (v := .int .i64 (g)) (by go_simp)
  have k12 := ext_cell hx1 (b := w.heap.size + 1 + 1 + 1) (off := 1) (v := .int .i64 (h)) (by go_simp)
  have y13 : w.heap.size + 1 + 1 + 1 + 1 < w1.heap.size := by have := hx1.size; simp at this; omega
  have k14 := ext_cell hx1 (b := w.heap.size + 1 + 1 + 1 + 1) (off := 0) (v := .int .i64 (0)) (by go_simp)
  have k15 := ext_cell hx1 (b := w.heap.size + 1 + 1 + 1 + 1) (off := 1) (v := .int .i64 (0)) (by go_simp)
  have k16 := ext_cell hx1 (b := w.heap.size + 1 + 1 + 1 + 1) (off := 2) (v := .int .i64 (0)) (by go_simp)
  have k17 := ext_cell hx1 (b := w.heap.size + 1 + 1 + 1 + 1) (off := 3) (v := .int .i64 (0)) (by go_simp)
  have f18 : w1.frozen? ⟨w.heap.size + 1 + 1 + 1 + 1, 0, none⟩ = false := by rw [hx1.frozen (p := ⟨w.heap.size + 1 + 1 + 1 + 1, 0, none⟩) (by simp; try omega)]; go_simp
  have f19 : w1.frozen? ⟨w.heap.size + 1 + 1 + 1 + 1, 1, none⟩ = false := by rw [hx1.frozen (p := ⟨w.heap.size + 1 + 1 + 1 + 1, 1, none⟩) (by simp; try omega)]; go_simp
  have f20 : w1.frozen? ⟨w.heap.size + 1 + 1 + 1 + 1, 2, none⟩ = false := by rw [hx1.frozen (p := ⟨w.heap.size + 1 + 1 + 1 + 1, 2, none⟩) (by simp; try omega)]; go_simp
  have f21 : w1.frozen? ⟨w.heap.size + 1 + 1 + 1 + 1, 3, none⟩ = false := by rw [hx1.frozen (p := ⟨w.heap.size + 1 + 1 + 1 + 1, 3, none⟩) (by simp; try omega)]; go_simp
  go_wp2_with fail
  refine (spec_FractionOk _ _ _).mono ?_
  rintro en w2 ⟨rfl, hx2⟩
  have q22 : Ext w1 w2 := hx2
  have y23 : w.heap.size < w2.heap.size := Nat.lt_of_lt_of_le y1 q22.size
  have y24 : w.heap.size + 1 < w2.heap.size := Nat.lt_of_lt_of_le y4 q22.size
  have y25 : w.heap.size + 1 + 1 < w2.heap.size := Nat.lt_of_lt_of_le y7 q22.size
  have y26 : w.heap.size + 1 + 1 + 1 < w2.heap.size := Nat.lt_of_lt_of_le y10 q22.size
  have y27 : w.heap.size + 1 + 1 + 1 + 1 < w2.heap.size := Nat.lt_of_lt_of_le y13 q22.size
  have k28 := ext_cell q22 k2
  have k29 := ext_cell q22 k3
  have k30 := ext_cell q22 k5
  have k31 := ext_cell q22 k6
  have k32 := ext_cell q22 k8
  have k33 := ext_cell q22 k9
  have k34 := ext_cell q22 k11
  have k35 := ext_cell q22 k12
  have k36 := ext_cell q22 k14
  have k37 := ext_cell q22 k15
  have k38 := ext_cell q22 k16
  have k39 := ext_cell q22 k17
  have f40 : w2.frozen? ⟨w.heap.size + 1 + 1 + 1 + 1, 0, none⟩ = false := (q22.frozen (p := ⟨w.heap.size + 1 + 1 + 1 + 1, 0, none⟩) y13).trans f18
  have f41 : w2.frozen? ⟨w.heap.size + 1 + 1 + 1 + 1, 1, none⟩ = false := (q22.frozen (p := ⟨w.heap.size + 1 + 1 + 1 + 1, 1, none⟩) y13).trans f19
  have f42 : w2.frozen? ⟨w.heap.size + 1 + 1 + 1 + 1, 2, none⟩ = false := (q22.frozen (p := ⟨w.heap.size + 1 + 1 + 1 + 1, 2, none⟩) y13).trans f20
  have f43 : w2.frozen? ⟨w.heap.size + 1 + 1 + 1 + 1, 3, none⟩ = false := (q22.frozen (p := ⟨w.heap.size + 1 + 1 + 1 + 1, 3, none⟩) y13).trans f21
  clear k2 k3 k5 k6 k8 k9 k11 k12 k14 k15 k16 k17 y1 y4 y7 y10 y13 f18 f19 f20 f21
  go_wp2_with fail
  refine (spec_FractionOk _ _ _).mono ?_
  rintro en w3 ⟨rfl, hx3⟩
  have q44 : Ext w2 w3 := hx3
  have y45 : w.heap.size < w3.heap.size := Nat.lt_of_lt_of_le y23 q44.size
  have y46 : w.heap.size + 1 < w3.heap.size := Nat.lt_of_lt_of_le y24 q44.size
  have y47 : w.heap.size + 1 + 1 < w3.heap.size := Nat.lt_of_lt_of_le y25 q44.size
  have y48 : w.heap.size + 1 + 1 + 1 < w3.heap.size := Nat.lt_of_lt_of_le y26 q44.size
  have y49 : w.heap.size + 1 + 1 + 1 + 1 < w3.heap.size := Nat.lt_of_lt_of_le y27 q44.size
  have k50 := ext_cell q44 k28
  have k51 := ext_cell q44 k29
  have k52 := ext_cell q44 k30
  have k53 := ext_cell q44 k31
  have k54 := ext_cell q44 k32
  have k55 := ext_cell q44 k33
  have k56 := ext_cell q44 k34
  have k57 := ext_cell q44 k35
  have k58 := ext_cell q44 k36
  have k59 := ext_cell q44 k37
  have k60 := ext_cell q44 k38
  have k61 := ext_cell q44 k39
  have f62 : w3.frozen? ⟨w.heap.size + 1 + 1 + 1 + 1, 0, none⟩ = false := (q44.frozen (p := ⟨w.heap.size + 1 + 1 + 1 + 1, 0, none⟩) y27).trans f40
  have f63 : w3.frozen? ⟨w.heap.size + 1 + 1 + 1 + 1, 1, none⟩ = false := (q44.frozen (p := ⟨w.heap.size + 1 + 1 + 1 + 1, 1, none⟩) y27).trans f41
  have f64 : w3.frozen? ⟨w.heap.size + 1 + 1 + 1 + 1, 2, none⟩ = false := (q44.frozen (p := ⟨w.heap.size + 1 + 1 + 1 + 1, 2, none⟩) y27).trans f42
  have f65 : w3.frozen? ⟨w.heap.size + 1 + 1 + 1 + 1, 3, none⟩ = false := (q44.frozen (p := ⟨w.heap.size + 1 + 1 + 1 + 1, 3, none⟩) y27).trans f43
  clear k28 k29 k30 k31 k32 k33 k34 k35 k36 k37 k38 k39 y23 y24 y25 y26 y27 f40 f41 f42 f43
  go_wp2_with fail
  refine (spec_FractionOk _ _ _).mono ?_
  rintro en w4 ⟨rfl, hx4⟩
  have q66 : Ext w3 w4 := hx4
  have y67 : w.heap.size < w4.heap.size := Nat.lt_of_lt_of_le y45 q66.size
  have y68 : w.heap.size + 1 < w4.heap.size := Nat.lt_of_lt_of_le y46 q66.size
  have y69 : w.heap.size + 1 + 1 < w4.heap.size := Nat.lt_of_lt_of_le y47 q66.size
  have y70 : w.heap.size + 1 + 1 + 1 < w4.heap.size := Nat.lt_of_lt_of_le y48 q66.size
  have y71 : w.heap.size + 1 + 1 + 1 + 1 < w4.heap.size := Nat.lt_of_lt_of_le y49 q66.size
  have k72 := ext_cell q66 k50
  have k73 := ext_cell q66 k51
  have k74 := ext_cell q66 k52
  have k75 := ext_cell q66 k53
  have k76 := ext_cell q66 k54
  have k77 := ext_cell q66 k55
  have k78 := ext_cell q66 k56
  have k79 := ext_cell q66 k57
  have k80 := ext_cell q66 k58
  have k81 := ext_cell q66 k59
  have k82 := ext_cell q66 k60
  have k83 := ext_cell q66 k61
  have f84 : w4.frozen? ⟨w.heap.size + 1 + 1 + 1 + 1, 0, none⟩ = false := (q66.frozen (p := ⟨w.heap.size + 1 + 1 + 1 + 1, 0, none⟩) y49).trans f62
  have f85 : w4.frozen? ⟨w.heap.size + 1 + 1 + 1 + 1, 1, none⟩ = false := (q66.frozen (p := ⟨w.heap.size + 1 + 1 + 1 + 1, 1, none⟩) y49).trans f63
  have f86 : w4.frozen? ⟨w.heap.size + 1 + 1 + 1 + 1, 2, none⟩ = false := (q66.frozen (p := ⟨w.heap.size + 1 + 1 + 1 + 1, 2, none⟩) y49).trans f64
  have f87 : w4.frozen? ⟨w.heap.size + 1 + 1 + 1 + 1, 3, none⟩ = false := (q66.frozen (p := ⟨w.heap.size + 1 + 1 + 1 + 1, 3, none⟩) y49).trans f65
  clear k50 k51 k52 k53 k54 k55 k56 k57 k58 k59 k60 k61 y45 y46 y47 y48 y49 f62 f63 f64 f65
  go_wp2_with fail
  exact bodyPost_ret (v := .tuple #[lineV (0) (0) (0) (0), .bool false]) (by simp [results, Try.results101, go_sem, k80, k81, k82, k83]) rfl ⟨rfl, (by repeat (first | (with_reducible exact ext_refl _) | (with_reducible refine ext_setCell ?_ ?_ _) | (with_reducible refine ext_alloc ?_ _) | (with_reducible refine ext_drewN ?_ _) | (with_reducible refine ext_drew ?_) | (with_reducible refine ext_trans ?_ (by assumption)) | (dsimp only; omega) | omega | (simp; omega)))⟩
end Go.Proofs.Ytnafpciionmbbaa
