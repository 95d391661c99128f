/- The contract of the program's line through two points. No condition. -/
import Derived.Test.YtefgdkjcoeikmaaLine3
namespace Go.Proofs.Ytefgdkjcoeikmaa
open Go.ChangeShapes Go.WideShapes Go.ChangeAt Go.RowKit
set_option linter.unusedVariables false
set_option linter.unusedSimpArgs false

def suT (t1 b1 t2 b2 : Int) : Int := addT t1 b1 (wrap64 (-t2)) b2
def suB (t1 b1 t2 b2 : Int) : Int := addB t1 b1 (wrap64 (-t2)) b2
def suOk (t1 b1 t2 b2 : Int) : Bool := addOk t1 b1 (wrap64 (-t2)) b2
theorem impl_minus' (t1 b1 t2 b2 : Int) (w : World) :
    Calls Try.prog 68 #[.agg #[.int .i64 t1, .int .i64 b1], .agg #[.int .i64 t2, .int .i64 b2]] w fun e w' => e = frac (suT t1 b1 t2 b2) (suB t1 b1 t2 b2) (suOk t1 b1 t2 b2) ∧ Ext w w' := impl_minus t1 b1 t2 b2 w
def ltUT (a b c d e f g h : Int) : Int := ovT (suT g h c d) (suB g h c d) (suT e f a b) (suB e f a b)
def ltUB (a b c d e f g h : Int) : Int := ovB (suT g h c d) (suB g h c d) (suT e f a b) (suB e f a b)
def ltUOk (a b c d e f g h : Int) : Bool := ovOk (suT g h c d) (suB g h c d) (suT e f a b) (suB e f a b)
def ltPT (a b c d e f g h : Int) : Int := timT (ltUT a b c d e f g h) (ltUB a b c d e f g h) a b
def ltPB (a b c d e f g h : Int) : Int := timB (ltUT a b c d e f g h) (ltUB a b c d e f g h) a b
def ltPOk (a b c d e f g h : Int) : Bool := timOk (ltUT a b c d e f g h) (ltUB a b c d e f g h) a b
def ltZT (a b c d e f g h : Int) : Int := suT c d (ltPT a b c d e f g h) (ltPB a b c d e f g h)
def ltZB (a b c d e f g h : Int) : Int := suB c d (ltPT a b c d e f g h) (ltPB a b c d e f g h)
def ltZOk (a b c d e f g h : Int) : Bool := suOk c d (ltPT a b c d e f g h) (ltPB a b c d e f g h)
def ltIn (a b c d e f g h : Int) : Bool := fracOk a b && fracOk c d && fracOk e f && fracOk g h && !(eqP a b e f) && suOk e f a b && suOk g h c d && ltUOk a b c d e f g h && ltPOk a b c d e f g h && ltZOk a b c d e f g h && lineOkB (ltZT a b c d e f g h) (ltZB a b c d e f g h) (ltUT a b c d e f g h) (ltUB a b c d e f g h)
def ltv (x : Bool) (y : Int) : Int := if x then y else 0
set_option maxHeartbeats 6400000 in
theorem impl_LT_bad0 (a b c d e f g h : Int) (w : World) (h0 : fracOk a b = false) :
    Calls Try.prog 28 #[.agg #[.int .i64 a, .int .i64 b], .agg #[.int .i64 c, .int .i64 d], .agg #[.int .i64 e, .int .i64 f], .agg #[.int .i64 g, .int .i64 h]] w fun en w' => en = lineR 0 0 0 0 false ∧ Ext w w' := by
  go_enter Try.func28, Try.ntmps28
  go_wp2_with fail
  refine wp_loop_rounds 5 ?_
  rw [rounds_succ]
  go_wp2_with fail
  refine (impl_FractionOk _ _ _).mono ?_
  rintro en w1 ⟨rfl, hx1⟩
  have y1 : w.heap.size < w1.heap.size := by have := hx1.size; simp at this; omega
  have k2 := ext_cell hx1 (b := w.heap.size) (off := 0) (v := .int .i64 (a)) (by go_simp)
  have k3 := ext_cell hx1 (b := w.heap.size) (off := 1) (v := .int .i64 (b)) (by go_simp)
  have y4 : w.heap.size + 1 < w1.heap.size := by have := hx1.size; simp at this; omega
  have k5 := ext_cell hx1 (b := w.heap.size + 1) (off := 0) (v := .int .i64 (c)) (by go_simp)
  have k6 := ext_cell hx1 (b := w.heap.size + 1) (off := 1) (v := .int .i64 (d)) (by go_simp)
  have y7 : w.heap.size + 1 + 1 < w1.heap.size := by have := hx1.size; simp at this; omega
  have k8 := ext_cell hx1 (b := w.heap.size + 1 + 1) (off := 0) (v := .int .i64 (e)) (by go_simp)
  have k9 := ext_cell hx1 (b := w.heap.size + 1 + 1) (off := 1) (v := .int .i64 (f)) (by go_simp)
  have y10 : w.heap.size + 1 + 1 + 1 < w1.heap.size := by have := hx1.size; simp at this; omega
  have k11 := ext_cell hx1 (b := w.heap.size + 1 + 1 + 1) (off := 0) (v := .int .i64 (g)) (by go_simp)
  have k12 := ext_cell hx1 (b := w.heap.size + 1 + 1 + 1) (off := 1) (v := .int .i64 (h)) (by go_simp)
  have y13 : w.heap.size + 1 + 1 + 1 + 1 < w1.heap.size := by have := hx1.size; simp at this; omega
  have k14 := ext_cell hx1 (b := w.heap.size + 1 + 1 + 1 + 1) (off := 0) (v := .int .i64 (0)) (by go_simp)
  have k15 := ext_cell hx1 (b := w.heap.size + 1 + 1 + 1 + 1) (off := 1) (v := .int .i64 (0)) (by go_simp)
  have k16 := ext_cell hx1 (b := w.heap.size + 1 + 1 + 1 + 1) (off := 2) (v := .int .i64 (0)) (by go_simp)
  have k17 := ext_cell hx1 (b := w.heap.size + 1 + 1 + 1 + 1) (off := 3) (v := .int .i64 (0)) (by go_simp)
  have f18 : w1.frozen? ⟨w.heap.size + 1 + 1 + 1 + 1, 0, none⟩ = false := by rw [hx1.frozen (p := ⟨w.heap.size + 1 + 1 + 1 + 1, 0, none⟩) (by simp; try omega)]; go_simp
  have f19 : w1.frozen? ⟨w.heap.size + 1 + 1 + 1 + 1, 1, none⟩ = false := by rw [hx1.frozen (p := ⟨w.heap.size + 1 + 1 + 1 + 1, 1, none⟩) (by simp; try omega)]; go_simp
  have f20 : w1.frozen? ⟨w.heap.size + 1 + 1 + 1 + 1, 2, none⟩ = false := by rw [hx1.frozen (p := ⟨w.heap.size + 1 + 1 + 1 + 1, 2, none⟩) (by simp; try omega)]; go_simp
  have f21 : w1.frozen? ⟨w.heap.size + 1 + 1 + 1 + 1, 3, none⟩ = false := by rw [hx1.frozen (p := ⟨w.heap.size + 1 + 1 + 1 + 1, 3, none⟩) (by simp; try omega)]; go_simp
  have y22 : w.heap.size + 1 + 1 + 1 + 1 + 1 < w1.heap.size := by have := hx1.size; simp at this; omega
  have k23 := ext_cell hx1 (b := w.heap.size + 1 + 1 + 1 + 1 + 1) (off := 0) (v := .int .i64 (a)) (by go_simp)
  have k24 := ext_cell hx1 (b := w.heap.size + 1 + 1 + 1 + 1 + 1) (off := 1) (v := .int .i64 (b)) (by go_simp)
  have k25 := ext_cell hx1 (b := w.heap.size + 1 + 1 + 1 + 1 + 1) (off := 2) (v := .int .i64 (c)) (by go_simp)
  have k26 := ext_cell hx1 (b := w.heap.size + 1 + 1 + 1 + 1 + 1) (off := 3) (v := .int .i64 (d)) (by go_simp)
  have k27 := ext_cell hx1 (b := w.heap.size + 1 + 1 + 1 + 1 + 1) (off := 4) (v := .int .i64 (e)) (by go_simp)
  have k28 := ext_cell hx1 (b := w.heap.size + 1 + 1 + 1 + 1 + 1) (off := 5) (v := .int .i64 (f)) (by go_simp)
  have k29 := ext_cell hx1 (b := w.heap.size + 1 + 1 + 1 + 1 + 1) (off := 6) (v := .int .i64 (g)) (by go_simp)
  have k30 := ext_cell hx1 (b := w.heap.size + 1 + 1 + 1 + 1 + 1) (off := 7) (v := .int .i64 (h)) (by go_simp)
  go_wp2_with fail
  exact bodyPost_ret (v := .tuple #[lineV (0) (0) (0) (0), .bool false]) (by simp [results, Try.results28, go_sem, k14, k15, k16, k17]) rfl ⟨rfl, (by repeat (first | (with_reducible exact ext_refl _) | (with_reducible refine ext_setCell ?_ ?_ _) | (with_reducible refine ext_alloc ?_ _) | (with_reducible refine ext_drewN ?_ _) | (with_reducible refine ext_drew ?_) | (with_reducible refine ext_trans ?_ (by assumption)) | (dsimp only; omega) | omega | (simp; omega)))⟩
set_option maxHeartbeats 6400000 in
theorem impl_LT_bad1 (a b c d e f g h : Int) (w : World) (h0 : fracOk a b = true) (h1 : fracOk c d = false) :
    Calls Try.prog 28 #[.agg #[.int .i64 a, .int .i64 b], .agg #[.int .i64 c, .int .i64 d], .agg #[.int .i64 e, .int .i64 f], .agg #[.int .i64 g, .int .i64 h]] w fun en w' => en = lineR 0 0 0 0 false ∧ Ext w w' := by
  go_enter Try.func28, Try.ntmps28
  go_wp2_with fail
  refine wp_loop_rounds 5 ?_
  rw [rounds_succ]
  go_wp2_with fail
  refine (impl_FractionOk _ _ _).mono ?_
  rintro en w1 ⟨rfl, hx1⟩
  have y1 : w.heap.size < w1.heap.size := by have := hx1.size; simp at this; omega
  have k2 := ext_cell hx1 (b := w.heap.size) (off := 0) (v := .int .i64 (a)) (by go_simp)
  have k3 := ext_cell hx1 (b := w.heap.size) (off := 1) (v := .int .i64 (b)) (by go_simp)
  have y4 : w.heap.size + 1 < w1.heap.size := by have := hx1.size; simp at this; omega
  have k5 := ext_cell hx1 (b := w.heap.size + 1) (off := 0) (v := .int .i64 (c)) (by go_simp)
  have k6 := ext_cell hx1 (b := w.heap.size + 1) (off := 1) (v := .int .i64 (d)) (by go_simp)
  have y7 : w.heap.size + 1 + 1 < w1.heap.size := by have := hx1.size; simp at this; omega
  have k8 := ext_cell hx1 (b := w.heap.size + 1 + 1) (off := 0) (v := .int .i64 (e)) (by go_simp)
  have k9 := ext_cell hx1 (b := w.heap.size + 1 + 1) (off := 1) (v := .int .i64 (f)) (by go_simp)
  have y10 : w.heap.size + 1 + 1 + 1 < w1.heap.size := by have := hx1.size; simp at this; omega
  have k11 := ext_cell hx1 (b := w.heap.size + 1 + 1 + 1) (off := 0) (v := .int .i64 (g)) (by go_simp)
  have k12 := ext_cell hx1 (b := w.heap.size + 1 + 1 + 1) (off := 1) (v := .int .i64 (h)) (by go_simp)
  have y13 : w.heap.size + 1 + 1 + 1 + 1 < w1.heap.size := by have := hx1.size; simp at this; omega
  have k14 := ext_cell hx1 (b := w.heap.size + 1 + 1 + 1 + 1) (off := 0) (v := .int .i64 (0)) (by go_simp)
  have k15 := ext_cell hx1 (b := w.heap.size + 1 + 1 + 1 + 1) (off := 1) (v := .int .i64 (0)) (by go_simp)
  have k16 := ext_cell hx1 (b := w.heap.size + 1 + 1 + 1 + 1) (off := 2) (v := .int .i64 (0)) (by go_simp)
  have k17 := ext_cell hx1 (b := w.heap.size + 1 + 1 + 1 + 1) (off := 3) (v := .int .i64 (0)) (by go_simp)
  have f18 : w1.frozen? ⟨w.heap.size + 1 + 1 + 1 + 1, 0, none⟩ = false := by rw [hx1.frozen (p := ⟨w.heap.size + 1 + 1 + 1 + 1, 0, none⟩) (by simp; try omega)]; go_simp
  have f19 : w1.frozen? ⟨w.heap.size + 1 + 1 + 1 + 1, 1, none⟩ = false := by rw [hx1.frozen (p := ⟨w.heap.size + 1 + 1 + 1 + 1, 1, none⟩) (by simp; try omega)]; go_simp
  have f20 : w1.frozen? ⟨w.heap.size + 1 + 1 + 1 + 1, 2, none⟩ = false := by rw [hx1.frozen (p := ⟨w.heap.size + 1 + 1 + 1 + 1, 2, none⟩) (by simp; try omega)]; go_simp
  have f21 : w1.frozen? ⟨w.heap.size + 1 + 1 + 1 + 1, 3, none⟩ = false := by rw [hx1.frozen (p := ⟨w.heap.size + 1 + 1 + 1 + 1, 3, none⟩) (by simp; try omega)]; go_simp
  have y22 : w.heap.size + 1 + 1 + 1 + 1 + 1 < w1.heap.size := by have := hx1.size; simp at this; omega
  have k23 := ext_cell hx1 (b := w.heap.size + 1 + 1 + 1 + 1 + 1) (off := 0) (v := .int .i64 (a)) (by go_simp)
  have k24 := ext_cell hx1 (b := w.heap.size + 1 + 1 + 1 + 1 + 1) (off := 1) (v := .int .i64 (b)) (by go_simp)
  have k25 := ext_cell hx1 (b := w.heap.size + 1 + 1 + 1 + 1 + 1) (off := 2) (v := .int .i64 (c)) (by go_simp)
  have k26 := ext_cell hx1 (b := w.heap.size + 1 + 1 + 1 + 1 + 1) (off := 3) (v := .int .i64 (d)) (by go_simp)
  have k27 := ext_cell hx1 (b := w.heap.size + 1 + 1 + 1 + 1 + 1) (off := 4) (v := .int .i64 (e)) (by go_simp)
  have k28 := ext_cell hx1 (b := w.heap.size + 1 + 1 + 1 + 1 + 1) (off := 5) (v := .int .i64 (f)) (by go_simp)
  have k29 := ext_cell hx1 (b := w.heap.size + 1 + 1 + 1 + 1 + 1) (off := 6) (v := .int .i64 (g)) (by go_simp)
  have k30 := ext_cell hx1 (b := w.heap.size + 1 + 1 + 1 + 1 + 1) (off := 7) (v := .int .i64 (h)) (by go_simp)
  go_wp2_with fail
  rw [rounds_succ]
  go_wp2_with fail
  refine (impl_FractionOk _ _ _).mono ?_
  rintro en w2 ⟨rfl, hx2⟩
  have q31 : Ext w1 w2 := ext_trans (ext_alloc (ext_refl _) _) hx2
  have y32 : w.heap.size < w2.heap.size := Nat.lt_of_lt_of_le y1 q31.size
  have y33 : w.heap.size + 1 < w2.heap.size := Nat.lt_of_lt_of_le y4 q31.size
  have y34 : w.heap.size + 1 + 1 < w2.heap.size := Nat.lt_of_lt_of_le y7 q31.size
  have y35 : w.heap.size + 1 + 1 + 1 < w2.heap.size := Nat.lt_of_lt_of_le y10 q31.size
  have y36 : w.heap.size + 1 + 1 + 1 + 1 < w2.heap.size := Nat.lt_of_lt_of_le y13 q31.size
  have y37 : w.heap.size + 1 + 1 + 1 + 1 + 1 < w2.heap.size := Nat.lt_of_lt_of_le y22 q31.size
  have k38 := ext_cell q31 k2
  have k39 := ext_cell q31 k3
  have k40 := ext_cell q31 k5
  have k41 := ext_cell q31 k6
  have k42 := ext_cell q31 k8
  have k43 := ext_cell q31 k9
  have k44 := ext_cell q31 k11
  have k45 := ext_cell q31 k12
  have k46 := ext_cell q31 k14
  have k47 := ext_cell q31 k15
  have k48 := ext_cell q31 k16
  have k49 := ext_cell q31 k17
  have k50 := ext_cell q31 k23
  have k51 := ext_cell q31 k24
  have k52 := ext_cell q31 k25
  have k53 := ext_cell q31 k26
  have k54 := ext_cell q31 k27
  have k55 := ext_cell q31 k28
  have k56 := ext_cell q31 k29
  have k57 := ext_cell q31 k30
  have f58 : w2.frozen? ⟨w.heap.size + 1 + 1 + 1 + 1, 0, none⟩ = false := (q31.frozen (p := ⟨w.heap.size + 1 + 1 + 1 + 1, 0, none⟩) y13).trans f18
  have f59 : w2.frozen? ⟨w.heap.size + 1 + 1 + 1 + 1, 1, none⟩ = false := (q31.frozen (p := ⟨w.heap.size + 1 + 1 + 1 + 1, 1, none⟩) y13).trans f19
  have f60 : w2.frozen? ⟨w.heap.size + 1 + 1 + 1 + 1, 2, none⟩ = false := (q31.frozen (p := ⟨w.heap.size + 1 + 1 + 1 + 1, 2, none⟩) y13).trans f20
  have f61 : w2.frozen? ⟨w.heap.size + 1 + 1 + 1 + 1, 3, none⟩ = false := (q31.frozen (p := ⟨w.heap.size + 1 + 1 + 1 + 1, 3, none⟩) y13).trans f21
  clear k2 k3 k5 k6 k8 k9 k11 k12 k14 k15 k16 k17 k23 k24 k25 k26 k27 k28 k29 k30 y1 y4 y7 y10 y13 y22 f18 f19 f20 f21
  go_wp2_with fail
  exact bodyPost_ret (v := .tuple #[lineV (0) (0) (0) (0), .bool false]) (by simp [results, Try.results28, go_sem, k46, k47, k48, k49]) rfl ⟨rfl, (by repeat (first | (with_reducible exact ext_refl _) | (with_reducible refine ext_setCell ?_ ?_ _) | (with_reducible refine ext_alloc ?_ _) | (with_reducible refine ext_drewN ?_ _) | (with_reducible refine ext_drew ?_) | (with_reducible refine ext_trans ?_ (by assumption)) | (dsimp only; omega) | omega | (simp; omega)))⟩
set_option maxHeartbeats 6400000 in
theorem impl_LT_bad2 (a b c d e f g h : Int) (w : World) (h0 : fracOk a b = true) (h1 : fracOk c d = true) (h2 : fracOk e f = false) :
    Calls Try.prog 28 #[.agg #[.int .i64 a, .int .i64 b], .agg #[.int .i64 c, .int .i64 d], .agg #[.int .i64 e, .int .i64 f], .agg #[.int .i64 g, .int .i64 h]] w fun en w' => en = lineR 0 0 0 0 false ∧ Ext w w' := by
  go_enter Try.func28, Try.ntmps28
  go_wp2_with fail
  refine wp_loop_rounds 5 ?_
  rw [rounds_succ]
  go_wp2_with fail
  refine (impl_FractionOk _ _ _).mono ?_
  rintro en w1 ⟨rfl, hx1⟩
  have y1 : w.heap.size < w1.heap.size := by have := hx1.size; simp at this; omega
  have k2 := ext_cell hx1 (b := w.heap.size) (off := 0) (v := .int .i64 (a)) (by go_simp)
  have k3 := ext_cell hx1 (b := w.heap.size) (off := 1) (v := .int .i64 (b)) (by go_simp)
  have y4 : w.heap.size + 1 < w1.heap.size := by have := hx1.size; simp at this; omega
  have k5 := ext_cell hx1 (b := w.heap.size + 1) (off := 0) (v := .int .i64 (c)) (by go_simp)
  have k6 := ext_cell hx1 (b := w.heap.size + 1) (off := 1) (v := .int .i64 (d)) (by go_simp)
  have y7 : w.heap.size + 1 + 1 < w1.heap.size := by have := hx1.size; simp at this; omega
  have k8 := ext_cell hx1 (b := w.heap.size + 1 + 1) (off := 0) (v := .int .i64 (e)) (by go_simp)
  have k9 := ext_cell hx1 (b := w.heap.size + 1 + 1) (off := 1) (v := .int .i64 (f)) (by go_simp)
  have y10 : w.heap.size + 1 + 1 + 1 < w1.heap.size := by have := hx1.size; simp at this; omega
  have k11 := ext_cell hx1 (b := w.heap.size + 1 + 1 + 1) (off := 0) (v := .int .i64 (g)) (by go_simp)
  have k12 := ext_cell hx1 (b := w.heap.size + 1 + 1 + 1) (off := 1) (v := .int .i64 (h)) (by go_simp)
  have y13 : w.heap.size + 1 + 1 + 1 + 1 < w1.heap.size := by have := hx1.size; simp at this; omega
  have k14 := ext_cell hx1 (b := w.heap.size + 1 + 1 + 1 + 1) (off := 0) (v := .int .i64 (0)) (by go_simp)
  have k15 := ext_cell hx1 (b := w.heap.size + 1 + 1 + 1 + 1) (off := 1) (v := .int .i64 (0)) (by go_simp)
  have k16 := ext_cell hx1 (b := w.heap.size + 1 + 1 + 1 + 1) (off := 2) (v := .int .i64 (0)) (by go_simp)
  have k17 := ext_cell hx1 (b := w.heap.size + 1 + 1 + 1 + 1) (off := 3) (v := .int .i64 (0)) (by go_simp)
  have f18 : w1.frozen? ⟨w.heap.size + 1 + 1 + 1 + 1, 0, none⟩ = false := by rw [hx1.frozen (p := ⟨w.heap.size + 1 + 1 + 1 + 1, 0, none⟩) (by simp; try omega)]; go_simp
  have f19 : w1.frozen? ⟨w.heap.size + 1 + 1 + 1 + 1, 1, none⟩ = false := by rw [hx1.frozen (p := ⟨w.heap.size + 1 + 1 + 1 + 1, 1, none⟩) (by simp; try omega)]; go_simp
  have f20 : w1.frozen? ⟨w.heap.size + 1 + 1 + 1 + 1, 2, none⟩ = false := by rw [hx1.frozen (p := ⟨w.heap.size + 1 + 1 + 1 + 1, 2, none⟩) (by simp; try omega)]; go_simp
  have f21 : w1.frozen? ⟨w.heap.size + 1 + 1 + 1 + 1, 3, none⟩ = false := by rw [hx1.frozen (p := ⟨w.heap.size + 1 + 1 + 1 + 1, 3, none⟩) (by simp; try omega)]; go_simp
  have y22 : w.heap.size + 1 + 1 + 1 + 1 + 1 < w1.heap.size := by have := hx1.size; simp at this; omega
  have k23 := ext_cell hx1 (b := w.heap.size + 1 + 1 + 1 + 1 + 1) (off := 0) (v := .int .i64 (a)) (by go_simp)
  have k24 := ext_cell hx1 (b := w.heap.size + 1 + 1 + 1 + 1 + 1) (off := 1) (v := .int .i64 (b)) (by go_simp)
  have k25 := ext_cell hx1 (b := w.heap.size + 1 + 1 + 1 + 1 + 1) (off := 2) (v := .int .i64 (c)) (by go_simp)
  have k26 := ext_cell hx1 (b := w.heap.size + 1 + 1 + 1 + 1 + 1) (off := 3) (v := .int .i64 (d)) (by go_simp)
  have k27 := ext_cell hx1 (b := w.heap.size + 1 + 1 + 1 + 1 + 1) (off := 4) (v := .int .i64 (e)) (by go_simp)
  have k28 := ext_cell hx1 (b := w.heap.size + 1 + 1 + 1 + 1 + 1) (off := 5) (v := .int .i64 (f)) (by go_simp)
  have k29 := ext_cell hx1 (b := w.heap.size + 1 + 1 + 1 + 1 + 1) (off := 6) (v := .int .i64 (g)) (by go_simp)
  have k30 := ext_cell hx1 (b := w.heap.size + 1 + 1 + 1 + 1 + 1) (off := 7) (v := .int .i64 (h)) (by go_simp)
  go_wp2_with fail
  rw [rounds_succ]
  go_wp2_with fail
  refine (impl_FractionOk _ _ _).mono ?_
  rintro en w2 ⟨rfl, hx2⟩
  have q31 : Ext w1 w2 := ext_trans (ext_alloc (ext_refl _) _) hx2
  have y32 : w.heap.size < w2.heap.size := Nat.lt_of_lt_of_le y1 q31.size
  have y33 : w.heap.size + 1 < w2.heap.size := Nat.lt_of_lt_of_le y4 q31.size
  have y34 : w.heap.size + 1 + 1 < w2.heap.size := Nat.lt_of_lt_of_le y7 q31.size
  have y35 : w.heap.size + 1 + 1 + 1 < w2.heap.size := Nat.lt_of_lt_of_le y10 q31.size
  have y36 : w.heap.size + 1 + 1 + 1 + 1 < w2.heap.size := Nat.lt_of_lt_of_le y13 q31.size
  have y37 : w.heap.size + 1 + 1 + 1 + 1 + 1 < w2.heap.size := Nat.lt_of_lt_of_le y22 q31.size
  have k38 := ext_cell q31 k2
  have k39 := ext_cell q31 k3
  have k40 := ext_cell q31 k5
  have k41 := ext_cell q31 k6
  have k42 := ext_cell q31 k8
  have k43 := ext_cell q31 k9
  have k44 := ext_cell q31 k11
  have k45 := ext_cell q31 k12
  have k46 := ext_cell q31 k14
  have k47 := ext_cell q31 k15
  have k48 := ext_cell q31 k16
  have k49 := ext_cell q31 k17
  have k50 := ext_cell q31 k23
  have k51 := ext_cell q31 k24
  have k52 := ext_cell q31 k25
  have k53 := ext_cell q31 k26
  have k54 := ext_cell q31 k27
  have k55 := ext_cell q31 k28
  have k56 := ext_cell q31 k29
  have k57 := ext_cell q31 k30
  have f58 : w2.frozen? ⟨w.heap.size + 1 + 1 + 1 + 1, 0, none⟩ = false := (q31.frozen (p := ⟨w.heap.size + 1 + 1 + 1 + 1, 0, none⟩) y13).trans f18
  have f59 : w2.frozen? ⟨w.heap.size + 1 + 1 + 1 + 1, 1, none⟩ = false := (q31.frozen (p := ⟨w.heap.size + 1 + 1 + 1 + 1, 1, none⟩) y13).trans f19
  have f60 : w2.frozen? ⟨w.heap.size + 1 + 1 + 1 + 1, 2, none⟩ = false := (q31.frozen (p := ⟨w.heap.size + 1 + 1 + 1 + 1, 2, none⟩) y13).trans f20
  have f61 : w2.frozen? ⟨w.heap.size + 1 + 1 + 1 + 1, 3, none⟩ = false := (q31.frozen (p := ⟨w.heap.size + 1 + 1 + 1 + 1, 3, none⟩) y13).trans f21
  clear k2 k3 k5 k6 k8 k9 k11 k12 k14 k15 k16 k17 k23 k24 k25 k26 k27 k28 k29 k30 y1 y4 y7 y10 y13 y22 f18 f19 f20 f21
  go_wp2_with fail
  rw [rounds_succ]
  go_wp2_with fail
  refine (impl_FractionOk _ _ _).mono ?_
  rintro en w3 ⟨rfl, hx3⟩
  have q62 : Ext w2 w3 := ext_trans (ext_alloc (ext_refl _) _) hx3
  have y63 : w.heap.size < w3.heap.size := Nat.lt_of_lt_of_le y32 q62.size
  have y64 : w.heap.size + 1 < w3.heap.size := Nat.lt_of_lt_of_le y33 q62.size
  have y65 : w.heap.size + 1 + 1 < w3.heap.size := Nat.lt_of_lt_of_le y34 q62.size
  have y66 : w.heap.size + 1 + 1 + 1 < w3.heap.size := Nat.lt_of_lt_of_le y35 q62.size
  have y67 : w.heap.size + 1 + 1 + 1 + 1 < w3.heap.size := Nat.lt_of_lt_of_le y36 q62.size
  have y68 : w.heap.size + 1 + 1 + 1 + 1 + 1 < w3.heap.size := Nat.lt_of_lt_of_le y37 q62.size
  have k69 := ext_cell q62 k38
  have k70 := ext_cell q62 k39
  have k71 := ext_cell q62 k40
  have k72 := ext_cell q62 k41
  have k73 := ext_cell q62 k42
  have k74 := ext_cell q62 k43
  have k75 := ext_cell q62 k44
  have k76 := ext_cell q62 k45
  have k77 := ext_cell q62 k46
  have k78 := ext_cell q62 k47
  have k79 := ext_cell q62 k48
  have k80 := ext_cell q62 k49
  have k81 := ext_cell q62 k50
  have k82 := ext_cell q62 k51
  have k83 := ext_cell q62 k52
  have k84 := ext_cell q62 k53
  have k85 := ext_cell q62 k54
  have k86 := ext_cell q62 k55
  have k87 := ext_cell q62 k56
  have k88 := ext_cell q62 k57
  have f89 : w3.frozen? ⟨w.heap.size + 1 + 1 + 1 + 1, 0, none⟩ = false := (q62.frozen (p := ⟨w.heap.size + 1 + 1 + 1 + 1, 0, none⟩) y36).trans f58
  have f90 : w3.frozen? ⟨w.heap.size + 1 + 1 + 1 + 1, 1, none⟩ = false := (q62.frozen (p := ⟨w.heap.size + 1 + 1 + 1 + 1, 1, none⟩) y36).trans f59
  have f91 : w3.frozen? ⟨w.heap.size + 1 + 1 + 1 + 1, 2, none⟩ = false := (q62.frozen (p := ⟨w.heap.size + 1 + 1 + 1 + 1, 2, none⟩) y36).trans f60
  have f92 : w3.frozen? ⟨w.heap.size + 1 + 1 + 1 + 1, 3, none⟩ = false := (q62.frozen (p := ⟨w.heap.size + 1 + 1 + 1 + 1, 3, none⟩) y36).trans f61
  clear k38 k39 k40 k41 k42 k43 k44 k45 k46 k47 k48 k49 k50 k51 k52 k53 k54 k55 k56 k57 y32 y33 y34 y35 y36 y37 f58 f59 f60 f61
  go_wp2_with fail
  exact bodyPost_ret (v := .tuple #[lineV (0) (0) (0) (0), .bool false]) (by simp [results, Try.results28, go_sem, k77, k78, k79, k80]) rfl ⟨rfl, (by repeat (first | (with_reducible exact ext_refl _) | (with_reducible refine ext_setCell ?_ ?_ _) | (with_reducible refine ext_alloc ?_ _) | (with_reducible refine ext_drewN ?_ _) | (with_reducible refine ext_drew ?_) | (with_reducible refine ext_trans ?_ (by assumption)) | (dsimp only; omega) | omega | (simp; omega)))⟩
set_option maxHeartbeats 6400000 in
theorem impl_LT_bad3 (a b c d e f g h : Int) (w : World) (h0 : fracOk a b = true) (h1 : fracOk c d = true) (h2 : fracOk e f = true) (h3 : fracOk g h = false) :
    Calls Try.prog 28 #[.agg #[.int .i64 a, .int .i64 b], .agg #[.int .i64 c, .int .i64 d], .agg #[.int .i64 e, .int .i64 f], .agg #[.int .i64 g, .int .i64 h]] w fun en w' => en = lineR 0 0 0 0 false ∧ Ext w w' := by
  go_enter Try.func28, Try.ntmps28
  go_wp2_with fail
  refine wp_loop_rounds 5 ?_
  rw [rounds_succ]
  go_wp2_with fail
  refine (impl_FractionOk _ _ _).mono ?_
  rintro en w1 ⟨rfl, hx1⟩
  have y1 : w.heap.size < w1.heap.size := by have := hx1.size; simp at this; omega
  have k2 := ext_cell hx1 (b := w.heap.size) (off := 0) (v := .int .i64 (a)) (by go_simp)
  have k3 := ext_cell hx1 (b := w.heap.size) (off := 1) (v := .int .i64 (b)) (by go_simp)
  have y4 : w.heap.size + 1 < w1.heap.size := by have := hx1.size; simp at this; omega
  have k5 := ext_cell hx1 (b := w.heap.size + 1) (off := 0) (v := .int .i64 (c)) (by go_simp)
  have k6 := ext_cell hx1 (b := w.heap.size + 1) (off := 1) (v := .int .i64 (d)) (by go_simp)
  have y7 : w.heap.size + 1 + 1 < w1.heap.size := by have := hx1.size; simp at this; omega
  have k8 := ext_cell hx1 (b := w.heap.size + 1 + 1) (off := 0) (v := .int .i64 (e)) (by go_simp)
  have k9 := ext_cell hx1 (b := w.heap.size + 1 + 1) (off := 1) (v := .int .i64 (f)) (by go_simp)
  have y10 : w.heap.size + 1 + 1 + 1 < w1.heap.size := by have := hx1.size; simp at this; omega
  have k11 := ext_cell hx1 (b := w.heap.size + 1 + 1 + 1) (off := 0) (v := .int .i64 (g)) (by go_simp)
  have k12 := ext_cell hx1 (b := w.heap.size + 1 + 1 + 1) (off := 1) (v := .int .i64 (h)) (by go_simp)
  have y13 : w.heap.size + 1 + 1 + 1 + 1 < w1.heap.size := by have := hx1.size; simp at this; omega
  have k14 := ext_cell hx1 (b := w.heap.size + 1 + 1 + 1 + 1) (off := 0) (v := .int .i64 (0)) (by go_simp)
  have k15 := ext_cell hx1 (b := w.heap.size + 1 + 1 + 1 + 1) (off := 1) (v := .int .i64 (0)) (by go_simp)
  have k16 := ext_cell hx1 (b := w.heap.size + 1 + 1 + 1 + 1) (off := 2) (v := .int .i64 (0)) (by go_simp)
  have k17 := ext_cell hx1 (b := w.heap.size + 1 + 1 + 1 + 1) (off := 3) (v := .int .i64 (0)) (by go_simp)
  have f18 : w1.frozen? ⟨w.heap.size + 1 + 1 + 1 + 1, 0, none⟩ = false := by rw [hx1.frozen (p := ⟨w.heap.size + 1 + 1 + 1 + 1, 0, none⟩) (by simp; try omega)]; go_simp
  have f19 : w1.frozen? ⟨w.heap.size + 1 + 1 + 1 + 1, 1, none⟩ = false := by rw [hx1.frozen (p := ⟨w.heap.size + 1 + 1 + 1 + 1, 1, none⟩) (by simp; try omega)]; go_simp
  have f20 : w1.frozen? ⟨w.heap.size + 1 + 1 + 1 + 1, 2, none⟩ = false := by rw [hx1.frozen (p := ⟨w.heap.size + 1 + 1 + 1 + 1, 2, none⟩) (by simp; try omega)]; go_simp
  have f21 : w1.frozen? ⟨w.heap.size + 1 + 1 + 1 + 1, 3, none⟩ = false := by rw [hx1.frozen (p := ⟨w.heap.size + 1 + 1 + 1 + 1, 3, none⟩) (by simp; try omega)]; go_simp
  have y22 : w.heap.size + 1 + 1 + 1 + 1 + 1 < w1.heap.size := by have := hx1.size; simp at this; omega
  have k23 := ext_cell hx1 (b := w.heap.size + 1 + 1 + 1 + 1 + 1) (off := 0) (v := .int .i64 (a)) (by go_simp)
  have k24 := ext_cell hx1 (b := w.heap.size + 1 + 1 + 1 + 1 + 1) (off := 1) (v := .int .i64 (b)) (by go_simp)
  have k25 := ext_cell hx1 (b := w.heap.size + 1 + 1 + 1 + 1 + 1) (off := 2) (v := .int .i64 (c)) (by go_simp)
  have k26 := ext_cell hx1 (b := w.heap.size + 1 + 1 + 1 + 1 + 1) (off := 3) (v := .int .i64 (d)) (by go_simp)
  have k27 := ext_cell hx1 (b := w.heap.size + 1 + 1 + 1 + 1 + 1) (off := 4) (v := .int .i64 (e)) (by go_simp)
  have k28 := ext_cell hx1 (b := w.heap.size + 1 + 1 + 1 + 1 + 1) (off := 5) (v := .int .i64 (f)) (by go_simp)
  have k29 := ext_cell hx1 (b := w.heap.size + 1 + 1 + 1 + 1 + 1) (off := 6) (v := .int .i64 (g)) (by go_simp)
  have k30 := ext_cell hx1 (b := w.heap.size + 1 + 1 + 1 + 1 + 1) (off := 7) (v := .int .i64 (h)) (by go_simp)
  go_wp2_with fail
  rw [rounds_succ]
  go_wp2_with fail
  refine (impl_FractionOk _ _ _).mono ?_
  rintro en w2 ⟨rfl, hx2⟩
  have q31 : Ext w1 w2 := ext_trans (ext_alloc (ext_refl _) _) hx2
  have y32 : w.heap.size < w2.heap.size := Nat.lt_of_lt_of_le y1 q31.size
  have y33 : w.heap.size + 1 < w2.heap.size := Nat.lt_of_lt_of_le y4 q31.size
  have y34 : w.heap.size + 1 + 1 < w2.heap.size := Nat.lt_of_lt_of_le y7 q31.size
  have y35 : w.heap.size + 1 + 1 + 1 < w2.heap.size := Nat.lt_of_lt_of_le y10 q31.size
  have y36 : w.heap.size + 1 + 1 + 1 + 1 < w2.heap.size := Nat.lt_of_lt_of_le y13 q31.size
  have y37 : w.heap.size + 1 + 1 + 1 + 1 + 1 < w2.heap.size := Nat.lt_of_lt_of_le y22 q31.size
  have k38 := ext_cell q31 k2
  have k39 := ext_cell q31 k3
  have k40 := ext_cell q31 k5
  have k41 := ext_cell q31 k6
  have k42 := ext_cell q31 k8
  have k43 := ext_cell q31 k9
  have k44 := ext_cell q31 k11
  have k45 := ext_cell q31 k12
  have k46 := ext_cell q31 k14
  have k47 := ext_cell q31 k15
  have k48 := ext_cell q31 k16
  have k49 := ext_cell q31 k17
  have k50 := ext_cell q31 k23
  have k51 := ext_cell q31 k24
  have k52 := ext_cell q31 k25
  have k53 := ext_cell q31 k26
  have k54 := ext_cell q31 k27
  have k55 := ext_cell q31 k28
  have k56 := ext_cell q31 k29
  have k57 := ext_cell q31 k30
  have f58 : w2.frozen? ⟨w.heap.size + 1 + 1 + 1 + 1, 0, none⟩ = false := (q31.frozen (p := ⟨w.heap.size + 1 + 1 + 1 + 1, 0, none⟩) y13).trans f18
  have f59 : w2.frozen? ⟨w.heap.size + 1 + 1 + 1 + 1, 1, none⟩ = false := (q31.frozen (p := ⟨w.heap.size + 1 + 1 + 1 + 1, 1, none⟩) y13).trans f19
  have f60 : w2.frozen? ⟨w.heap.size + 1 + 1 + 1 + 1, 2, none⟩ = false := (q31.frozen (p := ⟨w.heap.size + 1 + 1 + 1 + 1, 2, none⟩) y13).trans f20
  have f61 : w2.frozen? ⟨w.heap.size + 1 + 1 + 1 + 1, 3, none⟩ = false := (q31.frozen (p := ⟨w.heap.size + 1 + 1 + 1 + 1, 3, none⟩) y13).trans f21
  clear k2 k3 k5 k6 k8 k9 k11 k12 k14 k15 k16 k17 k23 k24 k25 k26 k27 k28 k29 k30 y1 y4 y7 y10 y13 y22 f18 f19 f20 f21
  go_wp2_with fail
  rw [rounds_succ]
  go_wp2_with fail
  refine (impl_FractionOk _ _ _).mono ?_
  rintro en w3 ⟨rfl, hx3⟩
  have q62 : Ext w2 w3 := ext_trans (ext_alloc (ext_refl _) _) hx3
  have y63 : w.heap.size < w3.heap.size := Nat.lt_of_lt_of_le y32 q62.size
  have y64 : w.heap.size + 1 < w3.heap.size := Nat.lt_of_lt_of_le y33 q62.size
  have y65 : w.heap.size + 1 + 1 < w3.heap.size := Nat.lt_of_lt_of_le y34 q62.size
  have y66 : w.heap.size + 1 + 1 + 1 < w3.heap.size := Nat.lt_of_lt_of_le y35 q62.size
  have y67 : w.heap.size + 1 + 1 + 1 + 1 < w3.heap.size := Nat.lt_of_lt_of_le y36 q62.size
  have y68 : w.heap.size + 1 + 1 + 1 + 1 + 1 < w3.heap.size := Nat.lt_of_lt_of_le y37 q62.size
  have k69 := ext_cell q62 k38
  have k70 := ext_cell q62 k39
  have k71 := ext_cell q62 k40
  have k72 := ext_cell q62 k41
  have k73 := ext_cell q62 k42
  have k74 := ext_cell q62 k43
  have k75 := ext_cell q62 k44
  have k76 := ext_cell q62 k45
  have k77 := ext_cell q62 k46
  have k78 := ext_cell q62 k47
  have k79 := ext_cell q62 k48
  have k80 := ext_cell q62 k49
  have k81 := ext_cell q62 k50
  have k82 := ext_cell q62 k51
  have k83 := ext_cell q62 k52
  have k84 := ext_cell q62 k53
  have k85 := ext_cell q62 k54
  have k86 := ext_cell q62 k55
  have k87 := ext_cell q62 k56
  have k88 := ext_cell q62 k57
  have f89 : w3.frozen? ⟨w.heap.size + 1 + 1 + 1 + 1, 0, none⟩ = false := (q62.frozen (p := ⟨w.heap.size + 1 + 1 + 1 + 1, 0, none⟩) y36).trans f58
  have f90 : w3.frozen? ⟨w.heap.size + 1 + 1 + 1 + 1, 1, none⟩ = false := (q62.frozen (p := ⟨w.heap.size + 1 + 1 + 1 + 1, 1, none⟩) y36).trans f59
  have f91 : w3.frozen? ⟨w.heap.size + 1 + 1 + 1 + 1, 2, none⟩ = false := (q62.frozen (p := ⟨w.heap.size + 1 + 1 + 1 + 1, 2, none⟩) y36).trans f60
  have f92 : w3.frozen? ⟨w.heap.size + 1 + 1 + 1 + 1, 3, none⟩ = false := (q62.frozen (p := ⟨w.heap.size + 1 + 1 + 1 + 1, 3, none⟩) y36).trans f61
  clear k38 k39 k40 k41 k42 k43 k44 k45 k46 k47 k48 k49 k50 k51 k52 k53 k54 k55 k56 k57 y32 y33 y34 y35 y36 y37 f58 f59 f60 f61
  go_wp2_with fail
  rw [rounds_succ]
  go_wp2_with fail
  refine (impl_FractionOk _ _ _).mono ?_
  rintro en w4 ⟨rfl, hx4⟩
  have q93 : Ext w3 w4 := ext_trans (ext_alloc (ext_refl _) _) hx4
  have y94 : w.heap.size < w4.heap.size := Nat.lt_of_lt_of_le y63 q93.size
  have y95 : w.heap.size + 1 < w4.heap.size := Nat.lt_of_lt_of_le y64 q93.size
  have y96 : w.heap.size + 1 + 1 < w4.heap.size := Nat.lt_of_lt_of_le y65 q93.size
  have y97 : w.heap.size + 1 + 1 + 1 < w4.heap.size := Nat.lt_of_lt_of_le y66 q93.size
  have y98 : w.heap.size + 1 + 1 + 1 + 1 < w4.heap.size := Nat.lt_of_lt_of_le y67 q93.size
  have y99 : w.heap.size + 1 + 1 + 1 + 1 + 1 < w4.heap.size := Nat.lt_of_lt_of_le y68 q93.size
  have k100 := ext_cell q93 k69
  have k101 := ext_cell q93 k70
  have k102 := ext_cell q93 k71
  have k103 := ext_cell q93 k72
  have k104 := ext_cell q93 k73
  have k105 := ext_cell q93 k74
  have k106 := ext_cell q93 k75
  have k107 := ext_cell q93 k76
  have k108 := ext_cell q93 k77
  have k109 := ext_cell q93 k78
  have k110 := ext_cell q93 k79
  have k111 := ext_cell q93 k80
  have k112 := ext_cell q93 k81
  have k113 := ext_cell q93 k82
  have k114 := ext_cell q93 k83
  have k115 := ext_cell q93 k84
  have k116 := ext_cell q93 k85
  have k117 := ext_cell q93 k86
  have k118 := ext_cell q93 k87
  have k119 := ext_cell q93 k88
  have f120 : w4.frozen? ⟨w.heap.size + 1 + 1 + 1 + 1, 0, none⟩ = false := (q93.frozen (p := ⟨w.heap.size + 1 + 1 + 1 + 1, 0, none⟩) y67).trans f89
  have f121 : w4.frozen? ⟨w.heap.size + 1 + 1 + 1 + 1, 1, none⟩ = false := (q93.frozen (p := ⟨w.heap.size + 1 + 1 + 1 + 1, 1, none⟩) y67).trans f90
  have f122 : w4.frozen? ⟨w.heap.size + 1 + 1 + 1 + 1, 2, none⟩ = false := (q93.frozen (p := ⟨w.heap.size + 1 + 1 + 1 + 1, 2, none⟩) y67).trans f91
  have f123 : w4.frozen? ⟨w.heap.size + 1 + 1 + 1 + 1, 3, none⟩ = false := (q93.frozen (p := ⟨w.heap.size + 1 + 1 + 1 + 1, 3, none⟩) y67).trans f92
  clear k69 k70 k71 k72 k73 k74 k75 k76 k77 k78 k79 k80 k81 k82 k83 k84 k85 k86 k87 k88 y63 y64 y65 y66 y67 y68 f89 f90 f91 f92
  go_wp2_with fail
  exact bodyPost_ret (v := .tuple #[lineV (0) (0) (0) (0), .bool false]) (by simp [results, Try.results28, go_sem, k108, k109, k110, k111]) rfl ⟨rfl, (by repeat (first | (with_reducible exact ext_refl _) | (with_reducible refine ext_setCell ?_ ?_ _) | (with_reducible refine ext_alloc ?_ _) | (with_reducible refine ext_drewN ?_ _) | (with_reducible refine ext_drew ?_) | (with_reducible refine ext_trans ?_ (by assumption)) | (dsimp only; omega) | omega | (simp; omega)))⟩
set_option maxHeartbeats 6400000 in
theorem impl_LT_same (a b c d g h : Int) (w : World) (h0 : fracOk a b = true) (h1 : fracOk c d = true) (h3 : fracOk g h = true) :
    Calls Try.prog 28 #[.agg #[.int .i64 a, .int .i64 b], .agg #[.int .i64 c, .int .i64 d], .agg #[.int .i64 a, .int .i64 b], .agg #[.int .i64 g, .int .i64 h]] w fun en w' => en = lineR 0 0 0 0 false ∧ Ext w w' := by
  go_enter Try.func28, Try.ntmps28
  go_wp2_with fail
  refine wp_loop_rounds 5 ?_
  rw [rounds_succ]
  go_wp2_with fail
  refine (impl_FractionOk _ _ _).mono ?_
  rintro en w1 ⟨rfl, hx1⟩
  have y1 : w.heap.size < w1.heap.size := by have := hx1.size; simp at this; omega
  have k2 := ext_cell hx1 (b := w.heap.size) (off := 0) (v := .int .i64 (a)) (by go_simp)
  have k3 := ext_cell hx1 (b := w.heap.size) (off := 1) (v := .int .i64 (b)) (by go_simp)
  have y4 : w.heap.size + 1 < w1.heap.size := by have := hx1.size; simp at this; omega
  have k5 := ext_cell hx1 (b := w.heap.size + 1) (off := 0) (v := .int .i64 (c)) (by go_simp)
  have k6 := ext_cell hx1 (b := w.heap.size + 1) (off := 1) (v := .int .i64 (d)) (by go_simp)
  have y7 : w.heap.size + 1 + 1 < w1.heap.size := by have := hx1.size; simp at this; omega
  have k8 := ext_cell hx1 (b := w.heap.size + 1 + 1) (off := 0) (v := .int .i64 (a)) (by go_simp)
  have k9 := ext_cell hx1 (b := w.heap.size + 1 + 1) (off := 1) (v := .int .i64 (b)) (by go_simp)
  have y10 : w.heap.size + 1 + 1 + 1 < w1.heap.size := by have := hx1.size; simp at this; omega
  have k11 := ext_cell hx1 (b := w.heap.size + 1 + 1 + 1) (off := 0) (v := .int .i64 (g)) (by go_simp)
  have k12 := ext_cell hx1 (b := w.heap.size + 1 + 1 + 1) (off := 1) (v := .int .i64 (h)) (by go_simp)
  have y13 : w.heap.size + 1 + 1 + 1 + 1 < w1.heap.size := by have := hx1.size; simp at this; omega
  have k14 := ext_cell hx1 (b := w.heap.size + 1 + 1 + 1 + 1) (off := 0) (v := .int .i64 (0)) (by go_simp)
  have k15 := ext_cell hx1 (b := w.heap.size + 1 + 1 + 1 + 1) (off := 1) (v := .int .i64 (0)) (by go_simp)
  have k16 := ext_cell hx1 (b := w.heap.size + 1 + 1 + 1 + 1) (off := 2) (v := .int .i64 (0)) (by go_simp)
  have k17 := ext_cell hx1 (b := w.heap.size + 1 + 1 + 1 + 1) (off := 3) (v := .int .i64 (0)) (by go_simp)
  have f18 : w1.frozen? ⟨w.heap.size + 1 + 1 + 1 + 1, 0, none⟩ = false := by rw [hx1.frozen (p := ⟨w.heap.size + 1 + 1 + 1 + 1, 0, none⟩) (by simp; try omega)]; go_simp
  have f19 : w1.frozen? ⟨w.heap.size + 1 + 1 + 1 + 1, 1, none⟩ = false := by rw [hx1.frozen (p := ⟨w.heap.size + 1 + 1 + 1 + 1, 1, none⟩) (by simp; try omega)]; go_simp
  have f20 : w1.frozen? ⟨w.heap.size + 1 + 1 + 1 + 1, 2, none⟩ = false := by rw [hx1.frozen (p := ⟨w.heap.size + 1 + 1 + 1 + 1, 2, none⟩) (by simp; try omega)]; go_simp
  have f21 : w1.frozen? ⟨w.heap.size + 1 + 1 + 1 + 1, 3, none⟩ = false := by rw [hx1.frozen (p := ⟨w.heap.size + 1 + 1 + 1 + 1, 3, none⟩) (by simp; try omega)]; go_simp
  have y22 : w.heap.size + 1 + 1 + 1 + 1 + 1 < w1.heap.size := by have := hx1.size; simp at this; omega
  have k23 := ext_cell hx1 (b := w.heap.size + 1 + 1 + 1 + 1 + 1) (off := 0) (v := .int .i64 (a)) (by go_simp)
  have k24 := ext_cell hx1 (b := w.heap.size + 1 + 1 + 1 + 1 + 1) (off := 1) (v := .int .i64 (b)) (by go_simp)
  have k25 := ext_cell hx1 (b := w.heap.size + 1 + 1 + 1 + 1 + 1) (off := 2) (v := .int .i64 (c)) (by go_simp)
  have k26 := ext_cell hx1 (b := w.heap.size + 1 + 1 + 1 + 1 + 1) (off := 3) (v := .int .i64 (d)) (by go_simp)
  have k27 := ext_cell hx1 (b := w.heap.size + 1 + 1 + 1 + 1 + 1) (off := 4) (v := .int .i64 (a)) (by go_simp)
  have k28 := ext_cell hx1 (b := w.heap.size + 1 + 1 + 1 + 1 + 1) (off := 5) (v := .int .i64 (b)) (by go_simp)
  have k29 := ext_cell hx1 (b := w.heap.size + 1 + 1 + 1 + 1 + 1) (off := 6) (v := .int .i64 (g)) (by go_simp)
  have k30 := ext_cell hx1 (b := w.heap.size + 1 + 1 + 1 + 1 + 1) (off := 7) (v := .int .i64 (h)) (by go_simp)
  go_wp2_with fail
  rw [rounds_succ]
  go_wp2_with fail
  refine (impl_FractionOk _ _ _).mono ?_
  rintro en w2 ⟨rfl, hx2⟩
  have q31 : Ext w1 w2 := ext_trans (ext_alloc (ext_refl _) _) hx2
  have y32 : w.heap.size < w2.heap.size := Nat.lt_of_lt_of_le y1 q31.size
  have y33 : w.heap.size + 1 < w2.heap.size := Nat.lt_of_lt_of_le y4 q31.size
  have y34 : w.heap.size + 1 + 1 < w2.heap.size := Nat.lt_of_lt_of_le y7 q31.size
  have y35 : w.heap.size + 1 + 1 + 1 < w2.heap.size := Nat.lt_of_lt_of_le y10 q31.size
  have y36 : w.heap.size + 1 + 1 + 1 + 1 < w2.heap.size := Nat.lt_of_lt_of_le y13 q31.size
  have y37 : w.heap.size + 1 + 1 + 1 + 1 + 1 < w2.heap.size := Nat.lt_of_lt_of_le y22 q31.size
  have k38 := ext_cell q31 k2
  have k39 := ext_cell q31 k3
  have k40 := ext_cell q31 k5
  have k41 := ext_cell q31 k6
  have k42 := ext_cell q31 k8
  have k43 := ext_cell q31 k9
  have k44 := ext_cell q31 k11
  have k45 := ext_cell q31 k12
  have k46 := ext_cell q31 k14
  have k47 := ext_cell q31 k15
  have k48 := ext_cell q31 k16
  have k49 := ext_cell q31 k17
  have k50 := ext_cell q31 k23
  have k51 := ext_cell q31 k24
  have k52 := ext_cell q31 k25
  have k53 := ext_cell q31 k26
  have k54 := ext_cell q31 k27
  have k55 := ext_cell q31 k28
  have k56 := ext_cell q31 k29
  have k57 := ext_cell q31 k30
  have f58 : w2.frozen? ⟨w.heap.size + 1 + 1 + 1 + 1, 0, none⟩ = false := (q31.frozen (p := ⟨w.heap.size + 1 + 1 + 1 + 1, 0, none⟩) y13).trans f18
  have f59 : w2.frozen? ⟨w.heap.size + 1 + 1 + 1 + 1, 1, none⟩ = false := (q31.frozen (p := ⟨w.heap.size + 1 + 1 + 1 + 1, 1, none⟩) y13).trans f19
  have f60 : w2.frozen? ⟨w.heap.size + 1 + 1 + 1 + 1, 2, none⟩ = false := (q31.frozen (p := ⟨w.heap.size + 1 + 1 + 1 + 1, 2, none⟩) y13).trans f20
  have f61 : w2.frozen? ⟨w.heap.size + 1 + 1 + 1 + 1, 3, none⟩ = false := (q31.frozen (p := ⟨w.heap.size + 1 + 1 + 1 + 1, 3, none⟩) y13).trans f21
  clear k2 k3 k5 k6 k8 k9 k11 k12 k14 k15 k16 k17 k23 k24 k25 k26 k27 k28 k29 k30 y1 y4 y7 y10 y13 y22 f18 f19 f20 f21
  go_wp2_with fail
  rw [rounds_succ]
  go_wp2_with fail
  refine (impl_FractionOk _ _ _).mono ?_
  rintro en w3 ⟨rfl, hx3⟩
  have q62 : Ext w2 w3 := ext_trans (ext_alloc (ext_refl _) _) hx3
  have y63 : w.heap.size < w3.heap.size := Nat.lt_of_lt_of_le y32 q62.size
  have y64 : w.heap.size + 1 < w3.heap.size := Nat.lt_of_lt_of_le y33 q62.size
  have y65 : w.heap.size + 1 + 1 < w3.heap.size := Nat.lt_of_lt_of_le y34 q62.size
  have y66 : w.heap.size + 1 + 1 + 1 < w3.heap.size := Nat.lt_of_lt_of_le y35 q62.size
  have y67 : w.heap.size + 1 + 1 + 1 + 1 < w3.heap.size := Nat.lt_of_lt_of_le y36 q62.size
  have y68 : w.heap.size + 1 + 1 + 1 + 1 + 1 < w3.heap.size := Nat.lt_of_lt_of_le y37 q62.size
  have k69 := ext_cell q62 k38
  have k70 := ext_cell q62 k39
  have k71 := ext_cell q62 k40
  have k72 := ext_cell q62 k41
  have k73 := ext_cell q62 k42
  have k74 := ext_cell q62 k43
  have k75 := ext_cell q62 k44
  have k76 := ext_cell q62 k45
  have k77 := ext_cell q62 k46
  have k78 := ext_cell q62 k47
  have k79 := ext_cell q62 k48
  have k80 := ext_cell q62 k49
  have k81 := ext_cell q62 k50
  have k82 := ext_cell q62 k51
  have k83 := ext_cell q62 k52
  have k84 := ext_cell q62 k53
  have k85 := ext_cell q62 k54
  have k86 := ext_cell q62 k55
  have k87 := ext_cell q62 k56
  have k88 := ext_cell q62 k57
  have f89 : w3.frozen? ⟨w.heap.size + 1 + 1 + 1 + 1, 0, none⟩ = false := (q62.frozen (p := ⟨w.heap.size + 1 + 1 + 1 + 1, 0, none⟩) y36).trans f58
  have f90 : w3.frozen? ⟨w.heap.size + 1 + 1 + 1 + 1, 1, none⟩ = false := (q62.frozen (p := ⟨w.heap.size + 1 + 1 + 1 + 1, 1, none⟩) y36).trans f59
  have f91 : w3.frozen? ⟨w.heap.size + 1 + 1 + 1 + 1, 2, none⟩ = false := (q62.frozen (p := ⟨w.heap.size + 1 + 1 + 1 + 1, 2, none⟩) y36).trans f60
  have f92 : w3.frozen? ⟨w.heap.size + 1 + 1 + 1 + 1, 3, none⟩ = false := (q62.frozen (p := ⟨w.heap.size + 1 + 1 + 1 + 1, 3, none⟩) y36).trans f61
  clear k38 k39 k40 k41 k42 k43 k44 k45 k46 k47 k48 k49 k50 k51 k52 k53 k54 k55 k56 k57 y32 y33 y34 y35 y36 y37 f58 f59 f60 f61
  go_wp2_with fail
  rw [rounds_succ]
  go_wp2_with fail
  refine (impl_FractionOk _ _ _).mono ?_
  rintro en w4 ⟨rfl, hx4⟩
  have q93 : Ext w3 w4 := ext_trans (ext_alloc (ext_refl _) _) hx4
  have y94 : w.heap.size < w4.heap.size := Nat.lt_of_lt_of_le y63 q93.size
  have y95 : w.heap.size + 1 < w4.heap.size := Nat.lt_of_lt_of_le y64 q93.size
  have y96 : w.heap.size + 1 + 1 < w4.heap.size := Nat.lt_of_lt_of_le y65 q93.size
  have y97 : w.heap.size + 1 + 1 + 1 < w4.heap.size := Nat.lt_of_lt_of_le y66 q93.size
  have y98 : w.heap.size + 1 + 1 + 1 + 1 < w4.heap.size := Nat.lt_of_lt_of_le y67 q93.size
  have y99 : w.heap.size + 1 + 1 + 1 + 1 + 1 < w4.heap.size := Nat.lt_of_lt_of_le y68 q93.size
  have k100 := ext_cell q93 k69
  have k101 := ext_cell q93 k70
  have k102 := ext_cell q93 k71
  have k103 := ext_cell q93 k72
  have k104 := ext_cell q93 k73
  have k105 := ext_cell q93 k74
  have k106 := ext_cell q93 k75
  have k107 := ext_cell q93 k76
  have k108 := ext_cell q93 k77
  have k109 := ext_cell q93 k78
  have k110 := ext_cell q93 k79
  have k111 := ext_cell q93 k80
  have k112 := ext_cell q93 k81
  have k113 := ext_cell q93 k82
  have k114 := ext_cell q93 k83
  have k115 := ext_cell q93 k84
  have k116 := ext_cell q93 k85
  have k117 := ext_cell q93 k86
  have k118 := ext_cell q93 k87
  have k119 := ext_cell q93 k88
  have f120 : w4.frozen? ⟨w.heap.size + 1 + 1 + 1 + 1, 0, none⟩ = false := (q93.frozen (p := ⟨w.heap.size + 1 + 1 + 1 + 1, 0, none⟩) y67).trans f89
  have f121 : w4.frozen? ⟨w.heap.size + 1 + 1 + 1 + 1, 1, none⟩ = false := (q93.frozen (p := ⟨w.heap.size + 1 + 1 + 1 + 1, 1, none⟩) y67).trans f90
  have f122 : w4.frozen? ⟨w.heap.size + 1 + 1 + 1 + 1, 2, none⟩ = false := (q93.frozen (p := ⟨w.heap.size + 1 + 1 + 1 + 1, 2, none⟩) y67).trans f91
  have f123 : w4.frozen? ⟨w.heap.size + 1 + 1 + 1 + 1, 3, none⟩ = false := (q93.frozen (p := ⟨w.heap.size + 1 + 1 + 1 + 1, 3, none⟩) y67).trans f92
  clear k69 k70 k71 k72 k73 k74 k75 k76 k77 k78 k79 k80 k81 k82 k83 k84 k85 k86 k87 k88 y63 y64 y65 y66 y67 y68 f89 f90 f91 f92
  go_wp2_with fail
  rw [rounds_succ]
  go_wp2_with fail
  exact bodyPost_ret (v := .tuple #[lineV (0) (0) (0) (0), .bool false]) (by simp [results, Try.results28, go_sem, k108, k109, k110, k111]) rfl ⟨rfl, (by repeat (first | (with_reducible exact ext_refl _) | (with_reducible refine ext_setCell ?_ ?_ _) | (with_reducible refine ext_alloc ?_ _) | (with_reducible refine ext_drewN ?_ _) | (with_reducible refine ext_drew ?_) | (with_reducible refine ext_trans ?_ (by assumption)) | (dsimp only; omega) | omega | (simp; omega)))⟩
end Go.Proofs.Ytefgdkjcoeikmaa
