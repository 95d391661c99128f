/- The reference's line through two points: one way of the walk a theorem. No condition. -/
import Derived.Test.YtnafpciionmbbaaLine7
import Derived.Deep.RegionHeld3
import Derived.Deep.DeepCutAuto
namespace Go.Proofs.Ytnafpciionmbbaa
open Go.ChangeShapes Go.WideShapes Go.ChangeAt Go.RowKit
set_option linter.unusedVariables false
set_option linter.unusedSimpArgs false

set_option maxHeartbeats 6400000 in
set_option maxRecDepth 100000 in
theorem spec_LT_d1c0 (e b c d f g h : Int) (w : World) (h0 : fracOk e b = true) (h1 : fracOk c d = true) (h2 : fracOk e f = true) (h3 : fracOk g h = true) (h4 : ¬ b = f) (q0 : suOk e f e b = false) :
    Calls Try.prog 101 #[.agg #[.int .i64 e, .int .i64 b], .agg #[.int .i64 c, .int .i64 d], .agg #[.int .i64 e, .int .i64 f], .agg #[.int .i64 g, .int .i64 h]] w fun en w' => en = lineR 0 0 0 0 false ∧ Ext w w' := by
  have Q0 := Lib.hid q0
  clear q0
  go_enter Try.func101, Try.ntmps101
  go_wp2_with fail
  refine (spec_FractionOk _ _ _).mono ?_
  rintro en w1 ⟨rfl, hx1⟩
  have y1 : w.heap.size < w1.heap.size := by have := hx1.size; simp at this; omega
  have k2 := ext_cell hx1 (b := w.heap.size) (off := 0) (v := .int .i64 (e)) (by go_simp)
  have k3 := ext_cell hx1 (b := w.heap.size) (off := 1) (v := .int .i64 (b)) (by go_simp)
  have y4 : w.heap.size + 1 < w1.heap.size := by have := hx1.size; simp at this; omega
  have k5 := ext_cell hx1 (b := w.heap.size + 1) (off := 0) (v := .int .i64 (c)) (by go_simp)
  have k6 := ext_cell hx1 (b := w.heap.size + 1) (off := 1) (v := .int .i64 (d)) (by go_simp)
  have y7 : w.heap.size + 1 + 1 < w1.heap.size := by have := hx1.size; simp at this; omega
  have k8 := ext_cell hx1 (b := w.heap.size + 1 + 1) (off := 0) (v := .int .i64 (e)) (by go_simp)
  have k9 := ext_cell hx1 (b := w.heap.size + 1 + 1) (off := 1) (v := .int .i64 (f)) (by go_simp)
  have y10 : w.heap.size + 1 + 1 + 1 < w1.heap.size := by have := hx1.size; simp at this; omega
  have k11 := ext_cell hx1 (b := w.heap.size + 1 + 1 + 1) (off := 0) (v := .int .i64 (g)) (by go_simp)
  have k12 := ext_cell hx1 (b := w.heap.size + 1 + 1 + 1) (off := 1) (v := .int .i64 (h)) (by go_simp)
  have y13 : w.heap.size + 1 + 1 + 1 + 1 < w1.heap.size := by have := hx1.size; simp at this; omega
  have k14 := ext_cell hx1 (b := w.heap.size + 1 + 1 + 1 + 1) (off := 0) (v := .int .i64 (0)) (by go_simp)
  have k15 := ext_cell hx1 (b := w.heap.size + 1 + 1 + 1 + 1) (off := 1) (v := .int .i64 (0)) (by go_simp)
  have k16 := ext_cell hx1 (b := w.heap.size + 1 + 1 + 1 + 1) (off := 2) (v := .int .i64 (0)) (by go_simp)
  have k17 := ext_cell hx1 (b := w.heap.size + 1 + 1 + 1 + 1) (off := 3) (v := .int .i64 (0)) (by go_simp)
  have f18 : w1.frozen? ⟨w.heap.size + 1 + 1 + 1 + 1, 0, none⟩ = false := by rw [hx1.frozen (p := ⟨w.heap.size + 1 + 1 + 1 + 1, 0, none⟩) (by simp; try omega)]; go_simp
  have f19 : w1.frozen? ⟨w.heap.size + 1 + 1 + 1 + 1, 1, none⟩ = false := by rw [hx1.frozen (p := ⟨w.heap.size + 1 + 1 + 1 + 1, 1, none⟩) (by simp; try omega)]; go_simp
  have f20 : w1.frozen? ⟨w.heap.size + 1 + 1 + 1 + 1, 2, none⟩ = false := by rw [hx1.frozen (p := ⟨w.heap.size + 1 + 1 + 1 + 1, 2, none⟩) (by simp; try omega)]; go_simp
  have f21 : w1.frozen? ⟨w.heap.size + 1 + 1 + 1 + 1, 3, none⟩ = false := by rw [hx1.frozen (p := ⟨w.heap.size + 1 + 1 + 1 + 1, 3, none⟩) (by simp; try omega)]; go_simp
  go_wp2_with fail
  refine (spec_FractionOk _ _ _).mono ?_
  rintro en w2 ⟨rfl, hx2⟩
  have q22 : Ext w1 w2 := hx2
  have y23 : w.heap.size < w2.heap.size := Nat.lt_of_lt_of_le y1 q22.size
  have y24 : w.heap.size + 1 < w2.heap.size := Nat.lt_of_lt_of_le y4 q22.size
  have y25 : w.heap.size + 1 + 1 < w2.heap.size := Nat.lt_of_lt_of_le y7 q22.size
  have y26 : w.heap.size + 1 + 1 + 1 < w2.heap.size := Nat.lt_of_lt_of_le y10 q22.size
  have y27 : w.heap.size + 1 + 1 + 1 + 1 < w2.heap.size := Nat.lt_of_lt_of_le y13 q22.size
  have k28 := ext_cell q22 k2
  have k29 := ext_cell q22 k3
  have k30 := ext_cell q22 k5
  have k31 := ext_cell q22 k6
  have k32 := ext_cell q22 k8
  have k33 := ext_cell q22 k9
  have k34 := ext_cell q22 k11
  have k35 := ext_cell q22 k12
  have k36 := ext_cell q22 k14
  have k37 := ext_cell q22 k15
  have k38 := ext_cell q22 k16
  have k39 := ext_cell q22 k17
  have f40 : w2.frozen? ⟨w.heap.size + 1 + 1 + 1 + 1, 0, none⟩ = false := (q22.frozen (p := ⟨w.heap.size + 1 + 1 + 1 + 1, 0, none⟩) y13).trans f18
  have f41 : w2.frozen? ⟨w.heap.size + 1 + 1 + 1 + 1, 1, none⟩ = false := (q22.frozen (p := ⟨w.heap.size + 1 + 1 + 1 + 1, 1, none⟩) y13).trans f19
  have f42 : w2.frozen? ⟨w.heap.size + 1 + 1 + 1 + 1, 2, none⟩ = false := (q22.frozen (p := ⟨w.heap.size + 1 + 1 + 1 + 1, 2, none⟩) y13).trans f20
  have f43 : w2.frozen? ⟨w.heap.size + 1 + 1 + 1 + 1, 3, none⟩ = false := (q22.frozen (p := ⟨w.heap.size + 1 + 1 + 1 + 1, 3, none⟩) y13).trans f21
  clear k2 k3 k5 k6 k8 k9 k11 k12 k14 k15 k16 k17 y1 y4 y7 y10 y13 f18 f19 f20 f21
  go_wp2_with fail
  refine (spec_FractionOk _ _ _).mono ?_
  rintro en w3 ⟨rfl, hx3⟩
  have q44 : Ext w2 w3 := hx3
  have y45 : w.heap.size < w3.heap.size := Nat.lt_of_lt_of_le y23 q44.size
  have y46 : w.heap.size + 1 < w3.heap.size := Nat.lt_of_lt_of_le y24 q44.size
  have y47 : w.heap.size + 1 + 1 < w3.heap.size := Nat.lt_of_lt_of_le y25 q44.size
  have y48 : w.heap.size + 1 + 1 + 1 < w3.heap.size := Nat.lt_of_lt_of_le y26 q44.size
  have y49 : w.heap.size + 1 + 1 + 1 + 1 < w3.heap.size := Nat.lt_of_lt_of_le y27 q44.size
  have k50 := ext_cell q44 k28
  have k51 := ext_cell q44 k29
  have k52 := ext_cell q44 k30
  have k53 := ext_cell q44 k31
  have k54 := ext_cell q44 k32
  have k55 := ext_cell q44 k33
  have k56 := ext_cell q44 k34
  have k57 := ext_cell q44 k35
  have k58 := ext_cell q44 k36
  have k59 := ext_cell q44 k37
  have k60 := ext_cell q44 k38
  have k61 := ext_cell q44 k39
  have f62 : w3.frozen? ⟨w.heap.size + 1 + 1 + 1 + 1, 0, none⟩ = false := (q44.frozen (p := ⟨w.heap.size + 1 + 1 + 1 + 1, 0, none⟩) y27).trans f40
  have f63 : w3.frozen? ⟨w.heap.size + 1 + 1 + 1 + 1, 1, none⟩ = false := (q44.frozen (p := ⟨w.heap.size + 1 + 1 + 1 + 1, 1, none⟩) y27).trans f41
  have f64 : w3.frozen? ⟨w.heap.size + 1 + 1 + 1 + 1, 2, none⟩ = false := (q44.frozen (p := ⟨w.heap.size + 1 + 1 + 1 + 1, 2, none⟩) y27).trans f42
  have f65 : w3.frozen? ⟨w.heap.size + 1 + 1 + 1 + 1, 3, none⟩ = false := (q44.frozen (p := ⟨w.heap.size + 1 + 1 + 1 + 1, 3, none⟩) y27).trans f43
  clear k28 k29 k30 k31 k32 k33 k34 k35 k36 k37 k38 k39 y23 y24 y25 y26 y27 f40 f41 f42 f43
  go_wp2_with fail
  refine (spec_FractionOk _ _ _).mono ?_
  rintro en w4 ⟨rfl, hx4⟩
  have q66 : Ext w3 w4 := hx4
  have y67 : w.heap.size < w4.heap.size := Nat.lt_of_lt_of_le y45 q66.size
  have y68 : w.heap.size + 1 < w4.heap.size := Nat.lt_of_lt_of_le y46 q66.size
  have y69 : w.heap.size + 1 + 1 < w4.heap.size := Nat.lt_of_lt_of_le y47 q66.size
  have y70 : w.heap.size + 1 + 1 + 1 < w4.heap.size := Nat.lt_of_lt_of_le y48 q66.size
  have y71 : w.heap.size + 1 + 1 + 1 + 1 < w4.heap.size := Nat.lt_of_lt_of_le y49 q66.size
  have k72 := ext_cell q66 k50
  have k73 := ext_cell q66 k51
  have k74 := ext_cell q66 k52
  have k75 := ext_cell q66 k53
  have k76 := ext_cell q66 k54
  have k77 := ext_cell q66 k55
  have k78 := ext_cell q66 k56
  have k79 := ext_cell q66 k57
  have k80 := ext_cell q66 k58
  have k81 := ext_cell q66 k59
  have k82 := ext_cell q66 k60
  have k83 := ext_cell q66 k61
  have f84 : w4.frozen? ⟨w.heap.size + 1 + 1 + 1 + 1, 0, none⟩ = false := (q66.frozen (p := ⟨w.heap.size + 1 + 1 + 1 + 1, 0, none⟩) y49).trans f62
  have f85 : w4.frozen? ⟨w.heap.size + 1 + 1 + 1 + 1, 1, none⟩ = false := (q66.frozen (p := ⟨w.heap.size + 1 + 1 + 1 + 1, 1, none⟩) y49).trans f63
  have f86 : w4.frozen? ⟨w.heap.size + 1 + 1 + 1 + 1, 2, none⟩ = false := (q66.frozen (p := ⟨w.heap.size + 1 + 1 + 1 + 1, 2, none⟩) y49).trans f64
  have f87 : w4.frozen? ⟨w.heap.size + 1 + 1 + 1 + 1, 3, none⟩ = false := (q66.frozen (p := ⟨w.heap.size + 1 + 1 + 1 + 1, 3, none⟩) y49).trans f65
  clear k50 k51 k52 k53 k54 k55 k56 k57 k58 k59 k60 k61 y45 y46 y47 y48 y49 f62 f63 f64 f65
  have HKSD88 : Hid (∀ wb, Ext w4 wb → (Ext w4 wb ∧ wb.cell? ⟨w.heap.size, 0, none⟩ = some (.int .i64 (e)) ∧ wb.cell? ⟨w.heap.size, 1, none⟩ = some (.int .i64 (b)) ∧ wb.cell? ⟨w.heap.size + 1 + 1, 0, none⟩ = some (.int .i64 (e)) ∧ wb.cell? ⟨w.heap.size + 1 + 1, 1, none⟩ = some (.int .i64 (f)))) := fun wb h => ⟨h, ext_cell h k72, ext_cell h k73, ext_cell h k76, ext_cell h k77⟩
  go_upto_region 3 with fail
  go_cut [10, 11] (fun s10 s11 wx => ∃ gq : Nat, s10 = .pointer (some ⟨gq, 0, none⟩) ∧ s11 = .bool (suOk e f e b) ∧ wx.cell? ⟨gq, 0, none⟩ = some (.int .i64 (suT e f e b)) ∧ wx.cell? ⟨gq, 1, none⟩ = some (.int .i64 (suB e f e b)) ∧ Ext w4 wx)
  case first =>
    go_region_held3 (fun w' => Ext w4 w' ∧ w'.cell? ⟨w.heap.size, 0, none⟩ = some (.int .i64 (e)) ∧ w'.cell? ⟨w.heap.size, 1, none⟩ = some (.int .i64 (b)) ∧ w'.cell? ⟨w.heap.size + 1 + 1, 0, none⟩ = some (.int .i64 (e)) ∧ w'.cell? ⟨w.heap.size + 1 + 1, 1, none⟩ = some (.int .i64 (f)))
      ((refine HKSD88.out _ ?_; repeat (first | (with_reducible exact ext_refl _) | (with_reducible refine ext_drew ?_) | (with_reducible refine ext_setCell ?_ ?_ _) | (with_reducible refine ext_alloc ?_ _) | (with_reducible refine ext_trans ?_ (by assumption)) | ((try dsimp only); with_reducible exact Nat.le_refl _) | ((try dsimp only); with_reducible refine ext_size ?_))))
      (first
        | (go_at_call 124; refine (spec_l17Minus _ _ _).mono ?_; rintro e w3 ⟨rfl, hx3⟩; obtain ⟨hc3, hf3, hn3⟩ := bcell3 hx3; first | (have hz4 := hn3 _ hz4) | (have hz := ext_size hx3; simp at hz; have hz4 := Nat.lt_of_succ_le hz) | skip)
        | (go_at_call 123; refine (spec_Add_su _ _ _ _ _).mono ?_; rintro e w3 ⟨rfl, hx3⟩; obtain ⟨hc3, hf3, hn3⟩ := bcell3 hx3; first | (have hz4 := hn3 _ hz4) | (have hz := ext_size hx3; simp at hz; have hz4 := Nat.lt_of_succ_le hz) | skip))
    all_goals
      go_wp2_with fail
      go_meet
      refine ⟨_, rfl, rfl, ?_, ?_, ?_⟩
      · first | (go_simp; rfl) | go_simp
      · first | (go_simp; rfl) | go_simp
      · repeat (first | (with_reducible exact ext_refl _) | (with_reducible refine ext_drew ?_) | (with_reducible refine ext_setCell ?_ ?_ _) | (with_reducible refine ext_alloc ?_ _) | (with_reducible refine ext_trans ?_ (by assumption)) | ((try dsimp only); with_reducible exact Nat.le_refl _) | ((try dsimp only); with_reducible refine ext_size ?_))
  obtain ⟨g1, rfl, rfl, paD88, pbD88, hxD88⟩ := hcut
  obtain ⟨w5, rfl⟩ : ∃ x : World, x = wc := ⟨_, rfl⟩
  clear HKSD88
  have q89 : Ext w4 w5 := hxD88
  have y90 : w.heap.size < w5.heap.size := Nat.lt_of_lt_of_le y67 q89.size
  have y91 : w.heap.size + 1 < w5.heap.size := Nat.lt_of_lt_of_le y68 q89.size
  have y92 : w.heap.size + 1 + 1 < w5.heap.size := Nat.lt_of_lt_of_le y69 q89.size
  have y93 : w.heap.size + 1 + 1 + 1 < w5.heap.size := Nat.lt_of_lt_of_le y70 q89.size
  have y94 : w.heap.size + 1 + 1 + 1 + 1 < w5.heap.size := Nat.lt_of_lt_of_le y71 q89.size
  have k95 := ext_cell q89 k72
  have k96 := ext_cell q89 k73
  have k97 := ext_cell q89 k74
  have k98 := ext_cell q89 k75
  have k99 := ext_cell q89 k76
  have k100 := ext_cell q89 k77
  have k101 := ext_cell q89 k78
  have k102 := ext_cell q89 k79
  have k103 := ext_cell q89 k80
  have k104 := ext_cell q89 k81
  have k105 := ext_cell q89 k82
  have k106 := ext_cell q89 k83
  have f107 : w5.frozen? ⟨w.heap.size + 1 + 1 + 1 + 1, 0, none⟩ = false := (q89.frozen (p := ⟨w.heap.size + 1 + 1 + 1 + 1, 0, none⟩) y71).trans f84
  have f108 : w5.frozen? ⟨w.heap.size + 1 + 1 + 1 + 1, 1, none⟩ = false := (q89.frozen (p := ⟨w.heap.size + 1 + 1 + 1 + 1, 1, none⟩) y71).trans f85
  have f109 : w5.frozen? ⟨w.heap.size + 1 + 1 + 1 + 1, 2, none⟩ = false := (q89.frozen (p := ⟨w.heap.size + 1 + 1 + 1 + 1, 2, none⟩) y71).trans f86
  have f110 : w5.frozen? ⟨w.heap.size + 1 + 1 + 1 + 1, 3, none⟩ = false := (q89.frozen (p := ⟨w.heap.size + 1 + 1 + 1 + 1, 3, none⟩) y71).trans f87
  clear k72 k73 k74 k75 k76 k77 k78 k79 k80 k81 k82 k83 y67 y68 y69 y70 y71 f84 f85 f86 f87
  have y111 : g1 < w5.heap.size := World.block_lt_of_cell? _ _ paD88
  have HKSD112 : Hid (∀ wb, Ext w5 wb → (Ext w5 wb ∧ wb.cell? ⟨w.heap.size + 1, 0, none⟩ = some (.int .i64 (c)) ∧ wb.cell? ⟨w.heap.size + 1, 1, none⟩ = some (.int .i64 (d)) ∧ wb.cell? ⟨w.heap.size + 1 + 1 + 1, 0, none⟩ = some (.int .i64 (g)) ∧ wb.cell? ⟨w.heap.size + 1 + 1 + 1, 1, none⟩ = some (.int .i64 (h)))) := fun wb h => ⟨h, ext_cell h k97, ext_cell h k98, ext_cell h k101, ext_cell h k102⟩
  go_upto_region 4 with fail
  go_cut [12, 13] (fun s12 s13 wx => ∃ gq : Nat, s12 = .pointer (some ⟨gq, 0, none⟩) ∧ s13 = .bool (suOk g h c d) ∧ wx.cell? ⟨gq, 0, none⟩ = some (.int .i64 (suT g h c d)) ∧ wx.cell? ⟨gq, 1, none⟩ = some (.int .i64 (suB g h c d)) ∧ Ext w5 wx)
  case first =>
    go_region_held3 (fun w' => Ext w5 w' ∧ w'.cell? ⟨w.heap.size + 1, 0, none⟩ = some (.int .i64 (c)) ∧ w'.cell? ⟨w.heap.size + 1, 1, none⟩ = some (.int .i64 (d)) ∧ w'.cell? ⟨w.heap.size + 1 + 1 + 1, 0, none⟩ = some (.int .i64 (g)) ∧ w'.cell? ⟨w.heap.size + 1 + 1 + 1, 1, none⟩ = some (.int .i64 (h)))
      ((refine HKSD112.out _ ?_; repeat (first | (with_reducible exact ext_refl _) | (with_reducible refine ext_drew ?_) | (with_reducible refine ext_setCell ?_ ?_ _) | (with_reducible refine ext_alloc ?_ _) | (with_reducible refine ext_trans ?_ (by assumption)) | ((try dsimp only); with_reducible exact Nat.le_refl _) | ((try dsimp only); with_reducible refine ext_size ?_))))
      (first
        | (go_at_call 124; refine (spec_l17Minus _ _ _).mono ?_; rintro e w3 ⟨rfl, hx3⟩; obtain ⟨hc3, hf3, hn3⟩ := bcell3 hx3; first | (have hz4 := hn3 _ hz4) | (have hz := ext_size hx3; simp at hz; have hz4 := Nat.lt_of_succ_le hz) | skip)
        | (go_at_call 123; refine (spec_Add_su _ _ _ _ _).mono ?_; rintro e w3 ⟨rfl, hx3⟩; obtain ⟨hc3, hf3, hn3⟩ := bcell3 hx3; first | (have hz4 := hn3 _ hz4) | (have hz := ext_size hx3; simp at hz; have hz4 := Nat.lt_of_succ_le hz) | skip))
    all_goals
      go_wp2_with fail
      go_meet
      refine ⟨_, rfl, rfl, ?_, ?_, ?_⟩
      · first | (go_simp; rfl) | go_simp
      · first | (go_simp; rfl) | go_simp
      · repeat (first | (with_reducible exact ext_refl _) | (with_reducible refine ext_drew ?_) | (with_reducible refine ext_setCell ?_ ?_ _) | (with_reducible refine ext_alloc ?_ _) | (with_reducible refine ext_trans ?_ (by assumption)) | ((try dsimp only); with_reducible exact Nat.le_refl _) | ((try dsimp only); with_reducible refine ext_size ?_))
  obtain ⟨g2, rfl, rfl, paD112, pbD112, hxD112⟩ := hcut
  obtain ⟨w6, rfl⟩ : ∃ x : World, x = wc := ⟨_, rfl⟩
  clear HKSD112
  have q113 : Ext w5 w6 := hxD112
  have y114 : w.heap.size < w6.heap.size := Nat.lt_of_lt_of_le y90 q113.size
  have y115 : w.heap.size + 1 < w6.heap.size := Nat.lt_of_lt_of_le y91 q113.size
  have y116 : w.heap.size + 1 + 1 < w6.heap.size := Nat.lt_of_lt_of_le y92 q113.size
  have y117 : w.heap.size + 1 + 1 + 1 < w6.heap.size := Nat.lt_of_lt_of_le y93 q113.size
  have y118 : w.heap.size + 1 + 1 + 1 + 1 < w6.heap.size := Nat.lt_of_lt_of_le y94 q113.size
  have y119 : g1 < w6.heap.size := Nat.lt_of_lt_of_le y111 q113.size
  have k120 := ext_cell q113 k95
  have k121 := ext_cell q113 k96
  have k122 := ext_cell q113 k97
  have k123 := ext_cell q113 k98
  have k124 := ext_cell q113 k99
  have k125 := ext_cell q113 k100
  have k126 := ext_cell q113 k101
  have k127 := ext_cell q113 k102
  have k128 := ext_cell q113 k103
  have k129 := ext_cell q113 k104
  have k130 := ext_cell q113 k105
  have k131 := ext_cell q113 k106
  have k132 := ext_cell q113 paD88
  have k133 := ext_cell q113 pbD88
  have f134 : w6.frozen? ⟨w.heap.size + 1 + 1 + 1 + 1, 0, none⟩ = false := (q113.frozen (p := ⟨w.heap.size + 1 + 1 + 1 + 1, 0, none⟩) y94).trans f107
  have f135 : w6.frozen? ⟨w.heap.size + 1 + 1 + 1 + 1, 1, none⟩ = false := (q113.frozen (p := ⟨w.heap.size + 1 + 1 + 1 + 1, 1, none⟩) y94).trans f108
  have f136 : w6.frozen? ⟨w.heap.size + 1 + 1 + 1 + 1, 2, none⟩ = false := (q113.frozen (p := ⟨w.heap.size + 1 + 1 + 1 + 1, 2, none⟩) y94).trans f109
  have f137 : w6.frozen? ⟨w.heap.size + 1 + 1 + 1 + 1, 3, none⟩ = false := (q113.frozen (p := ⟨w.heap.size + 1 + 1 + 1 + 1, 3, none⟩) y94).trans f110
  clear k95 k96 k97 k98 k99 k100 k101 k102 k103 k104 k105 k106 paD88 pbD88 y90 y91 y92 y93 y94 y111 f107 f108 f109 f110
  have y138 : g2 < w6.heap.size := World.block_lt_of_cell? _ _ paD112
  have q0 := Q0.out
  go_wp2_with fail
  exact bodyPost_ret (v := .tuple #[lineV (0) (0) (0) (0), .bool false]) (by simp [results, Try.results101, go_sem, k128, k129, k130, k131]) rfl ⟨rfl, (by repeat (first | (with_reducible exact ext_refl _) | (with_reducible refine ext_setCell ?_ ?_ _) | (with_reducible refine ext_alloc ?_ _) | (with_reducible refine ext_drewN ?_ _) | (with_reducible refine ext_drew ?_) | (with_reducible refine ext_trans ?_ (by assumption)) | (dsimp only; omega) | omega | (simp; omega)))⟩
set_option maxHeartbeats 6400000 in
set_option maxRecDepth 100000 in
theorem spec_LT_d1c1 (e b c d f g h : Int) (w : World) (h0 : fracOk e b = true) (h1 : fracOk c d = true) (h2 : fracOk e f = true) (h3 : fracOk g h = true) (h4 : ¬ b = f) (q0 : suOk e f e b = true) (q1 : suOk g h c d = false) :
    Calls Try.prog 101 #[.agg #[.int .i64 e, .int .i64 b], .agg #[.int .i64 c, .int .i64 d], .agg #[.int .i64 e, .int .i64 f], .agg #[.int .i64 g, .int .i64 h]] w fun en w' => en = lineR 0 0 0 0 false ∧ Ext w w' := by
  have Q0 := Lib.hid q0
  have Q1 := Lib.hid q1
  clear q0 q1
  go_enter Try.func101, Try.ntmps101
  go_wp2_with fail
  refine (spec_FractionOk _ _ _).mono ?_
  rintro en w1 ⟨rfl, hx1⟩
  have y1 : w.heap.size < w1.heap.size := by have := hx1.size; simp at this; omega
  have k2 := ext_cell hx1 (b := w.heap.size) (off := 0) (v := .int .i64 (e)) (by go_simp)
  have k3 := ext_cell hx1 (b := w.heap.size) (off := 1) (v := .int .i64 (b)) (by go_simp)
  have y4 : w.heap.size + 1 < w1.heap.size := by have := hx1.size; simp at this; omega
  have k5 := ext_cell hx1 (b := w.heap.size + 1) (off := 0) (v := .int .i64 (c)) (by go_simp)
  have k6 := ext_cell hx1 (b := w.heap.size + 1) (off := 1) (v := .int .i64 (d)) (by go_simp)
  have y7 : w.heap.size + 1 + 1 < w1.heap.size := by have := hx1.size; simp at this; omega
  have k8 := ext_cell hx1 (b := w.heap.size + 1 + 1) (off := 0) (v := .int .i64 (e)) (by go_simp)
  have k9 := ext_cell hx1 (b := w.heap.size + 1 + 1) (off := 1) (v := .int .i64 (f)) (by go_simp)
  have y10 : w.heap.size + 1 + 1 + 1 < w1.heap.size := by have := hx1.size; simp at this; omega
  have k11 := ext_cell hx1 (b := w.heap.size + 1 + 1 + 1) (off := 0) (v := .int .i64 (g)) (by go_simp)
  have k12 := ext_cell hx1 (b := w.heap.size + 1 + 1 + 1) (off := 1) (v := .int .i64 (h)) (by go_simp)
  have y13 : w.heap.size + 1 + 1 + 1 + 1 < w1.heap.size := by have := hx1.size; simp at this; omega
  have k14 := ext_cell hx1 (b := w.heap.size + 1 + 1 + 1 + 1) (off := 0) (v := .int .i64 (0)) (by go_simp)
  have k15 := ext_cell hx1 (b := w.heap.size + 1 + 1 + 1 + 1) (off := 1) (v := .int .i64 (0)) (by go_simp)
  have k16 := ext_cell hx1 (b := w.heap.size + 1 + 1 + 1 + 1) (off := 2) (v := .int .i64 (0)) (by go_simp)
  have k17 := ext_cell hx1 (b := w.heap.size + 1 + 1 + 1 + 1) (off := 3) (v := .int .i64 (0)) (by go_simp)
  have f18 : w1.frozen? ⟨w.heap.size + 1 + 1 + 1 + 1, 0, none⟩ = false := by rw [hx1.frozen (p := ⟨w.heap.size + 1 + 1 + 1 + 1, 0, none⟩) (by simp; try omega)]; go_simp
  have f19 : w1.frozen? ⟨w.heap.size + 1 + 1 + 1 + 1, 1, none⟩ = false := by rw [hx1.frozen (p := ⟨w.heap.size + 1 + 1 + 1 + 1, 1, none⟩) (by simp; try omega)]; go_simp
  have f20 : w1.frozen? ⟨w.heap.size + 1 + 1 + 1 + 1, 2, none⟩ = false := by rw [hx1.frozen (p := ⟨w.heap.size + 1 + 1 + 1 + 1, 2, none⟩) (by simp; try omega)]; go_simp
  have f21 : w1.frozen? ⟨w.heap.size + 1 + 1 + 1 + 1, 3, none⟩ = false := by rw [hx1.frozen (p := ⟨w.heap.size + 1 + 1 + 1 + 1, 3, none⟩) (by simp; try omega)]; go_simp
  go_wp2_with fail
  refine (spec_FractionOk _ _ _).mono ?_
  rintro en w2 ⟨rfl, hx2⟩
  have q22 : Ext w1 w2 := hx2
  have y23 : w.heap.size < w2.heap.size := Nat.lt_of_lt_of_le y1 q22.size
  have y24 : w.heap.size + 1 < w2.heap.size := Nat.lt_of_lt_of_le y4 q22.size
  have y25 : w.heap.size + 1 + 1 < w2.heap.size := Nat.lt_of_lt_of_le y7 q22.size
  have y26 : w.heap.size + 1 + 1 + 1 < w2.heap.size := Nat.lt_of_lt_of_le y10 q22.size
  have y27 : w.heap.size + 1 + 1 + 1 + 1 < w2.heap.size := Nat.lt_of_lt_of_le y13 q22.size
  have k28 := ext_cell q22 k2
  have k29 := ext_cell q22 k3
  have k30 := ext_cell q22 k5
  have k31 := ext_cell q22 k6
  have k32 := ext_cell q22 k8
  have k33 := ext_cell q22 k9
  have k34 := ext_cell q22 k11
  have k35 := ext_cell q22 k12
  have k36 := ext_cell q22 k14
  have k37 := ext_cell q22 k15
  have k38 := ext_cell q22 k16
  have k39 := ext_cell q22 k17
  have f40 : w2.frozen? ⟨w.heap.size + 1 + 1 + 1 + 1, 0, none⟩ = false := (q22.frozen (p := ⟨w.heap.size + 1 + 1 + 1 + 1, 0, none⟩) y13).trans f18
  have f41 : w2.frozen? ⟨w.heap.size + 1 + 1 + 1 + 1, 1, none⟩ = false := (q22.frozen (p := ⟨w.heap.size + 1 + 1 + 1 + 1, 1, none⟩) y13).trans f19
  have f42 : w2.frozen? ⟨w.heap.size + 1 + 1 + 1 + 1, 2, none⟩ = false := (q22.frozen (p := ⟨w.heap.size + 1 + 1 + 1 + 1, 2, none⟩) y13).trans f20
  have f43 : w2.frozen? ⟨w.heap.size + 1 + 1 + 1 + 1, 3, none⟩ = false := (q22.frozen (p := ⟨w.heap.size + 1 + 1 + 1 + 1, 3, none⟩) y13).trans f21
  clear k2 k3 k5 k6 k8 k9 k11 k12 k14 k15 k16 k17 y1 y4 y7 y10 y13 f18 f19 f20 f21
  go_wp2_with fail
  refine (spec_FractionOk _ _ _).mono ?_
  rintro en w3 ⟨rfl, hx3⟩
  have q44 : Ext w2 w3 := hx3
  have y45 : w.heap.size < w3.heap.size := Nat.lt_of_lt_of_le y23 q44.size
  have y46 : w.heap.size + 1 < w3.heap.size := Nat.lt_of_lt_of_le y24 q44.size
  have y47 : w.heap.size + 1 + 1 < w3.heap.size := Nat.lt_of_lt_of_le y25 q44.size
  have y48 : w.heap.size + 1 + 1 + 1 < w3.heap.size := Nat.lt_of_lt_of_le y26 q44.size
  have y49 : w.heap.size + 1 + 1 + 1 + 1 < w3.heap.size := Nat.lt_of_lt_of_le y27 q44.size
  have k50 := ext_cell q44 k28
  have k51 := ext_cell q44 k29
  have k52 := ext_cell q44 k30
  have k53 := ext_cell q44 k31
  have k54 := ext_cell q44 k32
  have k55 := ext_cell q44 k33
  have k56 := ext_cell q44 k34
  have k57 := ext_cell q44 k35
  have k58 := ext_cell q44 k36
  have k59 := ext_cell q44 k37
  have k60 := ext_cell q44 k38
  have k61 := ext_cell q44 k39
  have f62 : w3.frozen? ⟨w.heap.size + 1 + 1 + 1 + 1, 0, none⟩ = false := (q44.frozen (p := ⟨w.heap.size + 1 + 1 + 1 + 1, 0, none⟩) y27).trans f40
  have f63 : w3.frozen? ⟨w.heap.size + 1 + 1 + 1 + 1, 1, none⟩ = false := (q44.frozen (p := ⟨w.heap.size + 1 + 1 + 1 + 1, 1, none⟩) y27).trans f41
  have f64 : w3.frozen? ⟨w.heap.size + 1 + 1 + 1 + 1, 2, none⟩ = false := (q44.frozen (p := ⟨w.heap.size + 1 + 1 + 1 + 1, 2, none⟩) y27).trans f42
  have f65 : w3.frozen? ⟨w.heap.size + 1 + 1 + 1 + 1, 3, none⟩ = false := (q44.frozen (p := ⟨w.heap.size + 1 + 1 + 1 + 1, 3, none⟩) y27).trans f43
  clear k28 k29 k30 k31 k32 k33 k34 k35 k36 k37 k38 k39 y23 y24 y25 y26 y27 f40 f41 f42 f43
  go_wp2_with fail
  refine (spec_FractionOk _ _ _).mono ?_
  rintro en w4 ⟨rfl, hx4⟩
  have q66 : Ext w3 w4 := hx4
  have y67 : w.heap.size < w4.heap.size := Nat.lt_of_lt_of_le y45 q66.size
  have y68 : w.heap.size + 1 < w4.heap.size := Nat.lt_of_lt_of_le y46 q66.size
  have y69 : w.heap.size + 1 + 1 < w4.heap.size := Nat.lt_of_lt_of_le y47 q66.size
  have y70 : w.heap.size + 1 + 1 + 1 < w4.heap.size := Nat.lt_of_lt_of_le y48 q66.size
  have y71 : w.heap.size + 1 + 1 + 1 + 1 < w4.heap.size := Nat.lt_of_lt_of_le y49 q66.size
  have k72 := ext_cell q66 k50
  have k73 := ext_cell q66 k51
  have k74 := ext_cell q66 k52
  have k75 := ext_cell q66 k53
  have k76 := ext_cell q66 k54
  have k77 := ext_cell q66 k55
  have k78 := ext_cell q66 k56
  have k79 := ext_cell q66 k57
  have k80 := ext_cell q66 k58
  have k81 := ext_cell q66 k59
  have k82 := ext_cell q66 k60
  have k83 := ext_cell q66 k61
  have f84 : w4.frozen? ⟨w.heap.size + 1 + 1 + 1 + 1, 0, none⟩ = false := (q66.frozen (p := ⟨w.heap.size + 1 + 1 + 1 + 1, 0, none⟩) y49).trans f62
  have f85 : w4.frozen? ⟨w.heap.size + 1 + 1 + 1 + 1, 1, none⟩ = false := (q66.frozen (p := ⟨w.heap.size + 1 + 1 + 1 + 1, 1, none⟩) y49).trans f63
  have f86 : w4.frozen? ⟨w.heap.size + 1 + 1 + 1 + 1, 2, none⟩ = false := (q66.frozen (p := ⟨w.heap.size + 1 + 1 + 1 + 1, 2, none⟩) y49).trans f64
  have f87 : w4.frozen? ⟨w.heap.size + 1 + 1 + 1 + 1, 3, none⟩ = false := (q66.frozen (p := ⟨w.heap.size + 1 + 1 + 1 + 1, 3, none⟩) y49).trans f65
  clear k50 k51 k52 k53 k54 k55 k56 k57 k58 k59 k60 k61 y45 y46 y47 y48 y49 f62 f63 f64 f65
  have HKSD88 : Hid (∀ wb, Ext w4 wb → (Ext w4 wb ∧ wb.cell? ⟨w.heap.size, 0, none⟩ = some (.int .i64 (e)) ∧ wb.cell? ⟨w.heap.size, 1, none⟩ = some (.int .i64 (b)) ∧ wb.cell? ⟨w.heap.size + 1 + 1, 0, none⟩ = some (.int .i64 (e)) ∧ wb.cell? ⟨w.heap.size + 1 + 1, 1, none⟩ = some (.int .i64 (f)))) := fun wb h => ⟨h, ext_cell h k72, ext_cell h k73, ext_cell h k76, ext_cell h k77⟩
  go_upto_region 3 with fail
  go_cut [10, 11] (fun s10 s11 wx => ∃ gq : Nat, s10 = .pointer (some ⟨gq, 0, none⟩) ∧ s11 = .bool (suOk e f e b) ∧ wx.cell? ⟨gq, 0, none⟩ = some (.int .i64 (suT e f e b)) ∧ wx.cell? ⟨gq, 1, none⟩ = some (.int .i64 (suB e f e b)) ∧ Ext w4 wx)
  case first =>
    go_region_held3 (fun w' => Ext w4 w' ∧ w'.cell? ⟨w.heap.size, 0, none⟩ = some (.int .i64 (e)) ∧ w'.cell? ⟨w.heap.size, 1, none⟩ = some (.int .i64 (b)) ∧ w'.cell? ⟨w.heap.size + 1 + 1, 0, none⟩ = some (.int .i64 (e)) ∧ w'.cell? ⟨w.heap.size + 1 + 1, 1, none⟩ = some (.int .i64 (f)))
      ((refine HKSD88.out _ ?_; repeat (first | (with_reducible exact ext_refl _) | (with_reducible refine ext_drew ?_) | (with_reducible refine ext_setCell ?_ ?_ _) | (with_reducible refine ext_alloc ?_ _) | (with_reducible refine ext_trans ?_ (by assumption)) | ((try dsimp only); with_reducible exact Nat.le_refl _) | ((try dsimp only); with_reducible refine ext_size ?_))))
      (first
        | (go_at_call 124; refine (spec_l17Minus _ _ _).mono ?_; rintro e w3 ⟨rfl, hx3⟩; obtain ⟨hc3, hf3, hn3⟩ := bcell3 hx3; first | (have hz4 := hn3 _ hz4) | (have hz := ext_size hx3; simp at hz; have hz4 := Nat.lt_of_succ_le hz) | skip)
        | (go_at_call 123; refine (spec_Add_su _ _ _ _ _).mono ?_; rintro e w3 ⟨rfl, hx3⟩; obtain ⟨hc3, hf3, hn3⟩ := bcell3 hx3; first | (have hz4 := hn3 _ hz4) | (have hz := ext_size hx3; simp at hz; have hz4 := Nat.lt_of_succ_le hz) | skip))
    all_goals
      go_wp2_with fail
      go_meet
      refine ⟨_, rfl, rfl, ?_, ?_, ?_⟩
      · first | (go_simp; rfl) | go_simp
      · first | (go_simp; rfl) | go_simp
      · repeat (first | (with_reducible exact ext_refl _) | (with_reducible refine ext_drew ?_) | (with_reducible refine ext_setCell ?_ ?_ _) | (with_reducible refine ext_alloc ?_ _) | (with_reducible refine ext_trans ?_ (by assumption)) | ((try dsimp only); with_reducible exact Nat.le_refl _) | ((try dsimp only); with_reducible refine ext_size ?_))
  obtain ⟨g1, rfl, rfl, paD88, pbD88, hxD88⟩ := hcut
  obtain ⟨w5, rfl⟩ : ∃ x : World, x = wc := ⟨_, rfl⟩
  clear HKSD88
  have q89 : Ext w4 w5 := hxD88
  have y90 : w.heap.size < w5.heap.size := Nat.lt_of_lt_of_le y67 q89.size
  have y91 : w.heap.size + 1 < w5.heap.size := Nat.lt_of_lt_of_le y68 q89.size
  have y92 : w.heap.size + 1 + 1 < w5.heap.size := Nat.lt_of_lt_of_le y69 q89.size
  have y93 : w.heap.size + 1 + 1 + 1 < w5.heap.size := Nat.lt_of_lt_of_le y70 q89.size
  have y94 : w.heap.size + 1 + 1 + 1 + 1 < w5.heap.size := Nat.lt_of_lt_of_le y71 q89.size
  have k95 := ext_cell q89 k72
  have k96 := ext_cell q89 k73
  have k97 := ext_cell q89 k74
  have k98 := ext_cell q89 k75
  have k99 := ext_cell q89 k76
  have k100 := ext_cell q89 k77
  have k101 := ext_cell q89 k78
  have k102 := ext_cell q89 k79
  have k103 := ext_cell q89 k80
  have k104 := ext_cell q89 k81
  have k105 := ext_cell q89 k82
  have k106 := ext_cell q89 k83
  have f107 : w5.frozen? ⟨w.heap.size + 1 + 1 + 1 + 1, 0, none⟩ = false := (q89.frozen (p := ⟨w.heap.size + 1 + 1 + 1 + 1, 0, none⟩) y71).trans f84
  have f108 : w5.frozen? ⟨w.heap.size + 1 + 1 + 1 + 1, 1, none⟩ = false := (q89.frozen (p := ⟨w.heap.size + 1 + 1 + 1 + 1, 1, none⟩) y71).trans f85
  have f109 : w5.frozen? ⟨w.heap.size + 1 + 1 + 1 + 1, 2, none⟩ = false := (q89.frozen (p := ⟨w.heap.size + 1 + 1 + 1 + 1, 2, none⟩) y71).trans f86
  have f110 : w5.frozen? ⟨w.heap.size + 1 + 1 + 1 + 1, 3, none⟩ = false := (q89.frozen (p := ⟨w.heap.size + 1 + 1 + 1 + 1, 3, none⟩) y71).trans f87
  clear k72 k73 k74 k75 k76 k77 k78 k79 k80 k81 k82 k83 y67 y68 y69 y70 y71 f84 f85 f86 f87
  have y111 : g1 < w5.heap.size := World.block_lt_of_cell? _ _ paD88
  have HKSD112 : Hid (∀ wb, Ext w5 wb → (Ext w5 wb ∧ wb.cell? ⟨w.heap.size + 1, 0, none⟩ = some (.int .i64 (c)) ∧ wb.cell? ⟨w.heap.size + 1, 1, none⟩ = some (.int .i64 (d)) ∧ wb.cell? ⟨w.heap.size + 1 + 1 + 1, 0, none⟩ = some (.int .i64 (g)) ∧ wb.cell? ⟨w.heap.size + 1 + 1 + 1, 1, none⟩ = some (.int .i64 (h)))) := fun wb h => ⟨h, ext_cell h k97, ext_cell h k98, ext_cell h k101, ext_cell h k102⟩
  go_upto_region 4 with fail
  go_cut [12, 13] (fun s12 s13 wx => ∃ gq : Nat, s12 = .pointer (some ⟨gq, 0, none⟩) ∧ s13 = .bool (suOk g h c d) ∧ wx.cell? ⟨gq, 0, none⟩ = some (.int .i64 (suT g h c d)) ∧ wx.cell? ⟨gq, 1, none⟩ = some (.int .i64 (suB g h c d)) ∧ Ext w5 wx)
  case first =>
    go_region_held3 (fun w' => Ext w5 w' ∧ w'.cell? ⟨w.heap.size + 1, 0, none⟩ = some (.int .i64 (c)) ∧ w'.cell? ⟨w.heap.size + 1, 1, none⟩ = some (.int .i64 (d)) ∧ w'.cell? ⟨w.heap.size + 1 + 1 + 1, 0, none⟩ = some (.int .i64 (g)) ∧ w'.cell? ⟨w.heap.size + 1 + 1 + 1, 1, none⟩ = some (.int .i64 (h)))
      ((refine HKSD112.out _ ?_; repeat (first | (with_reducible exact ext_refl _) | (with_reducible refine ext_drew ?_) | (with_reducible refine ext_setCell ?_ ?_ _) | (with_reducible refine ext_alloc ?_ _) | (with_reducible refine ext_trans ?_ (by assumption)) | ((try dsimp only); with_reducible exact Nat.le_refl _) | ((try dsimp only); with_reducible refine ext_size ?_))))
      (first
        | (go_at_call 124; refine (spec_l17Minus _ _ _).mono ?_; rintro e w3 ⟨rfl, hx3⟩; obtain ⟨hc3, hf3, hn3⟩ := bcell3 hx3; first | (have hz4 := hn3 _ hz4) | (have hz := ext_size hx3; simp at hz; have hz4 := Nat.lt_of_succ_le hz) | skip)
        | (go_at_call 123; refine (spec_Add_su _ _ _ _ _).mono ?_; rintro e w3 ⟨rfl, hx3⟩; obtain ⟨hc3, hf3, hn3⟩ := bcell3 hx3; first | (have hz4 := hn3 _ hz4) | (have hz := ext_size hx3; simp at hz; have hz4 := Nat.lt_of_succ_le hz) | skip))
    all_goals
      go_wp2_with fail
      go_meet
      refine ⟨_, rfl, rfl, ?_, ?_, ?_⟩
      · first | (go_simp; rfl) | go_simp
      · first | (go_simp; rfl) | go_simp
      · repeat (first | (with_reducible exact ext_refl _) | (with_reducible refine ext_drew ?_) | (with_reducible refine ext_setCell ?_ ?_ _) | (with_reducible refine ext_alloc ?_ _) | (with_reducible refine ext_trans ?_ (by assumption)) | ((try dsimp only); with_reducible exact Nat.le_refl _) | ((try dsimp only); with_reducible refine ext_size ?_))
  obtain ⟨g2, rfl, rfl, paD112, pbD112, hxD112⟩ := hcut
  obtain ⟨w6, rfl⟩ : ∃ x : World, x = wc := ⟨_, rfl⟩
  clear HKSD112
  have q113 : Ext w5 w6 := hxD112
  have y114 : w.heap.size < w6.heap.size := Nat.lt_of_lt_of_le y90 q113.size
  have y115 : w.heap.size + 1 < w6.heap.size := Nat.lt_of_lt_of_le y91 q113.size
  have y116 : w.heap.size + 1 + 1 < w6.heap.size := Nat.lt_of_lt_of_le y92 q113.size
  have y117 : w.heap.size + 1 + 1 + 1 < w6.heap.size := Nat.lt_of_lt_of_le y93 q113.size
  have y118 : w.heap.size + 1 + 1 + 1 + 1 < w6.heap.size := Nat.lt_of_lt_of_le y94 q113.size
  have y119 : g1 < w6.heap.size := Nat.lt_of_lt_of_le y111 q113.size
  have k120 := ext_cell q113 k95
  have k121 := ext_cell q113 k96
  have k122 := ext_cell q113 k97
  have k123 := ext_cell q113 k98
  have k124 := ext_cell q113 k99
  have k125 := ext_cell q113 k100
  have k126 := ext_cell q113 k101
  have k127 := ext_cell q113 k102
  have k128 := ext_cell q113 k103
  have k129 := ext_cell q113 k104
  have k130 := ext_cell q113 k105
  have k131 := ext_cell q113 k106
  have k132 := ext_cell q113 paD88
  have k133 := ext_cell q113 pbD88
  have f134 : w6.frozen? ⟨w.heap.size + 1 + 1 + 1 + 1, 0, none⟩ = false := (q113.frozen (p := ⟨w.heap.size + 1 + 1 + 1 + 1, 0, none⟩) y94).trans f107
  have f135 : w6.frozen? ⟨w.heap.size + 1 + 1 + 1 + 1, 1, none⟩ = false := (q113.frozen (p := ⟨w.heap.size + 1 + 1 + 1 + 1, 1, none⟩) y94).trans f108
  have f136 : w6.frozen? ⟨w.heap.size + 1 + 1 + 1 + 1, 2, none⟩ = false := (q113.frozen (p := ⟨w.heap.size + 1 + 1 + 1 + 1, 2, none⟩) y94).trans f109
  have f137 : w6.frozen? ⟨w.heap.size + 1 + 1 + 1 + 1, 3, none⟩ = false := (q113.frozen (p := ⟨w.heap.size + 1 + 1 + 1 + 1, 3, none⟩) y94).trans f110
  clear k95 k96 k97 k98 k99 k100 k101 k102 k103 k104 k105 k106 paD88 pbD88 y90 y91 y92 y93 y94 y111 f107 f108 f109 f110
  have y138 : g2 < w6.heap.size := World.block_lt_of_cell? _ _ paD112
  have q0 := Q0.out
  have q1 := Q1.out
  go_wp2_with fail
  exact bodyPost_ret (v := .tuple #[lineV (0) (0) (0) (0), .bool false]) (by simp [results, Try.results101, go_sem, k128, k129, k130, k131]) rfl ⟨rfl, (by repeat (first | (with_reducible exact ext_refl _) | (with_reducible refine ext_setCell ?_ ?_ _) | (with_reducible refine ext_alloc ?_ _) | (with_reducible refine ext_drewN ?_ _) | (with_reducible refine ext_drew ?_) | (with_reducible refine ext_trans ?_ (by assumption)) | (dsimp only; omega) | omega | (simp; omega)))⟩
set_option maxHeartbeats 6400000 in
set_option maxRecDepth 100000 in
theorem spec_LT_d1c2 (e b c d f g h : Int) (w : World) (h0 : fracOk e b = true) (h1 : fracOk c d = true) (h2 : fracOk e f = true) (h3 : fracOk g h = true) (h4 : ¬ b = f) (q0 : suOk e f e b = true) (q1 : suOk g h c d = true) (q2 : ltUOk e b c d e f g h = false) :
    Calls Try.prog 101 #[.agg #[.int .i64 e, .int .i64 b], .agg #[.int .i64 c, .int .i64 d], .agg #[.int .i64 e, .int .i64 f], .agg #[.int .i64 g, .int .i64 h]] w fun en w' => en = lineR 0 0 0 0 false ∧ Ext w w' := by
  have Q0 := Lib.hid q0
  have Q1 := Lib.hid q1
  have Q2 := Lib.hid q2
  clear q0 q1 q2
  go_enter Try.func101, Try.ntmps101
  go_wp2_with fail
  refine (spec_FractionOk _ _ _).mono ?_
  rintro en w1 ⟨rfl, hx1⟩
  have y1 : w.heap.size < w1.heap.size := by have := hx1.size; simp at this; omega
  have k2 := ext_cell hx1 (b := w.heap.size) (off := 0) (v := .int .i64 (e)) (by go_simp)
  have k3 := ext_cell hx1 (b := w.heap.size) (off := 1) (v := .int .i64 (b)) (by go_simp)
  have y4 : w.heap.size + 1 < w1.heap.size := by have := hx1.size; simp at this; omega
  have k5 := ext_cell hx1 (b := w.heap.size + 1) (off := 0) (v := .int .i64 (c)) (by go_simp)
  have k6 := ext_cell hx1 (b := w.heap.size + 1) (off := 1) (v := .int .i64 (d)) (by go_simp)
  have y7 : w.heap.size + 1 + 1 < w1.heap.size := by have := hx1.size; simp at this; omega
  have k8 := ext_cell hx1 (b := w.heap.size + 1 + 1) (off := 0) (v := .int .i64 (e)) (by go_simp)
  have k9 := ext_cell hx1 (b := w.heap.size + 1 + 1) (off := 1) (v := .int .i64 (f)) (by go_simp)
  have y10 : w.heap.size + 1 + 1 + 1 < w1.heap.size := by have := hx1.size; simp at this; omega
  have k11 := ext_cell hx1 (b := w.heap.size + 1 + 1 + 1) (off := 0) (v := .int .i64 (g)) (by go_simp)
  have k12 := ext_cell hx1 (b := w.heap.size + 1 + 1 + 1) (off := 1) (v := .int .i64 (h)) (by go_simp)
  have y13 : w.heap.size + 1 + 1 + 1 + 1 < w1.heap.size := by have := hx1.size; simp at this; omega
  have k14 := ext_cell hx1 (b := w.heap.size + 1 + 1 + 1 + 1) (off := 0) (v := .int .i64 (0)) (by go_simp)
  have k15 := ext_cell hx1 (b := w.heap.size + 1 + 1 + 1 + 1) (off := 1) (v := .int .i64 (0)) (by go_simp)
  have k16 := ext_cell hx1 (b := w.heap.size + 1 + 1 + 1 + 1) (off := 2) (v := .int .i64 (0)) (by go_simp)
  have k17 := ext_cell hx1 (b := w.heap.size + 1 + 1 + 1 + 1) (off := 3) (v := .int .i64 (0)) (by go_simp)
  have f18 : w1.frozen? ⟨w.heap.size + 1 + 1 + 1 + 1, 0, none⟩ = false := by rw [hx1.frozen (p := ⟨w.heap.size + 1 + 1 + 1 + 1, 0, none⟩) (by simp; try omega)]; go_simp
  have f19 : w1.frozen? ⟨w.heap.size + 1 + 1 + 1 + 1, 1, none⟩ = false := by rw [hx1.frozen (p := ⟨w.heap.size + 1 + 1 + 1 + 1, 1, none⟩) (by simp; try omega)]; go_simp
  have f20 : w1.frozen? ⟨w.heap.size + 1 + 1 + 1 + 1, 2, none⟩ = false := by rw [hx1.frozen (p := ⟨w.heap.size + 1 + 1 + 1 + 1, 2, none⟩) (by simp; try omega)]; go_simp
  have f21 : w1.frozen? ⟨w.heap.size + 1 + 1 + 1 + 1, 3, none⟩ = false := by rw [hx1.frozen (p := ⟨w.heap.size + 1 + 1 + 1 + 1, 3, none⟩) (by simp; try omega)]; go_simp
  go_wp2_with fail
  refine (spec_FractionOk _ _ _).mono ?_
  rintro en w2 ⟨rfl, hx2⟩
  have q22 : Ext w1 w2 := hx2
  have y23 : w.heap.size < w2.heap.size := Nat.lt_of_lt_of_le y1 q22.size
  have y24 : w.heap.size + 1 < w2.heap.size := Nat.lt_of_lt_of_le y4 q22.size
  have y25 : w.heap.size + 1 + 1 < w2.heap.size := Nat.lt_of_lt_of_le y7 q22.size
  have y26 : w.heap.size + 1 + 1 + 1 < w2.heap.size := Nat.lt_of_lt_of_le y10 q22.size
  have y27 : w.heap.size + 1 + 1 + 1 + 1 < w2.heap.size := Nat.lt_of_lt_of_le y13 q22.size
  have k28 := ext_cell q22 k2
  have k29 := ext_cell q22 k3
  have k30 := ext_cell q22 k5
  have k31 := ext_cell q22 k6
  have k32 := ext_cell q22 k8
  have k33 := ext_cell q22 k9
  have k34 := ext_cell q22 k11
  have k35 := ext_cell q22 k12
  have k36 := ext_cell q22 k14
  have k37 := ext_cell q22 k15
  have k38 := ext_cell q22 k16
  have k39 := ext_cell q22 k17
  have f40 : w2.frozen? ⟨w.heap.size + 1 + 1 + 1 + 1, 0, none⟩ = false := (q22.frozen (p := ⟨w.heap.size + 1 + 1 + 1 + 1, 0, none⟩) y13).trans f18
  have f41 : w2.frozen? ⟨w.heap.size + 1 + 1 + 1 + 1, 1, none⟩ = false := (q22.frozen (p := ⟨w.heap.size + 1 + 1 + 1 + 1, 1, none⟩) y13).trans f19
  have f42 : w2.frozen? ⟨w.heap.size + 1 + 1 + 1 + 1, 2, none⟩ = false := (q22.frozen (p := ⟨w.heap.size + 1 + 1 + 1 + 1, 2, none⟩) y13).trans f20
  have f43 : w2.frozen? ⟨w.heap.size + 1 + 1 + 1 + 1, 3, none⟩ = false := (q22.frozen (p := ⟨w.heap.size + 1 + 1 + 1 + 1, 3, none⟩) y13).trans f21
  clear k2 k3 k5 k6 k8 k9 k11 k12 k14 k15 k16 k17 y1 y4 y7 y10 y13 f18 f19 f20 f21
  go_wp2_with fail
  refine (spec_FractionOk _ _ _).mono ?_
  rintro en w3 ⟨rfl, hx3⟩
  have q44 : Ext w2 w3 := hx3
  have y45 : w.heap.size < w3.heap.size := Nat.lt_of_lt_of_le y23 q44.size
  have y46 : w.heap.size + 1 < w3.heap.size := Nat.lt_of_lt_of_le y24 q44.size
  have y47 : w.heap.size + 1 + 1 < w3.heap.size := Nat.lt_of_lt_of_le y25 q44.size
  have y48 : w.heap.size + 1 + 1 + 1 < w3.heap.size := Nat.lt_of_lt_of_le y26 q44.size
  have y49 : w.heap.size + 1 + 1 + 1 + 1 < w3.heap.size := Nat.lt_of_lt_of_le y27 q44.size
  have k50 := ext_cell q44 k28
  have k51 := ext_cell q44 k29
  have k52 := ext_cell q44 k30
  have k53 := ext_cell q44 k31
  have k54 := ext_cell q44 k32
  have k55 := ext_cell q44 k33
  have k56 := ext_cell q44 k34
  have k57 := ext_cell q44 k35
  have k58 := ext_cell q44 k36
  have k59 := ext_cell q44 k37
  have k60 := ext_cell q44 k38
  have k61 := ext_cell q44 k39
  have f62 : w3.frozen? ⟨w.heap.size + 1 + 1 + 1 + 1, 0, none⟩ = false := (q44.frozen (p := ⟨w.heap.size + 1 + 1 + 1 + 1, 0, none⟩) y27).trans f40
  have f63 : w3.frozen? ⟨w.heap.size + 1 + 1 + 1 + 1, 1, none⟩ = false := (q44.frozen (p := ⟨w.heap.size + 1 + 1 + 1 + 1, 1, none⟩) y27).trans f41
  have f64 : w3.frozen? ⟨w.heap.size + 1 + 1 + 1 + 1, 2, none⟩ = false := (q44.frozen (p := ⟨w.heap.size + 1 + 1 + 1 + 1, 2, none⟩) y27).trans f42
  have f65 : w3.frozen? ⟨w.heap.size + 1 + 1 + 1 + 1, 3, none⟩ = false := (q44.frozen (p := ⟨w.heap.size + 1 + 1 + 1 + 1, 3, none⟩) y27).trans f43
  clear k28 k29 k30 k31 k32 k33 k34 k35 k36 k37 k38 k39 y23 y24 y25 y26 y27 f40 f41 f42 f43
  go_wp2_with fail
  refine (spec_FractionOk _ _ _).mono ?_
  rintro en w4 ⟨rfl, hx4⟩
  have q66 : Ext w3 w4 := hx4
  have y67 : w.heap.size < w4.heap.size := Nat.lt_of_lt_of_le y45 q66.size
  have y68 : w.heap.size + 1 < w4.heap.size := Nat.lt_of_lt_of_le y46 q66.size
  have y69 : w.heap.size + 1 + 1 < w4.heap.size := Nat.lt_of_lt_of_le y47 q66.size
  have y70 : w.heap.size + 1 + 1 + 1 < w4.heap.size := Nat.lt_of_lt_of_le y48 q66.size
  have y71 : w.heap.size + 1 + 1 + 1 + 1 < w4.heap.size := Nat.lt_of_lt_of_le y49 q66.size
  have k72 := ext_cell q66 k50
  have k73 := ext_cell q66 k51
  have k74 := ext_cell q66 k52
  have k75 := ext_cell q66 k53
  have k76 := ext_cell q66 k54
  have k77 := ext_cell q66 k55
  have k78 := ext_cell q66 k56
  have k79 := ext_cell q66 k57
  have k80 := ext_cell q66 k58
  have k81 := ext_cell q66 k59
  have k82 := ext_cell q66 k60
  have k83 := ext_cell q66 k61
  have f84 : w4.frozen? ⟨w.heap.size + 1 + 1 + 1 + 1, 0, none⟩ = false := (q66.frozen (p := ⟨w.heap.size + 1 + 1 + 1 + 1, 0, none⟩) y49).trans f62
  have f85 : w4.frozen? ⟨w.heap.size + 1 + 1 + 1 + 1, 1, none⟩ = false := (q66.frozen (p := ⟨w.heap.size + 1 + 1 + 1 + 1, 1, none⟩) y49).trans f63
  have f86 : w4.frozen? ⟨w.heap.size + 1 + 1 + 1 + 1, 2, none⟩ = false := (q66.frozen (p := ⟨w.heap.size + 1 + 1 + 1 + 1, 2, none⟩) y49).trans f64
  have f87 : w4.frozen? ⟨w.heap.size + 1 + 1 + 1 + 1, 3, none⟩ = false := (q66.frozen (p := ⟨w.heap.size + 1 + 1 + 1 + 1, 3, none⟩) y49).trans f65
  clear k50 k51 k52 k53 k54 k55 k56 k57 k58 k59 k60 k61 y45 y46 y47 y48 y49 f62 f63 f64 f65
  have HKSD88 : Hid (∀ wb, Ext w4 wb → (Ext w4 wb ∧ wb.cell? ⟨w.heap.size, 0, none⟩ = some (.int .i64 (e)) ∧ wb.cell? ⟨w.heap.size, 1, none⟩ = some (.int .i64 (b)) ∧ wb.cell? ⟨w.heap.size + 1 + 1, 0, none⟩ = some (.int .i64 (e)) ∧ wb.cell? ⟨w.heap.size + 1 + 1, 1, none⟩ = some (.int .i64 (f)))) := fun wb h => ⟨h, ext_cell h k72, ext_cell h k73, ext_cell h k76, ext_cell h k77⟩
  go_upto_region 3 with fail
  go_cut [10, 11] (fun s10 s11 wx => ∃ gq : Nat, s10 = .pointer (some ⟨gq, 0, none⟩) ∧ s11 = .bool (suOk e f e b) ∧ wx.cell? ⟨gq, 0, none⟩ = some (.int .i64 (suT e f e b)) ∧ wx.cell? ⟨gq, 1, none⟩ = some (.int .i64 (suB e f e b)) ∧ Ext w4 wx)
  case first =>
    go_region_held3 (fun w' => Ext w4 w' ∧ w'.cell? ⟨w.heap.size, 0, none⟩ = some (.int .i64 (e)) ∧ w'.cell? ⟨w.heap.size, 1, none⟩ = some (.int .i64 (b)) ∧ w'.cell? ⟨w.heap.size + 1 + 1, 0, none⟩ = some (.int .i64 (e)) ∧ w'.cell? ⟨w.heap.size + 1 + 1, 1, none⟩ = some (.int .i64 (f)))
      ((refine HKSD88.out _ ?_; repeat (first | (with_reducible exact ext_refl _) | (with_reducible refine ext_drew ?_) | (with_reducible refine ext_setCell ?_ ?_ _) | (with_reducible refine ext_alloc ?_ _) | (with_reducible refine ext_trans ?_ (by assumption)) | ((try dsimp only); with_reducible exact Nat.le_refl _) | ((try dsimp only); with_reducible refine ext_size ?_))))
      (first
        | (go_at_call 124; refine (spec_l17Minus _ _ _).mono ?_; rintro e w3 ⟨rfl, hx3⟩; obtain ⟨hc3, hf3, hn3⟩ := bcell3 hx3; first | (have hz4 := hn3 _ hz4) | (have hz := ext_size hx3; simp at hz; have hz4 := Nat.lt_of_succ_le hz) | skip)
        | (go_at_call 123; refine (spec_Add_su _ _ _ _ _).mono ?_; rintro e w3 ⟨rfl, hx3⟩; obtain ⟨hc3, hf3, hn3⟩ := bcell3 hx3; first | (have hz4 := hn3 _ hz4) | (have hz := ext_size hx3; simp at hz; have hz4 := Nat.lt_of_succ_le hz) | skip))
    all_goals
      go_wp2_with fail
      go_meet
      refine ⟨_, rfl, rfl, ?_, ?_, ?_⟩
      · first | (go_simp; rfl) | go_simp
      · first | (go_simp; rfl) | go_simp
      · repeat (first | (with_reducible exact ext_refl _) | (with_reducible refine ext_drew ?_) | (with_reducible refine ext_setCell ?_ ?_ _) | (with_reducible refine ext_alloc ?_ _) | (with_reducible refine ext_trans ?_ (by assumption)) | ((try dsimp only); with_reducible exact Nat.le_refl _) | ((try dsimp only); with_reducible refine ext_size ?_))
  obtain ⟨g1, rfl, rfl, paD88, pbD88, hxD88⟩ := hcut
  obtain ⟨w5, rfl⟩ : ∃ x : World, x = wc := ⟨_, rfl⟩
  clear HKSD88
  have q89 : Ext w4 w5 := hxD88
  have y90 : w.heap.size < w5.heap.size := Nat.lt_of_lt_of_le y67 q89.size
  have y91 : w.heap.size + 1 < w5.heap.size := Nat.lt_of_lt_of_le y68 q89.size
  have y92 : w.heap.size + 1 + 1 < w5.heap.size := Nat.lt_of_lt_of_le y69 q89.size
  have y93 : w.heap.size + 1 + 1 + 1 < w5.heap.size := Nat.lt_of_lt_of_le y70 q89.size
  have y94 : w.heap.size + 1 + 1 + 1 + 1 < w5.heap.size := Nat.lt_of_lt_of_le y71 q89.size
  have k95 := ext_cell q89 k72
  have k96 := ext_cell q89 k73
  have k97 := ext_cell q89 k74
  have k98 := ext_cell q89 k75
  have k99 := ext_cell q89 k76
  have k100 := ext_cell q89 k77
  have k101 := ext_cell q89 k78
  have k102 := ext_cell q89 k79
  have k103 := ext_cell q89 k80
  have k104 := ext_cell q89 k81
  have k105 := ext_cell q89 k82
  have k106 := ext_cell q89 k83
  have f107 : w5.frozen? ⟨w.heap.size + 1 + 1 + 1 + 1, 0, none⟩ = false := (q89.frozen (p := ⟨w.heap.size + 1 + 1 + 1 + 1, 0, none⟩) y71).trans f84
  have f108 : w5.frozen? ⟨w.heap.size + 1 + 1 + 1 + 1, 1, none⟩ = false := (q89.frozen (p := ⟨w.heap.size + 1 + 1 + 1 + 1, 1, none⟩) y71).trans f85
  have f109 : w5.frozen? ⟨w.heap.size + 1 + 1 + 1 + 1, 2, none⟩ = false := (q89.frozen (p := ⟨w.heap.size + 1 + 1 + 1 + 1, 2, none⟩) y71).trans f86
  have f110 : w5.frozen? ⟨w.heap.size + 1 + 1 + 1 + 1, 3, none⟩ = false := (q89.frozen (p := ⟨w.heap.size + 1 + 1 + 1 + 1, 3, none⟩) y71).trans f87
  clear k72 k73 k74 k75 k76 k77 k78 k79 k80 k81 k82 k83 y67 y68 y69 y70 y71 f84 f85 f86 f87
  have y111 : g1 < w5.heap.size := World.block_lt_of_cell? _ _ paD88
  have HKSD112 : Hid (∀ wb, Ext w5 wb → (Ext w5 wb ∧ wb.cell? ⟨w.heap.size + 1, 0, none⟩ = some (.int .i64 (c)) ∧ wb.cell? ⟨w.heap.size + 1, 1, none⟩ = some (.int .i64 (d)) ∧ wb.cell? ⟨w.heap.size + 1 + 1 + 1, 0, none⟩ = some (.int .i64 (g)) ∧ wb.cell? ⟨w.heap.size + 1 + 1 + 1, 1, none⟩ = some (.int .i64 (h)))) := fun wb h => ⟨h, ext_cell h k97, ext_cell h k98, ext_cell h k101, ext_cell h k102⟩
  go_upto_region 4 with fail
  go_cut [12, 13] (fun s12 s13 wx => ∃ gq : Nat, s12 = .pointer (some ⟨gq, 0, none⟩) ∧ s13 = .bool (suOk g h c d) ∧ wx.cell? ⟨gq, 0, none⟩ = some (.int .i64 (suT g h c d)) ∧ wx.cell? ⟨gq, 1, none⟩ = some (.int .i64 (suB g h c d)) ∧ Ext w5 wx)
  case first =>
    go_region_held3 (fun w' => Ext w5 w' ∧ w'.cell? ⟨w.heap.size + 1, 0, none⟩ = some (.int .i64 (c)) ∧ w'.cell? ⟨w.heap.size + 1, 1, none⟩ = some (.int .i64 (d)) ∧ w'.cell? ⟨w.heap.size + 1 + 1 + 1, 0, none⟩ = some (.int .i64 (g)) ∧ w'.cell? ⟨w.heap.size + 1 + 1 + 1, 1, none⟩ = some (.int .i64 (h)))
      ((refine HKSD112.out _ ?_; repeat (first | (with_reducible exact ext_refl _) | (with_reducible refine ext_drew ?_) | (with_reducible refine ext_setCell ?_ ?_ _) | (with_reducible refine ext_alloc ?_ _) | (with_reducible refine ext_trans ?_ (by assumption)) | ((try dsimp only); with_reducible exact Nat.le_refl _) | ((try dsimp only); with_reducible refine ext_size ?_))))
      (first
        | (go_at_call 124; refine (spec_l17Minus _ _ _).mono ?_; rintro e w3 ⟨rfl, hx3⟩; obtain ⟨hc3, hf3, hn3⟩ := bcell3 hx3; first | (have hz4 := hn3 _ hz4) | (have hz := ext_size hx3; simp at hz; have hz4 := Nat.lt_of_succ_le hz) | skip)
        | (go_at_call 123; refine (spec_Add_su _ _ _ _ _).mono ?_; rintro e w3 ⟨rfl, hx3⟩; obtain ⟨hc3, hf3, hn3⟩ := bcell3 hx3; first | (have hz4 := hn3 _ hz4) | (have hz := ext_size hx3; simp at hz; have hz4 := Nat.lt_of_succ_le hz) | skip))
    all_goals
      go_wp2_with fail
      go_meet
      refine ⟨_, rfl, rfl, ?_, ?_, ?_⟩
      · first | (go_simp; rfl) | go_simp
      · first | (go_simp; rfl) | go_simp
      · repeat (first | (with_reducible exact ext_refl _) | (with_reducible refine ext_drew ?_) | (with_reducible refine ext_setCell ?_ ?_ _) | (with_reducible refine ext_alloc ?_ _) | (with_reducible refine ext_trans ?_ (by assumption)) | ((try dsimp only); with_reducible exact Nat.le_refl _) | ((try dsimp only); with_reducible refine ext_size ?_))
  obtain ⟨g2, rfl, rfl, paD112, pbD112, hxD112⟩ := hcut
  obtain ⟨w6, rfl⟩ : ∃ x : World, x = wc := ⟨_, rfl⟩
  clear HKSD112
  have q113 : Ext w5 w6 := hxD112
  have y114 : w.heap.size < w6.heap.size := Nat.lt_of_lt_of_le y90 q113.size
  have y115 : w.heap.size + 1 < w6.heap.size := Nat.lt_of_lt_of_le y91 q113.size
  have y116 : w.heap.size + 1 + 1 < w6.heap.size := Nat.lt_of_lt_of_le y92 q113.size
  have y117 : w.heap.size + 1 + 1 + 1 < w6.heap.size := Nat.lt_of_lt_of_le y93 q113.size
  have y118 : w.heap.size + 1 + 1 + 1 + 1 < w6.heap.size := Nat.lt_of_lt_of_le y94 q113.size
  have y119 : g1 < w6.heap.size := Nat.lt_of_lt_of_le y111 q113.size
  have k120 := ext_cell q113 k95
  have k121 := ext_cell q113 k96
  have k122 := ext_cell q113 k97
  have k123 := ext_cell q113 k98
  have k124 := ext_cell q113 k99
  have k125 := ext_cell q113 k100
  have k126 := ext_cell q113 k101
  have k127 := ext_cell q113 k102
  have k128 := ext_cell q113 k103
  have k129 := ext_cell q113 k104
  have k130 := ext_cell q113 k105
  have k131 := ext_cell q113 k106
  have k132 := ext_cell q113 paD88
  have k133 := ext_cell q113 pbD88
  have f134 : w6.frozen? ⟨w.heap.size + 1 + 1 + 1 + 1, 0, none⟩ = false := (q113.frozen (p := ⟨w.heap.size + 1 + 1 + 1 + 1, 0, none⟩) y94).trans f107
  have f135 : w6.frozen? ⟨w.heap.size + 1 + 1 + 1 + 1, 1, none⟩ = false := (q113.frozen (p := ⟨w.heap.size + 1 + 1 + 1 + 1, 1, none⟩) y94).trans f108
  have f136 : w6.frozen? ⟨w.heap.size + 1 + 1 + 1 + 1, 2, none⟩ = false := (q113.frozen (p := ⟨w.heap.size + 1 + 1 + 1 + 1, 2, none⟩) y94).trans f109
  have f137 : w6.frozen? ⟨w.heap.size + 1 + 1 + 1 + 1, 3, none⟩ = false := (q113.frozen (p := ⟨w.heap.size + 1 + 1 + 1 + 1, 3, none⟩) y94).trans f110
  clear k95 k96 k97 k98 k99 k100 k101 k102 k103 k104 k105 k106 paD88 pbD88 y90 y91 y92 y93 y94 y111 f107 f108 f109 f110
  have y138 : g2 < w6.heap.size := World.block_lt_of_cell? _ _ paD112
  have q0 := Q0.out
  have q1 := Q1.out
  go_wp2_with fail
  refine (spec_l17Over _ _ _ _ _ (su_valid q1) (su_valid q0)).mono ?_
  rintro en w7 ⟨rfl, hx7⟩
  clear q0 q1
  rw [show ovT (suT g h c d) (suB g h c d) (suT e f e b) (suB e f e b) = ltUT e b c d e f g h from rfl, show ovB (suT g h c d) (suB g h c d) (suT e f e b) (suB e f e b) = ltUB e b c d e f g h from rfl, show ovOk (suT g h c d) (suB g h c d) (suT e f e b) (suB e f e b) = ltUOk e b c d e f g h from rfl]
  have q139 : Ext w6 w7 := hx7
  have y140 : w.heap.size < w7.heap.size := Nat.lt_of_lt_of_le y114 q139.size
  have y141 : w.heap.size + 1 < w7.heap.size := Nat.lt_of_lt_of_le y115 q139.size
  have y142 : w.heap.size + 1 + 1 < w7.heap.size := Nat.lt_of_lt_of_le y116 q139.size
  have y143 : w.heap.size + 1 + 1 + 1 < w7.heap.size := Nat.lt_of_lt_of_le y117 q139.size
  have y144 : w.heap.size + 1 + 1 + 1 + 1 < w7.heap.size := Nat.lt_of_lt_of_le y118 q139.size
  have y145 : g1 < w7.heap.size := Nat.lt_of_lt_of_le y119 q139.size
  have y146 : g2 < w7.heap.size := Nat.lt_of_lt_of_le y138 q139.size
  have k147 := ext_cell q139 k120
  have k148 := ext_cell q139 k121
  have k149 := ext_cell q139 k122
  have k150 := ext_cell q139 k123
  have k151 := ext_cell q139 k124
  have k152 := ext_cell q139 k125
  have k153 := ext_cell q139 k126
  have k154 := ext_cell q139 k127
  have k155 := ext_cell q139 k128
  have k156 := ext_cell q139 k129
  have k157 := ext_cell q139 k130
  have k158 := ext_cell q139 k131
  have k159 := ext_cell q139 k132
  have k160 := ext_cell q139 k133
  have k161 := ext_cell q139 paD112
  have k162 := ext_cell q139 pbD112
  have f163 : w7.frozen? ⟨w.heap.size + 1 + 1 + 1 + 1, 0, none⟩ = false := (q139.frozen (p := ⟨w.heap.size + 1 + 1 + 1 + 1, 0, none⟩) y118).trans f134
  have f164 : w7.frozen? ⟨w.heap.size + 1 + 1 + 1 + 1, 1, none⟩ = false := (q139.frozen (p := ⟨w.heap.size + 1 + 1 + 1 + 1, 1, none⟩) y118).trans f135
  have f165 : w7.frozen? ⟨w.heap.size + 1 + 1 + 1 + 1, 2, none⟩ = false := (q139.frozen (p := ⟨w.heap.size + 1 + 1 + 1 + 1, 2, none⟩) y118).trans f136
  have f166 : w7.frozen? ⟨w.heap.size + 1 + 1 + 1 + 1, 3, none⟩ = false := (q139.frozen (p := ⟨w.heap.size + 1 + 1 + 1 + 1, 3, none⟩) y118).trans f137
  clear k120 k121 k122 k123 k124 k125 k126 k127 k128 k129 k130 k131 k132 k133 paD112 pbD112 y114 y115 y116 y117 y118 y119 y138 f134 f135 f136 f137
  go_wp2_with fail
  refine (spec_TimesFractions _ _ _ _ _).mono ?_
  rintro en w8 ⟨rfl, hx8⟩
  rw [show timT (ltUT e b c d e f g h) (ltUB e b c d e f g h) e b = ltPT e b c d e f g h from rfl, show timB (ltUT e b c d e f g h) (ltUB e b c d e f g h) e b = ltPB e b c d e f g h from rfl, show timOk (ltUT e b c d e f g h) (ltUB e b c d e f g h) e b = ltPOk e b c d e f g h from rfl]
  have q167 : Ext w7 w8 := ext_trans (ext_alloc (ext_refl _) _) hx8
  have y168 : w.heap.size < w8.heap.size := Nat.lt_of_lt_of_le y140 q167.size
  have y169 : w.heap.size + 1 < w8.heap.size := Nat.lt_of_lt_of_le y141 q167.size
  have y170 : w.heap.size + 1 + 1 < w8.heap.size := Nat.lt_of_lt_of_le y142 q167.size
  have y171 : w.heap.size + 1 + 1 + 1 < w8.heap.size := Nat.lt_of_lt_of_le y143 q167.size
  have y172 : w.heap.size + 1 + 1 + 1 + 1 < w8.heap.size := Nat.lt_of_lt_of_le y144 q167.size
  have y173 : g1 < w8.heap.size := Nat.lt_of_lt_of_le y145 q167.size
  have y174 : g2 < w8.heap.size := Nat.lt_of_lt_of_le y146 q167.size
  have k175 := ext_cell q167 k147
  have k176 := ext_cell q167 k148
  have k177 := ext_cell q167 k149
  have k178 := ext_cell q167 k150
  have k179 := ext_cell q167 k151
  have k180 := ext_cell q167 k152
  have k181 := ext_cell q167 k153
  have k182 := ext_cell q167 k154
  have k183 := ext_cell q167 k155
  have k184 := ext_cell q167 k156
  have k185 := ext_cell q167 k157
  have k186 := ext_cell q167 k158
  have k187 := ext_cell q167 k159
  have k188 := ext_cell q167 k160
  have k189 := ext_cell q167 k161
  have k190 := ext_cell q167 k162
  have f191 : w8.frozen? ⟨w.heap.size + 1 + 1 + 1 + 1, 0, none⟩ = false := (q167.frozen (p := ⟨w.heap.size + 1 + 1 + 1 + 1, 0, none⟩) y144).trans f163
  have f192 : w8.frozen? ⟨w.heap.size + 1 + 1 + 1 + 1, 1, none⟩ = false := (q167.frozen (p := ⟨w.heap.size + 1 + 1 + 1 + 1, 1, none⟩) y144).trans f164
  have f193 : w8.frozen? ⟨w.heap.size + 1 + 1 + 1 + 1, 2, none⟩ = false := (q167.frozen (p := ⟨w.heap.size + 1 + 1 + 1 + 1, 2, none⟩) y144).trans f165
  have f194 : w8.frozen? ⟨w.heap.size + 1 + 1 + 1 + 1, 3, none⟩ = false := (q167.frozen (p := ⟨w.heap.size + 1 + 1 + 1 + 1, 3, none⟩) y144).trans f166
  clear k147 k148 k149 k150 k151 k152 k153 k154 k155 k156 k157 k158 k159 k160 k161 k162 y140 y141 y142 y143 y144 y145 y146 f163 f164 f165 f166
  have y195 : w7.heap.size < w8.heap.size := by have q := ext_size hx8; simp at q; omega
  have k196 := ext_cell hx8 (b := w7.heap.size) (off := 0) (v := .int .i64 (ltUT e b c d e f g h)) (by go_simp)
  have k197 := ext_cell hx8 (b := w7.heap.size) (off := 1) (v := .int .i64 (ltUB e b c d e f g h)) (by go_simp)
  go_wp2_with fail
  obtain ⟨w9, hw9⟩ : ∃ x, x = w8.alloc (.cells #[.int .i64 (ltPT e b c d e f g h), .int .i64 (ltPB e b c d e f g h)] 31) := ⟨_, rfl⟩
  rw [← hw9]
  have hx9 : Ext w8 w9 := by rw [hw9]; exact ext_alloc (ext_refl _) _
  have q198 : Ext w8 w9 := hx9
  have y199 : w.heap.size < w9.heap.size := Nat.lt_of_lt_of_le y168 q198.size
  have y200 : w.heap.size + 1 < w9.heap.size := Nat.lt_of_lt_of_le y169 q198.size
  have y201 : w.heap.size + 1 + 1 < w9.heap.size := Nat.lt_of_lt_of_le y170 q198.size
  have y202 : w.heap.size + 1 + 1 + 1 < w9.heap.size := Nat.lt_of_lt_of_le y171 q198.size
  have y203 : w.heap.size + 1 + 1 + 1 + 1 < w9.heap.size := Nat.lt_of_lt_of_le y172 q198.size
  have y204 : g1 < w9.heap.size := Nat.lt_of_lt_of_le y173 q198.size
  have y205 : g2 < w9.heap.size := Nat.lt_of_lt_of_le y174 q198.size
  have y206 : w7.heap.size < w9.heap.size := Nat.lt_of_lt_of_le y195 q198.size
  have k207 := ext_cell q198 k175
  have k208 := ext_cell q198 k176
  have k209 := ext_cell q198 k177
  have k210 := ext_cell q198 k178
  have k211 := ext_cell q198 k179
  have k212 := ext_cell q198 k180
  have k213 := ext_cell q198 k181
  have k214 := ext_cell q198 k182
  have k215 := ext_cell q198 k183
  have k216 := ext_cell q198 k184
  have k217 := ext_cell q198 k185
  have k218 := ext_cell q198 k186
  have k219 := ext_cell q198 k187
  have k220 := ext_cell q198 k188
  have k221 := ext_cell q198 k189
  have k222 := ext_cell q198 k190
  have k223 := ext_cell q198 k196
  have k224 := ext_cell q198 k197
  have f225 : w9.frozen? ⟨w.heap.size + 1 + 1 + 1 + 1, 0, none⟩ = false := (q198.frozen (p := ⟨w.heap.size + 1 + 1 + 1 + 1, 0, none⟩) y172).trans f191
  have f226 : w9.frozen? ⟨w.heap.size + 1 + 1 + 1 + 1, 1, none⟩ = false := (q198.frozen (p := ⟨w.heap.size + 1 + 1 + 1 + 1, 1, none⟩) y172).trans f192
  have f227 : w9.frozen? ⟨w.heap.size + 1 + 1 + 1 + 1, 2, none⟩ = false := (q198.frozen (p := ⟨w.heap.size + 1 + 1 + 1 + 1, 2, none⟩) y172).trans f193
  have f228 : w9.frozen? ⟨w.heap.size + 1 + 1 + 1 + 1, 3, none⟩ = false := (q198.frozen (p := ⟨w.heap.size + 1 + 1 + 1 + 1, 3, none⟩) y172).trans f194
  clear k175 k176 k177 k178 k179 k180 k181 k182 k183 k184 k185 k186 k187 k188 k189 k190 k196 k197 y168 y169 y170 y171 y172 y173 y174 y195 f191 f192 f193 f194
  have y229 : w8.heap.size < w9.heap.size := by rw [hw9]; simp
  have k230 : w9.cell? ⟨w8.heap.size, 0, none⟩ = some (.int .i64 (ltPT e b c d e f g h)) := by rw [hw9]; go_simp
  have k231 : w9.cell? ⟨w8.heap.size, 1, none⟩ = some (.int .i64 (ltPB e b c d e f g h)) := by rw [hw9]; go_simp
  have HW9 := Lib.hid hw9
  clear hw9
  have HKSD232 : Hid (∀ wb, Ext w9 wb → (Ext w9 wb ∧ wb.cell? ⟨w.heap.size + 1, 0, none⟩ = some (.int .i64 (c)) ∧ wb.cell? ⟨w.heap.size + 1, 1, none⟩ = some (.int .i64 (d)) ∧ wb.cell? ⟨w8.heap.size, 0, none⟩ = some (.int .i64 (ltPT e b c d e f g h)) ∧ wb.cell? ⟨w8.heap.size, 1, none⟩ = some (.int .i64 (ltPB e b c d e f g h)))) := fun wb h => ⟨h, ext_cell h k209, ext_cell h k210, ext_cell h k230, ext_cell h k231⟩
  go_upto_region 9 with fail
  go_cut [18, 19] (fun s18 s19 wx => ∃ gq : Nat, s18 = .pointer (some ⟨gq, 0, none⟩) ∧ s19 = .bool (ltZOk e b c d e f g h) ∧ wx.cell? ⟨gq, 0, none⟩ = some (.int .i64 (ltZT e b c d e f g h)) ∧ wx.cell? ⟨gq, 1, none⟩ = some (.int .i64 (ltZB e b c d e f g h)) ∧ Ext w9 wx)
  case first =>
    go_region_held3 (fun w' => Ext w9 w' ∧ w'.cell? ⟨w.heap.size + 1, 0, none⟩ = some (.int .i64 (c)) ∧ w'.cell? ⟨w.heap.size + 1, 1, none⟩ = some (.int .i64 (d)) ∧ w'.cell? ⟨w8.heap.size, 0, none⟩ = some (.int .i64 (ltPT e b c d e f g h)) ∧ w'.cell? ⟨w8.heap.size, 1, none⟩ = some (.int .i64 (ltPB e b c d e f g h)))
      ((refine HKSD232.out _ ?_; repeat (first | (with_reducible exact ext_refl _) | (with_reducible refine ext_drew ?_) | (with_reducible refine ext_setCell ?_ ?_ _) | (with_reducible refine ext_alloc ?_ _) | (with_reducible refine ext_trans ?_ (by assumption)) | ((try dsimp only); with_reducible exact Nat.le_refl _) | ((try dsimp only); with_reducible refine ext_size ?_))))
      (first
        | (go_at_call 124; refine (spec_l17Minus _ _ _).mono ?_; rintro e w3 ⟨rfl, hx3⟩; obtain ⟨hc3, hf3, hn3⟩ := bcell3 hx3; first | (have hz4 := hn3 _ hz4) | (have hz := ext_size hx3; simp at hz; have hz4 := Nat.lt_of_succ_le hz) | skip)
        | (go_at_call 123; refine (spec_Add_su _ _ _ _ _).mono ?_; rintro e w3 ⟨rfl, hx3⟩; obtain ⟨hc3, hf3, hn3⟩ := bcell3 hx3; first | (have hz4 := hn3 _ hz4) | (have hz := ext_size hx3; simp at hz; have hz4 := Nat.lt_of_succ_le hz) | skip))
    all_goals
      go_wp2_with fail
      go_meet
      refine ⟨_, rfl, rfl, ?_, ?_, ?_⟩
      · first | (go_simp; rfl) | go_simp
      · first | (go_simp; rfl) | go_simp
      · repeat (first | (with_reducible exact ext_refl _) | (with_reducible refine ext_drew ?_) | (with_reducible refine ext_setCell ?_ ?_ _) | (with_reducible refine ext_alloc ?_ _) | (with_reducible refine ext_trans ?_ (by assumption)) | ((try dsimp only); with_reducible exact Nat.le_refl _) | ((try dsimp only); with_reducible refine ext_size ?_))
  obtain ⟨g3, rfl, rfl, paD232, pbD232, hxD232⟩ := hcut
  obtain ⟨w10, rfl⟩ : ∃ x : World, x = wc := ⟨_, rfl⟩
  clear HKSD232
  have q233 : Ext w9 w10 := hxD232
  have y234 : w.heap.size < w10.heap.size := Nat.lt_of_lt_of_le y199 q233.size
  have y235 : w.heap.size + 1 < w10.heap.size := Nat.lt_of_lt_of_le y200 q233.size
  have y236 : w.heap.size + 1 + 1 < w10.heap.size := Nat.lt_of_lt_of_le y201 q233.size
  have y237 : w.heap.size + 1 + 1 + 1 < w10.heap.size := Nat.lt_of_lt_of_le y202 q233.size
  have y238 : w.heap.size + 1 + 1 + 1 + 1 < w10.heap.size := Nat.lt_of_lt_of_le y203 q233.size
  have y239 : g1 < w10.heap.size := Nat.lt_of_lt_of_le y204 q233.size
  have y240 : g2 < w10.heap.size := Nat.lt_of_lt_of_le y205 q233.size
  have y241 : w7.heap.size < w10.heap.size := Nat.lt_of_lt_of_le y206 q233.size
  have y242 : w8.heap.size < w10.heap.size := Nat.lt_of_lt_of_le y229 q233.size
  have k243 := ext_cell q233 k207
  have k244 := ext_cell q233 k208
  have k245 := ext_cell q233 k209
  have k246 := ext_cell q233 k210
  have k247 := ext_cell q233 k211
  have k248 := ext_cell q233 k212
  have k249 := ext_cell q233 k213
  have k250 := ext_cell q233 k214
  have k251 := ext_cell q233 k215
  have k252 := ext_cell q233 k216
  have k253 := ext_cell q233 k217
  have k254 := ext_cell q233 k218
  have k255 := ext_cell q233 k219
  have k256 := ext_cell q233 k220
  have k257 := ext_cell q233 k221
  have k258 := ext_cell q233 k222
  have k259 := ext_cell q233 k223
  have k260 := ext_cell q233 k224
  have k261 := ext_cell q233 k230
  have k262 := ext_cell q233 k231
  have f263 : w10.frozen? ⟨w.heap.size + 1 + 1 + 1 + 1, 0, none⟩ = false := (q233.frozen (p := ⟨w.heap.size + 1 + 1 + 1 + 1, 0, none⟩) y203).trans f225
  have f264 : w10.frozen? ⟨w.heap.size + 1 + 1 + 1 + 1, 1, none⟩ = false := (q233.frozen (p := ⟨w.heap.size + 1 + 1 + 1 + 1, 1, none⟩) y203).trans f226
  have f265 : w10.frozen? ⟨w.heap.size + 1 + 1 + 1 + 1, 2, none⟩ = false := (q233.frozen (p := ⟨w.heap.size + 1 + 1 + 1 + 1, 2, none⟩) y203).trans f227
  have f266 : w10.frozen? ⟨w.heap.size + 1 + 1 + 1 + 1, 3, none⟩ = false := (q233.frozen (p := ⟨w.heap.size + 1 + 1 + 1 + 1, 3, none⟩) y203).trans f228
  clear k207 k208 k209 k210 k211 k212 k213 k214 k215 k216 k217 k218 k219 k220 k221 k222 k223 k224 k230 k231 y199 y200 y201 y202 y203 y204 y205 y206 y229 f225 f226 f227 f228
  have y267 : g3 < w10.heap.size := World.block_lt_of_cell? _ _ paD232
  have q2 := Q2.out
  go_wp2_with fail
  exact bodyPost_ret (v := .tuple #[lineV (0) (0) (0) (0), .bool false]) (by simp [results, Try.results101, go_sem, k251, k252, k253, k254, y238]) rfl ⟨rfl, (by repeat (first | (with_reducible exact ext_refl _) | (with_reducible refine ext_setCell ?_ ?_ _) | (with_reducible refine ext_alloc ?_ _) | (with_reducible refine ext_drewN ?_ _) | (with_reducible refine ext_drew ?_) | (with_reducible refine ext_trans ?_ (by assumption)) | (dsimp only; omega) | omega | (simp; omega)))⟩
set_option maxHeartbeats 6400000 in
set_option maxRecDepth 100000 in
theorem spec_LT_d1c3 (e b c d f g h : Int) (w : World) (h0 : fracOk e b = true) (h1 : fracOk c d = true) (h2 : fracOk e f = true) (h3 : fracOk g h = true) (h4 : ¬ b = f) (q0 : suOk e f e b = true) (q1 : suOk g h c d = true) (q2 : ltUOk e b c d e f g h = true) (q3 : ltPOk e b c d e f g h = false) :
    Calls Try.prog 101 #[.agg #[.int .i64 e, .int .i64 b], .agg #[.int .i64 c, .int .i64 d], .agg #[.int .i64 e, .int .i64 f], .agg #[.int .i64 g, .int .i64 h]] w fun en w' => en = lineR 0 0 0 0 false ∧ Ext w w' := by
  have Q0 := Lib.hid q0
  have Q1 := Lib.hid q1
  have Q2 := Lib.hid q2
  have Q3 := Lib.hid q3
  clear q0 q1 q2 q3
  go_enter Try.func101, Try.ntmps101
  go_wp2_with fail
  refine (spec_FractionOk _ _ _).mono ?_
  rintro en w1 ⟨rfl, hx1⟩
  have y1 : w.heap.size < w1.heap.size := by have := hx1.size; simp at this; omega
  have k2 := ext_cell hx1 (b := w.heap.size) (off := 0) (v := .int .i64 (e)) (by go_simp)
  have k3 := ext_cell hx1 (b := w.heap.size) (off := 1) (v := .int .i64 (b)) (by go_simp)
  have y4 : w.heap.size + 1 < w1.heap.size := by have := hx1.size; simp at this; omega
  have k5 := ext_cell hx1 (b := w.heap.size + 1) (off := 0) (v := .int .i64 (c)) (by go_simp)
  have k6 := ext_cell hx1 (b := w.heap.size + 1) (off := 1) (v := .int .i64 (d)) (by go_simp)
  have y7 : w.heap.size + 1 + 1 < w1.heap.size := by have := hx1.size; simp at this; omega
  have k8 := ext_cell hx1 (b := w.heap.size + 1 + 1) (off := 0) (v := .int .i64 (e)) (by go_simp)
  have k9 := ext_cell hx1 (b := w.heap.size + 1 + 1) (off := 1) (v := .int .i64 (f)) (by go_simp)
  have y10 : w.heap.size + 1 + 1 + 1 < w1.heap.size := by have := hx1.size; simp at this; omega
  have k11 := ext_cell hx1 (b := w.heap.size + 1 + 1 + 1) (off := 0) (v := .int .i64 (g)) (by go_simp)
  have k12 := ext_cell hx1 (b := w.heap.size + 1 + 1 + 1) (off := 1) (v := .int .i64 (h)) (by go_simp)
  have y13 : w.heap.size + 1 + 1 + 1 + 1 < w1.heap.size := by have := hx1.size; simp at this; omega
  have k14 := ext_cell hx1 (b := w.heap.size + 1 + 1 + 1 + 1) (off := 0) (v := .int .i64 (0)) (by go_simp)
  have k15 := ext_cell hx1 (b := w.heap.size + 1 + 1 + 1 + 1) (off := 1) (v := .int .i64 (0)) (by go_simp)
  have k16 := ext_cell hx1 (b := w.heap.size + 1 + 1 + 1 + 1) (off := 2) (v := .int .i64 (0)) (by go_simp)
  have k17 := ext_cell hx1 (b := w.heap.size + 1 + 1 + 1 + 1) (off := 3) (v := .int .i64 (0)) (by go_simp)
  have f18 : w1.frozen? ⟨w.heap.size + 1 + 1 + 1 + 1, 0, none⟩ = false := by rw [hx1.frozen (p := ⟨w.heap.size + 1 + 1 + 1 + 1, 0, none⟩) (by simp; try omega)]; go_simp
  have f19 : w1.frozen? ⟨w.heap.size + 1 + 1 + 1 + 1, 1, none⟩ = false := by rw [hx1.frozen (p := ⟨w.heap.size + 1 + 1 + 1 + 1, 1, none⟩) (by simp; try omega)]; go_simp
  have f20 : w1.frozen? ⟨w.heap.size + 1 + 1 + 1 + 1, 2, none⟩ = false := by rw [hx1.frozen (p := ⟨w.heap.size + 1 + 1 + 1 + 1, 2, none⟩) (by simp; try omega)]; go_simp
  have f21 : w1.frozen? ⟨w.heap.size + 1 + 1 + 1 + 1, 3, none⟩ = false := by rw [hx1.frozen (p := ⟨w.heap.size + 1 + 1 + 1 + 1, 3, none⟩) (by simp; try omega)]; go_simp
  go_wp2_with fail
  refine (spec_FractionOk _ _ _).mono ?_
  rintro en w2 ⟨rfl, hx2⟩
  have q22 : Ext w1 w2 := hx2
  have y23 : w.heap.size < w2.heap.size := Nat.lt_of_lt_of_le y1 q22.size
  have y24 : w.heap.size + 1 < w2.heap.size := Nat.lt_of_lt_of_le y4 q22.size
  have y25 : w.heap.size + 1 + 1 < w2.heap.size := Nat.lt_of_lt_of_le y7 q22.size
  have y26 : w.heap.size + 1 + 1 + 1 < w2.heap.size := Nat.lt_of_lt_of_le y10 q22.size
  have y27 : w.heap.size + 1 + 1 + 1 + 1 < w2.heap.size := Nat.lt_of_lt_of_le y13 q22.size
  have k28 := ext_cell q22 k2
  have k29 := ext_cell q22 k3
  have k30 := ext_cell q22 k5
  have k31 := ext_cell q22 k6
  have k32 := ext_cell q22 k8
  have k33 := ext_cell q22 k9
  have k34 := ext_cell q22 k11
  have k35 := ext_cell q22 k12
  have k36 := ext_cell q22 k14
  have k37 := ext_cell q22 k15
  have k38 := ext_cell q22 k16
  have k39 := ext_cell q22 k17
  have f40 : w2.frozen? ⟨w.heap.size + 1 + 1 + 1 + 1, 0, none⟩ = false := (q22.frozen (p := ⟨w.heap.size + 1 + 1 + 1 + 1, 0, none⟩) y13).trans f18
  have f41 : w2.frozen? ⟨w.heap.size + 1 + 1 + 1 + 1, 1, none⟩ = false := (q22.frozen (p := ⟨w.heap.size + 1 + 1 + 1 + 1, 1, none⟩) y13).trans f19
  have f42 : w2.frozen? ⟨w.heap.size + 1 + 1 + 1 + 1, 2, none⟩ = false := (q22.frozen (p := ⟨w.heap.size + 1 + 1 + 1 + 1, 2, none⟩) y13).trans f20
  have f43 : w2.frozen? ⟨w.heap.size + 1 + 1 + 1 + 1, 3, none⟩ = false := (q22.frozen (p := ⟨w.heap.size + 1 + 1 + 1 + 1, 3, none⟩) y13).trans f21
  clear k2 k3 k5 k6 k8 k9 k11 k12 k14 k15 k16 k17 y1 y4 y7 y10 y13 f18 f19 f20 f21
  go_wp2_with fail
  refine (spec_FractionOk _ _ _).mono ?_
  rintro en w3 ⟨rfl, hx3⟩
  have q44 : Ext w2 w3 := hx3
  have y45 : w.heap.size < w3.heap.size := Nat.lt_of_lt_of_le y23 q44.size
  have y46 : w.heap.size + 1 < w3.heap.size := Nat.lt_of_lt_of_le y24 q44.size
  have y47 : w.heap.size + 1 + 1 < w3.heap.size := Nat.lt_of_lt_of_le y25 q44.size
  have y48 : w.heap.size + 1 + 1 + 1 < w3.heap.size := Nat.lt_of_lt_of_le y26 q44.size
  have y49 : w.heap.size + 1 + 1 + 1 + 1 < w3.heap.size := Nat.lt_of_lt_of_le y27 q44.size
  have k50 := ext_cell q44 k28
  have k51 := ext_cell q44 k29
  have k52 := ext_cell q44 k30
  have k53 := ext_cell q44 k31
  have k54 := ext_cell q44 k32
  have k55 := ext_cell q44 k33
  have k56 := ext_cell q44 k34
  have k57 := ext_cell q44 k35
  have k58 := ext_cell q44 k36
  have k59 := ext_cell q44 k37
  have k60 := ext_cell q44 k38
  have k61 := ext_cell q44 k39
  have f62 : w3.frozen? ⟨w.heap.size + 1 + 1 + 1 + 1, 0, none⟩ = false := (q44.frozen (p := ⟨w.heap.size + 1 + 1 + 1 + 1, 0, none⟩) y27).trans f40
  have f63 : w3.frozen? ⟨w.heap.size + 1 + 1 + 1 + 1, 1, none⟩ = false := (q44.frozen (p := ⟨w.heap.size + 1 + 1 + 1 + 1, 1, none⟩) y27).trans f41
  have f64 : w3.frozen? ⟨w.heap.size + 1 + 1 + 1 + 1, 2, none⟩ = false := (q44.frozen (p := ⟨w.heap.size + 1 + 1 + 1 + 1, 2, none⟩) y27).trans f42
  have f65 : w3.frozen? ⟨w.heap.size + 1 + 1 + 1 + 1, 3, none⟩ = false := (q44.frozen (p := ⟨w.heap.size + 1 + 1 + 1 + 1, 3, none⟩) y27).trans f43
  clear k28 k29 k30 k31 k32 k33 k34 k35 k36 k37 k38 k39 y23 y24 y25 y26 y27 f40 f41 f42 f43
  go_wp2_with fail
  refine (spec_FractionOk _ _ _).mono ?_
  rintro en w4 ⟨rfl, hx4⟩
  have q66 : Ext w3 w4 := hx4
  have y67 : w.heap.size < w4.heap.size := Nat.lt_of_lt_of_le y45 q66.size
  have y68 : w.heap.size + 1 < w4.heap.size := Nat.lt_of_lt_of_le y46 q66.size
  have y69 : w.heap.size + 1 + 1 < w4.heap.size := Nat.lt_of_lt_of_le y47 q66.size
  have y70 : w.heap.size + 1 + 1 + 1 < w4.heap.size := Nat.lt_of_lt_of_le y48 q66.size
  have y71 : w.heap.size + 1 + 1 + 1 + 1 < w4.heap.size := Nat.lt_of_lt_of_le y49 q66.size
  have k72 := ext_cell q66 k50
  have k73 := ext_cell q66 k51
  have k74 := ext_cell q66 k52
  have k75 := ext_cell q66 k53
  have k76 := ext_cell q66 k54
  have k77 := ext_cell q66 k55
  have k78 := ext_cell q66 k56
  have k79 := ext_cell q66 k57
  have k80 := ext_cell q66 k58
  have k81 := ext_cell q66 k59
  have k82 := ext_cell q66 k60
  have k83 := ext_cell q66 k61
  have f84 : w4.frozen? ⟨w.heap.size + 1 + 1 + 1 + 1, 0, none⟩ = false := (q66.frozen (p := ⟨w.heap.size + 1 + 1 + 1 + 1, 0, none⟩) y49).trans f62
  have f85 : w4.frozen? ⟨w.heap.size + 1 + 1 + 1 + 1, 1, none⟩ = false := (q66.frozen (p := ⟨w.heap.size + 1 + 1 + 1 + 1, 1, none⟩) y49).trans f63
  have f86 : w4.frozen? ⟨w.heap.size + 1 + 1 + 1 + 1, 2, none⟩ = false := (q66.frozen (p := ⟨w.heap.size + 1 + 1 + 1 + 1, 2, none⟩) y49).trans f64
  have f87 : w4.frozen? ⟨w.heap.size + 1 + 1 + 1 + 1, 3, none⟩ = false := (q66.frozen (p := ⟨w.heap.size + 1 + 1 + 1 + 1, 3, none⟩) y49).trans f65
  clear k50 k51 k52 k53 k54 k55 k56 k57 k58 k59 k60 k61 y45 y46 y47 y48 y49 f62 f63 f64 f65
  have HKSD88 : Hid (∀ wb, Ext w4 wb → (Ext w4 wb ∧ wb.cell? ⟨w.heap.size, 0, none⟩ = some (.int .i64 (e)) ∧ wb.cell? ⟨w.heap.size, 1, none⟩ = some (.int .i64 (b)) ∧ wb.cell? ⟨w.heap.size + 1 + 1, 0, none⟩ = some (.int .i64 (e)) ∧ wb.cell? ⟨w.heap.size + 1 + 1, 1, none⟩ = some (.int .i64 (f)))) := fun wb h => ⟨h, ext_cell h k72, ext_cell h k73, ext_cell h k76, ext_cell h k77⟩
  go_upto_region 3 with fail
  go_cut [10, 11] (fun s10 s11 wx => ∃ gq : Nat, s10 = .pointer (some ⟨gq, 0, none⟩) ∧ s11 = .bool (suOk e f e b) ∧ wx.cell? ⟨gq, 0, none⟩ = some (.int .i64 (suT e f e b)) ∧ wx.cell? ⟨gq, 1, none⟩ = some (.int .i64 (suB e f e b)) ∧ Ext w4 wx)
  case first =>
    go_region_held3 (fun w' => Ext w4 w' ∧ w'.cell? ⟨w.heap.size, 0, none⟩ = some (.int .i64 (e)) ∧ w'.cell? ⟨w.heap.size, 1, none⟩ = some (.int .i64 (b)) ∧ w'.cell? ⟨w.heap.size + 1 + 1, 0, none⟩ = some (.int .i64 (e)) ∧ w'.cell? ⟨w.heap.size + 1 + 1, 1, none⟩ = some (.int .i64 (f)))
      ((refine HKSD88.out _ ?_; repeat (first | (with_reducible exact ext_refl _) | (with_reducible refine ext_drew ?_) | (with_reducible refine ext_setCell ?_ ?_ _) | (with_reducible refine ext_alloc ?_ _) | (with_reducible refine ext_trans ?_ (by assumption)) | ((try dsimp only); with_reducible exact Nat.le_refl _) | ((try dsimp only); with_reducible refine ext_size ?_))))
      (first
        | (go_at_call 124; refine (spec_l17Minus _ _ _).mono ?_; rintro e w3 ⟨rfl, hx3⟩; obtain ⟨hc3, hf3, hn3⟩ := bcell3 hx3; first | (have hz4 := hn3 _ hz4) | (have hz := ext_size hx3; simp at hz; have hz4 := Nat.lt_of_succ_le hz) | skip)
        | (go_at_call 123; refine (spec_Add_su _ _ _ _ _).mono ?_; rintro e w3 ⟨rfl, hx3⟩; obtain ⟨hc3, hf3, hn3⟩ := bcell3 hx3; first | (have hz4 := hn3 _ hz4) | (have hz := ext_size hx3; simp at hz; have hz4 := Nat.lt_of_succ_le hz) | skip))
    all_goals
      go_wp2_with fail
      go_meet
      refine ⟨_, rfl, rfl, ?_, ?_, ?_⟩
      · first | (go_simp; rfl) | go_simp
      · first | (go_simp; rfl) | go_simp
      · repeat (first | (with_reducible exact ext_refl _) | (with_reducible refine ext_drew ?_) | (with_reducible refine ext_setCell ?_ ?_ _) | (with_reducible refine ext_alloc ?_ _) | (with_reducible refine ext_trans ?_ (by assumption)) | ((try dsimp only); with_reducible exact Nat.le_refl _) | ((try dsimp only); with_reducible refine ext_size ?_))
  obtain ⟨g1, rfl, rfl, paD88, pbD88, hxD88⟩ := hcut
  obtain ⟨w5, rfl⟩ : ∃ x : World, x = wc := ⟨_, rfl⟩
  clear HKSD88
  have q89 : Ext w4 w5 := hxD88
  have y90 : w.heap.size < w5.heap.size := Nat.lt_of_lt_of_le y67 q89.size
  have y91 : w.heap.size + 1 < w5.heap.size := Nat.lt_of_lt_of_le y68 q89.size
  have y92 : w.heap.size + 1 + 1 < w5.heap.size := Nat.lt_of_lt_of_le y69 q89.size
  have y93 : w.heap.size + 1 + 1 + 1 < w5.heap.size := Nat.lt_of_lt_of_le y70 q89.size
  have y94 : w.heap.size + 1 + 1 + 1 + 1 < w5.heap.size := Nat.lt_of_lt_of_le y71 q89.size
  have k95 := ext_cell q89 k72
  have k96 := ext_cell q89 k73
  have k97 := ext_cell q89 k74
  have k98 := ext_cell q89 k75
  have k99 := ext_cell q89 k76
  have k100 := ext_cell q89 k77
  have k101 := ext_cell q89 k78
  have k102 := ext_cell q89 k79
  have k103 := ext_cell q89 k80
  have k104 := ext_cell q89 k81
  have k105 := ext_cell q89 k82
  have k106 := ext_cell q89 k83
  have f107 : w5.frozen? ⟨w.heap.size + 1 + 1 + 1 + 1, 0, none⟩ = false := (q89.frozen (p := ⟨w.heap.size + 1 + 1 + 1 + 1, 0, none⟩) y71).trans f84
  have f108 : w5.frozen? ⟨w.heap.size + 1 + 1 + 1 + 1, 1, none⟩ = false := (q89.frozen (p := ⟨w.heap.size + 1 + 1 + 1 + 1, 1, none⟩) y71).trans f85
  have f109 : w5.frozen? ⟨w.heap.size + 1 + 1 + 1 + 1, 2, none⟩ = false := (q89.frozen (p := ⟨w.heap.size + 1 + 1 + 1 + 1, 2, none⟩) y71).trans f86
  have f110 : w5.frozen? ⟨w.heap.size + 1 + 1 + 1 + 1, 3, none⟩ = false := (q89.frozen (p := ⟨w.heap.size + 1 + 1 + 1 + 1, 3, none⟩) y71).trans f87
  clear k72 k73 k74 k75 k76 k77 k78 k79 k80 k81 k82 k83 y67 y68 y69 y70 y71 f84 f85 f86 f87
  have y111 : g1 < w5.heap.size := World.block_lt_of_cell? _ _ paD88
  have HKSD112 : Hid (∀ wb, Ext w5 wb → (Ext w5 wb ∧ wb.cell? ⟨w.heap.size + 1, 0, none⟩ = some (.int .i64 (c)) ∧ wb.cell? ⟨w.heap.size + 1, 1, none⟩ = some (.int .i64 (d)) ∧ wb.cell? ⟨w.heap.size + 1 + 1 + 1, 0, none⟩ = some (.int .i64 (g)) ∧ wb.cell? ⟨w.heap.size + 1 + 1 + 1, 1, none⟩ = some (.int .i64 (h)))) := fun wb h => ⟨h, ext_cell h k97, ext_cell h k98, ext_cell h k101, ext_cell h k102⟩
  go_upto_region 4 with fail
  go_cut [12, 13] (fun s12 s13 wx => ∃ gq : Nat, s12 = .pointer (some ⟨gq, 0, none⟩) ∧ s13 = .bool (suOk g h c d) ∧ wx.cell? ⟨gq, 0, none⟩ = some (.int .i64 (suT g h c d)) ∧ wx.cell? ⟨gq, 1, none⟩ = some (.int .i64 (suB g h c d)) ∧ Ext w5 wx)
  case first =>
    go_region_held3 (fun w' => Ext w5 w' ∧ w'.cell? ⟨w.heap.size + 1, 0, none⟩ = some (.int .i64 (c)) ∧ w'.cell? ⟨w.heap.size + 1, 1, none⟩ = some (.int .i64 (d)) ∧ w'.cell? ⟨w.heap.size + 1 + 1 + 1, 0, none⟩ = some (.int .i64 (g)) ∧ w'.cell? ⟨w.heap.size + 1 + 1 + 1, 1, none⟩ = some (.int .i64 (h)))
      ((refine HKSD112.out _ ?_; repeat (first | (with_reducible exact ext_refl _) | (with_reducible refine ext_drew ?_) | (with_reducible refine ext_setCell ?_ ?_ _) | (with_reducible refine ext_alloc ?_ _) | (with_reducible refine ext_trans ?_ (by assumption)) | ((try dsimp only); with_reducible exact Nat.le_refl _) | ((try dsimp only); with_reducible refine ext_size ?_))))
      (first
        | (go_at_call 124; refine (spec_l17Minus _ _ _).mono ?_; rintro e w3 ⟨rfl, hx3⟩; obtain ⟨hc3, hf3, hn3⟩ := bcell3 hx3; first | (have hz4 := hn3 _ hz4) | (have hz := ext_size hx3; simp at hz; have hz4 := Nat.lt_of_succ_le hz) | skip)
        | (go_at_call 123; refine (spec_Add_su _ _ _ _ _).mono ?_; rintro e w3 ⟨rfl, hx3⟩; obtain ⟨hc3, hf3, hn3⟩ := bcell3 hx3; first | (have hz4 := hn3 _ hz4) | (have hz := ext_size hx3; simp at hz; have hz4 := Nat.lt_of_succ_le hz) | skip))
    all_goals
      go_wp2_with fail
      go_meet
      refine ⟨_, rfl, rfl, ?_, ?_, ?_⟩
      · first | (go_simp; rfl) | go_simp
      · first | (go_simp; rfl) | go_simp
      · repeat (first | (with_reducible exact ext_refl _) | (with_reducible refine ext_drew ?_) | (with_reducible refine ext_setCell ?_ ?_ _) | (with_reducible refine ext_alloc ?_ _) | (with_reducible refine ext_trans ?_ (by assumption)) | ((try dsimp only); with_reducible exact Nat.le_refl _) | ((try dsimp only); with_reducible refine ext_size ?_))
  obtain ⟨g2, rfl, rfl, paD112, pbD112, hxD112⟩ := hcut
  obtain ⟨w6, rfl⟩ : ∃ x : World, x = wc := ⟨_, rfl⟩
  clear HKSD112
  have q113 : Ext w5 w6 := hxD112
  have y114 : w.heap.size < w6.heap.size := Nat.lt_of_lt_of_le y90 q113.size
  have y115 : w.heap.size + 1 < w6.heap.size := Nat.lt_of_lt_of_le y91 q113.size
  have y116 : w.heap.size + 1 + 1 < w6.heap.size := Nat.lt_of_lt_of_le y92 q113.size
  have y117 : w.heap.size + 1 + 1 + 1 < w6.heap.size := Nat.lt_of_lt_of_le y93 q113.size
  have y118 : w.heap.size + 1 + 1 + 1 + 1 < w6.heap.size := Nat.lt_of_lt_of_le y94 q113.size
  have y119 : g1 < w6.heap.size := Nat.lt_of_lt_of_le y111 q113.size
  have k120 := ext_cell q113 k95
  have k121 := ext_cell q113 k96
  have k122 := ext_cell q113 k97
  have k123 := ext_cell q113 k98
  have k124 := ext_cell q113 k99
  have k125 := ext_cell q113 k100
  have k126 := ext_cell q113 k101
  have k127 := ext_cell q113 k102
  have k128 := ext_cell q113 k103
  have k129 := ext_cell q113 k104
  have k130 := ext_cell q113 k105
  have k131 := ext_cell q113 k106
  have k132 := ext_cell q113 paD88
  have k133 := ext_cell q113 pbD88
  have f134 : w6.frozen? ⟨w.heap.size + 1 + 1 + 1 + 1, 0, none⟩ = false := (q113.frozen (p := ⟨w.heap.size + 1 + 1 + 1 + 1, 0, none⟩) y94).trans f107
  have f135 : w6.frozen? ⟨w.heap.size + 1 + 1 + 1 + 1, 1, none⟩ = false := (q113.frozen (p := ⟨w.heap.size + 1 + 1 + 1 + 1, 1, none⟩) y94).trans f108
  have f136 : w6.frozen? ⟨w.heap.size + 1 + 1 + 1 + 1, 2, none⟩ = false := (q113.frozen (p := ⟨w.heap.size + 1 + 1 + 1 + 1, 2, none⟩) y94).trans f109
  have f137 : w6.frozen? ⟨w.heap.size + 1 + 1 + 1 + 1, 3, none⟩ = false := (q113.frozen (p := ⟨w.heap.size + 1 + 1 + 1 + 1, 3, none⟩) y94).trans f110
  clear k95 k96 k97 k98 k99 k100 k101 k102 k103 k104 k105 k106 paD88 pbD88 y90 y91 y92 y93 y94 y111 f107 f108 f109 f110
  have y138 : g2 < w6.heap.size := World.block_lt_of_cell? _ _ paD112
  have q0 := Q0.out
  have q1 := Q1.out
  go_wp2_with fail
  refine (spec_l17Over _ _ _ _ _ (su_valid q1) (su_valid q0)).mono ?_
  rintro en w7 ⟨rfl, hx7⟩
  clear q0 q1
  rw [show ovT (suT g h c d) (suB g h c d) (suT e f e b) (suB e f e b) = ltUT e b c d e f g h from rfl, show ovB (suT g h c d) (suB g h c d) (suT e f e b) (suB e f e b) = ltUB e b c d e f g h from rfl, show ovOk (suT g h c d) (suB g h c d) (suT e f e b) (suB e f e b) = ltUOk e b c d e f g h from rfl]
  have q139 : Ext w6 w7 := hx7
  have y140 : w.heap.size < w7.heap.size := Nat.lt_of_lt_of_le y114 q139.size
  have y141 : w.heap.size + 1 < w7.heap.size := Nat.lt_of_lt_of_le y115 q139.size
  have y142 : w.heap.size + 1 + 1 < w7.heap.size := Nat.lt_of_lt_of_le y116 q139.size
  have y143 : w.heap.size + 1 + 1 + 1 < w7.heap.size := Nat.lt_of_lt_of_le y117 q139.size
  have y144 : w.heap.size + 1 + 1 + 1 + 1 < w7.heap.size := Nat.lt_of_lt_of_le y118 q139.size
  have y145 : g1 < w7.heap.size := Nat.lt_of_lt_of_le y119 q139.size
  have y146 : g2 < w7.heap.size := Nat.lt_of_lt_of_le y138 q139.size
  have k147 := ext_cell q139 k120
  have k148 := ext_cell q139 k121
  have k149 := ext_cell q139 k122
  have k150 := ext_cell q139 k123
  have k151 := ext_cell q139 k124
  have k152 := ext_cell q139 k125
  have k153 := ext_cell q139 k126
  have k154 := ext_cell q139 k127
  have k155 := ext_cell q139 k128
  have k156 := ext_cell q139 k129
  have k157 := ext_cell q139 k130
  have k158 := ext_cell q139 k131
  have k159 := ext_cell q139 k132
  have k160 := ext_cell q139 k133
  have k161 := ext_cell q139 paD112
  have k162 := ext_cell q139 pbD112
  have f163 : w7.frozen? ⟨w.heap.size + 1 + 1 + 1 + 1, 0, none⟩ = false := (q139.frozen (p := ⟨w.heap.size + 1 + 1 + 1 + 1, 0, none⟩) y118).trans f134
  have f164 : w7.frozen? ⟨w.heap.size + 1 + 1 + 1 + 1, 1, none⟩ = false := (q139.frozen (p := ⟨w.heap.size + 1 + 1 + 1 + 1, 1, none⟩) y118).trans f135
  have f165 : w7.frozen? ⟨w.heap.size + 1 + 1 + 1 + 1, 2, none⟩ = false := (q139.frozen (p := ⟨w.heap.size + 1 + 1 + 1 + 1, 2, none⟩) y118).trans f136
  have f166 : w7.frozen? ⟨w.heap.size + 1 + 1 + 1 + 1, 3, none⟩ = false := (q139.frozen (p := ⟨w.heap.size + 1 + 1 + 1 + 1, 3, none⟩) y118).trans f137
  clear k120 k121 k122 k123 k124 k125 k126 k127 k128 k129 k130 k131 k132 k133 paD112 pbD112 y114 y115 y116 y117 y118 y119 y138 f134 f135 f136 f137
  go_wp2_with fail
  refine (spec_TimesFractions _ _ _ _ _).mono ?_
  rintro en w8 ⟨rfl, hx8⟩
  rw [show timT (ltUT e b c d e f g h) (ltUB e b c d e f g h) e b = ltPT e b c d e f g h from rfl, show timB (ltUT e b c d e f g h) (ltUB e b c d e f g h) e b = ltPB e b c d e f g h from rfl, show timOk (ltUT e b c d e f g h) (ltUB e b c d e f g h) e b = ltPOk e b c d e f g h from rfl]
  have q167 : Ext w7 w8 := ext_trans (ext_alloc (ext_refl _) _) hx8
  have y168 : w.heap.size < w8.heap.size := Nat.lt_of_lt_of_le y140 q167.size
  have y169 : w.heap.size + 1 < w8.heap.size := Nat.lt_of_lt_of_le y141 q167.size
  have y170 : w.heap.size + 1 + 1 < w8.heap.size := Nat.lt_of_lt_of_le y142 q167.size
  have y171 : w.heap.size + 1 + 1 + 1 < w8.heap.size := Nat.lt_of_lt_of_le y143 q167.size
  have y172 : w.heap.size + 1 + 1 + 1 + 1 < w8.heap.size := Nat.lt_of_lt_of_le y144 q167.size
  have y173 : g1 < w8.heap.size := Nat.lt_of_lt_of_le y145 q167.size
  have y174 : g2 < w8.heap.size := Nat.lt_of_lt_of_le y146 q167.size
  have k175 := ext_cell q167 k147
  have k176 := ext_cell q167 k148
  have k177 := ext_cell q167 k149
  have k178 := ext_cell q167 k150
  have k179 := ext_cell q167 k151
  have k180 := ext_cell q167 k152
  have k181 := ext_cell q167 k153
  have k182 := ext_cell q167 k154
  have k183 := ext_cell q167 k155
  have k184 := ext_cell q167 k156
  have k185 := ext_cell q167 k157
  have k186 := ext_cell q167 k158
  have k187 := ext_cell q167 k159
  have k188 := ext_cell q167 k160
  have k189 := ext_cell q167 k161
  have k190 := ext_cell q167 k162
  have f191 : w8.frozen? ⟨w.heap.size + 1 + 1 + 1 + 1, 0, none⟩ = false := (q167.frozen (p := ⟨w.heap.size + 1 + 1 + 1 + 1, 0, none⟩) y144).trans f163
  have f192 : w8.frozen? ⟨w.heap.size + 1 + 1 + 1 + 1, 1, none⟩ = false := (q167.frozen (p := ⟨w.heap.size + 1 + 1 + 1 + 1, 1, none⟩) y144).trans f164
  have f193 : w8.frozen? ⟨w.heap.size + 1 + 1 + 1 + 1, 2, none⟩ = false := (q167.frozen (p := ⟨w.heap.size + 1 + 1 + 1 + 1, 2, none⟩) y144).trans f165
  have f194 : w8.frozen? ⟨w.heap.size + 1 + 1 + 1 + 1, 3, none⟩ = false := (q167.frozen (p := ⟨w.heap.size + 1 + 1 + 1 + 1, 3, none⟩) y144).trans f166
  clear k147 k148 k149 k150 k151 k152 k153 k154 k155 k156 k157 k158 k159 k160 k161 k162 y140 y141 y142 y143 y144 y145 y146 f163 f164 f165 f166
  have y195 : w7.heap.size < w8.heap.size := by have q := ext_size hx8; simp at q; omega
  have k196 := ext_cell hx8 (b := w7.heap.size) (off := 0) (v := .int .i64 (ltUT e b c d e f g h)) (by go_simp)
  have k197 := ext_cell hx8 (b := w7.heap.size) (off := 1) (v := .int .i64 (ltUB e b c d e f g h)) (by go_simp)
  go_wp2_with fail
  obtain ⟨w9, hw9⟩ : ∃ x, x = w8.alloc (.cells #[.int .i64 (ltPT e b c d e f g h), .int .i64 (ltPB e b c d e f g h)] 31) := ⟨_, rfl⟩
  rw [← hw9]
  have hx9 : Ext w8 w9 := by rw [hw9]; exact ext_alloc (ext_refl _) _
  have q198 : Ext w8 w9 := hx9
  have y199 : w.heap.size < w9.heap.size := Nat.lt_of_lt_of_le y168 q198.size
  have y200 : w.heap.size + 1 < w9.heap.size := Nat.lt_of_lt_of_le y169 q198.size
  have y201 : w.heap.size + 1 + 1 < w9.heap.size := Nat.lt_of_lt_of_le y170 q198.size
  have y202 : w.heap.size + 1 + 1 + 1 < w9.heap.size := Nat.lt_of_lt_of_le y171 q198.size
  have y203 : w.heap.size + 1 + 1 + 1 + 1 < w9.heap.size := Nat.lt_of_lt_of_le y172 q198.size
  have y204 : g1 < w9.heap.size := Nat.lt_of_lt_of_le y173 q198.size
  have y205 : g2 < w9.heap.size := Nat.lt_of_lt_of_le y174 q198.size
  have y206 : w7.heap.size < w9.heap.size := Nat.lt_of_lt_of_le y195 q198.size
  have k207 := ext_cell q198 k175
  have k208 := ext_cell q198 k176
  have k209 := ext_cell q198 k177
  have k210 := ext_cell q198 k178
  have k211 := ext_cell q198 k179
  have k212 := ext_cell q198 k180
  have k213 := ext_cell q198 k181
  have k214 := ext_cell q198 k182
  have k215 := ext_cell q198 k183
  have k216 := ext_cell q198 k184
  have k217 := ext_cell q198 k185
  have k218 := ext_cell q198 k186
  have k219 := ext_cell q198 k187
  have k220 := ext_cell q198 k188
  have k221 := ext_cell q198 k189
  have k222 := ext_cell q198 k190
  have k223 := ext_cell q198 k196
  have k224 := ext_cell q198 k197
  have f225 : w9.frozen? ⟨w.heap.size + 1 + 1 + 1 + 1, 0, none⟩ = false := (q198.frozen (p := ⟨w.heap.size + 1 + 1 + 1 + 1, 0, none⟩) y172).trans f191
  have f226 : w9.frozen? ⟨w.heap.size + 1 + 1 + 1 + 1, 1, none⟩ = false := (q198.frozen (p := ⟨w.heap.size + 1 + 1 + 1 + 1, 1, none⟩) y172).trans f192
  have f227 : w9.frozen? ⟨w.heap.size + 1 + 1 + 1 + 1, 2, none⟩ = false := (q198.frozen (p := ⟨w.heap.size + 1 + 1 + 1 + 1, 2, none⟩) y172).trans f193
  have f228 : w9.frozen? ⟨w.heap.size + 1 + 1 + 1 + 1, 3, none⟩ = false := (q198.frozen (p := ⟨w.heap.size + 1 + 1 + 1 + 1, 3, none⟩) y172).trans f194
  clear k175 k176 k177 k178 k179 k180 k181 k182 k183 k184 k185 k186 k187 k188 k189 k190 k196 k197 y168 y169 y170 y171 y172 y173 y174 y195 f191 f192 f193 f194
  have y229 : w8.heap.size < w9.heap.size := by rw [hw9]; simp
  have k230 : w9.cell? ⟨w8.heap.size, 0, none⟩ = some (.int .i64 (ltPT e b c d e f g h)) := by rw [hw9]; go_simp
  have k231 : w9.cell? ⟨w8.heap.size, 1, none⟩ = some (.int .i64 (ltPB e b c d e f g h)) := by rw [hw9]; go_simp
  have HW9 := Lib.hid hw9
  clear hw9
  have HKSD232 : Hid (∀ wb, Ext w9 wb → (Ext w9 wb ∧ wb.cell? ⟨w.heap.size + 1, 0, none⟩ = some (.int .i64 (c)) ∧ wb.cell? ⟨w.heap.size + 1, 1, none⟩ = some (.int .i64 (d)) ∧ wb.cell? ⟨w8.heap.size, 0, none⟩ = some (.int .i64 (ltPT e b c d e f g h)) ∧ wb.cell? ⟨w8.heap.size, 1, none⟩ = some (.int .i64 (ltPB e b c d e f g h)))) := fun wb h => ⟨h, ext_cell h k209, ext_cell h k210, ext_cell h k230, ext_cell h k231⟩
  go_upto_region 9 with fail
  go_cut [18, 19] (fun s18 s19 wx => ∃ gq : Nat, s18 = .pointer (some ⟨gq, 0, none⟩) ∧ s19 = .bool (ltZOk e b c d e f g h) ∧ wx.cell? ⟨gq, 0, none⟩ = some (.int .i64 (ltZT e b c d e f g h)) ∧ wx.cell? ⟨gq, 1, none⟩ = some (.int .i64 (ltZB e b c d e f g h)) ∧ Ext w9 wx)
  case first =>
    go_region_held3 (fun w' => Ext w9 w' ∧ w'.cell? ⟨w.heap.size + 1, 0, none⟩ = some (.int .i64 (c)) ∧ w'.cell? ⟨w.heap.size + 1, 1, none⟩ = some (.int .i64 (d)) ∧ w'.cell? ⟨w8.heap.size, 0, none⟩ = some (.int .i64 (ltPT e b c d e f g h)) ∧ w'.cell? ⟨w8.heap.size, 1, none⟩ = some (.int .i64 (ltPB e b c d e f g h)))
      ((refine HKSD232.out _ ?_; repeat (first | (with_reducible exact ext_refl _) | (with_reducible refine ext_drew ?_) | (with_reducible refine ext_setCell ?_ ?_ _) | (with_reducible refine ext_alloc ?_ _) | (with_reducible refine ext_trans ?_ (by assumption)) | ((try dsimp only); with_reducible exact Nat.le_refl _) | ((try dsimp only); with_reducible refine ext_size ?_))))
      (first
        | (go_at_call 124; refine (spec_l17Minus _ _ _).mono ?_; rintro e w3 ⟨rfl, hx3⟩; obtain ⟨hc3, hf3, hn3⟩ := bcell3 hx3; first | (have hz4 := hn3 _ hz4) | (have hz := ext_size hx3; simp at hz; have hz4 := Nat.lt_of_succ_le hz) | skip)
        | (go_at_call 123; refine (spec_Add_su _ _ _ _ _).mono ?_; rintro e w3 ⟨rfl, hx3⟩; obtain ⟨hc3, hf3, hn3⟩ := bcell3 hx3; first | (have hz4 := hn3 _ hz4) | (have hz := ext_size hx3; simp at hz; have hz4 := Nat.lt_of_succ_le hz) | skip))
    all_goals
      go_wp2_with fail
      go_meet
      refine ⟨_, rfl, rfl, ?_, ?_, ?_⟩
      · first | (go_simp; rfl) | go_simp
      · first | (go_simp; rfl) | go_simp
      · repeat (first | (with_reducible exact ext_refl _) | (with_reducible refine ext_drew ?_) | (with_reducible refine ext_setCell ?_ ?_ _) | (with_reducible refine ext_alloc ?_ _) | (with_reducible refine ext_trans ?_ (by assumption)) | ((try dsimp only); with_reducible exact Nat.le_refl _) | ((try dsimp only); with_reducible refine ext_size ?_))
  obtain ⟨g3, rfl, rfl, paD232, pbD232, hxD232⟩ := hcut
  obtain ⟨w10, rfl⟩ : ∃ x : World, x = wc := ⟨_, rfl⟩
  clear HKSD232
  have q233 : Ext w9 w10 := hxD232
  have y234 : w.heap.size < w10.heap.size := Nat.lt_of_lt_of_le y199 q233.size
  have y235 : w.heap.size + 1 < w10.heap.size := Nat.lt_of_lt_of_le y200 q233.size
  have y236 : w.heap.size + 1 + 1 < w10.heap.size := Nat.lt_of_lt_of_le y201 q233.size
  have y237 : w.heap.size + 1 + 1 + 1 < w10.heap.size := Nat.lt_of_lt_of_le y202 q233.size
  have y238 : w.heap.size + 1 + 1 + 1 + 1 < w10.heap.size := Nat.lt_of_lt_of_le y203 q233.size
  have y239 : g1 < w10.heap.size := Nat.lt_of_lt_of_le y204 q233.size
  have y240 : g2 < w10.heap.size := Nat.lt_of_lt_of_le y205 q233.size
  have y241 : w7.heap.size < w10.heap.size := Nat.lt_of_lt_of_le y206 q233.size
  have y242 : w8.heap.size < w10.heap.size := Nat.lt_of_lt_of_le y229 q233.size
  have k243 := ext_cell q233 k207
  have k244 := ext_cell q233 k208
  have k245 := ext_cell q233 k209
  have k246 := ext_cell q233 k210
  have k247 := ext_cell q233 k211
  have k248 := ext_cell q233 k212
  have k249 := ext_cell q233 k213
  have k250 := ext_cell q233 k214
  have k251 := ext_cell q233 k215
  have k252 := ext_cell q233 k216
  have k253 := ext_cell q233 k217
  have k254 := ext_cell q233 k218
  have k255 := ext_cell q233 k219
  have k256 := ext_cell q233 k220
  have k257 := ext_cell q233 k221
  have k258 := ext_cell q233 k222
  have k259 := ext_cell q233 k223
  have k260 := ext_cell q233 k224
  have k261 := ext_cell q233 k230
  have k262 := ext_cell q233 k231
  have f263 : w10.frozen? ⟨w.heap.size + 1 + 1 + 1 + 1, 0, none⟩ = false := (q233.frozen (p := ⟨w.heap.size + 1 + 1 + 1 + 1, 0, none⟩) y203).trans f225
  have f264 : w10.frozen? ⟨w.heap.size + 1 + 1 + 1 + 1, 1, none⟩ = false := (q233.frozen (p := ⟨w.heap.size + 1 + 1 + 1 + 1, 1, none⟩) y203).trans f226
  have f265 : w10.frozen? ⟨w.heap.size + 1 + 1 + 1 + 1, 2, none⟩ = false := (q233.frozen (p := ⟨w.heap.size + 1 + 1 + 1 + 1, 2, none⟩) y203).trans f227
  have f266 : w10.frozen? ⟨w.heap.size + 1 + 1 + 1 + 1, 3, none⟩ = false := (q233.frozen (p := ⟨w.heap.size + 1 + 1 + 1 + 1, 3, none⟩) y203).trans f228
  clear k207 k208 k209 k210 k211 k212 k213 k214 k215 k216 k217 k218 k219 k220 k221 k222 k223 k224 k230 k231 y199 y200 y201 y202 y203 y204 y205 y206 y229 f225 f226 f227 f228
  have y267 : g3 < w10.heap.size := World.block_lt_of_cell? _ _ paD232
  have q2 := Q2.out
  have q3 := Q3.out
  go_wp2_with fail
  exact bodyPost_ret (v := .tuple #[lineV (0) (0) (0) (0), .bool false]) (by simp [results, Try.results101, go_sem, k251, k252, k253, k254, y238]) rfl ⟨rfl, (by repeat (first | (with_reducible exact ext_refl _) | (with_reducible refine ext_setCell ?_ ?_ _) | (with_reducible refine ext_alloc ?_ _) | (with_reducible refine ext_drewN ?_ _) | (with_reducible refine ext_drew ?_) | (with_reducible refine ext_trans ?_ (by assumption)) | (dsimp only; omega) | omega | (simp; omega)))⟩
end Go.Proofs.Ytnafpciionmbbaa
