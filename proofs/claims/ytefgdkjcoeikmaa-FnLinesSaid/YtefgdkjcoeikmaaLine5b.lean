/- The program's line through two points: one way of the walk a theorem. No condition. -/
import Derived.Test.YtefgdkjcoeikmaaLine4
namespace Go.Proofs.Ytefgdkjcoeikmaa
open Go.ChangeShapes Go.WideShapes Go.ChangeAt Go.RowKit
set_option linter.unusedVariables false
set_option linter.unusedSimpArgs false

set_option maxHeartbeats 6400000 in
theorem impl_LT_d2c0 (a b c d e f g h : Int) (w : World) (h0 : fracOk a b = true) (h1 : fracOk c d = true) (h2 : fracOk e f = true) (h3 : fracOk g h = true) (h4 : ¬ a = e) (q0 : suOk e f a b = false) :
    Calls Try.prog 28 #[.agg #[.int .i64 a, .int .i64 b], .agg #[.int .i64 c, .int .i64 d], .agg #[.int .i64 e, .int .i64 f], .agg #[.int .i64 g, .int .i64 h]] w fun en w' => en = lineR 0 0 0 0 false ∧ Ext w w' := by
  go_enter Try.func28, Try.ntmps28
  go_wp2_with fail
  refine wp_loop_rounds 5 ?_
  rw [rounds_succ]
  go_wp2_with fail
  refine (impl_FractionOk _ _ _).mono ?_
  rintro en w1 ⟨rfl, hx1⟩
  have y1 : w.heap.size < w1.heap.size := by have := hx1.size; simp at this; omega
  have k2 := ext_cell hx1 (b := w.heap.size) (off := 0) (v := .int .i64 (a)) (by go_simp)
  have k3 := ext_cell hx1 (b := w.heap.size) (off := 1) (v := .int .i64 (b)) (by go_simp)
  have y4 : w.heap.size + 1 < w1.heap.size := by have := hx1.size; simp at this; omega
  have k5 := ext_cell hx1 (b := w.heap.size + 1) (off := 0) (v := .int .i64 (c)) (by go_simp)
  have k6 := ext_cell hx1 (b := w.heap.size + 1) (off := 1) (v := .int .i64 (d)) (by go_simp)
  have y7 : w.heap.size + 1 + 1 < w1.heap.size := by have := hx1.size; simp at this; omega
  have k8 := ext_cell hx1 (b := w.heap.size + 1 + 1) (off := 0) (v := .int .i64 (e)) (by go_simp)
  have k9 := ext_cell hx1 (b := w.heap.size + 1 + 1) (off := 1) (v := .int .i64 (f)) (by go_simp)
  have y10 : w.heap.size + 1 + 1 + 1 < w1.heap.size := by have := hx1.size; simp at this; omega
  have k11 := ext_cell hx1 (b := w.heap.size + 1 + 1 + 1) (off := 0) (v := .int .i64 (g)) (by go_simp)
  have k12 := ext_cell hx1 (b := w.heap.size + 1 + 1 + 1) (off := 1) (v := .int .i64 (h)) (by go_simp)
  have y13 : w.heap.size + 1 + 1 + 1 + 1 < w1.heap.size := by have := hx1.size; simp at this; omega
  have k14 := ext_cell hx1 (b := w.heap.size + 1 + 1 + 1 + 1) (off := 0) (v := .int .i64 (0)) (by go_simp)
  have k15 := ext_cell hx1 (b := w.heap.size + 1 + 1 + 1 + 1) (off := 1) (v := .int .i64 (0)) (by go_simp)
  have k16 := ext_cell hx1 (b := w.heap.size + 1 + 1 + 1 + 1) (off := 2) (v := .int .i64 (0)) (by go_simp)
  have k17 := ext_cell hx1 (b := w.heap.size + 1 + 1 + 1 + 1) (off := 3) (v := .int .i64 (0)) (by go_simp)
  have f18 : w1.frozen? ⟨w.heap.size + 1 + 1 + 1 + 1, 0, none⟩ = false := by rw [hx1.frozen (p := ⟨w.heap.size + 1 + 1 + 1 + 1, 0, none⟩) (by simp; try omega)]; go_simp
  have f19 : w1.frozen? ⟨w.heap.size + 1 + 1 + 1 + 1, 1, none⟩ = false := by rw [hx1.frozen (p := ⟨w.heap.size + 1 + 1 + 1 + 1, 1, none⟩) (by simp; try omega)]; go_simp
  have f20 : w1.frozen? ⟨w.heap.size + 1 + 1 + 1 + 1, 2, none⟩ = false := by rw [hx1.frozen (p := ⟨w.heap.size + 1 + 1 + 1 + 1, 2, none⟩) (by simp; try omega)]; go_simp
  have f21 : w1.frozen? ⟨w.heap.size + 1 + 1 + 1 + 1, 3, none⟩ = false := by rw [hx1.frozen (p := ⟨w.heap.size + 1 + 1 + 1 + 1, 3, none⟩) (by simp; try omega)]; go_simp
  have y22 : w.heap.size + 1 + 1 + 1 + 1 + 1 < w1.heap.size := by have := hx1.size; simp at this; omega
  have k23 := ext_cell hx1 (b := w.heap.size + 1 + 1 + 1 + 1 + 1) (off := 0) (v := .int .i64 (a)) (by go_simp)
  have k24 := ext_cell hx1 (b := w.heap.size + 1 + 1 + 1 + 1 + 1) (off := 1) (v := .int .i64 (b)) (by go_simp)
  have k25 := ext_cell hx1 (b := w.heap.size + 1 + 1 + 1 + 1 + 1) (off := 2) (v := .int .i64 (c)) (by go_simp)
  have k26 := ext_cell hx1 (b := w.heap.size + 1 + 1 + 1 + 1 + 1) (off := 3) (v := .int .i64 (d)) (by go_simp)
  have k27 := ext_cell hx1 (b := w.heap.size + 1 + 1 + 1 + 1 + 1) (off := 4) (v := .int .i64 (e)) (by go_simp)
  have k28 := ext_cell hx1 (b := w.heap.size + 1 + 1 + 1 + 1 + 1) (off := 5) (v := .int .i64 (f)) (by go_simp)
  have k29 := ext_cell hx1 (b := w.heap.size + 1 + 1 + 1 + 1 + 1) (off := 6) (v := .int .i64 (g)) (by go_simp)
  have k30 := ext_cell hx1 (b := w.heap.size + 1 + 1 + 1 + 1 + 1) (off := 7) (v := .int .i64 (h)) (by go_simp)
  go_wp2_with fail
  rw [rounds_succ]
  go_wp2_with fail
  refine (impl_FractionOk _ _ _).mono ?_
  rintro en w2 ⟨rfl, hx2⟩
  have q31 : Ext w1 w2 := ext_trans (ext_alloc (ext_refl _) _) hx2
  have y32 : w.heap.size < w2.heap.size := Nat.lt_of_lt_of_le y1 q31.size
  have y33 : w.heap.size + 1 < w2.heap.size := Nat.lt_of_lt_of_le y4 q31.size
  have y34 : w.heap.size + 1 + 1 < w2.heap.size := Nat.lt_of_lt_of_le y7 q31.size
  have y35 : w.heap.size + 1 + 1 + 1 < w2.heap.size := Nat.lt_of_lt_of_le y10 q31.size
  have y36 : w.heap.size + 1 + 1 + 1 + 1 < w2.heap.size := Nat.lt_of_lt_of_le y13 q31.size
  have y37 : w.heap.size + 1 + 1 + 1 + 1 + 1 < w2.heap.size := Nat.lt_of_lt_of_le y22 q31.size
  have k38 := ext_cell q31 k2
  have k39 := ext_cell q31 k3
  have k40 := ext_cell q31 k5
  have k41 := ext_cell q31 k6
  have k42 := ext_cell q31 k8
  have k43 := ext_cell q31 k9
  have k44 := ext_cell q31 k11
  have k45 := ext_cell q31 k12
  have k46 := ext_cell q31 k14
  have k47 := ext_cell q31 k15
  have k48 := ext_cell q31 k16
  have k49 := ext_cell q31 k17
  have k50 := ext_cell q31 k23
  have k51 := ext_cell q31 k24
  have k52 := ext_cell q31 k25
  have k53 := ext_cell q31 k26
  have k54 := ext_cell q31 k27
  have k55 := ext_cell q31 k28
  have k56 := ext_cell q31 k29
  have k57 := ext_cell q31 k30
  have f58 : w2.frozen? ⟨w.heap.size + 1 + 1 + 1 + 1, 0, none⟩ = false := (q31.frozen (p := ⟨w.heap.size + 1 + 1 + 1 + 1, 0, none⟩) y13).trans f18
  have f59 : w2.frozen? ⟨w.heap.size + 1 + 1 + 1 + 1, 1, none⟩ = false := (q31.frozen (p := ⟨w.heap.size + 1 + 1 + 1 + 1, 1, none⟩) y13).trans f19
  have f60 : w2.frozen? ⟨w.heap.size + 1 + 1 + 1 + 1, 2, none⟩ = false := (q31.frozen (p := ⟨w.heap.size + 1 + 1 + 1 + 1, 2, none⟩) y13).trans f20
  have f61 : w2.frozen? ⟨w.heap.size + 1 + 1 + 1 + 1, 3, none⟩ = false := (q31.frozen (p := ⟨w.heap.size + 1 + 1 + 1 + 1, 3, none⟩) y13).trans f21
  clear k2 k3 k5 k6 k8 k9 k11 k12 k14 k15 k16 k17 k23 k24 k25 k26 k27 k28 k29 k30 y1 y4 y7 y10 y13 y22 f18 f19 f20 f21
  go_wp2_with fail
  rw [rounds_succ]
  go_wp2_with fail
  refine (impl_FractionOk _ _ _).mono ?_
  rintro en w3 ⟨rfl, hx3⟩
  have q62 : Ext w2 w3 := ext_trans (ext_alloc (ext_refl _) _) hx3
  have y63 : w.heap.size < w3.heap.size := Nat.lt_of_lt_of_le y32 q62.size
  have y64 : w.heap.size + 1 < w3.heap.size := Nat.lt_of_lt_of_le y33 q62.size
  have y65 : w.heap.size + 1 + 1 < w3.heap.size := Nat.lt_of_lt_of_le y34 q62.size
  have y66 : w.heap.size + 1 + 1 + 1 < w3.heap.size := Nat.lt_of_lt_of_le y35 q62.size
  have y67 : w.heap.size + 1 + 1 + 1 + 1 < w3.heap.size := Nat.lt_of_lt_of_le y36 q62.size
  have y68 : w.heap.size + 1 + 1 + 1 + 1 + 1 < w3.heap.size := Nat.lt_of_lt_of_le y37 q62.size
  have k69 := ext_cell q62 k38
  have k70 := ext_cell q62 k39
  have k71 := ext_cell q62 k40
  have k72 := ext_cell q62 k41
  have k73 := ext_cell q62 k42
  have k74 := ext_cell q62 k43
  have k75 := ext_cell q62 k44
  have k76 := ext_cell q62 k45
  have k77 := ext_cell q62 k46
  have k78 := ext_cell q62 k47
  have k79 := ext_cell q62 k48
  have k80 := ext_cell q62 k49
  have k81 := ext_cell q62 k50
  have k82 := ext_cell q62 k51
  have k83 := ext_cell q62 k52
  have k84 := ext_cell q62 k53
  have k85 := ext_cell q62 k54
  have k86 := ext_cell q62 k55
  have k87 := ext_cell q62 k56
  have k88 := ext_cell q62 k57
  have f89 : w3.frozen? ⟨w.heap.size + 1 + 1 + 1 + 1, 0, none⟩ = false := (q62.frozen (p := ⟨w.heap.size + 1 + 1 + 1 + 1, 0, none⟩) y36).trans f58
  have f90 : w3.frozen? ⟨w.heap.size + 1 + 1 + 1 + 1, 1, none⟩ = false := (q62.frozen (p := ⟨w.heap.size + 1 + 1 + 1 + 1, 1, none⟩) y36).trans f59
  have f91 : w3.frozen? ⟨w.heap.size + 1 + 1 + 1 + 1, 2, none⟩ = false := (q62.frozen (p := ⟨w.heap.size + 1 + 1 + 1 + 1, 2, none⟩) y36).trans f60
  have f92 : w3.frozen? ⟨w.heap.size + 1 + 1 + 1 + 1, 3, none⟩ = false := (q62.frozen (p := ⟨w.heap.size + 1 + 1 + 1 + 1, 3, none⟩) y36).trans f61
  clear k38 k39 k40 k41 k42 k43 k44 k45 k46 k47 k48 k49 k50 k51 k52 k53 k54 k55 k56 k57 y32 y33 y34 y35 y36 y37 f58 f59 f60 f61
  go_wp2_with fail
  rw [rounds_succ]
  go_wp2_with fail
  refine (impl_FractionOk _ _ _).mono ?_
  rintro en w4 ⟨rfl, hx4⟩
  have q93 : Ext w3 w4 := ext_trans (ext_alloc (ext_refl _) _) hx4
  have y94 : w.heap.size < w4.heap.size := Nat.lt_of_lt_of_le y63 q93.size
  have y95 : w.heap.size + 1 < w4.heap.size := Nat.lt_of_lt_of_le y64 q93.size
  have y96 : w.heap.size + 1 + 1 < w4.heap.size := Nat.lt_of_lt_of_le y65 q93.size
  have y97 : w.heap.size + 1 + 1 + 1 < w4.heap.size := Nat.lt_of_lt_of_le y66 q93.size
  have y98 : w.heap.size + 1 + 1 + 1 + 1 < w4.heap.size := Nat.lt_of_lt_of_le y67 q93.size
  have y99 : w.heap.size + 1 + 1 + 1 + 1 + 1 < w4.heap.size := Nat.lt_of_lt_of_le y68 q93.size
  have k100 := ext_cell q93 k69
  have k101 := ext_cell q93 k70
  have k102 := ext_cell q93 k71
  have k103 := ext_cell q93 k72
  have k104 := ext_cell q93 k73
  have k105 := ext_cell q93 k74
  have k106 := ext_cell q93 k75
  have k107 := ext_cell q93 k76
  have k108 := ext_cell q93 k77
  have k109 := ext_cell q93 k78
  have k110 := ext_cell q93 k79
  have k111 := ext_cell q93 k80
  have k112 := ext_cell q93 k81
  have k113 := ext_cell q93 k82
  have k114 := ext_cell q93 k83
  have k115 := ext_cell q93 k84
  have k116 := ext_cell q93 k85
  have k117 := ext_cell q93 k86
  have k118 := ext_cell q93 k87
  have k119 := ext_cell q93 k88
  have f120 : w4.frozen? ⟨w.heap.size + 1 + 1 + 1 + 1, 0, none⟩ = false := (q93.frozen (p := ⟨w.heap.size + 1 + 1 + 1 + 1, 0, none⟩) y67).trans f89
  have f121 : w4.frozen? ⟨w.heap.size + 1 + 1 + 1 + 1, 1, none⟩ = false := (q93.frozen (p := ⟨w.heap.size + 1 + 1 + 1 + 1, 1, none⟩) y67).trans f90
  have f122 : w4.frozen? ⟨w.heap.size + 1 + 1 + 1 + 1, 2, none⟩ = false := (q93.frozen (p := ⟨w.heap.size + 1 + 1 + 1 + 1, 2, none⟩) y67).trans f91
  have f123 : w4.frozen? ⟨w.heap.size + 1 + 1 + 1 + 1, 3, none⟩ = false := (q93.frozen (p := ⟨w.heap.size + 1 + 1 + 1 + 1, 3, none⟩) y67).trans f92
  clear k69 k70 k71 k72 k73 k74 k75 k76 k77 k78 k79 k80 k81 k82 k83 k84 k85 k86 k87 k88 y63 y64 y65 y66 y67 y68 f89 f90 f91 f92
  go_wp2_with fail
  rw [rounds_succ]
  go_wp2_with fail
  refine ((impl_minus' e f a b _)).mono ?_
  rintro en w5 ⟨rfl, hx5⟩
  have q124 : Ext w4 w5 := hx5
  have y125 : w.heap.size < w5.heap.size := Nat.lt_of_lt_of_le y94 q124.size
  have y126 : w.heap.size + 1 < w5.heap.size := Nat.lt_of_lt_of_le y95 q124.size
  have y127 : w.heap.size + 1 + 1 < w5.heap.size := Nat.lt_of_lt_of_le y96 q124.size
  have y128 : w.heap.size + 1 + 1 + 1 < w5.heap.size := Nat.lt_of_lt_of_le y97 q124.size
  have y129 : w.heap.size + 1 + 1 + 1 + 1 < w5.heap.size := Nat.lt_of_lt_of_le y98 q124.size
  have y130 : w.heap.size + 1 + 1 + 1 + 1 + 1 < w5.heap.size := Nat.lt_of_lt_of_le y99 q124.size
  have k131 := ext_cell q124 k100
  have k132 := ext_cell q124 k101
  have k133 := ext_cell q124 k102
  have k134 := ext_cell q124 k103
  have k135 := ext_cell q124 k104
  have k136 := ext_cell q124 k105
  have k137 := ext_cell q124 k106
  have k138 := ext_cell q124 k107
  have k139 := ext_cell q124 k108
  have k140 := ext_cell q124 k109
  have k141 := ext_cell q124 k110
  have k142 := ext_cell q124 k111
  have k143 := ext_cell q124 k112
  have k144 := ext_cell q124 k113
  have k145 := ext_cell q124 k114
  have k146 := ext_cell q124 k115
  have k147 := ext_cell q124 k116
  have k148 := ext_cell q124 k117
  have k149 := ext_cell q124 k118
  have k150 := ext_cell q124 k119
  have f151 : w5.frozen? ⟨w.heap.size + 1 + 1 + 1 + 1, 0, none⟩ = false := (q124.frozen (p := ⟨w.heap.size + 1 + 1 + 1 + 1, 0, none⟩) y98).trans f120
  have f152 : w5.frozen? ⟨w.heap.size + 1 + 1 + 1 + 1, 1, none⟩ = false := (q124.frozen (p := ⟨w.heap.size + 1 + 1 + 1 + 1, 1, none⟩) y98).trans f121
  have f153 : w5.frozen? ⟨w.heap.size + 1 + 1 + 1 + 1, 2, none⟩ = false := (q124.frozen (p := ⟨w.heap.size + 1 + 1 + 1 + 1, 2, none⟩) y98).trans f122
  have f154 : w5.frozen? ⟨w.heap.size + 1 + 1 + 1 + 1, 3, none⟩ = false := (q124.frozen (p := ⟨w.heap.size + 1 + 1 + 1 + 1, 3, none⟩) y98).trans f123
  clear k100 k101 k102 k103 k104 k105 k106 k107 k108 k109 k110 k111 k112 k113 k114 k115 k116 k117 k118 k119 y94 y95 y96 y97 y98 y99 f120 f121 f122 f123
  go_wp2_with fail
  refine ((impl_minus' g h c d _)).mono ?_
  rintro en w6 ⟨rfl, hx6⟩
  have q155 : Ext w5 w6 := ext_trans (ext_alloc (ext_refl _) _) hx6
  have y156 : w.heap.size < w6.heap.size := Nat.lt_of_lt_of_le y125 q155.size
  have y157 : w.heap.size + 1 < w6.heap.size := Nat.lt_of_lt_of_le y126 q155.size
  have y158 : w.heap.size + 1 + 1 < w6.heap.size := Nat.lt_of_lt_of_le y127 q155.size
  have y159 : w.heap.size + 1 + 1 + 1 < w6.heap.size := Nat.lt_of_lt_of_le y128 q155.size
  have y160 : w.heap.size + 1 + 1 + 1 + 1 < w6.heap.size := Nat.lt_of_lt_of_le y129 q155.size
  have y161 : w.heap.size + 1 + 1 + 1 + 1 + 1 < w6.heap.size := Nat.lt_of_lt_of_le y130 q155.size
  have k162 := ext_cell q155 k131
  have k163 := ext_cell q155 k132
  have k164 := ext_cell q155 k133
  have k165 := ext_cell q155 k134
  have k166 := ext_cell q155 k135
  have k167 := ext_cell q155 k136
  have k168 := ext_cell q155 k137
  have k169 := ext_cell q155 k138
  have k170 := ext_cell q155 k139
  have k171 := ext_cell q155 k140
  have k172 := ext_cell q155 k141
  have k173 := ext_cell q155 k142
  have k174 := ext_cell q155 k143
  have k175 := ext_cell q155 k144
  have k176 := ext_cell q155 k145
  have k177 := ext_cell q155 k146
  have k178 := ext_cell q155 k147
  have k179 := ext_cell q155 k148
  have k180 := ext_cell q155 k149
  have k181 := ext_cell q155 k150
  have f182 : w6.frozen? ⟨w.heap.size + 1 + 1 + 1 + 1, 0, none⟩ = false := (q155.frozen (p := ⟨w.heap.size + 1 + 1 + 1 + 1, 0, none⟩) y129).trans f151
  have f183 : w6.frozen? ⟨w.heap.size + 1 + 1 + 1 + 1, 1, none⟩ = false := (q155.frozen (p := ⟨w.heap.size + 1 + 1 + 1 + 1, 1, none⟩) y129).trans f152
  have f184 : w6.frozen? ⟨w.heap.size + 1 + 1 + 1 + 1, 2, none⟩ = false := (q155.frozen (p := ⟨w.heap.size + 1 + 1 + 1 + 1, 2, none⟩) y129).trans f153
  have f185 : w6.frozen? ⟨w.heap.size + 1 + 1 + 1 + 1, 3, none⟩ = false := (q155.frozen (p := ⟨w.heap.size + 1 + 1 + 1 + 1, 3, none⟩) y129).trans f154
  clear k131 k132 k133 k134 k135 k136 k137 k138 k139 k140 k141 k142 k143 k144 k145 k146 k147 k148 k149 k150 y125 y126 y127 y128 y129 y130 f151 f152 f153 f154
  have y186 : w5.heap.size < w6.heap.size := by have q := ext_size hx6; simp at q; omega
  have k187 := ext_cell hx6 (b := w5.heap.size) (off := 0) (v := .int .i64 (suT e f a b)) (by go_simp)
  have k188 := ext_cell hx6 (b := w5.heap.size) (off := 1) (v := .int .i64 (suB e f a b)) (by go_simp)
  go_wp2_with fail
  refine ((impl_over (suT g h c d) (suB g h c d) (suT e f a b) (suB e f a b) _)).mono ?_
  rintro en w7 ⟨rfl, hx7⟩
  rw [show ovT (suT g h c d) (suB g h c d) (suT e f a b) (suB e f a b) = ltUT a b c d e f g h from rfl, show ovB (suT g h c d) (suB g h c d) (suT e f a b) (suB e f a b) = ltUB a b c d e f g h from rfl, show ovOk (suT g h c d) (suB g h c d) (suT e f a b) (suB e f a b) = ltUOk a b c d e f g h from rfl]
  have q189 : Ext w6 w7 := ext_trans (ext_alloc (ext_refl _) _) hx7
  have y190 : w.heap.size < w7.heap.size := Nat.lt_of_lt_of_le y156 q189.size
  have y191 : w.heap.size + 1 < w7.heap.size := Nat.lt_of_lt_of_le y157 q189.size
  have y192 : w.heap.size + 1 + 1 < w7.heap.size := Nat.lt_of_lt_of_le y158 q189.size
  have y193 : w.heap.size + 1 + 1 + 1 < w7.heap.size := Nat.lt_of_lt_of_le y159 q189.size
  have y194 : w.heap.size + 1 + 1 + 1 + 1 < w7.heap.size := Nat.lt_of_lt_of_le y160 q189.size
  have y195 : w.heap.size + 1 + 1 + 1 + 1 + 1 < w7.heap.size := Nat.lt_of_lt_of_le y161 q189.size
  have y196 : w5.heap.size < w7.heap.size := Nat.lt_of_lt_of_le y186 q189.size
  have k197 := ext_cell q189 k162
  have k198 := ext_cell q189 k163
  have k199 := ext_cell q189 k164
  have k200 := ext_cell q189 k165
  have k201 := ext_cell q189 k166
  have k202 := ext_cell q189 k167
  have k203 := ext_cell q189 k168
  have k204 := ext_cell q189 k169
  have k205 := ext_cell q189 k170
  have k206 := ext_cell q189 k171
  have k207 := ext_cell q189 k172
  have k208 := ext_cell q189 k173
  have k209 := ext_cell q189 k174
  have k210 := ext_cell q189 k175
  have k211 := ext_cell q189 k176
  have k212 := ext_cell q189 k177
  have k213 := ext_cell q189 k178
  have k214 := ext_cell q189 k179
  have k215 := ext_cell q189 k180
  have k216 := ext_cell q189 k181
  have k217 := ext_cell q189 k187
  have k218 := ext_cell q189 k188
  have f219 : w7.frozen? ⟨w.heap.size + 1 + 1 + 1 + 1, 0, none⟩ = false := (q189.frozen (p := ⟨w.heap.size + 1 + 1 + 1 + 1, 0, none⟩) y160).trans f182
  have f220 : w7.frozen? ⟨w.heap.size + 1 + 1 + 1 + 1, 1, none⟩ = false := (q189.frozen (p := ⟨w.heap.size + 1 + 1 + 1 + 1, 1, none⟩) y160).trans f183
  have f221 : w7.frozen? ⟨w.heap.size + 1 + 1 + 1 + 1, 2, none⟩ = false := (q189.frozen (p := ⟨w.heap.size + 1 + 1 + 1 + 1, 2, none⟩) y160).trans f184
  have f222 : w7.frozen? ⟨w.heap.size + 1 + 1 + 1 + 1, 3, none⟩ = false := (q189.frozen (p := ⟨w.heap.size + 1 + 1 + 1 + 1, 3, none⟩) y160).trans f185
  clear k162 k163 k164 k165 k166 k167 k168 k169 k170 k171 k172 k173 k174 k175 k176 k177 k178 k179 k180 k181 k187 k188 y156 y157 y158 y159 y160 y161 y186 f182 f183 f184 f185
  have y223 : w6.heap.size < w7.heap.size := by have q := ext_size hx7; simp at q; omega
  have k224 := ext_cell hx7 (b := w6.heap.size) (off := 0) (v := .int .i64 (suT g h c d)) (by go_simp)
  have k225 := ext_cell hx7 (b := w6.heap.size) (off := 1) (v := .int .i64 (suB g h c d)) (by go_simp)
  go_wp2_with fail
  refine ((impl_TimesFractions (ltUT a b c d e f g h) (ltUB a b c d e f g h) a b _)).mono ?_
  rintro en w8 ⟨rfl, hx8⟩
  rw [show timT (ltUT a b c d e f g h) (ltUB a b c d e f g h) a b = ltPT a b c d e f g h from rfl, show timB (ltUT a b c d e f g h) (ltUB a b c d e f g h) a b = ltPB a b c d e f g h from rfl, show timOk (ltUT a b c d e f g h) (ltUB a b c d e f g h) a b = ltPOk a b c d e f g h from rfl]
  have q226 : Ext w7 w8 := ext_trans (ext_alloc (ext_refl _) _) hx8
  have y227 : w.heap.size < w8.heap.size := Nat.lt_of_lt_of_le y190 q226.size
  have y228 : w.heap.size + 1 < w8.heap.size := Nat.lt_of_lt_of_le y191 q226.size
  have y229 : w.heap.size + 1 + 1 < w8.heap.size := Nat.lt_of_lt_of_le y192 q226.size
  have y230 : w.heap.size + 1 + 1 + 1 < w8.heap.size := Nat.lt_of_lt_of_le y193 q226.size
  have y231 : w.heap.size + 1 + 1 + 1 + 1 < w8.heap.size := Nat.lt_of_lt_of_le y194 q226.size
  have y232 : w.heap.size + 1 + 1 + 1 + 1 + 1 < w8.heap.size := Nat.lt_of_lt_of_le y195 q226.size
  have y233 : w5.heap.size < w8.heap.size := Nat.lt_of_lt_of_le y196 q226.size
  have y234 : w6.heap.size < w8.heap.size := Nat.lt_of_lt_of_le y223 q226.size
  have k235 := ext_cell q226 k197
  have k236 := ext_cell q226 k198
  have k237 := ext_cell q226 k199
  have k238 := ext_cell q226 k200
  have k239 := ext_cell q226 k201
  have k240 := ext_cell q226 k202
  have k241 := ext_cell q226 k203
  have k242 := ext_cell q226 k204
  have k243 := ext_cell q226 k205
  have k244 := ext_cell q226 k206
  have k245 := ext_cell q226 k207
  have k246 := ext_cell q226 k208
  have k247 := ext_cell q226 k209
  have k248 := ext_cell q226 k210
  have k249 := ext_cell q226 k211
  have k250 := ext_cell q226 k212
  have k251 := ext_cell q226 k213
  have k252 := ext_cell q226 k214
  have k253 := ext_cell q226 k215
  have k254 := ext_cell q226 k216
  have k255 := ext_cell q226 k217
  have k256 := ext_cell q226 k218
  have k257 := ext_cell q226 k224
  have k258 := ext_cell q226 k225
  have f259 : w8.frozen? ⟨w.heap.size + 1 + 1 + 1 + 1, 0, none⟩ = false := (q226.frozen (p := ⟨w.heap.size + 1 + 1 + 1 + 1, 0, none⟩) y194).trans f219
  have f260 : w8.frozen? ⟨w.heap.size + 1 + 1 + 1 + 1, 1, none⟩ = false := (q226.frozen (p := ⟨w.heap.size + 1 + 1 + 1 + 1, 1, none⟩) y194).trans f220
  have f261 : w8.frozen? ⟨w.heap.size + 1 + 1 + 1 + 1, 2, none⟩ = false := (q226.frozen (p := ⟨w.heap.size + 1 + 1 + 1 + 1, 2, none⟩) y194).trans f221
  have f262 : w8.frozen? ⟨w.heap.size + 1 + 1 + 1 + 1, 3, none⟩ = false := (q226.frozen (p := ⟨w.heap.size + 1 + 1 + 1 + 1, 3, none⟩) y194).trans f222
  clear k197 k198 k199 k200 k201 k202 k203 k204 k205 k206 k207 k208 k209 k210 k211 k212 k213 k214 k215 k216 k217 k218 k224 k225 y190 y191 y192 y193 y194 y195 y196 y223 f219 f220 f221 f222
  have y263 : w7.heap.size < w8.heap.size := by have q := ext_size hx8; simp at q; omega
  have k264 := ext_cell hx8 (b := w7.heap.size) (off := 0) (v := .int .i64 (ltUT a b c d e f g h)) (by go_simp)
  have k265 := ext_cell hx8 (b := w7.heap.size) (off := 1) (v := .int .i64 (ltUB a b c d e f g h)) (by go_simp)
  go_wp2_with fail
  refine ((impl_minus' c d (ltPT a b c d e f g h) (ltPB a b c d e f g h) _)).mono ?_
  rintro en w9 ⟨rfl, hx9⟩
  rw [show suT c d (ltPT a b c d e f g h) (ltPB a b c d e f g h) = ltZT a b c d e f g h from rfl, show suB c d (ltPT a b c d e f g h) (ltPB a b c d e f g h) = ltZB a b c d e f g h from rfl, show suOk c d (ltPT a b c d e f g h) (ltPB a b c d e f g h) = ltZOk a b c d e f g h from rfl]
  have q266 : Ext w8 w9 := ext_trans (ext_alloc (ext_refl _) _) hx9
  have y267 : w.heap.size < w9.heap.size := Nat.lt_of_lt_of_le y227 q266.size
  have y268 : w.heap.size + 1 < w9.heap.size := Nat.lt_of_lt_of_le y228 q266.size
  have y269 : w.heap.size + 1 + 1 < w9.heap.size := Nat.lt_of_lt_of_le y229 q266.size
  have y270 : w.heap.size + 1 + 1 + 1 < w9.heap.size := Nat.lt_of_lt_of_le y230 q266.size
  have y271 : w.heap.size + 1 + 1 + 1 + 1 < w9.heap.size := Nat.lt_of_lt_of_le y231 q266.size
  have y272 : w.heap.size + 1 + 1 + 1 + 1 + 1 < w9.heap.size := Nat.lt_of_lt_of_le y232 q266.size
  have y273 : w5.heap.size < w9.heap.size := Nat.lt_of_lt_of_le y233 q266.size
  have y274 : w6.heap.size < w9.heap.size := Nat.lt_of_lt_of_le y234 q266.size
  have y275 : w7.heap.size < w9.heap.size := Nat.lt_of_lt_of_le y263 q266.size
  have k276 := ext_cell q266 k235
  have k277 := ext_cell q266 k236
  have k278 := ext_cell q266 k237
  have k279 := ext_cell q266 k238
  have k280 := ext_cell q266 k239
  have k281 := ext_cell q266 k240
  have k282 := ext_cell q266 k241
  have k283 := ext_cell q266 k242
  have k284 := ext_cell q266 k243
  have k285 := ext_cell q266 k244
  have k286 := ext_cell q266 k245
  have k287 := ext_cell q266 k246
  have k288 := ext_cell q266 k247
  have k289 := ext_cell q266 k248
  have k290 := ext_cell q266 k249
  have k291 := ext_cell q266 k250
  have k292 := ext_cell q266 k251
  have k293 := ext_cell q266 k252
  have k294 := ext_cell q266 k253
  have k295 := ext_cell q266 k254
  have k296 := ext_cell q266 k255
  have k297 := ext_cell q266 k256
  have k298 := ext_cell q266 k257
  have k299 := ext_cell q266 k258
  have k300 := ext_cell q266 k264
  have k301 := ext_cell q266 k265
  have f302 : w9.frozen? ⟨w.heap.size + 1 + 1 + 1 + 1, 0, none⟩ = false := (q266.frozen (p := ⟨w.heap.size + 1 + 1 + 1 + 1, 0, none⟩) y231).trans f259
  have f303 : w9.frozen? ⟨w.heap.size + 1 + 1 + 1 + 1, 1, none⟩ = false := (q266.frozen (p := ⟨w.heap.size + 1 + 1 + 1 + 1, 1, none⟩) y231).trans f260
  have f304 : w9.frozen? ⟨w.heap.size + 1 + 1 + 1 + 1, 2, none⟩ = false := (q266.frozen (p := ⟨w.heap.size + 1 + 1 + 1 + 1, 2, none⟩) y231).trans f261
  have f305 : w9.frozen? ⟨w.heap.size + 1 + 1 + 1 + 1, 3, none⟩ = false := (q266.frozen (p := ⟨w.heap.size + 1 + 1 + 1 + 1, 3, none⟩) y231).trans f262
  clear k235 k236 k237 k238 k239 k240 k241 k242 k243 k244 k245 k246 k247 k248 k249 k250 k251 k252 k253 k254 k255 k256 k257 k258 k264 k265 y227 y228 y229 y230 y231 y232 y233 y234 y263 f259 f260 f261 f262
  have y306 : w8.heap.size < w9.heap.size := by have q := ext_size hx9; simp at q; omega
  have k307 := ext_cell hx9 (b := w8.heap.size) (off := 0) (v := .int .i64 (ltPT a b c d e f g h)) (by go_simp)
  have k308 := ext_cell hx9 (b := w8.heap.size) (off := 1) (v := .int .i64 (ltPB a b c d e f g h)) (by go_simp)
  go_wp2_with fail
  have hye : w.heap.size + 1 + 1 + 1 + 1 < w9.heap.size + 1 := by omega
  exact bodyPost_ret (v := .tuple #[lineV (0) (0) (0) (0), .bool false]) (by simp [results, Try.results28, go_sem, k284, k285, k286, k287, y271, hye]) rfl ⟨rfl, (by repeat (first | (with_reducible exact ext_refl _) | (with_reducible refine ext_setCell ?_ ?_ _) | (with_reducible refine ext_alloc ?_ _) | (with_reducible refine ext_drewN ?_ _) | (with_reducible refine ext_drew ?_) | (with_reducible refine ext_trans ?_ (by assumption)) | (dsimp only; omega) | omega | (simp; omega)))⟩
set_option maxHeartbeats 6400000 in
theorem impl_LT_d2c1 (a b c d e f g h : Int) (w : World) (h0 : fracOk a b = true) (h1 : fracOk c d = true) (h2 : fracOk e f = true) (h3 : fracOk g h = true) (h4 : ¬ a = e) (q0 : suOk e f a b = true) (q1 : suOk g h c d = false) :
    Calls Try.prog 28 #[.agg #[.int .i64 a, .int .i64 b], .agg #[.int .i64 c, .int .i64 d], .agg #[.int .i64 e, .int .i64 f], .agg #[.int .i64 g, .int .i64 h]] w fun en w' => en = lineR 0 0 0 0 false ∧ Ext w w' := by
  go_enter Try.func28, Try.ntmps28
  go_wp2_with fail
  refine wp_loop_rounds 5 ?_
  rw [rounds_succ]
  go_wp2_with fail
  refine (impl_FractionOk _ _ _).mono ?_
  rintro en w1 ⟨rfl, hx1⟩
  have y1 : w.heap.size < w1.heap.size := by have := hx1.size; simp at this; omega
  have k2 := ext_cell hx1 (b := w.heap.size) (off := 0) (v := .int .i64 (a)) (by go_simp)
  have k3 := ext_cell hx1 (b := w.heap.size) (off := 1) (v := .int .i64 (b)) (by go_simp)
  have y4 : w.heap.size + 1 < w1.heap.size := by have := hx1.size; simp at this; omega
  have k5 := ext_cell hx1 (b := w.heap.size + 1) (off := 0) (v := .int .i64 (c)) (by go_simp)
  have k6 := ext_cell hx1 (b := w.heap.size + 1) (off := 1) (v := .int .i64 (d)) (by go_simp)
  have y7 : w.heap.size + 1 + 1 < w1.heap.size := by have := hx1.size; simp at this; omega
  have k8 := ext_cell hx1 (b := w.heap.size + 1 + 1) (off := 0) (v := .int .i64 (e)) (by go_simp)
  have k9 := ext_cell hx1 (b := w.heap.size + 1 + 1) (off := 1) (v := .int .i64 (f)) (by go_simp)
  have y10 : w.heap.size + 1 + 1 + 1 < w1.heap.size := by have := hx1.size; simp at this; omega
  have k11 := ext_cell hx1 (b := w.heap.size + 1 + 1 + 1) (off := 0) (v := .int .i64 (g)) (by go_simp)
  have k12 := ext_cell hx1 (b := w.heap.size + 1 + 1 + 1) (off := 1) (v := .int .i64 (h)) (by go_simp)
  have y13 : w.heap.size + 1 + 1 + 1 + 1 < w1.heap.size := by have := hx1.size; simp at this; omega
  have k14 := ext_cell hx1 (b := w.heap.size + 1 + 1 + 1 + 1) (off := 0) (v := .int .i64 (0)) (by go_simp)
  have k15 := ext_cell hx1 (b := w.heap.size + 1 + 1 + 1 + 1) (off := 1) (v := .int .i64 (0)) (by go_simp)
  have k16 := ext_cell hx1 (b := w.heap.size + 1 + 1 + 1 + 1) (off := 2) (v := .int .i64 (0)) (by go_simp)
  have k17 := ext_cell hx1 (b := w.heap.size + 1 + 1 + 1 + 1) (off := 3) (v := .int .i64 (0)) (by go_simp)
  have f18 : w1.frozen? ⟨w.heap.size + 1 + 1 + 1 + 1, 0, none⟩ = false := by rw [hx1.frozen (p := ⟨w.heap.size + 1 + 1 + 1 + 1, 0, none⟩) (by simp; try omega)]; go_simp
  have f19 : w1.frozen? ⟨w.heap.size + 1 + 1 + 1 + 1, 1, none⟩ = false := by rw [hx1.frozen (p := ⟨w.heap.size + 1 + 1 + 1 + 1, 1, none⟩) (by simp; try omega)]; go_simp
  have f20 : w1.frozen? ⟨w.heap.size + 1 + 1 + 1 + 1, 2, none⟩ = false := by rw [hx1.frozen (p := ⟨w.heap.size + 1 + 1 + 1 + 1, 2, none⟩) (by simp; try omega)]; go_simp
  have f21 : w1.frozen? ⟨w.heap.size + 1 + 1 + 1 + 1, 3, none⟩ = false := by rw [hx1.frozen (p := ⟨w.heap.size + 1 + 1 + 1 + 1, 3, none⟩) (by simp; try omega)]; go_simp
  have y22 : w.heap.size + 1 + 1 + 1 + 1 + 1 < w1.heap.size := by have := hx1.size; simp at this; omega
  have k23 := ext_cell hx1 (b := w.heap.size + 1 + 1 + 1 + 1 + 1) (off := 0) (v := .int .i64 (a)) (by go_simp)
  have k24 := ext_cell hx1 (b := w.heap.size + 1 + 1 + 1 + 1 + 1) (off := 1) (v := .int .i64 (b)) (by go_simp)
  have k25 := ext_cell hx1 (b := w.heap.size + 1 + 1 + 1 + 1 + 1) (off := 2) (v := .int .i64 (c)) (by go_simp)
  have k26 := ext_cell hx1 (b := w.heap.size + 1 + 1 + 1 + 1 + 1) (off := 3) (v := .int .i64 (d)) (by go_simp)
  have k27 := ext_cell hx1 (b := w.heap.size + 1 + 1 + 1 + 1 + 1) (off := 4) (v := .int .i64 (e)) (by go_simp)
  have k28 := ext_cell hx1 (b := w.heap.size + 1 + 1 + 1 + 1 + 1) (off := 5) (v := .int .i64 (f)) (by go_simp)
  have k29 := ext_cell hx1 (b := w.heap.size + 1 + 1 + 1 + 1 + 1) (off := 6) (v := .int .i64 (g)) (by go_simp)
  have k30 := ext_cell hx1 (b := w.heap.size + 1 + 1 + 1 + 1 + 1) (off := 7) (v := .int .i64 (h)) (by go_simp)
  go_wp2_with fail
  rw [rounds_succ]
  go_wp2_with fail
  refine (impl_FractionOk _ _ _).mono ?_
  rintro en w2 ⟨rfl, hx2⟩
  have q31 : Ext w1 w2 := ext_trans (ext_alloc (ext_refl _) _) hx2
  have y32 : w.heap.size < w2.heap.size := Nat.lt_of_lt_of_le y1 q31.size
  have y33 : w.heap.size + 1 < w2.heap.size := Nat.lt_of_lt_of_le y4 q31.size
  have y34 : w.heap.size + 1 + 1 < w2.heap.size := Nat.lt_of_lt_of_le y7 q31.size
  have y35 : w.heap.size + 1 + 1 + 1 < w2.heap.size := Nat.lt_of_lt_of_le y10 q31.size
  have y36 : w.heap.size + 1 + 1 + 1 + 1 < w2.heap.size := Nat.lt_of_lt_of_le y13 q31.size
  have y37 : w.heap.size + 1 + 1 + 1 + 1 + 1 < w2.heap.size := Nat.lt_of_lt_of_le y22 q31.size
  have k38 := ext_cell q31 k2
  have k39 := ext_cell q31 k3
  have k40 := ext_cell q31 k5
  have k41 := ext_cell q31 k6
  have k42 := ext_cell q31 k8
  have k43 := ext_cell q31 k9
  have k44 := ext_cell q31 k11
  have k45 := ext_cell q31 k12
  have k46 := ext_cell q31 k14
  have k47 := ext_cell q31 k15
  have k48 := ext_cell q31 k16
  have k49 := ext_cell q31 k17
  have k50 := ext_cell q31 k23
  have k51 := ext_cell q31 k24
  have k52 := ext_cell q31 k25
  have k53 := ext_cell q31 k26
  have k54 := ext_cell q31 k27
  have k55 := ext_cell q31 k28
  have k56 := ext_cell q31 k29
  have k57 := ext_cell q31 k30
  have f58 : w2.frozen? ⟨w.heap.size + 1 + 1 + 1 + 1, 0, none⟩ = false := (q31.frozen (p := ⟨w.heap.size + 1 + 1 + 1 + 1, 0, none⟩) y13).trans f18
  have f59 : w2.frozen? ⟨w.heap.size + 1 + 1 + 1 + 1, 1, none⟩ = false := (q31.frozen (p := ⟨w.heap.size + 1 + 1 + 1 + 1, 1, none⟩) y13).trans f19
  have f60 : w2.frozen? ⟨w.heap.size + 1 + 1 + 1 + 1, 2, none⟩ = false := (q31.frozen (p := ⟨w.heap.size + 1 + 1 + 1 + 1, 2, none⟩) y13).trans f20
  have f61 : w2.frozen? ⟨w.heap.size + 1 + 1 + 1 + 1, 3, none⟩ = false := (q31.frozen (p := ⟨w.heap.size + 1 + 1 + 1 + 1, 3, none⟩) y13).trans f21
  clear k2 k3 k5 k6 k8 k9 k11 k12 k14 k15 k16 k17 k23 k24 k25 k26 k27 k28 k29 k30 y1 y4 y7 y10 y13 y22 f18 f19 f20 f21
  go_wp2_with fail
  rw [rounds_succ]
  go_wp2_with fail
  refine (impl_FractionOk _ _ _).mono ?_
  rintro en w3 ⟨rfl, hx3⟩
  have q62 : Ext w2 w3 := ext_trans (ext_alloc (ext_refl _) _) hx3
  have y63 : w.heap.size < w3.heap.size := Nat.lt_of_lt_of_le y32 q62.size
  have y64 : w.heap.size + 1 < w3.heap.size := Nat.lt_of_lt_of_le y33 q62.size
  have y65 : w.heap.size + 1 + 1 < w3.heap.size := Nat.lt_of_lt_of_le y34 q62.size
  have y66 : w.heap.size + 1 + 1 + 1 < w3.heap.size := Nat.lt_of_lt_of_le y35 q62.size
  have y67 : w.heap.size + 1 + 1 + 1 + 1 < w3.heap.size := Nat.lt_of_lt_of_le y36 q62.size
  have y68 : w.heap.size + 1 + 1 + 1 + 1 + 1 < w3.heap.size := Nat.lt_of_lt_of_le y37 q62.size
  have k69 := ext_cell q62 k38
  have k70 := ext_cell q62 k39
  have k71 := ext_cell q62 k40
  have k72 := ext_cell q62 k41
  have k73 := ext_cell q62 k42
  have k74 := ext_cell q62 k43
  have k75 := ext_cell q62 k44
  have k76 := ext_cell q62 k45
  have k77 := ext_cell q62 k46
  have k78 := ext_cell q62 k47
  have k79 := ext_cell q62 k48
  have k80 := ext_cell q62 k49
  have k81 := ext_cell q62 k50
  have k82 := ext_cell q62 k51
  have k83 := ext_cell q62 k52
  have k84 := ext_cell q62 k53
  have k85 := ext_cell q62 k54
  have k86 := ext_cell q62 k55
  have k87 := ext_cell q62 k56
  have k88 := ext_cell q62 k57
  have f89 : w3.frozen? ⟨w.heap.size + 1 + 1 + 1 + 1, 0, none⟩ = false := (q62.frozen (p := ⟨w.heap.size + 1 + 1 + 1 + 1, 0, none⟩) y36).trans f58
  have f90 : w3.frozen? ⟨w.heap.size + 1 + 1 + 1 + 1, 1, none⟩ = false := (q62.frozen (p := ⟨w.heap.size + 1 + 1 + 1 + 1, 1, none⟩) y36).trans f59
  have f91 : w3.frozen? ⟨w.heap.size + 1 + 1 + 1 + 1, 2, none⟩ = false := (q62.frozen (p := ⟨w.heap.size + 1 + 1 + 1 + 1, 2, none⟩) y36).trans f60
  have f92 : w3.frozen? ⟨w.heap.size + 1 + 1 + 1 + 1, 3, none⟩ = false := (q62.frozen (p := ⟨w.heap.size + 1 + 1 + 1 + 1, 3, none⟩) y36).trans f61
  clear k38 k39 k40 k41 k42 k43 k44 k45 k46 k47 k48 k49 k50 k51 k52 k53 k54 k55 k56 k57 y32 y33 y34 y35 y36 y37 f58 f59 f60 f61
  go_wp2_with fail
  rw [rounds_succ]
  go_wp2_with fail
  refine (impl_FractionOk _ _ _).mono ?_
  rintro en w4 ⟨rfl, hx4⟩
  have q93 : Ext w3 w4 := ext_trans (ext_alloc (ext_refl _) _) hx4
  have y94 : w.heap.size < w4.heap.size := Nat.lt_of_lt_of_le y63 q93.size
  have y95 : w.heap.size + 1 < w4.heap.size := Nat.lt_of_lt_of_le y64 q93.size
  have y96 : w.heap.size + 1 + 1 < w4.heap.size := Nat.lt_of_lt_of_le y65 q93.size
  have y97 : w.heap.size + 1 + 1 + 1 < w4.heap.size := Nat.lt_of_lt_of_le y66 q93.size
  have y98 : w.heap.size + 1 + 1 + 1 + 1 < w4.heap.size := Nat.lt_of_lt_of_le y67 q93.size
  have y99 : w.heap.size + 1 + 1 + 1 + 1 + 1 < w4.heap.size := Nat.lt_of_lt_of_le y68 q93.size
  have k100 := ext_cell q93 k69
  have k101 := ext_cell q93 k70
  have k102 := ext_cell q93 k71
  have k103 := ext_cell q93 k72
  have k104 := ext_cell q93 k73
  have k105 := ext_cell q93 k74
  have k106 := ext_cell q93 k75
  have k107 := ext_cell q93 k76
  have k108 := ext_cell q93 k77
  have k109 := ext_cell q93 k78
  have k110 := ext_cell q93 k79
  have k111 := ext_cell q93 k80
  have k112 := ext_cell q93 k81
  have k113 := ext_cell q93 k82
  have k114 := ext_cell q93 k83
  have k115 := ext_cell q93 k84
  have k116 := ext_cell q93 k85
  have k117 := ext_cell q93 k86
  have k118 := ext_cell q93 k87
  have k119 := ext_cell q93 k88
  have f120 : w4.frozen? ⟨w.heap.size + 1 + 1 + 1 + 1, 0, none⟩ = false := (q93.frozen (p := ⟨w.heap.size + 1 + 1 + 1 + 1, 0, none⟩) y67).trans f89
  have f121 : w4.frozen? ⟨w.heap.size + 1 + 1 + 1 + 1, 1, none⟩ = false := (q93.frozen (p := ⟨w.heap.size + 1 + 1 + 1 + 1, 1, none⟩) y67).trans f90
  have f122 : w4.frozen? ⟨w.heap.size + 1 + 1 + 1 + 1, 2, none⟩ = false := (q93.frozen (p := ⟨w.heap.size + 1 + 1 + 1 + 1, 2, none⟩) y67).trans f91
  have f123 : w4.frozen? ⟨w.heap.size + 1 + 1 + 1 + 1, 3, none⟩ = false := (q93.frozen (p := ⟨w.heap.size + 1 + 1 + 1 + 1, 3, none⟩) y67).trans f92
  clear k69 k70 k71 k72 k73 k74 k75 k76 k77 k78 k79 k80 k81 k82 k83 k84 k85 k86 k87 k88 y63 y64 y65 y66 y67 y68 f89 f90 f91 f92
  go_wp2_with fail
  rw [rounds_succ]
  go_wp2_with fail
  refine ((impl_minus' e f a b _)).mono ?_
  rintro en w5 ⟨rfl, hx5⟩
  have q124 : Ext w4 w5 := hx5
  have y125 : w.heap.size < w5.heap.size := Nat.lt_of_lt_of_le y94 q124.size
  have y126 : w.heap.size + 1 < w5.heap.size := Nat.lt_of_lt_of_le y95 q124.size
  have y127 : w.heap.size + 1 + 1 < w5.heap.size := Nat.lt_of_lt_of_le y96 q124.size
  have y128 : w.heap.size + 1 + 1 + 1 < w5.heap.size := Nat.lt_of_lt_of_le y97 q124.size
  have y129 : w.heap.size + 1 + 1 + 1 + 1 < w5.heap.size := Nat.lt_of_lt_of_le y98 q124.size
  have y130 : w.heap.size + 1 + 1 + 1 + 1 + 1 < w5.heap.size := Nat.lt_of_lt_of_le y99 q124.size
  have k131 := ext_cell q124 k100
  have k132 := ext_cell q124 k101
  have k133 := ext_cell q124 k102
  have k134 := ext_cell q124 k103
  have k135 := ext_cell q124 k104
  have k136 := ext_cell q124 k105
  have k137 := ext_cell q124 k106
  have k138 := ext_cell q124 k107
  have k139 := ext_cell q124 k108
  have k140 := ext_cell q124 k109
  have k141 := ext_cell q124 k110
  have k142 := ext_cell q124 k111
  have k143 := ext_cell q124 k112
  have k144 := ext_cell q124 k113
  have k145 := ext_cell q124 k114
  have k146 := ext_cell q124 k115
  have k147 := ext_cell q124 k116
  have k148 := ext_cell q124 k117
  have k149 := ext_cell q124 k118
  have k150 := ext_cell q124 k119
  have f151 : w5.frozen? ⟨w.heap.size + 1 + 1 + 1 + 1, 0, none⟩ = false := (q124.frozen (p := ⟨w.heap.size + 1 + 1 + 1 + 1, 0, none⟩) y98).trans f120
  have f152 : w5.frozen? ⟨w.heap.size + 1 + 1 + 1 + 1, 1, none⟩ = false := (q124.frozen (p := ⟨w.heap.size + 1 + 1 + 1 + 1, 1, none⟩) y98).trans f121
  have f153 : w5.frozen? ⟨w.heap.size + 1 + 1 + 1 + 1, 2, none⟩ = false := (q124.frozen (p := ⟨w.heap.size + 1 + 1 + 1 + 1, 2, none⟩) y98).trans f122
  have f154 : w5.frozen? ⟨w.heap.size + 1 + 1 + 1 + 1, 3, none⟩ = false := (q124.frozen (p := ⟨w.heap.size + 1 + 1 + 1 + 1, 3, none⟩) y98).trans f123
  clear k100 k101 k102 k103 k104 k105 k106 k107 k108 k109 k110 k111 k112 k113 k114 k115 k116 k117 k118 k119 y94 y95 y96 y97 y98 y99 f120 f121 f122 f123
  go_wp2_with fail
  refine ((impl_minus' g h c d _)).mono ?_
  rintro en w6 ⟨rfl, hx6⟩
  have q155 : Ext w5 w6 := ext_trans (ext_alloc (ext_refl _) _) hx6
  have y156 : w.heap.size < w6.heap.size := Nat.lt_of_lt_of_le y125 q155.size
  have y157 : w.heap.size + 1 < w6.heap.size := Nat.lt_of_lt_of_le y126 q155.size
  have y158 : w.heap.size + 1 + 1 < w6.heap.size := Nat.lt_of_lt_of_le y127 q155.size
  have y159 : w.heap.size + 1 + 1 + 1 < w6.heap.size := Nat.lt_of_lt_of_le y128 q155.size
  have y160 : w.heap.size + 1 + 1 + 1 + 1 < w6.heap.size := Nat.lt_of_lt_of_le y129 q155.size
  have y161 : w.heap.size + 1 + 1 + 1 + 1 + 1 < w6.heap.size := Nat.lt_of_lt_of_le y130 q155.size
  have k162 := ext_cell q155 k131
  have k163 := ext_cell q155 k132
  have k164 := ext_cell q155 k133
  have k165 := ext_cell q155 k134
  have k166 := ext_cell q155 k135
  have k167 := ext_cell q155 k136
  have k168 := ext_cell q155 k137
  have k169 := ext_cell q155 k138
  have k170 := ext_cell q155 k139
  have k171 := ext_cell q155 k140
  have k172 := ext_cell q155 k141
  have k173 := ext_cell q155 k142
  have k174 := ext_cell q155 k143
  have k175 := ext_cell q155 k144
  have k176 := ext_cell q155 k145
  have k177 := ext_cell q155 k146
  have k178 := ext_cell q155 k147
  have k179 := ext_cell q155 k148
  have k180 := ext_cell q155 k149
  have k181 := ext_cell q155 k150
  have f182 : w6.frozen? ⟨w.heap.size + 1 + 1 + 1 + 1, 0, none⟩ = false := (q155.frozen (p := ⟨w.heap.size + 1 + 1 + 1 + 1, 0, none⟩) y129).trans f151
  have f183 : w6.frozen? ⟨w.heap.size + 1 + 1 + 1 + 1, 1, none⟩ = false := (q155.frozen (p := ⟨w.heap.size + 1 + 1 + 1 + 1, 1, none⟩) y129).trans f152
  have f184 : w6.frozen? ⟨w.heap.size + 1 + 1 + 1 + 1, 2, none⟩ = false := (q155.frozen (p := ⟨w.heap.size + 1 + 1 + 1 + 1, 2, none⟩) y129).trans f153
  have f185 : w6.frozen? ⟨w.heap.size + 1 + 1 + 1 + 1, 3, none⟩ = false := (q155.frozen (p := ⟨w.heap.size + 1 + 1 + 1 + 1, 3, none⟩) y129).trans f154
  clear k131 k132 k133 k134 k135 k136 k137 k138 k139 k140 k141 k142 k143 k144 k145 k146 k147 k148 k149 k150 y125 y126 y127 y128 y129 y130 f151 f152 f153 f154
  have y186 : w5.heap.size < w6.heap.size := by have q := ext_size hx6; simp at q; omega
  have k187 := ext_cell hx6 (b := w5.heap.size) (off := 0) (v := .int .i64 (suT e f a b)) (by go_simp)
  have k188 := ext_cell hx6 (b := w5.heap.size) (off := 1) (v := .int .i64 (suB e f a b)) (by go_simp)
  go_wp2_with fail
  refine ((impl_over (suT g h c d) (suB g h c d) (suT e f a b) (suB e f a b) _)).mono ?_
  rintro en w7 ⟨rfl, hx7⟩
  rw [show ovT (suT g h c d) (suB g h c d) (suT e f a b) (suB e f a b) = ltUT a b c d e f g h from rfl, show ovB (suT g h c d) (suB g h c d) (suT e f a b) (suB e f a b) = ltUB a b c d e f g h from rfl, show ovOk (suT g h c d) (suB g h c d) (suT e f a b) (suB e f a b) = ltUOk a b c d e f g h from rfl]
  have q189 : Ext w6 w7 := ext_trans (ext_alloc (ext_refl _) _) hx7
  have y190 : w.heap.size < w7.heap.size := Nat.lt_of_lt_of_le y156 q189.size
  have y191 : w.heap.size + 1 < w7.heap.size := Nat.lt_of_lt_of_le y157 q189.size
  have y192 : w.heap.size + 1 + 1 < w7.heap.size := Nat.lt_of_lt_of_le y158 q189.size
  have y193 : w.heap.size + 1 + 1 + 1 < w7.heap.size := Nat.lt_of_lt_of_le y159 q189.size
  have y194 : w.heap.size + 1 + 1 + 1 + 1 < w7.heap.size := Nat.lt_of_lt_of_le y160 q189.size
  have y195 : w.heap.size + 1 + 1 + 1 + 1 + 1 < w7.heap.size := Nat.lt_of_lt_of_le y161 q189.size
  have y196 : w5.heap.size < w7.heap.size := Nat.lt_of_lt_of_le y186 q189.size
  have k197 := ext_cell q189 k162
  have k198 := ext_cell q189 k163
  have k199 := ext_cell q189 k164
  have k200 := ext_cell q189 k165
  have k201 := ext_cell q189 k166
  have k202 := ext_cell q189 k167
  have k203 := ext_cell q189 k168
  have k204 := ext_cell q189 k169
  have k205 := ext_cell q189 k170
  have k206 := ext_cell q189 k171
  have k207 := ext_cell q189 k172
  have k208 := ext_cell q189 k173
  have k209 := ext_cell q189 k174
  have k210 := ext_cell q189 k175
  have k211 := ext_cell q189 k176
  have k212 := ext_cell q189 k177
  have k213 := ext_cell q189 k178
  have k214 := ext_cell q189 k179
  have k215 := ext_cell q189 k180
  have k216 := ext_cell q189 k181
  have k217 := ext_cell q189 k187
  have k218 := ext_cell q189 k188
  have f219 : w7.frozen? ⟨w.heap.size + 1 + 1 + 1 + 1, 0, none⟩ = false := (q189.frozen (p := ⟨w.heap.size + 1 + 1 + 1 + 1, 0, none⟩) y160).trans f182
  have f220 : w7.frozen? ⟨w.heap.size + 1 + 1 + 1 + 1, 1, none⟩ = false := (q189.frozen (p := ⟨w.heap.size + 1 + 1 + 1 + 1, 1, none⟩) y160).trans f183
  have f221 : w7.frozen? ⟨w.heap.size + 1 + 1 + 1 + 1, 2, none⟩ = false := (q189.frozen (p := ⟨w.heap.size + 1 + 1 + 1 + 1, 2, none⟩) y160).trans f184
  have f222 : w7.frozen? ⟨w.heap.size + 1 + 1 + 1 + 1, 3, none⟩ = false := (q189.frozen (p := ⟨w.heap.size + 1 + 1 + 1 + 1, 3, none⟩) y160).trans f185
  clear k162 k163 k164 k165 k166 k167 k168 k169 k170 k171 k172 k173 k174 k175 k176 k177 k178 k179 k180 k181 k187 k188 y156 y157 y158 y159 y160 y161 y186 f182 f183 f184 f185
  have y223 : w6.heap.size < w7.heap.size := by have q := ext_size hx7; simp at q; omega
  have k224 := ext_cell hx7 (b := w6.heap.size) (off := 0) (v := .int .i64 (suT g h c d)) (by go_simp)
  have k225 := ext_cell hx7 (b := w6.heap.size) (off := 1) (v := .int .i64 (suB g h c d)) (by go_simp)
  go_wp2_with fail
  refine ((impl_TimesFractions (ltUT a b c d e f g h) (ltUB a b c d e f g h) a b _)).mono ?_
  rintro en w8 ⟨rfl, hx8⟩
  rw [show timT (ltUT a b c d e f g h) (ltUB a b c d e f g h) a b = ltPT a b c d e f g h from rfl, show timB (ltUT a b c d e f g h) (ltUB a b c d e f g h) a b = ltPB a b c d e f g h from rfl, show timOk (ltUT a b c d e f g h) (ltUB a b c d e f g h) a b = ltPOk a b c d e f g h from rfl]
  have q226 : Ext w7 w8 := ext_trans (ext_alloc (ext_refl _) _) hx8
  have y227 : w.heap.size < w8.heap.size := Nat.lt_of_lt_of_le y190 q226.size
  have y228 : w.heap.size + 1 < w8.heap.size := Nat.lt_of_lt_of_le y191 q226.size
  have y229 : w.heap.size + 1 + 1 < w8.heap.size := Nat.lt_of_lt_of_le y192 q226.size
  have y230 : w.heap.size + 1 + 1 + 1 < w8.heap.size := Nat.lt_of_lt_of_le y193 q226.size
  have y231 : w.heap.size + 1 + 1 + 1 + 1 < w8.heap.size := Nat.lt_of_lt_of_le y194 q226.size
  have y232 : w.heap.size + 1 + 1 + 1 + 1 + 1 < w8.heap.size := Nat.lt_of_lt_of_le y195 q226.size
  have y233 : w5.heap.size < w8.heap.size := Nat.lt_of_lt_of_le y196 q226.size
  have y234 : w6.heap.size < w8.heap.size := Nat.lt_of_lt_of_le y223 q226.size
  have k235 := ext_cell q226 k197
  have k236 := ext_cell q226 k198
  have k237 := ext_cell q226 k199
  have k238 := ext_cell q226 k200
  have k239 := ext_cell q226 k201
  have k240 := ext_cell q226 k202
  have k241 := ext_cell q226 k203
  have k242 := ext_cell q226 k204
  have k243 := ext_cell q226 k205
  have k244 := ext_cell q226 k206
  have k245 := ext_cell q226 k207
  have k246 := ext_cell q226 k208
  have k247 := ext_cell q226 k209
  have k248 := ext_cell q226 k210
  have k249 := ext_cell q226 k211
  have k250 := ext_cell q226 k212
  have k251 := ext_cell q226 k213
  have k252 := ext_cell q226 k214
  have k253 := ext_cell q226 k215
  have k254 := ext_cell q226 k216
  have k255 := ext_cell q226 k217
  have k256 := ext_cell q226 k218
  have k257 := ext_cell q226 k224
  have k258 := ext_cell q226 k225
  have f259 : w8.frozen? ⟨w.heap.size + 1 + 1 + 1 + 1, 0, none⟩ = false := (q226.frozen (p := ⟨w.heap.size + 1 + 1 + 1 + 1, 0, none⟩) y194).trans f219
  have f260 : w8.frozen? ⟨w.heap.size + 1 + 1 + 1 + 1, 1, none⟩ = false := (q226.frozen (p := ⟨w.heap.size + 1 + 1 + 1 + 1, 1, none⟩) y194).trans f220
  have f261 : w8.frozen? ⟨w.heap.size + 1 + 1 + 1 + 1, 2, none⟩ = false := (q226.frozen (p := ⟨w.heap.size + 1 + 1 + 1 + 1, 2, none⟩) y194).trans f221
  have f262 : w8.frozen? ⟨w.heap.size + 1 + 1 + 1 + 1, 3, none⟩ = false := (q226.frozen (p := ⟨w.heap.size + 1 + 1 + 1 + 1, 3, none⟩) y194).trans f222
  clear k197 k198 k199 k200 k201 k202 k203 k204 k205 k206 k207 k208 k209 k210 k211 k212 k213 k214 k215 k216 k217 k218 k224 k225 y190 y191 y192 y193 y194 y195 y196 y223 f219 f220 f221 f222
  have y263 : w7.heap.size < w8.heap.size := by have q := ext_size hx8; simp at q; omega
  have k264 := ext_cell hx8 (b := w7.heap.size) (off := 0) (v := .int .i64 (ltUT a b c d e f g h)) (by go_simp)
  have k265 := ext_cell hx8 (b := w7.heap.size) (off := 1) (v := .int .i64 (ltUB a b c d e f g h)) (by go_simp)
  go_wp2_with fail
  refine ((impl_minus' c d (ltPT a b c d e f g h) (ltPB a b c d e f g h) _)).mono ?_
  rintro en w9 ⟨rfl, hx9⟩
  rw [show suT c d (ltPT a b c d e f g h) (ltPB a b c d e f g h) = ltZT a b c d e f g h from rfl, show suB c d (ltPT a b c d e f g h) (ltPB a b c d e f g h) = ltZB a b c d e f g h from rfl, show suOk c d (ltPT a b c d e f g h) (ltPB a b c d e f g h) = ltZOk a b c d e f g h from rfl]
  have q266 : Ext w8 w9 := ext_trans (ext_alloc (ext_refl _) _) hx9
  have y267 : w.heap.size < w9.heap.size := Nat.lt_of_lt_of_le y227 q266.size
  have y268 : w.heap.size + 1 < w9.heap.size := Nat.lt_of_lt_of_le y228 q266.size
  have y269 : w.heap.size + 1 + 1 < w9.heap.size := Nat.lt_of_lt_of_le y229 q266.size
  have y270 : w.heap.size + 1 + 1 + 1 < w9.heap.size := Nat.lt_of_lt_of_le y230 q266.size
  have y271 : w.heap.size + 1 + 1 + 1 + 1 < w9.heap.size := Nat.lt_of_lt_of_le y231 q266.size
  have y272 : w.heap.size + 1 + 1 + 1 + 1 + 1 < w9.heap.size := Nat.lt_of_lt_of_le y232 q266.size
  have y273 : w5.heap.size < w9.heap.size := Nat.lt_of_lt_of_le y233 q266.size
  have y274 : w6.heap.size < w9.heap.size := Nat.lt_of_lt_of_le y234 q266.size
  have y275 : w7.heap.size < w9.heap.size := Nat.lt_of_lt_of_le y263 q266.size
  have k276 := ext_cell q266 k235
  have k277 := ext_cell q266 k236
  have k278 := ext_cell q266 k237
  have k279 := ext_cell q266 k238
  have k280 := ext_cell q266 k239
  have k281 := ext_cell q266 k240
  have k282 := ext_cell q266 k241
  have k283 := ext_cell q266 k242
  have k284 := ext_cell q266 k243
  have k285 := ext_cell q266 k244
  have k286 := ext_cell q266 k245
  have k287 := ext_cell q266 k246
  have k288 := ext_cell q266 k247
  have k289 := ext_cell q266 k248
  have k290 := ext_cell q266 k249
  have k291 := ext_cell q266 k250
  have k292 := ext_cell q266 k251
  have k293 := ext_cell q266 k252
  have k294 := ext_cell q266 k253
  have k295 := ext_cell q266 k254
  have k296 := ext_cell q266 k255
  have k297 := ext_cell q266 k256
  have k298 := ext_cell q266 k257
  have k299 := ext_cell q266 k258
  have k300 := ext_cell q266 k264
  have k301 := ext_cell q266 k265
  have f302 : w9.frozen? ⟨w.heap.size + 1 + 1 + 1 + 1, 0, none⟩ = false := (q266.frozen (p := ⟨w.heap.size + 1 + 1 + 1 + 1, 0, none⟩) y231).trans f259
  have f303 : w9.frozen? ⟨w.heap.size + 1 + 1 + 1 + 1, 1, none⟩ = false := (q266.frozen (p := ⟨w.heap.size + 1 + 1 + 1 + 1, 1, none⟩) y231).trans f260
  have f304 : w9.frozen? ⟨w.heap.size + 1 + 1 + 1 + 1, 2, none⟩ = false := (q266.frozen (p := ⟨w.heap.size + 1 + 1 + 1 + 1, 2, none⟩) y231).trans f261
  have f305 : w9.frozen? ⟨w.heap.size + 1 + 1 + 1 + 1, 3, none⟩ = false := (q266.frozen (p := ⟨w.heap.size + 1 + 1 + 1 + 1, 3, none⟩) y231).trans f262
  clear k235 k236 k237 k238 k239 k240 k241 k242 k243 k244 k245 k246 k247 k248 k249 k250 k251 k252 k253 k254 k255 k256 k257 k258 k264 k265 y227 y228 y229 y230 y231 y232 y233 y234 y263 f259 f260 f261 f262
  have y306 : w8.heap.size < w9.heap.size := by have q := ext_size hx9; simp at q; omega
  have k307 := ext_cell hx9 (b := w8.heap.size) (off := 0) (v := .int .i64 (ltPT a b c d e f g h)) (by go_simp)
  have k308 := ext_cell hx9 (b := w8.heap.size) (off := 1) (v := .int .i64 (ltPB a b c d e f g h)) (by go_simp)
  go_wp2_with fail
  have hye : w.heap.size + 1 + 1 + 1 + 1 < w9.heap.size + 1 := by omega
  exact bodyPost_ret (v := .tuple #[lineV (0) (0) (0) (0), .bool false]) (by simp [results, Try.results28, go_sem, k284, k285, k286, k287, y271, hye]) rfl ⟨rfl, (by repeat (first | (with_reducible exact ext_refl _) | (with_reducible refine ext_setCell ?_ ?_ _) | (with_reducible refine ext_alloc ?_ _) | (with_reducible refine ext_drewN ?_ _) | (with_reducible refine ext_drew ?_) | (with_reducible refine ext_trans ?_ (by assumption)) | (dsimp only; omega) | omega | (simp; omega)))⟩
set_option maxHeartbeats 6400000 in
theorem impl_LT_d2c2 (a b c d e f g h : Int) (w : World) (h0 : fracOk a b = true) (h1 : fracOk c d = true) (h2 : fracOk e f = true) (h3 : fracOk g h = true) (h4 : ¬ a = e) (q0 : suOk e f a b = true) (q1 : suOk g h c d = true) (q2 : ltUOk a b c d e f g h = false) :
    Calls Try.prog 28 #[.agg #[.int .i64 a, .int .i64 b], .agg #[.int .i64 c, .int .i64 d], .agg #[.int .i64 e, .int .i64 f], .agg #[.int .i64 g, .int .i64 h]] w fun en w' => en = lineR 0 0 0 0 false ∧ Ext w w' := by
  go_enter Try.func28, Try.ntmps28
  go_wp2_with fail
  refine wp_loop_rounds 5 ?_
  rw [rounds_succ]
  go_wp2_with fail
  refine (impl_FractionOk _ _ _).mono ?_
  rintro en w1 ⟨rfl, hx1⟩
  have y1 : w.heap.size < w1.heap.size := by have := hx1.size; simp at this; omega
  have k2 := ext_cell hx1 (b := w.heap.size) (off := 0) (v := .int .i64 (a)) (by go_simp)
  have k3 := ext_cell hx1 (b := w.heap.size) (off := 1) (v := .int .i64 (b)) (by go_simp)
  have y4 : w.heap.size + 1 < w1.heap.size := by have := hx1.size; simp at this; omega
  have k5 := ext_cell hx1 (b := w.heap.size + 1) (off := 0) (v := .int .i64 (c)) (by go_simp)
  have k6 := ext_cell hx1 (b := w.heap.size + 1) (off := 1) (v := .int .i64 (d)) (by go_simp)
  have y7 : w.heap.size + 1 + 1 < w1.heap.size := by have := hx1.size; simp at this; omega
  have k8 := ext_cell hx1 (b := w.heap.size + 1 + 1) (off := 0) (v := .int .i64 (e)) (by go_simp)
  have k9 := ext_cell hx1 (b := w.heap.size + 1 + 1) (off := 1) (v := .int .i64 (f)) (by go_simp)
  have y10 : w.heap.size + 1 + 1 + 1 < w1.heap.size := by have := hx1.size; simp at this; omega
  have k11 := ext_cell hx1 (b := w.heap.size + 1 + 1 + 1) (off := 0) (v := .int .i64 (g)) (by go_simp)
  have k12 := ext_cell hx1 (b := w.heap.size + 1 + 1 + 1) (off := 1) (v := .int .i64 (h)) (by go_simp)
  have y13 : w.heap.size + 1 + 1 + 1 + 1 < w1.heap.size := by have := hx1.size; simp at this; omega
  have k14 := ext_cell hx1 (b := w.heap.size + 1 + 1 + 1 + 1) (off := 0) (v := .int .i64 (0)) (by go_simp)
  have k15 := ext_cell hx1 (b := w.heap.size + 1 + 1 + 1 + 1) (off := 1) (v := .int .i64 (0)) (by go_simp)
  have k16 := ext_cell hx1 (b := w.heap.size + 1 + 1 + 1 + 1) (off := 2) (v := .int .i64 (0)) (by go_simp)
  have k17 := ext_cell hx1 (b := w.heap.size + 1 + 1 + 1 + 1) (off := 3) (v := .int .i64 (0)) (by go_simp)
  have f18 : w1.frozen? ⟨w.heap.size + 1 + 1 + 1 + 1, 0, none⟩ = false := by rw [hx1.frozen (p := ⟨w.heap.size + 1 + 1 + 1 + 1, 0, none⟩) (by simp; try omega)]; go_simp
  have f19 : w1.frozen? ⟨w.heap.size + 1 + 1 + 1 + 1, 1, none⟩ = false := by rw [hx1.frozen (p := ⟨w.heap.size + 1 + 1 + 1 + 1, 1, none⟩) (by simp; try omega)]; go_simp
  have f20 : w1.frozen? ⟨w.heap.size + 1 + 1 + 1 + 1, 2, none⟩ = false := by rw [hx1.frozen (p := ⟨w.heap.size + 1 + 1 + 1 + 1, 2, none⟩) (by simp; try omega)]; go_simp
  have f21 : w1.frozen? ⟨w.heap.size + 1 + 1 + 1 + 1, 3, none⟩ = false := by rw [hx1.frozen (p := ⟨w.heap.size + 1 + 1 + 1 + 1, 3, none⟩) (by simp; try omega)]; go_simp
  have y22 : w.heap.size + 1 + 1 + 1 + 1 + 1 < w1.heap.size := by have := hx1.size; simp at this; omega
  have k23 := ext_cell hx1 (b := w.heap.size + 1 + 1 + 1 + 1 + 1) (off := 0) (v := .int .i64 (a)) (by go_simp)
  have k24 := ext_cell hx1 (b := w.heap.size + 1 + 1 + 1 + 1 + 1) (off := 1) (v := .int .i64 (b)) (by go_simp)
  have k25 := ext_cell hx1 (b := w.heap.size + 1 + 1 + 1 + 1 + 1) (off := 2) (v := .int .i64 (c)) (by go_simp)
  have k26 := ext_cell hx1 (b := w.heap.size + 1 + 1 + 1 + 1 + 1) (off := 3) (v := .int .i64 (d)) (by go_simp)
  have k27 := ext_cell hx1 (b := w.heap.size + 1 + 1 + 1 + 1 + 1) (off := 4) (v := .int .i64 (e)) (by go_simp)
  have k28 := ext_cell hx1 (b := w.heap.size + 1 + 1 + 1 + 1 + 1) (off := 5) (v := .int .i64 (f)) (by go_simp)
  have k29 := ext_cell hx1 (b := w.heap.size + 1 + 1 + 1 + 1 + 1) (off := 6) (v := .int .i64 (g)) (by go_simp)
  have k30 := ext_cell hx1 (b := w.heap.size + 1 + 1 + 1 + 1 + 1) (off := 7) (v := .int .i64 (h)) (by go_simp)
  go_wp2_with fail
  rw [rounds_succ]
  go_wp2_with fail
  refine (impl_FractionOk _ _ _).mono ?_
  rintro en w2 ⟨rfl, hx2⟩
  have q31 : Ext w1 w2 := ext_trans (ext_alloc (ext_refl _) _) hx2
  have y32 : w.heap.size < w2.heap.size := Nat.lt_of_lt_of_le y1 q31.size
  have y33 : w.heap.size + 1 < w2.heap.size := Nat.lt_of_lt_of_le y4 q31.size
  have y34 : w.heap.size + 1 + 1 < w2.heap.size := Nat.lt_of_lt_of_le y7 q31.size
  have y35 : w.heap.size + 1 + 1 + 1 < w2.heap.size := Nat.lt_of_lt_of_le y10 q31.size
  have y36 : w.heap.size + 1 + 1 + 1 + 1 < w2.heap.size := Nat.lt_of_lt_of_le y13 q31.size
  have y37 : w.heap.size + 1 + 1 + 1 + 1 + 1 < w2.heap.size := Nat.lt_of_lt_of_le y22 q31.size
  have k38 := ext_cell q31 k2
  have k39 := ext_cell q31 k3
  have k40 := ext_cell q31 k5
  have k41 := ext_cell q31 k6
  have k42 := ext_cell q31 k8
  have k43 := ext_cell q31 k9
  have k44 := ext_cell q31 k11
  have k45 := ext_cell q31 k12
  have k46 := ext_cell q31 k14
  have k47 := ext_cell q31 k15
  have k48 := ext_cell q31 k16
  have k49 := ext_cell q31 k17
  have k50 := ext_cell q31 k23
  have k51 := ext_cell q31 k24
  have k52 := ext_cell q31 k25
  have k53 := ext_cell q31 k26
  have k54 := ext_cell q31 k27
  have k55 := ext_cell q31 k28
  have k56 := ext_cell q31 k29
  have k57 := ext_cell q31 k30
  have f58 : w2.frozen? ⟨w.heap.size + 1 + 1 + 1 + 1, 0, none⟩ = false := (q31.frozen (p := ⟨w.heap.size + 1 + 1 + 1 + 1, 0, none⟩) y13).trans f18
  have f59 : w2.frozen? ⟨w.heap.size + 1 + 1 + 1 + 1, 1, none⟩ = false := (q31.frozen (p := ⟨w.heap.size + 1 + 1 + 1 + 1, 1, none⟩) y13).trans f19
  have f60 : w2.frozen? ⟨w.heap.size + 1 + 1 + 1 + 1, 2, none⟩ = false := (q31.frozen (p := ⟨w.heap.size + 1 + 1 + 1 + 1, 2, none⟩) y13).trans f20
  have f61 : w2.frozen? ⟨w.heap.size + 1 + 1 + 1 + 1, 3, none⟩ = false := (q31.frozen (p := ⟨w.heap.size + 1 + 1 + 1 + 1, 3, none⟩) y13).trans f21
  clear k2 k3 k5 k6 k8 k9 k11 k12 k14 k15 k16 k17 k23 k24 k25 k26 k27 k28 k29 k30 y1 y4 y7 y10 y13 y22 f18 f19 f20 f21
  go_wp2_with fail
  rw [rounds_succ]
  go_wp2_with fail
  refine (impl_FractionOk _ _ _).mono ?_
  rintro en w3 ⟨rfl, hx3⟩
  have q62 : Ext w2 w3 := ext_trans (ext_alloc (ext_refl _) _) hx3
  have y63 : w.heap.size < w3.heap.size := Nat.lt_of_lt_of_le y32 q62.size
  have y64 : w.heap.size + 1 < w3.heap.size := Nat.lt_of_lt_of_le y33 q62.size
  have y65 : w.heap.size + 1 + 1 < w3.heap.size := Nat.lt_of_lt_of_le y34 q62.size
  have y66 : w.heap.size + 1 + 1 + 1 < w3.heap.size := Nat.lt_of_lt_of_le y35 q62.size
  have y67 : w.heap.size + 1 + 1 + 1 + 1 < w3.heap.size := Nat.lt_of_lt_of_le y36 q62.size
  have y68 : w.heap.size + 1 + 1 + 1 + 1 + 1 < w3.heap.size := Nat.lt_of_lt_of_le y37 q62.size
  have k69 := ext_cell q62 k38
  have k70 := ext_cell q62 k39
  have k71 := ext_cell q62 k40
  have k72 := ext_cell q62 k41
  have k73 := ext_cell q62 k42
  have k74 := ext_cell q62 k43
  have k75 := ext_cell q62 k44
  have k76 := ext_cell q62 k45
  have k77 := ext_cell q62 k46
  have k78 := ext_cell q62 k47
  have k79 := ext_cell q62 k48
  have k80 := ext_cell q62 k49
  have k81 := ext_cell q62 k50
  have k82 := ext_cell q62 k51
  have k83 := ext_cell q62 k52
  have k84 := ext_cell q62 k53
  have k85 := ext_cell q62 k54
  have k86 := ext_cell q62 k55
  have k87 := ext_cell q62 k56
  have k88 := ext_cell q62 k57
  have f89 : w3.frozen? ⟨w.heap.size + 1 + 1 + 1 + 1, 0, none⟩ = false := (q62.frozen (p := ⟨w.heap.size + 1 + 1 + 1 + 1, 0, none⟩) y36).trans f58
  have f90 : w3.frozen? ⟨w.heap.size + 1 + 1 + 1 + 1, 1, none⟩ = false := (q62.frozen (p := ⟨w.heap.size + 1 + 1 + 1 + 1, 1, none⟩) y36).trans f59
  have f91 : w3.frozen? ⟨w.heap.size + 1 + 1 + 1 + 1, 2, none⟩ = false := (q62.frozen (p := ⟨w.heap.size + 1 + 1 + 1 + 1, 2, none⟩) y36).trans f60
  have f92 : w3.frozen? ⟨w.heap.size + 1 + 1 + 1 + 1, 3, none⟩ = false := (q62.frozen (p := ⟨w.heap.size + 1 + 1 + 1 + 1, 3, none⟩) y36).trans f61
  clear k38 k39 k40 k41 k42 k43 k44 k45 k46 k47 k48 k49 k50 k51 k52 k53 k54 k55 k56 k57 y32 y33 y34 y35 y36 y37 f58 f59 f60 f61
  go_wp2_with fail
  rw [rounds_succ]
  go_wp2_with fail
  refine (impl_FractionOk _ _ _).mono ?_
  rintro en w4 ⟨rfl, hx4⟩
  have q93 : Ext w3 w4 := ext_trans (ext_alloc (ext_refl _) _) hx4
  have y94 : w.heap.size < w4.heap.size := Nat.lt_of_lt_of_le y63 q93.size
  have y95 : w.heap.size + 1 < w4.heap.size := Nat.lt_of_lt_of_le y64 q93.size
  have y96 : w.heap.size + 1 + 1 < w4.heap.size := Nat.lt_of_lt_of_le y65 q93.size
  have y97 : w.heap.size + 1 + 1 + 1 < w4.heap.size := Nat.lt_of_lt_of_le y66 q93.size
  have y98 : w.heap.size + 1 + 1 + 1 + 1 < w4.heap.size := Nat.lt_of_lt_of_le y67 q93.size
  have y99 : w.heap.size + 1 + 1 + 1 + 1 + 1 < w4.heap.size := Nat.lt_of_lt_of_le y68 q93.size
  have k100 := ext_cell q93 k69
  have k101 := ext_cell q93 k70
  have k102 := ext_cell q93 k71
  have k103 := ext_cell q93 k72
  have k104 := ext_cell q93 k73
  have k105 := ext_cell q93 k74
  have k106 := ext_cell q93 k75
  have k107 := ext_cell q93 k76
  have k108 := ext_cell q93 k77
  have k109 := ext_cell q93 k78
  have k110 := ext_cell q93 k79
  have k111 := ext_cell q93 k80
  have k112 := ext_cell q93 k81
  have k113 := ext_cell q93 k82
  have k114 := ext_cell q93 k83
  have k115 := ext_cell q93 k84
  have k116 := ext_cell q93 k85
  have k117 := ext_cell q93 k86
  have k118 := ext_cell q93 k87
  have k119 := ext_cell q93 k88
  have f120 : w4.frozen? ⟨w.heap.size + 1 + 1 + 1 + 1, 0, none⟩ = false := (q93.frozen (p := ⟨w.heap.size + 1 + 1 + 1 + 1, 0, none⟩) y67).trans f89
  have f121 : w4.frozen? ⟨w.heap.size + 1 + 1 + 1 + 1, 1, none⟩ = false := (q93.frozen (p := ⟨w.heap.size + 1 + 1 + 1 + 1, 1, none⟩) y67).trans f90
  have f122 : w4.frozen? ⟨w.heap.size + 1 + 1 + 1 + 1, 2, none⟩ = false := (q93.frozen (p := ⟨w.heap.size + 1 + 1 + 1 + 1, 2, none⟩) y67).trans f91
  have f123 : w4.frozen? ⟨w.heap.size + 1 + 1 + 1 + 1, 3, none⟩ = false := (q93.frozen (p := ⟨w.heap.size + 1 + 1 + 1 + 1, 3, none⟩) y67).trans f92
  clear k69 k70 k71 k72 k73 k74 k75 k76 k77 k78 k79 k80 k81 k82 k83 k84 k85 k86 k87 k88 y63 y64 y65 y66 y67 y68 f89 f90 f91 f92
  go_wp2_with fail
  rw [rounds_succ]
  go_wp2_with fail
  refine ((impl_minus' e f a b _)).mono ?_
  rintro en w5 ⟨rfl, hx5⟩
  have q124 : Ext w4 w5 := hx5
  have y125 : w.heap.size < w5.heap.size := Nat.lt_of_lt_of_le y94 q124.size
  have y126 : w.heap.size + 1 < w5.heap.size := Nat.lt_of_lt_of_le y95 q124.size
  have y127 : w.heap.size + 1 + 1 < w5.heap.size := Nat.lt_of_lt_of_le y96 q124.size
  have y128 : w.heap.size + 1 + 1 + 1 < w5.heap.size := Nat.lt_of_lt_of_le y97 q124.size
  have y129 : w.heap.size + 1 + 1 + 1 + 1 < w5.heap.size := Nat.lt_of_lt_of_le y98 q124.size
  have y130 : w.heap.size + 1 + 1 + 1 + 1 + 1 < w5.heap.size := Nat.lt_of_lt_of_le y99 q124.size
  have k131 := ext_cell q124 k100
  have k132 := ext_cell q124 k101
  have k133 := ext_cell q124 k102
  have k134 := ext_cell q124 k103
  have k135 := ext_cell q124 k104
  have k136 := ext_cell q124 k105
  have k137 := ext_cell q124 k106
  have k138 := ext_cell q124 k107
  have k139 := ext_cell q124 k108
  have k140 := ext_cell q124 k109
  have k141 := ext_cell q124 k110
  have k142 := ext_cell q124 k111
  have k143 := ext_cell q124 k112
  have k144 := ext_cell q124 k113
  have k145 := ext_cell q124 k114
  have k146 := ext_cell q124 k115
  have k147 := ext_cell q124 k116
  have k148 := ext_cell q124 k117
  have k149 := ext_cell q124 k118
  have k150 := ext_cell q124 k119
  have f151 : w5.frozen? ⟨w.heap.size + 1 + 1 + 1 + 1, 0, none⟩ = false := (q124.frozen (p := ⟨w.heap.size + 1 + 1 + 1 + 1, 0, none⟩) y98).trans f120
  have f152 : w5.frozen? ⟨w.heap.size + 1 + 1 + 1 + 1, 1, none⟩ = false := (q124.frozen (p := ⟨w.heap.size + 1 + 1 + 1 + 1, 1, none⟩) y98).trans f121
  have f153 : w5.frozen? ⟨w.heap.size + 1 + 1 + 1 + 1, 2, none⟩ = false := (q124.frozen (p := ⟨w.heap.size + 1 + 1 + 1 + 1, 2, none⟩) y98).trans f122
  have f154 : w5.frozen? ⟨w.heap.size + 1 + 1 + 1 + 1, 3, none⟩ = false := (q124.frozen (p := ⟨w.heap.size + 1 + 1 + 1 + 1, 3, none⟩) y98).trans f123
  clear k100 k101 k102 k103 k104 k105 k106 k107 k108 k109 k110 k111 k112 k113 k114 k115 k116 k117 k118 k119 y94 y95 y96 y97 y98 y99 f120 f121 f122 f123
  go_wp2_with fail
  refine ((impl_minus' g h c d _)).mono ?_
  rintro en w6 ⟨rfl, hx6⟩
  have q155 : Ext w5 w6 := ext_trans (ext_alloc (ext_refl _) _) hx6
  have y156 : w.heap.size < w6.heap.size := Nat.lt_of_lt_of_le y125 q155.size
  have y157 : w.heap.size + 1 < w6.heap.size := Nat.lt_of_lt_of_le y126 q155.size
  have y158 : w.heap.size + 1 + 1 < w6.heap.size := Nat.lt_of_lt_of_le y127 q155.size
  have y159 : w.heap.size + 1 + 1 + 1 < w6.heap.size := Nat.lt_of_lt_of_le y128 q155.size
  have y160 : w.heap.size + 1 + 1 + 1 + 1 < w6.heap.size := Nat.lt_of_lt_of_le y129 q155.size
  have y161 : w.heap.size + 1 + 1 + 1 + 1 + 1 < w6.heap.size := Nat.lt_of_lt_of_le y130 q155.size
  have k162 := ext_cell q155 k131
  have k163 := ext_cell q155 k132
  have k164 := ext_cell q155 k133
  have k165 := ext_cell q155 k134
  have k166 := ext_cell q155 k135
  have k167 := ext_cell q155 k136
  have k168 := ext_cell q155 k137
  have k169 := ext_cell q155 k138
  have k170 := ext_cell q155 k139
  have k171 := ext_cell q155 k140
  have k172 := ext_cell q155 k141
  have k173 := ext_cell q155 k142
  have k174 := ext_cell q155 k143
  have k175 := ext_cell q155 k144
  have k176 := ext_cell q155 k145
  have k177 := ext_cell q155 k146
  have k178 := ext_cell q155 k147
  have k179 := ext_cell q155 k148
  have k180 := ext_cell q155 k149
  have k181 := ext_cell q155 k150
  have f182 : w6.frozen? ⟨w.heap.size + 1 + 1 + 1 + 1, 0, none⟩ = false := (q155.frozen (p := ⟨w.heap.size + 1 + 1 + 1 + 1, 0, none⟩) y129).trans f151
  have f183 : w6.frozen? ⟨w.heap.size + 1 + 1 + 1 + 1, 1, none⟩ = false := (q155.frozen (p := ⟨w.heap.size + 1 + 1 + 1 + 1, 1, none⟩) y129).trans f152
  have f184 : w6.frozen? ⟨w.heap.size + 1 + 1 + 1 + 1, 2, none⟩ = false := (q155.frozen (p := ⟨w.heap.size + 1 + 1 + 1 + 1, 2, none⟩) y129).trans f153
  have f185 : w6.frozen? ⟨w.heap.size + 1 + 1 + 1 + 1, 3, none⟩ = false := (q155.frozen (p := ⟨w.heap.size + 1 + 1 + 1 + 1, 3, none⟩) y129).trans f154
  clear k131 k132 k133 k134 k135 k136 k137 k138 k139 k140 k141 k142 k143 k144 k145 k146 k147 k148 k149 k150 y125 y126 y127 y128 y129 y130 f151 f152 f153 f154
  have y186 : w5.heap.size < w6.heap.size := by have q := ext_size hx6; simp at q; omega
  have k187 := ext_cell hx6 (b := w5.heap.size) (off := 0) (v := .int .i64 (suT e f a b)) (by go_simp)
  have k188 := ext_cell hx6 (b := w5.heap.size) (off := 1) (v := .int .i64 (suB e f a b)) (by go_simp)
  go_wp2_with fail
  refine ((impl_over (suT g h c d) (suB g h c d) (suT e f a b) (suB e f a b) _)).mono ?_
  rintro en w7 ⟨rfl, hx7⟩
  rw [show ovT (suT g h c d) (suB g h c d) (suT e f a b) (suB e f a b) = ltUT a b c d e f g h from rfl, show ovB (suT g h c d) (suB g h c d) (suT e f a b) (suB e f a b) = ltUB a b c d e f g h from rfl, show ovOk (suT g h c d) (suB g h c d) (suT e f a b) (suB e f a b) = ltUOk a b c d e f g h from rfl]
  have q189 : Ext w6 w7 := ext_trans (ext_alloc (ext_refl _) _) hx7
  have y190 : w.heap.size < w7.heap.size := Nat.lt_of_lt_of_le y156 q189.size
  have y191 : w.heap.size + 1 < w7.heap.size := Nat.lt_of_lt_of_le y157 q189.size
  have y192 : w.heap.size + 1 + 1 < w7.heap.size := Nat.lt_of_lt_of_le y158 q189.size
  have y193 : w.heap.size + 1 + 1 + 1 < w7.heap.size := Nat.lt_of_lt_of_le y159 q189.size
  have y194 : w.heap.size + 1 + 1 + 1 + 1 < w7.heap.size := Nat.lt_of_lt_of_le y160 q189.size
  have y195 : w.heap.size + 1 + 1 + 1 + 1 + 1 < w7.heap.size := Nat.lt_of_lt_of_le y161 q189.size
  have y196 : w5.heap.size < w7.heap.size := Nat.lt_of_lt_of_le y186 q189.size
  have k197 := ext_cell q189 k162
  have k198 := ext_cell q189 k163
  have k199 := ext_cell q189 k164
  have k200 := ext_cell q189 k165
  have k201 := ext_cell q189 k166
  have k202 := ext_cell q189 k167
  have k203 := ext_cell q189 k168
  have k204 := ext_cell q189 k169
  have k205 := ext_cell q189 k170
  have k206 := ext_cell q189 k171
  have k207 := ext_cell q189 k172
  have k208 := ext_cell q189 k173
  have k209 := ext_cell q189 k174
  have k210 := ext_cell q189 k175
  have k211 := ext_cell q189 k176
  have k212 := ext_cell q189 k177
  have k213 := ext_cell q189 k178
  have k214 := ext_cell q189 k179
  have k215 := ext_cell q189 k180
  have k216 := ext_cell q189 k181
  have k217 := ext_cell q189 k187
  have k218 := ext_cell q189 k188
  have f219 : w7.frozen? ⟨w.heap.size + 1 + 1 + 1 + 1, 0, none⟩ = false := (q189.frozen (p := ⟨w.heap.size + 1 + 1 + 1 + 1, 0, none⟩) y160).trans f182
  have f220 : w7.frozen? ⟨w.heap.size + 1 + 1 + 1 + 1, 1, none⟩ = false := (q189.frozen (p := ⟨w.heap.size + 1 + 1 + 1 + 1, 1, none⟩) y160).trans f183
  have f221 : w7.frozen? ⟨w.heap.size + 1 + 1 + 1 + 1, 2, none⟩ = false := (q189.frozen (p := ⟨w.heap.size + 1 + 1 + 1 + 1, 2, none⟩) y160).trans f184
  have f222 : w7.frozen? ⟨w.heap.size + 1 + 1 + 1 + 1, 3, none⟩ = false := (q189.frozen (p := ⟨w.heap.size + 1 + 1 + 1 + 1, 3, none⟩) y160).trans f185
  clear k162 k163 k164 k165 k166 k167 k168 k169 k170 k171 k172 k173 k174 k175 k176 k177 k178 k179 k180 k181 k187 k188 y156 y157 y158 y159 y160 y161 y186 f182 f183 f184 f185
  have y223 : w6.heap.size < w7.heap.size := by have q := ext_size hx7; simp at q; omega
  have k224 := ext_cell hx7 (b := w6.heap.size) (off := 0) (v := .int .i64 (suT g h c d)) (by go_simp)
  have k225 := ext_cell hx7 (b := w6.heap.size) (off := 1) (v := .int .i64 (suB g h c d)) (by go_simp)
  go_wp2_with fail
  refine ((impl_TimesFractions (ltUT a b c d e f g h) (ltUB a b c d e f g h) a b _)).mono ?_
  rintro en w8 ⟨rfl, hx8⟩
  rw [show timT (ltUT a b c d e f g h) (ltUB a b c d e f g h) a b = ltPT a b c d e f g h from rfl, show timB (ltUT a b c d e f g h) (ltUB a b c d e f g h) a b = ltPB a b c d e f g h from rfl, show timOk (ltUT a b c d e f g h) (ltUB a b c d e f g h) a b = ltPOk a b c d e f g h from rfl]
  have q226 : Ext w7 w8 := ext_trans (ext_alloc (ext_refl _) _) hx8
  have y227 : w.heap.size < w8.heap.size := Nat.lt_of_lt_of_le y190 q226.size
  have y228 : w.heap.size + 1 < w8.heap.size := Nat.lt_of_lt_of_le y191 q226.size
  have y229 : w.heap.size + 1 + 1 < w8.heap.size := Nat.lt_of_lt_of_le y192 q226.size
  have y230 : w.heap.size + 1 + 1 + 1 < w8.heap.size := Nat.lt_of_lt_of_le y193 q226.size
  have y231 : w.heap.size + 1 + 1 + 1 + 1 < w8.heap.size := Nat.lt_of_lt_of_le y194 q226.size
  have y232 : w.heap.size + 1 + 1 + 1 + 1 + 1 < w8.heap.size := Nat.lt_of_lt_of_le y195 q226.size
  have y233 : w5.heap.size < w8.heap.size := Nat.lt_of_lt_of_le y196 q226.size
  have y234 : w6.heap.size < w8.heap.size := Nat.lt_of_lt_of_le y223 q226.size
  have k235 := ext_cell q226 k197
  have k236 := ext_cell q226 k198
  have k237 := ext_cell q226 k199
  have k238 := ext_cell q226 k200
  have k239 := ext_cell q226 k201
  have k240 := ext_cell q226 k202
  have k241 := ext_cell q226 k203
  have k242 := ext_cell q226 k204
  have k243 := ext_cell q226 k205
  have k244 := ext_cell q226 k206
  have k245 := ext_cell q226 k207
  have k246 := ext_cell q226 k208
  have k247 := ext_cell q226 k209
  have k248 := ext_cell q226 k210
  have k249 := ext_cell q226 k211
  have k250 := ext_cell q226 k212
  have k251 := ext_cell q226 k213
  have k252 := ext_cell q226 k214
  have k253 := ext_cell q226 k215
  have k254 := ext_cell q226 k216
  have k255 := ext_cell q226 k217
  have k256 := ext_cell q226 k218
  have k257 := ext_cell q226 k224
  have k258 := ext_cell q226 k225
  have f259 : w8.frozen? ⟨w.heap.size + 1 + 1 + 1 + 1, 0, none⟩ = false := (q226.frozen (p := ⟨w.heap.size + 1 + 1 + 1 + 1, 0, none⟩) y194).trans f219
  have f260 : w8.frozen? ⟨w.heap.size + 1 + 1 + 1 + 1, 1, none⟩ = false := (q226.frozen (p := ⟨w.heap.size + 1 + 1 + 1 + 1, 1, none⟩) y194).trans f220
  have f261 : w8.frozen? ⟨w.heap.size + 1 + 1 + 1 + 1, 2, none⟩ = false := (q226.frozen (p := ⟨w.heap.size + 1 + 1 + 1 + 1, 2, none⟩) y194).trans f221
  have f262 : w8.frozen? ⟨w.heap.size + 1 + 1 + 1 + 1, 3, none⟩ = false := (q226.frozen (p := ⟨w.heap.size + 1 + 1 + 1 + 1, 3, none⟩) y194).trans f222
  clear k197 k198 k199 k200 k201 k202 k203 k204 k205 k206 k207 k208 k209 k210 k211 k212 k213 k214 k215 k216 k217 k218 k224 k225 y190 y191 y192 y193 y194 y195 y196 y223 f219 f220 f221 f222
  have y263 : w7.heap.size < w8.heap.size := by have q := ext_size hx8; simp at q; omega
  have k264 := ext_cell hx8 (b := w7.heap.size) (off := 0) (v := .int .i64 (ltUT a b c d e f g h)) (by go_simp)
  have k265 := ext_cell hx8 (b := w7.heap.size) (off := 1) (v := .int .i64 (ltUB a b c d e f g h)) (by go_simp)
  go_wp2_with fail
  refine ((impl_minus' c d (ltPT a b c d e f g h) (ltPB a b c d e f g h) _)).mono ?_
  rintro en w9 ⟨rfl, hx9⟩
  rw [show suT c d (ltPT a b c d e f g h) (ltPB a b c d e f g h) = ltZT a b c d e f g h from rfl, show suB c d (ltPT a b c d e f g h) (ltPB a b c d e f g h) = ltZB a b c d e f g h from rfl, show suOk c d (ltPT a b c d e f g h) (ltPB a b c d e f g h) = ltZOk a b c d e f g h from rfl]
  have q266 : Ext w8 w9 := ext_trans (ext_alloc (ext_refl _) _) hx9
  have y267 : w.heap.size < w9.heap.size := Nat.lt_of_lt_of_le y227 q266.size
  have y268 : w.heap.size + 1 < w9.heap.size := Nat.lt_of_lt_of_le y228 q266.size
  have y269 : w.heap.size + 1 + 1 < w9.heap.size := Nat.lt_of_lt_of_le y229 q266.size
  have y270 : w.heap.size + 1 + 1 + 1 < w9.heap.size := Nat.lt_of_lt_of_le y230 q266.size
  have y271 : w.heap.size + 1 + 1 + 1 + 1 < w9.heap.size := Nat.lt_of_lt_of_le y231 q266.size
  have y272 : w.heap.size + 1 + 1 + 1 + 1 + 1 < w9.heap.size := Nat.lt_of_lt_of_le y232 q266.size
  have y273 : w5.heap.size < w9.heap.size := Nat.lt_of_lt_of_le y233 q266.size
  have y274 : w6.heap.size < w9.heap.size := Nat.lt_of_lt_of_le y234 q266.size
  have y275 : w7.heap.size < w9.heap.size := Nat.lt_of_lt_of_le y263 q266.size
  have k276 := ext_cell q266 k235
  have k277 := ext_cell q266 k236
  have k278 := ext_cell q266 k237
  have k279 := ext_cell q266 k238
  have k280 := ext_cell q266 k239
  have k281 := ext_cell q266 k240
  have k282 := ext_cell q266 k241
  have k283 := ext_cell q266 k242
  have k284 := ext_cell q266 k243
  have k285 := ext_cell q266 k244
  have k286 := ext_cell q266 k245
  have k287 := ext_cell q266 k246
  have k288 := ext_cell q266 k247
  have k289 := ext_cell q266 k248
  have k290 := ext_cell q266 k249
  have k291 := ext_cell q266 k250
  have k292 := ext_cell q266 k251
  have k293 := ext_cell q266 k252
  have k294 := ext_cell q266 k253
  have k295 := ext_cell q266 k254
  have k296 := ext_cell q266 k255
  have k297 := ext_cell q266 k256
  have k298 := ext_cell q266 k257
  have k299 := ext_cell q266 k258
  have k300 := ext_cell q266 k264
  have k301 := ext_cell q266 k265
  have f302 : w9.frozen? ⟨w.heap.size + 1 + 1 + 1 + 1, 0, none⟩ = false := (q266.frozen (p := ⟨w.heap.size + 1 + 1 + 1 + 1, 0, none⟩) y231).trans f259
  have f303 : w9.frozen? ⟨w.heap.size + 1 + 1 + 1 + 1, 1, none⟩ = false := (q266.frozen (p := ⟨w.heap.size + 1 + 1 + 1 + 1, 1, none⟩) y231).trans f260
  have f304 : w9.frozen? ⟨w.heap.size + 1 + 1 + 1 + 1, 2, none⟩ = false := (q266.frozen (p := ⟨w.heap.size + 1 + 1 + 1 + 1, 2, none⟩) y231).trans f261
  have f305 : w9.frozen? ⟨w.heap.size + 1 + 1 + 1 + 1, 3, none⟩ = false := (q266.frozen (p := ⟨w.heap.size + 1 + 1 + 1 + 1, 3, none⟩) y231).trans f262
  clear k235 k236 k237 k238 k239 k240 k241 k242 k243 k244 k245 k246 k247 k248 k249 k250 k251 k252 k253 k254 k255 k256 k257 k258 k264 k265 y227 y228 y229 y230 y231 y232 y233 y234 y263 f259 f260 f261 f262
  have y306 : w8.heap.size < w9.heap.size := by have q := ext_size hx9; simp at q; omega
  have k307 := ext_cell hx9 (b := w8.heap.size) (off := 0) (v := .int .i64 (ltPT a b c d e f g h)) (by go_simp)
  have k308 := ext_cell hx9 (b := w8.heap.size) (off := 1) (v := .int .i64 (ltPB a b c d e f g h)) (by go_simp)
  go_wp2_with fail
  have hye : w.heap.size + 1 + 1 + 1 + 1 < w9.heap.size + 1 := by omega
  exact bodyPost_ret (v := .tuple #[lineV (0) (0) (0) (0), .bool false]) (by simp [results, Try.results28, go_sem, k284, k285, k286, k287, y271, hye]) rfl ⟨rfl, (by repeat (first | (with_reducible exact ext_refl _) | (with_reducible refine ext_setCell ?_ ?_ _) | (with_reducible refine ext_alloc ?_ _) | (with_reducible refine ext_drewN ?_ _) | (with_reducible refine ext_drew ?_) | (with_reducible refine ext_trans ?_ (by assumption)) | (dsimp only; omega) | omega | (simp; omega)))⟩
set_option maxHeartbeats 6400000 in
theorem impl_LT_d2c3 (a b c d e f g h : Int) (w : World) (h0 : fracOk a b = true) (h1 : fracOk c d = true) (h2 : fracOk e f = true) (h3 : fracOk g h = true) (h4 : ¬ a = e) (q0 : suOk e f a b = true) (q1 : suOk g h c d = true) (q2 : ltUOk a b c d e f g h = true) (q3 : ltPOk a b c d e f g h = false) :
    Calls Try.prog 28 #[.agg #[.int .i64 a, .int .i64 b], .agg #[.int .i64 c, .int .i64 d], .agg #[.int .i64 e, .int .i64 f], .agg #[.int .i64 g, .int .i64 h]] w fun en w' => en = lineR 0 0 0 0 false ∧ Ext w w' := by
  go_enter Try.func28, Try.ntmps28
  go_wp2_with fail
  refine wp_loop_rounds 5 ?_
  rw [rounds_succ]
  go_wp2_with fail
  refine (impl_FractionOk _ _ _).mono ?_
  rintro en w1 ⟨rfl, hx1⟩
  have y1 : w.heap.size < w1.heap.size := by have := hx1.size; simp at this; omega
  have k2 := ext_cell hx1 (b := w.heap.size) (off := 0) (v := .int .i64 (a)) (by go_simp)
  have k3 := ext_cell hx1 (b := w.heap.size) (off := 1) (v := .int .i64 (b)) (by go_simp)
  have y4 : w.heap.size + 1 < w1.heap.size := by have := hx1.size; simp at this; omega
  have k5 := ext_cell hx1 (b := w.heap.size + 1) (off := 0) (v := .int .i64 (c)) (by go_simp)
  have k6 := ext_cell hx1 (b := w.heap.size + 1) (off := 1) (v := .int .i64 (d)) (by go_simp)
  have y7 : w.heap.size + 1 + 1 < w1.heap.size := by have := hx1.size; simp at this; omega
  have k8 := ext_cell hx1 (b := w.heap.size + 1 + 1) (off := 0) (v := .int .i64 (e)) (by go_simp)
  have k9 := ext_cell hx1 (b := w.heap.size + 1 + 1) (off := 1) (v := .int .i64 (f)) (by go_simp)
  have y10 : w.heap.size + 1 + 1 + 1 < w1.heap.size := by have := hx1.size; simp at this; omega
  have k11 := ext_cell hx1 (b := w.heap.size + 1 + 1 + 1) (off := 0) (v := .int .i64 (g)) (by go_simp)
  have k12 := ext_cell hx1 (b := w.heap.size + 1 + 1 + 1) (off := 1) (v := .int .i64 (h)) (by go_simp)
  have y13 : w.heap.size + 1 + 1 + 1 + 1 < w1.heap.size := by have := hx1.size; simp at this; omega
  have k14 := ext_cell hx1 (b := w.heap.size + 1 + 1 + 1 + 1) (off := 0) (v := .int .i64 (0)) (by go_simp)
  have k15 := ext_cell hx1 (b := w.heap.size + 1 + 1 + 1 + 1) (off := 1) (v := .int .i64 (0)) (by go_simp)
  have k16 := ext_cell hx1 (b := w.heap.size + 1 + 1 + 1 + 1) (off := 2) (v := .int .i64 (0)) (by go_simp)
  have k17 := ext_cell hx1 (b := w.heap.size + 1 + 1 + 1 + 1) (off := 3) (v := .int .i64 (0)) (by go_simp)
  have f18 : w1.frozen? ⟨w.heap.size + 1 + 1 + 1 + 1, 0, none⟩ = false := by rw [hx1.frozen (p := ⟨w.heap.size + 1 + 1 + 1 + 1, 0, none⟩) (by simp; try omega)]; go_simp
  have f19 : w1.frozen? ⟨w.heap.size + 1 + 1 + 1 + 1, 1, none⟩ = false := by rw [hx1.frozen (p := ⟨w.heap.size + 1 + 1 + 1 + 1, 1, none⟩) (by simp; try omega)]; go_simp
  have f20 : w1.frozen? ⟨w.heap.size + 1 + 1 + 1 + 1, 2, none⟩ = false := by rw [hx1.frozen (p := ⟨w.heap.size + 1 + 1 + 1 + 1, 2, none⟩) (by simp; try omega)]; go_simp
  have f21 : w1.frozen? ⟨w.heap.size + 1 + 1 + 1 + 1, 3, none⟩ = false := by rw [hx1.frozen (p := ⟨w.heap.size + 1 + 1 + 1 + 1, 3, none⟩) (by simp; try omega)]; go_simp
  have y22 : w.heap.size + 1 + 1 + 1 + 1 + 1 < w1.heap.size := by have := hx1.size; simp at this; omega
  have k23 := ext_cell hx1 (b := w.heap.size + 1 + 1 + 1 + 1 + 1) (off := 0) (v := .int .i64 (a)) (by go_simp)
  have k24 := ext_cell hx1 (b := w.heap.size + 1 + 1 + 1 + 1 + 1) (off := 1) (v := .int .i64 (b)) (by go_simp)
  have k25 := ext_cell hx1 (b := w.heap.size + 1 + 1 + 1 + 1 + 1) (off := 2) (v := .int .i64 (c)) (by go_simp)
  have k26 := ext_cell hx1 (b := w.heap.size + 1 + 1 + 1 + 1 + 1) (off := 3) (v := .int .i64 (d)) (by go_simp)
  have k27 := ext_cell hx1 (b := w.heap.size + 1 + 1 + 1 + 1 + 1) (off := 4) (v := .int .i64 (e)) (by go_simp)
  have k28 := ext_cell hx1 (b := w.heap.size + 1 + 1 + 1 + 1 + 1) (off := 5) (v := .int .i64 (f)) (by go_simp)
  have k29 := ext_cell hx1 (b := w.heap.size + 1 + 1 + 1 + 1 + 1) (off := 6) (v := .int .i64 (g)) (by go_simp)
  have k30 := ext_cell hx1 (b := w.heap.size + 1 + 1 + 1 + 1 + 1) (off := 7) (v := .int .i64 (h)) (by go_simp)
  go_wp2_with fail
  rw [rounds_succ]
  go_wp2_with fail
  refine (impl_FractionOk _ _ _).mono ?_
  rintro en w2 ⟨rfl, hx2⟩
  have q31 : Ext w1 w2 := ext_trans (ext_alloc (ext_refl _) _) hx2
  have y32 : w.heap.size < w2.heap.size := Nat.lt_of_lt_of_le y1 q31.size
  have y33 : w.heap.size + 1 < w2.heap.size := Nat.lt_of_lt_of_le y4 q31.size
  have y34 : w.heap.size + 1 + 1 < w2.heap.size := Nat.lt_of_lt_of_le y7 q31.size
  have y35 : w.heap.size + 1 + 1 + 1 < w2.heap.size := Nat.lt_of_lt_of_le y10 q31.size
  have y36 : w.heap.size + 1 + 1 + 1 + 1 < w2.heap.size := Nat.lt_of_lt_of_le y13 q31.size
  have y37 : w.heap.size + 1 + 1 + 1 + 1 + 1 < w2.heap.size := Nat.lt_of_lt_of_le y22 q31.size
  have k38 := ext_cell q31 k2
  have k39 := ext_cell q31 k3
  have k40 := ext_cell q31 k5
  have k41 := ext_cell q31 k6
  have k42 := ext_cell q31 k8
  have k43 := ext_cell q31 k9
  have k44 := ext_cell q31 k11
  have k45 := ext_cell q31 k12
  have k46 := ext_cell q31 k14
  have k47 := ext_cell q31 k15
  have k48 := ext_cell q31 k16
  have k49 := ext_cell q31 k17
  have k50 := ext_cell q31 k23
  have k51 := ext_cell q31 k24
  have k52 := ext_cell q31 k25
  have k53 := ext_cell q31 k26
  have k54 := ext_cell q31 k27
  have k55 := ext_cell q31 k28
  have k56 := ext_cell q31 k29
  have k57 := ext_cell q31 k30
  have f58 : w2.frozen? ⟨w.heap.size + 1 + 1 + 1 + 1, 0, none⟩ = false := (q31.frozen (p := ⟨w.heap.size + 1 + 1 + 1 + 1, 0, none⟩) y13).trans f18
  have f59 : w2.frozen? ⟨w.heap.size + 1 + 1 + 1 + 1, 1, none⟩ = false := (q31.frozen (p := ⟨w.heap.size + 1 + 1 + 1 + 1, 1, none⟩) y13).trans f19
  have f60 : w2.frozen? ⟨w.heap.size + 1 + 1 + 1 + 1, 2, none⟩ = false := (q31.frozen (p := ⟨w.heap.size + 1 + 1 + 1 + 1, 2, none⟩) y13).trans f20
  have f61 : w2.frozen? ⟨w.heap.size + 1 + 1 + 1 + 1, 3, none⟩ = false := (q31.frozen (p := ⟨w.heap.size + 1 + 1 + 1 + 1, 3, none⟩) y13).trans f21
  clear k2 k3 k5 k6 k8 k9 k11 k12 k14 k15 k16 k17 k23 k24 k25 k26 k27 k28 k29 k30 y1 y4 y7 y10 y13 y22 f18 f19 f20 f21
  go_wp2_with fail
  rw [rounds_succ]
  go_wp2_with fail
  refine (impl_FractionOk _ _ _).mono ?_
  rintro en w3 ⟨rfl, hx3⟩
  have q62 : Ext w2 w3 := ext_trans (ext_alloc (ext_refl _) _) hx3
  have y63 : w.heap.size < w3.heap.size := Nat.lt_of_lt_of_le y32 q62.size
  have y64 : w.heap.size + 1 < w3.heap.size := Nat.lt_of_lt_of_le y33 q62.size
  have y65 : w.heap.size + 1 + 1 < w3.heap.size := Nat.lt_of_lt_of_le y34 q62.size
  have y66 : w.heap.size + 1 + 1 + 1 < w3.heap.size := Nat.lt_of_lt_of_le y35 q62.size
  have y67 : w.heap.size + 1 + 1 + 1 + 1 < w3.heap.size := Nat.lt_of_lt_of_le y36 q62.size
  have y68 : w.heap.size + 1 + 1 + 1 + 1 + 1 < w3.heap.size := Nat.lt_of_lt_of_le y37 q62.size
  have k69 := ext_cell q62 k38
  have k70 := ext_cell q62 k39
  have k71 := ext_cell q62 k40
  have k72 := ext_cell q62 k41
  have k73 := ext_cell q62 k42
  have k74 := ext_cell q62 k43
  have k75 := ext_cell q62 k44
  have k76 := ext_cell q62 k45
  have k77 := ext_cell q62 k46
  have k78 := ext_cell q62 k47
  have k79 := ext_cell q62 k48
  have k80 := ext_cell q62 k49
  have k81 := ext_cell q62 k50
  have k82 := ext_cell q62 k51
  have k83 := ext_cell q62 k52
  have k84 := ext_cell q62 k53
  have k85 := ext_cell q62 k54
  have k86 := ext_cell q62 k55
  have k87 := ext_cell q62 k56
  have k88 := ext_cell q62 k57
  have f89 : w3.frozen? ⟨w.heap.size + 1 + 1 + 1 + 1, 0, none⟩ = false := (q62.frozen (p := ⟨w.heap.size + 1 + 1 + 1 + 1, 0, none⟩) y36).trans f58
  have f90 : w3.frozen? ⟨w.heap.size + 1 + 1 + 1 + 1, 1, none⟩ = false := (q62.frozen (p := ⟨w.heap.size + 1 + 1 + 1 + 1, 1, none⟩) y36).trans f59
  have f91 : w3.frozen? ⟨w.heap.size + 1 + 1 + 1 + 1, 2, none⟩ = false := (q62.frozen (p := ⟨w.heap.size + 1 + 1 + 1 + 1, 2, none⟩) y36).trans f60
  have f92 : w3.frozen? ⟨w.heap.size + 1 + 1 + 1 + 1, 3, none⟩ = false := (q62.frozen (p := ⟨w.heap.size + 1 + 1 + 1 + 1, 3, none⟩) y36).trans f61
  clear k38 k39 k40 k41 k42 k43 k44 k45 k46 k47 k48 k49 k50 k51 k52 k53 k54 k55 k56 k57 y32 y33 y34 y35 y36 y37 f58 f59 f60 f61
  go_wp2_with fail
  rw [rounds_succ]
  go_wp2_with fail
  refine (impl_FractionOk _ _ _).mono ?_
  rintro en w4 ⟨rfl, hx4⟩
  have q93 : Ext w3 w4 := ext_trans (ext_alloc (ext_refl _) _) hx4
  have y94 : w.heap.size < w4.heap.size := Nat.lt_of_lt_of_le y63 q93.size
  have y95 : w.heap.size + 1 < w4.heap.size := Nat.lt_of_lt_of_le y64 q93.size
  have y96 : w.heap.size + 1 + 1 < w4.heap.size := Nat.lt_of_lt_of_le y65 q93.size
  have y97 : w.heap.size + 1 + 1 + 1 < w4.heap.size := Nat.lt_of_lt_of_le y66 q93.size
  have y98 : w.heap.size + 1 + 1 + 1 + 1 < w4.heap.size := Nat.lt_of_lt_of_le y67 q93.size
  have y99 : w.heap.size + 1 + 1 + 1 + 1 + 1 < w4.heap.size := Nat.lt_of_lt_of_le y68 q93.size
  have k100 := ext_cell q93 k69
  have k101 := ext_cell q93 k70
  have k102 := ext_cell q93 k71
  have k103 := ext_cell q93 k72
  have k104 := ext_cell q93 k73
  have k105 := ext_cell q93 k74
  have k106 := ext_cell q93 k75
  have k107 := ext_cell q93 k76
  have k108 := ext_cell q93 k77
  have k109 := ext_cell q93 k78
  have k110 := ext_cell q93 k79
  have k111 := ext_cell q93 k80
  have k112 := ext_cell q93 k81
  have k113 := ext_cell q93 k82
  have k114 := ext_cell q93 k83
  have k115 := ext_cell q93 k84
  have k116 := ext_cell q93 k85
  have k117 := ext_cell q93 k86
  have k118 := ext_cell q93 k87
  have k119 := ext_cell q93 k88
  have f120 : w4.frozen? ⟨w.heap.size + 1 + 1 + 1 + 1, 0, none⟩ = false := (q93.frozen (p := ⟨w.heap.size + 1 + 1 + 1 + 1, 0, none⟩) y67).trans f89
  have f121 : w4.frozen? ⟨w.heap.size + 1 + 1 + 1 + 1, 1, none⟩ = false := (q93.frozen (p := ⟨w.heap.size + 1 + 1 + 1 + 1, 1, none⟩) y67).trans f90
  have f122 : w4.frozen? ⟨w.heap.size + 1 + 1 + 1 + 1, 2, none⟩ = false := (q93.frozen (p := ⟨w.heap.size + 1 + 1 + 1 + 1, 2, none⟩) y67).trans f91
  have f123 : w4.frozen? ⟨w.heap.size + 1 + 1 + 1 + 1, 3, none⟩ = false := (q93.frozen (p := ⟨w.heap.size + 1 + 1 + 1 + 1, 3, none⟩) y67).trans f92
  clear k69 k70 k71 k72 k73 k74 k75 k76 k77 k78 k79 k80 k81 k82 k83 k84 k85 k86 k87 k88 y63 y64 y65 y66 y67 y68 f89 f90 f91 f92
  go_wp2_with fail
  rw [rounds_succ]
  go_wp2_with fail
  refine ((impl_minus' e f a b _)).mono ?_
  rintro en w5 ⟨rfl, hx5⟩
  have q124 : Ext w4 w5 := hx5
  have y125 : w.heap.size < w5.heap.size := Nat.lt_of_lt_of_le y94 q124.size
  have y126 : w.heap.size + 1 < w5.heap.size := Nat.lt_of_lt_of_le y95 q124.size
  have y127 : w.heap.size + 1 + 1 < w5.heap.size := Nat.lt_of_lt_of_le y96 q124.size
  have y128 : w.heap.size + 1 + 1 + 1 < w5.heap.size := Nat.lt_of_lt_of_le y97 q124.size
  have y129 : w.heap.size + 1 + 1 + 1 + 1 < w5.heap.size := Nat.lt_of_lt_of_le y98 q124.size
  have y130 : w.heap.size + 1 + 1 + 1 + 1 + 1 < w5.heap.size := Nat.lt_of_lt_of_le y99 q124.size
  have k131 := ext_cell q124 k100
  have k132 := ext_cell q124 k101
  have k133 := ext_cell q124 k102
  have k134 := ext_cell q124 k103
  have k135 := ext_cell q124 k104
  have k136 := ext_cell q124 k105
  have k137 := ext_cell q124 k106
  have k138 := ext_cell q124 k107
  have k139 := ext_cell q124 k108
  have k140 := ext_cell q124 k109
  have k141 := ext_cell q124 k110
  have k142 := ext_cell q124 k111
  have k143 := ext_cell q124 k112
  have k144 := ext_cell q124 k113
  have k145 := ext_cell q124 k114
  have k146 := ext_cell q124 k115
  have k147 := ext_cell q124 k116
  have k148 := ext_cell q124 k117
  have k149 := ext_cell q124 k118
  have k150 := ext_cell q124 k119
  have f151 : w5.frozen? ⟨w.heap.size + 1 + 1 + 1 + 1, 0, none⟩ = false := (q124.frozen (p := ⟨w.heap.size + 1 + 1 + 1 + 1, 0, none⟩) y98).trans f120
  have f152 : w5.frozen? ⟨w.heap.size + 1 + 1 + 1 + 1, 1, none⟩ = false := (q124.frozen (p := ⟨w.heap.size + 1 + 1 + 1 + 1, 1, none⟩) y98).trans f121
  have f153 : w5.frozen? ⟨w.heap.size + 1 + 1 + 1 + 1, 2, none⟩ = false := (q124.frozen (p := ⟨w.heap.size + 1 + 1 + 1 + 1, 2, none⟩) y98).trans f122
  have f154 : w5.frozen? ⟨w.heap.size + 1 + 1 + 1 + 1, 3, none⟩ = false := (q124.frozen (p := ⟨w.heap.size + 1 + 1 + 1 + 1, 3, none⟩) y98).trans f123
  clear k100 k101 k102 k103 k104 k105 k106 k107 k108 k109 k110 k111 k112 k113 k114 k115 k116 k117 k118 k119 y94 y95 y96 y97 y98 y99 f120 f121 f122 f123
  go_wp2_with fail
  refine ((impl_minus' g h c d _)).mono ?_
  rintro en w6 ⟨rfl, hx6⟩
  have q155 : Ext w5 w6 := ext_trans (ext_alloc (ext_refl _) _) hx6
  have y156 : w.heap.size < w6.heap.size := Nat.lt_of_lt_of_le y125 q155.size
  have y157 : w.heap.size + 1 < w6.heap.size := Nat.lt_of_lt_of_le y126 q155.size
  have y158 : w.heap.size + 1 + 1 < w6.heap.size := Nat.lt_of_lt_of_le y127 q155.size
  have y159 : w.heap.size + 1 + 1 + 1 < w6.heap.size := Nat.lt_of_lt_of_le y128 q155.size
  have y160 : w.heap.size + 1 + 1 + 1 + 1 < w6.heap.size := Nat.lt_of_lt_of_le y129 q155.size
  have y161 : w.heap.size + 1 + 1 + 1 + 1 + 1 < w6.heap.size := Nat.lt_of_lt_of_le y130 q155.size
  have k162 := ext_cell q155 k131
  have k163 := ext_cell q155 k132
  have k164 := ext_cell q155 k133
  have k165 := ext_cell q155 k134
  have k166 := ext_cell q155 k135
  have k167 := ext_cell q155 k136
  have k168 := ext_cell q155 k137
  have k169 := ext_cell q155 k138
  have k170 := ext_cell q155 k139
  have k171 := ext_cell q155 k140
  have k172 := ext_cell q155 k141
  have k173 := ext_cell q155 k142
  have k174 := ext_cell q155 k143
  have k175 := ext_cell q155 k144
  have k176 := ext_cell q155 k145
  have k177 := ext_cell q155 k146
  have k178 := ext_cell q155 k147
  have k179 := ext_cell q155 k148
  have k180 := ext_cell q155 k149
  have k181 := ext_cell q155 k150
  have f182 : w6.frozen? ⟨w.heap.size + 1 + 1 + 1 + 1, 0, none⟩ = false := (q155.frozen (p := ⟨w.heap.size + 1 + 1 + 1 + 1, 0, none⟩) y129).trans f151
  have f183 : w6.frozen? ⟨w.heap.size + 1 + 1 + 1 + 1, 1, none⟩ = false := (q155.frozen (p := ⟨w.heap.size + 1 + 1 + 1 + 1, 1, none⟩) y129).trans f152
  have f184 : w6.frozen? ⟨w.heap.size + 1 + 1 + 1 + 1, 2, none⟩ = false := (q155.frozen (p := ⟨w.heap.size + 1 + 1 + 1 + 1, 2, none⟩) y129).trans f153
  have f185 : w6.frozen? ⟨w.heap.size + 1 + 1 + 1 + 1, 3, none⟩ = false := (q155.frozen (p := ⟨w.heap.size + 1 + 1 + 1 + 1, 3, none⟩) y129).trans f154
  clear k131 k132 k133 k134 k135 k136 k137 k138 k139 k140 k141 k142 k143 k144 k145 k146 k147 k148 k149 k150 y125 y126 y127 y128 y129 y130 f151 f152 f153 f154
  have y186 : w5.heap.size < w6.heap.size := by have q := ext_size hx6; simp at q; omega
  have k187 := ext_cell hx6 (b := w5.heap.size) (off := 0) (v := .int .i64 (suT e f a b)) (by go_simp)
  have k188 := ext_cell hx6 (b := w5.heap.size) (off := 1) (v := .int .i64 (suB e f a b)) (by go_simp)
  go_wp2_with fail
  refine ((impl_over (suT g h c d) (suB g h c d) (suT e f a b) (suB e f a b) _)).mono ?_
  rintro en w7 ⟨rfl, hx7⟩
  rw [show ovT (suT g h c d) (suB g h c d) (suT e f a b) (suB e f a b) = ltUT a b c d e f g h from rfl, show ovB (suT g h c d) (suB g h c d) (suT e f a b) (suB e f a b) = ltUB a b c d e f g h from rfl, show ovOk (suT g h c d) (suB g h c d) (suT e f a b) (suB e f a b) = ltUOk a b c d e f g h from rfl]
  have q189 : Ext w6 w7 := ext_trans (ext_alloc (ext_refl _) _) hx7
  have y190 : w.heap.size < w7.heap.size := Nat.lt_of_lt_of_le y156 q189.size
  have y191 : w.heap.size + 1 < w7.heap.size := Nat.lt_of_lt_of_le y157 q189.size
  have y192 : w.heap.size + 1 + 1 < w7.heap.size := Nat.lt_of_lt_of_le y158 q189.size
  have y193 : w.heap.size + 1 + 1 + 1 < w7.heap.size := Nat.lt_of_lt_of_le y159 q189.size
  have y194 : w.heap.size + 1 + 1 + 1 + 1 < w7.heap.size := Nat.lt_of_lt_of_le y160 q189.size
  have y195 : w.heap.size + 1 + 1 + 1 + 1 + 1 < w7.heap.size := Nat.lt_of_lt_of_le y161 q189.size
  have y196 : w5.heap.size < w7.heap.size := Nat.lt_of_lt_of_le y186 q189.size
  have k197 := ext_cell q189 k162
  have k198 := ext_cell q189 k163
  have k199 := ext_cell q189 k164
  have k200 := ext_cell q189 k165
  have k201 := ext_cell q189 k166
  have k202 := ext_cell q189 k167
  have k203 := ext_cell q189 k168
  have k204 := ext_cell q189 k169
  have k205 := ext_cell q189 k170
  have k206 := ext_cell q189 k171
  have k207 := ext_cell q189 k172
  have k208 := ext_cell q189 k173
  have k209 := ext_cell q189 k174
  have k210 := ext_cell q189 k175
  have k211 := ext_cell q189 k176
  have k212 := ext_cell q189 k177
  have k213 := ext_cell q189 k178
  have k214 := ext_cell q189 k179
  have k215 := ext_cell q189 k180
  have k216 := ext_cell q189 k181
  have k217 := ext_cell q189 k187
  have k218 := ext_cell q189 k188
  have f219 : w7.frozen? ⟨w.heap.size + 1 + 1 + 1 + 1, 0, none⟩ = false := (q189.frozen (p := ⟨w.heap.size + 1 + 1 + 1 + 1, 0, none⟩) y160).trans f182
  have f220 : w7.frozen? ⟨w.heap.size + 1 + 1 + 1 + 1, 1, none⟩ = false := (q189.frozen (p := ⟨w.heap.size + 1 + 1 + 1 + 1, 1, none⟩) y160).trans f183
  have f221 : w7.frozen? ⟨w.heap.size + 1 + 1 + 1 + 1, 2, none⟩ = false := (q189.frozen (p := ⟨w.heap.size + 1 + 1 + 1 + 1, 2, none⟩) y160).trans f184
  have f222 : w7.frozen? ⟨w.heap.size + 1 + 1 + 1 + 1, 3, none⟩ = false := (q189.frozen (p := ⟨w.heap.size + 1 + 1 + 1 + 1, 3, none⟩) y160).trans f185
  clear k162 k163 k164 k165 k166 k167 k168 k169 k170 k171 k172 k173 k174 k175 k176 k177 k178 k179 k180 k181 k187 k188 y156 y157 y158 y159 y160 y161 y186 f182 f183 f184 f185
  have y223 : w6.heap.size < w7.heap.size := by have q := ext_size hx7; simp at q; omega
  have k224 := ext_cell hx7 (b := w6.heap.size) (off := 0) (v := .int .i64 (suT g h c d)) (by go_simp)
  have k225 := ext_cell hx7 (b := w6.heap.size) (off := 1) (v := .int .i64 (suB g h c d)) (by go_simp)
  go_wp2_with fail
  refine ((impl_TimesFractions (ltUT a b c d e f g h) (ltUB a b c d e f g h) a b _)).mono ?_
  rintro en w8 ⟨rfl, hx8⟩
  rw [show timT (ltUT a b c d e f g h) (ltUB a b c d e f g h) a b = ltPT a b c d e f g h from rfl, show timB (ltUT a b c d e f g h) (ltUB a b c d e f g h) a b = ltPB a b c d e f g h from rfl, show timOk (ltUT a b c d e f g h) (ltUB a b c d e f g h) a b = ltPOk a b c d e f g h from rfl]
  have q226 : Ext w7 w8 := ext_trans (ext_alloc (ext_refl _) _) hx8
  have y227 : w.heap.size < w8.heap.size := Nat.lt_of_lt_of_le y190 q226.size
  have y228 : w.heap.size + 1 < w8.heap.size := Nat.lt_of_lt_of_le y191 q226.size
  have y229 : w.heap.size + 1 + 1 < w8.heap.size := Nat.lt_of_lt_of_le y192 q226.size
  have y230 : w.heap.size + 1 + 1 + 1 < w8.heap.size := Nat.lt_of_lt_of_le y193 q226.size
  have y231 : w.heap.size + 1 + 1 + 1 + 1 < w8.heap.size := Nat.lt_of_lt_of_le y194 q226.size
  have y232 : w.heap.size + 1 + 1 + 1 + 1 + 1 < w8.heap.size := Nat.lt_of_lt_of_le y195 q226.size
  have y233 : w5.heap.size < w8.heap.size := Nat.lt_of_lt_of_le y196 q226.size
  have y234 : w6.heap.size < w8.heap.size := Nat.lt_of_lt_of_le y223 q226.size
  have k235 := ext_cell q226 k197
  have k236 := ext_cell q226 k198
  have k237 := ext_cell q226 k199
  have k238 := ext_cell q226 k200
  have k239 := ext_cell q226 k201
  have k240 := ext_cell q226 k202
  have k241 := ext_cell q226 k203
  have k242 := ext_cell q226 k204
  have k243 := ext_cell q226 k205
  have k244 := ext_cell q226 k206
  have k245 := ext_cell q226 k207
  have k246 := ext_cell q226 k208
  have k247 := ext_cell q226 k209
  have k248 := ext_cell q226 k210
  have k249 := ext_cell q226 k211
  have k250 := ext_cell q226 k212
  have k251 := ext_cell q226 k213
  have k252 := ext_cell q226 k214
  have k253 := ext_cell q226 k215
  have k254 := ext_cell q226 k216
  have k255 := ext_cell q226 k217
  have k256 := ext_cell q226 k218
  have k257 := ext_cell q226 k224
  have k258 := ext_cell q226 k225
  have f259 : w8.frozen? ⟨w.heap.size + 1 + 1 + 1 + 1, 0, none⟩ = false := (q226.frozen (p := ⟨w.heap.size + 1 + 1 + 1 + 1, 0, none⟩) y194).trans f219
  have f260 : w8.frozen? ⟨w.heap.size + 1 + 1 + 1 + 1, 1, none⟩ = false := (q226.frozen (p := ⟨w.heap.size + 1 + 1 + 1 + 1, 1, none⟩) y194).trans f220
  have f261 : w8.frozen? ⟨w.heap.size + 1 + 1 + 1 + 1, 2, none⟩ = false := (q226.frozen (p := ⟨w.heap.size + 1 + 1 + 1 + 1, 2, none⟩) y194).trans f221
  have f262 : w8.frozen? ⟨w.heap.size + 1 + 1 + 1 + 1, 3, none⟩ = false := (q226.frozen (p := ⟨w.heap.size + 1 + 1 + 1 + 1, 3, none⟩) y194).trans f222
  clear k197 k198 k199 k200 k201 k202 k203 k204 k205 k206 k207 k208 k209 k210 k211 k212 k213 k214 k215 k216 k217 k218 k224 k225 y190 y191 y192 y193 y194 y195 y196 y223 f219 f220 f221 f222
  have y263 : w7.heap.size < w8.heap.size := by have q := ext_size hx8; simp at q; omega
  have k264 := ext_cell hx8 (b := w7.heap.size) (off := 0) (v := .int .i64 (ltUT a b c d e f g h)) (by go_simp)
  have k265 := ext_cell hx8 (b := w7.heap.size) (off := 1) (v := .int .i64 (ltUB a b c d e f g h)) (by go_simp)
  go_wp2_with fail
  refine ((impl_minus' c d (ltPT a b c d e f g h) (ltPB a b c d e f g h) _)).mono ?_
  rintro en w9 ⟨rfl, hx9⟩
  rw [show suT c d (ltPT a b c d e f g h) (ltPB a b c d e f g h) = ltZT a b c d e f g h from rfl, show suB c d (ltPT a b c d e f g h) (ltPB a b c d e f g h) = ltZB a b c d e f g h from rfl, show suOk c d (ltPT a b c d e f g h) (ltPB a b c d e f g h) = ltZOk a b c d e f g h from rfl]
  have q266 : Ext w8 w9 := ext_trans (ext_alloc (ext_refl _) _) hx9
  have y267 : w.heap.size < w9.heap.size := Nat.lt_of_lt_of_le y227 q266.size
  have y268 : w.heap.size + 1 < w9.heap.size := Nat.lt_of_lt_of_le y228 q266.size
  have y269 : w.heap.size + 1 + 1 < w9.heap.size := Nat.lt_of_lt_of_le y229 q266.size
  have y270 : w.heap.size + 1 + 1 + 1 < w9.heap.size := Nat.lt_of_lt_of_le y230 q266.size
  have y271 : w.heap.size + 1 + 1 + 1 + 1 < w9.heap.size := Nat.lt_of_lt_of_le y231 q266.size
  have y272 : w.heap.size + 1 + 1 + 1 + 1 + 1 < w9.heap.size := Nat.lt_of_lt_of_le y232 q266.size
  have y273 : w5.heap.size < w9.heap.size := Nat.lt_of_lt_of_le y233 q266.size
  have y274 : w6.heap.size < w9.heap.size := Nat.lt_of_lt_of_le y234 q266.size
  have y275 : w7.heap.size < w9.heap.size := Nat.lt_of_lt_of_le y263 q266.size
  have k276 := ext_cell q266 k235
  have k277 := ext_cell q266 k236
  have k278 := ext_cell q266 k237
  have k279 := ext_cell q266 k238
  have k280 := ext_cell q266 k239
  have k281 := ext_cell q266 k240
  have k282 := ext_cell q266 k241
  have k283 := ext_cell q266 k242
  have k284 := ext_cell q266 k243
  have k285 := ext_cell q266 k244
  have k286 := ext_cell q266 k245
  have k287 := ext_cell q266 k246
  have k288 := ext_cell q266 k247
  have k289 := ext_cell q266 k248
  have k290 := ext_cell q266 k249
  have k291 := ext_cell q266 k250
  have k292 := ext_cell q266 k251
  have k293 := ext_cell q266 k252
  have k294 := ext_cell q266 k253
  have k295 := ext_cell q266 k254
  have k296 := ext_cell q266 k255
  have k297 := ext_cell q266 k256
  have k298 := ext_cell q266 k257
  have k299 := ext_cell q266 k258
  have k300 := ext_cell q266 k264
  have k301 := ext_cell q266 k265
  have f302 : w9.frozen? ⟨w.heap.size + 1 + 1 + 1 + 1, 0, none⟩ = false := (q266.frozen (p := ⟨w.heap.size + 1 + 1 + 1 + 1, 0, none⟩) y231).trans f259
  have f303 : w9.frozen? ⟨w.heap.size + 1 + 1 + 1 + 1, 1, none⟩ = false := (q266.frozen (p := ⟨w.heap.size + 1 + 1 + 1 + 1, 1, none⟩) y231).trans f260
  have f304 : w9.frozen? ⟨w.heap.size + 1 + 1 + 1 + 1, 2, none⟩ = false := (q266.frozen (p := ⟨w.heap.size + 1 + 1 + 1 + 1, 2, none⟩) y231).trans f261
  have f305 : w9.frozen? ⟨w.heap.size + 1 + 1 + 1 + 1, 3, none⟩ = false := (q266.frozen (p := ⟨w.heap.size + 1 + 1 + 1 + 1, 3, none⟩) y231).trans f262
  clear k235 k236 k237 k238 k239 k240 k241 k242 k243 k244 k245 k246 k247 k248 k249 k250 k251 k252 k253 k254 k255 k256 k257 k258 k264 k265 y227 y228 y229 y230 y231 y232 y233 y234 y263 f259 f260 f261 f262
  have y306 : w8.heap.size < w9.heap.size := by have q := ext_size hx9; simp at q; omega
  have k307 := ext_cell hx9 (b := w8.heap.size) (off := 0) (v := .int .i64 (ltPT a b c d e f g h)) (by go_simp)
  have k308 := ext_cell hx9 (b := w8.heap.size) (off := 1) (v := .int .i64 (ltPB a b c d e f g h)) (by go_simp)
  go_wp2_with fail
  have hye : w.heap.size + 1 + 1 + 1 + 1 < w9.heap.size + 1 := by omega
  exact bodyPost_ret (v := .tuple #[lineV (0) (0) (0) (0), .bool false]) (by simp [results, Try.results28, go_sem, k284, k285, k286, k287, y271, hye]) rfl ⟨rfl, (by repeat (first | (with_reducible exact ext_refl _) | (with_reducible refine ext_setCell ?_ ?_ _) | (with_reducible refine ext_alloc ?_ _) | (with_reducible refine ext_drewN ?_ _) | (with_reducible refine ext_drew ?_) | (with_reducible refine ext_trans ?_ (by assumption)) | (dsimp only; omega) | omega | (simp; omega)))⟩
set_option maxHeartbeats 6400000 in
theorem impl_LT_d2c4 (a b c d e f g h : Int) (w : World) (h0 : fracOk a b = true) (h1 : fracOk c d = true) (h2 : fracOk e f = true) (h3 : fracOk g h = true) (h4 : ¬ a = e) (q0 : suOk e f a b = true) (q1 : suOk g h c d = true) (q2 : ltUOk a b c d e f g h = true) (q3 : ltPOk a b c d e f g h = true) (q4 : ltZOk a b c d e f g h = false) :
    Calls Try.prog 28 #[.agg #[.int .i64 a, .int .i64 b], .agg #[.int .i64 c, .int .i64 d], .agg #[.int .i64 e, .int .i64 f], .agg #[.int .i64 g, .int .i64 h]] w fun en w' => en = lineR 0 0 0 0 false ∧ Ext w w' := by
  go_enter Try.func28, Try.ntmps28
  go_wp2_with fail
  refine wp_loop_rounds 5 ?_
  rw [rounds_succ]
  go_wp2_with fail
  refine (impl_FractionOk _ _ _).mono ?_
  rintro en w1 ⟨rfl, hx1⟩
  have y1 : w.heap.size < w1.heap.size := by have := hx1.size; simp at this; omega
  have k2 := ext_cell hx1 (b := w.heap.size) (off := 0) (v := .int .i64 (a)) (by go_simp)
  have k3 := ext_cell hx1 (b := w.heap.size) (off := 1) (v := .int .i64 (b)) (by go_simp)
  have y4 : w.heap.size + 1 < w1.heap.size := by have := hx1.size; simp at this; omega
  have k5 := ext_cell hx1 (b := w.heap.size + 1) (off := 0) (v := .int .i64 (c)) (by go_simp)
  have k6 := ext_cell hx1 (b := w.heap.size + 1) (off := 1) (v := .int .i64 (d)) (by go_simp)
  have y7 : w.heap.size + 1 + 1 < w1.heap.size := by have := hx1.size; simp at this; omega
  have k8 := ext_cell hx1 (b := w.heap.size + 1 + 1) (off := 0) (v := .int .i64 (e)) (by go_simp)
  have k9 := ext_cell hx1 (b := w.heap.size + 1 + 1) (off := 1) (v := .int .i64 (f)) (by go_simp)
  have y10 : w.heap.size + 1 + 1 + 1 < w1.heap.size := by have := hx1.size; simp at this; omega
  have k11 := ext_cell hx1 (b := w.heap.size + 1 + 1 + 1) (off := 0) (v := .int .i64 (g)) (by go_simp)
  have k12 := ext_cell hx1 (b := w.heap.size + 1 + 1 + 1) (off := 1) (v := .int .i64 (h)) (by go_simp)
  have y13 : w.heap.size + 1 + 1 + 1 + 1 < w1.heap.size := by have := hx1.size; simp at this; omega
  have k14 := ext_cell hx1 (b := w.heap.size + 1 + 1 + 1 + 1) (off := 0) (v := .int .i64 (0)) (by go_simp)
  have k15 := ext_cell hx1 (b := w.heap.size + 1 + 1 + 1 + 1) (off := 1) (v := .int .i64 (0)) (by go_simp)
  have k16 := ext_cell hx1 (b := w.heap.size + 1 + 1 + 1 + 1) (off := 2) (v := .int .i64 (0)) (by go_simp)
  have k17 := ext_cell hx1 (b := w.heap.size + 1 + 1 + 1 + 1) (off := 3) (v := .int .i64 (0)) (by go_simp)
  have f18 : w1.frozen? ⟨w.heap.size + 1 + 1 + 1 + 1, 0, none⟩ = false := by rw [hx1.frozen (p := ⟨w.heap.size + 1 + 1 + 1 + 1, 0, none⟩) (by simp; try omega)]; go_simp
  have f19 : w1.frozen? ⟨w.heap.size + 1 + 1 + 1 + 1, 1, none⟩ = false := by rw [hx1.frozen (p := ⟨w.heap.size + 1 + 1 + 1 + 1, 1, none⟩) (by simp; try omega)]; go_simp
  have f20 : w1.frozen? ⟨w.heap.size + 1 + 1 + 1 + 1, 2, none⟩ = false := by rw [hx1.frozen (p := ⟨w.heap.size + 1 + 1 + 1 + 1, 2, none⟩) (by simp; try omega)]; go_simp
  have f21 : w1.frozen? ⟨w.heap.size + 1 + 1 + 1 + 1, 3, none⟩ = false := by rw [hx1.frozen (p := ⟨w.heap.size + 1 + 1 + 1 + 1, 3, none⟩) (by simp; try omega)]; go_simp
  have y22 : w.heap.size + 1 + 1 + 1 + 1 + 1 < w1.heap.size := by have := hx1.size; simp at this; omega
  have k23 := ext_cell hx1 (b := w.heap.size + 1 + 1 + 1 + 1 + 1) (off := 0) (v := .int .i64 (a)) (by go_simp)
  have k24 := ext_cell hx1 (b := w.heap.size + 1 + 1 + 1 + 1 + 1) (off := 1) (v := .int .i64 (b)) (by go_simp)
  have k25 := ext_cell hx1 (b := w.heap.size + 1 + 1 + 1 + 1 + 1) (off := 2) (v := .int .i64 (c)) (by go_simp)
  have k26 := ext_cell hx1 (b := w.heap.size + 1 + 1 + 1 + 1 + 1) (off := 3) (v := .int .i64 (d)) (by go_simp)
  have k27 := ext_cell hx1 (b := w.heap.size + 1 + 1 + 1 + 1 + 1) (off := 4) (v := .int .i64 (e)) (by go_simp)
  have k28 := ext_cell hx1 (b := w.heap.size + 1 + 1 + 1 + 1 + 1) (off := 5) (v := .int .i64 (f)) (by go_simp)
  have k29 := ext_cell hx1 (b := w.heap.size + 1 + 1 + 1 + 1 + 1) (off := 6) (v := .int .i64 (g)) (by go_simp)
  have k30 := ext_cell hx1 (b := w.heap.size + 1 + 1 + 1 + 1 + 1) (off := 7) (v := .int .i64 (h)) (by go_simp)
  go_wp2_with fail
  rw [rounds_succ]
  go_wp2_with fail
  refine (impl_FractionOk _ _ _).mono ?_
  rintro en w2 ⟨rfl, hx2⟩
  have q31 : Ext w1 w2 := ext_trans (ext_alloc (ext_refl _) _) hx2
  have y32 : w.heap.size < w2.heap.size := Nat.lt_of_lt_of_le y1 q31.size
  have y33 : w.heap.size + 1 < w2.heap.size := Nat.lt_of_lt_of_le y4 q31.size
  have y34 : w.heap.size + 1 + 1 < w2.heap.size := Nat.lt_of_lt_of_le y7 q31.size
  have y35 : w.heap.size + 1 + 1 + 1 < w2.heap.size := Nat.lt_of_lt_of_le y10 q31.size
  have y36 : w.heap.size + 1 + 1 + 1 + 1 < w2.heap.size := Nat.lt_of_lt_of_le y13 q31.size
  have y37 : w.heap.size + 1 + 1 + 1 + 1 + 1 < w2.heap.size := Nat.lt_of_lt_of_le y22 q31.size
  have k38 := ext_cell q31 k2
  have k39 := ext_cell q31 k3
  have k40 := ext_cell q31 k5
  have k41 := ext_cell q31 k6
  have k42 := ext_cell q31 k8
  have k43 := ext_cell q31 k9
  have k44 := ext_cell q31 k11
  have k45 := ext_cell q31 k12
  have k46 := ext_cell q31 k14
  have k47 := ext_cell q31 k15
  have k48 := ext_cell q31 k16
  have k49 := ext_cell q31 k17
  have k50 := ext_cell q31 k23
  have k51 := ext_cell q31 k24
  have k52 := ext_cell q31 k25
  have k53 := ext_cell q31 k26
  have k54 := ext_cell q31 k27
  have k55 := ext_cell q31 k28
  have k56 := ext_cell q31 k29
  have k57 := ext_cell q31 k30
  have f58 : w2.frozen? ⟨w.heap.size + 1 + 1 + 1 + 1, 0, none⟩ = false := (q31.frozen (p := ⟨w.heap.size + 1 + 1 + 1 + 1, 0, none⟩) y13).trans f18
  have f59 : w2.frozen? ⟨w.heap.size + 1 + 1 + 1 + 1, 1, none⟩ = false := (q31.frozen (p := ⟨w.heap.size + 1 + 1 + 1 + 1, 1, none⟩) y13).trans f19
  have f60 : w2.frozen? ⟨w.heap.size + 1 + 1 + 1 + 1, 2, none⟩ = false := (q31.frozen (p := ⟨w.heap.size + 1 + 1 + 1 + 1, 2, none⟩) y13).trans f20
  have f61 : w2.frozen? ⟨w.heap.size + 1 + 1 + 1 + 1, 3, none⟩ = false := (q31.frozen (p := ⟨w.heap.size + 1 + 1 + 1 + 1, 3, none⟩) y13).trans f21
  clear k2 k3 k5 k6 k8 k9 k11 k12 k14 k15 k16 k17 k23 k24 k25 k26 k27 k28 k29 k30 y1 y4 y7 y10 y13 y22 f18 f19 f20 f21
  go_wp2_with fail
  rw [rounds_succ]
  go_wp2_with fail
  refine (impl_FractionOk _ _ _).mono ?_
  rintro en w3 ⟨rfl, hx3⟩
  have q62 : Ext w2 w3 := ext_trans (ext_alloc (ext_refl _) _) hx3
  have y63 : w.heap.size < w3.heap.size := Nat.lt_of_lt_of_le y32 q62.size
  have y64 : w.heap.size + 1 < w3.heap.size := Nat.lt_of_lt_of_le y33 q62.size
  have y65 : w.heap.size + 1 + 1 < w3.heap.size := Nat.lt_of_lt_of_le y34 q62.size
  have y66 : w.heap.size + 1 + 1 + 1 < w3.heap.size := Nat.lt_of_lt_of_le y35 q62.size
  have y67 : w.heap.size + 1 + 1 + 1 + 1 < w3.heap.size := Nat.lt_of_lt_of_le y36 q62.size
  have y68 : w.heap.size + 1 + 1 + 1 + 1 + 1 < w3.heap.size := Nat.lt_of_lt_of_le y37 q62.size
  have k69 := ext_cell q62 k38
  have k70 := ext_cell q62 k39
  have k71 := ext_cell q62 k40
  have k72 := ext_cell q62 k41
  have k73 := ext_cell q62 k42
  have k74 := ext_cell q62 k43
  have k75 := ext_cell q62 k44
  have k76 := ext_cell q62 k45
  have k77 := ext_cell q62 k46
  have k78 := ext_cell q62 k47
  have k79 := ext_cell q62 k48
  have k80 := ext_cell q62 k49
  have k81 := ext_cell q62 k50
  have k82 := ext_cell q62 k51
  have k83 := ext_cell q62 k52
  have k84 := ext_cell q62 k53
  have k85 := ext_cell q62 k54
  have k86 := ext_cell q62 k55
  have k87 := ext_cell q62 k56
  have k88 := ext_cell q62 k57
  have f89 : w3.frozen? ⟨w.heap.size + 1 + 1 + 1 + 1, 0, none⟩ = false := (q62.frozen (p := ⟨w.heap.size + 1 + 1 + 1 + 1, 0, none⟩) y36).trans f58
  have f90 : w3.frozen? ⟨w.heap.size + 1 + 1 + 1 + 1, 1, none⟩ = false := (q62.frozen (p := ⟨w.heap.size + 1 + 1 + 1 + 1, 1, none⟩) y36).trans f59
  have f91 : w3.frozen? ⟨w.heap.size + 1 + 1 + 1 + 1, 2, none⟩ = false := (q62.frozen (p := ⟨w.heap.size + 1 + 1 + 1 + 1, 2, none⟩) y36).trans f60
  have f92 : w3.frozen? ⟨w.heap.size + 1 + 1 + 1 + 1, 3, none⟩ = false := (q62.frozen (p := ⟨w.heap.size + 1 + 1 + 1 + 1, 3, none⟩) y36).trans f61
  clear k38 k39 k40 k41 k42 k43 k44 k45 k46 k47 k48 k49 k50 k51 k52 k53 k54 k55 k56 k57 y32 y33 y34 y35 y36 y37 f58 f59 f60 f61
  go_wp2_with fail
  rw [rounds_succ]
  go_wp2_with fail
  refine (impl_FractionOk _ _ _).mono ?_
  rintro en w4 ⟨rfl, hx4⟩
  have q93 : Ext w3 w4 := ext_trans (ext_alloc (ext_refl _) _) hx4
  have y94 : w.heap.size < w4.heap.size := Nat.lt_of_lt_of_le y63 q93.size
  have y95 : w.heap.size + 1 < w4.heap.size := Nat.lt_of_lt_of_le y64 q93.size
  have y96 : w.heap.size + 1 + 1 < w4.heap.size := Nat.lt_of_lt_of_le y65 q93.size
  have y97 : w.heap.size + 1 + 1 + 1 < w4.heap.size := Nat.lt_of_lt_of_le y66 q93.size
  have y98 : w.heap.size + 1 + 1 + 1 + 1 < w4.heap.size := Nat.lt_of_lt_of_le y67 q93.size
  have y99 : w.heap.size + 1 + 1 + 1 + 1 + 1 < w4.heap.size := Nat.lt_of_lt_of_le y68 q93.size
  have k100 := ext_cell q93 k69
  have k101 := ext_cell q93 k70
  have k102 := ext_cell q93 k71
  have k103 := ext_cell q93 k72
  have k104 := ext_cell q93 k73
  have k105 := ext_cell q93 k74
  have k106 := ext_cell q93 k75
  have k107 := ext_cell q93 k76
  have k108 := ext_cell q93 k77
  have k109 := ext_cell q93 k78
  have k110 := ext_cell q93 k79
  have k111 := ext_cell q93 k80
  have k112 := ext_cell q93 k81
  have k113 := ext_cell q93 k82
  have k114 := ext_cell q93 k83
  have k115 := ext_cell q93 k84
  have k116 := ext_cell q93 k85
  have k117 := ext_cell q93 k86
  have k118 := ext_cell q93 k87
  have k119 := ext_cell q93 k88
  have f120 : w4.frozen? ⟨w.heap.size + 1 + 1 + 1 + 1, 0, none⟩ = false := (q93.frozen (p := ⟨w.heap.size + 1 + 1 + 1 + 1, 0, none⟩) y67).trans f89
  have f121 : w4.frozen? ⟨w.heap.size + 1 + 1 + 1 + 1, 1, none⟩ = false := (q93.frozen (p := ⟨w.heap.size + 1 + 1 + 1 + 1, 1, none⟩) y67).trans f90
  have f122 : w4.frozen? ⟨w.heap.size + 1 + 1 + 1 + 1, 2, none⟩ = false := (q93.frozen (p := ⟨w.heap.size + 1 + 1 + 1 + 1, 2, none⟩) y67).trans f91
  have f123 : w4.frozen? ⟨w.heap.size + 1 + 1 + 1 + 1, 3, none⟩ = false := (q93.frozen (p := ⟨w.heap.size + 1 + 1 + 1 + 1, 3, none⟩) y67).trans f92
  clear k69 k70 k71 k72 k73 k74 k75 k76 k77 k78 k79 k80 k81 k82 k83 k84 k85 k86 k87 k88 y63 y64 y65 y66 y67 y68 f89 f90 f91 f92
  go_wp2_with fail
  rw [rounds_succ]
  go_wp2_with fail
  refine ((impl_minus' e f a b _)).mono ?_
  rintro en w5 ⟨rfl, hx5⟩
  have q124 : Ext w4 w5 := hx5
  have y125 : w.heap.size < w5.heap.size := Nat.lt_of_lt_of_le y94 q124.size
  have y126 : w.heap.size + 1 < w5.heap.size := Nat.lt_of_lt_of_le y95 q124.size
  have y127 : w.heap.size + 1 + 1 < w5.heap.size := Nat.lt_of_lt_of_le y96 q124.size
  have y128 : w.heap.size + 1 + 1 + 1 < w5.heap.size := Nat.lt_of_lt_of_le y97 q124.size
  have y129 : w.heap.size + 1 + 1 + 1 + 1 < w5.heap.size := Nat.lt_of_lt_of_le y98 q124.size
  have y130 : w.heap.size + 1 + 1 + 1 + 1 + 1 < w5.heap.size := Nat.lt_of_lt_of_le y99 q124.size
  have k131 := ext_cell q124 k100
  have k132 := ext_cell q124 k101
  have k133 := ext_cell q124 k102
  have k134 := ext_cell q124 k103
  have k135 := ext_cell q124 k104
  have k136 := ext_cell q124 k105
  have k137 := ext_cell q124 k106
  have k138 := ext_cell q124 k107
  have k139 := ext_cell q124 k108
  have k140 := ext_cell q124 k109
  have k141 := ext_cell q124 k110
  have k142 := ext_cell q124 k111
  have k143 := ext_cell q124 k112
  have k144 := ext_cell q124 k113
  have k145 := ext_cell q124 k114
  have k146 := ext_cell q124 k115
  have k147 := ext_cell q124 k116
  have k148 := ext_cell q124 k117
  have k149 := ext_cell q124 k118
  have k150 := ext_cell q124 k119
  have f151 : w5.frozen? ⟨w.heap.size + 1 + 1 + 1 + 1, 0, none⟩ = false := (q124.frozen (p := ⟨w.heap.size + 1 + 1 + 1 + 1, 0, none⟩) y98).trans f120
  have f152 : w5.frozen? ⟨w.heap.size + 1 + 1 + 1 + 1, 1, none⟩ = false := (q124.frozen (p := ⟨w.heap.size + 1 + 1 + 1 + 1, 1, none⟩) y98).trans f121
  have f153 : w5.frozen? ⟨w.heap.size + 1 + 1 + 1 + 1, 2, none⟩ = false := (q124.frozen (p := ⟨w.heap.size + 1 + 1 + 1 + 1, 2, none⟩) y98).trans f122
  have f154 : w5.frozen? ⟨w.heap.size + 1 + 1 + 1 + 1, 3, none⟩ = false := (q124.frozen (p := ⟨w.heap.size + 1 + 1 + 1 + 1, 3, none⟩) y98).trans f123
  clear k100 k101 k102 k103 k104 k105 k106 k107 k108 k109 k110 k111 k112 k113 k114 k115 k116 k117 k118 k119 y94 y95 y96 y97 y98 y99 f120 f121 f122 f123
  go_wp2_with fail
  refine ((impl_minus' g h c d _)).mono ?_
  rintro en w6 ⟨rfl, hx6⟩
  have q155 : Ext w5 w6 := ext_trans (ext_alloc (ext_refl _) _) hx6
  have y156 : w.heap.size < w6.heap.size := Nat.lt_of_lt_of_le y125 q155.size
  have y157 : w.heap.size + 1 < w6.heap.size := Nat.lt_of_lt_of_le y126 q155.size
  have y158 : w.heap.size + 1 + 1 < w6.heap.size := Nat.lt_of_lt_of_le y127 q155.size
  have y159 : w.heap.size + 1 + 1 + 1 < w6.heap.size := Nat.lt_of_lt_of_le y128 q155.size
  have y160 : w.heap.size + 1 + 1 + 1 + 1 < w6.heap.size := Nat.lt_of_lt_of_le y129 q155.size
  have y161 : w.heap.size + 1 + 1 + 1 + 1 + 1 < w6.heap.size := Nat.lt_of_lt_of_le y130 q155.size
  have k162 := ext_cell q155 k131
  have k163 := ext_cell q155 k132
  have k164 := ext_cell q155 k133
  have k165 := ext_cell q155 k134
  have k166 := ext_cell q155 k135
  have k167 := ext_cell q155 k136
  have k168 := ext_cell q155 k137
  have k169 := ext_cell q155 k138
  have k170 := ext_cell q155 k139
  have k171 := ext_cell q155 k140
  have k172 := ext_cell q155 k141
  have k173 := ext_cell q155 k142
  have k174 := ext_cell q155 k143
  have k175 := ext_cell q155 k144
  have k176 := ext_cell q155 k145
  have k177 := ext_cell q155 k146
  have k178 := ext_cell q155 k147
  have k179 := ext_cell q155 k148
  have k180 := ext_cell q155 k149
  have k181 := ext_cell q155 k150
  have f182 : w6.frozen? ⟨w.heap.size + 1 + 1 + 1 + 1, 0, none⟩ = false := (q155.frozen (p := ⟨w.heap.size + 1 + 1 + 1 + 1, 0, none⟩) y129).trans f151
  have f183 : w6.frozen? ⟨w.heap.size + 1 + 1 + 1 + 1, 1, none⟩ = false := (q155.frozen (p := ⟨w.heap.size + 1 + 1 + 1 + 1, 1, none⟩) y129).trans f152
  have f184 : w6.frozen? ⟨w.heap.size + 1 + 1 + 1 + 1, 2, none⟩ = false := (q155.frozen (p := ⟨w.heap.size + 1 + 1 + 1 + 1, 2, none⟩) y129).trans f153
  have f185 : w6.frozen? ⟨w.heap.size + 1 + 1 + 1 + 1, 3, none⟩ = false := (q155.frozen (p := ⟨w.heap.size + 1 + 1 + 1 + 1, 3, none⟩) y129).trans f154
  clear k131 k132 k133 k134 k135 k136 k137 k138 k139 k140 k141 k142 k143 k144 k145 k146 k147 k148 k149 k150 y125 y126 y127 y128 y129 y130 f151 f152 f153 f154
  have y186 : w5.heap.size < w6.heap.size := by have q := ext_size hx6; simp at q; omega
  have k187 := ext_cell hx6 (b := w5.heap.size) (off := 0) (v := .int .i64 (suT e f a b)) (by go_simp)
  have k188 := ext_cell hx6 (b := w5.heap.size) (off := 1) (v := .int .i64 (suB e f a b)) (by go_simp)
  go_wp2_with fail
  refine ((impl_over (suT g h c d) (suB g h c d) (suT e f a b) (suB e f a b) _)).mono ?_
  rintro en w7 ⟨rfl, hx7⟩
  rw [show ovT (suT g h c d) (suB g h c d) (suT e f a b) (suB e f a b) = ltUT a b c d e f g h from rfl, show ovB (suT g h c d) (suB g h c d) (suT e f a b) (suB e f a b) = ltUB a b c d e f g h from rfl, show ovOk (suT g h c d) (suB g h c d) (suT e f a b) (suB e f a b) = ltUOk a b c d e f g h from rfl]
  have q189 : Ext w6 w7 := ext_trans (ext_alloc (ext_refl _) _) hx7
  have y190 : w.heap.size < w7.heap.size := Nat.lt_of_lt_of_le y156 q189.size
  have y191 : w.heap.size + 1 < w7.heap.size := Nat.lt_of_lt_of_le y157 q189.size
  have y192 : w.heap.size + 1 + 1 < w7.heap.size := Nat.lt_of_lt_of_le y158 q189.size
  have y193 : w.heap.size + 1 + 1 + 1 < w7.heap.size := Nat.lt_of_lt_of_le y159 q189.size
  have y194 : w.heap.size + 1 + 1 + 1 + 1 < w7.heap.size := Nat.lt_of_lt_of_le y160 q189.size
  have y195 : w.heap.size + 1 + 1 + 1 + 1 + 1 < w7.heap.size := Nat.lt_of_lt_of_le y161 q189.size
  have y196 : w5.heap.size < w7.heap.size := Nat.lt_of_lt_of_le y186 q189.size
  have k197 := ext_cell q189 k162
  have k198 := ext_cell q189 k163
  have k199 := ext_cell q189 k164
  have k200 := ext_cell q189 k165
  have k201 := ext_cell q189 k166
  have k202 := ext_cell q189 k167
  have k203 := ext_cell q189 k168
  have k204 := ext_cell q189 k169
  have k205 := ext_cell q189 k170
  have k206 := ext_cell q189 k171
  have k207 := ext_cell q189 k172
  have k208 := ext_cell q189 k173
  have k209 := ext_cell q189 k174
  have k210 := ext_cell q189 k175
  have k211 := ext_cell q189 k176
  have k212 := ext_cell q189 k177
  have k213 := ext_cell q189 k178
  have k214 := ext_cell q189 k179
  have k215 := ext_cell q189 k180
  have k216 := ext_cell q189 k181
  have k217 := ext_cell q189 k187
  have k218 := ext_cell q189 k188
  have f219 : w7.frozen? ⟨w.heap.size + 1 + 1 + 1 + 1, 0, none⟩ = false := (q189.frozen (p := ⟨w.heap.size + 1 + 1 + 1 + 1, 0, none⟩) y160).trans f182
  have f220 : w7.frozen? ⟨w.heap.size + 1 + 1 + 1 + 1, 1, none⟩ = false := (q189.frozen (p := ⟨w.heap.size + 1 + 1 + 1 + 1, 1, none⟩) y160).trans f183
  have f221 : w7.frozen? ⟨w.heap.size + 1 + 1 + 1 + 1, 2, none⟩ = false := (q189.frozen (p := ⟨w.heap.size + 1 + 1 + 1 + 1, 2, none⟩) y160).trans f184
  have f222 : w7.frozen? ⟨w.heap.size + 1 + 1 + 1 + 1, 3, none⟩ = false := (q189.frozen (p := ⟨w.heap.size + 1 + 1 + 1 + 1, 3, none⟩) y160).trans f185
  clear k162 k163 k164 k165 k166 k167 k168 k169 k170 k171 k172 k173 k174 k175 k176 k177 k178 k179 k180 k181 k187 k188 y156 y157 y158 y159 y160 y161 y186 f182 f183 f184 f185
  have y223 : w6.heap.size < w7.heap.size := by have q := ext_size hx7; simp at q; omega
  have k224 := ext_cell hx7 (b := w6.heap.size) (off := 0) (v := .int .i64 (suT g h c d)) (by go_simp)
  have k225 := ext_cell hx7 (b := w6.heap.size) (off := 1) (v := .int .i64 (suB g h c d)) (by go_simp)
  go_wp2_with fail
  refine ((impl_TimesFractions (ltUT a b c d e f g h) (ltUB a b c d e f g h) a b _)).mono ?_
  rintro en w8 ⟨rfl, hx8⟩
  rw [show timT (ltUT a b c d e f g h) (ltUB a b c d e f g h) a b = ltPT a b c d e f g h from rfl, show timB (ltUT a b c d e f g h) (ltUB a b c d e f g h) a b = ltPB a b c d e f g h from rfl, show timOk (ltUT a b c d e f g h) (ltUB a b c d e f g h) a b = ltPOk a b c d e f g h from rfl]
  have q226 : Ext w7 w8 := ext_trans (ext_alloc (ext_refl _) _) hx8
  have y227 : w.heap.size < w8.heap.size := Nat.lt_of_lt_of_le y190 q226.size
  have y228 : w.heap.size + 1 < w8.heap.size := Nat.lt_of_lt_of_le y191 q226.size
  have y229 : w.heap.size + 1 + 1 < w8.heap.size := Nat.lt_of_lt_of_le y192 q226.size
  have y230 : w.heap.size + 1 + 1 + 1 < w8.heap.size := Nat.lt_of_lt_of_le y193 q226.size
  have y231 : w.heap.size + 1 + 1 + 1 + 1 < w8.heap.size := Nat.lt_of_lt_of_le y194 q226.size
  have y232 : w.heap.size + 1 + 1 + 1 + 1 + 1 < w8.heap.size := Nat.lt_of_lt_of_le y195 q226.size
  have y233 : w5.heap.size < w8.heap.size := Nat.lt_of_lt_of_le y196 q226.size
  have y234 : w6.heap.size < w8.heap.size := Nat.lt_of_lt_of_le y223 q226.size
  have k235 := ext_cell q226 k197
  have k236 := ext_cell q226 k198
  have k237 := ext_cell q226 k199
  have k238 := ext_cell q226 k200
  have k239 := ext_cell q226 k201
  have k240 := ext_cell q226 k202
  have k241 := ext_cell q226 k203
  have k242 := ext_cell q226 k204
  have k243 := ext_cell q226 k205
  have k244 := ext_cell q226 k206
  have k245 := ext_cell q226 k207
  have k246 := ext_cell q226 k208
  have k247 := ext_cell q226 k209
  have k248 := ext_cell q226 k210
  have k249 := ext_cell q226 k211
  have k250 := ext_cell q226 k212
  have k251 := ext_cell q226 k213
  have k252 := ext_cell q226 k214
  have k253 := ext_cell q226 k215
  have k254 := ext_cell q226 k216
  have k255 := ext_cell q226 k217
  have k256 := ext_cell q226 k218
  have k257 := ext_cell q226 k224
  have k258 := ext_cell q226 k225
  have f259 : w8.frozen? ⟨w.heap.size + 1 + 1 + 1 + 1, 0, none⟩ = false := (q226.frozen (p := ⟨w.heap.size + 1 + 1 + 1 + 1, 0, none⟩) y194).trans f219
  have f260 : w8.frozen? ⟨w.heap.size + 1 + 1 + 1 + 1, 1, none⟩ = false := (q226.frozen (p := ⟨w.heap.size + 1 + 1 + 1 + 1, 1, none⟩) y194).trans f220
  have f261 : w8.frozen? ⟨w.heap.size + 1 + 1 + 1 + 1, 2, none⟩ = false := (q226.frozen (p := ⟨w.heap.size + 1 + 1 + 1 + 1, 2, none⟩) y194).trans f221
  have f262 : w8.frozen? ⟨w.heap.size + 1 + 1 + 1 + 1, 3, none⟩ = false := (q226.frozen (p := ⟨w.heap.size + 1 + 1 + 1 + 1, 3, none⟩) y194).trans f222
  clear k197 k198 k199 k200 k201 k202 k203 k204 k205 k206 k207 k208 k209 k210 k211 k212 k213 k214 k215 k216 k217 k218 k224 k225 y190 y191 y192 y193 y194 y195 y196 y223 f219 f220 f221 f222
  have y263 : w7.heap.size < w8.heap.size := by have q := ext_size hx8; simp at q; omega
  have k264 := ext_cell hx8 (b := w7.heap.size) (off := 0) (v := .int .i64 (ltUT a b c d e f g h)) (by go_simp)
  have k265 := ext_cell hx8 (b := w7.heap.size) (off := 1) (v := .int .i64 (ltUB a b c d e f g h)) (by go_simp)
  go_wp2_with fail
  refine ((impl_minus' c d (ltPT a b c d e f g h) (ltPB a b c d e f g h) _)).mono ?_
  rintro en w9 ⟨rfl, hx9⟩
  rw [show suT c d (ltPT a b c d e f g h) (ltPB a b c d e f g h) = ltZT a b c d e f g h from rfl, show suB c d (ltPT a b c d e f g h) (ltPB a b c d e f g h) = ltZB a b c d e f g h from rfl, show suOk c d (ltPT a b c d e f g h) (ltPB a b c d e f g h) = ltZOk a b c d e f g h from rfl]
  have q266 : Ext w8 w9 := ext_trans (ext_alloc (ext_refl _) _) hx9
  have y267 : w.heap.size < w9.heap.size := Nat.lt_of_lt_of_le y227 q266.size
  have y268 : w.heap.size + 1 < w9.heap.size := Nat.lt_of_lt_of_le y228 q266.size
  have y269 : w.heap.size + 1 + 1 < w9.heap.size := Nat.lt_of_lt_of_le y229 q266.size
  have y270 : w.heap.size + 1 + 1 + 1 < w9.heap.size := Nat.lt_of_lt_of_le y230 q266.size
  have y271 : w.heap.size + 1 + 1 + 1 + 1 < w9.heap.size := Nat.lt_of_lt_of_le y231 q266.size
  have y272 : w.heap.size + 1 + 1 + 1 + 1 + 1 < w9.heap.size := Nat.lt_of_lt_of_le y232 q266.size
  have y273 : w5.heap.size < w9.heap.size := Nat.lt_of_lt_of_le y233 q266.size
  have y274 : w6.heap.size < w9.heap.size := Nat.lt_of_lt_of_le y234 q266.size
  have y275 : w7.heap.size < w9.heap.size := Nat.lt_of_lt_of_le y263 q266.size
  have k276 := ext_cell q266 k235
  have k277 := ext_cell q266 k236
  have k278 := ext_cell q266 k237
  have k279 := ext_cell q266 k238
  have k280 := ext_cell q266 k239
  have k281 := ext_cell q266 k240
  have k282 := ext_cell q266 k241
  have k283 := ext_cell q266 k242
  have k284 := ext_cell q266 k243
  have k285 := ext_cell q266 k244
  have k286 := ext_cell q266 k245
  have k287 := ext_cell q266 k246
  have k288 := ext_cell q266 k247
  have k289 := ext_cell q266 k248
  have k290 := ext_cell q266 k249
  have k291 := ext_cell q266 k250
  have k292 := ext_cell q266 k251
  have k293 := ext_cell q266 k252
  have k294 := ext_cell q266 k253
  have k295 := ext_cell q266 k254
  have k296 := ext_cell q266 k255
  have k297 := ext_cell q266 k256
  have k298 := ext_cell q266 k257
  have k299 := ext_cell q266 k258
  have k300 := ext_cell q266 k264
  have k301 := ext_cell q266 k265
  have f302 : w9.frozen? ⟨w.heap.size + 1 + 1 + 1 + 1, 0, none⟩ = false := (q266.frozen (p := ⟨w.heap.size + 1 + 1 + 1 + 1, 0, none⟩) y231).trans f259
  have f303 : w9.frozen? ⟨w.heap.size + 1 + 1 + 1 + 1, 1, none⟩ = false := (q266.frozen (p := ⟨w.heap.size + 1 + 1 + 1 + 1, 1, none⟩) y231).trans f260
  have f304 : w9.frozen? ⟨w.heap.size + 1 + 1 + 1 + 1, 2, none⟩ = false := (q266.frozen (p := ⟨w.heap.size + 1 + 1 + 1 + 1, 2, none⟩) y231).trans f261
  have f305 : w9.frozen? ⟨w.heap.size + 1 + 1 + 1 + 1, 3, none⟩ = false := (q266.frozen (p := ⟨w.heap.size + 1 + 1 + 1 + 1, 3, none⟩) y231).trans f262
  clear k235 k236 k237 k238 k239 k240 k241 k242 k243 k244 k245 k246 k247 k248 k249 k250 k251 k252 k253 k254 k255 k256 k257 k258 k264 k265 y227 y228 y229 y230 y231 y232 y233 y234 y263 f259 f260 f261 f262
  have y306 : w8.heap.size < w9.heap.size := by have q := ext_size hx9; simp at q; omega
  have k307 := ext_cell hx9 (b := w8.heap.size) (off := 0) (v := .int .i64 (ltPT a b c d e f g h)) (by go_simp)
  have k308 := ext_cell hx9 (b := w8.heap.size) (off := 1) (v := .int .i64 (ltPB a b c d e f g h)) (by go_simp)
  go_wp2_with fail
  have hye : w.heap.size + 1 + 1 + 1 + 1 < w9.heap.size + 1 := by omega
  exact bodyPost_ret (v := .tuple #[lineV (0) (0) (0) (0), .bool false]) (by simp [results, Try.results28, go_sem, k284, k285, k286, k287, y271, hye]) rfl ⟨rfl, (by repeat (first | (with_reducible exact ext_refl _) | (with_reducible refine ext_setCell ?_ ?_ _) | (with_reducible refine ext_alloc ?_ _) | (with_reducible refine ext_drewN ?_ _) | (with_reducible refine ext_drew ?_) | (with_reducible refine ext_trans ?_ (by assumption)) | (dsimp only; omega) | omega | (simp; omega)))⟩
set_option maxHeartbeats 6400000 in
theorem impl_LT_d2c5 (a b c d e f g h : Int) (w : World) (h0 : fracOk a b = true) (h1 : fracOk c d = true) (h2 : fracOk e f = true) (h3 : fracOk g h = true) (h4 : ¬ a = e) (q0 : suOk e f a b = true) (q1 : suOk g h c d = true) (q2 : ltUOk a b c d e f g h = true) (q3 : ltPOk a b c d e f g h = true) (q4 : ltZOk a b c d e f g h = true) (q5 : lineOkB (ltZT a b c d e f g h) (ltZB a b c d e f g h) (ltUT a b c d e f g h) (ltUB a b c d e f g h) = false) :
    Calls Try.prog 28 #[.agg #[.int .i64 a, .int .i64 b], .agg #[.int .i64 c, .int .i64 d], .agg #[.int .i64 e, .int .i64 f], .agg #[.int .i64 g, .int .i64 h]] w fun en w' => en = lineR 0 0 0 0 false ∧ Ext w w' := by
  go_enter Try.func28, Try.ntmps28
  go_wp2_with fail
  refine wp_loop_rounds 5 ?_
  rw [rounds_succ]
  go_wp2_with fail
  refine (impl_FractionOk _ _ _).mono ?_
  rintro en w1 ⟨rfl, hx1⟩
  have y1 : w.heap.size < w1.heap.size := by have := hx1.size; simp at this; omega
  have k2 := ext_cell hx1 (b := w.heap.size) (off := 0) (v := .int .i64 (a)) (by go_simp)
  have k3 := ext_cell hx1 (b := w.heap.size) (off := 1) (v := .int .i64 (b)) (by go_simp)
  have y4 : w.heap.size + 1 < w1.heap.size := by have := hx1.size; simp at this; omega
  have k5 := ext_cell hx1 (b := w.heap.size + 1) (off := 0) (v := .int .i64 (c)) (by go_simp)
  have k6 := ext_cell hx1 (b := w.heap.size + 1) (off := 1) (v := .int .i64 (d)) (by go_simp)
  have y7 : w.heap.size + 1 + 1 < w1.heap.size := by have := hx1.size; simp at this; omega
  have k8 := ext_cell hx1 (b := w.heap.size + 1 + 1) (off := 0) (v := .int .i64 (e)) (by go_simp)
  have k9 := ext_cell hx1 (b := w.heap.size + 1 + 1) (off := 1) (v := .int .i64 (f)) (by go_simp)
  have y10 : w.heap.size + 1 + 1 + 1 < w1.heap.size := by have := hx1.size; simp at this; omega
  have k11 := ext_cell hx1 (b := w.heap.size + 1 + 1 + 1) (off := 0) (v := .int .i64 (g)) (by go_simp)
  have k12 := ext_cell hx1 (b := w.heap.size + 1 + 1 + 1) (off := 1) (v := .int .i64 (h)) (by go_simp)
  have y13 : w.heap.size + 1 + 1 + 1 + 1 < w1.heap.size := by have := hx1.size; simp at this; omega
  have k14 := ext_cell hx1 (b := w.heap.size + 1 + 1 + 1 + 1) (off := 0) (v := .int .i64 (0)) (by go_simp)
  have k15 := ext_cell hx1 (b := w.heap.size + 1 + 1 + 1 + 1) (off := 1) (v := .int .i64 (0)) (by go_simp)
  have k16 := ext_cell hx1 (b := w.heap.size + 1 + 1 + 1 + 1) (off := 2) (v := .int .i64 (0)) (by go_simp)
  have k17 := ext_cell hx1 (b := w.heap.size + 1 + 1 + 1 + 1) (off := 3) (v := .int .i64 (0)) (by go_simp)
  have f18 : w1.frozen? ⟨w.heap.size + 1 + 1 + 1 + 1, 0, none⟩ = false := by rw [hx1.frozen (p := ⟨w.heap.size + 1 + 1 + 1 + 1, 0, none⟩) (by simp; try omega)]; go_simp
  have f19 : w1.frozen? ⟨w.heap.size + 1 + 1 + 1 + 1, 1, none⟩ = false := by rw [hx1.frozen (p := ⟨w.heap.size + 1 + 1 + 1 + 1, 1, none⟩) (by simp; try omega)]; go_simp
  have f20 : w1.frozen? ⟨w.heap.size + 1 + 1 + 1 + 1, 2, none⟩ = false := by rw [hx1.frozen (p := ⟨w.heap.size + 1 + 1 + 1 + 1, 2, none⟩) (by simp; try omega)]; go_simp
  have f21 : w1.frozen? ⟨w.heap.size + 1 + 1 + 1 + 1, 3, none⟩ = false := by rw [hx1.frozen (p := ⟨w.heap.size + 1 + 1 + 1 + 1, 3, none⟩) (by simp; try omega)]; go_simp
  have y22 : w.heap.size + 1 + 1 + 1 + 1 + 1 < w1.heap.size := by have := hx1.size; simp at this; omega
  have k23 := ext_cell hx1 (b := w.heap.size + 1 + 1 + 1 + 1 + 1) (off := 0) (v := .int .i64 (a)) (by go_simp)
  have k24 := ext_cell hx1 (b := w.heap.size + 1 + 1 + 1 + 1 + 1) (off := 1) (v := .int .i64 (b)) (by go_simp)
  have k25 := ext_cell hx1 (b := w.heap.size + 1 + 1 + 1 + 1 + 1) (off := 2) (v := .int .i64 (c)) (by go_simp)
  have k26 := ext_cell hx1 (b := w.heap.size + 1 + 1 + 1 + 1 + 1) (off := 3) (v := .int .i64 (d)) (by go_simp)
  have k27 := ext_cell hx1 (b := w.heap.size + 1 + 1 + 1 + 1 + 1) (off := 4) (v := .int .i64 (e)) (by go_simp)
  have k28 := ext_cell hx1 (b := w.heap.size + 1 + 1 + 1 + 1 + 1) (off := 5) (v := .int .i64 (f)) (by go_simp)
  have k29 := ext_cell hx1 (b := w.heap.size + 1 + 1 + 1 + 1 + 1) (off := 6) (v := .int .i64 (g)) (by go_simp)
  have k30 := ext_cell hx1 (b := w.heap.size + 1 + 1 + 1 + 1 + 1) (off := 7) (v := .int .i64 (h)) (by go_simp)
  go_wp2_with fail
  rw [rounds_succ]
  go_wp2_with fail
  refine (impl_FractionOk _ _ _).mono ?_
  rintro en w2 ⟨rfl, hx2⟩
  have q31 : Ext w1 w2 := ext_trans (ext_alloc (ext_refl _) _) hx2
  have y32 : w.heap.size < w2.heap.size := Nat.lt_of_lt_of_le y1 q31.size
  have y33 : w.heap.size + 1 < w2.heap.size := Nat.lt_of_lt_of_le y4 q31.size
  have y34 : w.heap.size + 1 + 1 < w2.heap.size := Nat.lt_of_lt_of_le y7 q31.size
  have y35 : w.heap.size + 1 + 1 + 1 < w2.heap.size := Nat.lt_of_lt_of_le y10 q31.size
  have y36 : w.heap.size + 1 + 1 + 1 + 1 < w2.heap.size := Nat.lt_of_lt_of_le y13 q31.size
  have y37 : w.heap.size + 1 + 1 + 1 + 1 + 1 < w2.heap.size := Nat.lt_of_lt_of_le y22 q31.size
  have k38 := ext_cell q31 k2
  have k39 := ext_cell q31 k3
  have k40 := ext_cell q31 k5
  have k41 := ext_cell q31 k6
  have k42 := ext_cell q31 k8
  have k43 := ext_cell q31 k9
  have k44 := ext_cell q31 k11
  have k45 := ext_cell q31 k12
  have k46 := ext_cell q31 k14
  have k47 := ext_cell q31 k15
  have k48 := ext_cell q31 k16
  have k49 := ext_cell q31 k17
  have k50 := ext_cell q31 k23
  have k51 := ext_cell q31 k24
  have k52 := ext_cell q31 k25
  have k53 := ext_cell q31 k26
  have k54 := ext_cell q31 k27
  have k55 := ext_cell q31 k28
  have k56 := ext_cell q31 k29
  have k57 := ext_cell q31 k30
  have f58 : w2.frozen? ⟨w.heap.size + 1 + 1 + 1 + 1, 0, none⟩ = false := (q31.frozen (p := ⟨w.heap.size + 1 + 1 + 1 + 1, 0, none⟩) y13).trans f18
  have f59 : w2.frozen? ⟨w.heap.size + 1 + 1 + 1 + 1, 1, none⟩ = false := (q31.frozen (p := ⟨w.heap.size + 1 + 1 + 1 + 1, 1, none⟩) y13).trans f19
  have f60 : w2.frozen? ⟨w.heap.size + 1 + 1 + 1 + 1, 2, none⟩ = false := (q31.frozen (p := ⟨w.heap.size + 1 + 1 + 1 + 1, 2, none⟩) y13).trans f20
  have f61 : w2.frozen? ⟨w.heap.size + 1 + 1 + 1 + 1, 3, none⟩ = false := (q31.frozen (p := ⟨w.heap.size + 1 + 1 + 1 + 1, 3, none⟩) y13).trans f21
  clear k2 k3 k5 k6 k8 k9 k11 k12 k14 k15 k16 k17 k23 k24 k25 k26 k27 k28 k29 k30 y1 y4 y7 y10 y13 y22 f18 f19 f20 f21
  go_wp2_with fail
  rw [rounds_succ]
  go_wp2_with fail
  refine (impl_FractionOk _ _ _).mono ?_
  rintro en w3 ⟨rfl, hx3⟩
  have q62 : Ext w2 w3 := ext_trans (ext_alloc (ext_refl _) _) hx3
  have y63 : w.heap.size < w3.heap.size := Nat.lt_of_lt_of_le y32 q62.size
  have y64 : w.heap.size + 1 < w3.heap.size := Nat.lt_of_lt_of_le y33 q62.size
  have y65 : w.heap.size + 1 + 1 < w3.heap.size := Nat.lt_of_lt_of_le y34 q62.size
  have y66 : w.heap.size + 1 + 1 + 1 < w3.heap.size := Nat.lt_of_lt_of_le y35 q62.size
  have y67 : w.heap.size + 1 + 1 + 1 + 1 < w3.heap.size := Nat.lt_of_lt_of_le y36 q62.size
  have y68 : w.heap.size + 1 + 1 + 1 + 1 + 1 < w3.heap.size := Nat.lt_of_lt_of_le y37 q62.size
  have k69 := ext_cell q62 k38
  have k70 := ext_cell q62 k39
  have k71 := ext_cell q62 k40
  have k72 := ext_cell q62 k41
  have k73 := ext_cell q62 k42
  have k74 := ext_cell q62 k43
  have k75 := ext_cell q62 k44
  have k76 := ext_cell q62 k45
  have k77 := ext_cell q62 k46
  have k78 := ext_cell q62 k47
  have k79 := ext_cell q62 k48
  have k80 := ext_cell q62 k49
  have k81 := ext_cell q62 k50
  have k82 := ext_cell q62 k51
  have k83 := ext_cell q62 k52
  have k84 := ext_cell q62 k53
  have k85 := ext_cell q62 k54
  have k86 := ext_cell q62 k55
  have k87 := ext_cell q62 k56
  have k88 := ext_cell q62 k57
  have f89 : w3.frozen? ⟨w.heap.size + 1 + 1 + 1 + 1, 0, none⟩ = false := (q62.frozen (p := ⟨w.heap.size + 1 + 1 + 1 + 1, 0, none⟩) y36).trans f58
  have f90 : w3.frozen? ⟨w.heap.size + 1 + 1 + 1 + 1, 1, none⟩ = false := (q62.frozen (p := ⟨w.heap.size + 1 + 1 + 1 + 1, 1, none⟩) y36).trans f59
  have f91 : w3.frozen? ⟨w.heap.size + 1 + 1 + 1 + 1, 2, none⟩ = false := (q62.frozen (p := ⟨w.heap.size + 1 + 1 + 1 + 1, 2, none⟩) y36).trans f60
  have f92 : w3.frozen? ⟨w.heap.size + 1 + 1 + 1 + 1, 3, none⟩ = false := (q62.frozen (p := ⟨w.heap.size + 1 + 1 + 1 + 1, 3, none⟩) y36).trans f61
  clear k38 k39 k40 k41 k42 k43 k44 k45 k46 k47 k48 k49 k50 k51 k52 k53 k54 k55 k56 k57 y32 y33 y34 y35 y36 y37 f58 f59 f60 f61
  go_wp2_with fail
  rw [rounds_succ]
  go_wp2_with fail
  refine (impl_FractionOk _ _ _).mono ?_
  rintro en w4 ⟨rfl, hx4⟩
  have q93 : Ext w3 w4 := ext_trans (ext_alloc (ext_refl _) _) hx4
  have y94 : w.heap.size < w4.heap.size := Nat.lt_of_lt_of_le y63 q93.size
  have y95 : w.heap.size + 1 < w4.heap.size := Nat.lt_of_lt_of_le y64 q93.size
  have y96 : w.heap.size + 1 + 1 < w4.heap.size := Nat.lt_of_lt_of_le y65 q93.size
  have y97 : w.heap.size + 1 + 1 + 1 < w4.heap.size := Nat.lt_of_lt_of_le y66 q93.size
  have y98 : w.heap.size + 1 + 1 + 1 + 1 < w4.heap.size := Nat.lt_of_lt_of_le y67 q93.size
  have y99 : w.heap.size + 1 + 1 + 1 + 1 + 1 < w4.heap.size := Nat.lt_of_lt_of_le y68 q93.size
  have k100 := ext_cell q93 k69
  have k101 := ext_cell q93 k70
  have k102 := ext_cell q93 k71
  have k103 := ext_cell q93 k72
  have k104 := ext_cell q93 k73
  have k105 := ext_cell q93 k74
  have k106 := ext_cell q93 k75
  have k107 := ext_cell q93 k76
  have k108 := ext_cell q93 k77
  have k109 := ext_cell q93 k78
  have k110 := ext_cell q93 k79
  have k111 := ext_cell q93 k80
  have k112 := ext_cell q93 k81
  have k113 := ext_cell q93 k82
  have k114 := ext_cell q93 k83
  have k115 := ext_cell q93 k84
  have k116 := ext_cell q93 k85
  have k117 := ext_cell q93 k86
  have k118 := ext_cell q93 k87
  have k119 := ext_cell q93 k88
  have f120 : w4.frozen? ⟨w.heap.size + 1 + 1 + 1 + 1, 0, none⟩ = false := (q93.frozen (p := ⟨w.heap.size + 1 + 1 + 1 + 1, 0, none⟩) y67).trans f89
  have f121 : w4.frozen? ⟨w.heap.size + 1 + 1 + 1 + 1, 1, none⟩ = false := (q93.frozen (p := ⟨w.heap.size + 1 + 1 + 1 + 1, 1, none⟩) y67).trans f90
  have f122 : w4.frozen? ⟨w.heap.size + 1 + 1 + 1 + 1, 2, none⟩ = false := (q93.frozen (p := ⟨w.heap.size + 1 + 1 + 1 + 1, 2, none⟩) y67).trans f91
  have f123 : w4.frozen? ⟨w.heap.size + 1 + 1 + 1 + 1, 3, none⟩ = false := (q93.frozen (p := ⟨w.heap.size + 1 + 1 + 1 + 1, 3, none⟩) y67).trans f92
  clear k69 k70 k71 k72 k73 k74 k75 k76 k77 k78 k79 k80 k81 k82 k83 k84 k85 k86 k87 k88 y63 y64 y65 y66 y67 y68 f89 f90 f91 f92
  go_wp2_with fail
  rw [rounds_succ]
  go_wp2_with fail
  refine ((impl_minus' e f a b _)).mono ?_
  rintro en w5 ⟨rfl, hx5⟩
  have q124 : Ext w4 w5 := hx5
  have y125 : w.heap.size < w5.heap.size := Nat.lt_of_lt_of_le y94 q124.size
  have y126 : w.heap.size + 1 < w5.heap.size := Nat.lt_of_lt_of_le y95 q124.size
  have y127 : w.heap.size + 1 + 1 < w5.heap.size := Nat.lt_of_lt_of_le y96 q124.size
  have y128 : w.heap.size + 1 + 1 + 1 < w5.heap.size := Nat.lt_of_lt_of_le y97 q124.size
  have y129 : w.heap.size + 1 + 1 + 1 + 1 < w5.heap.size := Nat.lt_of_lt_of_le y98 q124.size
  have y130 : w.heap.size + 1 + 1 + 1 + 1 + 1 < w5.heap.size := Nat.lt_of_lt_of_le y99 q124.size
  have k131 := ext_cell q124 k100
  have k132 := ext_cell q124 k101
  have k133 := ext_cell q124 k102
  have k134 := ext_cell q124 k103
  have k135 := ext_cell q124 k104
  have k136 := ext_cell q124 k105
  have k137 := ext_cell q124 k106
  have k138 := ext_cell q124 k107
  have k139 := ext_cell q124 k108
  have k140 := ext_cell q124 k109
  have k141 := ext_cell q124 k110
  have k142 := ext_cell q124 k111
  have k143 := ext_cell q124 k112
  have k144 := ext_cell q124 k113
  have k145 := ext_cell q124 k114
  have k146 := ext_cell q124 k115
  have k147 := ext_cell q124 k116
  have k148 := ext_cell q124 k117
  have k149 := ext_cell q124 k118
  have k150 := ext_cell q124 k119
  have f151 : w5.frozen? ⟨w.heap.size + 1 + 1 + 1 + 1, 0, none⟩ = false := (q124.frozen (p := ⟨w.heap.size + 1 + 1 + 1 + 1, 0, none⟩) y98).trans f120
  have f152 : w5.frozen? ⟨w.heap.size + 1 + 1 + 1 + 1, 1, none⟩ = false := (q124.frozen (p := ⟨w.heap.size + 1 + 1 + 1 + 1, 1, none⟩) y98).trans f121
  have f153 : w5.frozen? ⟨w.heap.size + 1 + 1 + 1 + 1, 2, none⟩ = false := (q124.frozen (p := ⟨w.heap.size + 1 + 1 + 1 + 1, 2, none⟩) y98).trans f122
  have f154 : w5.frozen? ⟨w.heap.size + 1 + 1 + 1 + 1, 3, none⟩ = false := (q124.frozen (p := ⟨w.heap.size + 1 + 1 + 1 + 1, 3, none⟩) y98).trans f123
  clear k100 k101 k102 k103 k104 k105 k106 k107 k108 k109 k110 k111 k112 k113 k114 k115 k116 k117 k118 k119 y94 y95 y96 y97 y98 y99 f120 f121 f122 f123
  go_wp2_with fail
  refine ((impl_minus' g h c d _)).mono ?_
  rintro en w6 ⟨rfl, hx6⟩
  have q155 : Ext w5 w6 := ext_trans (ext_alloc (ext_refl _) _) hx6
  have y156 : w.heap.size < w6.heap.size := Nat.lt_of_lt_of_le y125 q155.size
  have y157 : w.heap.size + 1 < w6.heap.size := Nat.lt_of_lt_of_le y126 q155.size
  have y158 : w.heap.size + 1 + 1 < w6.heap.size := Nat.lt_of_lt_of_le y127 q155.size
  have y159 : w.heap.size + 1 + 1 + 1 < w6.heap.size := Nat.lt_of_lt_of_le y128 q155.size
  have y160 : w.heap.size + 1 + 1 + 1 + 1 < w6.heap.size := Nat.lt_of_lt_of_le y129 q155.size
  have y161 : w.heap.size + 1 + 1 + 1 + 1 + 1 < w6.heap.size := Nat.lt_of_lt_of_le y130 q155.size
  have k162 := ext_cell q155 k131
  have k163 := ext_cell q155 k132
  have k164 := ext_cell q155 k133
  have k165 := ext_cell q155 k134
  have k166 := ext_cell q155 k135
  have k167 := ext_cell q155 k136
  have k168 := ext_cell q155 k137
  have k169 := ext_cell q155 k138
  have k170 := ext_cell q155 k139
  have k171 := ext_cell q155 k140
  have k172 := ext_cell q155 k141
  have k173 := ext_cell q155 k142
  have k174 := ext_cell q155 k143
  have k175 := ext_cell q155 k144
  have k176 := ext_cell q155 k145
  have k177 := ext_cell q155 k146
  have k178 := ext_cell q155 k147
  have k179 := ext_cell q155 k148
  have k180 := ext_cell q155 k149
  have k181 := ext_cell q155 k150
  have f182 : w6.frozen? ⟨w.heap.size + 1 + 1 + 1 + 1, 0, none⟩ = false := (q155.frozen (p := ⟨w.heap.size + 1 + 1 + 1 + 1, 0, none⟩) y129).trans f151
  have f183 : w6.frozen? ⟨w.heap.size + 1 + 1 + 1 + 1, 1, none⟩ = false := (q155.frozen (p := ⟨w.heap.size + 1 + 1 + 1 + 1, 1, none⟩) y129).trans f152
  have f184 : w6.frozen? ⟨w.heap.size + 1 + 1 + 1 + 1, 2, none⟩ = false := (q155.frozen (p := ⟨w.heap.size + 1 + 1 + 1 + 1, 2, none⟩) y129).trans f153
  have f185 : w6.frozen? ⟨w.heap.size + 1 + 1 + 1 + 1, 3, none⟩ = false := (q155.frozen (p := ⟨w.heap.size + 1 + 1 + 1 + 1, 3, none⟩) y129).trans f154
  clear k131 k132 k133 k134 k135 k136 k137 k138 k139 k140 k141 k142 k143 k144 k145 k146 k147 k148 k149 k150 y125 y126 y127 y128 y129 y130 f151 f152 f153 f154
  have y186 : w5.heap.size < w6.heap.size := by have q := ext_size hx6; simp at q; omega
  have k187 := ext_cell hx6 (b := w5.heap.size) (off := 0) (v := .int .i64 (suT e f a b)) (by go_simp)
  have k188 := ext_cell hx6 (b := w5.heap.size) (off := 1) (v := .int .i64 (suB e f a b)) (by go_simp)
  go_wp2_with fail
  refine ((impl_over (suT g h c d) (suB g h c d) (suT e f a b) (suB e f a b) _)).mono ?_
  rintro en w7 ⟨rfl, hx7⟩
  rw [show ovT (suT g h c d) (suB g h c d) (suT e f a b) (suB e f a b) = ltUT a b c d e f g h from rfl, show ovB (suT g h c d) (suB g h c d) (suT e f a b) (suB e f a b) = ltUB a b c d e f g h from rfl, show ovOk (suT g h c d) (suB g h c d) (suT e f a b) (suB e f a b) = ltUOk a b c d e f g h from rfl]
  have q189 : Ext w6 w7 := ext_trans (ext_alloc (ext_refl _) _) hx7
  have y190 : w.heap.size < w7.heap.size := Nat.lt_of_lt_of_le y156 q189.size
  have y191 : w.heap.size + 1 < w7.heap.size := Nat.lt_of_lt_of_le y157 q189.size
  have y192 : w.heap.size + 1 + 1 < w7.heap.size := Nat.lt_of_lt_of_le y158 q189.size
  have y193 : w.heap.size + 1 + 1 + 1 < w7.heap.size := Nat.lt_of_lt_of_le y159 q189.size
  have y194 : w.heap.size + 1 + 1 + 1 + 1 < w7.heap.size := Nat.lt_of_lt_of_le y160 q189.size
  have y195 : w.heap.size + 1 + 1 + 1 + 1 + 1 < w7.heap.size := Nat.lt_of_lt_of_le y161 q189.size
  have y196 : w5.heap.size < w7.heap.size := Nat.lt_of_lt_of_le y186 q189.size
  have k197 := ext_cell q189 k162
  have k198 := ext_cell q189 k163
  have k199 := ext_cell q189 k164
  have k200 := ext_cell q189 k165
  have k201 := ext_cell q189 k166
  have k202 := ext_cell q189 k167
  have k203 := ext_cell q189 k168
  have k204 := ext_cell q189 k169
  have k205 := ext_cell q189 k170
  have k206 := ext_cell q189 k171
  have k207 := ext_cell q189 k172
  have k208 := ext_cell q189 k173
  have k209 := ext_cell q189 k174
  have k210 := ext_cell q189 k175
  have k211 := ext_cell q189 k176
  have k212 := ext_cell q189 k177
  have k213 := ext_cell q189 k178
  have k214 := ext_cell q189 k179
  have k215 := ext_cell q189 k180
  have k216 := ext_cell q189 k181
  have k217 := ext_cell q189 k187
  have k218 := ext_cell q189 k188
  have f219 : w7.frozen? ⟨w.heap.size + 1 + 1 + 1 + 1, 0, none⟩ = false := (q189.frozen (p := ⟨w.heap.size + 1 + 1 + 1 + 1, 0, none⟩) y160).trans f182
  have f220 : w7.frozen? ⟨w.heap.size + 1 + 1 + 1 + 1, 1, none⟩ = false := (q189.frozen (p := ⟨w.heap.size + 1 + 1 + 1 + 1, 1, none⟩) y160).trans f183
  have f221 : w7.frozen? ⟨w.heap.size + 1 + 1 + 1 + 1, 2, none⟩ = false := (q189.frozen (p := ⟨w.heap.size + 1 + 1 + 1 + 1, 2, none⟩) y160).trans f184
  have f222 : w7.frozen? ⟨w.heap.size + 1 + 1 + 1 + 1, 3, none⟩ = false := (q189.frozen (p := ⟨w.heap.size + 1 + 1 + 1 + 1, 3, none⟩) y160).trans f185
  clear k162 k163 k164 k165 k166 k167 k168 k169 k170 k171 k172 k173 k174 k175 k176 k177 k178 k179 k180 k181 k187 k188 y156 y157 y158 y159 y160 y161 y186 f182 f183 f184 f185
  have y223 : w6.heap.size < w7.heap.size := by have q := ext_size hx7; simp at q; omega
  have k224 := ext_cell hx7 (b := w6.heap.size) (off := 0) (v := .int .i64 (suT g h c d)) (by go_simp)
  have k225 := ext_cell hx7 (b := w6.heap.size) (off := 1) (v := .int .i64 (suB g h c d)) (by go_simp)
  go_wp2_with fail
  refine ((impl_TimesFractions (ltUT a b c d e f g h) (ltUB a b c d e f g h) a b _)).mono ?_
  rintro en w8 ⟨rfl, hx8⟩
  rw [show timT (ltUT a b c d e f g h) (ltUB a b c d e f g h) a b = ltPT a b c d e f g h from rfl, show timB (ltUT a b c d e f g h) (ltUB a b c d e f g h) a b = ltPB a b c d e f g h from rfl, show timOk (ltUT a b c d e f g h) (ltUB a b c d e f g h) a b = ltPOk a b c d e f g h from rfl]
  have q226 : Ext w7 w8 := ext_trans (ext_alloc (ext_refl _) _) hx8
  have y227 : w.heap.size < w8.heap.size := Nat.lt_of_lt_of_le y190 q226.size
  have y228 : w.heap.size + 1 < w8.heap.size := Nat.lt_of_lt_of_le y191 q226.size
  have y229 : w.heap.size + 1 + 1 < w8.heap.size := Nat.lt_of_lt_of_le y192 q226.size
  have y230 : w.heap.size + 1 + 1 + 1 < w8.heap.size := Nat.lt_of_lt_of_le y193 q226.size
  have y231 : w.heap.size + 1 + 1 + 1 + 1 < w8.heap.size := Nat.lt_of_lt_of_le y194 q226.size
  have y232 : w.heap.size + 1 + 1 + 1 + 1 + 1 < w8.heap.size := Nat.lt_of_lt_of_le y195 q226.size
  have y233 : w5.heap.size < w8.heap.size := Nat.lt_of_lt_of_le y196 q226.size
  have y234 : w6.heap.size < w8.heap.size := Nat.lt_of_lt_of_le y223 q226.size
  have k235 := ext_cell q226 k197
  have k236 := ext_cell q226 k198
  have k237 := ext_cell q226 k199
  have k238 := ext_cell q226 k200
  have k239 := ext_cell q226 k201
  have k240 := ext_cell q226 k202
  have k241 := ext_cell q226 k203
  have k242 := ext_cell q226 k204
  have k243 := ext_cell q226 k205
  have k244 := ext_cell q226 k206
  have k245 := ext_cell q226 k207
  have k246 := ext_cell q226 k208
  have k247 := ext_cell q226 k209
  have k248 := ext_cell q226 k210
  have k249 := ext_cell q226 k211
  have k250 := ext_cell q226 k212
  have k251 := ext_cell q226 k213
  have k252 := ext_cell q226 k214
  have k253 := ext_cell q226 k215
  have k254 := ext_cell q226 k216
  have k255 := ext_cell q226 k217
  have k256 := ext_cell q226 k218
  have k257 := ext_cell q226 k224
  have k258 := ext_cell q226 k225
  have f259 : w8.frozen? ⟨w.heap.size + 1 + 1 + 1 + 1, 0, none⟩ = false := (q226.frozen (p := ⟨w.heap.size + 1 + 1 + 1 + 1, 0, none⟩) y194).trans f219
  have f260 : w8.frozen? ⟨w.heap.size + 1 + 1 + 1 + 1, 1, none⟩ = false := (q226.frozen (p := ⟨w.heap.size + 1 + 1 + 1 + 1, 1, none⟩) y194).trans f220
  have f261 : w8.frozen? ⟨w.heap.size + 1 + 1 + 1 + 1, 2, none⟩ = false := (q226.frozen (p := ⟨w.heap.size + 1 + 1 + 1 + 1, 2, none⟩) y194).trans f221
  have f262 : w8.frozen? ⟨w.heap.size + 1 + 1 + 1 + 1, 3, none⟩ = false := (q226.frozen (p := ⟨w.heap.size + 1 + 1 + 1 + 1, 3, none⟩) y194).trans f222
  clear k197 k198 k199 k200 k201 k202 k203 k204 k205 k206 k207 k208 k209 k210 k211 k212 k213 k214 k215 k216 k217 k218 k224 k225 y190 y191 y192 y193 y194 y195 y196 y223 f219 f220 f221 f222
  have y263 : w7.heap.size < w8.heap.size := by have q := ext_size hx8; simp at q; omega
  have k264 := ext_cell hx8 (b := w7.heap.size) (off := 0) (v := .int .i64 (ltUT a b c d e f g h)) (by go_simp)
  have k265 := ext_cell hx8 (b := w7.heap.size) (off := 1) (v := .int .i64 (ltUB a b c d e f g h)) (by go_simp)
  go_wp2_with fail
  refine ((impl_minus' c d (ltPT a b c d e f g h) (ltPB a b c d e f g h) _)).mono ?_
  rintro en w9 ⟨rfl, hx9⟩
  rw [show suT c d (ltPT a b c d e f g h) (ltPB a b c d e f g h) = ltZT a b c d e f g h from rfl, show suB c d (ltPT a b c d e f g h) (ltPB a b c d e f g h) = ltZB a b c d e f g h from rfl, show suOk c d (ltPT a b c d e f g h) (ltPB a b c d e f g h) = ltZOk a b c d e f g h from rfl]
  have q266 : Ext w8 w9 := ext_trans (ext_alloc (ext_refl _) _) hx9
  have y267 : w.heap.size < w9.heap.size := Nat.lt_of_lt_of_le y227 q266.size
  have y268 : w.heap.size + 1 < w9.heap.size := Nat.lt_of_lt_of_le y228 q266.size
  have y269 : w.heap.size + 1 + 1 < w9.heap.size := Nat.lt_of_lt_of_le y229 q266.size
  have y270 : w.heap.size + 1 + 1 + 1 < w9.heap.size := Nat.lt_of_lt_of_le y230 q266.size
  have y271 : w.heap.size + 1 + 1 + 1 + 1 < w9.heap.size := Nat.lt_of_lt_of_le y231 q266.size
  have y272 : w.heap.size + 1 + 1 + 1 + 1 + 1 < w9.heap.size := Nat.lt_of_lt_of_le y232 q266.size
  have y273 : w5.heap.size < w9.heap.size := Nat.lt_of_lt_of_le y233 q266.size
  have y274 : w6.heap.size < w9.heap.size := Nat.lt_of_lt_of_le y234 q266.size
  have y275 : w7.heap.size < w9.heap.size := Nat.lt_of_lt_of_le y263 q266.size
  have k276 := ext_cell q266 k235
  have k277 := ext_cell q266 k236
  have k278 := ext_cell q266 k237
  have k279 := ext_cell q266 k238
  have k280 := ext_cell q266 k239
  have k281 := ext_cell q266 k240
  have k282 := ext_cell q266 k241
  have k283 := ext_cell q266 k242
  have k284 := ext_cell q266 k243
  have k285 := ext_cell q266 k244
  have k286 := ext_cell q266 k245
  have k287 := ext_cell q266 k246
  have k288 := ext_cell q266 k247
  have k289 := ext_cell q266 k248
  have k290 := ext_cell q266 k249
  have k291 := ext_cell q266 k250
  have k292 := ext_cell q266 k251
  have k293 := ext_cell q266 k252
  have k294 := ext_cell q266 k253
  have k295 := ext_cell q266 k254
  have k296 := ext_cell q266 k255
  have k297 := ext_cell q266 k256
  have k298 := ext_cell q266 k257
  have k299 := ext_cell q266 k258
  have k300 := ext_cell q266 k264
  have k301 := ext_cell q266 k265
  have f302 : w9.frozen? ⟨w.heap.size + 1 + 1 + 1 + 1, 0, none⟩ = false := (q266.frozen (p := ⟨w.heap.size + 1 + 1 + 1 + 1, 0, none⟩) y231).trans f259
  have f303 : w9.frozen? ⟨w.heap.size + 1 + 1 + 1 + 1, 1, none⟩ = false := (q266.frozen (p := ⟨w.heap.size + 1 + 1 + 1 + 1, 1, none⟩) y231).trans f260
  have f304 : w9.frozen? ⟨w.heap.size + 1 + 1 + 1 + 1, 2, none⟩ = false := (q266.frozen (p := ⟨w.heap.size + 1 + 1 + 1 + 1, 2, none⟩) y231).trans f261
  have f305 : w9.frozen? ⟨w.heap.size + 1 + 1 + 1 + 1, 3, none⟩ = false := (q266.frozen (p := ⟨w.heap.size + 1 + 1 + 1 + 1, 3, none⟩) y231).trans f262
  clear k235 k236 k237 k238 k239 k240 k241 k242 k243 k244 k245 k246 k247 k248 k249 k250 k251 k252 k253 k254 k255 k256 k257 k258 k264 k265 y227 y228 y229 y230 y231 y232 y233 y234 y263 f259 f260 f261 f262
  have y306 : w8.heap.size < w9.heap.size := by have q := ext_size hx9; simp at q; omega
  have k307 := ext_cell hx9 (b := w8.heap.size) (off := 0) (v := .int .i64 (ltPT a b c d e f g h)) (by go_simp)
  have k308 := ext_cell hx9 (b := w8.heap.size) (off := 1) (v := .int .i64 (ltPB a b c d e f g h)) (by go_simp)
  go_wp2_with fail
  refine (impl_LineOk _ _ _ _ _).mono ?_
  rintro en w10 ⟨rfl, hx10⟩
  have q309 : Ext w9 w10 := ext_trans (ext_alloc (ext_alloc (ext_refl _) _) _) hx10
  have y310 : w.heap.size < w10.heap.size := Nat.lt_of_lt_of_le y267 q309.size
  have y311 : w.heap.size + 1 < w10.heap.size := Nat.lt_of_lt_of_le y268 q309.size
  have y312 : w.heap.size + 1 + 1 < w10.heap.size := Nat.lt_of_lt_of_le y269 q309.size
  have y313 : w.heap.size + 1 + 1 + 1 < w10.heap.size := Nat.lt_of_lt_of_le y270 q309.size
  have y314 : w.heap.size + 1 + 1 + 1 + 1 < w10.heap.size := Nat.lt_of_lt_of_le y271 q309.size
  have y315 : w.heap.size + 1 + 1 + 1 + 1 + 1 < w10.heap.size := Nat.lt_of_lt_of_le y272 q309.size
  have y316 : w5.heap.size < w10.heap.size := Nat.lt_of_lt_of_le y273 q309.size
  have y317 : w6.heap.size < w10.heap.size := Nat.lt_of_lt_of_le y274 q309.size
  have y318 : w7.heap.size < w10.heap.size := Nat.lt_of_lt_of_le y275 q309.size
  have y319 : w8.heap.size < w10.heap.size := Nat.lt_of_lt_of_le y306 q309.size
  have k320 := ext_cell q309 k276
  have k321 := ext_cell q309 k277
  have k322 := ext_cell q309 k278
  have k323 := ext_cell q309 k279
  have k324 := ext_cell q309 k280
  have k325 := ext_cell q309 k281
  have k326 := ext_cell q309 k282
  have k327 := ext_cell q309 k283
  have k328 := ext_cell q309 k284
  have k329 := ext_cell q309 k285
  have k330 := ext_cell q309 k286
  have k331 := ext_cell q309 k287
  have k332 := ext_cell q309 k288
  have k333 := ext_cell q309 k289
  have k334 := ext_cell q309 k290
  have k335 := ext_cell q309 k291
  have k336 := ext_cell q309 k292
  have k337 := ext_cell q309 k293
  have k338 := ext_cell q309 k294
  have k339 := ext_cell q309 k295
  have k340 := ext_cell q309 k296
  have k341 := ext_cell q309 k297
  have k342 := ext_cell q309 k298
  have k343 := ext_cell q309 k299
  have k344 := ext_cell q309 k300
  have k345 := ext_cell q309 k301
  have k346 := ext_cell q309 k307
  have k347 := ext_cell q309 k308
  have f348 : w10.frozen? ⟨w.heap.size + 1 + 1 + 1 + 1, 0, none⟩ = false := (q309.frozen (p := ⟨w.heap.size + 1 + 1 + 1 + 1, 0, none⟩) y271).trans f302
  have f349 : w10.frozen? ⟨w.heap.size + 1 + 1 + 1 + 1, 1, none⟩ = false := (q309.frozen (p := ⟨w.heap.size + 1 + 1 + 1 + 1, 1, none⟩) y271).trans f303
  have f350 : w10.frozen? ⟨w.heap.size + 1 + 1 + 1 + 1, 2, none⟩ = false := (q309.frozen (p := ⟨w.heap.size + 1 + 1 + 1 + 1, 2, none⟩) y271).trans f304
  have f351 : w10.frozen? ⟨w.heap.size + 1 + 1 + 1 + 1, 3, none⟩ = false := (q309.frozen (p := ⟨w.heap.size + 1 + 1 + 1 + 1, 3, none⟩) y271).trans f305
  clear k276 k277 k278 k279 k280 k281 k282 k283 k284 k285 k286 k287 k288 k289 k290 k291 k292 k293 k294 k295 k296 k297 k298 k299 k300 k301 k307 k308 y267 y268 y269 y270 y271 y272 y273 y274 y275 y306 f302 f303 f304 f305
  have y352 : w9.heap.size + 1 < w10.heap.size := by have q := ext_size hx10; simp at q; omega
  have k353 := ext_cell hx10 (b := w9.heap.size + 1) (off := 0) (v := .int .i64 (ltZT a b c d e f g h)) (by go_simp)
  have k354 := ext_cell hx10 (b := w9.heap.size + 1) (off := 1) (v := .int .i64 (ltZB a b c d e f g h)) (by go_simp)
  have k355 := ext_cell hx10 (b := w9.heap.size + 1) (off := 2) (v := .int .i64 (ltUT a b c d e f g h)) (by go_simp)
  have k356 := ext_cell hx10 (b := w9.heap.size + 1) (off := 3) (v := .int .i64 (ltUB a b c d e f g h)) (by go_simp)
  go_wp2_with fail
  exact bodyPost_ret (v := .tuple #[lineV (0) (0) (0) (0), .bool false]) (by simp [results, Try.results28, go_sem, k328, k329, k330, k331, y314]) rfl ⟨rfl, (by repeat (first | (with_reducible exact ext_refl _) | (with_reducible refine ext_setCell ?_ ?_ _) | (with_reducible refine ext_alloc ?_ _) | (with_reducible refine ext_drewN ?_ _) | (with_reducible refine ext_drew ?_) | (with_reducible refine ext_trans ?_ (by assumption)) | (dsimp only; omega) | omega | (simp; omega)))⟩
set_option maxHeartbeats 6400000 in
theorem impl_LT_d2c6 (a b c d e f g h : Int) (w : World) (h0 : fracOk a b = true) (h1 : fracOk c d = true) (h2 : fracOk e f = true) (h3 : fracOk g h = true) (h4 : ¬ a = e) (q0 : suOk e f a b = true) (q1 : suOk g h c d = true) (q2 : ltUOk a b c d e f g h = true) (q3 : ltPOk a b c d e f g h = true) (q4 : ltZOk a b c d e f g h = true) (q5 : lineOkB (ltZT a b c d e f g h) (ltZB a b c d e f g h) (ltUT a b c d e f g h) (ltUB a b c d e f g h) = true) :
    Calls Try.prog 28 #[.agg #[.int .i64 a, .int .i64 b], .agg #[.int .i64 c, .int .i64 d], .agg #[.int .i64 e, .int .i64 f], .agg #[.int .i64 g, .int .i64 h]] w fun en w' => en = lineR (ltZT a b c d e f g h) (ltZB a b c d e f g h) (ltUT a b c d e f g h) (ltUB a b c d e f g h) true ∧ Ext w w' := by
  go_enter Try.func28, Try.ntmps28
  go_wp2_with fail
  refine wp_loop_rounds 5 ?_
  rw [rounds_succ]
  go_wp2_with fail
  refine (impl_FractionOk _ _ _).mono ?_
  rintro en w1 ⟨rfl, hx1⟩
  have y1 : w.heap.size < w1.heap.size := by have := hx1.size; simp at this; omega
  have k2 := ext_cell hx1 (b := w.heap.size) (off := 0) (v := .int .i64 (a)) (by go_simp)
  have k3 := ext_cell hx1 (b := w.heap.size) (off := 1) (v := .int .i64 (b)) (by go_simp)
  have y4 : w.heap.size + 1 < w1.heap.size := by have := hx1.size; simp at this; omega
  have k5 := ext_cell hx1 (b := w.heap.size + 1) (off := 0) (v := .int .i64 (c)) (by go_simp)
  have k6 := ext_cell hx1 (b := w.heap.size + 1) (off := 1) (v := .int .i64 (d)) (by go_simp)
  have y7 : w.heap.size + 1 + 1 < w1.heap.size := by have := hx1.size; simp at this; omega
  have k8 := ext_cell hx1 (b := w.heap.size + 1 + 1) (off := 0) (v := .int .i64 (e)) (by go_simp)
  have k9 := ext_cell hx1 (b := w.heap.size + 1 + 1) (off := 1) (v := .int .i64 (f)) (by go_simp)
  have y10 : w.heap.size + 1 + 1 + 1 < w1.heap.size := by have := hx1.size; simp at this; omega
  have k11 := ext_cell hx1 (b := w.heap.size + 1 + 1 + 1) (off := 0) (v := .int .i64 (g)) (by go_simp)
  have k12 := ext_cell hx1 (b := w.heap.size + 1 + 1 + 1) (off := 1) (v := .int .i64 (h)) (by go_simp)
  have y13 : w.heap.size + 1 + 1 + 1 + 1 < w1.heap.size := by have := hx1.size; simp at this; omega
  have k14 := ext_cell hx1 (b := w.heap.size + 1 + 1 + 1 + 1) (off := 0) (v := .int .i64 (0)) (by go_simp)
  have k15 := ext_cell hx1 (b := w.heap.size + 1 + 1 + 1 + 1) (off := 1) (v := .int .i64 (0)) (by go_simp)
  have k16 := ext_cell hx1 (b := w.heap.size + 1 + 1 + 1 + 1) (off := 2) (v := .int .i64 (0)) (by go_simp)
  have k17 := ext_cell hx1 (b := w.heap.size + 1 + 1 + 1 + 1) (off := 3) (v := .int .i64 (0)) (by go_simp)
  have f18 : w1.frozen? ⟨w.heap.size + 1 + 1 + 1 + 1, 0, none⟩ = false := by rw [hx1.frozen (p := ⟨w.heap.size + 1 + 1 + 1 + 1, 0, none⟩) (by simp; try omega)]; go_simp
  have f19 : w1.frozen? ⟨w.heap.size + 1 + 1 + 1 + 1, 1, none⟩ = false := by rw [hx1.frozen (p := ⟨w.heap.size + 1 + 1 + 1 + 1, 1, none⟩) (by simp; try omega)]; go_simp
  have f20 : w1.frozen? ⟨w.heap.size + 1 + 1 + 1 + 1, 2, none⟩ = false := by rw [hx1.frozen (p := ⟨w.heap.size + 1 + 1 + 1 + 1, 2, none⟩) (by simp; try omega)]; go_simp
  have f21 : w1.frozen? ⟨w.heap.size + 1 + 1 + 1 + 1, 3, none⟩ = false := by rw [hx1.frozen (p := ⟨w.heap.size + 1 + 1 + 1 + 1, 3, none⟩) (by simp; try omega)]; go_simp
  have y22 : w.heap.size + 1 + 1 + 1 + 1 + 1 < w1.heap.size := by have := hx1.size; simp at this; omega
  have k23 := ext_cell hx1 (b := w.heap.size + 1 + 1 + 1 + 1 + 1) (off := 0) (v := .int .i64 (a)) (by go_simp)
  have k24 := ext_cell hx1 (b := w.heap.size + 1 + 1 + 1 + 1 + 1) (off := 1) (v := .int .i64 (b)) (by go_simp)
  have k25 := ext_cell hx1 (b := w.heap.size + 1 + 1 + 1 + 1 + 1) (off := 2) (v := .int .i64 (c)) (by go_simp)
  have k26 := ext_cell hx1 (b := w.heap.size + 1 + 1 + 1 + 1 + 1) (off := 3) (v := .int .i64 (d)) (by go_simp)
  have k27 := ext_cell hx1 (b := w.heap.size + 1 + 1 + 1 + 1 + 1) (off := 4) (v := .int .i64 (e)) (by go_simp)
  have k28 := ext_cell hx1 (b := w.heap.size + 1 + 1 + 1 + 1 + 1) (off := 5) (v := .int .i64 (f)) (by go_simp)
  have k29 := ext_cell hx1 (b := w.heap.size + 1 + 1 + 1 + 1 + 1) (off := 6) (v := .int .i64 (g)) (by go_simp)
  have k30 := ext_cell hx1 (b := w.heap.size + 1 + 1 + 1 + 1 + 1) (off := 7) (v := .int .i64 (h)) (by go_simp)
  go_wp2_with fail
  rw [rounds_succ]
  go_wp2_with fail
  refine (impl_FractionOk _ _ _).mono ?_
  rintro en w2 ⟨rfl, hx2⟩
  have q31 : Ext w1 w2 := ext_trans (ext_alloc (ext_refl _) _) hx2
  have y32 : w.heap.size < w2.heap.size := Nat.lt_of_lt_of_le y1 q31.size
  have y33 : w.heap.size + 1 < w2.heap.size := Nat.lt_of_lt_of_le y4 q31.size
  have y34 : w.heap.size + 1 + 1 < w2.heap.size := Nat.lt_of_lt_of_le y7 q31.size
  have y35 : w.heap.size + 1 + 1 + 1 < w2.heap.size := Nat.lt_of_lt_of_le y10 q31.size
  have y36 : w.heap.size + 1 + 1 + 1 + 1 < w2.heap.size := Nat.lt_of_lt_of_le y13 q31.size
  have y37 : w.heap.size + 1 + 1 + 1 + 1 + 1 < w2.heap.size := Nat.lt_of_lt_of_le y22 q31.size
  have k38 := ext_cell q31 k2
  have k39 := ext_cell q31 k3
  have k40 := ext_cell q31 k5
  have k41 := ext_cell q31 k6
  have k42 := ext_cell q31 k8
  have k43 := ext_cell q31 k9
  have k44 := ext_cell q31 k11
  have k45 := ext_cell q31 k12
  have k46 := ext_cell q31 k14
  have k47 := ext_cell q31 k15
  have k48 := ext_cell q31 k16
  have k49 := ext_cell q31 k17
  have k50 := ext_cell q31 k23
  have k51 := ext_cell q31 k24
  have k52 := ext_cell q31 k25
  have k53 := ext_cell q31 k26
  have k54 := ext_cell q31 k27
  have k55 := ext_cell q31 k28
  have k56 := ext_cell q31 k29
  have k57 := ext_cell q31 k30
  have f58 : w2.frozen? ⟨w.heap.size + 1 + 1 + 1 + 1, 0, none⟩ = false := (q31.frozen (p := ⟨w.heap.size + 1 + 1 + 1 + 1, 0, none⟩) y13).trans f18
  have f59 : w2.frozen? ⟨w.heap.size + 1 + 1 + 1 + 1, 1, none⟩ = false := (q31.frozen (p := ⟨w.heap.size + 1 + 1 + 1 + 1, 1, none⟩) y13).trans f19
  have f60 : w2.frozen? ⟨w.heap.size + 1 + 1 + 1 + 1, 2, none⟩ = false := (q31.frozen (p := ⟨w.heap.size + 1 + 1 + 1 + 1, 2, none⟩) y13).trans f20
  have f61 : w2.frozen? ⟨w.heap.size + 1 + 1 + 1 + 1, 3, none⟩ = false := (q31.frozen (p := ⟨w.heap.size + 1 + 1 + 1 + 1, 3, none⟩) y13).trans f21
  clear k2 k3 k5 k6 k8 k9 k11 k12 k14 k15 k16 k17 k23 k24 k25 k26 k27 k28 k29 k30 y1 y4 y7 y10 y13 y22 f18 f19 f20 f21
  go_wp2_with fail
  rw [rounds_succ]
  go_wp2_with fail
  refine (impl_FractionOk _ _ _).mono ?_
  rintro en w3 ⟨rfl, hx3⟩
  have q62 : Ext w2 w3 := ext_trans (ext_alloc (ext_refl _) _) hx3
  have y63 : w.heap.size < w3.heap.size := Nat.lt_of_lt_of_le y32 q62.size
  have y64 : w.heap.size + 1 < w3.heap.size := Nat.lt_of_lt_of_le y33 q62.size
  have y65 : w.heap.size + 1 + 1 < w3.heap.size := Nat.lt_of_lt_of_le y34 q62.size
  have y66 : w.heap.size + 1 + 1 + 1 < w3.heap.size := Nat.lt_of_lt_of_le y35 q62.size
  have y67 : w.heap.size + 1 + 1 + 1 + 1 < w3.heap.size := Nat.lt_of_lt_of_le y36 q62.size
  have y68 : w.heap.size + 1 + 1 + 1 + 1 + 1 < w3.heap.size := Nat.lt_of_lt_of_le y37 q62.size
  have k69 := ext_cell q62 k38
  have k70 := ext_cell q62 k39
  have k71 := ext_cell q62 k40
  have k72 := ext_cell q62 k41
  have k73 := ext_cell q62 k42
  have k74 := ext_cell q62 k43
  have k75 := ext_cell q62 k44
  have k76 := ext_cell q62 k45
  have k77 := ext_cell q62 k46
  have k78 := ext_cell q62 k47
  have k79 := ext_cell q62 k48
  have k80 := ext_cell q62 k49
  have k81 := ext_cell q62 k50
  have k82 := ext_cell q62 k51
  have k83 := ext_cell q62 k52
  have k84 := ext_cell q62 k53
  have k85 := ext_cell q62 k54
  have k86 := ext_cell q62 k55
  have k87 := ext_cell q62 k56
  have k88 := ext_cell q62 k57
  have f89 : w3.frozen? ⟨w.heap.size + 1 + 1 + 1 + 1, 0, none⟩ = false := (q62.frozen (p := ⟨w.heap.size + 1 + 1 + 1 + 1, 0, none⟩) y36).trans f58
  have f90 : w3.frozen? ⟨w.heap.size + 1 + 1 + 1 + 1, 1, none⟩ = false := (q62.frozen (p := ⟨w.heap.size + 1 + 1 + 1 + 1, 1, none⟩) y36).trans f59
  have f91 : w3.frozen? ⟨w.heap.size + 1 + 1 + 1 + 1, 2, none⟩ = false := (q62.frozen (p := ⟨w.heap.size + 1 + 1 + 1 + 1, 2, none⟩) y36).trans f60
  have f92 : w3.frozen? ⟨w.heap.size + 1 + 1 + 1 + 1, 3, none⟩ = false := (q62.frozen (p := ⟨w.heap.size + 1 + 1 + 1 + 1, 3, none⟩) y36).trans f61
  clear k38 k39 k40 k41 k42 k43 k44 k45 k46 k47 k48 k49 k50 k51 k52 k53 k54 k55 k56 k57 y32 y33 y34 y35 y36 y37 f58 f59 f60 f61
  go_wp2_with fail
  rw [rounds_succ]
  go_wp2_with fail
  refine (impl_FractionOk _ _ _).mono ?_
  rintro en w4 ⟨rfl, hx4⟩
  have q93 : Ext w3 w4 := ext_trans (ext_alloc (ext_refl _) _) hx4
  have y94 : w.heap.size < w4.heap.size := Nat.lt_of_lt_of_le y63 q93.size
  have y95 : w.heap.size + 1 < w4.heap.size := Nat.lt_of_lt_of_le y64 q93.size
  have y96 : w.heap.size + 1 + 1 < w4.heap.size := Nat.lt_of_lt_of_le y65 q93.size
  have y97 : w.heap.size + 1 + 1 + 1 < w4.heap.size := Nat.lt_of_lt_of_le y66 q93.size
  have y98 : w.heap.size + 1 + 1 + 1 + 1 < w4.heap.size := Nat.lt_of_lt_of_le y67 q93.size
  have y99 : w.heap.size + 1 + 1 + 1 + 1 + 1 < w4.heap.size := Nat.lt_of_lt_of_le y68 q93.size
  have k100 := ext_cell q93 k69
  have k101 := ext_cell q93 k70
  have k102 := ext_cell q93 k71
  have k103 := ext_cell q93 k72
  have k104 := ext_cell q93 k73
  have k105 := ext_cell q93 k74
  have k106 := ext_cell q93 k75
  have k107 := ext_cell q93 k76
  have k108 := ext_cell q93 k77
  have k109 := ext_cell q93 k78
  have k110 := ext_cell q93 k79
  have k111 := ext_cell q93 k80
  have k112 := ext_cell q93 k81
  have k113 := ext_cell q93 k82
  have k114 := ext_cell q93 k83
  have k115 := ext_cell q93 k84
  have k116 := ext_cell q93 k85
  have k117 := ext_cell q93 k86
  have k118 := ext_cell q93 k87
  have k119 := ext_cell q93 k88
  have f120 : w4.frozen? ⟨w.heap.size + 1 + 1 + 1 + 1, 0, none⟩ = false := (q93.frozen (p := ⟨w.heap.size + 1 + 1 + 1 + 1, 0, none⟩) y67).trans f89
  have f121 : w4.frozen? ⟨w.heap.size + 1 + 1 + 1 + 1, 1, none⟩ = false := (q93.frozen (p := ⟨w.heap.size + 1 + 1 + 1 + 1, 1, none⟩) y67).trans f90
  have f122 : w4.frozen? ⟨w.heap.size + 1 + 1 + 1 + 1, 2, none⟩ = false := (q93.frozen (p := ⟨w.heap.size + 1 + 1 + 1 + 1, 2, none⟩) y67).trans f91
  have f123 : w4.frozen? ⟨w.heap.size + 1 + 1 + 1 + 1, 3, none⟩ = false := (q93.frozen (p := ⟨w.heap.size + 1 + 1 + 1 + 1, 3, none⟩) y67).trans f92
  clear k69 k70 k71 k72 k73 k74 k75 k76 k77 k78 k79 k80 k81 k82 k83 k84 k85 k86 k87 k88 y63 y64 y65 y66 y67 y68 f89 f90 f91 f92
  go_wp2_with fail
  rw [rounds_succ]
  go_wp2_with fail
  refine ((impl_minus' e f a b _)).mono ?_
  rintro en w5 ⟨rfl, hx5⟩
  have q124 : Ext w4 w5 := hx5
  have y125 : w.heap.size < w5.heap.size := Nat.lt_of_lt_of_le y94 q124.size
  have y126 : w.heap.size + 1 < w5.heap.size := Nat.lt_of_lt_of_le y95 q124.size
  have y127 : w.heap.size + 1 + 1 < w5.heap.size := Nat.lt_of_lt_of_le y96 q124.size
  have y128 : w.heap.size + 1 + 1 + 1 < w5.heap.size := Nat.lt_of_lt_of_le y97 q124.size
  have y129 : w.heap.size + 1 + 1 + 1 + 1 < w5.heap.size := Nat.lt_of_lt_of_le y98 q124.size
  have y130 : w.heap.size + 1 + 1 + 1 + 1 + 1 < w5.heap.size := Nat.lt_of_lt_of_le y99 q124.size
  have k131 := ext_cell q124 k100
  have k132 := ext_cell q124 k101
  have k133 := ext_cell q124 k102
  have k134 := ext_cell q124 k103
  have k135 := ext_cell q124 k104
  have k136 := ext_cell q124 k105
  have k137 := ext_cell q124 k106
  have k138 := ext_cell q124 k107
  have k139 := ext_cell q124 k108
  have k140 := ext_cell q124 k109
  have k141 := ext_cell q124 k110
  have k142 := ext_cell q124 k111
  have k143 := ext_cell q124 k112
  have k144 := ext_cell q124 k113
  have k145 := ext_cell q124 k114
  have k146 := ext_cell q124 k115
  have k147 := ext_cell q124 k116
  have k148 := ext_cell q124 k117
  have k149 := ext_cell q124 k118
  have k150 := ext_cell q124 k119
  have f151 : w5.frozen? ⟨w.heap.size + 1 + 1 + 1 + 1, 0, none⟩ = false := (q124.frozen (p := ⟨w.heap.size + 1 + 1 + 1 + 1, 0, none⟩) y98).trans f120
  have f152 : w5.frozen? ⟨w.heap.size + 1 + 1 + 1 + 1, 1, none⟩ = false := (q124.frozen (p := ⟨w.heap.size + 1 + 1 + 1 + 1, 1, none⟩) y98).trans f121
  have f153 : w5.frozen? ⟨w.heap.size + 1 + 1 + 1 + 1, 2, none⟩ = false := (q124.frozen (p := ⟨w.heap.size + 1 + 1 + 1 + 1, 2, none⟩) y98).trans f122
  have f154 : w5.frozen? ⟨w.heap.size + 1 + 1 + 1 + 1, 3, none⟩ = false := (q124.frozen (p := ⟨w.heap.size + 1 + 1 + 1 + 1, 3, none⟩) y98).trans f123
  clear k100 k101 k102 k103 k104 k105 k106 k107 k108 k109 k110 k111 k112 k113 k114 k115 k116 k117 k118 k119 y94 y95 y96 y97 y98 y99 f120 f121 f122 f123
  go_wp2_with fail
  refine ((impl_minus' g h c d _)).mono ?_
  rintro en w6 ⟨rfl, hx6⟩
  have q155 : Ext w5 w6 := ext_trans (ext_alloc (ext_refl _) _) hx6
  have y156 : w.heap.size < w6.heap.size := Nat.lt_of_lt_of_le y125 q155.size
  have y157 : w.heap.size + 1 < w6.heap.size := Nat.lt_of_lt_of_le y126 q155.size
  have y158 : w.heap.size + 1 + 1 < w6.heap.size := Nat.lt_of_lt_of_le y127 q155.size
  have y159 : w.heap.size + 1 + 1 + 1 < w6.heap.size := Nat.lt_of_lt_of_le y128 q155.size
  have y160 : w.heap.size + 1 + 1 + 1 + 1 < w6.heap.size := Nat.lt_of_lt_of_le y129 q155.size
  have y161 : w.heap.size + 1 + 1 + 1 + 1 + 1 < w6.heap.size := Nat.lt_of_lt_of_le y130 q155.size
  have k162 := ext_cell q155 k131
  have k163 := ext_cell q155 k132
  have k164 := ext_cell q155 k133
  have k165 := ext_cell q155 k134
  have k166 := ext_cell q155 k135
  have k167 := ext_cell q155 k136
  have k168 := ext_cell q155 k137
  have k169 := ext_cell q155 k138
  have k170 := ext_cell q155 k139
  have k171 := ext_cell q155 k140
  have k172 := ext_cell q155 k141
  have k173 := ext_cell q155 k142
  have k174 := ext_cell q155 k143
  have k175 := ext_cell q155 k144
  have k176 := ext_cell q155 k145
  have k177 := ext_cell q155 k146
  have k178 := ext_cell q155 k147
  have k179 := ext_cell q155 k148
  have k180 := ext_cell q155 k149
  have k181 := ext_cell q155 k150
  have f182 : w6.frozen? ⟨w.heap.size + 1 + 1 + 1 + 1, 0, none⟩ = false := (q155.frozen (p := ⟨w.heap.size + 1 + 1 + 1 + 1, 0, none⟩) y129).trans f151
  have f183 : w6.frozen? ⟨w.heap.size + 1 + 1 + 1 + 1, 1, none⟩ = false := (q155.frozen (p := ⟨w.heap.size + 1 + 1 + 1 + 1, 1, none⟩) y129).trans f152
  have f184 : w6.frozen? ⟨w.heap.size + 1 + 1 + 1 + 1, 2, none⟩ = false := (q155.frozen (p := ⟨w.heap.size + 1 + 1 + 1 + 1, 2, none⟩) y129).trans f153
  have f185 : w6.frozen? ⟨w.heap.size + 1 + 1 + 1 + 1, 3, none⟩ = false := (q155.frozen (p := ⟨w.heap.size + 1 + 1 + 1 + 1, 3, none⟩) y129).trans f154
  clear k131 k132 k133 k134 k135 k136 k137 k138 k139 k140 k141 k142 k143 k144 k145 k146 k147 k148 k149 k150 y125 y126 y127 y128 y129 y130 f151 f152 f153 f154
  have y186 : w5.heap.size < w6.heap.size := by have q := ext_size hx6; simp at q; omega
  have k187 := ext_cell hx6 (b := w5.heap.size) (off := 0) (v := .int .i64 (suT e f a b)) (by go_simp)
  have k188 := ext_cell hx6 (b := w5.heap.size) (off := 1) (v := .int .i64 (suB e f a b)) (by go_simp)
  go_wp2_with fail
  refine ((impl_over (suT g h c d) (suB g h c d) (suT e f a b) (suB e f a b) _)).mono ?_
  rintro en w7 ⟨rfl, hx7⟩
  rw [show ovT (suT g h c d) (suB g h c d) (suT e f a b) (suB e f a b) = ltUT a b c d e f g h from rfl, show ovB (suT g h c d) (suB g h c d) (suT e f a b) (suB e f a b) = ltUB a b c d e f g h from rfl, show ovOk (suT g h c d) (suB g h c d) (suT e f a b) (suB e f a b) = ltUOk a b c d e f g h from rfl]
  have q189 : Ext w6 w7 := ext_trans (ext_alloc (ext_refl _) _) hx7
  have y190 : w.heap.size < w7.heap.size := Nat.lt_of_lt_of_le y156 q189.size
  have y191 : w.heap.size + 1 < w7.heap.size := Nat.lt_of_lt_of_le y157 q189.size
  have y192 : w.heap.size + 1 + 1 < w7.heap.size := Nat.lt_of_lt_of_le y158 q189.size
  have y193 : w.heap.size + 1 + 1 + 1 < w7.heap.size := Nat.lt_of_lt_of_le y159 q189.size
  have y194 : w.heap.size + 1 + 1 + 1 + 1 < w7.heap.size := Nat.lt_of_lt_of_le y160 q189.size
  have y195 : w.heap.size + 1 + 1 + 1 + 1 + 1 < w7.heap.size := Nat.lt_of_lt_of_le y161 q189.size
  have y196 : w5.heap.size < w7.heap.size := Nat.lt_of_lt_of_le y186 q189.size
  have k197 := ext_cell q189 k162
  have k198 := ext_cell q189 k163
  have k199 := ext_cell q189 k164
  have k200 := ext_cell q189 k165
  have k201 := ext_cell q189 k166
  have k202 := ext_cell q189 k167
  have k203 := ext_cell q189 k168
  have k204 := ext_cell q189 k169
  have k205 := ext_cell q189 k170
  have k206 := ext_cell q189 k171
  have k207 := ext_cell q189 k172
  have k208 := ext_cell q189 k173
  have k209 := ext_cell q189 k174
  have k210 := ext_cell q189 k175
  have k211 := ext_cell q189 k176
  have k212 := ext_cell q189 k177
  have k213 := ext_cell q189 k178
  have k214 := ext_cell q189 k179
  have k215 := ext_cell q189 k180
  have k216 := ext_cell q189 k181
  have k217 := ext_cell q189 k187
  have k218 := ext_cell q189 k188
  have f219 : w7.frozen? ⟨w.heap.size + 1 + 1 + 1 + 1, 0, none⟩ = false := (q189.frozen (p := ⟨w.heap.size + 1 + 1 + 1 + 1, 0, none⟩) y160).trans f182
  have f220 : w7.frozen? ⟨w.heap.size + 1 + 1 + 1 + 1, 1, none⟩ = false := (q189.frozen (p := ⟨w.heap.size + 1 + 1 + 1 + 1, 1, none⟩) y160).trans f183
  have f221 : w7.frozen? ⟨w.heap.size + 1 + 1 + 1 + 1, 2, none⟩ = false := (q189.frozen (p := ⟨w.heap.size + 1 + 1 + 1 + 1, 2, none⟩) y160).trans f184
  have f222 : w7.frozen? ⟨w.heap.size + 1 + 1 + 1 + 1, 3, none⟩ = false := (q189.frozen (p := ⟨w.heap.size + 1 + 1 + 1 + 1, 3, none⟩) y160).trans f185
  clear k162 k163 k164 k165 k166 k167 k168 k169 k170 k171 k172 k173 k174 k175 k176 k177 k178 k179 k180 k181 k187 k188 y156 y157 y158 y159 y160 y161 y186 f182 f183 f184 f185
  have y223 : w6.heap.size < w7.heap.size := by have q := ext_size hx7; simp at q; omega
  have k224 := ext_cell hx7 (b := w6.heap.size) (off := 0) (v := .int .i64 (suT g h c d)) (by go_simp)
  have k225 := ext_cell hx7 (b := w6.heap.size) (off := 1) (v := .int .i64 (suB g h c d)) (by go_simp)
  go_wp2_with fail
  refine ((impl_TimesFractions (ltUT a b c d e f g h) (ltUB a b c d e f g h) a b _)).mono ?_
  rintro en w8 ⟨rfl, hx8⟩
  rw [show timT (ltUT a b c d e f g h) (ltUB a b c d e f g h) a b = ltPT a b c d e f g h from rfl, show timB (ltUT a b c d e f g h) (ltUB a b c d e f g h) a b = ltPB a b c d e f g h from rfl, show timOk (ltUT a b c d e f g h) (ltUB a b c d e f g h) a b = ltPOk a b c d e f g h from rfl]
  have q226 : Ext w7 w8 := ext_trans (ext_alloc (ext_refl _) _) hx8
  have y227 : w.heap.size < w8.heap.size := Nat.lt_of_lt_of_le y190 q226.size
  have y228 : w.heap.size + 1 < w8.heap.size := Nat.lt_of_lt_of_le y191 q226.size
  have y229 : w.heap.size + 1 + 1 < w8.heap.size := Nat.lt_of_lt_of_le y192 q226.size
  have y230 : w.heap.size + 1 + 1 + 1 < w8.heap.size := Nat.lt_of_lt_of_le y193 q226.size
  have y231 : w.heap.size + 1 + 1 + 1 + 1 < w8.heap.size := Nat.lt_of_lt_of_le y194 q226.size
  have y232 : w.heap.size + 1 + 1 + 1 + 1 + 1 < w8.heap.size := Nat.lt_of_lt_of_le y195 q226.size
  have y233 : w5.heap.size < w8.heap.size := Nat.lt_of_lt_of_le y196 q226.size
  have y234 : w6.heap.size < w8.heap.size := Nat.lt_of_lt_of_le y223 q226.size
  have k235 := ext_cell q226 k197
  have k236 := ext_cell q226 k198
  have k237 := ext_cell q226 k199
  have k238 := ext_cell q226 k200
  have k239 := ext_cell q226 k201
  have k240 := ext_cell q226 k202
  have k241 := ext_cell q226 k203
  have k242 := ext_cell q226 k204
  have k243 := ext_cell q226 k205
  have k244 := ext_cell q226 k206
  have k245 := ext_cell q226 k207
  have k246 := ext_cell q226 k208
  have k247 := ext_cell q226 k209
  have k248 := ext_cell q226 k210
  have k249 := ext_cell q226 k211
  have k250 := ext_cell q226 k212
  have k251 := ext_cell q226 k213
  have k252 := ext_cell q226 k214
  have k253 := ext_cell q226 k215
  have k254 := ext_cell q226 k216
  have k255 := ext_cell q226 k217
  have k256 := ext_cell q226 k218
  have k257 := ext_cell q226 k224
  have k258 := ext_cell q226 k225
  have f259 : w8.frozen? ⟨w.heap.size + 1 + 1 + 1 + 1, 0, none⟩ = false := (q226.frozen (p := ⟨w.heap.size + 1 + 1 + 1 + 1, 0, none⟩) y194).trans f219
  have f260 : w8.frozen? ⟨w.heap.size + 1 + 1 + 1 + 1, 1, none⟩ = false := (q226.frozen (p := ⟨w.heap.size + 1 + 1 + 1 + 1, 1, none⟩) y194).trans f220
  have f261 : w8.frozen? ⟨w.heap.size + 1 + 1 + 1 + 1, 2, none⟩ = false := (q226.frozen (p := ⟨w.heap.size + 1 + 1 + 1 + 1, 2, none⟩) y194).trans f221
  have f262 : w8.frozen? ⟨w.heap.size + 1 + 1 + 1 + 1, 3, none⟩ = false := (q226.frozen (p := ⟨w.heap.size + 1 + 1 + 1 + 1, 3, none⟩) y194).trans f222
  clear k197 k198 k199 k200 k201 k202 k203 k204 k205 k206 k207 k208 k209 k210 k211 k212 k213 k214 k215 k216 k217 k218 k224 k225 y190 y191 y192 y193 y194 y195 y196 y223 f219 f220 f221 f222
  have y263 : w7.heap.size < w8.heap.size := by have q := ext_size hx8; simp at q; omega
  have k264 := ext_cell hx8 (b := w7.heap.size) (off := 0) (v := .int .i64 (ltUT a b c d e f g h)) (by go_simp)
  have k265 := ext_cell hx8 (b := w7.heap.size) (off := 1) (v := .int .i64 (ltUB a b c d e f g h)) (by go_simp)
  go_wp2_with fail
  refine ((impl_minus' c d (ltPT a b c d e f g h) (ltPB a b c d e f g h) _)).mono ?_
  rintro en w9 ⟨rfl, hx9⟩
  rw [show suT c d (ltPT a b c d e f g h) (ltPB a b c d e f g h) = ltZT a b c d e f g h from rfl, show suB c d (ltPT a b c d e f g h) (ltPB a b c d e f g h) = ltZB a b c d e f g h from rfl, show suOk c d (ltPT a b c d e f g h) (ltPB a b c d e f g h) = ltZOk a b c d e f g h from rfl]
  have q266 : Ext w8 w9 := ext_trans (ext_alloc (ext_refl _) _) hx9
  have y267 : w.heap.size < w9.heap.size := Nat.lt_of_lt_of_le y227 q266.size
  have y268 : w.heap.size + 1 < w9.heap.size := Nat.lt_of_lt_of_le y228 q266.size
  have y269 : w.heap.size + 1 + 1 < w9.heap.size := Nat.lt_of_lt_of_le y229 q266.size
  have y270 : w.heap.size + 1 + 1 + 1 < w9.heap.size := Nat.lt_of_lt_of_le y230 q266.size
  have y271 : w.heap.size + 1 + 1 + 1 + 1 < w9.heap.size := Nat.lt_of_lt_of_le y231 q266.size
  have y272 : w.heap.size + 1 + 1 + 1 + 1 + 1 < w9.heap.size := Nat.lt_of_lt_of_le y232 q266.size
  have y273 : w5.heap.size < w9.heap.size := Nat.lt_of_lt_of_le y233 q266.size
  have y274 : w6.heap.size < w9.heap.size := Nat.lt_of_lt_of_le y234 q266.size
  have y275 : w7.heap.size < w9.heap.size := Nat.lt_of_lt_of_le y263 q266.size
  have k276 := ext_cell q266 k235
  have k277 := ext_cell q266 k236
  have k278 := ext_cell q266 k237
  have k279 := ext_cell q266 k238
  have k280 := ext_cell q266 k239
  have k281 := ext_cell q266 k240
  have k282 := ext_cell q266 k241
  have k283 := ext_cell q266 k242
  have k284 := ext_cell q266 k243
  have k285 := ext_cell q266 k244
  have k286 := ext_cell q266 k245
  have k287 := ext_cell q266 k246
  have k288 := ext_cell q266 k247
  have k289 := ext_cell q266 k248
  have k290 := ext_cell q266 k249
  have k291 := ext_cell q266 k250
  have k292 := ext_cell q266 k251
  have k293 := ext_cell q266 k252
  have k294 := ext_cell q266 k253
  have k295 := ext_cell q266 k254
  have k296 := ext_cell q266 k255
  have k297 := ext_cell q266 k256
  have k298 := ext_cell q266 k257
  have k299 := ext_cell q266 k258
  have k300 := ext_cell q266 k264
  have k301 := ext_cell q266 k265
  have f302 : w9.frozen? ⟨w.heap.size + 1 + 1 + 1 + 1, 0, none⟩ = false := (q266.frozen (p := ⟨w.heap.size + 1 + 1 + 1 + 1, 0, none⟩) y231).trans f259
  have f303 : w9.frozen? ⟨w.heap.size + 1 + 1 + 1 + 1, 1, none⟩ = false := (q266.frozen (p := ⟨w.heap.size + 1 + 1 + 1 + 1, 1, none⟩) y231).trans f260
  have f304 : w9.frozen? ⟨w.heap.size + 1 + 1 + 1 + 1, 2, none⟩ = false := (q266.frozen (p := ⟨w.heap.size + 1 + 1 + 1 + 1, 2, none⟩) y231).trans f261
  have f305 : w9.frozen? ⟨w.heap.size + 1 + 1 + 1 + 1, 3, none⟩ = false := (q266.frozen (p := ⟨w.heap.size + 1 + 1 + 1 + 1, 3, none⟩) y231).trans f262
  clear k235 k236 k237 k238 k239 k240 k241 k242 k243 k244 k245 k246 k247 k248 k249 k250 k251 k252 k253 k254 k255 k256 k257 k258 k264 k265 y227 y228 y229 y230 y231 y232 y233 y234 y263 f259 f260 f261 f262
  have y306 : w8.heap.size < w9.heap.size := by have q := ext_size hx9; simp at q; omega
  have k307 := ext_cell hx9 (b := w8.heap.size) (off := 0) (v := .int .i64 (ltPT a b c d e f g h)) (by go_simp)
  have k308 := ext_cell hx9 (b := w8.heap.size) (off := 1) (v := .int .i64 (ltPB a b c d e f g h)) (by go_simp)
  go_wp2_with fail
  refine (impl_LineOk _ _ _ _ _).mono ?_
  rintro en w10 ⟨rfl, hx10⟩
  have q309 : Ext w9 w10 := ext_trans (ext_alloc (ext_alloc (ext_refl _) _) _) hx10
  have y310 : w.heap.size < w10.heap.size := Nat.lt_of_lt_of_le y267 q309.size
  have y311 : w.heap.size + 1 < w10.heap.size := Nat.lt_of_lt_of_le y268 q309.size
  have y312 : w.heap.size + 1 + 1 < w10.heap.size := Nat.lt_of_lt_of_le y269 q309.size
  have y313 : w.heap.size + 1 + 1 + 1 < w10.heap.size := Nat.lt_of_lt_of_le y270 q309.size
  have y314 : w.heap.size + 1 + 1 + 1 + 1 < w10.heap.size := Nat.lt_of_lt_of_le y271 q309.size
  have y315 : w.heap.size + 1 + 1 + 1 + 1 + 1 < w10.heap.size := Nat.lt_of_lt_of_le y272 q309.size
  have y316 : w5.heap.size < w10.heap.size := Nat.lt_of_lt_of_le y273 q309.size
  have y317 : w6.heap.size < w10.heap.size := Nat.lt_of_lt_of_le y274 q309.size
  have y318 : w7.heap.size < w10.heap.size := Nat.lt_of_lt_of_le y275 q309.size
  have y319 : w8.heap.size < w10.heap.size := Nat.lt_of_lt_of_le y306 q309.size
  have k320 := ext_cell q309 k276
  have k321 := ext_cell q309 k277
  have k322 := ext_cell q309 k278
  have k323 := ext_cell q309 k279
  have k324 := ext_cell q309 k280
  have k325 := ext_cell q309 k281
  have k326 := ext_cell q309 k282
  have k327 := ext_cell q309 k283
  have k328 := ext_cell q309 k284
  have k329 := ext_cell q309 k285
  have k330 := ext_cell q309 k286
  have k331 := ext_cell q309 k287
  have k332 := ext_cell q309 k288
  have k333 := ext_cell q309 k289
  have k334 := ext_cell q309 k290
  have k335 := ext_cell q309 k291
  have k336 := ext_cell q309 k292
  have k337 := ext_cell q309 k293
  have k338 := ext_cell q309 k294
  have k339 := ext_cell q309 k295
  have k340 := ext_cell q309 k296
  have k341 := ext_cell q309 k297
  have k342 := ext_cell q309 k298
  have k343 := ext_cell q309 k299
  have k344 := ext_cell q309 k300
  have k345 := ext_cell q309 k301
  have k346 := ext_cell q309 k307
  have k347 := ext_cell q309 k308
  have f348 : w10.frozen? ⟨w.heap.size + 1 + 1 + 1 + 1, 0, none⟩ = false := (q309.frozen (p := ⟨w.heap.size + 1 + 1 + 1 + 1, 0, none⟩) y271).trans f302
  have f349 : w10.frozen? ⟨w.heap.size + 1 + 1 + 1 + 1, 1, none⟩ = false := (q309.frozen (p := ⟨w.heap.size + 1 + 1 + 1 + 1, 1, none⟩) y271).trans f303
  have f350 : w10.frozen? ⟨w.heap.size + 1 + 1 + 1 + 1, 2, none⟩ = false := (q309.frozen (p := ⟨w.heap.size + 1 + 1 + 1 + 1, 2, none⟩) y271).trans f304
  have f351 : w10.frozen? ⟨w.heap.size + 1 + 1 + 1 + 1, 3, none⟩ = false := (q309.frozen (p := ⟨w.heap.size + 1 + 1 + 1 + 1, 3, none⟩) y271).trans f305
  clear k276 k277 k278 k279 k280 k281 k282 k283 k284 k285 k286 k287 k288 k289 k290 k291 k292 k293 k294 k295 k296 k297 k298 k299 k300 k301 k307 k308 y267 y268 y269 y270 y271 y272 y273 y274 y275 y306 f302 f303 f304 f305
  have y352 : w9.heap.size + 1 < w10.heap.size := by have q := ext_size hx10; simp at q; omega
  have k353 := ext_cell hx10 (b := w9.heap.size + 1) (off := 0) (v := .int .i64 (ltZT a b c d e f g h)) (by go_simp)
  have k354 := ext_cell hx10 (b := w9.heap.size + 1) (off := 1) (v := .int .i64 (ltZB a b c d e f g h)) (by go_simp)
  have k355 := ext_cell hx10 (b := w9.heap.size + 1) (off := 2) (v := .int .i64 (ltUT a b c d e f g h)) (by go_simp)
  have k356 := ext_cell hx10 (b := w9.heap.size + 1) (off := 3) (v := .int .i64 (ltUB a b c d e f g h)) (by go_simp)
  go_wp2_with fail
  exact bodyPost_ret (v := .tuple #[lineV (ltZT a b c d e f g h) (ltZB a b c d e f g h) (ltUT a b c d e f g h) (ltUB a b c d e f g h), .bool true]) (by simp [results, Try.results28, go_sem, k328, k329, k330, k331, y314]) rfl ⟨rfl, (by repeat (first | (with_reducible exact ext_refl _) | (with_reducible refine ext_setCell ?_ ?_ _) | (with_reducible refine ext_alloc ?_ _) | (with_reducible refine ext_drewN ?_ _) | (with_reducible refine ext_drew ?_) | (with_reducible refine ext_trans ?_ (by assumption)) | (dsimp only; omega) | omega | (simp; omega)))⟩
end Go.Proofs.Ytefgdkjcoeikmaa
