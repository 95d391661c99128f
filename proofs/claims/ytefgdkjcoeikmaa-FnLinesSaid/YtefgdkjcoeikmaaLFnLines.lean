/- 'FnLines' is proved: correcting what an instrument shows gives the value back, and two points of a line determine it, for all arguments. No condition. -/
import Derived.Test.YtefgdkjcoeikmaaRow
import Derived.Test.YtefgdkjcoeikmaaAtB
import Derived.Test.YtefgdkjcoeikmaaDrawM
import Derived.Test.YtefgdkjcoeikmaaLinesQ
import Derived.Test.YtefgdkjcoeikmaaLine6
namespace Go.Proofs.Ytefgdkjcoeikmaa.fnLines
open Go.ChangeShapes Go.WideShapes Go.ChangeAt Go.RowKit
set_option linter.unusedVariables false
set_option linter.unusedSimpArgs false

set_option maxHeartbeats 12800000 in
set_option maxRecDepth 100000 in
theorem walk (w : World) (a0 : Option Addr) (n0 c0 : Nat) (X0 : Nat → Int) (w0 : BytesAt w a0 n0 X0) (b0 : n0 ≤ c0) (e0 : c0 ≤ maxLen) :
    Calls Try.prog 5 #[.slice a0 n0 c0] w fun e w' => e = .returned (.bool true) ∧ Ext w w' := by
  by_cases hbig : n0 ≤ 1048576
  · have hb : decide (1048576 < n0) = false := by simp; omega
    go_enter Try.func5, Try.ntmps5
    go_wp2_with fail
    refine (laws_big _ _ _ _).mono ?_
    rw [hb]
    rintro e u ⟨rfl, rfl⟩
    go_wp2_with fail
    refine (spec_DrawLines _ _ _ _ _ w0 hbig).mono ?_
    rintro e u1 ⟨p, q, r, s, p', q', r', s', t, b, rfl, ha, hb_, hv, hx1⟩
    obtain ⟨kS, vS⟩ := shown_small ha hv.v (M := 20) ⟨hv.2.1, hv.2.2.1⟩ (by omega) ⟨hv.2.2.2.1, hv.2.2.2.2⟩
    obtain ⟨kW, vW⟩ := one_more hv
    obtain ⟨kC, vZ, vU, vP, kL⟩ := chain_ok ha hb_
    generalize hS : shT p q r s t b = S at vS
    generalize hD : shB p q r s t b = D at vS
    generalize hW : addT t b 1 1 = W at vW
    generalize hE : addB t b 1 1 = E at vW
    obtain ⟨kB, eB1, eB2⟩ := corrected_back ha hv vS
    obtain ⟨kT, vT⟩ := shown_small ha vW (M := 32) (by have := hv.2.1; have := hv.2.2.1; have := hv.2.2.2; omega) (by omega) ⟨hv.2.2.2.1, hv.2.2.2.2⟩
    generalize hT2 : shT p q r s W E = T2 at vT
    generalize hD2 : shB p q r s W E = D2 at vT
    obtain ⟨kG, eG1, eG2, eG3, eG4⟩ := through_back ha hv vS vW vT
    have hsame := chain_same ha hb_ hv vS
    generalize hM1 : chZT p q r s p' q' r' s' = M1 at kL hsame
    generalize hM2 : chZB p q r s p' q' r' s' = M2 at kL hsame
    generalize hM3 : chUT p q r s p' q' r' s' = M3 at kL hsame
    generalize hM4 : chUB p q r s p' q' r' s' = M4 at kL hsame
    have HSAME := Lib.hid hsame
    clear hsame vZ vU vP vS vW vT
    have KS_ := Lib.hid kS
    have KW_ := Lib.hid kW
    have KC_ := Lib.hid kC
    have KL_ := Lib.hid kL
    have HS_ := Lib.hid hS
    have HD_ := Lib.hid hD
    have HW_ := Lib.hid hW
    have HE_ := Lib.hid hE
    have KB_ := Lib.hid kB
    have EB1_ := Lib.hid eB1
    have EB2_ := Lib.hid eB2
    have KT_ := Lib.hid kT
    have HT2_ := Lib.hid hT2
    have HD2_ := Lib.hid hD2
    have KG_ := Lib.hid kG
    have EG1_ := Lib.hid eG1
    have EG2_ := Lib.hid eG2
    have EG3_ := Lib.hid eG3
    have EG4_ := Lib.hid eG4
    have HM1_ := Lib.hid hM1
    have HM2_ := Lib.hid hM2
    have HM3_ := Lib.hid hM3
    have HM4_ := Lib.hid hM4
    clear kS kW kC kL hS hD hW hE kB eB1 eB2 kT hT2 hD2 kG eG1 eG2 eG3 eG4 hM1 hM2 hM3 hM4 ha hb_ hv
    have EX1 : Ext w (((u1.alloc (.cells #[.int .i64 p, .int .i64 q, .int .i64 r, .int .i64 s] 43)).alloc (.cells #[.int .i64 p', .int .i64 q', .int .i64 r', .int .i64 s'] 43)).alloc (.cells #[.int .i64 t, .int .i64 b] 41)) := ext_alloc (ext_alloc (ext_alloc hx1 _) _) _
    go_wp2_with fail
    refine (impl_Shown _ _ _ _ _ _ _).mono ?_
    rw [KS_.out, HS_.out, HD_.out]
    rintro e u2 ⟨rfl, hx2⟩
    have a0_0 : (((u1.alloc (.cells #[.int .i64 p, .int .i64 q, .int .i64 r, .int .i64 s] 43)).alloc (.cells #[.int .i64 p', .int .i64 q', .int .i64 r', .int .i64 s'] 43)).alloc (.cells #[.int .i64 t, .int .i64 b] 41)).cell? ⟨u1.heap.size, 0, none⟩ = some (.int .i64 p) := by go_simp
    have a0 := ext_cell hx2 a0_0
    clear a0_0
    have a1_0 : (((u1.alloc (.cells #[.int .i64 p, .int .i64 q, .int .i64 r, .int .i64 s] 43)).alloc (.cells #[.int .i64 p', .int .i64 q', .int .i64 r', .int .i64 s'] 43)).alloc (.cells #[.int .i64 t, .int .i64 b] 41)).cell? ⟨u1.heap.size, 1, none⟩ = some (.int .i64 q) := by go_simp
    have a1 := ext_cell hx2 a1_0
    clear a1_0
    have a2_0 : (((u1.alloc (.cells #[.int .i64 p, .int .i64 q, .int .i64 r, .int .i64 s] 43)).alloc (.cells #[.int .i64 p', .int .i64 q', .int .i64 r', .int .i64 s'] 43)).alloc (.cells #[.int .i64 t, .int .i64 b] 41)).cell? ⟨u1.heap.size, 2, none⟩ = some (.int .i64 r) := by go_simp
    have a2 := ext_cell hx2 a2_0
    clear a2_0
    have a3_0 : (((u1.alloc (.cells #[.int .i64 p, .int .i64 q, .int .i64 r, .int .i64 s] 43)).alloc (.cells #[.int .i64 p', .int .i64 q', .int .i64 r', .int .i64 s'] 43)).alloc (.cells #[.int .i64 t, .int .i64 b] 41)).cell? ⟨u1.heap.size, 3, none⟩ = some (.int .i64 s) := by go_simp
    have a3 := ext_cell hx2 a3_0
    clear a3_0
    have za := World.block_lt_of_cell? _ _ a0
    have b0_0 : (((u1.alloc (.cells #[.int .i64 p, .int .i64 q, .int .i64 r, .int .i64 s] 43)).alloc (.cells #[.int .i64 p', .int .i64 q', .int .i64 r', .int .i64 s'] 43)).alloc (.cells #[.int .i64 t, .int .i64 b] 41)).cell? ⟨u1.heap.size + 1, 0, none⟩ = some (.int .i64 p') := by go_simp
    have b0 := ext_cell hx2 b0_0
    clear b0_0
    have b1_0 : (((u1.alloc (.cells #[.int .i64 p, .int .i64 q, .int .i64 r, .int .i64 s] 43)).alloc (.cells #[.int .i64 p', .int .i64 q', .int .i64 r', .int .i64 s'] 43)).alloc (.cells #[.int .i64 t, .int .i64 b] 41)).cell? ⟨u1.heap.size + 1, 1, none⟩ = some (.int .i64 q') := by go_simp
    have b1 := ext_cell hx2 b1_0
    clear b1_0
    have b2_0 : (((u1.alloc (.cells #[.int .i64 p, .int .i64 q, .int .i64 r, .int .i64 s] 43)).alloc (.cells #[.int .i64 p', .int .i64 q', .int .i64 r', .int .i64 s'] 43)).alloc (.cells #[.int .i64 t, .int .i64 b] 41)).cell? ⟨u1.heap.size + 1, 2, none⟩ = some (.int .i64 r') := by go_simp
    have b2 := ext_cell hx2 b2_0
    clear b2_0
    have b3_0 : (((u1.alloc (.cells #[.int .i64 p, .int .i64 q, .int .i64 r, .int .i64 s] 43)).alloc (.cells #[.int .i64 p', .int .i64 q', .int .i64 r', .int .i64 s'] 43)).alloc (.cells #[.int .i64 t, .int .i64 b] 41)).cell? ⟨u1.heap.size + 1, 3, none⟩ = some (.int .i64 s') := by go_simp
    have b3 := ext_cell hx2 b3_0
    clear b3_0
    have zb := World.block_lt_of_cell? _ _ b0
    have v0_0 : (((u1.alloc (.cells #[.int .i64 p, .int .i64 q, .int .i64 r, .int .i64 s] 43)).alloc (.cells #[.int .i64 p', .int .i64 q', .int .i64 r', .int .i64 s'] 43)).alloc (.cells #[.int .i64 t, .int .i64 b] 41)).cell? ⟨u1.heap.size + 2, 0, none⟩ = some (.int .i64 t) := by go_simp
    have v0 := ext_cell hx2 v0_0
    clear v0_0
    have v1_0 : (((u1.alloc (.cells #[.int .i64 p, .int .i64 q, .int .i64 r, .int .i64 s] 43)).alloc (.cells #[.int .i64 p', .int .i64 q', .int .i64 r', .int .i64 s'] 43)).alloc (.cells #[.int .i64 t, .int .i64 b] 41)).cell? ⟨u1.heap.size + 2, 1, none⟩ = some (.int .i64 b) := by go_simp
    have v1 := ext_cell hx2 v1_0
    clear v1_0
    have zv := World.block_lt_of_cell? _ _ v0
    have EX2 : Ext w (u2.alloc (.cells #[.int .i64 S, .int .i64 D] 41)) := ext_alloc (ext_trans EX1 hx2) _
    clear hx2
    go_wp2_with fail
    refine (impl_Corrected _ _ _ _ _ _ _).mono ?_
    rw [KB_.out, EB1_.out, EB2_.out]
    rintro e u3 ⟨rfl, hx3⟩
    replace a0 := ext_cell (ext_trans (ext_alloc (ext_refl _) _) hx3) a0
    replace a1 := ext_cell (ext_trans (ext_alloc (ext_refl _) _) hx3) a1
    replace a2 := ext_cell (ext_trans (ext_alloc (ext_refl _) _) hx3) a2
    replace a3 := ext_cell (ext_trans (ext_alloc (ext_refl _) _) hx3) a3
    clear za
    have za := World.block_lt_of_cell? _ _ a0
    replace b0 := ext_cell (ext_trans (ext_alloc (ext_refl _) _) hx3) b0
    replace b1 := ext_cell (ext_trans (ext_alloc (ext_refl _) _) hx3) b1
    replace b2 := ext_cell (ext_trans (ext_alloc (ext_refl _) _) hx3) b2
    replace b3 := ext_cell (ext_trans (ext_alloc (ext_refl _) _) hx3) b3
    clear zb
    have zb := World.block_lt_of_cell? _ _ b0
    replace v0 := ext_cell (ext_trans (ext_alloc (ext_refl _) _) hx3) v0
    replace v1 := ext_cell (ext_trans (ext_alloc (ext_refl _) _) hx3) v1
    clear zv
    have zv := World.block_lt_of_cell? _ _ v0
    have s0_0 : (u2.alloc (.cells #[.int .i64 S, .int .i64 D] 41)).cell? ⟨u2.heap.size, 0, none⟩ = some (.int .i64 S) := by go_simp
    have s0 := ext_cell hx3 s0_0
    clear s0_0
    have s1_0 : (u2.alloc (.cells #[.int .i64 S, .int .i64 D] 41)).cell? ⟨u2.heap.size, 1, none⟩ = some (.int .i64 D) := by go_simp
    have s1 := ext_cell hx3 s1_0
    clear s1_0
    have zs := World.block_lt_of_cell? _ _ s0
    have EX3 : Ext w (u3.alloc (.cells #[.int .i64 t, .int .i64 b] 41)) := ext_alloc (ext_trans EX2 hx3) _
    clear hx3
    go_wp2_with fail
    refine (impl_AddFractions _ _ _ _ _).mono ?_
    rw [KW_.out, HW_.out, HE_.out]
    rintro e u4 ⟨rfl, hx4⟩
    replace a0 := ext_cell (ext_trans (ext_alloc (ext_refl _) _) hx4) a0
    replace a1 := ext_cell (ext_trans (ext_alloc (ext_refl _) _) hx4) a1
    replace a2 := ext_cell (ext_trans (ext_alloc (ext_refl _) _) hx4) a2
    replace a3 := ext_cell (ext_trans (ext_alloc (ext_refl _) _) hx4) a3
    clear za
    have za := World.block_lt_of_cell? _ _ a0
    replace b0 := ext_cell (ext_trans (ext_alloc (ext_refl _) _) hx4) b0
    replace b1 := ext_cell (ext_trans (ext_alloc (ext_refl _) _) hx4) b1
    replace b2 := ext_cell (ext_trans (ext_alloc (ext_refl _) _) hx4) b2
    replace b3 := ext_cell (ext_trans (ext_alloc (ext_refl _) _) hx4) b3
    clear zb
    have zb := World.block_lt_of_cell? _ _ b0
    replace v0 := ext_cell (ext_trans (ext_alloc (ext_refl _) _) hx4) v0
    replace v1 := ext_cell (ext_trans (ext_alloc (ext_refl _) _) hx4) v1
    clear zv
    have zv := World.block_lt_of_cell? _ _ v0
    replace s0 := ext_cell (ext_trans (ext_alloc (ext_refl _) _) hx4) s0
    replace s1 := ext_cell (ext_trans (ext_alloc (ext_refl _) _) hx4) s1
    clear zs
    have zs := World.block_lt_of_cell? _ _ s0
    have c0_0 : (u3.alloc (.cells #[.int .i64 t, .int .i64 b] 41)).cell? ⟨u3.heap.size, 0, none⟩ = some (.int .i64 t) := by go_simp
    have c0 := ext_cell hx4 c0_0
    clear c0_0
    have c1_0 : (u3.alloc (.cells #[.int .i64 t, .int .i64 b] 41)).cell? ⟨u3.heap.size, 1, none⟩ = some (.int .i64 b) := by go_simp
    have c1 := ext_cell hx4 c1_0
    clear c1_0
    have zc := World.block_lt_of_cell? _ _ c0
    have EX4 : Ext w (u4.alloc (.cells #[.int .i64 W, .int .i64 E] 41)) := ext_alloc (ext_trans EX3 hx4) _
    clear hx4
    go_wp2_with fail
    refine (impl_Shown _ _ _ _ _ _ _).mono ?_
    rw [KT_.out, HT2_.out, HD2_.out]
    rintro e u5 ⟨rfl, hx5⟩
    replace a0 := ext_cell (ext_trans (ext_alloc (ext_refl _) _) hx5) a0
    replace a1 := ext_cell (ext_trans (ext_alloc (ext_refl _) _) hx5) a1
    replace a2 := ext_cell (ext_trans (ext_alloc (ext_refl _) _) hx5) a2
    replace a3 := ext_cell (ext_trans (ext_alloc (ext_refl _) _) hx5) a3
    clear za
    have za := World.block_lt_of_cell? _ _ a0
    replace b0 := ext_cell (ext_trans (ext_alloc (ext_refl _) _) hx5) b0
    replace b1 := ext_cell (ext_trans (ext_alloc (ext_refl _) _) hx5) b1
    replace b2 := ext_cell (ext_trans (ext_alloc (ext_refl _) _) hx5) b2
    replace b3 := ext_cell (ext_trans (ext_alloc (ext_refl _) _) hx5) b3
    clear zb
    have zb := World.block_lt_of_cell? _ _ b0
    replace v0 := ext_cell (ext_trans (ext_alloc (ext_refl _) _) hx5) v0
    replace v1 := ext_cell (ext_trans (ext_alloc (ext_refl _) _) hx5) v1
    clear zv
    have zv := World.block_lt_of_cell? _ _ v0
    replace s0 := ext_cell (ext_trans (ext_alloc (ext_refl _) _) hx5) s0
    replace s1 := ext_cell (ext_trans (ext_alloc (ext_refl _) _) hx5) s1
    clear zs
    have zs := World.block_lt_of_cell? _ _ s0
    replace c0 := ext_cell (ext_trans (ext_alloc (ext_refl _) _) hx5) c0
    replace c1 := ext_cell (ext_trans (ext_alloc (ext_refl _) _) hx5) c1
    clear zc
    have zc := World.block_lt_of_cell? _ _ c0
    have w_0_0 : (u4.alloc (.cells #[.int .i64 W, .int .i64 E] 41)).cell? ⟨u4.heap.size, 0, none⟩ = some (.int .i64 W) := by go_simp
    have w_0 := ext_cell hx5 w_0_0
    clear w_0_0
    have w_1_0 : (u4.alloc (.cells #[.int .i64 W, .int .i64 E] 41)).cell? ⟨u4.heap.size, 1, none⟩ = some (.int .i64 E) := by go_simp
    have w_1 := ext_cell hx5 w_1_0
    clear w_1_0
    have zw_ := World.block_lt_of_cell? _ _ w_0
    have EX5 : Ext w (u5.alloc (.cells #[.int .i64 T2, .int .i64 D2] 41)) := ext_alloc (ext_trans EX4 hx5) _
    clear hx5
    go_wp2_with fail
    refine (impl_LineThrough _ _ _ _ _ _ _ _ _).mono ?_
    rw [lt_yes KG_.out, EG1_.out, EG2_.out, EG3_.out, EG4_.out]
    rintro e u6 ⟨rfl, hx6⟩
    replace a0 := ext_cell (ext_trans (ext_alloc (ext_refl _) _) hx6) a0
    replace a1 := ext_cell (ext_trans (ext_alloc (ext_refl _) _) hx6) a1
    replace a2 := ext_cell (ext_trans (ext_alloc (ext_refl _) _) hx6) a2
    replace a3 := ext_cell (ext_trans (ext_alloc (ext_refl _) _) hx6) a3
    clear za
    have za := World.block_lt_of_cell? _ _ a0
    replace b0 := ext_cell (ext_trans (ext_alloc (ext_refl _) _) hx6) b0
    replace b1 := ext_cell (ext_trans (ext_alloc (ext_refl _) _) hx6) b1
    replace b2 := ext_cell (ext_trans (ext_alloc (ext_refl _) _) hx6) b2
    replace b3 := ext_cell (ext_trans (ext_alloc (ext_refl _) _) hx6) b3
    clear zb
    have zb := World.block_lt_of_cell? _ _ b0
    replace v0 := ext_cell (ext_trans (ext_alloc (ext_refl _) _) hx6) v0
    replace v1 := ext_cell (ext_trans (ext_alloc (ext_refl _) _) hx6) v1
    clear zv
    have zv := World.block_lt_of_cell? _ _ v0
    replace s0 := ext_cell (ext_trans (ext_alloc (ext_refl _) _) hx6) s0
    replace s1 := ext_cell (ext_trans (ext_alloc (ext_refl _) _) hx6) s1
    clear zs
    have zs := World.block_lt_of_cell? _ _ s0
    replace c0 := ext_cell (ext_trans (ext_alloc (ext_refl _) _) hx6) c0
    replace c1 := ext_cell (ext_trans (ext_alloc (ext_refl _) _) hx6) c1
    clear zc
    have zc := World.block_lt_of_cell? _ _ c0
    replace w_0 := ext_cell (ext_trans (ext_alloc (ext_refl _) _) hx6) w_0
    replace w_1 := ext_cell (ext_trans (ext_alloc (ext_refl _) _) hx6) w_1
    clear zw_
    have zw_ := World.block_lt_of_cell? _ _ w_0
    have t_0_0 : (u5.alloc (.cells #[.int .i64 T2, .int .i64 D2] 41)).cell? ⟨u5.heap.size, 0, none⟩ = some (.int .i64 T2) := by go_simp
    have t_0 := ext_cell hx6 t_0_0
    clear t_0_0
    have t_1_0 : (u5.alloc (.cells #[.int .i64 T2, .int .i64 D2] 41)).cell? ⟨u5.heap.size, 1, none⟩ = some (.int .i64 D2) := by go_simp
    have t_1 := ext_cell hx6 t_1_0
    clear t_1_0
    have zt_ := World.block_lt_of_cell? _ _ t_0
    have EX6 : Ext w (u6.alloc (.cells #[.int .i64 p, .int .i64 q, .int .i64 r, .int .i64 s] 43)) := ext_alloc (ext_trans EX5 hx6) _
    clear hx6
    go_wp2_with fail
    refine (impl_ChainLines _ _ _ _ _ _ _ _ _).mono ?_
    rw [KC_.out, HM1_.out, HM2_.out, HM3_.out, HM4_.out]
    rintro e u7 ⟨rfl, hx7⟩
    replace a0 := ext_cell (ext_trans (ext_alloc (ext_refl _) _) hx7) a0
    replace a1 := ext_cell (ext_trans (ext_alloc (ext_refl _) _) hx7) a1
    replace a2 := ext_cell (ext_trans (ext_alloc (ext_refl _) _) hx7) a2
    replace a3 := ext_cell (ext_trans (ext_alloc (ext_refl _) _) hx7) a3
    clear za
    have za := World.block_lt_of_cell? _ _ a0
    replace b0 := ext_cell (ext_trans (ext_alloc (ext_refl _) _) hx7) b0
    replace b1 := ext_cell (ext_trans (ext_alloc (ext_refl _) _) hx7) b1
    replace b2 := ext_cell (ext_trans (ext_alloc (ext_refl _) _) hx7) b2
    replace b3 := ext_cell (ext_trans (ext_alloc (ext_refl _) _) hx7) b3
    clear zb
    have zb := World.block_lt_of_cell? _ _ b0
    replace v0 := ext_cell (ext_trans (ext_alloc (ext_refl _) _) hx7) v0
    replace v1 := ext_cell (ext_trans (ext_alloc (ext_refl _) _) hx7) v1
    clear zv
    have zv := World.block_lt_of_cell? _ _ v0
    replace s0 := ext_cell (ext_trans (ext_alloc (ext_refl _) _) hx7) s0
    replace s1 := ext_cell (ext_trans (ext_alloc (ext_refl _) _) hx7) s1
    clear zs
    have zs := World.block_lt_of_cell? _ _ s0
    replace c0 := ext_cell (ext_trans (ext_alloc (ext_refl _) _) hx7) c0
    replace c1 := ext_cell (ext_trans (ext_alloc (ext_refl _) _) hx7) c1
    clear zc
    have zc := World.block_lt_of_cell? _ _ c0
    replace w_0 := ext_cell (ext_trans (ext_alloc (ext_refl _) _) hx7) w_0
    replace w_1 := ext_cell (ext_trans (ext_alloc (ext_refl _) _) hx7) w_1
    clear zw_
    have zw_ := World.block_lt_of_cell? _ _ w_0
    replace t_0 := ext_cell (ext_trans (ext_alloc (ext_refl _) _) hx7) t_0
    replace t_1 := ext_cell (ext_trans (ext_alloc (ext_refl _) _) hx7) t_1
    clear zt_
    have zt_ := World.block_lt_of_cell? _ _ t_0
    have l0_0 : (u6.alloc (.cells #[.int .i64 p, .int .i64 q, .int .i64 r, .int .i64 s] 43)).cell? ⟨u6.heap.size, 0, none⟩ = some (.int .i64 p) := by go_simp
    have l0 := ext_cell hx7 l0_0
    clear l0_0
    have l1_0 : (u6.alloc (.cells #[.int .i64 p, .int .i64 q, .int .i64 r, .int .i64 s] 43)).cell? ⟨u6.heap.size, 1, none⟩ = some (.int .i64 q) := by go_simp
    have l1 := ext_cell hx7 l1_0
    clear l1_0
    have l2_0 : (u6.alloc (.cells #[.int .i64 p, .int .i64 q, .int .i64 r, .int .i64 s] 43)).cell? ⟨u6.heap.size, 2, none⟩ = some (.int .i64 r) := by go_simp
    have l2 := ext_cell hx7 l2_0
    clear l2_0
    have l3_0 : (u6.alloc (.cells #[.int .i64 p, .int .i64 q, .int .i64 r, .int .i64 s] 43)).cell? ⟨u6.heap.size, 3, none⟩ = some (.int .i64 s) := by go_simp
    have l3 := ext_cell hx7 l3_0
    clear l3_0
    have zl := World.block_lt_of_cell? _ _ l0
    have EX7 : Ext w (u7.alloc (.cells #[.int .i64 M1, .int .i64 M2, .int .i64 M3, .int .i64 M4] 43)) := ext_alloc (ext_trans EX6 hx7) _
    clear hx7
    go_wp2_with fail
    refine (impl_Shown _ _ _ _ _ _ _).mono ?_
    generalize h7 : shOk p' q' r' s' S D = o7
    generalize h71 : shT p' q' r' s' S D = X1
    generalize h72 : shB p' q' r' s' S D = Y1
    have H7 := Lib.hid h7
    have H71 := Lib.hid h71
    have H72 := Lib.hid h72
    clear h7 h71 h72
    rintro e u8 ⟨rfl, hx8⟩
    replace a0 := ext_cell (ext_trans (ext_alloc (ext_refl _) _) hx8) a0
    replace a1 := ext_cell (ext_trans (ext_alloc (ext_refl _) _) hx8) a1
    replace a2 := ext_cell (ext_trans (ext_alloc (ext_refl _) _) hx8) a2
    replace a3 := ext_cell (ext_trans (ext_alloc (ext_refl _) _) hx8) a3
    clear za
    have za := World.block_lt_of_cell? _ _ a0
    replace b0 := ext_cell (ext_trans (ext_alloc (ext_refl _) _) hx8) b0
    replace b1 := ext_cell (ext_trans (ext_alloc (ext_refl _) _) hx8) b1
    replace b2 := ext_cell (ext_trans (ext_alloc (ext_refl _) _) hx8) b2
    replace b3 := ext_cell (ext_trans (ext_alloc (ext_refl _) _) hx8) b3
    clear zb
    have zb := World.block_lt_of_cell? _ _ b0
    replace v0 := ext_cell (ext_trans (ext_alloc (ext_refl _) _) hx8) v0
    replace v1 := ext_cell (ext_trans (ext_alloc (ext_refl _) _) hx8) v1
    clear zv
    have zv := World.block_lt_of_cell? _ _ v0
    replace s0 := ext_cell (ext_trans (ext_alloc (ext_refl _) _) hx8) s0
    replace s1 := ext_cell (ext_trans (ext_alloc (ext_refl _) _) hx8) s1
    clear zs
    have zs := World.block_lt_of_cell? _ _ s0
    replace c0 := ext_cell (ext_trans (ext_alloc (ext_refl _) _) hx8) c0
    replace c1 := ext_cell (ext_trans (ext_alloc (ext_refl _) _) hx8) c1
    clear zc
    have zc := World.block_lt_of_cell? _ _ c0
    replace w_0 := ext_cell (ext_trans (ext_alloc (ext_refl _) _) hx8) w_0
    replace w_1 := ext_cell (ext_trans (ext_alloc (ext_refl _) _) hx8) w_1
    clear zw_
    have zw_ := World.block_lt_of_cell? _ _ w_0
    replace t_0 := ext_cell (ext_trans (ext_alloc (ext_refl _) _) hx8) t_0
    replace t_1 := ext_cell (ext_trans (ext_alloc (ext_refl _) _) hx8) t_1
    clear zt_
    have zt_ := World.block_lt_of_cell? _ _ t_0
    replace l0 := ext_cell (ext_trans (ext_alloc (ext_refl _) _) hx8) l0
    replace l1 := ext_cell (ext_trans (ext_alloc (ext_refl _) _) hx8) l1
    replace l2 := ext_cell (ext_trans (ext_alloc (ext_refl _) _) hx8) l2
    replace l3 := ext_cell (ext_trans (ext_alloc (ext_refl _) _) hx8) l3
    clear zl
    have zl := World.block_lt_of_cell? _ _ l0
    have m0_0 : (u7.alloc (.cells #[.int .i64 M1, .int .i64 M2, .int .i64 M3, .int .i64 M4] 43)).cell? ⟨u7.heap.size, 0, none⟩ = some (.int .i64 M1) := by go_simp
    have m0 := ext_cell hx8 m0_0
    clear m0_0
    have m1_0 : (u7.alloc (.cells #[.int .i64 M1, .int .i64 M2, .int .i64 M3, .int .i64 M4] 43)).cell? ⟨u7.heap.size, 1, none⟩ = some (.int .i64 M2) := by go_simp
    have m1 := ext_cell hx8 m1_0
    clear m1_0
    have m2_0 : (u7.alloc (.cells #[.int .i64 M1, .int .i64 M2, .int .i64 M3, .int .i64 M4] 43)).cell? ⟨u7.heap.size, 2, none⟩ = some (.int .i64 M3) := by go_simp
    have m2 := ext_cell hx8 m2_0
    clear m2_0
    have m3_0 : (u7.alloc (.cells #[.int .i64 M1, .int .i64 M2, .int .i64 M3, .int .i64 M4] 43)).cell? ⟨u7.heap.size, 3, none⟩ = some (.int .i64 M4) := by go_simp
    have m3 := ext_cell hx8 m3_0
    clear m3_0
    have zm := World.block_lt_of_cell? _ _ m0
    have EX8 : Ext w (u8.alloc (.cells #[.int .i64 X1, .int .i64 Y1] 41)) := ext_alloc (ext_trans EX7 hx8) _
    clear hx8
    go_wp2_with fail
    refine (impl_Shown _ _ _ _ _ _ _).mono ?_
    generalize h8 : shOk M1 M2 M3 M4 t b = o8
    generalize h81 : shT M1 M2 M3 M4 t b = X2
    generalize h82 : shB M1 M2 M3 M4 t b = Y2
    have H8 := Lib.hid h8
    have H81 := Lib.hid h81
    have H82 := Lib.hid h82
    clear h8 h81 h82
    rintro e u9 ⟨rfl, hx9⟩
    replace a0 := ext_cell (ext_trans (ext_alloc (ext_refl _) _) hx9) a0
    replace a1 := ext_cell (ext_trans (ext_alloc (ext_refl _) _) hx9) a1
    replace a2 := ext_cell (ext_trans (ext_alloc (ext_refl _) _) hx9) a2
    replace a3 := ext_cell (ext_trans (ext_alloc (ext_refl _) _) hx9) a3
    clear za
    have za := World.block_lt_of_cell? _ _ a0
    replace b0 := ext_cell (ext_trans (ext_alloc (ext_refl _) _) hx9) b0
    replace b1 := ext_cell (ext_trans (ext_alloc (ext_refl _) _) hx9) b1
    replace b2 := ext_cell (ext_trans (ext_alloc (ext_refl _) _) hx9) b2
    replace b3 := ext_cell (ext_trans (ext_alloc (ext_refl _) _) hx9) b3
    clear zb
    have zb := World.block_lt_of_cell? _ _ b0
    replace v0 := ext_cell (ext_trans (ext_alloc (ext_refl _) _) hx9) v0
    replace v1 := ext_cell (ext_trans (ext_alloc (ext_refl _) _) hx9) v1
    clear zv
    have zv := World.block_lt_of_cell? _ _ v0
    replace s0 := ext_cell (ext_trans (ext_alloc (ext_refl _) _) hx9) s0
    replace s1 := ext_cell (ext_trans (ext_alloc (ext_refl _) _) hx9) s1
    clear zs
    have zs := World.block_lt_of_cell? _ _ s0
    replace c0 := ext_cell (ext_trans (ext_alloc (ext_refl _) _) hx9) c0
    replace c1 := ext_cell (ext_trans (ext_alloc (ext_refl _) _) hx9) c1
    clear zc
    have zc := World.block_lt_of_cell? _ _ c0
    replace w_0 := ext_cell (ext_trans (ext_alloc (ext_refl _) _) hx9) w_0
    replace w_1 := ext_cell (ext_trans (ext_alloc (ext_refl _) _) hx9) w_1
    clear zw_
    have zw_ := World.block_lt_of_cell? _ _ w_0
    replace t_0 := ext_cell (ext_trans (ext_alloc (ext_refl _) _) hx9) t_0
    replace t_1 := ext_cell (ext_trans (ext_alloc (ext_refl _) _) hx9) t_1
    clear zt_
    have zt_ := World.block_lt_of_cell? _ _ t_0
    replace l0 := ext_cell (ext_trans (ext_alloc (ext_refl _) _) hx9) l0
    replace l1 := ext_cell (ext_trans (ext_alloc (ext_refl _) _) hx9) l1
    replace l2 := ext_cell (ext_trans (ext_alloc (ext_refl _) _) hx9) l2
    replace l3 := ext_cell (ext_trans (ext_alloc (ext_refl _) _) hx9) l3
    clear zl
    have zl := World.block_lt_of_cell? _ _ l0
    replace m0 := ext_cell (ext_trans (ext_alloc (ext_refl _) _) hx9) m0
    replace m1 := ext_cell (ext_trans (ext_alloc (ext_refl _) _) hx9) m1
    replace m2 := ext_cell (ext_trans (ext_alloc (ext_refl _) _) hx9) m2
    replace m3 := ext_cell (ext_trans (ext_alloc (ext_refl _) _) hx9) m3
    clear zm
    have zm := World.block_lt_of_cell? _ _ m0
    have x0_0 : (u8.alloc (.cells #[.int .i64 X1, .int .i64 Y1] 41)).cell? ⟨u8.heap.size, 0, none⟩ = some (.int .i64 X1) := by go_simp
    have x0 := ext_cell hx9 x0_0
    clear x0_0
    have x1_0 : (u8.alloc (.cells #[.int .i64 X1, .int .i64 Y1] 41)).cell? ⟨u8.heap.size, 1, none⟩ = some (.int .i64 Y1) := by go_simp
    have x1 := ext_cell hx9 x1_0
    clear x1_0
    have zx := World.block_lt_of_cell? _ _ x0
    have EX9 : Ext w (u9.alloc (.cells #[.int .i64 X2, .int .i64 Y2] 41)) := ext_alloc (ext_trans EX8 hx9) _
    clear hx9
    have HE := Lib.hid (show o7 = true → o8 = true → X1 = X2 ∧ Y1 = Y2 from fun g1 g2 => by
      have := HSAME.out (H7.out.trans g1) (H8.out.trans g2)
      rw [H71.out, H72.out, H81.out, H82.out] at this; exact this)
    clear HSAME
    have y0 : (u9.alloc (.cells #[.int .i64 X2, .int .i64 Y2] 41)).cell? ⟨u9.heap.size, 0, none⟩ = some (.int .i64 X2) := by go_simp
    have y1 : (u9.alloc (.cells #[.int .i64 X2, .int .i64 Y2] 41)).cell? ⟨u9.heap.size, 1, none⟩ = some (.int .i64 Y2) := by go_simp
    clear za
    replace a0 := ext_cell (ext_alloc (ext_refl _) (.cells #[.int .i64 X2, .int .i64 Y2] 41)) a0
    replace a1 := ext_cell (ext_alloc (ext_refl _) (.cells #[.int .i64 X2, .int .i64 Y2] 41)) a1
    replace a2 := ext_cell (ext_alloc (ext_refl _) (.cells #[.int .i64 X2, .int .i64 Y2] 41)) a2
    replace a3 := ext_cell (ext_alloc (ext_refl _) (.cells #[.int .i64 X2, .int .i64 Y2] 41)) a3
    clear zb
    replace b0 := ext_cell (ext_alloc (ext_refl _) (.cells #[.int .i64 X2, .int .i64 Y2] 41)) b0
    replace b1 := ext_cell (ext_alloc (ext_refl _) (.cells #[.int .i64 X2, .int .i64 Y2] 41)) b1
    replace b2 := ext_cell (ext_alloc (ext_refl _) (.cells #[.int .i64 X2, .int .i64 Y2] 41)) b2
    replace b3 := ext_cell (ext_alloc (ext_refl _) (.cells #[.int .i64 X2, .int .i64 Y2] 41)) b3
    clear zv
    replace v0 := ext_cell (ext_alloc (ext_refl _) (.cells #[.int .i64 X2, .int .i64 Y2] 41)) v0
    replace v1 := ext_cell (ext_alloc (ext_refl _) (.cells #[.int .i64 X2, .int .i64 Y2] 41)) v1
    clear zs
    replace s0 := ext_cell (ext_alloc (ext_refl _) (.cells #[.int .i64 X2, .int .i64 Y2] 41)) s0
    replace s1 := ext_cell (ext_alloc (ext_refl _) (.cells #[.int .i64 X2, .int .i64 Y2] 41)) s1
    clear zc
    replace c0 := ext_cell (ext_alloc (ext_refl _) (.cells #[.int .i64 X2, .int .i64 Y2] 41)) c0
    replace c1 := ext_cell (ext_alloc (ext_refl _) (.cells #[.int .i64 X2, .int .i64 Y2] 41)) c1
    clear zw_
    replace w_0 := ext_cell (ext_alloc (ext_refl _) (.cells #[.int .i64 X2, .int .i64 Y2] 41)) w_0
    replace w_1 := ext_cell (ext_alloc (ext_refl _) (.cells #[.int .i64 X2, .int .i64 Y2] 41)) w_1
    clear zt_
    replace t_0 := ext_cell (ext_alloc (ext_refl _) (.cells #[.int .i64 X2, .int .i64 Y2] 41)) t_0
    replace t_1 := ext_cell (ext_alloc (ext_refl _) (.cells #[.int .i64 X2, .int .i64 Y2] 41)) t_1
    clear zl
    replace l0 := ext_cell (ext_alloc (ext_refl _) (.cells #[.int .i64 X2, .int .i64 Y2] 41)) l0
    replace l1 := ext_cell (ext_alloc (ext_refl _) (.cells #[.int .i64 X2, .int .i64 Y2] 41)) l1
    replace l2 := ext_cell (ext_alloc (ext_refl _) (.cells #[.int .i64 X2, .int .i64 Y2] 41)) l2
    replace l3 := ext_cell (ext_alloc (ext_refl _) (.cells #[.int .i64 X2, .int .i64 Y2] 41)) l3
    clear zm
    replace m0 := ext_cell (ext_alloc (ext_refl _) (.cells #[.int .i64 X2, .int .i64 Y2] 41)) m0
    replace m1 := ext_cell (ext_alloc (ext_refl _) (.cells #[.int .i64 X2, .int .i64 Y2] 41)) m1
    replace m2 := ext_cell (ext_alloc (ext_refl _) (.cells #[.int .i64 X2, .int .i64 Y2] 41)) m2
    replace m3 := ext_cell (ext_alloc (ext_refl _) (.cells #[.int .i64 X2, .int .i64 Y2] 41)) m3
    clear zx
    replace x0 := ext_cell (ext_alloc (ext_refl _) (.cells #[.int .i64 X2, .int .i64 Y2] 41)) x0
    replace x1 := ext_cell (ext_alloc (ext_refl _) (.cells #[.int .i64 X2, .int .i64 Y2] 41)) x1
    cases o7
    · clear HE
      go_wp2_with fail
      refine (impl_LineOk _ _ _ _ _).mono ?_
      rw [KL_.out]
      rintro e u10 ⟨rfl, hx10⟩
      go_wp2_with fail
      go_ret
      exact ⟨rfl, ext_trans EX9 hx10⟩
    · cases o8
      · clear HE
        go_wp2_with fail
        refine (impl_LineOk _ _ _ _ _).mono ?_
        rw [KL_.out]
        rintro e u10 ⟨rfl, hx10⟩
        go_wp2_with fail
        go_ret
        exact ⟨rfl, ext_trans EX9 hx10⟩
      · obtain ⟨e1, e2⟩ := HE.out rfl rfl
        subst e1 e2
        go_wp2_with fail
        refine (impl_LineOk _ _ _ _ _).mono ?_
        rw [KL_.out]
        rintro e u10 ⟨rfl, hx10⟩
        go_wp2_with fail
        go_ret
        exact ⟨rfl, ext_trans EX9 hx10⟩
  · have hb : decide (1048576 < n0) = true := by simp; omega
    go_enter Try.func5, Try.ntmps5
    go_wp2_with fail
    refine (laws_big _ _ _ _).mono ?_
    rw [hb]
    rintro e u ⟨rfl, rfl⟩
    go_wp2_with fail
    go_ret
    exact ⟨rfl, (by repeat (first | (with_reducible exact ext_refl _) | (with_reducible refine ext_setCell ?_ ?_ _) | (with_reducible refine ext_alloc ?_ _) | (with_reducible refine ext_drewN ?_ _) | (with_reducible refine ext_drew ?_) | (with_reducible refine ext_trans ?_ (by assumption)) | (dsimp only; omega) | omega | (simp; omega)))⟩

set_option maxRecDepth 100000 in
theorem lifted (os : Os) (started : os.Started) (H : Type) (enc : TypeId × Value → H) :
    ReturnsInHanded {} Try.checked os 5 .any (Rows.fnLinesSpec.pre6 enc Try.prog Try.f5 Rows.fnLinesRow.domain false) (Rows.fnLinesSpec.post enc Try.prog Try.f5 false true false false) := by
  refine returnsInHanded_of_change (C := Try.checked) own started (by kernel_rfl) Try.func5
    (ChangeSpec.witness6 (enc := enc) (C := Try.checked) false ⟨#[], #[.slice none 0 0], []⟩ 8 (by kernel_rfl) (by kernel_rfl) (by kernel_rfl) (by kernel_rfl)) ?_
  intro W base args ds gs before hval0 hW hcnd _
  have hval : ∀ (j : Nat) t v, Try.f5.params[j]? = some t → args[j]? = some v → Value.okWide Try.prog W .any base t v := hval0
  have hW' := hW
  obtain ⟨p, q, hA0, hV, rfl, hfz, hnd⟩ := hW
  have hA : DataW.TrodAll enc Try.prog W 0 (fun _ => true) true Try.f5.params.toList args.toList ds p := hA0
  rw [Try.params5] at hA hval
  obtain ⟨v0, vs0, d0, ds0, p0, q0, hargs, rfl, rfl, h0, r0⟩ := trodAll_cons hA
  obtain ⟨rfl, rfl, rfl⟩ := trodAll_nil r0
  obtain rfl : args = #[v0] := by cases args; simp_all
  obtain ⟨rfl, rfl⟩ := trodVars_none hV
  have k0 := h0
  have lt0 : ∀ x ∈ p0, x.block < W.heap.size := by obtain ⟨m, hm⟩ := k0; exact DataW.trod_lt m _ _ _ hm
  obtain ⟨a0, n0, c0, rfl⟩ := okWide_slice Try.underlying38 (hval 0 38 v0 rfl rfl)
  obtain ⟨X0, w0, b0, e0⟩ := open_bytes_arg Try.underlying38 Try.underlying5 (by kernel_rfl) h0
  clear hA0 hval0
  refine (walk W a0 n0 c0 X0 w0 b0 e0).mono fun e W' ⟨he, bel⟩ => ?_
  subst he
  exact ⟨_, rfl, _, _, _, [], _, [], hW', trodAll_mk1 (shut_bool Try.underlying4 _), (trodAll_cons_mk (Below.trod laidOut (by kernel_rfl) (of_decide_eq_true (by kernel_rfl)) k0 bel lt0) trodAll_mk0), rfl, bel.frame _, fun h => by cases h⟩

theorem closed : joinedFacts Try.prog 5 Try.f5 Rows.fnLinesSpec Rows.fnLinesRow = true := by
  unfold joinedFacts
  rw [make_eq, liftsFinal_eq, mayEnter_eq]
  kernel_rfl

theorem over : Rows.fnLinesRow.holds Try.pinned (OpenSpec.ofChange Rows.fnLinesSpec) :=
  OpenClaim.holds_of_wide 5 Try.f5 rfl rfl rfl rfl rfl rfl rfl ⟨rfl, rfl, rfl, rfl, rfl⟩ rfl rfl rfl rfl rfl (by kernel_rfl) Try.func5 closed
    (of_decide_eq_true (by kernel_rfl)) (by unfold Func.isWrapper; first | (rw [if_pos (by decide +kernel)]; kernel_rfl) | (rw [if_neg (by decide +kernel)]; exact ⟨rfl, rfl⟩))
    (fun os started H enc _ => lifted os started H enc)

theorem proved : Rows.FnLinesSaid := over
#print axioms proved
end Go.Proofs.Ytefgdkjcoeikmaa.fnLines
