/- 'FnArms' is proved: both readings of a wrong balance give the right weight and the ratio of the arms, for all arguments. No condition. -/
import Derived.Test.YtmapcpkloomliaaRow
import Derived.Test.YtmapcpkloomliaaDraw2
import Derived.Test.YtmapcpkloomliaaPlainB
import Derived.BigQuiet
namespace Go.Proofs.Ytmapcpkloomliaa.fnArms
open Go.ChangeShapes Go.WideShapes Go.ChangeAt Go.RowKit
set_option linter.unusedVariables false
set_option linter.unusedSimpArgs false

set_option maxHeartbeats 800000 in
theorem spec_DrawArms (a : Option Addr) (n c : Nat) (X : Nat → Int) (w : World) (h : BytesAt w a n X) (hn : n ≤ 1048576) :
    Calls Try.prog 40 #[.slice a n c] w fun e w' => ∃ x y z : Int, 1 ≤ x ∧ x ≤ 20 ∧ 1 ≤ y ∧ y ≤ 20 ∧ 0 ≤ z ∧ z ≤ 59 ∧ e = .returned (.tuple #[.int .i64 x, .int .i64 y, .int .i64 z]) ∧ Ext w w' := by
  go_enter Try.func40, Try.ntmps40
  go_wp2_with fail
  refine (l01New_c _ _ _ _ _ h hn).mono ?_
  rintro e w1 ⟨g, rfl, hc1, hg, hx1⟩
  go_wp2_with fail
  refine (l01Below_c g 20 _ hc1 (by omega) (by omega)).mono ?_
  rintro e w2 ⟨x, hx, rfl, hc2, hw2⟩
  go_wp2_with fail
  refine (l01Below_c g 20 _ hc2 (by omega) (by omega)).mono ?_
  rintro e w3 ⟨y, hy, rfl, hc3, hw3⟩
  go_wp2_with fail
  refine (l01Below_c g 60 _ hc3 (by omega) (by omega)).mono ?_
  rintro e w4 ⟨z, hz, rfl, hc4, hw4⟩
  go_wp2_with fail
  go_ret3
  exact ⟨1 + (x : Int), 1 + (y : Int), z, by omega, by omega, by omega, by omega, by omega, by omega, rfl, Below.trans hx1 (((hw2.trans hw3).trans hw4).below.mono hg)⟩

set_option maxHeartbeats 1600000 in
theorem impl_RatioFrom (t1 b1 t2 b2 : Int) (w : World) :
    Calls Try.prog 46 #[.agg #[.int .i64 t1, .int .i64 b1], .agg #[.int .i64 t2, .int .i64 b2]] w fun e w' => e = frac (ovT t1 b1 t2 b2) (ovB t1 b1 t2 b2) (ovOk t1 b1 t2 b2) ∧ Ext w w' := by
  go_enter Try.func46, Try.ntmps46
  go_wp2_with (go_at_call 73; refine (impl_over _ _ _ _ _).mono ?_; rintro e w1 ⟨rfl, hx⟩; obtain ⟨hc, hf⟩ := bcell hx)
  have c0 := ext_cell hx (b := w.heap.size + 2) (off := 0) (v := .int .i64 0) (by go_simp)
  have c1 := ext_cell hx (b := w.heap.size + 2) (off := 1) (v := .int .i64 0) (by go_simp)
  exact bodyPost_ret (v := .tuple #[.agg #[.int .i64 (ovT t1 b1 t2 b2), .int .i64 (ovB t1 b1 t2 b2)], .bool (ovOk t1 b1 t2 b2)]) (by simp [results, Try.results46, go_sem, c0, c1]) rfl ⟨rfl, (by repeat (first | (with_reducible exact ext_refl _) | (with_reducible refine ext_setCell ?_ ?_ _) | (with_reducible refine ext_alloc ?_ _) | (with_reducible refine ext_drewN ?_ _) | (with_reducible refine ext_drew ?_) | (with_reducible refine ext_trans ?_ (by assumption)) | (dsimp only; omega) | omega | (simp; omega)))⟩

set_option maxHeartbeats 6400000 in
set_option maxRecDepth 100000 in
theorem walk (w : World) (a0 : Option Addr) (n0 c0 : Nat) (X0 : Nat → Int) (w0 : BytesAt w a0 n0 X0) (b0 : n0 ≤ c0) (e0 : c0 ≤ maxLen) :
    Calls Try.prog 10 #[.slice a0 n0 c0] w fun e w' => e = .returned (.bool true) ∧ Ext w w' := by
  by_cases hbig : n0 ≤ 1048576
  · have hb : decide (1048576 < n0) = false := by simp; omega
    go_enter Try.func10, Try.ntmps10
    go_wp2_with fail
    refine (laws_big _ _ _ _).mono ?_
    rw [hb]
    rintro e u ⟨rfl, rfl⟩
    go_wp2_with fail
    refine (spec_DrawArms _ _ _ _ _ w0 hbig).mono ?_
    rintro e u0 ⟨a, b, n, a1, a2, b1, b2, n1, n2, rfl, hx0⟩
    obtain ⟨hL1, hL2, hL3⟩ := arms_l (a := a) (b := b) (n := n) a1 (by omega) b1 (by omega) n1 (by omega)
    obtain ⟨hR1, hR2, hR3⟩ := arms_l (a := b) (b := a) (n := n) b1 (by omega) a1 (by omega) n1 (by omega)
    obtain ⟨hS1, hS2, hS3⟩ := arms_sq a1 b1 n1 (by omega) hL2 hR2 hL3 hR3
    obtain ⟨hT1, hT2, hT3⟩ := arms_sub (a := a) (b := b) (n := n) a1 (by omega) b1 (by omega) n1 (by omega)
    obtain ⟨hQ1, hQ2⟩ := arms_ratio a1 (by omega) b1 (by omega) n1 hL2 hR2 hL3 hR3
    have cL := fun w => impl_ReadLeft a b n w
    have cR := fun w => impl_ReadRight a b n w
    have cS := fun w => impl_SquareFrom (rlT a b n) (rlB a b n) (rlT b a n) (rlB b a n) w
    have cT := fun w => impl_Substitute a b n (rlT a b n) (rlB a b n) w
    have cQ := fun w => impl_RatioFrom (rlT a b n) (rlB a b n) (rlT b a n) (rlB b a n) w
    rw [hS1, hS2, hS3] at cS
    rw [hT1, hT2, hT3] at cT
    rw [hL1] at cL
    rw [hR1] at cR
    rw [hQ1] at cQ hQ2
    clear hL1 hL2 hL3 hR1 hR2 hR3 hS1 hS2 hS3 hT1 hT2 hT3 hQ1
    generalize ovT (rlT a b n) (rlB a b n) (rlT b a n) (rlB b a n) = qt at *
    generalize ovB (rlT a b n) (rlB a b n) (rlT b a n) (rlB b a n) = qb at *
    generalize rlT a b n = lt at *
    generalize rlB a b n = lb at *
    generalize rlT b a n = rt at *
    generalize rlB b a n = rb at *
    have nn := mul_bound (x := n) (y := n) (A := 60) (B := 60) ⟨by omega, by omega⟩ ⟨by omega, by omega⟩
    obtain ⟨nn1, nn2⟩ := nn
    have hArms : armsOkB a b = true := by unfold armsOkB; rw [inB_true.2 ⟨a1, by omega⟩, inB_true.2 ⟨b1, by omega⟩]; rfl
    have HQ2 := Lib.hid hQ2
    clear hQ2
    go_wp2_with fail
    refine (cL _).mono ?_
    rintro e u1 ⟨rfl, hx1⟩
    obtain ⟨hc1, hf1, hn1⟩ := bcell3 hx1
    have hz1 := ext_size hx1
    go_wp2_with fail
    refine (cR _).mono ?_
    rintro e u2 ⟨rfl, hx2⟩
    obtain ⟨hc2, hf2, hn2⟩ := bcell3 hx2
    have hb2 : u1.heap.size < u2.heap.size := by have q := ext_size hx2; (try simp at q); omega
    have hz2 := ext_size hx2
    (try simp at hz2)
    go_wp2_with fail
    refine (cS _).mono ?_
    rintro e u3 ⟨rfl, hx3⟩
    obtain ⟨hc3, hf3, hn3⟩ := bcell3 hx3
    have hb3 : u2.heap.size < u3.heap.size := by have q := ext_size hx3; (try simp at q); omega
    have hz3 := ext_size hx3
    (try simp at hz3)
    have hb31 : u1.heap.size < u3.heap.size := by omega
    go_wp2_with fail
    refine (cT _).mono ?_
    rintro e u4 ⟨rfl, hx4⟩
    obtain ⟨hc4, hf4, hn4⟩ := bcell3 hx4
    have hb4 : u3.heap.size < u4.heap.size := by have q := ext_size hx4; (try simp at q); omega
    have hz4 := ext_size hx4
    (try simp at hz4)
    have hb41 : u1.heap.size < u4.heap.size := by omega
    have hb42 : u2.heap.size < u4.heap.size := by omega
    go_wp2_with (go_at_call 45; refine (impl_ArmsOk _ _ _).mono ?_; rw [hArms]; rintro e w' ⟨rfl, rfl⟩)
    refine (cQ _).mono ?_
    rintro e u5 ⟨rfl, hx5⟩
    obtain ⟨hc5, hf5, hn5⟩ := bcell3 hx5
    have hb5 : u4.heap.size < u5.heap.size := by have q := ext_size hx5; (try simp at q); omega
    rcases Int.lt_or_le 0 n with hp | hp
    · have hd : decide (0 < n) = true := decide_eq_true hp
      obtain ⟨g1, g2, g3, g4, g5⟩ := HQ2.out hd
      obtain ⟨m1, m2⟩ := mul_bound (x := qt) (y := b) (A := 1000000) (B := 20) ⟨g2, g3⟩ ⟨by omega, b2⟩
      obtain ⟨m3, m4⟩ := mul_bound (x := qt * b) (y := b) (A := 1000000 * 20) (B := 20) ⟨m1, m2⟩ ⟨by omega, b2⟩
      obtain ⟨m5, m6⟩ := mul_bound (x := qb) (y := a) (A := 1000000) (B := 20) ⟨by omega, g5⟩ ⟨by omega, a2⟩
      obtain ⟨m7, m8⟩ := mul_bound (x := qb * a) (y := a) (A := 1000000 * 20) (B := 20) ⟨m5, m6⟩ ⟨by omega, a2⟩
      have geq : (qt * b * b == qb * a * a) = true := by rw [g1]; simp
      go_wp2_with fail
      go_ret
      exact ⟨rfl, (by repeat (first | (with_reducible exact ext_refl _) | (with_reducible refine ext_setCell ?_ ?_ _) | (with_reducible refine ext_alloc ?_ _) | (with_reducible refine ext_drewN ?_ _) | (with_reducible refine ext_drew ?_) | (with_reducible refine ext_trans ?_ (by assumption)) | (dsimp only; omega) | omega | (simp; omega)))⟩
    · have hd : decide (0 < n) = false := decide_eq_false (by omega)
      go_wp2_with fail
      go_ret
      exact ⟨rfl, (by repeat (first | (with_reducible exact ext_refl _) | (with_reducible refine ext_setCell ?_ ?_ _) | (with_reducible refine ext_alloc ?_ _) | (with_reducible refine ext_drewN ?_ _) | (with_reducible refine ext_drew ?_) | (with_reducible refine ext_trans ?_ (by assumption)) | (dsimp only; omega) | omega | (simp; omega)))⟩
  · have hb : decide (1048576 < n0) = true := by simp; omega
    go_enter Try.func10, Try.ntmps10
    go_wp2_with fail
    refine (laws_big _ _ _ _).mono ?_
    rw [hb]
    rintro e u ⟨rfl, rfl⟩
    go_wp2_with fail
    go_ret
    exact ⟨rfl, (by repeat (first | (with_reducible exact ext_refl _) | (with_reducible refine ext_setCell ?_ ?_ _) | (with_reducible refine ext_alloc ?_ _) | (with_reducible refine ext_drewN ?_ _) | (with_reducible refine ext_drew ?_) | (with_reducible refine ext_trans ?_ (by assumption)) | (dsimp only; omega) | omega | (simp; omega)))⟩

set_option maxRecDepth 100000 in
theorem lifted (os : Os) (started : os.Started) (H : Type) (enc : TypeId × Value → H) :
    ReturnsInHanded {} Try.checked os 10 .any (Rows.fnArmsSpec.pre6 enc Try.prog Try.f10 Rows.fnArmsRow.domain false) (Rows.fnArmsSpec.post enc Try.prog Try.f10 false true false false) := by
  refine returnsInHanded_of_change (C := Try.checked) own started (by kernel_rfl) Try.func10
    (ChangeSpec.witness6 (enc := enc) (C := Try.checked) false ⟨#[], #[.slice none 0 0], []⟩ 8 (by kernel_rfl) (by kernel_rfl) (by kernel_rfl) (by kernel_rfl)) ?_
  intro W base args ds gs before hval0 hW hcnd _
  have hval : ∀ (j : Nat) t v, Try.f10.params[j]? = some t → args[j]? = some v → Value.okWide Try.prog W .any base t v := hval0
  have hW' := hW
  obtain ⟨p, q, hA0, hV, rfl, hfz, hnd⟩ := hW
  have hA : DataW.TrodAll enc Try.prog W 0 (fun _ => true) true Try.f10.params.toList args.toList ds p := hA0
  rw [Try.params10] at hA hval
  obtain ⟨v0, vs0, d0, ds0, p0, q0, hargs, rfl, rfl, h0, r0⟩ := trodAll_cons hA
  obtain ⟨rfl, rfl, rfl⟩ := trodAll_nil r0
  obtain rfl : args = #[v0] := by cases args; simp_all
  obtain ⟨rfl, rfl⟩ := trodVars_none hV
  have k0 := h0
  have lt0 : ∀ x ∈ p0, x.block < W.heap.size := by obtain ⟨m, hm⟩ := k0; exact DataW.trod_lt m _ _ _ hm
  obtain ⟨a0, n0, c0, rfl⟩ := okWide_slice Try.underlying28 (hval 0 28 v0 rfl rfl)
  obtain ⟨X0, w0, b0, e0⟩ := open_bytes_arg Try.underlying28 Try.underlying5 (by kernel_rfl) h0
  clear hA0 hval0
  refine (walk W a0 n0 c0 X0 w0 b0 e0).mono fun e W' ⟨he, bel⟩ => ?_
  subst he
  exact ⟨_, rfl, _, _, _, [], _, [], hW', trodAll_mk1 (shut_bool Try.underlying4 _), (trodAll_cons_mk (Below.trod laidOut (by kernel_rfl) (of_decide_eq_true (by kernel_rfl)) k0 bel lt0) trodAll_mk0), rfl, bel.frame _, fun h => by cases h⟩

theorem closed : joinedFacts Try.prog 10 Try.f10 Rows.fnArmsSpec Rows.fnArmsRow = true := by
  unfold joinedFacts
  rw [make_eq, liftsFinal_eq, mayEnter_eq]
  kernel_rfl

theorem over : Rows.fnArmsRow.holds Try.pinned (OpenSpec.ofChange Rows.fnArmsSpec) :=
  OpenClaim.holds_of_wide 10 Try.f10 rfl rfl rfl rfl rfl rfl rfl ⟨rfl, rfl, rfl, rfl, rfl⟩ rfl rfl rfl rfl rfl (by kernel_rfl) Try.func10 closed
    (of_decide_eq_true (by kernel_rfl)) (by unfold Func.isWrapper; first | (rw [if_pos (by decide +kernel)]; kernel_rfl) | (rw [if_neg (by decide +kernel)]; exact ⟨rfl, rfl⟩))
    (fun os started H enc _ => lifted os started H enc)

theorem proved : Rows.FnArmsSaid := over
#print axioms proved
end Go.Proofs.Ytmapcpkloomliaa.fnArms
