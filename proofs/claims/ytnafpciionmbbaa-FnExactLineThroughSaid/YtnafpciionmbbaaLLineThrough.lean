/- 'FnExactLineThrough' is proved: the program's LineThrough returns what the reference's returns, for all arguments. No condition. -/
import Derived.Test.YtnafpciionmbbaaRow
import Derived.Test.YtnafpciionmbbaaLine9
import Derived.Deep.RegionHeld3
import Derived.Deep.DeepCutAuto
namespace Go.Proofs.Ytnafpciionmbbaa.fnExactLineThrough
open Go.ChangeShapes Go.WideShapes Go.ChangeAt Go.RowKit
set_option linter.unusedVariables false
set_option linter.unusedSimpArgs false

set_option maxHeartbeats 3200000 in
theorem walk (w : World) (t0 b0 : Int) (w0 : (Lit.int .i64 t0).wf = true) (x0 : (Lit.int .i64 b0).wf = true) (t1 b1 : Int) (w1 : (Lit.int .i64 t1).wf = true) (x1 : (Lit.int .i64 b1).wf = true) (t2 b2 : Int) (w2 : (Lit.int .i64 t2).wf = true) (x2 : (Lit.int .i64 b2).wf = true) (t3 b3 : Int) (w3 : (Lit.int .i64 t3).wf = true) (x3 : (Lit.int .i64 b3).wf = true) :
    Calls Try.prog 32 #[.agg #[.int .i64 t0, .int .i64 b0], .agg #[.int .i64 t1, .int .i64 b1], .agg #[.int .i64 t2, .int .i64 b2], .agg #[.int .i64 t3, .int .i64 b3]] w fun e w' => e = .returned (.bool true) ∧ Ext w w' := by
  go_enter Try.func32, Try.ntmps32
  obtain ⟨w0w, hw0⟩ : ∃ x, x = ((((w.alloc (.cells #[.int .i64 t0, .int .i64 b0] 27)).alloc (.cells #[.int .i64 t1, .int .i64 b1] 27)).alloc (.cells #[.int .i64 t2, .int .i64 b2] 27)).alloc (.cells #[.int .i64 t3, .int .i64 b3] 27)) := ⟨_, rfl⟩
  have c00 : w0w.cell? ⟨w.heap.size, 0, none⟩ = some (.int .i64 t0) := by rw [hw0]; go_simp
  have c01 : w0w.cell? ⟨w.heap.size, 1, none⟩ = some (.int .i64 b0) := by rw [hw0]; go_simp
  have c10 : w0w.cell? ⟨w.heap.size + 1, 0, none⟩ = some (.int .i64 t1) := by rw [hw0]; go_simp
  have c11 : w0w.cell? ⟨w.heap.size + 1, 1, none⟩ = some (.int .i64 b1) := by rw [hw0]; go_simp
  have c20 : w0w.cell? ⟨w.heap.size + 1 + 1, 0, none⟩ = some (.int .i64 t2) := by rw [hw0]; go_simp
  have c21 : w0w.cell? ⟨w.heap.size + 1 + 1, 1, none⟩ = some (.int .i64 b2) := by rw [hw0]; go_simp
  have c30 : w0w.cell? ⟨w.heap.size + 1 + 1 + 1, 0, none⟩ = some (.int .i64 t3) := by rw [hw0]; go_simp
  have c31 : w0w.cell? ⟨w.heap.size + 1 + 1 + 1, 1, none⟩ = some (.int .i64 b3) := by rw [hw0]; go_simp
  have hxw : Ext w w0w := by rw [hw0]; exact (by repeat (first | (with_reducible exact ext_refl _) | (with_reducible refine ext_setCell ?_ ?_ _) | (with_reducible refine ext_alloc ?_ _) | (with_reducible refine ext_drewN ?_ _) | (with_reducible refine ext_drew ?_) | (with_reducible refine ext_trans ?_ (by assumption)) | (dsimp only; omega) | omega | (simp; omega)))
  have HW0 := Lib.hid hw0
  clear hw0
  go_upto_region 1 with fail
  rw [← HW0.out]
  have HKS : Hid (∀ wb, Ext w0w wb → (Ext w0w wb ∧ wb.cell? ⟨w.heap.size, 0, none⟩ = some (.int .i64 (t0)) ∧ wb.cell? ⟨w.heap.size, 1, none⟩ = some (.int .i64 (b0)) ∧ wb.cell? ⟨w.heap.size + 1, 0, none⟩ = some (.int .i64 (t1)) ∧ wb.cell? ⟨w.heap.size + 1, 1, none⟩ = some (.int .i64 (b1)) ∧ wb.cell? ⟨w.heap.size + 1 + 1, 0, none⟩ = some (.int .i64 (t2)) ∧ wb.cell? ⟨w.heap.size + 1 + 1, 1, none⟩ = some (.int .i64 (b2)) ∧ wb.cell? ⟨w.heap.size + 1 + 1 + 1, 0, none⟩ = some (.int .i64 (t3)) ∧ wb.cell? ⟨w.heap.size + 1 + 1 + 1, 1, none⟩ = some (.int .i64 (b3)))) := fun wb h => ⟨h, ext_cell h c00, ext_cell h c01, ext_cell h c10, ext_cell h c11, ext_cell h c20, ext_cell h c21, ext_cell h c30, ext_cell h c31⟩
  go_upto_region 1 with fail
  go_cut [9, 10] (fun s9 s10 wx => ∃ gq : Nat, s9 = .pointer (some ⟨gq, 0, none⟩) ∧ s10 = .bool (ltIn t0 b0 t1 b1 t2 b2 t3 b3) ∧ wx.cell? ⟨gq, 0, none⟩ = some (.int .i64 (ltv (ltIn t0 b0 t1 b1 t2 b2 t3 b3) (ltZT t0 b0 t1 b1 t2 b2 t3 b3))) ∧ wx.cell? ⟨gq, 1, none⟩ = some (.int .i64 (ltv (ltIn t0 b0 t1 b1 t2 b2 t3 b3) (ltZB t0 b0 t1 b1 t2 b2 t3 b3))) ∧ wx.cell? ⟨gq, 2, none⟩ = some (.int .i64 (ltv (ltIn t0 b0 t1 b1 t2 b2 t3 b3) (ltUT t0 b0 t1 b1 t2 b2 t3 b3))) ∧ wx.cell? ⟨gq, 3, none⟩ = some (.int .i64 (ltv (ltIn t0 b0 t1 b1 t2 b2 t3 b3) (ltUB t0 b0 t1 b1 t2 b2 t3 b3))) ∧ Ext w0w wx)
  case first =>
    go_region_held3 (fun w' => Ext w0w w' ∧ w'.cell? ⟨w.heap.size, 0, none⟩ = some (.int .i64 (t0)) ∧ w'.cell? ⟨w.heap.size, 1, none⟩ = some (.int .i64 (b0)) ∧ w'.cell? ⟨w.heap.size + 1, 0, none⟩ = some (.int .i64 (t1)) ∧ w'.cell? ⟨w.heap.size + 1, 1, none⟩ = some (.int .i64 (b1)) ∧ w'.cell? ⟨w.heap.size + 1 + 1, 0, none⟩ = some (.int .i64 (t2)) ∧ w'.cell? ⟨w.heap.size + 1 + 1, 1, none⟩ = some (.int .i64 (b2)) ∧ w'.cell? ⟨w.heap.size + 1 + 1 + 1, 0, none⟩ = some (.int .i64 (t3)) ∧ w'.cell? ⟨w.heap.size + 1 + 1 + 1, 1, none⟩ = some (.int .i64 (b3)))
      ((refine HKS.out _ ?_; repeat (first | (with_reducible exact ext_refl _) | (with_reducible refine ext_drew ?_) | (with_reducible refine ext_setCell ?_ ?_ _) | (with_reducible refine ext_alloc ?_ _) | (with_reducible refine ext_trans ?_ (by assumption)) | ((try dsimp only); with_reducible exact Nat.le_refl _) | ((try dsimp only); with_reducible refine ext_size ?_))))
      (first
        | (go_at_call 73; refine (laws_toFraction _ _ _).mono ?_; rintro e w3 ⟨rfl, hx3⟩; obtain ⟨hc3, hf3, hn3⟩ := bcell3 hx3; first | (have hz4 := hn3 _ hz4) | (have hz := ext_size hx3; simp at hz; have hz4 := Nat.lt_of_succ_le hz) | skip)
        | (go_at_call 101; refine (spec_LineThrough _ _ _ _ _ _ _ _ _).mono ?_; rintro e w3 ⟨rfl, hx3⟩; obtain ⟨hc3, hf3, hn3⟩ := bcell3 hx3; first | (have hz4 := hn3 _ hz4) | (have hz := ext_size hx3; simp at hz; have hz4 := Nat.lt_of_succ_le hz) | skip))
    all_goals
      go_wp2_with fail
      go_meet
      refine ⟨_, rfl, rfl, ?_, ?_, ?_, ?_, ?_⟩
      · first | (go_simp; rfl) | go_simp
      · first | (go_simp; rfl) | go_simp
      · first | (go_simp; rfl) | go_simp
      · first | (go_simp; rfl) | go_simp
      · repeat (first | (with_reducible exact ext_refl _) | (with_reducible refine ext_drew ?_) | (with_reducible refine ext_setCell ?_ ?_ _) | (with_reducible refine ext_alloc ?_ _) | (with_reducible refine ext_trans ?_ (by assumption)) | ((try dsimp only); with_reducible exact Nat.le_refl _) | ((try dsimp only); with_reducible refine ext_size ?_))
  case rest =>
    obtain ⟨g1, rfl, rfl, p0, p1, p2, p3, hxc⟩ := hcut
    obtain ⟨w1w, rfl⟩ : ∃ x : World, x = wc := ⟨_, rfl⟩
    have c00x := ext_cell hxc c00
    have c01x := ext_cell hxc c01
    have c10x := ext_cell hxc c10
    have c11x := ext_cell hxc c11
    have c20x := ext_cell hxc c20
    have c21x := ext_cell hxc c21
    have c30x := ext_cell hxc c30
    have c31x := ext_cell hxc c31
    have HKS : Hid (∀ wb, Ext w1w wb → (Ext w1w wb ∧ wb.cell? ⟨w.heap.size, 0, none⟩ = some (.int .i64 (t0)) ∧ wb.cell? ⟨w.heap.size, 1, none⟩ = some (.int .i64 (b0)) ∧ wb.cell? ⟨w.heap.size + 1, 0, none⟩ = some (.int .i64 (t1)) ∧ wb.cell? ⟨w.heap.size + 1, 1, none⟩ = some (.int .i64 (b1)) ∧ wb.cell? ⟨w.heap.size + 1 + 1, 0, none⟩ = some (.int .i64 (t2)) ∧ wb.cell? ⟨w.heap.size + 1 + 1, 1, none⟩ = some (.int .i64 (b2)) ∧ wb.cell? ⟨w.heap.size + 1 + 1 + 1, 0, none⟩ = some (.int .i64 (t3)) ∧ wb.cell? ⟨w.heap.size + 1 + 1 + 1, 1, none⟩ = some (.int .i64 (b3)))) := fun wb h => ⟨h, ext_cell h c00x, ext_cell h c01x, ext_cell h c10x, ext_cell h c11x, ext_cell h c20x, ext_cell h c21x, ext_cell h c30x, ext_cell h c31x⟩
    go_upto_region 2 with fail
    go_cut [11, 12] (fun s11 s12 wx => ∃ gq : Nat, s11 = .pointer (some ⟨gq, 0, none⟩) ∧ s12 = .bool (ltIn t0 b0 t1 b1 t2 b2 t3 b3) ∧ wx.cell? ⟨gq, 0, none⟩ = some (.int .i64 (ltv (ltIn t0 b0 t1 b1 t2 b2 t3 b3) (ltZT t0 b0 t1 b1 t2 b2 t3 b3))) ∧ wx.cell? ⟨gq, 1, none⟩ = some (.int .i64 (ltv (ltIn t0 b0 t1 b1 t2 b2 t3 b3) (ltZB t0 b0 t1 b1 t2 b2 t3 b3))) ∧ wx.cell? ⟨gq, 2, none⟩ = some (.int .i64 (ltv (ltIn t0 b0 t1 b1 t2 b2 t3 b3) (ltUT t0 b0 t1 b1 t2 b2 t3 b3))) ∧ wx.cell? ⟨gq, 3, none⟩ = some (.int .i64 (ltv (ltIn t0 b0 t1 b1 t2 b2 t3 b3) (ltUB t0 b0 t1 b1 t2 b2 t3 b3))) ∧ Ext w1w wx)
    case first =>
      go_region_held3 (fun w' => Ext w1w w' ∧ w'.cell? ⟨w.heap.size, 0, none⟩ = some (.int .i64 (t0)) ∧ w'.cell? ⟨w.heap.size, 1, none⟩ = some (.int .i64 (b0)) ∧ w'.cell? ⟨w.heap.size + 1, 0, none⟩ = some (.int .i64 (t1)) ∧ w'.cell? ⟨w.heap.size + 1, 1, none⟩ = some (.int .i64 (b1)) ∧ w'.cell? ⟨w.heap.size + 1 + 1, 0, none⟩ = some (.int .i64 (t2)) ∧ w'.cell? ⟨w.heap.size + 1 + 1, 1, none⟩ = some (.int .i64 (b2)) ∧ w'.cell? ⟨w.heap.size + 1 + 1 + 1, 0, none⟩ = some (.int .i64 (t3)) ∧ w'.cell? ⟨w.heap.size + 1 + 1 + 1, 1, none⟩ = some (.int .i64 (b3)))
        ((refine HKS.out _ ?_; repeat (first | (with_reducible exact ext_refl _) | (with_reducible refine ext_drew ?_) | (with_reducible refine ext_setCell ?_ ?_ _) | (with_reducible refine ext_alloc ?_ _) | (with_reducible refine ext_trans ?_ (by assumption)) | ((try dsimp only); with_reducible exact Nat.le_refl _) | ((try dsimp only); with_reducible refine ext_size ?_))))
        (first
          | (go_at_call 73; refine (laws_toFraction _ _ _).mono ?_; rintro e w3 ⟨rfl, hx3⟩; obtain ⟨hc3, hf3, hn3⟩ := bcell3 hx3; first | (have hz4 := hn3 _ hz4) | (have hz := ext_size hx3; simp at hz; have hz4 := Nat.lt_of_succ_le hz) | skip)
          | (go_at_call 102; refine (impl_LineThrough _ _ _ _ _ _ _ _ _).mono ?_; rintro e w3 ⟨rfl, hx3⟩; obtain ⟨hc3, hf3, hn3⟩ := bcell3 hx3; first | (have hz4 := hn3 _ hz4) | (have hz := ext_size hx3; simp at hz; have hz4 := Nat.lt_of_succ_le hz) | skip))
      all_goals
        go_wp2_with fail
        go_meet
        refine ⟨_, rfl, rfl, ?_, ?_, ?_, ?_, ?_⟩
        · first | (go_simp; rfl) | go_simp
        · first | (go_simp; rfl) | go_simp
        · first | (go_simp; rfl) | go_simp
        · first | (go_simp; rfl) | go_simp
        · repeat (first | (with_reducible exact ext_refl _) | (with_reducible refine ext_drew ?_) | (with_reducible refine ext_setCell ?_ ?_ _) | (with_reducible refine ext_alloc ?_ _) | (with_reducible refine ext_trans ?_ (by assumption)) | ((try dsimp only); with_reducible exact Nat.le_refl _) | ((try dsimp only); with_reducible refine ext_size ?_))
    case rest =>
      obtain ⟨g2, rfl, rfl, q0, q1, q2, q3, hxd⟩ := hcut
      obtain ⟨w2w, rfl⟩ : ∃ x : World, x = wc := ⟨_, rfl⟩
      have p0x := ext_cell hxd p0
      have p1x := ext_cell hxd p1
      have p2x := ext_cell hxd p2
      have p3x := ext_cell hxd p3
      go_wp2_with (go_at_call 100; refine (laws_eqLine _ _ _ _ _ _ _ _ _).mono ?_; rw [eqL_self]; rintro e w4 ⟨rfl, hx4⟩)
      go_ret
      exact ⟨rfl, ext_trans hxw (ext_trans hxc (ext_trans hxd hx4))⟩

set_option maxRecDepth 100000 in
theorem lifted (os : Os) (started : os.Started) (H : Type) (enc : TypeId × Value → H) :
    ReturnsInHanded {} Try.checked os 32 .any (Rows.fnExactLineThroughSpec.pre6 enc Try.prog Try.f32 Rows.fnExactLineThroughRow.domain false) (Rows.fnExactLineThroughSpec.post enc Try.prog Try.f32 false true false false) := by
  refine returnsInHanded_of_change (C := Try.checked) own started (by kernel_rfl) Try.func32
    (ChangeSpec.witness6 (enc := enc) (C := Try.checked) false ⟨#[], #[.agg #[.int .i64 0, .int .i64 0], .agg #[.int .i64 0, .int .i64 0], .agg #[.int .i64 0, .int .i64 0], .agg #[.int .i64 0, .int .i64 0]], []⟩ 8 (by kernel_rfl) (by kernel_rfl) (by kernel_rfl) (by kernel_rfl)) ?_
  intro W base args ds gs before hval0 hW hcnd _
  have hval : ∀ (j : Nat) t v, Try.f32.params[j]? = some t → args[j]? = some v → Value.okWide Try.prog W .any base t v := hval0
  have hW' := hW
  obtain ⟨p, q, hA0, hV, rfl, hfz, hnd⟩ := hW
  have hA : DataW.TrodAll enc Try.prog W 0 (fun _ => true) true Try.f32.params.toList args.toList ds p := hA0
  rw [Try.params32] at hA hval
  obtain ⟨v0, vs0, d0, ds0, p0, q0, hargs, rfl, rfl, h0, r0⟩ := trodAll_cons hA
  obtain ⟨v1, vs1, d1, ds1, p1, q1, rfl, rfl, rfl, h1, r1⟩ := trodAll_cons r0
  obtain ⟨v2, vs2, d2, ds2, p2, q2, rfl, rfl, rfl, h2, r2⟩ := trodAll_cons r1
  obtain ⟨v3, vs3, d3, ds3, p3, q3, rfl, rfl, rfl, h3, r3⟩ := trodAll_cons r2
  obtain ⟨rfl, rfl, rfl⟩ := trodAll_nil r3
  obtain rfl : args = #[v0, v1, v2, v3] := by cases args; simp_all
  obtain ⟨rfl, rfl⟩ := trodVars_none hV
  have k0 := h0
  have lt0 : ∀ x ∈ p0, x.block < W.heap.size := by obtain ⟨m, hm⟩ := k0; exact DataW.trod_lt m _ _ _ hm
  obtain ⟨t0, b0, rfl, w0, x0⟩ := open_pair_arg Try.underlying27 (by kernel_rfl) (by kernel_rfl) rfl rfl Try.underlying3 (hval 0 27 v0 rfl rfl) h0
  have k1 := h1
  have lt1 : ∀ x ∈ p1, x.block < W.heap.size := by obtain ⟨m, hm⟩ := k1; exact DataW.trod_lt m _ _ _ hm
  obtain ⟨t1, b1, rfl, w1, x1⟩ := open_pair_arg Try.underlying27 (by kernel_rfl) (by kernel_rfl) rfl rfl Try.underlying3 (hval 1 27 v1 rfl rfl) h1
  have k2 := h2
  have lt2 : ∀ x ∈ p2, x.block < W.heap.size := by obtain ⟨m, hm⟩ := k2; exact DataW.trod_lt m _ _ _ hm
  obtain ⟨t2, b2, rfl, w2, x2⟩ := open_pair_arg Try.underlying27 (by kernel_rfl) (by kernel_rfl) rfl rfl Try.underlying3 (hval 2 27 v2 rfl rfl) h2
  have k3 := h3
  have lt3 : ∀ x ∈ p3, x.block < W.heap.size := by obtain ⟨m, hm⟩ := k3; exact DataW.trod_lt m _ _ _ hm
  obtain ⟨t3, b3, rfl, w3, x3⟩ := open_pair_arg Try.underlying27 (by kernel_rfl) (by kernel_rfl) rfl rfl Try.underlying3 (hval 3 27 v3 rfl rfl) h3
  clear hA0 hval0
  refine (walk W t0 b0 w0 x0 t1 b1 w1 x1 t2 b2 w2 x2 t3 b3 w3 x3).mono fun e W' ⟨he, bel⟩ => ?_
  subst he
  exact ⟨_, rfl, _, _, _, [], _, [], hW', trodAll_mk1 (shut_bool Try.underlying4 _), (trodAll_cons_mk (Below.trod laidOut (by kernel_rfl) (of_decide_eq_true (by kernel_rfl)) k0 bel lt0) (trodAll_cons_mk (Below.trod laidOut (by kernel_rfl) (of_decide_eq_true (by kernel_rfl)) k1 bel lt1) (trodAll_cons_mk (Below.trod laidOut (by kernel_rfl) (of_decide_eq_true (by kernel_rfl)) k2 bel lt2) (trodAll_cons_mk (Below.trod laidOut (by kernel_rfl) (of_decide_eq_true (by kernel_rfl)) k3 bel lt3) trodAll_mk0)))), rfl, bel.frame _, fun h => by cases h⟩

theorem closed : joinedFacts Try.prog 32 Try.f32 Rows.fnExactLineThroughSpec Rows.fnExactLineThroughRow = true := by
  unfold joinedFacts
  rw [make_eq, liftsFinal_eq, mayEnter_eq]
  kernel_rfl

theorem over : Rows.fnExactLineThroughRow.holds Try.pinned (OpenSpec.ofChange Rows.fnExactLineThroughSpec) :=
  OpenClaim.holds_of_wide 32 Try.f32 rfl rfl rfl rfl rfl rfl rfl ⟨rfl, rfl, rfl, rfl, rfl⟩ rfl rfl rfl rfl rfl (by kernel_rfl) Try.func32 closed
    (of_decide_eq_true (by kernel_rfl)) (by unfold Func.isWrapper; first | (rw [if_pos (by decide +kernel)]; kernel_rfl) | (rw [if_neg (by decide +kernel)]; exact ⟨rfl, rfl⟩))
    (fun os started H enc _ => lifted os started H enc)

theorem proved : Rows.FnExactLineThroughSaid := over
#print axioms proved
end Go.Proofs.Ytnafpciionmbbaa.fnExactLineThrough
