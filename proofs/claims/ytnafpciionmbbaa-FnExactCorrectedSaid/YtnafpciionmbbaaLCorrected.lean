/- 'FnExactCorrected' is proved: the program's Corrected returns what the reference's returns, for all arguments. No condition. -/
import Derived.Test.YtnafpciionmbbaaRow
import Derived.Test.YtnafpciionmbbaaLine3
import Derived.Deep.RegionHeld3
import Derived.Deep.DeepCutAuto
namespace Go.Proofs.Ytnafpciionmbbaa.fnExactCorrected
open Go.ChangeShapes Go.WideShapes Go.ChangeAt Go.RowKit
set_option linter.unusedVariables false
set_option linter.unusedSimpArgs false

set_option maxHeartbeats 3200000 in
theorem walk (w : World) (zt0 zb0 ut0 ub0 : Int) (w0 : (Lit.int .i64 zt0).wf = true) (x0 : (Lit.int .i64 zb0).wf = true) (y0 : (Lit.int .i64 ut0).wf = true) (z0 : (Lit.int .i64 ub0).wf = true) (t1 b1 : Int) (w1 : (Lit.int .i64 t1).wf = true) (x1 : (Lit.int .i64 b1).wf = true) :
    Calls Try.prog 30 #[.agg #[.int .i64 zt0, .int .i64 zb0, .int .i64 ut0, .int .i64 ub0], .agg #[.int .i64 t1, .int .i64 b1]] w fun e w' => e = .returned (.bool true) ∧ Ext w w' := by
  go_enter Try.func30, Try.ntmps30
  obtain ⟨w0w, hw0⟩ : ∃ x, x = ((w.alloc (.cells #[.int .i64 zt0, .int .i64 zb0, .int .i64 ut0, .int .i64 ub0] 29)).alloc (.cells #[.int .i64 t1, .int .i64 b1] 27)) := ⟨_, rfl⟩
  have c00 : w0w.cell? ⟨w.heap.size, 0, none⟩ = some (.int .i64 zt0) := by rw [hw0]; go_simp
  have c01 : w0w.cell? ⟨w.heap.size, 1, none⟩ = some (.int .i64 zb0) := by rw [hw0]; go_simp
  have c02 : w0w.cell? ⟨w.heap.size, 2, none⟩ = some (.int .i64 ut0) := by rw [hw0]; go_simp
  have c03 : w0w.cell? ⟨w.heap.size, 3, none⟩ = some (.int .i64 ub0) := by rw [hw0]; go_simp
  have c10 : w0w.cell? ⟨w.heap.size + 1, 0, none⟩ = some (.int .i64 t1) := by rw [hw0]; go_simp
  have c11 : w0w.cell? ⟨w.heap.size + 1, 1, none⟩ = some (.int .i64 b1) := by rw [hw0]; go_simp
  have hxw : Ext w w0w := by rw [hw0]; exact (by repeat (first | (with_reducible exact ext_refl _) | (with_reducible refine ext_setCell ?_ ?_ _) | (with_reducible refine ext_alloc ?_ _) | (with_reducible refine ext_drewN ?_ _) | (with_reducible refine ext_drew ?_) | (with_reducible refine ext_trans ?_ (by assumption)) | (dsimp only; omega) | omega | (simp; omega)))
  have HW0 := Lib.hid hw0
  clear hw0
  go_upto_region 1 with fail
  rw [← HW0.out]
  have HKS : Hid (∀ wb, Ext w0w wb → (Ext w0w wb ∧ wb.cell? ⟨w.heap.size, 0, none⟩ = some (.int .i64 (zt0)) ∧ wb.cell? ⟨w.heap.size, 1, none⟩ = some (.int .i64 (zb0)) ∧ wb.cell? ⟨w.heap.size, 2, none⟩ = some (.int .i64 (ut0)) ∧ wb.cell? ⟨w.heap.size, 3, none⟩ = some (.int .i64 (ub0)) ∧ wb.cell? ⟨w.heap.size + 1, 0, none⟩ = some (.int .i64 (t1)) ∧ wb.cell? ⟨w.heap.size + 1, 1, none⟩ = some (.int .i64 (b1)))) := fun wb h => ⟨h, ext_cell h c00, ext_cell h c01, ext_cell h c02, ext_cell h c03, ext_cell h c10, ext_cell h c11⟩
  go_upto_region 1 with fail
  go_cut [5, 6] (fun s5 s6 wx => ∃ g : Nat, s5 = .pointer (some ⟨g, 0, none⟩) ∧ s6 = .bool (coOk zt0 zb0 ut0 ub0 t1 b1) ∧ wx.cell? ⟨g, 0, none⟩ = some (.int .i64 (coT zt0 zb0 ut0 ub0 t1 b1)) ∧ wx.cell? ⟨g, 1, none⟩ = some (.int .i64 (coB zt0 zb0 ut0 ub0 t1 b1)) ∧ Ext w0w wx)
  case first =>
    go_region_held3 (fun w' => Ext w0w w' ∧ w'.cell? ⟨w.heap.size, 0, none⟩ = some (.int .i64 (zt0)) ∧ w'.cell? ⟨w.heap.size, 1, none⟩ = some (.int .i64 (zb0)) ∧ w'.cell? ⟨w.heap.size, 2, none⟩ = some (.int .i64 (ut0)) ∧ w'.cell? ⟨w.heap.size, 3, none⟩ = some (.int .i64 (ub0)) ∧ w'.cell? ⟨w.heap.size + 1, 0, none⟩ = some (.int .i64 (t1)) ∧ w'.cell? ⟨w.heap.size + 1, 1, none⟩ = some (.int .i64 (b1)))
      ((refine HKS.out _ ?_; repeat (first | (with_reducible exact ext_refl _) | (with_reducible refine ext_drew ?_) | (with_reducible refine ext_setCell ?_ ?_ _) | (with_reducible refine ext_alloc ?_ _) | (with_reducible refine ext_trans ?_ (by assumption)) | ((try dsimp only); with_reducible exact Nat.le_refl _) | ((try dsimp only); with_reducible refine ext_size ?_))))
      (first
        | (go_at_call 55; refine (laws_toLine _ _ _ _ _).mono ?_; rintro e w3 ⟨rfl, hx3⟩; obtain ⟨hc3, hf3, hn3⟩ := bcell3 hx3; first | (have hz4 := hn3 _ hz4) | (have hz := ext_size hx3; simp at hz; have hz4 := Nat.lt_of_succ_le hz) | skip)
        | (go_at_call 73; refine (laws_toFraction _ _ _).mono ?_; rintro e w3 ⟨rfl, hx3⟩; obtain ⟨hc3, hf3, hn3⟩ := bcell3 hx3; first | (have hz4 := hn3 _ hz4) | (have hz := ext_size hx3; simp at hz; have hz4 := Nat.lt_of_succ_le hz) | skip)
        | (go_at_call 96; refine (spec_Corrected _ _ _ _ _ _ _).mono ?_; rintro e w3 ⟨rfl, hx3⟩; obtain ⟨hc3, hf3, hn3⟩ := bcell3 hx3; first | (have hz4 := hn3 _ hz4) | (have hz := ext_size hx3; simp at hz; have hz4 := Nat.lt_of_succ_le hz) | skip))
    all_goals
      go_wp2_with fail
      go_meet
      refine ⟨_, rfl, rfl, ?_, ?_, ?_⟩
      · go_simp
      · go_simp
      · repeat (first | (with_reducible exact ext_refl _) | (with_reducible refine ext_drew ?_) | (with_reducible refine ext_setCell ?_ ?_ _) | (with_reducible refine ext_alloc ?_ _) | (with_reducible refine ext_trans ?_ (by assumption)) | ((try dsimp only); with_reducible exact Nat.le_refl _) | ((try dsimp only); with_reducible refine ext_size ?_))
  case rest =>
    obtain ⟨g1, rfl, rfl, p0, p1, hxc⟩ := hcut
    obtain ⟨w1w, rfl⟩ : ∃ x : World, x = wc := ⟨_, rfl⟩
    have c00x := ext_cell hxc c00
    have c01x := ext_cell hxc c01
    have c02x := ext_cell hxc c02
    have c03x := ext_cell hxc c03
    have c10x := ext_cell hxc c10
    have c11x := ext_cell hxc c11
    have HKS : Hid (∀ wb, Ext w1w wb → (Ext w1w wb ∧ wb.cell? ⟨w.heap.size, 0, none⟩ = some (.int .i64 (zt0)) ∧ wb.cell? ⟨w.heap.size, 1, none⟩ = some (.int .i64 (zb0)) ∧ wb.cell? ⟨w.heap.size, 2, none⟩ = some (.int .i64 (ut0)) ∧ wb.cell? ⟨w.heap.size, 3, none⟩ = some (.int .i64 (ub0)) ∧ wb.cell? ⟨w.heap.size + 1, 0, none⟩ = some (.int .i64 (t1)) ∧ wb.cell? ⟨w.heap.size + 1, 1, none⟩ = some (.int .i64 (b1)))) := fun wb h => ⟨h, ext_cell h c00x, ext_cell h c01x, ext_cell h c02x, ext_cell h c03x, ext_cell h c10x, ext_cell h c11x⟩
    go_upto_region 2 with fail
    go_cut [7, 8] (fun s7 s8 wx => ∃ g : Nat, s7 = .pointer (some ⟨g, 0, none⟩) ∧ s8 = .bool (coOk zt0 zb0 ut0 ub0 t1 b1) ∧ wx.cell? ⟨g, 0, none⟩ = some (.int .i64 (coT zt0 zb0 ut0 ub0 t1 b1)) ∧ wx.cell? ⟨g, 1, none⟩ = some (.int .i64 (coB zt0 zb0 ut0 ub0 t1 b1)) ∧ Ext w1w wx)
    case first =>
      go_region_held3 (fun w' => Ext w1w w' ∧ w'.cell? ⟨w.heap.size, 0, none⟩ = some (.int .i64 (zt0)) ∧ w'.cell? ⟨w.heap.size, 1, none⟩ = some (.int .i64 (zb0)) ∧ w'.cell? ⟨w.heap.size, 2, none⟩ = some (.int .i64 (ut0)) ∧ w'.cell? ⟨w.heap.size, 3, none⟩ = some (.int .i64 (ub0)) ∧ w'.cell? ⟨w.heap.size + 1, 0, none⟩ = some (.int .i64 (t1)) ∧ w'.cell? ⟨w.heap.size + 1, 1, none⟩ = some (.int .i64 (b1)))
        ((refine HKS.out _ ?_; repeat (first | (with_reducible exact ext_refl _) | (with_reducible refine ext_drew ?_) | (with_reducible refine ext_setCell ?_ ?_ _) | (with_reducible refine ext_alloc ?_ _) | (with_reducible refine ext_trans ?_ (by assumption)) | ((try dsimp only); with_reducible exact Nat.le_refl _) | ((try dsimp only); with_reducible refine ext_size ?_))))
        (first
          | (go_at_call 55; refine (laws_toLine _ _ _ _ _).mono ?_; rintro e w3 ⟨rfl, hx3⟩; obtain ⟨hc3, hf3, hn3⟩ := bcell3 hx3; first | (have hz4 := hn3 _ hz4) | (have hz := ext_size hx3; simp at hz; have hz4 := Nat.lt_of_succ_le hz) | skip)
          | (go_at_call 73; refine (laws_toFraction _ _ _).mono ?_; rintro e w3 ⟨rfl, hx3⟩; obtain ⟨hc3, hf3, hn3⟩ := bcell3 hx3; first | (have hz4 := hn3 _ hz4) | (have hz := ext_size hx3; simp at hz; have hz4 := Nat.lt_of_succ_le hz) | skip)
          | (go_at_call 97; refine (impl_Corrected _ _ _ _ _ _ _).mono ?_; rintro e w3 ⟨rfl, hx3⟩; obtain ⟨hc3, hf3, hn3⟩ := bcell3 hx3; first | (have hz4 := hn3 _ hz4) | (have hz := ext_size hx3; simp at hz; have hz4 := Nat.lt_of_succ_le hz) | skip))
      all_goals
        go_wp2_with fail
        go_meet
        refine ⟨_, rfl, rfl, ?_, ?_, ?_⟩
        · go_simp
        · go_simp
        · repeat (first | (with_reducible exact ext_refl _) | (with_reducible refine ext_drew ?_) | (with_reducible refine ext_setCell ?_ ?_ _) | (with_reducible refine ext_alloc ?_ _) | (with_reducible refine ext_trans ?_ (by assumption)) | ((try dsimp only); with_reducible exact Nat.le_refl _) | ((try dsimp only); with_reducible refine ext_size ?_))
    case rest =>
      obtain ⟨g2, rfl, rfl, q0, q1, hxd⟩ := hcut
      obtain ⟨w2w, rfl⟩ : ∃ x : World, x = wc := ⟨_, rfl⟩
      have p0x := ext_cell hxd p0
      have p1x := ext_cell hxd p1
      go_wp2_with (go_at_call 71; refine (laws_eqFraction _ _ _ _ _).mono ?_; rw [eqP_self]; rintro e w4 ⟨rfl, hx4⟩)
      go_ret
      exact ⟨rfl, ext_trans hxw (ext_trans hxc (ext_trans hxd hx4))⟩

set_option maxRecDepth 100000 in
theorem lifted (os : Os) (started : os.Started) (H : Type) (enc : TypeId × Value → H) :
    ReturnsInHanded {} Try.checked os 30 .any (Rows.fnExactCorrectedSpec.pre6 enc Try.prog Try.f30 Rows.fnExactCorrectedRow.domain false) (Rows.fnExactCorrectedSpec.post enc Try.prog Try.f30 false true false false) := by
  refine returnsInHanded_of_change (C := Try.checked) own started (by kernel_rfl) Try.func30
    (ChangeSpec.witness6 (enc := enc) (C := Try.checked) false ⟨#[], #[.agg #[.int .i64 0, .int .i64 0, .int .i64 0, .int .i64 0], .agg #[.int .i64 0, .int .i64 0]], []⟩ 8 (by kernel_rfl) (by kernel_rfl) (by kernel_rfl) (by kernel_rfl)) ?_
  intro W base args ds gs before hval0 hW hcnd _
  have hval : ∀ (j : Nat) t v, Try.f30.params[j]? = some t → args[j]? = some v → Value.okWide Try.prog W .any base t v := hval0
  have hW' := hW
  obtain ⟨p, q, hA0, hV, rfl, hfz, hnd⟩ := hW
  have hA : DataW.TrodAll enc Try.prog W 0 (fun _ => true) true Try.f30.params.toList args.toList ds p := hA0
  rw [Try.params30] at hA hval
  obtain ⟨v0, vs0, d0, ds0, p0, q0, hargs, rfl, rfl, h0, r0⟩ := trodAll_cons hA
  obtain ⟨v1, vs1, d1, ds1, p1, q1, rfl, rfl, rfl, h1, r1⟩ := trodAll_cons r0
  obtain ⟨rfl, rfl, rfl⟩ := trodAll_nil r1
  obtain rfl : args = #[v0, v1] := by cases args; simp_all
  obtain ⟨rfl, rfl⟩ := trodVars_none hV
  have k0 := h0
  have lt0 : ∀ x ∈ p0, x.block < W.heap.size := by obtain ⟨m, hm⟩ := k0; exact DataW.trod_lt m _ _ _ hm
  obtain ⟨zt0, zb0, ut0, ub0, rfl, w0, x0, y0, z0⟩ := open_line_arg Try.underlying29 Try.underlying27 (by kernel_rfl) (by kernel_rfl) (by kernel_rfl) ⟨rfl, rfl⟩ ⟨rfl, rfl⟩ ⟨rfl, rfl⟩ ⟨rfl, rfl⟩ Try.underlying3 (hval 0 29 v0 rfl rfl) h0
  have k1 := h1
  have lt1 : ∀ x ∈ p1, x.block < W.heap.size := by obtain ⟨m, hm⟩ := k1; exact DataW.trod_lt m _ _ _ hm
  obtain ⟨t1, b1, rfl, w1, x1⟩ := open_pair_arg Try.underlying27 (by kernel_rfl) (by kernel_rfl) rfl rfl Try.underlying3 (hval 1 27 v1 rfl rfl) h1
  clear hA0 hval0
  refine (walk W zt0 zb0 ut0 ub0 w0 x0 y0 z0 t1 b1 w1 x1).mono fun e W' ⟨he, bel⟩ => ?_
  subst he
  exact ⟨_, rfl, _, _, _, [], _, [], hW', trodAll_mk1 (shut_bool Try.underlying4 _), (trodAll_cons_mk (Below.trod laidOut (by kernel_rfl) (of_decide_eq_true (by kernel_rfl)) k0 bel lt0) (trodAll_cons_mk (Below.trod laidOut (by kernel_rfl) (of_decide_eq_true (by kernel_rfl)) k1 bel lt1) trodAll_mk0)), rfl, bel.frame _, fun h => by cases h⟩

theorem closed : joinedFacts Try.prog 30 Try.f30 Rows.fnExactCorrectedSpec Rows.fnExactCorrectedRow = true := by
  unfold joinedFacts
  rw [make_eq, liftsFinal_eq, mayEnter_eq]
  kernel_rfl

theorem over : Rows.fnExactCorrectedRow.holds Try.pinned (OpenSpec.ofChange Rows.fnExactCorrectedSpec) :=
  OpenClaim.holds_of_wide 30 Try.f30 rfl rfl rfl rfl rfl rfl rfl ⟨rfl, rfl, rfl, rfl, rfl⟩ rfl rfl rfl rfl rfl (by kernel_rfl) Try.func30 closed
    (of_decide_eq_true (by kernel_rfl)) (by unfold Func.isWrapper; first | (rw [if_pos (by decide +kernel)]; kernel_rfl) | (rw [if_neg (by decide +kernel)]; exact ⟨rfl, rfl⟩))
    (fun os started H enc _ => lifted os started H enc)

theorem proved : Rows.FnExactCorrectedSaid := over
#print axioms proved
end Go.Proofs.Ytnafpciionmbbaa.fnExactCorrected
