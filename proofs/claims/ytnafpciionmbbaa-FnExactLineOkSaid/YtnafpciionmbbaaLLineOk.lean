/- 'FnExactLineOk' is proved: the program's LineOk returns what the reference's returns, for all arguments. No condition. -/
import Derived.Test.YtnafpciionmbbaaRow
import Derived.Test.YtnafpciionmbbaaFrac6
import Derived.Deep.RegionHeld3
import Derived.Deep.DeepCutAuto
namespace Go.Proofs.Ytnafpciionmbbaa.fnExactLineOk
open Go.ChangeShapes Go.WideShapes Go.ChangeAt Go.RowKit
set_option linter.unusedVariables false
set_option linter.unusedSimpArgs false

set_option maxHeartbeats 3200000 in
theorem walk (w : World) (zt0 zb0 ut0 ub0 : Int) (w0 : (Lit.int .i64 zt0).wf = true) (x0 : (Lit.int .i64 zb0).wf = true) (y0 : (Lit.int .i64 ut0).wf = true) (z0 : (Lit.int .i64 ub0).wf = true) :
    Calls Try.prog 13 #[.agg #[.int .i64 zt0, .int .i64 zb0, .int .i64 ut0, .int .i64 ub0]] w fun e w' => e = .returned (.bool true) ∧ Ext w w' := by
  go_enter Try.func13, Try.ntmps13
  go_wp2_with fail
  refine (laws_toLine _ _ _ _ _).mono ?_
  rintro e w1 ⟨rfl, hx1⟩
  obtain ⟨hc1, hf1, hn1⟩ := bcell3 hx1
  have hb10 : w.heap.size < w1.heap.size := by have q := ext_size hx1; (try simp at q); omega
  go_wp2_with fail
  refine (spec_LineOk _ _ _ _ _).mono ?_
  rintro e w2 ⟨rfl, hx2⟩
  obtain ⟨hc2, hf2, hn2⟩ := bcell3 hx2
  have hb20 : w.heap.size < w2.heap.size := by have q := ext_size hx2; (try simp at q); omega
  have hz2 := ext_size hx2
  (try simp at hz2)
  go_wp2_with fail
  refine (laws_toLine _ _ _ _ _).mono ?_
  rintro e w3 ⟨rfl, hx3⟩
  obtain ⟨hc3, hf3, hn3⟩ := bcell3 hx3
  have hb30 : w.heap.size < w3.heap.size := by have q := ext_size hx3; (try simp at q); omega
  have hz3 := ext_size hx3
  (try simp at hz3)
  go_wp2_with fail
  refine (impl_LineOk _ _ _ _ _).mono ?_
  rintro e w4 ⟨rfl, hx4⟩
  obtain ⟨hc4, hf4, hn4⟩ := bcell3 hx4
  have hb40 : w.heap.size < w4.heap.size := by have q := ext_size hx4; (try simp at q); omega
  have hz4 := ext_size hx4
  (try simp at hz4)
  go_wp2_with fail
  go_ret
  exact ⟨rfl, (by repeat (first | (with_reducible exact ext_refl _) | (with_reducible refine ext_setCell ?_ ?_ _) | (with_reducible refine ext_alloc ?_ _) | (with_reducible refine ext_drewN ?_ _) | (with_reducible refine ext_drew ?_) | (with_reducible refine ext_trans ?_ (by assumption)) | (dsimp only; omega) | omega | (simp; omega)))⟩

set_option maxRecDepth 100000 in
theorem lifted (os : Os) (started : os.Started) (H : Type) (enc : TypeId × Value → H) :
    ReturnsInHanded {} Try.checked os 13 .any (Rows.fnExactLineOkSpec.pre6 enc Try.prog Try.f13 Rows.fnExactLineOkRow.domain false) (Rows.fnExactLineOkSpec.post enc Try.prog Try.f13 false true false false) := by
  refine returnsInHanded_of_change (C := Try.checked) own started (by kernel_rfl) Try.func13
    (ChangeSpec.witness6 (enc := enc) (C := Try.checked) false ⟨#[], #[.agg #[.int .i64 0, .int .i64 0, .int .i64 0, .int .i64 0]], []⟩ 8 (by kernel_rfl) (by kernel_rfl) (by kernel_rfl) (by kernel_rfl)) ?_
  intro W base args ds gs before hval0 hW hcnd _
  have hval : ∀ (j : Nat) t v, Try.f13.params[j]? = some t → args[j]? = some v → Value.okWide Try.prog W .any base t v := hval0
  have hW' := hW
  obtain ⟨p, q, hA0, hV, rfl, hfz, hnd⟩ := hW
  have hA : DataW.TrodAll enc Try.prog W 0 (fun _ => true) true Try.f13.params.toList args.toList ds p := hA0
  rw [Try.params13] at hA hval
  obtain ⟨v0, vs0, d0, ds0, p0, q0, hargs, rfl, rfl, h0, r0⟩ := trodAll_cons hA
  obtain ⟨rfl, rfl, rfl⟩ := trodAll_nil r0
  obtain rfl : args = #[v0] := by cases args; simp_all
  obtain ⟨rfl, rfl⟩ := trodVars_none hV
  have k0 := h0
  have lt0 : ∀ x ∈ p0, x.block < W.heap.size := by obtain ⟨m, hm⟩ := k0; exact DataW.trod_lt m _ _ _ hm
  obtain ⟨zt0, zb0, ut0, ub0, rfl, w0, x0, y0, z0⟩ := open_line_arg Try.underlying29 Try.underlying27 (by kernel_rfl) (by kernel_rfl) (by kernel_rfl) ⟨rfl, rfl⟩ ⟨rfl, rfl⟩ ⟨rfl, rfl⟩ ⟨rfl, rfl⟩ Try.underlying3 (hval 0 29 v0 rfl rfl) h0
  clear hA0 hval0
  refine (walk W zt0 zb0 ut0 ub0 w0 x0 y0 z0).mono fun e W' ⟨he, bel⟩ => ?_
  subst he
  exact ⟨_, rfl, _, _, _, [], _, [], hW', trodAll_mk1 (shut_bool Try.underlying4 _), (trodAll_cons_mk (Below.trod laidOut (by kernel_rfl) (of_decide_eq_true (by kernel_rfl)) k0 bel lt0) trodAll_mk0), rfl, bel.frame _, fun h => by cases h⟩

theorem closed : joinedFacts Try.prog 13 Try.f13 Rows.fnExactLineOkSpec Rows.fnExactLineOkRow = true := by
  unfold joinedFacts
  rw [make_eq, liftsFinal_eq, mayEnter_eq]
  kernel_rfl

theorem over : Rows.fnExactLineOkRow.holds Try.pinned (OpenSpec.ofChange Rows.fnExactLineOkSpec) :=
  OpenClaim.holds_of_wide 13 Try.f13 rfl rfl rfl rfl rfl rfl rfl ⟨rfl, rfl, rfl, rfl, rfl⟩ rfl rfl rfl rfl rfl (by kernel_rfl) Try.func13 closed
    (of_decide_eq_true (by kernel_rfl)) (by unfold Func.isWrapper; first | (rw [if_pos (by decide +kernel)]; kernel_rfl) | (rw [if_neg (by decide +kernel)]; exact ⟨rfl, rfl⟩))
    (fun os started H enc _ => lifted os started H enc)

theorem proved : Rows.FnExactLineOkSaid := over
#print axioms proved
end Go.Proofs.Ytnafpciionmbbaa.fnExactLineOk
