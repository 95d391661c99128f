/- 'FnExactSumOfRounded' is proved: the program's SumOfRounded returns what the reference's returns, for all arguments. No condition. -/
import Derived.Test.YtmapcpkloomliaaRow
import Derived.Test.YtmapcpkloomliaaList2
namespace Go.Proofs.Ytmapcpkloomliaa.fnExactSumOfRounded
open Go.ChangeShapes Go.WideShapes Go.ChangeAt Go.RowKit
set_option linter.unusedVariables false
set_option linter.unusedSimpArgs false

set_option maxHeartbeats 3200000 in
theorem walk (w : World) (a0 : Option Addr) (n0 c0 : Nat) (X0 : Nat → Int) (w0 : IntsAt w a0 n0 X0) (b0 : n0 ≤ c0) (e0 : c0 ≤ maxLen) (f0 : ∀ i, i < n0 → (Lit.int .i64 (X0 i)).wf = true) (a1 : Int) (w1 : (Lit.int .i64 a1).wf = true) :
    Calls Try.prog 5 #[.slice a0 n0 c0, .int .i64 a1] w fun e w' => e = .returned (.bool true) ∧ Ext w w' := by
  by_cases hbig : n0 ≤ 1048576
  · have hn : n0 ≤ 1099511627776 := by omega
    go_enter Try.func5, Try.ntmps5
    go_wp2_with fail
    refine (laws_toIntS _ _ _ _ _ hn w0).mono ?_
    rintro e u1 ⟨p1, q1, rfl, hO1, hx1⟩
    go_wp2_with fail
    refine (ext_of_same (spec_SumOfRounded _ _ _ a1 X0 _ hO1.reads hn)).mono ?_
    rintro e u2 ⟨rfl, hx2⟩
    have E2 : Ext w u2 := ext_trans hx1 hx2
    go_wp2_with fail
    refine (laws_toIntS _ _ _ _ _ hn (w0.ext E2)).mono ?_
    rintro e u3 ⟨p3, q3, rfl, hO3, hx3⟩
    have E3 : Ext w u3 := ext_trans E2 hx3
    go_wp2_with fail
    refine (ext_of_same (impl_SumOfRounded _ _ _ a1 X0 _ hO3.reads hn)).mono ?_
    rintro e u4 ⟨rfl, hx4⟩
    have E4 : Ext w u4 := ext_trans E3 hx4
    go_wp2_with fail
    refine (laws_toIntS _ _ _ _ _ hn (w0.ext E4)).mono ?_
    rintro e u5 ⟨p5, q5, rfl, hO5, hx5⟩
    have E5 : Ext w u5 := ext_trans E4 hx5
    go_wp2_with fail
    refine (laws_eqIntS _ _ _ _ _ _ _ _ hn (hO3.ext (ext_trans hx4 hx5)).reads hO5.reads (fun _ _ => rfl)).mono ?_
    rintro e u6 ⟨rfl, hx6⟩
    go_wp2_with fail
    go_ret
    exact ⟨rfl, ext_trans E5 hx6⟩
  · go_enter Try.func5, Try.ntmps5
    go_wp2_with fail
    go_ret
    exact ⟨rfl, ext_refl _⟩

set_option maxRecDepth 100000 in
theorem lifted (os : Os) (started : os.Started) (H : Type) (enc : TypeId × Value → H) :
    ReturnsInHanded {} Try.checked os 5 .any (Rows.fnExactSumOfRoundedSpec.pre6 enc Try.prog Try.f5 Rows.fnExactSumOfRoundedRow.domain false) (Rows.fnExactSumOfRoundedSpec.post enc Try.prog Try.f5 false true false false) := by
  refine returnsInHanded_of_change (C := Try.checked) own started (by kernel_rfl) Try.func5
    (ChangeSpec.witness6 (enc := enc) (C := Try.checked) false ⟨#[], #[.slice none 0 0, .int .i64 0], []⟩ 8 (by kernel_rfl) (by kernel_rfl) (by kernel_rfl) (by kernel_rfl)) ?_
  intro W base args ds gs before hval0 hW hcnd _
  have hval : ∀ (j : Nat) t v, Try.f5.params[j]? = some t → args[j]? = some v → Value.okWide Try.prog W .any base t v := hval0
  have hW' := hW
  obtain ⟨p, q, hA0, hV, rfl, hfz, hnd⟩ := hW
  have hA : DataW.TrodAll enc Try.prog W 0 (fun _ => true) true Try.f5.params.toList args.toList ds p := hA0
  rw [Try.params5] at hA hval
  obtain ⟨v0, vs0, d0, ds0, p0, q0, hargs, rfl, rfl, h0, r0⟩ := trodAll_cons hA
  obtain ⟨v1, vs1, d1, ds1, p1, q1, rfl, rfl, rfl, h1, r1⟩ := trodAll_cons r0
  obtain ⟨rfl, rfl, rfl⟩ := trodAll_nil r1
  obtain rfl : args = #[v0, v1] := by cases args; simp_all
  obtain ⟨rfl, rfl⟩ := trodVars_none hV
  have k0 := h0
  have lt0 : ∀ x ∈ p0, x.block < W.heap.size := by obtain ⟨m, hm⟩ := k0; exact DataW.trod_lt m _ _ _ hm
  obtain ⟨a0, n0, c0, rfl⟩ := okWide_slice Try.underlying22 (hval 0 22 v0 rfl rfl)
  obtain ⟨X0, w0, b0, e0, f0⟩ := open_ints_arg Try.underlying22 Try.underlying3 (by kernel_rfl) h0
  have k1 := h1
  have lt1 : ∀ x ∈ p1, x.block < W.heap.size := by obtain ⟨m, hm⟩ := k1; exact DataW.trod_lt m _ _ _ hm
  obtain ⟨a1, rfl, _, _, w1⟩ := open_int Try.underlying3 (hval 1 3 v1 rfl rfl) h1
  clear hA0 hval0
  refine (walk W a0 n0 c0 X0 w0 b0 e0 f0 a1 w1).mono fun e W' ⟨he, bel⟩ => ?_
  subst he
  exact ⟨_, rfl, _, _, _, [], _, [], hW', trodAll_mk1 (shut_bool Try.underlying4 _), (trodAll_cons_mk (Below.trod laidOut (by kernel_rfl) (of_decide_eq_true (by kernel_rfl)) k0 bel lt0) (trodAll_cons_mk (Below.trod laidOut (by kernel_rfl) (of_decide_eq_true (by kernel_rfl)) k1 bel lt1) trodAll_mk0)), rfl, bel.frame _, fun h => by cases h⟩

theorem closed : joinedFacts Try.prog 5 Try.f5 Rows.fnExactSumOfRoundedSpec Rows.fnExactSumOfRoundedRow = true := by
  unfold joinedFacts
  rw [make_eq, liftsFinal_eq, mayEnter_eq]
  kernel_rfl

theorem over : Rows.fnExactSumOfRoundedRow.holds Try.pinned (OpenSpec.ofChange Rows.fnExactSumOfRoundedSpec) :=
  OpenClaim.holds_of_wide 5 Try.f5 rfl rfl rfl rfl rfl rfl rfl ⟨rfl, rfl, rfl, rfl, rfl⟩ rfl rfl rfl rfl rfl (by kernel_rfl) Try.func5 closed
    (of_decide_eq_true (by kernel_rfl)) (by unfold Func.isWrapper; first | (rw [if_pos (by decide +kernel)]; kernel_rfl) | (rw [if_neg (by decide +kernel)]; exact ⟨rfl, rfl⟩))
    (fun os started H enc _ => lifted os started H enc)

theorem proved : Rows.FnExactSumOfRoundedSaid := over
#print axioms proved
end Go.Proofs.Ytmapcpkloomliaa.fnExactSumOfRounded
