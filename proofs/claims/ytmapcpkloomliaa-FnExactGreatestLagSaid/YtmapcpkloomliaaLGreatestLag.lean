/- 'FnExactGreatestLag' is proved: the program's GreatestLag returns what the reference's returns, for all arguments. No condition. -/
import Derived.Test.YtmapcpkloomliaaRow
import Derived.Test.YtmapcpkloomliaaList3
namespace Go.Proofs.Ytmapcpkloomliaa.fnExactGreatestLag
open Go.ChangeShapes Go.WideShapes Go.ChangeAt Go.RowKit
set_option linter.unusedVariables false
set_option linter.unusedSimpArgs false

set_option maxHeartbeats 3200000 in
theorem walk (w : World) (a0 : Int) (w0 : (Lit.int .i64 a0).wf = true) (a1 : Int) (w1 : (Lit.int .i64 a1).wf = true) (a2 : Option Addr) (n2 c2 : Nat) (X2 : Nat → Int) (w2 : IntsAt w a2 n2 X2) (b2 : n2 ≤ c2) (e2 : c2 ≤ maxLen) (f2 : ∀ i, i < n2 → (Lit.int .i64 (X2 i)).wf = true) :
    Calls Try.prog 8 #[.int .i64 a0, .int .i64 a1, .slice a2 n2 c2] w fun e w' => e = .returned (.bool true) ∧ Ext w w' := by
  by_cases hbig : n2 ≤ 1048576
  · have hn : n2 ≤ 1099511627776 := by omega
    go_enter Try.func8, Try.ntmps8
    go_wp2_with fail
    refine (laws_toIntS _ _ _ _ _ hn w2).mono ?_
    rintro e u1 ⟨p1, q1, rfl, hO1, hx1⟩
    go_wp2_with fail
    refine (spec_GreatestLag a0 a1 _ _ _ X2 _ hO1.reads hn).mono ?_
    rintro e u2 ⟨rfl, hx2⟩
    have E2 : Ext w u2 := ext_trans hx1 hx2
    go_wp2_with fail
    refine (laws_toIntS _ _ _ _ _ hn (w2.ext E2)).mono ?_
    rintro e u3 ⟨p3, q3, rfl, hO3, hx3⟩
    have E3 : Ext w u3 := ext_trans E2 hx3
    go_wp2_with fail
    refine (impl_GreatestLag a0 a1 _ _ _ X2 _ hO3.reads hn).mono ?_
    rintro e u4 ⟨rfl, hx4⟩
    have E4 : Ext w u4 := ext_trans E3 hx4
    go_wp2_with fail
    refine (laws_toIntS _ _ _ _ _ hn (w2.ext E4)).mono ?_
    rintro e u5 ⟨p5, q5, rfl, hO5, hx5⟩
    have E5 : Ext w u5 := ext_trans E4 hx5
    go_wp2_with fail
    refine (laws_eqIntS _ _ _ _ _ _ _ _ hn (hO3.ext (ext_trans hx4 hx5)).reads hO5.reads (fun _ _ => rfl)).mono ?_
    rintro e u6 ⟨rfl, hx6⟩
    go_wp2_with fail
    go_ret
    exact ⟨rfl, ext_trans E5 hx6⟩
  · go_enter Try.func8, Try.ntmps8
    go_wp2_with fail
    go_ret
    exact ⟨rfl, ext_refl _⟩

set_option maxRecDepth 100000 in
theorem lifted (os : Os) (started : os.Started) (H : Type) (enc : TypeId × Value → H) :
    ReturnsInHanded {} Try.checked os 8 .any (Rows.fnExactGreatestLagSpec.pre6 enc Try.prog Try.f8 Rows.fnExactGreatestLagRow.domain false) (Rows.fnExactGreatestLagSpec.post enc Try.prog Try.f8 false true false false) := by
  refine returnsInHanded_of_change (C := Try.checked) own started (by kernel_rfl) Try.func8
    (ChangeSpec.witness6 (enc := enc) (C := Try.checked) false ⟨#[], #[.int .i64 0, .int .i64 0, .slice none 0 0], []⟩ 8 (by kernel_rfl) (by kernel_rfl) (by kernel_rfl) (by kernel_rfl)) ?_
  intro W base args ds gs before hval0 hW hcnd _
  have hval : ∀ (j : Nat) t v, Try.f8.params[j]? = some t → args[j]? = some v → Value.okWide Try.prog W .any base t v := hval0
  have hW' := hW
  obtain ⟨p, q, hA0, hV, rfl, hfz, hnd⟩ := hW
  have hA : DataW.TrodAll enc Try.prog W 0 (fun _ => true) true Try.f8.params.toList args.toList ds p := hA0
  rw [Try.params8] at hA hval
  obtain ⟨v0, vs0, d0, ds0, p0, q0, hargs, rfl, rfl, h0, r0⟩ := trodAll_cons hA
  obtain ⟨v1, vs1, d1, ds1, p1, q1, rfl, rfl, rfl, h1, r1⟩ := trodAll_cons r0
  obtain ⟨v2, vs2, d2, ds2, p2, q2, rfl, rfl, rfl, h2, r2⟩ := trodAll_cons r1
  obtain ⟨rfl, rfl, rfl⟩ := trodAll_nil r2
  obtain rfl : args = #[v0, v1, v2] := by cases args; simp_all
  obtain ⟨rfl, rfl⟩ := trodVars_none hV
  have k0 := h0
  have lt0 : ∀ x ∈ p0, x.block < W.heap.size := by obtain ⟨m, hm⟩ := k0; exact DataW.trod_lt m _ _ _ hm
  obtain ⟨a0, rfl, _, _, w0⟩ := open_int Try.underlying3 (hval 0 3 v0 rfl rfl) h0
  have k1 := h1
  have lt1 : ∀ x ∈ p1, x.block < W.heap.size := by obtain ⟨m, hm⟩ := k1; exact DataW.trod_lt m _ _ _ hm
  obtain ⟨a1, rfl, _, _, w1⟩ := open_int Try.underlying3 (hval 1 3 v1 rfl rfl) h1
  have k2 := h2
  have lt2 : ∀ x ∈ p2, x.block < W.heap.size := by obtain ⟨m, hm⟩ := k2; exact DataW.trod_lt m _ _ _ hm
  obtain ⟨a2, n2, c2, rfl⟩ := okWide_slice Try.underlying22 (hval 2 22 v2 rfl rfl)
  obtain ⟨X2, w2, b2, e2, f2⟩ := open_ints_arg Try.underlying22 Try.underlying3 (by kernel_rfl) h2
  clear hA0 hval0
  refine (walk W a0 w0 a1 w1 a2 n2 c2 X2 w2 b2 e2 f2).mono fun e W' ⟨he, bel⟩ => ?_
  subst he
  exact ⟨_, rfl, _, _, _, [], _, [], hW', trodAll_mk1 (shut_bool Try.underlying4 _), (trodAll_cons_mk (Below.trod laidOut (by kernel_rfl) (of_decide_eq_true (by kernel_rfl)) k0 bel lt0) (trodAll_cons_mk (Below.trod laidOut (by kernel_rfl) (of_decide_eq_true (by kernel_rfl)) k1 bel lt1) (trodAll_cons_mk (Below.trod laidOut (by kernel_rfl) (of_decide_eq_true (by kernel_rfl)) k2 bel lt2) trodAll_mk0))), rfl, bel.frame _, fun h => by cases h⟩

theorem closed : joinedFacts Try.prog 8 Try.f8 Rows.fnExactGreatestLagSpec Rows.fnExactGreatestLagRow = true := by
  unfold joinedFacts
  rw [make_eq, liftsFinal_eq, mayEnter_eq]
  kernel_rfl

theorem over : Rows.fnExactGreatestLagRow.holds Try.pinned (OpenSpec.ofChange Rows.fnExactGreatestLagSpec) :=
  OpenClaim.holds_of_wide 8 Try.f8 rfl rfl rfl rfl rfl rfl rfl ⟨rfl, rfl, rfl, rfl, rfl⟩ rfl rfl rfl rfl rfl (by kernel_rfl) Try.func8 closed
    (of_decide_eq_true (by kernel_rfl)) (by unfold Func.isWrapper; first | (rw [if_pos (by decide +kernel)]; kernel_rfl) | (rw [if_neg (by decide +kernel)]; exact ⟨rfl, rfl⟩))
    (fun os started H enc _ => lifted os started H enc)

theorem proved : Rows.FnExactGreatestLagSaid := over
#print axioms proved
end Go.Proofs.Ytmapcpkloomliaa.fnExactGreatestLag
