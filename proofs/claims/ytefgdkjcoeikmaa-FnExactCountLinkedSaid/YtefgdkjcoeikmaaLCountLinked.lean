/- 'FnExactCountLinked' is proved: the program's CountLinked returns what the reference's returns, for all arguments. No condition. -/
import Derived.Test.YtefgdkjcoeikmaaRow
import Derived.Test.YtefgdkjcoeikmaaLink3
namespace Go.Proofs.Ytefgdkjcoeikmaa.fnExactCountLinked
open Go.ChangeShapes Go.WideShapes Go.ChangeAt Go.RowKit
set_option linter.unusedVariables false
set_option linter.unusedSimpArgs false

set_option maxHeartbeats 12800000 in
theorem walk (w : World) (a0 : Option Addr) (n0 c0 : Nat) (A0 : Nat → Option Addr) (L0 C0 : Nat → Nat) (X0 : Nat → Nat → Int) (w0 : RowsAt w a0 n0 A0 L0 C0 X0) (b0 : n0 ≤ c0) (e0 : c0 ≤ maxLen) (f0 : ∀ i, i < n0 → ∀ j, j < L0 i → (Lit.int .i64 (X0 i j)).wf = true) :
    Calls Try.prog 4 #[.slice a0 n0 c0] w fun e w' => e = .returned (.bool true) ∧ Ext w w' := by
  have h63 : n0 ≤ 9223372036854775807 := by unfold maxLen at e0; omega
  go_enter Try.func4, Try.ntmps4
  go_wp2_with fail
  refine (laws_szIntSS _ _ _ _ _ _ _ _ _ w0 h63 (by omega) (by omega)).mono ?_
  rintro e u ⟨hs, rfl⟩
  rcases hs with rfl | ⟨r, r1, r2, rfl, hn, hT⟩
  · go_wp2_with fail
    go_ret
    exact ⟨rfl, ext_refl _⟩
  · have hn_ : n0 ≤ 1099511627776 := by omega
    go_wp2_with fail
    refine (laws_toIntSS _ _ _ _ L0 _ X0 _ hn w0 hT).mono ?_
    rintro e u1 ⟨p1, q1, A_1, C_1, rfl, hO1, hx1⟩
    have E1 : Ext w u1 := hx1
    have z1 := ext_size hx1
    go_wp2_with fail
    refine (spec_CountLinked _ _ _ _ L0 _ X0 _ hO1.rows hn hT).mono ?_
    rintro e u2 ⟨z, hz, rfl, hx2⟩
    have HZ := Lib.hid hz
    clear hz
    have E2 : Ext w u2 := ext_trans E1 hx2
    have z2 := ext_size hx2
    go_wp2_with fail
    refine (laws_toIntSS _ _ _ _ L0 _ X0 _ hn (w0.ext E2) hT).mono ?_
    rintro e u3 ⟨p3, q3, A_3, C_3, rfl, hO3, hx3⟩
    have E3 : Ext w u3 := ext_trans E2 hx3
    have z3 := ext_size hx3
    go_wp2_with fail
    refine (impl_CountLinked _ _ _ _ L0 _ X0 _ hO3.rows hn hT).mono ?_
    rintro e u4 ⟨y, hy, rfl, hx4⟩
    obtain rfl : z = y := HZ.out.one hy
    clear hy
    have E4 : Ext w u4 := ext_trans E3 hx4
    have z4 := ext_size hx4
    go_wp2_with fail
    refine (laws_toIntSS _ _ _ _ L0 _ X0 _ hn (w0.ext E4) hT).mono ?_
    rintro e u5 ⟨p5, q5, A_5, C_5, rfl, hO5, hx5⟩
    have E5 : Ext w u5 := ext_trans E4 hx5
    have z5 := ext_size hx5
    go_wp2_with fail
    refine (laws_eqIntSS _ _ _ _ _ _ _ _ _ _ _ _ _ _ hn ((hO3.ext hx4).ext hx5).rows hO5.rows hT (fun _ _ => rfl) (fun _ _ _ _ => rfl)).mono ?_
    rintro e u6 ⟨rfl, hx6⟩
    have E6 : Ext w u6 := ext_trans E5 hx6
    have z6 := ext_size hx6
    go_wp2_with fail
    go_ret
    exact ⟨rfl, E6⟩

set_option maxRecDepth 100000 in
theorem lifted (os : Os) (started : os.Started) (H : Type) (enc : TypeId × Value → H) :
    ReturnsInHanded {} Try.checked os 4 .any (Rows.fnExactCountLinkedSpec.pre6 enc Try.prog Try.f4 Rows.fnExactCountLinkedRow.domain false) (Rows.fnExactCountLinkedSpec.post enc Try.prog Try.f4 false true false false) := by
  refine returnsInHanded_of_change (C := Try.checked) own started (by kernel_rfl) Try.func4
    (ChangeSpec.witness6 (enc := enc) (C := Try.checked) false ⟨#[], #[.slice none 0 0], []⟩ 8 (by kernel_rfl) (by kernel_rfl) (by kernel_rfl) (by kernel_rfl)) ?_
  intro W base args ds gs before hval0 hW hcnd _
  have hval : ∀ (j : Nat) t v, Try.f4.params[j]? = some t → args[j]? = some v → Value.okWide Try.prog W .any base t v := hval0
  have hW' := hW
  obtain ⟨p, q, hA0, hV, rfl, hfz, hnd⟩ := hW
  have hA : DataW.TrodAll enc Try.prog W 0 (fun _ => true) true Try.f4.params.toList args.toList ds p := hA0
  rw [Try.params4] at hA hval
  obtain ⟨v0, vs0, d0, ds0, p0, q0, hargs, rfl, rfl, h0, r0⟩ := trodAll_cons hA
  obtain ⟨rfl, rfl, rfl⟩ := trodAll_nil r0
  obtain rfl : args = #[v0] := by cases args; simp_all
  obtain ⟨rfl, rfl⟩ := trodVars_none hV
  have k0 := h0
  have lt0 : ∀ x ∈ p0, x.block < W.heap.size := by obtain ⟨m, hm⟩ := k0; exact DataW.trod_lt m _ _ _ hm
  obtain ⟨a0, n0, c0, rfl⟩ := okWide_slice Try.underlying22 (hval 0 22 v0 rfl rfl)
  obtain ⟨A0, L0, C0, X0, w0, b0, e0, f0⟩ := open_rows_arg Try.underlying22 Try.underlying23 Try.underlying3 (by kernel_rfl) (by kernel_rfl) h0
  clear hA0 hval0
  refine (walk W a0 n0 c0 A0 L0 C0 X0 w0 b0 e0 f0).mono fun e W' ⟨he, bel⟩ => ?_
  subst he
  exact ⟨_, rfl, _, _, _, [], _, [], hW', trodAll_mk1 (shut_bool Try.underlying4 _), (trodAll_cons_mk (Below.trod laidOut (by kernel_rfl) (of_decide_eq_true (by kernel_rfl)) k0 bel lt0) trodAll_mk0), rfl, bel.frame _, fun h => by cases h⟩

theorem closed : joinedFacts Try.prog 4 Try.f4 Rows.fnExactCountLinkedSpec Rows.fnExactCountLinkedRow = true := by
  unfold joinedFacts
  rw [make_eq, liftsFinal_eq, mayEnter_eq]
  kernel_rfl

theorem over : Rows.fnExactCountLinkedRow.holds Try.pinned (OpenSpec.ofChange Rows.fnExactCountLinkedSpec) :=
  OpenClaim.holds_of_wide 4 Try.f4 rfl rfl rfl rfl rfl rfl rfl ⟨rfl, rfl, rfl, rfl, rfl⟩ rfl rfl rfl rfl rfl (by kernel_rfl) Try.func4 closed
    (of_decide_eq_true (by kernel_rfl)) (by unfold Func.isWrapper; first | (rw [if_pos (by decide +kernel)]; kernel_rfl) | (rw [if_neg (by decide +kernel)]; exact ⟨rfl, rfl⟩))
    (fun os started H enc _ => lifted os started H enc)

theorem proved : Rows.FnExactCountLinkedSaid := over
#print axioms proved
end Go.Proofs.Ytefgdkjcoeikmaa.fnExactCountLinked
