/- 'FnExactAdjugateOf' is proved: the program's AdjugateOf returns what the reference's returns, for all arguments. No condition. -/
import Derived.Test.YtbehkflmhlfekaaRow
import Derived.Test.YtbehkflmhlfekaaDet3
namespace Go.Proofs.Ytbehkflmhlfekaa.fnExactAdjugateOf
open Go.ChangeShapes Go.WideShapes Go.ChangeAt Go.RowKit
set_option linter.unusedVariables false
set_option linter.unusedSimpArgs false

set_option maxHeartbeats 12800000 in
theorem walk (w : World) (a0 : Option Addr) (n0 c0 : Nat) (A0 : Nat → Option Addr) (L0 C0 : Nat → Nat) (X0 : Nat → Nat → Int) (w0 : RowsAt w a0 n0 A0 L0 C0 X0) (b0 : n0 ≤ c0) (e0 : c0 ≤ maxLen) (f0 : ∀ i, i < n0 → ∀ j, j < L0 i → (Lit.int .i64 (X0 i j)).wf = true) :
    Calls Try.prog 22 #[.slice a0 n0 c0] w fun e w' => e = .returned (.bool true) ∧ Ext w w' := by
  have h63 : n0 ≤ 9223372036854775807 := by unfold maxLen at e0; omega
  go_enter Try.func22, Try.ntmps22
  go_wp2_with fail
  refine (laws_szIntSS _ _ _ _ _ _ _ _ _ w0 h63 (by omega) (by omega)).mono ?_
  rintro e u ⟨hs, rfl⟩
  rcases hs with rfl | ⟨r, r1, r2, rfl, hn, hT⟩
  · go_wp2_with fail
    go_ret
    exact ⟨rfl, ext_refl _⟩
  · have hn_ : n0 ≤ 1099511627776 := by omega
    obtain ⟨m, hm⟩ : ∃ m : Nat, m = if squareOkB n0 L0 X0 = true then n0 else 0 := ⟨_, rfl⟩
    have hM : m ≤ 1048576 := by rw [hm]; (first | omega | (split <;> omega))
    have hTm : off (fun _ => n0) m ≤ 1048576 := by rw [hm]; exact off_small _ _ _ (fun hq => by have := (square_iff.1 hq).1; omega)
    have CS : ∀ (a0' : Option Addr) (c0' : Nat) (A0' : Nat → Option Addr) (C0' : Nat → Nat) (w : World), RowsAt w a0' n0 A0' L0 C0' X0 → Calls Try.prog 78 #[.slice a0' n0 c0'] w (MakesR w m (fun _ => n0) (adjF n0 X0)) := fun a0' c0' A0' C0' w h0' => by rw [hm]; exact spec_AdjugateOf _ _ _ _ L0 _ X0 _ h0' hn hT
    have CI : ∀ (a0' : Option Addr) (c0' : Nat) (A0' : Nat → Option Addr) (C0' : Nat → Nat) (w : World), RowsAt w a0' n0 A0' L0 C0' X0 → Calls Try.prog 79 #[.slice a0' n0 c0'] w (MakesR w m (fun _ => n0) (adjF n0 X0)) := fun a0' c0' A0' C0' w h0' => by rw [hm]; exact (impl_AdjugateOf _ _ _ _ L0 _ X0 _ h0' hn hT).mono fun _ _ h => h.makes
    clear hm
    have hTi : (off (fun _ => n0) m : Int) ≤ 1048576 := by omega
    go_wp2_with fail
    refine (laws_toIntSS _ _ _ _ L0 _ X0 _ hn w0 hT).mono ?_
    rintro e u1 ⟨p1, q1, A_1, C_1, rfl, hO1, hx1⟩
    have E1 : Ext w u1 := hx1
    have z1 := ext_size hx1
    go_wp2_with fail
    refine (CS _ _ _ _ _ hO1.rows).mono ?_
    rintro e u2 ⟨p2, q2, A_2, C_2, rfl, hO2, hx2⟩
    have E2 : Ext w u2 := ext_trans E1 hx2
    have z2 := ext_size hx2
    go_wp2_with fail
    refine (laws_toIntSS _ _ _ _ L0 _ X0 _ hn (w0.ext E2) hT).mono ?_
    rintro e u3 ⟨p3, q3, A_3, C_3, rfl, hO3, hx3⟩
    have E3 : Ext w u3 := ext_trans E2 hx3
    have z3 := ext_size hx3
    go_wp2_with fail
    refine (CI _ _ _ _ _ hO3.rows).mono ?_
    rintro e u4 ⟨p4, q4, A_4, C_4, rfl, hO4, hx4⟩
    have E4 : Ext w u4 := ext_trans E3 hx4
    have z4 := ext_size hx4
    go_wp2_with fail
    refine (laws_eqIntSS _ _ _ _ _ _ _ _ _ _ _ _ _ _ hM hO4.rows ((hO2.ext hx3).ext hx4).rows hTm (fun _ _ => rfl) (fun _ _ _ _ => rfl)).mono ?_
    rintro e u5 ⟨rfl, hx5⟩
    have E5 : Ext w u5 := ext_trans E4 hx5
    have z5 := ext_size hx5
    go_wp2_with fail
    refine (laws_toIntSS _ _ _ _ L0 _ X0 _ hn (w0.ext E5) hT).mono ?_
    rintro e u6 ⟨p6, q6, A_6, C_6, rfl, hO6, hx6⟩
    have E6 : Ext w u6 := ext_trans E5 hx6
    have z6 := ext_size hx6
    go_wp2_with fail
    refine (laws_eqIntSS _ _ _ _ _ _ _ _ _ _ _ _ _ _ hn (((hO3.ext hx4).ext hx5).ext hx6).rows hO6.rows hT (fun _ _ => rfl) (fun _ _ _ _ => rfl)).mono ?_
    rintro e u7 ⟨rfl, hx7⟩
    have E7 : Ext w u7 := ext_trans E6 hx7
    have z7 := ext_size hx7
    go_wp2_with fail
    refine (laws_markIntSS _ _ _ _ _ _ _ _ _ 1 _ hn (by omega) (by omega) ((((hO3.ext hx4).ext hx5).ext hx6).ext hx7) hT).mono ?_
    rintro e u8 ⟨rfl, hO8, hw8⟩
    have E8 : Ext w u8 := Below.trans E7 (hw8.below.mono (by omega))
    have z8 := hw8.size
    go_wp2_with fail
    refine (laws_eqIntSS _ _ _ _ _ _ _ _ _ _ _ _ _ _ hM ((((hO4.ext hx5).ext hx6).ext hx7).within hw8 (.inr (by omega))).rows ((((((hO2.ext hx3).ext hx4).ext hx5).ext hx6).ext hx7).within hw8 (.inl (by omega))).rows hTm (fun _ _ => rfl) (fun _ _ _ _ => rfl)).mono ?_
    rintro e u9 ⟨rfl, hx9⟩
    have E9 : Ext w u9 := ext_trans E8 hx9
    have z9 := ext_size hx9
    go_wp2_with fail
    refine (laws_markIntSS _ _ _ _ _ _ _ _ _ 1 _ hM (by omega) (by omega) (((((hO4.ext hx5).ext hx6).ext hx7).within hw8 (.inr (by omega))).ext hx9) hTm).mono ?_
    rintro e u10 ⟨rfl, hO10, hw10⟩
    have E10 : Ext w u10 := Below.trans E9 (hw10.below.mono (by omega))
    have z10 := hw10.size
    go_wp2_with fail
    refine (laws_heldIntSS _ _ _ _ _ _ _ 1 _ hM (by omega) (by omega) hO10.rows (fun _ _ _ _ => rfl) hTm).mono ?_
    rintro e u ⟨rfl, rfl⟩
    go_wp2_with fail
    refine (laws_toIntSS _ _ _ _ L0 _ X0 _ hn (w0.ext E10) hT).mono ?_
    rintro e u11 ⟨p11, q11, A_11, C_11, rfl, hO11, hx11⟩
    have E11 : Ext w u11 := ext_trans E10 hx11
    have z11 := ext_size hx11
    go_wp2_with fail
    refine (CI _ _ _ _ _ hO11.rows).mono ?_
    rintro e u12 ⟨p12, q12, A_12, C_12, rfl, hO12, hx12⟩
    have E12 : Ext w u12 := ext_trans E11 hx12
    have z12 := ext_size hx12
    go_wp2_with fail
    refine (laws_eqIntSS _ _ _ _ _ _ _ _ _ _ _ _ _ _ hM hO12.rows ((((((((((hO2.ext hx3).ext hx4).ext hx5).ext hx6).ext hx7).within hw8 (.inl (by omega))).ext hx9).within hw10 (.inl (by omega))).ext hx11).ext hx12).rows hTm (fun _ _ => rfl) (fun _ _ _ _ => rfl)).mono ?_
    rintro e u13 ⟨rfl, hx13⟩
    have E13 : Ext w u13 := ext_trans E12 hx13
    have z13 := ext_size hx13
    go_wp2_with fail
    refine (laws_heldIntSS _ _ _ _ _ _ _ 1 _ hM (by omega) (by omega) (((hO10.ext hx11).ext hx12).ext hx13).rows (fun _ _ _ _ => rfl) hTm).mono ?_
    rintro e u ⟨rfl, rfl⟩
    go_wp2_with fail
    go_ret
    exact ⟨rfl, E13⟩

set_option maxRecDepth 100000 in
theorem lifted (os : Os) (started : os.Started) (H : Type) (enc : TypeId × Value → H) :
    ReturnsInHanded {} Try.checked os 22 .any (Rows.fnExactAdjugateOfSpec.pre6 enc Try.prog Try.f22 Rows.fnExactAdjugateOfRow.domain false) (Rows.fnExactAdjugateOfSpec.post enc Try.prog Try.f22 false true false false) := by
  refine returnsInHanded_of_change (C := Try.checked) own started (by kernel_rfl) Try.func22
    (ChangeSpec.witness6 (enc := enc) (C := Try.checked) false ⟨#[], #[.slice none 0 0], []⟩ 8 (by kernel_rfl) (by kernel_rfl) (by kernel_rfl) (by kernel_rfl)) ?_
  intro W base args ds gs before hval0 hW hcnd _
  have hval : ∀ (j : Nat) t v, Try.f22.params[j]? = some t → args[j]? = some v → Value.okWide Try.prog W .any base t v := hval0
  have hW' := hW
  obtain ⟨p, q, hA0, hV, rfl, hfz, hnd⟩ := hW
  have hA : DataW.TrodAll enc Try.prog W 0 (fun _ => true) true Try.f22.params.toList args.toList ds p := hA0
  rw [Try.params22] at hA hval
  obtain ⟨v0, vs0, d0, ds0, p0, q0, hargs, rfl, rfl, h0, r0⟩ := trodAll_cons hA
  obtain ⟨rfl, rfl, rfl⟩ := trodAll_nil r0
  obtain rfl : args = #[v0] := by cases args; simp_all
  obtain ⟨rfl, rfl⟩ := trodVars_none hV
  have k0 := h0
  have lt0 : ∀ x ∈ p0, x.block < W.heap.size := by obtain ⟨m, hm⟩ := k0; exact DataW.trod_lt m _ _ _ hm
  obtain ⟨a0, n0, c0, rfl⟩ := okWide_slice Try.underlying22 (hval 0 22 v0 rfl rfl)
  obtain ⟨A0, L0, C0, X0, w0, b0, e0, f0⟩ := open_rows_arg Try.underlying22 Try.underlying34 Try.underlying3 (by kernel_rfl) (by kernel_rfl) h0
  clear hA0 hval0
  refine (walk W a0 n0 c0 A0 L0 C0 X0 w0 b0 e0 f0).mono fun e W' ⟨he, bel⟩ => ?_
  subst he
  exact ⟨_, rfl, _, _, _, [], _, [], hW', trodAll_mk1 (shut_bool Try.underlying4 _), (trodAll_cons_mk (Below.trod laidOut (by kernel_rfl) (of_decide_eq_true (by kernel_rfl)) k0 bel lt0) trodAll_mk0), rfl, bel.frame _, fun h => by cases h⟩

theorem closed : joinedFacts Try.prog 22 Try.f22 Rows.fnExactAdjugateOfSpec Rows.fnExactAdjugateOfRow = true := by
  unfold joinedFacts
  rw [make_eq, liftsFinal_eq, mayEnter_eq]
  kernel_rfl

theorem over : Rows.fnExactAdjugateOfRow.holds Try.pinned (OpenSpec.ofChange Rows.fnExactAdjugateOfSpec) :=
  OpenClaim.holds_of_wide 22 Try.f22 rfl rfl rfl rfl rfl rfl rfl ⟨rfl, rfl, rfl, rfl, rfl⟩ rfl rfl rfl rfl rfl (by kernel_rfl) Try.func22 closed
    (of_decide_eq_true (by kernel_rfl)) (by unfold Func.isWrapper; first | (rw [if_pos (by decide +kernel)]; kernel_rfl) | (rw [if_neg (by decide +kernel)]; exact ⟨rfl, rfl⟩))
    (fun os started H enc _ => lifted os started H enc)

theorem proved : Rows.FnExactAdjugateOfSaid := over
#print axioms proved
end Go.Proofs.Ytbehkflmhlfekaa.fnExactAdjugateOf
