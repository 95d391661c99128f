/- 'FnExactSylvesterMatrix' is proved: the program's SylvesterMatrix returns what the reference's returns, for all arguments. No condition. -/
import Derived.Test.YtbehkflmhlfekaaRow
import Derived.Test.YtbehkflmhlfekaaRows1
import Derived.Test.YtbehkflmhlfekaaSyl3
namespace Go.Proofs.Ytbehkflmhlfekaa.fnExactSylvesterMatrix
open Go.ChangeShapes Go.WideShapes Go.ChangeAt Go.RowKit
set_option linter.unusedVariables false
set_option linter.unusedSimpArgs false

set_option maxHeartbeats 12800000 in
theorem walk (w : World) (a0 : Int) (w0 : (Lit.int .i64 a0).wf = true) :
    Calls Try.prog 9 #[.int .i64 a0] w fun e w' => e = .returned (.bool true) ∧ Ext w w' := by
  go_enter Try.func9, Try.ntmps9
  obtain ⟨m, hm⟩ : ∃ m : Nat, m = sylN a0 := ⟨_, rfl⟩
  have hM : m ≤ 1048576 := by rw [hm]; exact Nat.le_trans (sylN_le a0) (by omega)
  have hTm : off (fun _ => sylN a0) m ≤ 1048576 := by rw [hm]; exact Nat.le_trans (syl_off a0) (by omega)
  have CS : ∀  (w : World), Calls Try.prog 50 #[.int .i64 a0] w (MakesR w m (fun _ => sylN a0) (sylF a0.toNat)) := fun  w  => by rw [hm]; exact spec_SylvesterMatrix _ _
  have CI : ∀  (w : World), Calls Try.prog 51 #[.int .i64 a0] w (MakesR w m (fun _ => sylN a0) (sylF a0.toNat)) := fun  w  => by rw [hm]; exact impl_SylvesterMatrix _ _
  clear hm
  have hTi : (off (fun _ => sylN a0) m : Int) ≤ 1048576 := by omega
  go_wp2_with fail
  refine (CS  _ ).mono ?_
  rintro e u1 ⟨p1, q1, A_1, C_1, rfl, hO1, hx1⟩
  have E1 : Ext w u1 := hx1
  have z1 := ext_size hx1
  go_wp2_with fail
  refine (CI  _ ).mono ?_
  rintro e u2 ⟨p2, q2, A_2, C_2, rfl, hO2, hx2⟩
  have E2 : Ext w u2 := ext_trans E1 hx2
  have z2 := ext_size hx2
  go_wp2_with fail
  refine (laws_eqIntSS _ _ _ _ _ _ _ _ _ _ _ _ _ _ hM hO2.rows (hO1.ext hx2).rows hTm (fun _ _ => rfl) (fun _ _ _ _ => rfl)).mono ?_
  rintro e u3 ⟨rfl, hx3⟩
  have E3 : Ext w u3 := ext_trans E2 hx3
  have z3 := ext_size hx3
  go_wp2_with fail
  refine (laws_markIntSS _ _ _ _ _ _ _ _ _ 1 _ hM (by omega) (by omega) (hO2.ext hx3) hTm).mono ?_
  rintro e u4 ⟨rfl, hO4, hw4⟩
  have E4 : Ext w u4 := Below.trans E3 (hw4.below.mono (by omega))
  have z4 := hw4.size
  go_wp2_with fail
  refine (laws_heldIntSS _ _ _ _ _ _ _ 1 _ hM (by omega) (by omega) hO4.rows (fun _ _ _ _ => rfl) hTm).mono ?_
  rintro e u ⟨rfl, rfl⟩
  go_wp2_with fail
  refine (CI  _ ).mono ?_
  rintro e u5 ⟨p5, q5, A_5, C_5, rfl, hO5, hx5⟩
  have E5 : Ext w u5 := ext_trans E4 hx5
  have z5 := ext_size hx5
  go_wp2_with fail
  refine (laws_eqIntSS _ _ _ _ _ _ _ _ _ _ _ _ _ _ hM hO5.rows ((((hO1.ext hx2).ext hx3).within hw4 (.inl (by omega))).ext hx5).rows hTm (fun _ _ => rfl) (fun _ _ _ _ => rfl)).mono ?_
  rintro e u6 ⟨rfl, hx6⟩
  have E6 : Ext w u6 := ext_trans E5 hx6
  have z6 := ext_size hx6
  go_wp2_with fail
  refine (laws_heldIntSS _ _ _ _ _ _ _ 1 _ hM (by omega) (by omega) ((hO4.ext hx5).ext hx6).rows (fun _ _ _ _ => rfl) hTm).mono ?_
  rintro e u ⟨rfl, rfl⟩
  go_wp2_with fail
  go_ret
  exact ⟨rfl, E6⟩

set_option maxRecDepth 100000 in
theorem lifted (os : Os) (started : os.Started) (H : Type) (enc : TypeId × Value → H) :
    ReturnsInHanded {} Try.checked os 9 .any (Rows.fnExactSylvesterMatrixSpec.pre6 enc Try.prog Try.f9 Rows.fnExactSylvesterMatrixRow.domain false) (Rows.fnExactSylvesterMatrixSpec.post enc Try.prog Try.f9 false true false false) := by
  refine returnsInHanded_of_change (C := Try.checked) own started (by kernel_rfl) Try.func9
    (ChangeSpec.witness6 (enc := enc) (C := Try.checked) false ⟨#[], #[.int .i64 0], []⟩ 8 (by kernel_rfl) (by kernel_rfl) (by kernel_rfl) (by kernel_rfl)) ?_
  intro W base args ds gs before hval0 hW hcnd _
  have hval : ∀ (j : Nat) t v, Try.f9.params[j]? = some t → args[j]? = some v → Value.okWide Try.prog W .any base t v := hval0
  have hW' := hW
  obtain ⟨p, q, hA0, hV, rfl, hfz, hnd⟩ := hW
  have hA : DataW.TrodAll enc Try.prog W 0 (fun _ => true) true Try.f9.params.toList args.toList ds p := hA0
  rw [Try.params9] at hA hval
  obtain ⟨v0, vs0, d0, ds0, p0, q0, hargs, rfl, rfl, h0, r0⟩ := trodAll_cons hA
  obtain ⟨rfl, rfl, rfl⟩ := trodAll_nil r0
  obtain rfl : args = #[v0] := by cases args; simp_all
  obtain ⟨rfl, rfl⟩ := trodVars_none hV
  have k0 := h0
  have lt0 : ∀ x ∈ p0, x.block < W.heap.size := by obtain ⟨m, hm⟩ := k0; exact DataW.trod_lt m _ _ _ hm
  obtain ⟨a0, rfl, _, _, w0⟩ := open_int Try.underlying3 (hval 0 3 v0 rfl rfl) h0
  clear hA0 hval0
  refine (walk W a0 w0).mono fun e W' ⟨he, bel⟩ => ?_
  subst he
  exact ⟨_, rfl, _, _, _, [], _, [], hW', trodAll_mk1 (shut_bool Try.underlying4 _), (trodAll_cons_mk (Below.trod laidOut (by kernel_rfl) (of_decide_eq_true (by kernel_rfl)) k0 bel lt0) trodAll_mk0), rfl, bel.frame _, fun h => by cases h⟩

theorem closed : joinedFacts Try.prog 9 Try.f9 Rows.fnExactSylvesterMatrixSpec Rows.fnExactSylvesterMatrixRow = true := by
  unfold joinedFacts
  rw [make_eq, liftsFinal_eq, mayEnter_eq]
  kernel_rfl

theorem over : Rows.fnExactSylvesterMatrixRow.holds Try.pinned (OpenSpec.ofChange Rows.fnExactSylvesterMatrixSpec) :=
  OpenClaim.holds_of_wide 9 Try.f9 rfl rfl rfl rfl rfl rfl rfl ⟨rfl, rfl, rfl, rfl, rfl⟩ rfl rfl rfl rfl rfl (by kernel_rfl) Try.func9 closed
    (of_decide_eq_true (by kernel_rfl)) (by unfold Func.isWrapper; first | (rw [if_pos (by decide +kernel)]; kernel_rfl) | (rw [if_neg (by decide +kernel)]; exact ⟨rfl, rfl⟩))
    (fun os started H enc _ => lifted os started H enc)

theorem proved : Rows.FnExactSylvesterMatrixSaid := over
#print axioms proved
end Go.Proofs.Ytbehkflmhlfekaa.fnExactSylvesterMatrix
