/- 'FnVerniers' is proved: a vernier reads every position, for all arguments. No condition. -/
import Derived.Test.YtmapcpkloomliaaRow
import Derived.Test.YtmapcpkloomliaaVern
namespace Go.Proofs.Ytmapcpkloomliaa.fnVerniers
open Go.ChangeShapes Go.WideShapes Go.ChangeAt Go.RowKit
set_option linter.unusedVariables false
set_option linter.unusedSimpArgs false

set_option maxHeartbeats 3200000 in
theorem walk (w : World) (a0 : Option Addr) (n0 c0 : Nat) (X0 : Nat → Int) (w0 : BytesAt w a0 n0 X0) (b0 : n0 ≤ c0) (e0 : c0 ≤ maxLen) :
    Calls Try.prog 4 #[.slice a0 n0 c0] w fun e w' => e = .returned (.bool true) ∧ Ext w w' := by
  by_cases hbig : n0 ≤ 1048576
  · have hb : decide (1048576 < n0) = false := by simp; omega
    go_enter Try.func4, Try.ntmps4
    go_wp2_with fail
    refine (laws_big _ _ _ _).mono ?_
    rw [hb]
    rintro e u ⟨rfl, rfl⟩
    go_wp2_with fail
    refine (spec_DrawVernier _ _ _ _ _ w0 hbig).mono ?_
    rintro e u1 ⟨n, p, h1, h2, h3, h4, rfl, hx⟩
    have hv : vernOkB n p = true := by simp [vernOkB, inB]; omega
    have m1 := Int.emod_nonneg p (show n ≠ 0 by omega)
    have m2 := Int.emod_lt_of_pos p (show 0 < n by omega)
    have k0 : coinI n p = p % n := by simp [coinI, hv]
    have k1 : 0 ≤ coinI n p := by omega
    have k2 : coinI n p < n := by omega
    have g1 : (gapI n p (coinI n p) == 0) = true := by rw [k0, (gap_zero hv m1 (Int.le_refl _)).1]; simp
    have g2 : (gapI n p 0 == p % n) = true := by rw [(gap_zero hv (Int.le_refl _) m1).1]; simp
    have g3 : (readI n p == p) = true := by simp [readI, hv]
    have g4 : (nearMI n p == coinI n p) = true := by simp [nearMI]
    have q0 : (n == 0) = false := by rw [beq_eq_false_iff_ne]; omega
    have q1 : n ≠ 0 := by omega
    have q2 : Int.tmod p n = p % n := Int.tmod_eq_emod_of_nonneg h3
    clear k0 m1 m2
    go_wp2_with fail
    refine (impl_CoincidingMark _ _ _).mono ?_
    rintro e u ⟨rfl, rfl⟩
    go_wp2_with fail
    refine (impl_NearestMark _ _ _).mono ?_
    rintro e u ⟨rfl, rfl⟩
    go_wp2
    go_quiet ((first | (go_at_call 25; exact quiet_eq (impl_MarkGap _ _ _ _)) | (go_at_call 26; exact quiet_eq (impl_VernierOk _ _ _)) | (go_at_call 24; exact quiet_dr (impl_ReadVernier_d _ _ _ hv))))
    go_wp2
    go_ret
    exact ⟨rfl, (by repeat (first | (with_reducible exact ext_refl _) | (with_reducible refine ext_setCell ?_ ?_ _) | (with_reducible refine ext_alloc ?_ _) | (with_reducible refine ext_drewN ?_ _) | (with_reducible refine ext_drew ?_) | (with_reducible refine ext_trans ?_ (by assumption)) | (dsimp only; omega) | omega | (simp; omega)))⟩
  · have hb : decide (1048576 < n0) = true := by simp; omega
    go_enter Try.func4, Try.ntmps4
    go_wp2_with fail
    refine (laws_big _ _ _ _).mono ?_
    rw [hb]
    rintro e u ⟨rfl, rfl⟩
    go_wp2_with fail
    go_ret
    exact ⟨rfl, (by repeat (first | (with_reducible exact ext_refl _) | (with_reducible refine ext_setCell ?_ ?_ _) | (with_reducible refine ext_alloc ?_ _) | (with_reducible refine ext_drewN ?_ _) | (with_reducible refine ext_drew ?_) | (with_reducible refine ext_trans ?_ (by assumption)) | (dsimp only; omega) | omega | (simp; omega)))⟩

set_option maxRecDepth 100000 in
theorem lifted (os : Os) (started : os.Started) (H : Type) (enc : TypeId × Value → H) :
    ReturnsInHanded {} Try.checked os 4 .any (Rows.fnVerniersSpec.pre6 enc Try.prog Try.f4 Rows.fnVerniersRow.domain false) (Rows.fnVerniersSpec.post enc Try.prog Try.f4 false true false false) := by
  refine returnsInHanded_of_change (C := Try.checked) own started (by kernel_rfl) Try.func4
    (ChangeSpec.witness6 (enc := enc) (C := Try.checked) false ⟨#[], #[.slice none 0 0], []⟩ 8 (by kernel_rfl) (by kernel_rfl) (by kernel_rfl) (by kernel_rfl)) ?_
  intro W base args ds gs before hval0 hW hcnd _
  have hval : ∀ (j : Nat) t v, Try.f4.params[j]? = some t → args[j]? = some v → Value.okWide Try.prog W .any base t v := hval0
  have hW' := hW
  obtain ⟨p, q, hA0, hV, rfl, hfz, hnd⟩ := hW
  have hA : DataW.TrodAll enc Try.prog W 0 (fun _ => true) true Try.f4.params.toList args.toList ds p := hA0
  rw [Try.params4] at hA hval
  obtain ⟨v0, vs0, d0, ds0, p0, q0, hargs, rfl, rfl, h0, r0⟩ := trodAll_cons hA
  obtain ⟨rfl, rfl, rfl⟩ := trodAll_nil r0
  obtain rfl : args = #[v0] := by cases args; simp_all
  obtain ⟨rfl, rfl⟩ := trodVars_none hV
  have k0 := h0
  have lt0 : ∀ x ∈ p0, x.block < W.heap.size := by obtain ⟨m, hm⟩ := k0; exact DataW.trod_lt m _ _ _ hm
  obtain ⟨a0, n0, c0, rfl⟩ := okWide_slice Try.underlying28 (hval 0 28 v0 rfl rfl)
  obtain ⟨X0, w0, b0, e0⟩ := open_bytes_arg Try.underlying28 Try.underlying5 (by kernel_rfl) h0
  clear hA0 hval0
  refine (walk W a0 n0 c0 X0 w0 b0 e0).mono fun e W' ⟨he, bel⟩ => ?_
  subst he
  exact ⟨_, rfl, _, _, _, [], _, [], hW', trodAll_mk1 (shut_bool Try.underlying4 _), (trodAll_cons_mk (Below.trod laidOut (by kernel_rfl) (of_decide_eq_true (by kernel_rfl)) k0 bel lt0) trodAll_mk0), rfl, bel.frame _, fun h => by cases h⟩

theorem closed : joinedFacts Try.prog 4 Try.f4 Rows.fnVerniersSpec Rows.fnVerniersRow = true := by
  unfold joinedFacts
  rw [make_eq, liftsFinal_eq, mayEnter_eq]
  kernel_rfl

theorem over : Rows.fnVerniersRow.holds Try.pinned (OpenSpec.ofChange Rows.fnVerniersSpec) :=
  OpenClaim.holds_of_wide 4 Try.f4 rfl rfl rfl rfl rfl rfl rfl ⟨rfl, rfl, rfl, rfl, rfl⟩ rfl rfl rfl rfl rfl (by kernel_rfl) Try.func4 closed
    (of_decide_eq_true (by kernel_rfl)) (by unfold Func.isWrapper; first | (rw [if_pos (by decide +kernel)]; kernel_rfl) | (rw [if_neg (by decide +kernel)]; exact ⟨rfl, rfl⟩))
    (fun os started H enc _ => lifted os started H enc)

theorem proved : Rows.FnVerniersSaid := over
#print axioms proved
end Go.Proofs.Ytmapcpkloomliaa.fnVerniers
