/- 'FnExactTotalSpread' is proved: the program's TotalSpread returns what the reference's returns, for all arguments. No condition. -/
import Derived.Test.YtbehkflmhlfekaaRow
import Derived.Test.YtbehkflmhlfekaaSolve1
namespace Go.Proofs.Ytbehkflmhlfekaa.fnExactTotalSpread
open Go.ChangeShapes Go.WideShapes Go.ChangeAt Go.RowKit
set_option linter.unusedVariables false
set_option linter.unusedSimpArgs false

set_option maxHeartbeats 12800000 in
theorem walk (w : World) (a0 : Option Addr) (n0 c0 : Nat) (A0 : Nat → Option Addr) (L0 C0 : Nat → Nat) (X0 : Nat → Nat → Int) (w0 : RowsAt w a0 n0 A0 L0 C0 X0) (b0 : n0 ≤ c0) (e0 : c0 ≤ maxLen) (f0 : ∀ i, i < n0 → ∀ j, j < L0 i → (Lit.int .i64 (X0 i j)).wf = true) :
    Calls Try.prog 4 #[.slice a0 n0 c0] w fun e w' => e = .returned (.bool true) ∧ Ext w w' := by
  have h63 : n0 ≤ 9223372036854775807 := by unfold maxLen at e0; omega
  obtain ⟨T, B, O, hF⟩ : ∃ T B O, fracIf (isDetB n0 L0 X0) (sumN (L0 0) (diag n0 L0 X0)) (gdet n0 L0 X0) = frac T B O := ⟨_, _, _, rfl⟩
  have HF := Lib.hid hF
  clear hF
  go_enter Try.func4, Try.ntmps4
  go_wp2_with fail
  refine (laws_szIntSS _ _ _ _ _ _ _ _ _ w0 h63 (by omega) (by omega)).mono ?_
  rintro e u ⟨hs, rfl⟩
  rcases hs with rfl | ⟨r, r1, r2, rfl, hn, hT⟩
  · go_wp2_with fail
    go_ret
    exact ⟨rfl, ext_refl _⟩
  · have hn_ : n0 ≤ 1099511627776 := by omega
    go_wp2_with fail
    refine (laws_toIntSS _ _ _ _ L0 _ X0 _ hn w0 hT).mono ?_
    rintro e u1 ⟨p1, q1, A_1, C_1, rfl, hO1, hx1⟩
    obtain ⟨hc1, hf1, hn1⟩ := bcell3 hx1
    have hz1 := ext_size hx1
    go_wp2_with fail
    refine (spec_TotalSpread _ _ _ _ L0 _ X0 _ (hO1.ext (by exact (by repeat (first | (with_reducible exact ext_refl _) | (with_reducible refine ext_setCell ?_ ?_ _) | (with_reducible refine ext_alloc ?_ _) | (with_reducible refine ext_drewN ?_ _) | (with_reducible refine ext_drew ?_) | (with_reducible refine ext_trans ?_ (by assumption)) | (dsimp only; omega) | omega | (simp; omega))))).rows hn hT).mono ?_
    rw [HF.out]
    rintro e u2 ⟨rfl, hx2⟩
    obtain ⟨hc2, hf2, hn2⟩ := bcell3 hx2
    have hz2 := ext_size hx2
    (try simp at hz2)
    go_wp2_with fail
    refine (laws_toIntSS _ _ _ _ L0 _ X0 _ hn (w0.ext (by exact (by repeat (first | (with_reducible exact ext_refl _) | (with_reducible refine ext_setCell ?_ ?_ _) | (with_reducible refine ext_alloc ?_ _) | (with_reducible refine ext_drewN ?_ _) | (with_reducible refine ext_drew ?_) | (with_reducible refine ext_trans ?_ (by assumption)) | (dsimp only; omega) | omega | (simp; omega))))) hT).mono ?_
    rintro e u3 ⟨p3, q3, A_3, C_3, rfl, hO3, hx3⟩
    obtain ⟨hc3, hf3, hn3⟩ := bcell3 hx3
    have hb3 : u2.heap.size < u3.heap.size := by have q := ext_size hx3; (try simp at q); omega
    have hz3 := ext_size hx3
    (try simp at hz3)
    go_wp2_with fail
    refine (impl_TotalSpread _ _ _ _ L0 _ X0 _ (hO3.ext (by exact (by repeat (first | (with_reducible exact ext_refl _) | (with_reducible refine ext_setCell ?_ ?_ _) | (with_reducible refine ext_alloc ?_ _) | (with_reducible refine ext_drewN ?_ _) | (with_reducible refine ext_drew ?_) | (with_reducible refine ext_trans ?_ (by assumption)) | (dsimp only; omega) | omega | (simp; omega))))).rows hn hT).mono ?_
    rw [HF.out]
    rintro e u4 ⟨rfl, hx4⟩
    obtain ⟨hc4, hf4, hn4⟩ := bcell3 hx4
    have hb4 : u2.heap.size < u4.heap.size := by have q := ext_size hx4; (try simp at q); omega
    have hz4 := ext_size hx4
    (try simp at hz4)
    go_wp2_with fail
    refine (laws_eqFraction _ _ _ _ _).mono ?_
    rw [eqP_self]
    rintro e u5 ⟨rfl, hx5⟩
    obtain ⟨hc5, hf5, hn5⟩ := bcell3 hx5
    have hb5 : u2.heap.size < u5.heap.size := by have q := ext_size hx5; (try simp at q); omega
    have hz5 := ext_size hx5
    (try simp at hz5)
    have hg5 : u4.heap.size < u5.heap.size := by have q := hz5; (try simp at q); omega
    go_wp2_with fail
    refine (laws_toIntSS _ _ _ _ L0 _ X0 _ hn (w0.ext (by exact (by repeat (first | (with_reducible exact ext_refl _) | (with_reducible refine ext_setCell ?_ ?_ _) | (with_reducible refine ext_alloc ?_ _) | (with_reducible refine ext_drewN ?_ _) | (with_reducible refine ext_drew ?_) | (with_reducible refine ext_trans ?_ (by assumption)) | (dsimp only; omega) | omega | (simp; omega))))) hT).mono ?_
    rintro e u6 ⟨p6, q6, A_6, C_6, rfl, hO6, hx6⟩
    obtain ⟨hc6, hf6, hn6⟩ := bcell3 hx6
    have hb6 : u2.heap.size < u6.heap.size := by have q := ext_size hx6; (try simp at q); omega
    have hz6 := ext_size hx6
    (try simp at hz6)
    go_wp2_with fail
    refine (laws_eqIntSS _ _ _ _ _ _ _ _ _ _ _ _ _ _ hn (hO3.ext (by exact (by repeat (first | (with_reducible exact ext_refl _) | (with_reducible refine ext_setCell ?_ ?_ _) | (with_reducible refine ext_alloc ?_ _) | (with_reducible refine ext_drewN ?_ _) | (with_reducible refine ext_drew ?_) | (with_reducible refine ext_trans ?_ (by assumption)) | (dsimp only; omega) | omega | (simp; omega))))).rows (hO6.ext (by exact (by repeat (first | (with_reducible exact ext_refl _) | (with_reducible refine ext_setCell ?_ ?_ _) | (with_reducible refine ext_alloc ?_ _) | (with_reducible refine ext_drewN ?_ _) | (with_reducible refine ext_drew ?_) | (with_reducible refine ext_trans ?_ (by assumption)) | (dsimp only; omega) | omega | (simp; omega))))).rows hT (fun _ _ => rfl) (fun _ _ _ _ => rfl)).mono ?_
    rintro e u7 ⟨rfl, hx7⟩
    go_wp2_with fail
    go_ret
    exact ⟨rfl, (by repeat (first | (with_reducible exact ext_refl _) | (with_reducible refine ext_setCell ?_ ?_ _) | (with_reducible refine ext_alloc ?_ _) | (with_reducible refine ext_drewN ?_ _) | (with_reducible refine ext_drew ?_) | (with_reducible refine ext_trans ?_ (by assumption)) | (dsimp only; omega) | omega | (simp; omega)))⟩

set_option maxRecDepth 100000 in
theorem lifted (os : Os) (started : os.Started) (H : Type) (enc : TypeId × Value → H) :
    ReturnsInHanded {} Try.checked os 4 .any (Rows.fnExactTotalSpreadSpec.pre6 enc Try.prog Try.f4 Rows.fnExactTotalSpreadRow.domain false) (Rows.fnExactTotalSpreadSpec.post enc Try.prog Try.f4 false true false false) := by
  refine returnsInHanded_of_change (C := Try.checked) own started (by kernel_rfl) Try.func4
    (ChangeSpec.witness6 (enc := enc) (C := Try.checked) false ⟨#[], #[.slice none 0 0], []⟩ 8 (by kernel_rfl) (by kernel_rfl) (by kernel_rfl) (by kernel_rfl)) ?_
  intro W base args ds gs before hval0 hW hcnd _
  have hval : ∀ (j : Nat) t v, Try.f4.params[j]? = some t → args[j]? = some v → Value.okWide Try.prog W .any base t v := hval0
  have hW' := hW
  obtain ⟨p, q, hA0, hV, rfl, hfz, hnd⟩ := hW
  have hA : DataW.TrodAll enc Try.prog W 0 (fun _ => true) true Try.f4.params.toList args.toList ds p := hA0
  rw [Try.params4] at hA hval
  obtain ⟨v0, vs0, d0, ds0, p0, q0, hargs, rfl, rfl, h0, r0⟩ := trodAll_cons hA
  obtain ⟨rfl, rfl, rfl⟩ := trodAll_nil r0
  obtain rfl : args = #[v0] := by cases args; simp_all
  obtain ⟨rfl, rfl⟩ := trodVars_none hV
  have k0 := h0
  have lt0 : ∀ x ∈ p0, x.block < W.heap.size := by obtain ⟨m, hm⟩ := k0; exact DataW.trod_lt m _ _ _ hm
  obtain ⟨a0, n0, c0, rfl⟩ := okWide_slice Try.underlying22 (hval 0 22 v0 rfl rfl)
  obtain ⟨A0, L0, C0, X0, w0, b0, e0, f0⟩ := open_rows_arg Try.underlying22 Try.underlying34 Try.underlying3 (by kernel_rfl) (by kernel_rfl) h0
  clear hA0 hval0
  refine (walk W a0 n0 c0 A0 L0 C0 X0 w0 b0 e0 f0).mono fun e W' ⟨he, bel⟩ => ?_
  subst he
  exact ⟨_, rfl, _, _, _, [], _, [], hW', trodAll_mk1 (shut_bool Try.underlying4 _), (trodAll_cons_mk (Below.trod laidOut (by kernel_rfl) (of_decide_eq_true (by kernel_rfl)) k0 bel lt0) trodAll_mk0), rfl, bel.frame _, fun h => by cases h⟩

theorem closed : joinedFacts Try.prog 4 Try.f4 Rows.fnExactTotalSpreadSpec Rows.fnExactTotalSpreadRow = true := by
  unfold joinedFacts
  rw [make_eq, liftsFinal_eq, mayEnter_eq]
  kernel_rfl

theorem over : Rows.fnExactTotalSpreadRow.holds Try.pinned (OpenSpec.ofChange Rows.fnExactTotalSpreadSpec) :=
  OpenClaim.holds_of_wide 4 Try.f4 rfl rfl rfl rfl rfl rfl rfl ⟨rfl, rfl, rfl, rfl, rfl⟩ rfl rfl rfl rfl rfl (by kernel_rfl) Try.func4 closed
    (of_decide_eq_true (by kernel_rfl)) (by unfold Func.isWrapper; first | (rw [if_pos (by decide +kernel)]; kernel_rfl) | (rw [if_neg (by decide +kernel)]; exact ⟨rfl, rfl⟩))
    (fun os started H enc _ => lifted os started H enc)

theorem proved : Rows.FnExactTotalSpreadSaid := over
#print axioms proved
end Go.Proofs.Ytbehkflmhlfekaa.fnExactTotalSpread
