/- 'FnExactSwapRows' is proved: the program's SwapRows returns what the reference's returns, for all arguments. No condition. -/
import Derived.Test.YtmapcpkloomliaaRow
import Derived.Test.YtmapcpkloomliaaList5
namespace Go.Proofs.Ytmapcpkloomliaa.fnExactSwapRows
open Go.ChangeShapes Go.WideShapes Go.ChangeAt Go.RowKit
set_option linter.unusedVariables false
set_option linter.unusedSimpArgs false

set_option maxHeartbeats 6400000 in
theorem walk (w : World) (a0 : Option Addr) (n0 c0 : Nat) (X0 : Nat → Int) (w0 : IntsAt w a0 n0 X0) (b0 : n0 ≤ c0) (e0 : c0 ≤ maxLen) (f0 : ∀ i, i < n0 → (Lit.int .i64 (X0 i)).wf = true) (a1 : Int) (w1 : (Lit.int .i64 a1).wf = true) (a2 : Int) (w2 : (Lit.int .i64 a2).wf = true) :
    Calls Try.prog 3 #[.slice a0 n0 c0, .int .i64 a1, .int .i64 a2] w fun e w' => e = .returned (.bool true) ∧ Ext w w' := by
  by_cases hbig : n0 ≤ 1048576
  · have hn : n0 ≤ 1099511627776 := by omega
    obtain ⟨m, hm⟩ : ∃ m : Nat, m = n0 := ⟨_, rfl⟩
    have hM : m ≤ 1099511627776 := by rw [hm]; (first | omega | (split <;> omega))
    have CS : ∀ (a : Option Addr) (c : Nat) (w : World), IntsAt w a n0 X0 → Calls Try.prog 14 #[.slice a n0 c, .int .i64 a1, .int .i64 a2] w (MakesI w m (swapF n0 a1 a2 X0)) := fun a c w h => by rw [hm]; exact spec_SwapRows a n0 c a1 a2 X0 w h hn
    have CI : ∀ (a : Option Addr) (c : Nat) (w : World), IntsAt w a n0 X0 → Calls Try.prog 16 #[.slice a n0 c, .int .i64 a1, .int .i64 a2] w (MakesI w m (swapF n0 a1 a2 X0)) := fun a c w h => by rw [hm]; exact impl_SwapRows a n0 c a1 a2 X0 w h hn
    clear hm
    go_enter Try.func3, Try.ntmps3
    go_wp2_with fail
    refine (laws_toIntS _ _ _ _ _ hn w0).mono ?_
    rintro e u1 ⟨p1, q1, rfl, hO1, hx1⟩
    go_wp2_with fail
    refine (CS _ _ _ hO1.reads).mono ?_
    rintro e u2 ⟨p2, q2, rfl, hO2, hx2⟩
    have E2 : Ext w u2 := ext_trans hx1 hx2
    go_wp2_with fail
    refine (laws_toIntS _ _ _ _ _ hn (w0.ext E2)).mono ?_
    rintro e u3 ⟨p3, q3, rfl, hO3, hx3⟩
    have E3 : Ext w u3 := ext_trans E2 hx3
    go_wp2_with fail
    refine (CI _ _ _ hO3.reads).mono ?_
    rintro e u4 ⟨p4, q4, rfl, hO4, hx4⟩
    have E4 : Ext w u4 := ext_trans E3 hx4
    go_wp2_with fail
    refine (laws_eqIntS _ _ _ _ _ _ _ _ hM hO4.reads (hO2.ext (ext_trans hx3 hx4)).reads (fun _ _ => rfl)).mono ?_
    rintro e u5 ⟨rfl, hx5⟩
    have E5 : Ext w u5 := ext_trans E4 hx5
    go_wp2_with fail
    refine (laws_toIntS _ _ _ _ _ hn (w0.ext E5)).mono ?_
    rintro e u6 ⟨p6, q6, rfl, hO6, hx6⟩
    have E6 : Ext w u6 := ext_trans E5 hx6
    go_wp2_with fail
    refine (laws_eqIntS _ _ _ _ _ _ _ _ hn (hO3.ext (ext_trans hx4 (ext_trans hx5 hx6))).reads hO6.reads (fun _ _ => rfl)).mono ?_
    rintro e u7 ⟨rfl, hx7⟩
    have E7 : Ext w u7 := ext_trans E6 hx7
    have x47 : Ext u4 u7 := ext_trans hx5 (ext_trans hx6 hx7)
    have x37 : Ext u3 u7 := ext_trans hx4 x47
    have x27 : Ext u2 u7 := ext_trans hx3 x37
    go_wp2_with fail
    refine (laws_markIntS _ _ _ _ _ 1 _ _ hn (by omega) (by omega) (hO3.ext x37)).mono ?_
    rintro e u8 ⟨rfl, hO8, hy8⟩
    have hw8 := hy8.within (fun p hp => ⟨(hO8.lt p hp).1, (hO8.lt p hp).2.2.1⟩)
    have E8 : Ext w u8 := Below.trans E7 (hw8.below.mono (ext_size E2))
    have O48 := (hO4.ext x47).within hw8 (.inr (Nat.le_refl _))
    have O28 := (hO2.ext x27).within hw8 (.inl (Nat.le_refl _))
    go_wp2_with fail
    refine (laws_eqIntS _ _ _ _ _ _ _ _ hM O48.reads O28.reads (fun _ _ => rfl)).mono ?_
    rintro e u9 ⟨rfl, hx9⟩
    have E9 : Ext w u9 := ext_trans E8 hx9
    go_wp2_with fail
    refine (laws_markIntS _ _ _ _ _ 1 _ _ hM (by omega) (by omega) (O48.ext hx9)).mono ?_
    rintro e u10 ⟨rfl, hO10, hy10⟩
    have hw10 := hy10.within (fun p hp => ⟨(hO10.lt p hp).1, (hO10.lt p hp).2.2.1⟩)
    have E10 : Ext w u10 := Below.trans E9 (hw10.below.mono (ext_size E3))
    have O210 := (O28.ext hx9).within hw10 (.inl (ext_size hx3))
    go_wp2_with fail
    refine (laws_heldIntS _ _ _ 1 _ _ hM (by omega) (by omega) hO10.reads (fun _ _ => rfl)).mono ?_
    rintro e u11 ⟨rfl, rfl⟩
    go_wp2_with fail
    refine (laws_toIntS _ _ _ _ _ hn (w0.ext E10)).mono ?_
    rintro e u12 ⟨p12, q12, rfl, hO12, hx12⟩
    have E12 : Ext w u12 := ext_trans E10 hx12
    go_wp2_with fail
    refine (CI _ _ _ hO12.reads).mono ?_
    rintro e u13 ⟨p13, q13, rfl, hO13, hx13⟩
    have E13 : Ext w u13 := ext_trans E12 hx13
    go_wp2_with fail
    refine (laws_eqIntS _ _ _ _ _ _ _ _ hM hO13.reads (O210.ext (ext_trans hx12 hx13)).reads (fun _ _ => rfl)).mono ?_
    rintro e u14 ⟨rfl, hx14⟩
    have E14 : Ext w u14 := ext_trans E13 hx14
    go_wp2_with fail
    refine (laws_heldIntS _ _ _ 1 _ _ hM (by omega) (by omega) (hO10.ext (ext_trans hx12 (ext_trans hx13 hx14))).reads (fun _ _ => rfl)).mono ?_
    rintro e u15 ⟨rfl, rfl⟩
    go_wp2_with fail
    go_ret
    exact ⟨rfl, E14⟩
  · go_enter Try.func3, Try.ntmps3
    go_wp2_with fail
    go_ret
    exact ⟨rfl, ext_refl _⟩

set_option maxRecDepth 100000 in
theorem lifted (os : Os) (started : os.Started) (H : Type) (enc : TypeId × Value → H) :
    ReturnsInHanded {} Try.checked os 3 .any (Rows.fnExactSwapRowsSpec.pre6 enc Try.prog Try.f3 Rows.fnExactSwapRowsRow.domain false) (Rows.fnExactSwapRowsSpec.post enc Try.prog Try.f3 false true false false) := by
  refine returnsInHanded_of_change (C := Try.checked) own started (by kernel_rfl) Try.func3
    (ChangeSpec.witness6 (enc := enc) (C := Try.checked) false ⟨#[], #[.slice none 0 0, .int .i64 0, .int .i64 0], []⟩ 8 (by kernel_rfl) (by kernel_rfl) (by kernel_rfl) (by kernel_rfl)) ?_
  intro W base args ds gs before hval0 hW hcnd _
  have hval : ∀ (j : Nat) t v, Try.f3.params[j]? = some t → args[j]? = some v → Value.okWide Try.prog W .any base t v := hval0
  have hW' := hW
  obtain ⟨p, q, hA0, hV, rfl, hfz, hnd⟩ := hW
  have hA : DataW.TrodAll enc Try.prog W 0 (fun _ => true) true Try.f3.params.toList args.toList ds p := hA0
  rw [Try.params3] at hA hval
  obtain ⟨v0, vs0, d0, ds0, p0, q0, hargs, rfl, rfl, h0, r0⟩ := trodAll_cons hA
  obtain ⟨v1, vs1, d1, ds1, p1, q1, rfl, rfl, rfl, h1, r1⟩ := trodAll_cons r0
  obtain ⟨v2, vs2, d2, ds2, p2, q2, rfl, rfl, rfl, h2, r2⟩ := trodAll_cons r1
  obtain ⟨rfl, rfl, rfl⟩ := trodAll_nil r2
  obtain rfl : args = #[v0, v1, v2] := by cases args; simp_all
  obtain ⟨rfl, rfl⟩ := trodVars_none hV
  have k0 := h0
  have lt0 : ∀ x ∈ p0, x.block < W.heap.size := by obtain ⟨m, hm⟩ := k0; exact DataW.trod_lt m _ _ _ hm
  obtain ⟨a0, n0, c0, rfl⟩ := okWide_slice Try.underlying22 (hval 0 22 v0 rfl rfl)
  obtain ⟨X0, w0, b0, e0, f0⟩ := open_ints_arg Try.underlying22 Try.underlying3 (by kernel_rfl) h0
  have k1 := h1
  have lt1 : ∀ x ∈ p1, x.block < W.heap.size := by obtain ⟨m, hm⟩ := k1; exact DataW.trod_lt m _ _ _ hm
  obtain ⟨a1, rfl, _, _, w1⟩ := open_int Try.underlying3 (hval 1 3 v1 rfl rfl) h1
  have k2 := h2
  have lt2 : ∀ x ∈ p2, x.block < W.heap.size := by obtain ⟨m, hm⟩ := k2; exact DataW.trod_lt m _ _ _ hm
  obtain ⟨a2, rfl, _, _, w2⟩ := open_int Try.underlying3 (hval 2 3 v2 rfl rfl) h2
  clear hA0 hval0
  refine (walk W a0 n0 c0 X0 w0 b0 e0 f0 a1 w1 a2 w2).mono fun e W' ⟨he, bel⟩ => ?_
  subst he
  exact ⟨_, rfl, _, _, _, [], _, [], hW', trodAll_mk1 (shut_bool Try.underlying4 _), (trodAll_cons_mk (Below.trod laidOut (by kernel_rfl) (of_decide_eq_true (by kernel_rfl)) k0 bel lt0) (trodAll_cons_mk (Below.trod laidOut (by kernel_rfl) (of_decide_eq_true (by kernel_rfl)) k1 bel lt1) (trodAll_cons_mk (Below.trod laidOut (by kernel_rfl) (of_decide_eq_true (by kernel_rfl)) k2 bel lt2) trodAll_mk0))), rfl, bel.frame _, fun h => by cases h⟩

theorem closed : joinedFacts Try.prog 3 Try.f3 Rows.fnExactSwapRowsSpec Rows.fnExactSwapRowsRow = true := by
  unfold joinedFacts
  rw [make_eq, liftsFinal_eq, mayEnter_eq]
  kernel_rfl

theorem over : Rows.fnExactSwapRowsRow.holds Try.pinned (OpenSpec.ofChange Rows.fnExactSwapRowsSpec) :=
  OpenClaim.holds_of_wide 3 Try.f3 rfl rfl rfl rfl rfl rfl rfl ⟨rfl, rfl, rfl, rfl, rfl⟩ rfl rfl rfl rfl rfl (by kernel_rfl) Try.func3 closed
    (of_decide_eq_true (by kernel_rfl)) (by unfold Func.isWrapper; first | (rw [if_pos (by decide +kernel)]; kernel_rfl) | (rw [if_neg (by decide +kernel)]; exact ⟨rfl, rfl⟩))
    (fun os started H enc _ => lifted os started H enc)

theorem proved : Rows.FnExactSwapRowsSaid := over
#print axioms proved
end Go.Proofs.Ytmapcpkloomliaa.fnExactSwapRows
