/- 'FnExactSolveDesign' is proved: the program's SolveDesign returns what the reference's returns, for all arguments. No condition. -/
import Derived.Test.YtefgdkjcoeikmaaRow
import Derived.Test.YtefgdkjcoeikmaaSolve6
namespace Go.Proofs.Ytefgdkjcoeikmaa.fnExactSolveDesign
open Go.ChangeShapes Go.WideShapes Go.ChangeAt Go.RowKit
set_option linter.unusedVariables false
set_option linter.unusedSimpArgs false

def SolAt (w : World) (z : Nat) (b : Bool) (T U : Nat → Int) (e : Ending) (w' : World) : Prop :=
  ∃ (q : Option Addr) (cc : Nat), e = .returned (.tuple #[.slice q z cc, .bool b]) ∧ OF w' w.heap.size w'.heap.size (.slice q z cc) z T U ∧ Ext w w'
theorem _root_.Go.Proofs.Ytefgdkjcoeikmaa.Sol.at_ {w w' : World} {n : Nat} {L : Nat → Nat} {X : Nat → Nat → Int} {m : Nat} {V : Nat → Int} {e : Ending} (h : Sol w n L X m V e w') {z : Nat} {b : Bool} (hb : b = solOk n L X m V) (hz : z = if b = true then L 0 else 0) : SolAt w z b (solT n L X V) (solU n L X V) e w' := by
  obtain ⟨z', b', q, cc, h1, h2, h3, h4⟩ := h
  obtain ⟨e1, e2⟩ := h1.out
  obtain rfl : b' = b := e1.trans hb.symm
  obtain rfl : z' = z := e2.trans hz.symm
  exact ⟨q, cc, h2, h3, h4⟩

set_option maxHeartbeats 12800000 in
theorem walk (w : World) (a0 : Option Addr) (n0 c0 : Nat) (A0 : Nat → Option Addr) (L0 C0 : Nat → Nat) (X0 : Nat → Nat → Int) (w0 : RowsAt w a0 n0 A0 L0 C0 X0) (b0 : n0 ≤ c0) (e0 : c0 ≤ maxLen) (f0 : ∀ i, i < n0 → ∀ j, j < L0 i → (Lit.int .i64 (X0 i j)).wf = true) (a1 : Option Addr) (n1 c1 : Nat) (X1 : Nat → Int) (w1 : IntsAt w a1 n1 X1) (b1 : n1 ≤ c1) (e1 : c1 ≤ maxLen) (f1 : ∀ i, i < n1 → (Lit.int .i64 (X1 i)).wf = true) :
    Calls Try.prog 3 #[.slice a0 n0 c0, .slice a1 n1 c1] w fun e w' => e = .returned (.bool true) ∧ Ext w w' := by
  by_cases hbig1 : n1 ≤ 1048576
  · have hn1 : n1 ≤ 1099511627776 := by omega
    have h63 : n0 ≤ 9223372036854775807 := by unfold maxLen at e0; omega
    go_enter Try.func3, Try.ntmps3
    go_wp2_with fail
    refine (laws_szIntSS _ _ _ _ _ _ _ _ _ w0 h63 (by omega) (by omega)).mono ?_
    rintro e u ⟨hs, rfl⟩
    rcases hs with rfl | ⟨r, r1, r2, rfl, hn, hT⟩
    · go_wp2_with fail
      go_ret
      exact ⟨rfl, ext_refl _⟩
    · have hn_ : n0 ≤ 1099511627776 := by omega
      obtain ⟨ok, hok⟩ : ∃ ok : Bool, ok = solOk n0 L0 X0 n1 X1 := ⟨_, rfl⟩
      obtain ⟨m, hm⟩ : ∃ m : Nat, m = if ok = true then L0 0 else 0 := ⟨_, rfl⟩
      have hM : m ≤ 1099511627776 := by
        rw [hm]; split
        · rename_i q
          rw [hok, solOk, Bool.and_eq_true] at q
          have := (design_iff.1 (det_parts (reads_parts q.1).1).1).2.1
          omega
        · omega
      have CS : ∀ (a0' : Option Addr) (c0' : Nat) (A0' : Nat → Option Addr) (C0' : Nat → Nat) (a1' : Option Addr) (c1' : Nat) (w : World), RowsAt w a0' n0 A0' L0 C0' X0 → IntsAt w a1' n1 X1 → Calls Try.prog 10 #[.slice a0' n0 c0', .slice a1' n1 c1'] w (SolAt w m ok (solT n0 L0 X0 X1) (solU n0 L0 X0 X1)) := fun a0' c0' A0' C0' a1' c1' w h0' h1' => (spec_SolveDesign _ _ _ _ _ _ _ L0 _ X0 X1 _ h0' h1' hn hT hn1).mono fun _ _ q => q.at_ hok hm
      have CI : ∀ (a0' : Option Addr) (c0' : Nat) (A0' : Nat → Option Addr) (C0' : Nat → Nat) (a1' : Option Addr) (c1' : Nat) (w : World), RowsAt w a0' n0 A0' L0 C0' X0 → IntsAt w a1' n1 X1 → Calls Try.prog 13 #[.slice a0' n0 c0', .slice a1' n1 c1'] w (SolAt w m ok (solT n0 L0 X0 X1) (solU n0 L0 X0 X1)) := fun a0' c0' A0' C0' a1' c1' w h0' h1' => (impl_SolveDesign _ _ _ _ _ _ _ L0 _ X0 X1 _ h0' h1' hn hT hn1).mono fun _ _ q => q.at_ hok hm
      generalize solT n0 L0 X0 X1 = TT at CS CI
      generalize solU n0 L0 X0 X1 = UU at CS CI
      clear hok
      clear hm
      have hMi : (m : Int) ≤ 1099511627776 := by omega
      go_wp2_with fail
      refine (laws_toIntSS _ _ _ _ L0 _ X0 _ hn w0 hT).mono ?_
      rintro e u1 ⟨p1, q1, A_1, C_1, rfl, hO1, hx1⟩
      have E1 : Ext w u1 := hx1
      have z1 := ext_size hx1
      go_wp2_with fail
      refine (laws_toIntS _ _ _ _ _ hn1 (w1.ext E1)).mono ?_
      rintro e u2 ⟨p2, q2, rfl, hO2, hx2⟩
      have E2 : Ext w u2 := ext_trans E1 hx2
      have z2 := ext_size hx2
      go_wp2_with fail
      refine (CS _ _ _ _ _ _ _ (hO1.ext hx2).rows hO2.reads).mono ?_
      rintro e u3 ⟨p3, q3, rfl, hO3, hx3⟩
      have E3 : Ext w u3 := ext_trans E2 hx3
      have z3 := ext_size hx3
      go_wp2_with fail
      refine (laws_toIntSS _ _ _ _ L0 _ X0 _ hn (w0.ext E3) hT).mono ?_
      rintro e u4 ⟨p4, q4, A_4, C_4, rfl, hO4, hx4⟩
      have E4 : Ext w u4 := ext_trans E3 hx4
      have z4 := ext_size hx4
      go_wp2_with fail
      refine (laws_toIntS _ _ _ _ _ hn1 (w1.ext E4)).mono ?_
      rintro e u5 ⟨p5, q5, rfl, hO5, hx5⟩
      have E5 : Ext w u5 := ext_trans E4 hx5
      have z5 := ext_size hx5
      go_wp2_with fail
      refine (CI _ _ _ _ _ _ _ (hO4.ext hx5).rows hO5.reads).mono ?_
      rintro e u6 ⟨p6, q6, rfl, hO6, hx6⟩
      have E6 : Ext w u6 := ext_trans E5 hx6
      have z6 := ext_size hx6
      go_wp2_with fail
      refine (laws_eqFractionS _ _ _ _ _ _ _ _ _ _ _ _ hO6 (((hO3.ext hx4).ext hx5).ext hx6) hM).mono ?_
      rintro e u7 ⟨rfl, hx7⟩
      have E7 : Ext w u7 := ext_trans E6 hx7
      have z7 := ext_size hx7
      go_wp2_with fail
      refine (laws_toIntSS _ _ _ _ L0 _ X0 _ hn (w0.ext E7) hT).mono ?_
      rintro e u8 ⟨p8, q8, A_8, C_8, rfl, hO8, hx8⟩
      have E8 : Ext w u8 := ext_trans E7 hx8
      have z8 := ext_size hx8
      go_wp2_with fail
      refine (laws_eqIntSS _ _ _ _ _ _ _ _ _ _ _ _ _ _ hn ((((hO4.ext hx5).ext hx6).ext hx7).ext hx8).rows hO8.rows hT (fun _ _ => rfl) (fun _ _ _ _ => rfl)).mono ?_
      rintro e u9 ⟨rfl, hx9⟩
      have E9 : Ext w u9 := ext_trans E8 hx9
      have z9 := ext_size hx9
      go_wp2_with fail
      refine (laws_toIntS _ _ _ _ _ hn1 (w1.ext E9)).mono ?_
      rintro e u10 ⟨p10, q10, rfl, hO10, hx10⟩
      have E10 : Ext w u10 := ext_trans E9 hx10
      have z10 := ext_size hx10
      go_wp2_with fail
      refine (laws_eqIntS _ _ _ _ _ _ _ _ hn1 (((((hO5.ext hx6).ext hx7).ext hx8).ext hx9).ext hx10).reads hO10.reads (fun _ _ => rfl)).mono ?_
      rintro e u11 ⟨rfl, hx11⟩
      have E11 : Ext w u11 := ext_trans E10 hx11
      have z11 := ext_size hx11
      go_wp2_with fail
      refine (laws_markIntSS _ _ _ _ _ _ _ _ _ 1 _ hn (by omega) (by omega) (((((((hO4.ext hx5).ext hx6).ext hx7).ext hx8).ext hx9).ext hx10).ext hx11) hT).mono ?_
      rintro e u12 ⟨rfl, hO12, hw12⟩
      have E12 : Ext w u12 := Below.trans E11 (hw12.below.mono (by omega))
      have z12 := hw12.size
      go_wp2_with fail
      refine (laws_markIntS _ _ _ _ _ _ _ _ hn1 (by omega) (by omega) (((((((hO5.ext hx6).ext hx7).ext hx8).ext hx9).ext hx10).ext hx11).within hw12 (.inr (by omega)))).mono ?_
      rintro e u13 ⟨rfl, hO13, hy13⟩
      have hw13 := hy13.within (fun p hp => ⟨(hO13.lt p hp).1, (hO13.lt p hp).2.2.1⟩)
      have E13 : Ext w u13 := Below.trans E12 (hw13.below.mono (by omega))
      have z13 := hw13.size
      go_wp2_with fail
      refine (laws_eqFractionS _ _ _ _ _ _ _ _ _ _ _ _ (((((((hO6.ext hx7).ext hx8).ext hx9).ext hx10).ext hx11).within hw12 (.inr (by omega))).within hw13 (.inr (by omega))) ((((((((((hO3.ext hx4).ext hx5).ext hx6).ext hx7).ext hx8).ext hx9).ext hx10).ext hx11).within hw12 (.inl (by omega))).within hw13 (.inl (by omega))) hM).mono ?_
      rintro e u14 ⟨rfl, hx14⟩
      have E14 : Ext w u14 := ext_trans E13 hx14
      have z14 := ext_size hx14
      go_wp2_with fail
      refine (laws_markFractionS _ _ _ _ _ 1 _ _ _ hM (by omega) (by omega) ((((((((hO6.ext hx7).ext hx8).ext hx9).ext hx10).ext hx11).within hw12 (.inr (by omega))).within hw13 (.inr (by omega))).ext hx14)).mono ?_
      rintro e u15 ⟨rfl, hO15, hw15⟩

      have E15 : Ext w u15 := Below.trans E14 (hw15.below.mono (by omega))
      have z15 := hw15.size
      go_wp2_with fail
      refine (laws_heldFractionS _ _ _ _ _ 1 _ hM (by omega) (by omega) hO15).mono ?_
      rintro e u ⟨rfl, rfl⟩
      go_wp2_with fail
      refine (laws_toIntSS _ _ _ _ L0 _ X0 _ hn (w0.ext E15) hT).mono ?_
      rintro e u16 ⟨p16, q16, A_16, C_16, rfl, hO16, hx16⟩
      have E16 : Ext w u16 := ext_trans E15 hx16
      have z16 := ext_size hx16
      go_wp2_with fail
      refine (laws_toIntS _ _ _ _ _ hn1 (w1.ext E16)).mono ?_
      rintro e u17 ⟨p17, q17, rfl, hO17, hx17⟩
      have E17 : Ext w u17 := ext_trans E16 hx17
      have z17 := ext_size hx17
      go_wp2_with fail
      refine (CI _ _ _ _ _ _ _ (hO16.ext hx17).rows hO17.reads).mono ?_
      rintro e u18 ⟨p18, q18, rfl, hO18, hx18⟩
      have E18 : Ext w u18 := ext_trans E17 hx18
      have z18 := ext_size hx18
      go_wp2_with fail
      refine (laws_eqFractionS _ _ _ _ _ _ _ _ _ _ _ _ hO18 (((((((((((((((hO3.ext hx4).ext hx5).ext hx6).ext hx7).ext hx8).ext hx9).ext hx10).ext hx11).within hw12 (.inl (by omega))).within hw13 (.inl (by omega))).ext hx14).within hw15 (.inl (by omega))).ext hx16).ext hx17).ext hx18) hM).mono ?_
      rintro e u19 ⟨rfl, hx19⟩
      have E19 : Ext w u19 := ext_trans E18 hx19
      have z19 := ext_size hx19
      go_wp2_with fail
      refine (laws_heldFractionS _ _ _ _ _ 1 _ hM (by omega) (by omega) ((((hO15.ext hx16).ext hx17).ext hx18).ext hx19)).mono ?_
      rintro e u ⟨rfl, rfl⟩
      go_wp2_with fail
      go_ret
      exact ⟨rfl, E19⟩
  · go_enter Try.func3, Try.ntmps3
    go_wp2_with fail
    go_ret
    exact ⟨rfl, ext_refl _⟩

set_option maxRecDepth 100000 in
theorem lifted (os : Os) (started : os.Started) (H : Type) (enc : TypeId × Value → H) :
    ReturnsInHanded {} Try.checked os 3 .any (Rows.fnExactSolveDesignSpec.pre6 enc Try.prog Try.f3 Rows.fnExactSolveDesignRow.domain false) (Rows.fnExactSolveDesignSpec.post enc Try.prog Try.f3 false true false false) := by
  refine returnsInHanded_of_change (C := Try.checked) own started (by kernel_rfl) Try.func3
    (ChangeSpec.witness6 (enc := enc) (C := Try.checked) false ⟨#[], #[.slice none 0 0, .slice none 0 0], []⟩ 8 (by kernel_rfl) (by kernel_rfl) (by kernel_rfl) (by kernel_rfl)) ?_
  intro W base args ds gs before hval0 hW hcnd _
  have hval : ∀ (j : Nat) t v, Try.f3.params[j]? = some t → args[j]? = some v → Value.okWide Try.prog W .any base t v := hval0
  have hW' := hW
  obtain ⟨p, q, hA0, hV, rfl, hfz, hnd⟩ := hW
  have hA : DataW.TrodAll enc Try.prog W 0 (fun _ => true) true Try.f3.params.toList args.toList ds p := hA0
  rw [Try.params3] at hA hval
  obtain ⟨v0, vs0, d0, ds0, p0, q0, hargs, rfl, rfl, h0, r0⟩ := trodAll_cons hA
  obtain ⟨v1, vs1, d1, ds1, p1, q1, rfl, rfl, rfl, h1, r1⟩ := trodAll_cons r0
  obtain ⟨rfl, rfl, rfl⟩ := trodAll_nil r1
  obtain rfl : args = #[v0, v1] := by cases args; simp_all
  obtain ⟨rfl, rfl⟩ := trodVars_none hV
  have k0 := h0
  have lt0 : ∀ x ∈ p0, x.block < W.heap.size := by obtain ⟨m, hm⟩ := k0; exact DataW.trod_lt m _ _ _ hm
  obtain ⟨a0, n0, c0, rfl⟩ := okWide_slice Try.underlying22 (hval 0 22 v0 rfl rfl)
  obtain ⟨A0, L0, C0, X0, w0, b0, e0, f0⟩ := open_rows_arg Try.underlying22 Try.underlying23 Try.underlying3 (by kernel_rfl) (by kernel_rfl) h0
  have k1 := h1
  have lt1 : ∀ x ∈ p1, x.block < W.heap.size := by obtain ⟨m, hm⟩ := k1; exact DataW.trod_lt m _ _ _ hm
  obtain ⟨a1, n1, c1, rfl⟩ := okWide_slice Try.underlying23 (hval 1 23 v1 rfl rfl)
  obtain ⟨X1, w1, b1, e1, f1⟩ := open_ints_arg Try.underlying23 Try.underlying3 (by kernel_rfl) h1
  clear hA0 hval0
  refine (walk W a0 n0 c0 A0 L0 C0 X0 w0 b0 e0 f0 a1 n1 c1 X1 w1 b1 e1 f1).mono fun e W' ⟨he, bel⟩ => ?_
  subst he
  exact ⟨_, rfl, _, _, _, [], _, [], hW', trodAll_mk1 (shut_bool Try.underlying4 _), (trodAll_cons_mk (Below.trod laidOut (by kernel_rfl) (of_decide_eq_true (by kernel_rfl)) k0 bel lt0) (trodAll_cons_mk (Below.trod laidOut (by kernel_rfl) (of_decide_eq_true (by kernel_rfl)) k1 bel lt1) trodAll_mk0)), rfl, bel.frame _, fun h => by cases h⟩

theorem closed : joinedFacts Try.prog 3 Try.f3 Rows.fnExactSolveDesignSpec Rows.fnExactSolveDesignRow = true := by
  unfold joinedFacts
  rw [make_eq, liftsFinal_eq, mayEnter_eq]
  kernel_rfl

theorem over : Rows.fnExactSolveDesignRow.holds Try.pinned (OpenSpec.ofChange Rows.fnExactSolveDesignSpec) :=
  OpenClaim.holds_of_wide 3 Try.f3 rfl rfl rfl rfl rfl rfl rfl ⟨rfl, rfl, rfl, rfl, rfl⟩ rfl rfl rfl rfl rfl (by kernel_rfl) Try.func3 closed
    (of_decide_eq_true (by kernel_rfl)) (by unfold Func.isWrapper; first | (rw [if_pos (by decide +kernel)]; kernel_rfl) | (rw [if_neg (by decide +kernel)]; exact ⟨rfl, rfl⟩))
    (fun os started H enc _ => lifted os started H enc)

theorem proved : Rows.FnExactSolveDesignSaid := over
#print axioms proved
end Go.Proofs.Ytefgdkjcoeikmaa.fnExactSolveDesign
