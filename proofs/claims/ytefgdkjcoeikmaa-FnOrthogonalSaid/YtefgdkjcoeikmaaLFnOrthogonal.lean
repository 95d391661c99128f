/- 'FnOrthogonal' is proved: an orthogonal design is one from the other side, too, for all arguments. No condition. -/
import Derived.Test.YtefgdkjcoeikmaaRow
import Derived.Test.YtefgdkjcoeikmaaAtC
import Derived.Test.YtefgdkjcoeikmaaPlainF
import Derived.Test.YtefgdkjcoeikmaaLeg
import Derived.Test.YtefgdkjcoeikmaaDet3
namespace Go.Proofs.Ytefgdkjcoeikmaa.fnOrthogonal
open Go.ChangeShapes Go.WideShapes Go.ChangeAt Go.RowKit
set_option linter.unusedVariables false
set_option linter.unusedSimpArgs false

set_option maxHeartbeats 12800000 in
set_option maxRecDepth 100000 in
theorem walk (w : World) (a0 : Option Addr) (n0 c0 : Nat) (X0 : Nat → Int) (w0 : BytesAt w a0 n0 X0) (b0 : n0 ≤ c0) (e0 : c0 ≤ maxLen) :
    Calls Try.prog 8 #[.slice a0 n0 c0] w fun e w' => e = .returned (.bool true) ∧ Ext w w' := by
  by_cases hbig : n0 ≤ 1048576
  · have hb : decide (1048576 < n0) = false := by simp; omega
    go_enter Try.func8, Try.ntmps8
    go_wp2_with fail
    refine (laws_big _ _ _ _).mono ?_
    rw [hb]
    rintro e u ⟨rfl, rfl⟩
    go_wp2_with fail
    refine (spec_DrawSigns _ _ _ _ _ w0 hbig).mono ?_
    rintro e u1 ⟨n, sa, sc, A, C, X, n1, n2, rfl, hR, hX, hx1⟩
    have HX := Lib.hid hX
    have HS := Lib.hid (signs_fit hX n1 n2)
    have hT : off (fun _ => n) n ≤ 1048576 := off_const_small n2
    have HWT := Lib.hid (trans_orth hX n1 n2)
    have HWR := Lib.hid (fun h (i j : Nat) (hi : i < n) (hj : j < n) => rp_w hX n1 n2 h hi hj)
    clear hX
    go_wp2_with fail
    refine (impl_OrthogonalWeight _ _ _ _ _ _ _ _ hR (by omega) hT).mono ?_
    generalize orthI n (fun _ => n) X = W at HWT HWR ⊢
    rintro e u2 ⟨rfl, hd2⟩
    have hx2 := hd2.ext
    have hR2 := hR.ext hx2
    go_wp2_with fail
    refine (impl_TransposeSigns _ _ _ _ _ _ _ _ hR2 (by omega) hT).mono ?_
    rintro e u3 hp
    obtain ⟨ta, tc, A3, C3, rfl, hO3, hx3⟩ := hp.1 HS.out
    clear hp
    have HT3 := Lib.hid hO3.rows
    have E3 : Ext w u3 := ext_trans hx1 (ext_trans hx2 hx3)
    have HR3 := Lib.hid (hR2.ext hx3)
    clear hO3 hR hR2 hd2 hx1 hx2 hx3
    have w3 := w0.ext E3
    have A0 := laws_at_f 0 (by omega) _ _ c0 _ _ w3 hbig
    have B0 := atF_in w3 0
    generalize atF n0 X0 0 = x at A0 B0
    obtain ⟨x1, x2⟩ := B0
    obtain ⟨kk, s, hq, hks⟩ : ∃ kk s : Nat, x % 4 = kk ∧ ((kk = 0 ∧ s = 1) ∨ (kk = 1 ∧ s = 2) ∨ (kk = 2 ∧ s = 4) ∨ (kk = 3 ∧ s = 8)) := by
      obtain hk | hk | hk | hk : x % 4 = 0 ∨ x % 4 = 1 ∨ x % 4 = 2 ∨ x % 4 = 3 := by omega
      · exact ⟨0, 1, hk, by omega⟩
      · exact ⟨1, 2, hk, by omega⟩
      · exact ⟨2, 4, hk, by omega⟩
      · exact ⟨3, 8, hk, by omega⟩
    have hq2 : Int.tmod x 4 = kk := by rw [Int.tmod_eq_emod_of_nonneg x1]; exact hq
    have HKS := Lib.hid hks
    have hs8 : s ≤ 8 := by omega
    have hs1 : 1 ≤ s := by omega
    have hk3 : kk ≤ 3 := by omega
    have hp1 : (2 : Int) ^ min kk 64 = s := by rcases hks with ⟨rfl, rfl⟩ | ⟨rfl, rfl⟩ | ⟨rfl, rfl⟩ | ⟨rfl, rfl⟩ <;> rfl
    have hp2 : (2 : Int) ^ kk = s := by rcases hks with ⟨rfl, rfl⟩ | ⟨rfl, rfl⟩ | ⟨rfl, rfl⟩ | ⟨rfl, rfl⟩ <;> rfl
    have hp3 : IntKind.i64.wrap (s : Int) = s := wrapI (by omega) (by omega)
    clear hks
    go_wp2_with fail
    refine A0.mono ?_
    rintro e u ⟨rfl, hu⟩
    obtain rfl := hu.symm
    clear A0
    go_wp2_with fail
    clear hq hq2 x1 x2
    refine (syl_call (kk : Int) s (by have := HKS.out; omega) _).mono ?_
    rintro e u4 ⟨qs, cs, As, Cs, Xs, rfl, hRs, hws, hx4⟩
    have HWS := Lib.hid hws
    clear hws
    have hTs : off (fun _ => s) s ≤ 1048576 := off_const_small (by omega)
    have w4 := w3.ext hx4
    have A1 := laws_at_f 1 (by omega) _ _ c0 _ _ w4 hbig
    have B1 := atF_in w4 1
    generalize atF n0 X0 1 = y at A1 B1
    obtain ⟨y1, y2⟩ := B1
    obtain ⟨z, hz⟩ : ∃ z : Int, z = y % 3 := ⟨_, rfl⟩
    have z1 : 0 ≤ z := by omega
    have z2 : z ≤ 2 := by omega
    have q5 : Int.tmod y 3 = z := by rw [Int.tmod_eq_emod_of_nonneg y1]; omega
    have q6 : y % 3 = z := hz.symm
    clear hz
    go_wp2_with fail
    refine A1.mono ?_
    rintro e u ⟨rfl, hu⟩
    obtain rfl := hu.symm
    clear A1
    have HP := Lib.hid (show (3 + 2 * z = 3 ∨ 3 + 2 * z = 5 ∨ 3 + 2 * z = 7) by omega)
    go_wp2_with fail
    clear q5 q6 y1 y2
    refine (conf_call _ HP.out _).mono ?_
    rintro e u5 ⟨cn, qc, cc, Ac, Cc, Xc, hcn, cn8, rfl, hRc, hwc, hx5⟩
    have HWC := Lib.hid hwc
    have hcn2 : (cn : Int) = 3 + 2 * z + 1 := hcn
    clear hwc hcn
    have hTc : off (fun _ => cn) cn ≤ 1048576 := off_const_small cn8
    have E9 := ext_trans hx4 hx5
    have hRs5 := hRs.ext hx5
    have w5 := w3.ext E9
    have A2 := laws_at_f 2 (by omega) _ _ c0 _ _ w5 hbig
    have B2 := atF_in w5 2
    generalize atF n0 X0 2 = xx at A2 B2
    obtain ⟨xx1, xx2⟩ := B2
    have A3 := laws_at_f 3 (by omega) _ _ c0 _ _ w5 hbig
    have B3 := atF_in w5 3
    generalize atF n0 X0 3 = yy at A3 B3
    obtain ⟨yy1, yy2⟩ := B3
    have A4 := laws_at_f 4 (by omega) _ _ c0 _ _ w5 hbig
    have B4 := atF_in w5 4
    generalize atF n0 X0 4 = ai at A4 B4
    obtain ⟨ai1, ai2⟩ := B4
    obtain ⟨i, hi⟩ : ∃ i : Nat, i = (ai % n).toNat := ⟨_, rfl⟩
    have gi0 := Int.emod_nonneg ai (show (n : Int) ≠ 0 by omega)
    have gi1 := Int.emod_lt_of_pos ai (show 0 < (n : Int) by omega)
    have pi : Int.tmod ai n = i := by rw [Int.tmod_eq_emod_of_nonneg ai1]; omega
    have si : ai % n = i := by omega
    have ri : i < n := by omega
    clear hi gi0 gi1
    have A5 := laws_at_f 5 (by omega) _ _ c0 _ _ w5 hbig
    have B5 := atF_in w5 5
    generalize atF n0 X0 5 = aj at A5 B5
    obtain ⟨aj1, aj2⟩ := B5
    obtain ⟨j, hj⟩ : ∃ j : Nat, j = (aj % n).toNat := ⟨_, rfl⟩
    have gj0 := Int.emod_nonneg aj (show (n : Int) ≠ 0 by omega)
    have gj1 := Int.emod_lt_of_pos aj (show 0 < (n : Int) by omega)
    have pj : Int.tmod aj n = j := by rw [Int.tmod_eq_emod_of_nonneg aj1]; omega
    have sj : aj % n = j := by omega
    have rj : j < n := by omega
    clear hj gj0 gj1
    have q0 : ((n : Int) == 0) = false := by rw [beq_eq_false_iff_ne]; omega
    have q1 : (n : Int) ≠ 0 := by omega
    go_wp2_with fail
    refine A2.mono ?_
    rintro e u ⟨rfl, hu⟩
    obtain rfl := hu.symm
    clear A2
    go_wp2_with fail
    refine A3.mono ?_
    rintro e u ⟨rfl, hu⟩
    obtain rfl := hu.symm
    clear A3
    go_wp2_with fail
    refine A4.mono ?_
    rintro e u ⟨rfl, hu⟩
    obtain rfl := hu.symm
    clear A4
    go_wp2_with fail
    refine A5.mono ?_
    rintro e u ⟨rfl, hu⟩
    obtain rfl := hu.symm
    clear A5
    go_wp2_with fail
    clear pi pj si sj
    refine (impl_RowProduct _ _ _ _ _ _ _ _ _ _ (HR3.out.ext E9) (by omega) hT).mono ?_
    obtain ⟨m1, m2⟩ := mul_bound (A := 255) (B := 255) (⟨by omega, xx2⟩ : -255 ≤ xx ∧ xx ≤ 255) (⟨by omega, yy2⟩ : -255 ≤ yy ∧ yy ≤ 255)
    have W1 : IntKind.i64.wrap (xx * yy) = xx * yy := wrapI (by omega) (by omega)
    obtain ⟨m3, m4⟩ := mul_bound (A := 1) (B := 1) (legI_in xx (3 + 2 * z)) (legI_in yy (3 + 2 * z))
    have W2 : IntKind.i64.wrap (legI xx (3 + 2 * z) * legI yy (3 + 2 * z)) = legI xx (3 + 2 * z) * legI yy (3 + 2 * z) := wrapI (by omega) (by omega)
    by_cases hW : W = 0
    · have hW1 : (W == 0) = true := by simp [hW]
      have HRP := Lib.hid (rp_symm n (fun _ => n) X j i)
      clear hW HWR HWT
      rintro e u6 ⟨rfl, hd⟩
      have F0 := hd.ext
      have E9 := ext_trans E9 F0
      have HRS := Lib.hid (fun (v : World) (F : Ext u6 v) => hRs5.ext (ext_trans F0 F))
      have HRC := Lib.hid (fun (v : World) (F : Ext u6 v) => hRc.ext (ext_trans F0 F))
      clear hd
      go_wp2_with fail
      refine (impl_SignsOk _ _ _ _ _ _ _ _ (HR3.out.ext E9) (by omega) hT).mono ?_
      rw [HS.out]
      rintro e u ⟨rfl, rfl⟩
      have F1 := E9
      have G1 := ext_refl u6
      go_wp2_with fail
      refine (impl_OrthogonalWeight _ _ _ _ _ _ _ _ (HRS.out _ G1) (by omega) hTs).mono ?_
      rw [HWS.out]
      rintro e v2 ⟨rfl, hd⟩
      have F2 := ext_trans F1 hd.ext
      have G2 := ext_trans G1 hd.ext
      clear hd
      go_wp2_with fail
      refine (impl_OrthogonalWeight _ _ _ _ _ _ _ _ (HRC.out _ G2) (by omega) hTc).mono ?_
      rw [HWC.out]
      rintro e v3 ⟨rfl, hd⟩
      have F3 := ext_trans F2 hd.ext
      clear hd
      go_wp2_with fail
      refine (impl_LegendreOf _ _ _).mono ?_
      rw [leg_mul HP.out]
      rintro e u ⟨rfl, rfl⟩
      go_wp2_with fail
      refine (impl_LegendreOf _ _ _).mono ?_
      rintro e u ⟨rfl, rfl⟩
      go_wp2_with fail
      refine (impl_LegendreOf _ _ _).mono ?_
      rintro e u ⟨rfl, rfl⟩
      go_wp2_with fail
      refine (impl_RowProduct _ _ _ _ _ _ _ _ _ _ (HR3.out.ext F3) (by omega) hT).mono ?_
      rw [HRP.out]
      rintro e v4 ⟨rfl, hd⟩
      have F4 := ext_trans F3 hd.ext
      clear hd
      go_wp2_with fail
      all_goals first
        | (go_ret; exact ⟨rfl, ext_trans E3 F4⟩)
        | (go_ret; exact ⟨ret_bool (by rw [bne, hij1]; rfl), ext_trans E3 F4⟩)
        | (exfalso; omega)
    · have hW1 : (W == 0) = false := by simp [hW]
      have HW0 := Lib.hid hW
      clear hW
      by_cases hij : i = j
      · subst hij
        have HRP := Lib.hid ((HWR.out HW0.out i i ri ri).trans (if_pos rfl))
        rw [HRP.out]
        clear HWR
        rintro e u6 ⟨rfl, hd⟩
        have F0 := hd.ext
        have E9 := ext_trans E9 F0
        have HRS := Lib.hid (fun (v : World) (F : Ext u6 v) => hRs5.ext (ext_trans F0 F))
        have HRC := Lib.hid (fun (v : World) (F : Ext u6 v) => hRc.ext (ext_trans F0 F))
        clear hd
        go_wp2_with fail
        refine (impl_SignsOk _ _ _ _ _ _ _ _ (HR3.out.ext E9) (by omega) hT).mono ?_
        rw [HS.out]
        rintro e u ⟨rfl, rfl⟩
        go_wp2_with fail
        refine (impl_OrthogonalWeight _ _ _ _ _ _ _ _ (HT3.out.ext E9) (by omega) hT).mono ?_
        rw [HWT.out HW0.out]
        rintro e v1 ⟨rfl, hd⟩
        have F1 := ext_trans E9 hd.ext
        have G1 := hd.ext
        clear hd
        go_wp2_with fail
        refine (impl_OrthogonalWeight _ _ _ _ _ _ _ _ (HRS.out _ G1) (by omega) hTs).mono ?_
        rw [HWS.out]
        rintro e v2 ⟨rfl, hd⟩
        have F2 := ext_trans F1 hd.ext
        have G2 := ext_trans G1 hd.ext
        clear hd
        go_wp2_with fail
        refine (impl_OrthogonalWeight _ _ _ _ _ _ _ _ (HRC.out _ G2) (by omega) hTc).mono ?_
        rw [HWC.out]
        rintro e v3 ⟨rfl, hd⟩
        have F3 := ext_trans F2 hd.ext
        clear hd
        go_wp2_with fail
        refine (impl_LegendreOf _ _ _).mono ?_
        rw [leg_mul HP.out]
        rintro e u ⟨rfl, rfl⟩
        go_wp2_with fail
        refine (impl_LegendreOf _ _ _).mono ?_
        rintro e u ⟨rfl, rfl⟩
        go_wp2_with fail
        refine (impl_LegendreOf _ _ _).mono ?_
        rintro e u ⟨rfl, rfl⟩
        go_wp2_with fail
        refine (impl_RowProduct _ _ _ _ _ _ _ _ _ _ (HR3.out.ext F3) (by omega) hT).mono ?_
        rw [HRP.out]
        rintro e v4 ⟨rfl, hd⟩
        have F4 := ext_trans F3 hd.ext
        clear hd
        go_wp2_with fail
        all_goals first
          | (go_ret; exact ⟨rfl, ext_trans E3 F4⟩)
          | (go_ret; exact ⟨ret_bool (by rw [bne, hij1]; rfl), ext_trans E3 F4⟩)
          | (exfalso; omega)
      · have HRQ := Lib.hid ((HWR.out HW0.out i j ri rj).trans (if_neg hij))
        have HRP := Lib.hid ((HWR.out HW0.out j i rj ri).trans (if_neg (fun e => hij e.symm)))
        have hij2 : (i == j) = false := by simp [hij]
        have hij1 : ((i : Int) == (j : Int)) = false := by rw [beq_eq_false_iff_ne]; omega
        rw [HRQ.out]
        clear HWR HRQ
        rintro e u6 ⟨rfl, hd⟩
        have F0 := hd.ext
        have E9 := ext_trans E9 F0
        have HRS := Lib.hid (fun (v : World) (F : Ext u6 v) => hRs5.ext (ext_trans F0 F))
        have HRC := Lib.hid (fun (v : World) (F : Ext u6 v) => hRc.ext (ext_trans F0 F))
        clear hd
        go_wp2_with fail
        refine (impl_SignsOk _ _ _ _ _ _ _ _ (HR3.out.ext E9) (by omega) hT).mono ?_
        rw [HS.out]
        rintro e u ⟨rfl, rfl⟩
        go_wp2_with fail
        refine (impl_OrthogonalWeight _ _ _ _ _ _ _ _ (HT3.out.ext E9) (by omega) hT).mono ?_
        rw [HWT.out HW0.out]
        rintro e v1 ⟨rfl, hd⟩
        have F1 := ext_trans E9 hd.ext
        have G1 := hd.ext
        clear hd
        go_wp2_with fail
        refine (impl_OrthogonalWeight _ _ _ _ _ _ _ _ (HRS.out _ G1) (by omega) hTs).mono ?_
        rw [HWS.out]
        rintro e v2 ⟨rfl, hd⟩
        have F2 := ext_trans F1 hd.ext
        have G2 := ext_trans G1 hd.ext
        clear hd
        go_wp2_with fail
        refine (impl_OrthogonalWeight _ _ _ _ _ _ _ _ (HRC.out _ G2) (by omega) hTc).mono ?_
        rw [HWC.out]
        rintro e v3 ⟨rfl, hd⟩
        have F3 := ext_trans F2 hd.ext
        clear hd
        go_wp2_with fail
        refine (impl_LegendreOf _ _ _).mono ?_
        rw [leg_mul HP.out]
        rintro e u ⟨rfl, rfl⟩
        go_wp2_with fail
        refine (impl_LegendreOf _ _ _).mono ?_
        rintro e u ⟨rfl, rfl⟩
        go_wp2_with fail
        refine (impl_LegendreOf _ _ _).mono ?_
        rintro e u ⟨rfl, rfl⟩
        go_wp2_with fail
        refine (impl_RowProduct _ _ _ _ _ _ _ _ _ _ (HR3.out.ext F3) (by omega) hT).mono ?_
        rw [HRP.out]
        rintro e v4 ⟨rfl, hd⟩
        have F4 := ext_trans F3 hd.ext
        clear hd
        go_wp2_with fail
        all_goals first
          | (go_ret; exact ⟨rfl, ext_trans E3 F4⟩)
          | (go_ret; exact ⟨ret_bool (by rw [bne, hij1]; rfl), ext_trans E3 F4⟩)
          | (exfalso; omega)
  · have hb : decide (1048576 < n0) = true := by simp; omega
    go_enter Try.func8, Try.ntmps8
    go_wp2_with fail
    refine (laws_big _ _ _ _).mono ?_
    rw [hb]
    rintro e u ⟨rfl, rfl⟩
    go_wp2_with fail
    go_ret
    exact ⟨rfl, (by repeat (first | (with_reducible exact ext_refl _) | (with_reducible refine ext_setCell ?_ ?_ _) | (with_reducible refine ext_alloc ?_ _) | (with_reducible refine ext_drewN ?_ _) | (with_reducible refine ext_drew ?_) | (with_reducible refine ext_trans ?_ (by assumption)) | (dsimp only; omega) | omega | (simp; omega)))⟩

set_option maxRecDepth 100000 in
theorem lifted (os : Os) (started : os.Started) (H : Type) (enc : TypeId × Value → H) :
    ReturnsInHanded {} Try.checked os 8 .any (Rows.fnOrthogonalSpec.pre6 enc Try.prog Try.f8 Rows.fnOrthogonalRow.domain false) (Rows.fnOrthogonalSpec.post enc Try.prog Try.f8 false true false false) := by
  refine returnsInHanded_of_change (C := Try.checked) own started (by kernel_rfl) Try.func8
    (ChangeSpec.witness6 (enc := enc) (C := Try.checked) false ⟨#[], #[.slice none 0 0], []⟩ 8 (by kernel_rfl) (by kernel_rfl) (by kernel_rfl) (by kernel_rfl)) ?_
  intro W base args ds gs before hval0 hW hcnd _
  have hval : ∀ (j : Nat) t v, Try.f8.params[j]? = some t → args[j]? = some v → Value.okWide Try.prog W .any base t v := hval0
  have hW' := hW
  obtain ⟨p, q, hA0, hV, rfl, hfz, hnd⟩ := hW
  have hA : DataW.TrodAll enc Try.prog W 0 (fun _ => true) true Try.f8.params.toList args.toList ds p := hA0
  rw [Try.params8] at hA hval
  obtain ⟨v0, vs0, d0, ds0, p0, q0, hargs, rfl, rfl, h0, r0⟩ := trodAll_cons hA
  obtain ⟨rfl, rfl, rfl⟩ := trodAll_nil r0
  obtain rfl : args = #[v0] := by cases args; simp_all
  obtain ⟨rfl, rfl⟩ := trodVars_none hV
  have k0 := h0
  have lt0 : ∀ x ∈ p0, x.block < W.heap.size := by obtain ⟨m, hm⟩ := k0; exact DataW.trod_lt m _ _ _ hm
  obtain ⟨a0, n0, c0, rfl⟩ := okWide_slice Try.underlying38 (hval 0 38 v0 rfl rfl)
  obtain ⟨X0, w0, b0, e0⟩ := open_bytes_arg Try.underlying38 Try.underlying5 (by kernel_rfl) h0
  clear hA0 hval0
  refine (walk W a0 n0 c0 X0 w0 b0 e0).mono fun e W' ⟨he, bel⟩ => ?_
  subst he
  exact ⟨_, rfl, _, _, _, [], _, [], hW', trodAll_mk1 (shut_bool Try.underlying4 _), (trodAll_cons_mk (Below.trod laidOut (by kernel_rfl) (of_decide_eq_true (by kernel_rfl)) k0 bel lt0) trodAll_mk0), rfl, bel.frame _, fun h => by cases h⟩

theorem closed : joinedFacts Try.prog 8 Try.f8 Rows.fnOrthogonalSpec Rows.fnOrthogonalRow = true := by
  unfold joinedFacts
  rw [make_eq, liftsFinal_eq, mayEnter_eq]
  kernel_rfl

theorem over : Rows.fnOrthogonalRow.holds Try.pinned (OpenSpec.ofChange Rows.fnOrthogonalSpec) :=
  OpenClaim.holds_of_wide 8 Try.f8 rfl rfl rfl rfl rfl rfl rfl ⟨rfl, rfl, rfl, rfl, rfl⟩ rfl rfl rfl rfl rfl (by kernel_rfl) Try.func8 closed
    (of_decide_eq_true (by kernel_rfl)) (by unfold Func.isWrapper; first | (rw [if_pos (by decide +kernel)]; kernel_rfl) | (rw [if_neg (by decide +kernel)]; exact ⟨rfl, rfl⟩))
    (fun os started H enc _ => lifted os started H enc)

theorem proved : Rows.FnOrthogonalSaid := over
#print axioms proved
end Go.Proofs.Ytefgdkjcoeikmaa.fnOrthogonal
