/- 'FnDeterminants' is proved: a matrix times its adjugate is the determinant, and different values have different readings in a determined design, for all arguments. No condition. -/
import Derived.Test.YtefgdkjcoeikmaaRow
import Derived.Test.YtefgdkjcoeikmaaAtC
import Derived.Test.YtefgdkjcoeikmaaPlainD
import Derived.Test.YtefgdkjcoeikmaaGrow2
import Derived.StillTailTactics
namespace Go.Proofs.Ytefgdkjcoeikmaa.fnDeterminants
open Go.ChangeShapes Go.WideShapes Go.ChangeAt Go.RowKit
set_option linter.unusedVariables false
set_option linter.unusedSimpArgs false

theorem adj_in {n : Nat} {X : Nat → Nat → Int} (h : squareOkB n (fun _ => n) X = true) {i k : Nat} (hi : i < n) (hk : k < n) : -100000 ≤ adjF n X i k ∧ adjF n X i k ≤ 100000 := by
  obtain ⟨_, m2, m3⟩ := minor_at h hk hi
  by_cases e : (i + k) % 2 = 1
  · rw [adj_odd e]; omega
  · rw [adj_even e]; omega
theorem rowAdj_in {n : Nat} {X : Nat → Nat → Int} (h : squareOkB n (fun _ => n) X = true) {i k j : Nat} (hi : i < n) (hk : k < n) (hj : j ≤ n) (hX : ∀ i, i < n → ∀ j, j < n → -4 ≤ X i j ∧ X i j ≤ 4) :
    -(j * (4 * 100000)) ≤ rowAdj n X i k j ∧ rowAdj n X i k j ≤ j * (4 * 100000) :=
  sumN_bound fun q hq => mul_bound (hX i hi q (by omega)) (adj_in h (by omega) hk)
theorem rowDet_in {n : Nat} {X : Nat → Nat → Int} (h : squareOkB n (fun _ => n) X = true) {j : Nat} (hj : j ≤ n) (hX : ∀ i, i < n → ∀ j, j < n → -4 ≤ X i j ∧ X i j ≤ 4) :
    -(j * (4 * 100000)) ≤ rowDet n X j ∧ rowDet n X j ≤ j * (4 * 100000) := by
  refine sumN_bound fun q hq => ?_
  obtain ⟨_, m2, m3⟩ := minor_at h (show 0 < n by omega) (show q < n by omega)
  have := mul_bound (hX 0 (by omega) q (by omega)) (⟨m2, m3⟩ : -100000 ≤ _ ∧ _)
  rcases sg_cases q with e | e <;> rw [e] <;> omega
theorem one_rows (v : World) : RowsAt ((v.alloc (.cells #[.int .i64 1] 3)).alloc (.cells #[.slice (some ⟨v.heap.size, 0, none⟩) 1 1] 23)) (some ⟨v.heap.size + 1, 0, none⟩) 1 (fun _ => some ⟨v.heap.size, 0, none⟩) (fun _ => 1) (fun _ => 1) (fun _ _ => 1) := by
  have hI := OI.lit v [.int .i64 1] (fun _ => 1) 1 (by simp [maxLen]) rfl
  have hR := (OR.lit1 hI (by simp) (by simp)).rows
  have hz : (v.alloc (.cells #[.int .i64 1] 3)).heap.size = v.heap.size + 1 := by simp
  rw [← hz]
  exact hR
theorem zero_rows (v : World) (a : Option Addr) : RowsAt v a 0 (fun _ => none) (fun _ => 0) (fun _ => 0) (fun _ _ => 0) := ⟨fun h => by omega, fun i hi => by omega, fun i hi => by omega⟩
theorem zero_sq : squareOkB 0 (fun _ => 0) (fun _ _ => 0) = false := by decide
theorem one_det : isDetB 1 (fun _ => 1) (fun _ _ => 1) = true := by decide

set_option maxHeartbeats 6400000 in
set_option maxRecDepth 100000 in
theorem walk (w : World) (a0 : Option Addr) (n0 c0 : Nat) (X0 : Nat → Int) (w0 : BytesAt w a0 n0 X0) (b0 : n0 ≤ c0) (e0 : c0 ≤ maxLen) :
    Calls Try.prog 6 #[.slice a0 n0 c0] w fun e w' => e = .returned (.bool true) ∧ Ext w w' := by
  by_cases hbig : n0 ≤ 1048576
  · have hb : decide (1048576 < n0) = false := by simp; omega
    go_enter Try.func6, Try.ntmps6
    go_wp2_with fail
    refine (laws_big _ _ _ _).mono ?_
    rw [hb]
    rintro e u ⟨rfl, rfl⟩
    go_wp2_with fail
    refine (spec_DrawSquare _ _ _ _ _ w0 hbig).mono ?_
    rintro e u1 ⟨n, sa, sc, A, C, X, n1, n2, rfl, hR, hX, hx1⟩
    have HS := Lib.hid (show squareOkB n (fun _ => n) X = true from square_iff.2 ⟨⟨n1, n2⟩, fun i hi => ⟨rfl, fun j hj => by have := hX i hi j hj; omega⟩⟩)
    have hT : off (fun _ => n) n ≤ 1048576 := off_const_small (by omega)
    go_wp2_with fail
    refine (impl_AdjugateOf _ _ _ _ _ _ _ _ hR (by omega) hT).mono ?_
    rintro e u2 hp
    obtain ⟨ba, bc, B, D, rfl, hO, hx2⟩ := hp.1 HS.out
    clear hp
    have hR2 := hR.ext hx2
    go_wp2_with fail
    refine (impl_DeterminantOf _ _ _ _ _ _ _ _ hR2 (by omega) hT).mono ?_
    rw [show detOfI n (fun _ => n) X = detF n X by simp [detOfI, HS.out]]
    rintro e u3 ⟨rfl, hx3⟩
    have HR := Lib.hid (hR2.ext hx3)
    have HB := Lib.hid ((hO.ext hx3).rows)
    have E3 : Ext w u3 := ext_trans hx1 (ext_trans hx2 hx3)
    have HX := Lib.hid hX
    clear hR hR2 hO hX hx1 hx2 hx3
    obtain ⟨sb, so, rfl, hsa⟩ := HR.out.top (by omega)
    obtain ⟨bb, bo, rfl, hba⟩ := HB.out.top (by omega)
    have HSA := Lib.hid hsa
    have HBA := Lib.hid hba
    clear hsa hba
    go_wp2_with fail
    go_loopg [7] n (fun g i wr => ∃ k : Nat, k ≤ n ∧ g = n - k ∧ i = .int .i64 k ∧ u3 = wr)
    · exact ⟨0, Nat.zero_le _, by omega, rfl, rfl⟩
    · obtain ⟨k, hk, rfl, rfl, rfl⟩ := hrel
      rcases Nat.lt_or_ge k n with hlt | hge
      · have c1 := HBA.out k hlt
        have q1 : (k : Int) < n := by omega
        go_wp2_with fail
        go_roundg (n - (k + 1))
        case measure => omega
        case rel => exact ⟨k + 1, by omega, rfl, by go_num, rfl⟩
      · obtain rfl : n = k := by omega
        go_wp2_with fail
        go_loopg [8, 9] n (fun g s i wr => ∃ p : Nat, p ≤ n ∧ g = n - p ∧ s = .int .i64 (rowDet n X p) ∧ i = .int .i64 p ∧ Ext u3 wr)
        · exact ⟨0, Nat.zero_le _, by omega, rfl, rfl, ext_refl _⟩
        · obtain ⟨p, hp, rfl, rfl, rfl, hxo⟩ := hrel
          obtain ⟨wo, rfl⟩ : ∃ wo : World, wo = wr := ⟨_, rfl⟩
          rcases Nat.lt_or_ge p n with plt | pge
          · have p1 : (p : Int) < n := by omega
            go_wp2_with fail
            go_loopg [10] n (fun g i wr => ∃ q : Nat, q ≤ n ∧ g = n - q ∧ i = .int .i64 q ∧ Ext wo wr)
            · exact ⟨0, Nat.zero_le _, by omega, rfl, ext_refl _⟩
            · obtain ⟨q, hq, rfl, rfl, hxm⟩ := hrel
              obtain ⟨wm, rfl⟩ : ∃ wm : World, wm = wr := ⟨_, rfl⟩
              rcases Nat.lt_or_ge q n with qlt | qge
              · have q1 : (q : Int) < n := by omega
                go_wp2_with fail
                go_loopg [11, 12] n (fun g s j wr => ∃ r : Nat, r ≤ n ∧ g = n - r ∧ s = .int .i64 (rowAdj n X p q r) ∧ j = .int .i64 r ∧ Ext wm wr)
                · exact ⟨0, Nat.zero_le _, by omega, rfl, rfl, ext_refl _⟩
                · obtain ⟨r, hr, rfl, rfl, rfl, hxi⟩ := hrel
                  have E := ext_trans hxo (ext_trans hxm hxi)
                  rcases Nat.lt_or_ge r n with rlt | rge
                  · have r1 : (r : Int) < n := by omega
                    have c1 := ext_cell E (HSA.out p plt)
                    have c2 := ext_cell E (HBA.out r rlt)
                    have R1 := (HR.out.row p plt).ext E
                    have R2 := (HB.out.row r rlt).ext E
                    generalize A p = ap at c1 R1
                    generalize B r = br at c2 R2
                    obtain ⟨b1, o1, rfl, d1⟩ := R1.at_ rlt
                    obtain ⟨b2, o2, rfl, d2⟩ := R2.at_ qlt
                    have t1 := HX.out p plt r rlt
                    have t2 := adj_in HS.out rlt qlt
                    have t3 := rowAdj_in HS.out plt qlt hr HX.out
                    have t4 := mul_bound (A := 4) (B := 100000) t1 t2
                    have e1 : (r : Int) * (4 * 100000) ≤ 1600000 := by omega
                    have HZ := Lib.hid (rowAdj_succ n X p q r)
                    obtain ⟨t11, t12⟩ := t1
                    obtain ⟨t21, t22⟩ := t2
                    obtain ⟨t31, t32⟩ := t3
                    obtain ⟨t41, t42⟩ := t4
                    have W1 : IntKind.i64.wrap (X p r * adjF n X r q) = X p r * adjF n X r q := wrapI (by omega) (by omega)
                    have W2 : IntKind.i64.wrap (rowAdj n X p q r + X p r * adjF n X r q) = rowAdj n X p q r + X p r * adjF n X r q := wrapI (by omega) (by omega)
                    clear R1 R2
                    go_wp2
                    go_quiet (fail)
                    go_wp2
                    go_roundg (n - (r + 1))
                    case measure => omega
                    case rel => exact ⟨r + 1, by omega, rfl, by rw [HZ.out], by go_num, ext_drewN hxi _⟩
                  · obtain rfl : n = r := by omega
                    by_cases e : p = q
                    · subst e
                      rw [show rowAdj n X p p n = detF n X by rw [rowAdj, adj_id n n2 X p p plt plt, if_pos rfl]]
                      go_wp2_with fail
                      go_roundg (n - (p + 1))
                      case measure => omega
                      case rel => exact ⟨p + 1, by omega, rfl, by go_num, ext_trans hxm hxi⟩
                    · rw [show rowAdj n X p q n = 0 by rw [rowAdj, adj_id n n2 X p q plt qlt, if_neg e]]
                      have z1 : ((p : Int) == (q : Int)) = false := by rw [beq_eq_false_iff_ne]; omega
                      go_wp2_with fail
                      go_roundg (n - (q + 1))
                      case measure => omega
                      case rel => exact ⟨q + 1, by omega, rfl, by go_num, ext_trans hxm hxi⟩
              · obtain rfl : n = q := by omega
                have E := ext_trans hxo hxm
                have c1 := ext_cell E (HSA.out 0 (by omega))
                rw [Nat.add_zero] at c1
                have R1 := (HR.out.row 0 (by omega)).ext E
                have HRW := HR.out.ext E
                generalize A 0 = az at c1 R1
                obtain ⟨b1, o1, rfl, d1⟩ := R1.at_ plt
                have n1' : (0 : Int) < n := by omega
                have n2' : 0 < n := by omega
                obtain ⟨m1, m2, m3⟩ := minor_at HS.out (show 0 < n by omega) plt
                have HM := Lib.hid (show minorI n (fun _ => n) X 0 (p : Int) = detF (n - 1) (Go.Proofs.Ytefgdkjcoeikmaa.wo X 0 p) from m1)
                obtain ⟨t1, t2⟩ := HX.out 0 (by omega) p plt
                obtain ⟨t3, t4⟩ := mul_bound (A := 4) (B := 100000) ⟨t1, t2⟩ ⟨m2, m3⟩
                obtain ⟨t5, t6⟩ := rowDet_in HS.out hp HX.out
                have e1 : (p : Int) * (4 * 100000) ≤ 1600000 := by omega
                clear R1 m1
                generalize hM : detF (n - 1) (Go.Proofs.Ytefgdkjcoeikmaa.wo X 0 p) = M at m2 m3 t3 t4
                have W1 : IntKind.i64.wrap (X 0 p * M) = X 0 p * M := wrapI (by omega) (by omega)
                have W2 : IntKind.i64.wrap (-(X 0 p * M)) = -(X 0 p * M) := wrapI (by omega) (by omega)
                have W3 : IntKind.i64.wrap (rowDet n X p + X 0 p * M) = rowDet n X p + X 0 p * M := wrapI (by omega) (by omega)
                have W4 : IntKind.i64.wrap (rowDet n X p + -(X 0 p * M)) = rowDet n X p + -(X 0 p * M) := wrapI (by omega) (by omega)
                by_cases e : p % 2 = 1
                · have hb2 : ((p : Int) % 2 == 1) = true := by simp; omega
                  have HZ := Lib.hid (show rowDet n X (p + 1) = rowDet n X p + -(X 0 p * M) by rw [rowDet_odd e, hM])
                  have HM2 := Lib.hid (HM.out.trans hM)
                  clear e hM HM
                  go_wp2_with fail
                  go_region_law (first
                    | (go_simp
                       go_at_call 34
                       refine (impl_MinorOf _ _ _ _ _ _ _ _ _ _ (HRW.ext (ext_drew (ext_refl _))) (by omega) hT).mono ?_
                       rw [HM2.out]
                       rintro e w1 ⟨rfl, hx1⟩
                       have y1 := ext_cell (ext_trans (ext_drew (ext_refl _)) hx1) c1
                       have y2 := ext_cell (ext_trans (ext_drew (ext_refl _)) hx1) d1))
                  all_goals
                    go_wp2_with fail
                    go_roundg (n - (p + 1))
                    case measure => omega
                    case rel => exact ⟨p + 1, by omega, rfl, by rw [HZ.out], by go_num, ext_trans E (ext_trans (ext_drew (ext_refl _)) hx1)⟩
                · have hb2 : ((p : Int) % 2 == 1) = false := by rw [beq_eq_false_iff_ne]; omega
                  have HZ := Lib.hid (show rowDet n X (p + 1) = rowDet n X p + X 0 p * M by rw [rowDet_even e, hM])
                  have HM2 := Lib.hid (HM.out.trans hM)
                  clear e hM HM
                  go_wp2_with fail
                  go_region_law (first
                    | (go_simp
                       go_at_call 34
                       refine (impl_MinorOf _ _ _ _ _ _ _ _ _ _ (HRW.ext (ext_drew (ext_refl _))) (by omega) hT).mono ?_
                       rw [HM2.out]
                       rintro e w1 ⟨rfl, hx1⟩
                       have y1 := ext_cell (ext_trans (ext_drew (ext_refl _)) hx1) c1
                       have y2 := ext_cell (ext_trans (ext_drew (ext_refl _)) hx1) d1))
                  all_goals
                    go_wp2_with fail
                    go_roundg (n - (p + 1))
                    case measure => omega
                    case rel => exact ⟨p + 1, by omega, rfl, by rw [HZ.out], by go_num, ext_trans E (ext_trans (ext_drew (ext_refl _)) hx1)⟩
          · obtain rfl : n = p := by omega
            rw [rowDet_eq n1 X]
            have EW := ext_trans E3 hxo
            have w1 := w0.ext EW
            go_wp2_with fail
            refine (spec_DrawDesign _ _ _ _ _ w1 hbig).mono ?_
            rintro e v1 ⟨nn, m, ra, rc, A2, C2, Z, va, vc, Y, k1, k2, m1, m2, rfl, hR2, hZ, hY, hYb, hx5⟩
            have w2 := w1.ext hx5
            have hE := OI.lit v1 [] Y 0 (by simp [maxLen]) rfl
            have h' := hY.ext (ext_alloc (ext_refl v1) (.cells #[] 3))
            go_wp2_with (at_builtin; refine wpList_append_ints rfl _ _ 23 rfl Try.underlying23 info_int _ v1.heap.size _ 0 Y _ _ rfl hE va nn vc Y rfl h' (by omega) (by simp) ?_; intro g' c' v2 hO1 hb1; rw [Nat.zero_add] at hO1 ⊢)
            have hO2 : OI v2 v1.heap.size v2.heap.size (.slice g' nn c') nn Y := hO1.congr (fun j _ => by simp [joinF])
            have E5 : Ext v1 v2 := Below.trans (ext_alloc (ext_refl _) _) hb1
            clear hO1 hE h' hb1
            obtain ⟨g, rfl, g1, g2, g3⟩ := hO2.head (by omega)
            have w3 := w2.ext E5
            have A0 := laws_at_f 0 (by omega) _ _ c0 _ _ w3 hbig
            have B0 := atF_in w3 0
            have A1 := fun (u : World) (E : Ext v2 u) => laws_at_f 1 (by omega) _ _ c0 _ _ (w3.ext E) hbig
            have B1 := atF_in w3 1
            generalize atF n0 X0 0 = x at A0 B0
            generalize atF n0 X0 1 = y at A1 B1
            obtain ⟨x1, x2⟩ := B0
            obtain ⟨y1, y2⟩ := B1
            obtain ⟨kk, hkk⟩ : ∃ kk : Nat, kk = (x % nn).toNat := ⟨_, rfl⟩
            have hk0 := Int.emod_nonneg x (show (nn : Int) ≠ 0 by omega)
            have hk1 := Int.emod_lt_of_pos x (show 0 < (nn : Int) by omega)
            have q0 : ((nn : Int) == 0) = false := by rw [beq_eq_false_iff_ne]; omega
            have q1 : (nn : Int) ≠ 0 := by omega
            have q2 : Int.tmod x nn = kk := by rw [Int.tmod_eq_emod_of_nonneg x1]; omega
            have q3 : kk < nn := by omega
            have q4 : (kk : Int) < nn := by omega
            clear hkk hk0 hk1
            obtain ⟨z, hz⟩ : ∃ z : Int, z = y % 9 := ⟨_, rfl⟩
            have z1 : 0 ≤ z := by omega
            have z2 : z ≤ 8 := by omega
            have q5 : Int.tmod y 9 = z := by rw [Int.tmod_eq_emod_of_nonneg y1]; omega
            have q6 : y % 9 = z := hz.symm
            clear hz
            have hYk := hYb kk q3
            obtain ⟨yk1, yk2⟩ := hYk
            have W1 : IntKind.i64.wrap (Y kk + 1) = Y kk + 1 := wrapI (by omega) (by omega)
            have W2 : IntKind.i64.wrap (Y kk + 1 + z) = Y kk + 1 + z := wrapI (by omega) (by omega)
            have o1 := hO2.cell q3
            have o2 := hO2.frozen kk
            have HU := Lib.hid (hO2.store kk (Y kk + 1 + z))
            have HRZ := Lib.hid hR2
            have HYZ := Lib.hid hY
            have HO := Lib.hid g1
            have HN := Lib.hid (show ∀ U : Nat → Int, U kk ≠ Y kk → isDetB m (fun _ => nn) Z = true → sameReadB m (fun _ => nn) Z nn nn Y U = false from fun U hU hd => by
              have := det_tells (n := m) (L := fun _ => nn) (X := Z) (V := Y) (U := U) q3 (fun e => hU e.symm)
              rw [hd] at this; simpa using this)
            clear hO2 hR2 hY
            go_wp2_with fail
            refine A0.mono ?_
            rintro e u ⟨rfl, hu⟩
            obtain rfl := hu.symm
            go_wp2
            go_still_tail 12, (by kernel_rfl)
            still_call (A1 _ (by first | exact ext_refl _ | exact ext_drew (ext_refl _)))
            repeat still_step
            try refine wpStill_nil ?_
            change wpList _ _ _ _ _ v2.drew
            go_wp2_with fail
            have E6 : Ext v1 (v2.setCell ⟨g, kk, none⟩ (.int .i64 (Y kk + 1 + z))).drew := ext_drew (ext_setCell E5 HO.out _)
            have H6 : Ext v2.drew (v2.drew) := ext_refl _
            obtain ⟨v3, hv3⟩ : ∃ v3, v3 = (v2.setCell ⟨g, kk, none⟩ (.int .i64 (Y kk + 1 + z))).drew := ⟨_, rfl⟩
            rw [← hv3] at E6 ⊢
            have hU3 : IntsAt v3 (some ⟨g, 0, none⟩) nn (fun j => if j = kk then Y kk + 1 + z else Y j) := by rw [hv3]; exact (HU.out.ext (ext_drew (ext_refl _))).reads
            clear hv3 H6 HU
            have HN1 := HN.out (fun j => if j = kk then Y kk + 1 + z else Y j) (by simp; omega)
            have HN2 := Lib.hid HN1
            clear HN1 HN
            have hT2 : off (fun _ => nn) m ≤ 1048576 := by rw [off_const]; have := Nat.mul_le_mul m2 k2; omega
            have hR3 := HRZ.out.ext E6
            have hY3 := HYZ.out.ext E6
            have EZ : Ext w v3 := ext_trans EW (ext_trans hx5 E6)
            refine (impl_IsDetermined _ _ _ _ _ _ _ _ hR3 (by omega) hT2).mono ?_
            cases hd : isDetB m (fun _ => nn) Z
            · rintro e v4 ⟨rfl, hx4⟩
              clear HN2 hd
              by_cases hz : detF n X = 0
              · have hz1 : (detF n X != 0) = false := by simp [hz]
                clear hz
                go_wp2_with fail
                refine (impl_IsDetermined _ 1 1 _ (fun _ => 1) (fun _ => 1) (fun _ _ => 1) _ (one_rows _) (by omega) (by decide)).mono ?_
                rw [one_det]
                rintro e v6 ⟨rfl, hx6⟩
                go_wp2_with fail
                refine (impl_SquareOk _ 0 0 (fun _ => none) (fun _ => 0) (fun _ => 0) (fun _ _ => 0) _ (zero_rows _ _) (by omega) (by decide)).mono ?_
                rw [zero_sq]
                rintro e v7 ⟨rfl, rfl⟩
                go_wp2_with fail
                go_ret
                exact ⟨rfl, ext_alloc (ext_trans (ext_alloc (ext_alloc (ext_trans EZ hx4) _) _) hx6) _⟩
              · have hz1 : (detF n X != 0) = true := by simp [hz]
                clear hz
                go_wp2_with fail
                refine (impl_IsDetermined _ 1 1 _ (fun _ => 1) (fun _ => 1) (fun _ _ => 1) _ (one_rows _) (by omega) (by decide)).mono ?_
                rw [one_det]
                rintro e v6 ⟨rfl, hx6⟩
                go_wp2_with fail
                go_ret
                exact ⟨rfl, ext_trans (ext_alloc (ext_alloc (ext_trans EZ hx4) _) _) hx6⟩
            · rintro e v4 ⟨rfl, hx4⟩
              have HN3 := Lib.hid (HN2.out hd)
              clear HN2 hd
              go_wp2_with fail
              refine (impl_SameReadings _ _ _ _ _ _ _ _ _ _ _ _ _ _ _ _ (hR3.ext hx4) (hY3.ext hx4) (hU3.ext hx4) (by omega) hT2 (by omega) (by omega)).mono ?_
              rw [HN3.out]
              rintro e v5 ⟨rfl, hx5'⟩
              by_cases hz : detF n X = 0
              · have hz1 : (detF n X != 0) = false := by simp [hz]
                clear hz
                go_wp2_with fail
                refine (impl_IsDetermined _ 1 1 _ (fun _ => 1) (fun _ => 1) (fun _ _ => 1) _ (one_rows _) (by omega) (by decide)).mono ?_
                rw [one_det]
                rintro e v6 ⟨rfl, hx6⟩
                go_wp2_with fail
                refine (impl_SquareOk _ 0 0 (fun _ => none) (fun _ => 0) (fun _ => 0) (fun _ _ => 0) _ (zero_rows _ _) (by omega) (by decide)).mono ?_
                rw [zero_sq]
                rintro e v7 ⟨rfl, rfl⟩
                go_wp2_with fail
                go_ret
                exact ⟨rfl, ext_alloc (ext_trans (ext_alloc (ext_alloc (ext_trans EZ (ext_trans hx4 hx5')) _) _) hx6) _⟩
              · have hz1 : (detF n X != 0) = true := by simp [hz]
                clear hz
                go_wp2_with fail
                refine (impl_IsDetermined _ 1 1 _ (fun _ => 1) (fun _ => 1) (fun _ _ => 1) _ (one_rows _) (by omega) (by decide)).mono ?_
                rw [one_det]
                rintro e v6 ⟨rfl, hx6⟩
                go_wp2_with fail
                go_ret
                exact ⟨rfl, ext_trans (ext_alloc (ext_alloc (ext_trans EZ (ext_trans hx4 hx5')) _) _) hx6⟩
  · have hb : decide (1048576 < n0) = true := by simp; omega
    go_enter Try.func6, Try.ntmps6
    go_wp2_with fail
    refine (laws_big _ _ _ _).mono ?_
    rw [hb]
    rintro e u ⟨rfl, rfl⟩
    go_wp2_with fail
    go_ret
    exact ⟨rfl, (by repeat (first | (with_reducible exact ext_refl _) | (with_reducible refine ext_setCell ?_ ?_ _) | (with_reducible refine ext_alloc ?_ _) | (with_reducible refine ext_drewN ?_ _) | (with_reducible refine ext_drew ?_) | (with_reducible refine ext_trans ?_ (by assumption)) | (dsimp only; omega) | omega | (simp; omega)))⟩

set_option maxRecDepth 100000 in
theorem lifted (os : Os) (started : os.Started) (H : Type) (enc : TypeId × Value → H) :
    ReturnsInHanded {} Try.checked os 6 .any (Rows.fnDeterminantsSpec.pre6 enc Try.prog Try.f6 Rows.fnDeterminantsRow.domain false) (Rows.fnDeterminantsSpec.post enc Try.prog Try.f6 false true false false) := by
  refine returnsInHanded_of_change (C := Try.checked) own started (by kernel_rfl) Try.func6
    (ChangeSpec.witness6 (enc := enc) (C := Try.checked) false ⟨#[], #[.slice none 0 0], []⟩ 8 (by kernel_rfl) (by kernel_rfl) (by kernel_rfl) (by kernel_rfl)) ?_
  intro W base args ds gs before hval0 hW hcnd _
  have hval : ∀ (j : Nat) t v, Try.f6.params[j]? = some t → args[j]? = some v → Value.okWide Try.prog W .any base t v := hval0
  have hW' := hW
  obtain ⟨p, q, hA0, hV, rfl, hfz, hnd⟩ := hW
  have hA : DataW.TrodAll enc Try.prog W 0 (fun _ => true) true Try.f6.params.toList args.toList ds p := hA0
  rw [Try.params6] at hA hval
  obtain ⟨v0, vs0, d0, ds0, p0, q0, hargs, rfl, rfl, h0, r0⟩ := trodAll_cons hA
  obtain ⟨rfl, rfl, rfl⟩ := trodAll_nil r0
  obtain rfl : args = #[v0] := by cases args; simp_all
  obtain ⟨rfl, rfl⟩ := trodVars_none hV
  have k0 := h0
  have lt0 : ∀ x ∈ p0, x.block < W.heap.size := by obtain ⟨m, hm⟩ := k0; exact DataW.trod_lt m _ _ _ hm
  obtain ⟨a0, n0, c0, rfl⟩ := okWide_slice Try.underlying38 (hval 0 38 v0 rfl rfl)
  obtain ⟨X0, w0, b0, e0⟩ := open_bytes_arg Try.underlying38 Try.underlying5 (by kernel_rfl) h0
  clear hA0 hval0
  refine (walk W a0 n0 c0 X0 w0 b0 e0).mono fun e W' ⟨he, bel⟩ => ?_
  subst he
  exact ⟨_, rfl, _, _, _, [], _, [], hW', trodAll_mk1 (shut_bool Try.underlying4 _), (trodAll_cons_mk (Below.trod laidOut (by kernel_rfl) (of_decide_eq_true (by kernel_rfl)) k0 bel lt0) trodAll_mk0), rfl, bel.frame _, fun h => by cases h⟩

theorem closed : joinedFacts Try.prog 6 Try.f6 Rows.fnDeterminantsSpec Rows.fnDeterminantsRow = true := by
  unfold joinedFacts
  rw [make_eq, liftsFinal_eq, mayEnter_eq]
  kernel_rfl

theorem over : Rows.fnDeterminantsRow.holds Try.pinned (OpenSpec.ofChange Rows.fnDeterminantsSpec) :=
  OpenClaim.holds_of_wide 6 Try.f6 rfl rfl rfl rfl rfl rfl rfl ⟨rfl, rfl, rfl, rfl, rfl⟩ rfl rfl rfl rfl rfl (by kernel_rfl) Try.func6 closed
    (of_decide_eq_true (by kernel_rfl)) (by unfold Func.isWrapper; first | (rw [if_pos (by decide +kernel)]; kernel_rfl) | (rw [if_neg (by decide +kernel)]; exact ⟨rfl, rfl⟩))
    (fun os started H enc _ => lifted os started H enc)

theorem proved : Rows.FnDeterminantsSaid := over
#print axioms proved
end Go.Proofs.Ytefgdkjcoeikmaa.fnDeterminants
