/- 'FnDesigns' is proved: readings of a design follow from the values and its linked objects, for all arguments. No condition. -/
import Derived.Test.YtefgdkjcoeikmaaRow
import Derived.Test.YtefgdkjcoeikmaaAtC
import Derived.Test.YtefgdkjcoeikmaaPlainE
import Derived.Test.YtefgdkjcoeikmaaLink2
import Derived.Test.YtefgdkjcoeikmaaGrow2
namespace Go.Proofs.Ytefgdkjcoeikmaa.fnDesigns
open Go.ChangeShapes Go.WideShapes Go.ChangeAt Go.RowKit
set_option linter.unusedVariables false
set_option linter.unusedSimpArgs false

set_option maxHeartbeats 6400000 in
set_option maxRecDepth 100000 in
theorem walk (w : World) (a0 : Option Addr) (n0 c0 : Nat) (X0 : Nat → Int) (w0 : BytesAt w a0 n0 X0) (b0 : n0 ≤ c0) (e0 : c0 ≤ maxLen) :
    Calls Try.prog 7 #[.slice a0 n0 c0] w fun e w' => e = .returned (.bool true) ∧ Ext w w' := by
  by_cases hbig : n0 ≤ 1048576
  · have hb : decide (1048576 < n0) = false := by simp; omega
    go_enter Try.func7, Try.ntmps7
    go_wp2_with fail
    refine (laws_big _ _ _ _).mono ?_
    rw [hb]
    rintro e u ⟨rfl, rfl⟩
    go_wp2_with fail
    refine (spec_DrawDesign _ _ _ _ _ w0 hbig).mono ?_
    rintro e v1 ⟨n, m, ra, rc, A, C, X, va, vc, Y, n1, n2, m1, m2, rfl, hR, hX, hY, hYb, hx1⟩
    have hT : off (fun _ => n) m ≤ 1048576 := by rw [off_const]; have := Nat.mul_le_mul m2 n2; omega
    have HD := Lib.hid (show designOkB m (fun _ => n) X = true from design_iff.2 ⟨⟨m1, by omega⟩, ⟨n1, n2⟩, fun i hi => ⟨rfl, fun j hj => hX i hi j hj⟩⟩)
    have HV := Lib.hid (read_fits HD.out (V := Y) (fun i hi => by have := hYb i hi; omega))
    have HR := Lib.hid hR
    have HY := Lib.hid hY
    have HYb := Lib.hid hYb
    have hE := OI.lit v1 [] (fun i => Y i + 5) 0 (by simp [maxLen]) rfl
    obtain ⟨vb, vo, rfl, hvc⟩ := hY (by omega)
    have HVC := Lib.hid hvc
    clear hR hX hY hYb hvc
    go_wp2_with fail
    go_loopg [5, 6] n (fun g s i wr => ∃ (k : Nat) (q : Option Addr) (cc : Nat), k ≤ n ∧ g = n - k ∧ s = .slice q k cc ∧ i = .int .i64 k ∧ OI wr v1.heap.size wr.heap.size (.slice q k cc) k (fun i => Y i + 5) ∧ Ext v1 wr)
    case atStart => exact ⟨0, _, _, Nat.zero_le _, rfl, rfl, rfl, hE.now, ext_alloc (ext_refl _) _⟩
    case round =>
      clear hE
      obtain ⟨k, q, cc, hk, rfl, rfl, rfl, hI, hx⟩ := hrel
      have hsz := ext_size hx
      rcases Nat.lt_or_ge k n with hlt | hge
      · have hlt' : (k : Int) < (n : Int) := by omega
        have d1 := ext_cell hx (HVC.out k hlt)
        obtain ⟨t1, t2⟩ := HYb.out k hlt
        have W1 : IntKind.i64.wrap (Y k + 5) = Y k + 5 := wrapI (by omega) (by omega)
        go_wp2_with (at_builtin; refine wpList_push_int rfl _ _ 23 rfl Try.underlying23 info_int _ v1.heap.size k (fun i => Y i + 5) (Y k + 5) _ _ _ rfl (hI.ext (ext_alloc (ext_refl _) _)) ⟨wr.heap.size, 0, none⟩ 1 rfl (cell_new1 _ _ _) rfl (by omega) (by simp; omega) ?_; intro g' c' w4 hO4 hb4)
        go_roundg (n - (k + 1))
        case measure => omega
        case rel => exact ⟨k + 1, some ⟨g', 0, none⟩, c', by omega, rfl, rfl, by go_num, hO4, Below.trans (ext_alloc hx _) hb4⟩
      · obtain rfl : n = k := by omega
        obtain ⟨v2, rfl⟩ : ∃ v2 : World, v2 = wr := ⟨_, rfl⟩
        have hR2 := HR.out.ext hx
        go_wp2_with fail
        refine (impl_GramOf _ _ _ _ _ _ _ _ hR2 (by omega) hT).mono ?_
        rintro e v3 hp
        obtain ⟨ga, gc, B, D, rfl, hO, hx3⟩ := hp.1 HD.out
        clear hp
        have hR3 := hR2.ext hx3
        go_wp2_with fail
        refine (impl_DesignOk _ _ _ _ _ _ _ _ hR3 (by omega) hT).mono ?_
        rw [HD.out]
        rintro e u ⟨rfl, hu⟩
        obtain rfl := hu
        have HB := Lib.hid hO.rows
        obtain ⟨gb, go_, rfl, hgc⟩ := HB.out.top (by omega)
        have HGC := Lib.hid hgc
        have HM := Lib.hid hI
        clear hO hgc hI hR2 hR3
        go_wp2_with fail
        go_loopg [8] n (fun g s wr => ∃ i : Nat, i ≤ n ∧ g = n - i ∧ s = .int .i64 i ∧ Ext v3 wr)
        case atStart => exact ⟨0, Nat.zero_le _, rfl, rfl, ext_refl _⟩
        case round =>
          obtain ⟨i, hi, rfl, rfl, hxo⟩ := hrel
          obtain ⟨wo, rfl⟩ : ∃ wo : World, wo = wr := ⟨_, rfl⟩
          rcases Nat.lt_or_ge i n with ilt | ige
          · have i1 : (i : Int) < n := by omega
            go_wp2_with fail
            go_loopg [9] n (fun g s wr => ∃ k : Nat, k ≤ n ∧ g = n - k ∧ s = .int .i64 k ∧ Ext wo wr)
            case atStart => exact ⟨0, Nat.zero_le _, rfl, rfl, ext_refl _⟩
            case round =>
              obtain ⟨k, hk, rfl, rfl, hxi⟩ := hrel
              have E := ext_trans hxo hxi
              rcases Nat.lt_or_ge k n with klt | kge
              · have k1 : (k : Int) < n := by omega
                have c1 := ext_cell E (HGC.out i ilt)
                have c2 := ext_cell E (HGC.out k klt)
                have R1 := (HB.out.row i ilt).ext E
                have R2 := (HB.out.row k klt).ext E
                generalize B i = bi at c1 R1
                generalize B k = bk at c2 R2
                obtain ⟨b1, o1, rfl, d1⟩ := R1.at_ klt
                obtain ⟨b2, o2, rfl, d2⟩ := R2.at_ ilt
                rw [gram_symm m X k i] at d2
                clear R1 R2
                go_wp2
                go_quiet (fail)
                go_wp2
                go_roundg (n - (k + 1))
                case measure => omega
                case rel => exact ⟨k + 1, by omega, rfl, by go_num, ext_drewN hxi _⟩
              · obtain rfl : n = k := by omega
                have c1 := ext_cell E (HGC.out i ilt)
                have R1 := (HB.out.row i ilt).ext E
                generalize B i = bi at c1 R1
                obtain ⟨b1, o1, rfl, d1⟩ := R1.at_ ilt
                obtain ⟨t1, t2⟩ := gram_diag HD.out (i := i) ilt
                clear R1
                go_wp2_with fail
                go_roundg (n - (i + 1))
                case measure => omega
                case rel => exact ⟨i + 1, by omega, rfl, by go_num, E⟩
          · obtain rfl : n = i := by omega
            have E2 : Ext v1 wo := ext_trans hx (ext_trans hx3 hxo)
            have hR4 := HR.out.ext E2
            have hY4 := HY.out.ext E2
            have hM4 := HM.out.reads.ext (ext_trans hx3 hxo)
            have EW := ext_trans hx1 E2
            have HU := Lib.hid (read_fits HD.out (V := fun i => Y i + 5) (fun i hi => by have := HYb.out i hi; show -1000 ≤ Y i + 5 ∧ Y i + 5 ≤ 1000; omega))
            go_wp2_with fail
            refine (impl_IsDifferential _ _ _ _ _ _ _ _ hR4 (by omega) hT).mono ?_
            cases hd : diffOkB m (fun _ => n) X
            · clear hd
              rintro e u ⟨rfl, hu⟩
              obtain rfl := hu
              go_wp2_with fail
              refine (impl_CountLinked _ _ _ _ _ _ _ _ hR4 (by omega) hT).mono ?_
              rintro e v5 ⟨z, hz, rfl, hx5⟩
              obtain ⟨z1, z2⟩ := hz.range HD.out n1
              clear hz
              go_wp2_with fail
              refine (impl_SameReadings _ _ _ _ _ _ _ _ _ _ _ _ _ _ _ _ (hR4.ext hx5) (hY4.ext hx5) (hY4.ext hx5) (by omega) hT (by omega) (by omega)).mono ?_
              rw [same_refl HV.out]
              rintro e v6 ⟨rfl, hx6⟩
              go_wp2_with fail
              refine (impl_ReadDesign _ _ _ _ _ _ _ _ _ _ _ _ ((hR4.ext hx5).ext hx6) ((hY4.ext hx5).ext hx6) (by omega) hT (by omega)).mono ?_
              rintro e v7 hp
              obtain ⟨pa, pc, rfl, hI7, hx7⟩ := hp.1 HV.out
              clear hp hI7
              go_wp2_with fail
              go_ret
              exact ⟨rfl, ext_trans EW (ext_trans hx5 (ext_trans hx6 hx7))⟩
            · have HS := Lib.hid (diff_same hd HV.out HU.out (fun _ _ => rfl))
              have HN := Lib.hid (diff_sing hd)
              clear hd
              rintro e u ⟨rfl, hu⟩
              obtain rfl := hu
              go_wp2_with fail
              refine (impl_CountLinked _ _ _ _ _ _ _ _ hR4 (by omega) hT).mono ?_
              rintro e v5 ⟨z, hz, rfl, hx5⟩
              obtain ⟨z1, z2⟩ := hz.range HD.out n1
              clear hz
              go_wp2_with fail
              refine (impl_SameReadings _ _ _ _ _ _ _ _ _ _ _ _ _ _ _ _ (hR4.ext hx5) (hY4.ext hx5) (hY4.ext hx5) (by omega) hT (by omega) (by omega)).mono ?_
              rw [same_refl HV.out]
              rintro e v6 ⟨rfl, hx6⟩
              have E6 := ext_trans hx5 hx6
              go_wp2_with fail
              refine (impl_SameReadings _ _ _ _ _ _ _ _ _ _ _ _ _ _ _ _ (hR4.ext E6) (hY4.ext E6) (hM4.ext E6) (by omega) hT (by omega) (by omega)).mono ?_
              rw [HS.out]
              rintro e v7 ⟨rfl, hx7⟩
              have E7 := ext_trans E6 hx7
              go_wp2_with fail
              refine (impl_IsDetermined _ _ _ _ _ _ _ _ (hR4.ext E7) (by omega) hT).mono ?_
              rw [HN.out]
              rintro e v8 ⟨rfl, hx8⟩
              have E8 := ext_trans E7 hx8
              go_wp2_with fail
              refine (impl_ReadDesign _ _ _ _ _ _ _ _ _ _ _ _ (hR4.ext E8) (hY4.ext E8) (by omega) hT (by omega)).mono ?_
              rintro e v9 hp
              obtain ⟨pa, pc, rfl, hI9, hx9⟩ := hp.1 HV.out
              clear hp hI9
              go_wp2_with fail
              go_ret
              exact ⟨rfl, ext_trans EW (ext_trans E8 hx9)⟩
  · have hb : decide (1048576 < n0) = true := by simp; omega
    go_enter Try.func7, Try.ntmps7
    go_wp2_with fail
    refine (laws_big _ _ _ _).mono ?_
    rw [hb]
    rintro e u ⟨rfl, rfl⟩
    go_wp2_with fail
    go_ret
    exact ⟨rfl, (by repeat (first | (with_reducible exact ext_refl _) | (with_reducible refine ext_setCell ?_ ?_ _) | (with_reducible refine ext_alloc ?_ _) | (with_reducible refine ext_drewN ?_ _) | (with_reducible refine ext_drew ?_) | (with_reducible refine ext_trans ?_ (by assumption)) | (dsimp only; omega) | omega | (simp; omega)))⟩

set_option maxRecDepth 100000 in
theorem lifted (os : Os) (started : os.Started) (H : Type) (enc : TypeId × Value → H) :
    ReturnsInHanded {} Try.checked os 7 .any (Rows.fnDesignsSpec.pre6 enc Try.prog Try.f7 Rows.fnDesignsRow.domain false) (Rows.fnDesignsSpec.post enc Try.prog Try.f7 false true false false) := by
  refine returnsInHanded_of_change (C := Try.checked) own started (by kernel_rfl) Try.func7
    (ChangeSpec.witness6 (enc := enc) (C := Try.checked) false ⟨#[], #[.slice none 0 0], []⟩ 8 (by kernel_rfl) (by kernel_rfl) (by kernel_rfl) (by kernel_rfl)) ?_
  intro W base args ds gs before hval0 hW hcnd _
  have hval : ∀ (j : Nat) t v, Try.f7.params[j]? = some t → args[j]? = some v → Value.okWide Try.prog W .any base t v := hval0
  have hW' := hW
  obtain ⟨p, q, hA0, hV, rfl, hfz, hnd⟩ := hW
  have hA : DataW.TrodAll enc Try.prog W 0 (fun _ => true) true Try.f7.params.toList args.toList ds p := hA0
  rw [Try.params7] at hA hval
  obtain ⟨v0, vs0, d0, ds0, p0, q0, hargs, rfl, rfl, h0, r0⟩ := trodAll_cons hA
  obtain ⟨rfl, rfl, rfl⟩ := trodAll_nil r0
  obtain rfl : args = #[v0] := by cases args; simp_all
  obtain ⟨rfl, rfl⟩ := trodVars_none hV
  have k0 := h0
  have lt0 : ∀ x ∈ p0, x.block < W.heap.size := by obtain ⟨m, hm⟩ := k0; exact DataW.trod_lt m _ _ _ hm
  obtain ⟨a0, n0, c0, rfl⟩ := okWide_slice Try.underlying38 (hval 0 38 v0 rfl rfl)
  obtain ⟨X0, w0, b0, e0⟩ := open_bytes_arg Try.underlying38 Try.underlying5 (by kernel_rfl) h0
  clear hA0 hval0
  refine (walk W a0 n0 c0 X0 w0 b0 e0).mono fun e W' ⟨he, bel⟩ => ?_
  subst he
  exact ⟨_, rfl, _, _, _, [], _, [], hW', trodAll_mk1 (shut_bool Try.underlying4 _), (trodAll_cons_mk (Below.trod laidOut (by kernel_rfl) (of_decide_eq_true (by kernel_rfl)) k0 bel lt0) trodAll_mk0), rfl, bel.frame _, fun h => by cases h⟩

theorem closed : joinedFacts Try.prog 7 Try.f7 Rows.fnDesignsSpec Rows.fnDesignsRow = true := by
  unfold joinedFacts
  rw [make_eq, liftsFinal_eq, mayEnter_eq]
  kernel_rfl

theorem over : Rows.fnDesignsRow.holds Try.pinned (OpenSpec.ofChange Rows.fnDesignsSpec) :=
  OpenClaim.holds_of_wide 7 Try.f7 rfl rfl rfl rfl rfl rfl rfl ⟨rfl, rfl, rfl, rfl, rfl⟩ rfl rfl rfl rfl rfl (by kernel_rfl) Try.func7 closed
    (of_decide_eq_true (by kernel_rfl)) (by unfold Func.isWrapper; first | (rw [if_pos (by decide +kernel)]; kernel_rfl) | (rw [if_neg (by decide +kernel)]; exact ⟨rfl, rfl⟩))
    (fun os started H enc _ => lifted os started H enc)

theorem proved : Rows.FnDesignsSaid := over
#print axioms proved
end Go.Proofs.Ytefgdkjcoeikmaa.fnDesigns
