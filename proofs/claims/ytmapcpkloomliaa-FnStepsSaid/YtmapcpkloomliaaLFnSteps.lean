/- 'FnSteps' is proved: rounding loses at most half of a step, carried rounding never loses more in all, for all arguments. No condition. -/
import Derived.Test.YtmapcpkloomliaaRow
import Derived.Test.YtmapcpkloomliaaDraw2
import Derived.Test.YtmapcpkloomliaaList4
namespace Go.Proofs.Ytmapcpkloomliaa.fnSteps
open Go.ChangeShapes Go.WideShapes Go.ChangeAt Go.RowKit
set_option linter.unusedVariables false
set_option linter.unusedSimpArgs false

theorem round_near {x s : Int} (h1 : 1 ≤ s) (h2 : s ≤ 1000) (h3 : -1000000 ≤ x) (h4 : x ≤ 1000000) : roundI x s = nearI x s := by
  unfold roundI; rw [inB_true.2 ⟨h1, h2⟩, inB_true.2 ⟨h3, h4⟩]; rfl
set_option maxHeartbeats 6400000 in
set_option maxRecDepth 100000 in
theorem walk (w : World) (a0 : Option Addr) (n0 c0 : Nat) (X0 : Nat → Int) (w0 : BytesAt w a0 n0 X0) (b0 : n0 ≤ c0) (e0 : c0 ≤ maxLen) :
    Calls Try.prog 7 #[.slice a0 n0 c0] w fun e w' => e = .returned (.bool true) ∧ Ext w w' := by
  by_cases hbig : n0 ≤ 1048576
  · have hb : decide (1048576 < n0) = false := by simp; omega
    go_enter Try.func7, Try.ntmps7
    go_wp2_with fail
    refine (laws_big _ _ _ _).mono ?_
    rw [hb]
    rintro e u ⟨rfl, rfl⟩
    go_wp2_with fail
    refine (spec_DrawRounding _ _ _ _ _ w0 hbig).mono ?_
    rintro e u1 ⟨n, sa, sc, X, s, hn, hX, s1, s2, rfl, hI, hx⟩
    have hX' : ∀ i, i < n → -10000 ≤ X i ∧ X i ≤ 10000 := fun i hi => by have := hX i hi; omega
    have hOK : carryOk s n X = true := by
      unfold carryOk
      rw [inB_true.2 ⟨s1, by omega⟩, allB_iff.2 hX']; simp; omega
    have HC := Lib.hid (carry_ok s1 (by omega : s ≤ 1000) hX')
    go_wp2_with fail
    refine (impl_CarryRounding _ _ _ _ _ _ hI (by omega)).mono ?_
    rintro e u2 hq
    obtain ⟨p, q, rfl, hO, hx2⟩ := hq.1 hOK
    have hR0 : restF s X 0 = 0 := rfl
    have hss : roundI s s = s := by rw [round_near s1 (by omega) (by omega) (by omega), nearI_self s1]
    have hsum : sumR s X n = sumRI s X n := by unfold sumR; rw [if_pos (by omega)]
    have E2 : Ext w u2 := ext_trans hx hx2
    have HI := Lib.hid (hI.ext hx2)
    have HO := Lib.hid hO.reads
    clear hI hO hq
    go_wp2_with fail
    go_loopg [6, 7, 8, 9] n (fun gk a b sm i wr => ∃ (k : Nat) (A B : Int), k ≤ n ∧ gk = n - k ∧ a = .int .i64 A ∧ b = .int .i64 B ∧ sm = .int .i64 (sumRI s X k) ∧ i = .int .i64 k ∧ -50 * (k : Int) ≤ A ∧ A ≤ 50 * (k : Int) ∧ A - B = restF s X k ∧ wr = u2)
    · exact ⟨0, 0, 0, Nat.zero_le _, by omega, rfl, rfl, rfl, rfl, by omega, by omega, by omega, rfl⟩
    · obtain ⟨k, A, B, h1, h2, rfl, rfl, rfl, rfl, hA1, hA2, hAB, rfl⟩ := hrel
      rcases Nat.lt_or_ge k n with hlt | hge
      · obtain ⟨pb, po, rfl, hci⟩ := HI.out (by omega)
        obtain ⟨qb, qo, rfl, hco⟩ := HO.out (by omega)
        have ci := hci k hlt
        have co := hco k hlt
        clear hci hco
        have q1 : (k : Int) < n := by omega
        obtain ⟨r1, r2, r3'⟩ := HC.out k (by omega)
        obtain ⟨r4, r5, _⟩ := HC.out (k + 1) (by omega)
        have r3 := r3' hlt
        clear r3'
        have hx1 := hX k hlt
        have hR : restF s X (k + 1) = X k + restF s X k - carryF s X k := rfl
        have hr := round_near (x := X k) s1 (by omega) (by omega) (by omega)
        have hn1 := nearI_err (n := X k) s1
        have t1 : Int.tmod (roundI (X k) s) s = 0 := by rw [hr]; exact nearI_dvd
        have t2 : Int.tmod (carryF s X k) s = 0 := by rw [r3]; exact nearI_dvd
        have t3 : roundI (-X k) s = - roundI (X k) s := by rw [hr, round_near s1 (by omega) (by omega) (by omega), nearI_neg s1]
        have t4 : roundI (roundI (X k) s) s = roundI (X k) s := by rw [hr, round_near s1 (by omega) (by omega) (by omega), nearI_twice s1]
        have b1 : 2 * (roundI (X k) s - X k) ≤ s := by rw [hr]; omega
        have b2 : -s ≤ 2 * (roundI (X k) s - X k) := by rw [hr]; omega
        have b3 : 2 * ((A + X k) - (B + carryF s X k)) ≤ s := by omega
        have b4 : -s ≤ 2 * ((A + X k) - (B + carryF s X k)) := by omega
        have b5 : -1000 ≤ A ∧ A ≤ 1000 := by omega
        have b6 : -1000 ≤ B ∧ B ≤ 1000 := by omega
        have b7 : -1000 ≤ carryF s X k ∧ carryF s X k ≤ 1000 := by omega
        have b8 : -1000 ≤ roundI (X k) s ∧ roundI (X k) s ≤ 1000 := by omega
        have q3 : s ≠ 0 := by omega
        obtain ⟨x1, x2⟩ := hx1
        obtain ⟨b51, b52⟩ := b5
        obtain ⟨b61, b62⟩ := b6
        obtain ⟨b71, b72⟩ := b7
        obtain ⟨b81, b82⟩ := b8
        have HR1 := Lib.hid (show (A + X k) - (B + carryF s X k) = restF s X (k + 1) by omega)
        clear r1 r2 r3 r4 r5 hr hn1 hR hAB
        go_wp2_with fail
        refine (impl_RoundTo _ _ _).mono ?_
        rintro e u ⟨rfl, rfl⟩
        go_wp2_with fail
        refine (impl_RoundError _ _ _).mono ?_
        rintro e u ⟨rfl, rfl⟩
        go_wp2_with (first | (go_at_call 33; refine (impl_RoundTo _ _ _).mono ?_; rw [t3]; rintro e w' ⟨rfl, rfl⟩))
        all_goals
          refine (impl_RoundTwice _ _ _ _).mono ?_
          rw [t4]
          rintro e u ⟨rfl, rfl⟩
          go_wp2_with fail
          go_roundg (n - (k + 1))
          case measure => omega
          case rel => exact ⟨k + 1, _, _, by omega, rfl, rfl, rfl, rfl, by go_num, by omega, by omega, by have := HR1.out; omega, rfl⟩
      · obtain rfl : k = n := by omega
        go_wp2_with (first | (go_at_call 28; refine (impl_SumOfRounded _ _ _ _ _ _ HI.out (by omega)).mono ?_; rintro e w' ⟨rfl, rfl⟩) | (go_at_call 33; refine (impl_RoundTo _ _ _).mono ?_; rintro e w' ⟨rfl, rfl⟩))
        go_ret
        exact ⟨rfl, (by repeat (first | (with_reducible exact ext_refl _) | (with_reducible refine ext_setCell ?_ ?_ _) | (with_reducible refine ext_alloc ?_ _) | (with_reducible refine ext_drewN ?_ _) | (with_reducible refine ext_drew ?_) | (with_reducible refine ext_trans ?_ (by assumption)) | (dsimp only; omega) | omega | (simp; omega)))⟩
  · have hb : decide (1048576 < n0) = true := by simp; omega
    go_enter Try.func7, Try.ntmps7
    go_wp2_with fail
    refine (laws_big _ _ _ _).mono ?_
    rw [hb]
    rintro e u ⟨rfl, rfl⟩
    go_wp2_with fail
    go_ret
    exact ⟨rfl, (by repeat (first | (with_reducible exact ext_refl _) | (with_reducible refine ext_setCell ?_ ?_ _) | (with_reducible refine ext_alloc ?_ _) | (with_reducible refine ext_drewN ?_ _) | (with_reducible refine ext_drew ?_) | (with_reducible refine ext_trans ?_ (by assumption)) | (dsimp only; omega) | omega | (simp; omega)))⟩

set_option maxRecDepth 100000 in
theorem lifted (os : Os) (started : os.Started) (H : Type) (enc : TypeId × Value → H) :
    ReturnsInHanded {} Try.checked os 7 .any (Rows.fnStepsSpec.pre6 enc Try.prog Try.f7 Rows.fnStepsRow.domain false) (Rows.fnStepsSpec.post enc Try.prog Try.f7 false true false false) := by
  refine returnsInHanded_of_change (C := Try.checked) own started (by kernel_rfl) Try.func7
    (ChangeSpec.witness6 (enc := enc) (C := Try.checked) false ⟨#[], #[.slice none 0 0], []⟩ 8 (by kernel_rfl) (by kernel_rfl) (by kernel_rfl) (by kernel_rfl)) ?_
  intro W base args ds gs before hval0 hW hcnd _
  have hval : ∀ (j : Nat) t v, Try.f7.params[j]? = some t → args[j]? = some v → Value.okWide Try.prog W .any base t v := hval0
  have hW' := hW
  obtain ⟨p, q, hA0, hV, rfl, hfz, hnd⟩ := hW
  have hA : DataW.TrodAll enc Try.prog W 0 (fun _ => true) true Try.f7.params.toList args.toList ds p := hA0
  rw [Try.params7] at hA hval
  obtain ⟨v0, vs0, d0, ds0, p0, q0, hargs, rfl, rfl, h0, r0⟩ := trodAll_cons hA
  obtain ⟨rfl, rfl, rfl⟩ := trodAll_nil r0
  obtain rfl : args = #[v0] := by cases args; simp_all
  obtain ⟨rfl, rfl⟩ := trodVars_none hV
  have k0 := h0
  have lt0 : ∀ x ∈ p0, x.block < W.heap.size := by obtain ⟨m, hm⟩ := k0; exact DataW.trod_lt m _ _ _ hm
  obtain ⟨a0, n0, c0, rfl⟩ := okWide_slice Try.underlying28 (hval 0 28 v0 rfl rfl)
  obtain ⟨X0, w0, b0, e0⟩ := open_bytes_arg Try.underlying28 Try.underlying5 (by kernel_rfl) h0
  clear hA0 hval0
  refine (walk W a0 n0 c0 X0 w0 b0 e0).mono fun e W' ⟨he, bel⟩ => ?_
  subst he
  exact ⟨_, rfl, _, _, _, [], _, [], hW', trodAll_mk1 (shut_bool Try.underlying4 _), (trodAll_cons_mk (Below.trod laidOut (by kernel_rfl) (of_decide_eq_true (by kernel_rfl)) k0 bel lt0) trodAll_mk0), rfl, bel.frame _, fun h => by cases h⟩

theorem closed : joinedFacts Try.prog 7 Try.f7 Rows.fnStepsSpec Rows.fnStepsRow = true := by
  unfold joinedFacts
  rw [make_eq, liftsFinal_eq, mayEnter_eq]
  kernel_rfl

theorem over : Rows.fnStepsRow.holds Try.pinned (OpenSpec.ofChange Rows.fnStepsSpec) :=
  OpenClaim.holds_of_wide 7 Try.f7 rfl rfl rfl rfl rfl rfl rfl ⟨rfl, rfl, rfl, rfl, rfl⟩ rfl rfl rfl rfl rfl (by kernel_rfl) Try.func7 closed
    (of_decide_eq_true (by kernel_rfl)) (by unfold Func.isWrapper; first | (rw [if_pos (by decide +kernel)]; kernel_rfl) | (rw [if_neg (by decide +kernel)]; exact ⟨rfl, rfl⟩))
    (fun os started H enc _ => lifted os started H enc)

theorem proved : Rows.FnStepsSaid := over
#print axioms proved
end Go.Proofs.Ytmapcpkloomliaa.fnSteps
