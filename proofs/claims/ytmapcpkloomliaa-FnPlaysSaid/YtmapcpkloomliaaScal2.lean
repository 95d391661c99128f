/- The contracts of clamping, play's step, rounding to steps, and squares modulo a prime. -/
import Derived.Test.YtmapcpkloomliaaScal
import Derived.Test.YtmapcpkloomliaaWords
namespace Go.Proofs.Ytmapcpkloomliaa
open Go.ChangeShapes Go.WideShapes Go.ChangeAt Go.RowKit

/-! ### play -/
theorem impl_Clamp (x lo hi : Int) (h : lo ≤ hi) (w : World) :
    Calls Try.prog 75 #[.int .i64 x, .int .i64 lo, .int .i64 hi] w fun e w' => e = .returned (.int .i64 (clampI x lo hi)) ∧ w = w' := by
  have h0 : ¬ hi < lo := by omega
  by_cases h1 : x < lo
  · go_enter Try.func75, Try.ntmps75
    go_wp2
    go_ret
    exact ⟨by simp [clampI, h1], rfl⟩
  · by_cases h2 : hi < x
    all_goals
      go_enter Try.func75, Try.ntmps75
      go_wp2
      go_ret
      exact ⟨ret_int (by unfold clampI; rw [if_neg (by omega)]; first | rw [if_pos (by omega)] | rw [if_neg (by omega)]), rfl⟩
theorem impl_PlayStep (d s i : Int) (w : World) :
    Calls Try.prog 50 #[.int .i64 d, .int .i64 s, .int .i64 i] w fun e w' => e = .returned (.int .i64 (playStepI d s i)) ∧ w = w' := by
  cases h1 : inB d 0 100
  · go_enter Try.func50, Try.ntmps50
    go_wp2_with (go_at_call 62; refine (impl_in _ _ _ _).mono ?_; rintro e w' ⟨rfl, rfl⟩)
    go_ret
    exact ⟨by simp [playStepI, h1], rfl⟩
  · cases h2 : inB s (-20000) 20000
    · go_enter Try.func50, Try.ntmps50
      go_wp2_with (go_at_call 62; refine (impl_in _ _ _ _).mono ?_; rintro e w' ⟨rfl, rfl⟩)
      go_ret
      exact ⟨by simp [playStepI, h1, h2], rfl⟩
    · cases h3 : inB i (-20000) 20000
      · go_enter Try.func50, Try.ntmps50
        go_wp2_with (go_at_call 62; refine (impl_in _ _ _ _).mono ?_; rintro e w' ⟨rfl, rfl⟩)
        go_ret
        exact ⟨by simp [playStepI, h1, h2, h3], rfl⟩
      · obtain ⟨a1, a2⟩ := inB_true.1 h1
        obtain ⟨a3, a4⟩ := inB_true.1 h3
        go_enter Try.func50, Try.ntmps50
        go_wp2_with (first
          | (go_at_call 62; refine (impl_in _ _ _ _).mono ?_; rintro e w' ⟨rfl, rfl⟩)
          | (go_at_call 75; refine (impl_Clamp _ _ _ (by omega) _).mono ?_; rintro e w' ⟨rfl, rfl⟩))
        go_ret
        exact ⟨by simp [playStepI, h1, h2, h3], rfl⟩
theorem spec_PlayStep (d s i : Int) (w : World) :
    Calls Try.prog 67 #[.int .i64 d, .int .i64 s, .int .i64 i] w fun e w' => e = .returned (.int .i64 (playStepI d s i)) ∧ w = w' := by
  cases h1 : inB d 0 100
  · go_enter Try.func67, Try.ntmps67
    go_wp2_with (go_at_call 60; refine (spec_in _ _ _ _).mono ?_; rintro e w' ⟨rfl, rfl⟩)
    go_ret
    exact ⟨by simp [playStepI, h1], rfl⟩
  · cases h2 : inB s (-20000) 20000
    · go_enter Try.func67, Try.ntmps67
      go_wp2_with (go_at_call 60; refine (spec_in _ _ _ _).mono ?_; rintro e w' ⟨rfl, rfl⟩)
      go_ret
      exact ⟨by simp [playStepI, h1, h2], rfl⟩
    · cases h3 : inB i (-20000) 20000
      · go_enter Try.func67, Try.ntmps67
        go_wp2_with (go_at_call 60; refine (spec_in _ _ _ _).mono ?_; rintro e w' ⟨rfl, rfl⟩)
        go_ret
        exact ⟨by simp [playStepI, h1, h2, h3], rfl⟩
      · obtain ⟨a1, a2⟩ := inB_true.1 h1
        obtain ⟨a3, a4⟩ := inB_true.1 h3
        go_enter Try.func67, Try.ntmps67
        go_wp2_with (go_at_call 60; refine (spec_in _ _ _ _).mono ?_; rintro e w' ⟨rfl, rfl⟩)
        all_goals
          go_ret
          exact ⟨ret_int (by simp only [playStepI, h1, h2, h3, Bool.and_self, if_true, clampI]; grind), rfl⟩

/-! ### steps -/
theorem near_facts {n s : Int} (h1 : 1 ≤ s) (h2 : s ≤ 1000) (h3 : -1000000 ≤ n) (h4 : n ≤ 1000000) :
    -1001000 ≤ n.tdiv s ∧ n.tdiv s ≤ 1000000 ∧ -1001000 ≤ lowK n s * s ∧ lowK n s * s ≤ 1000000 ∧ 0 ≤ n - lowK n s * s ∧ n - lowK n s * s < s ∧
    (lowK n s + 1) * s = lowK n s * s + s ∧ -1001000 ≤ lowK n s ∧ lowK n s ≤ 1000000 ∧ -1000 < n.tmod s ∧ n.tmod s < 1000 := by
  have e := lowK_eq (n := n) h1
  have d := Int.mul_ediv_add_emod n s
  have m1 := Int.emod_nonneg n (show s ≠ 0 by omega)
  have m2 := Int.emod_lt_of_pos n (show 0 < s by omega)
  have t1 := Int.tmod_lt_of_pos n (show 0 < s by omega)
  have t2 : -s < n.tmod s := by
    have := Int.tmod_lt_of_pos (-n) (show 0 < s by omega)
    rw [Int.neg_tmod] at this; omega
  have c : lowK n s * s = s * (n / s) := by rw [e, Int.mul_comm]
  have k1 : -1001000 ≤ n / s ∧ n / s ≤ 1000000 := by
    have p1 : ∀ x : Int, 1 ≤ x → x ≤ s * x := fun x hx => by
      have := Int.mul_le_mul_of_nonneg_right h1 (show 0 ≤ x by omega); omega
    have p2 : ∀ x : Int, x ≤ -1 → s * x ≤ x := fun x hx => by
      have := Int.mul_nonneg (show 0 ≤ s - 1 by omega) (show 0 ≤ -x by omega)
      grind
    constructor
    · rcases Int.lt_or_le (n / s) 0 with h | h
      · have := p2 (n / s) (by omega); omega
      · omega
    · rcases Int.lt_or_le 0 (n / s) with h | h
      · have := p1 (n / s) (by omega); omega
      · omega
  have k2 : n.tdiv s = n / s ∨ n.tdiv s = n / s + 1 := by
    unfold lowK at e; split at e <;> omega
  have k3 : n.tdiv s = n / s + 1 → n / s ≤ -1 := by
    intro hh
    unfold lowK at e
    split at e
    · rename_i hm
      rcases Int.lt_or_le n 0 with h | h
      · rcases Int.lt_or_le (n / s) 0 with h' | h'
        · omega
        · have := Int.mul_nonneg (show 0 ≤ s by omega) h'; omega
      · have := Int.tmod_nonneg s h; omega
    · omega
  refine ⟨by omega, by omega, by omega, by omega, by omega, by omega, by grind, by omega, by omega, by omega, by omega⟩

theorem upK_yes1 {n s k : Int} (h : s < 2 * (n - k * s)) : upK n s k = k + 1 := by unfold upK; rw [if_pos h]
theorem upK_yes2 {n s k : Int} (h1 : ¬ s < 2 * (n - k * s)) (h2 : 2 * (n - k * s) = s) (h3 : k.tmod 2 ≠ 0) : upK n s k = k + 1 := by unfold upK; rw [if_neg h1, if_pos ⟨h2, h3⟩]
theorem upK_no1 {n s k : Int} (h1 : ¬ s < 2 * (n - k * s)) (h2 : ¬ 2 * (n - k * s) = s) : upK n s k = k := by unfold upK; rw [if_neg h1, if_neg (fun h => h2 h.1)]
theorem upK_no2 {n s k : Int} (h1 : ¬ s < 2 * (n - k * s)) (h3 : ¬ k.tmod 2 ≠ 0) : upK n s k = k := by unfold upK; rw [if_neg h1, if_neg (fun h => h3 h.2)]

set_option maxHeartbeats 800000 in
theorem impl_nearest (n s : Int) (w : World) (h1 : 1 ≤ s) (h2 : s ≤ 1000) (h3 : -1000000 ≤ n) (h4 : n ≤ 1000000) :
    Calls Try.prog 70 #[.int .i64 n, .int .i64 s] w fun e w' => e = .returned (.int .i64 (nearI n s)) ∧ w = w' := by
  obtain ⟨q1, q2, f1, f2, f3, f4, f5, f6, f7, g1, g2⟩ := near_facts h1 h2 h3 h4
  have HN : Hid (nearI n s = upK n s (lowK n s) * s) := rfl
  by_cases hm : n.tmod s < 0
  · have hk : lowK n s = (n.tdiv s - 1) := by unfold lowK; rw [if_pos hm]
    have HK := Lib.hid hk
    rw [hk] at f1 f2 f3 f4 f5 f6 f7
    clear hk
    have c1 : -1001000 ≤ (n.tdiv s - 1 + 1) * s := by omega
    have c2 : (n.tdiv s - 1 + 1) * s ≤ 1001000 := by omega
    have c3 : -1001000 ≤ n.tdiv s * s := by rw [show n.tdiv s = n.tdiv s - 1 + 1 by omega]; omega
    have c4 : n.tdiv s * s ≤ 1001000 := by rw [show n.tdiv s = n.tdiv s - 1 + 1 by omega]; omega
    clear f5
    by_cases t1 : s < 2 * (n - (n.tdiv s - 1) * s)
    · have HU := Lib.hid (upK_yes1 t1)
      go_enter Try.func70, Try.ntmps70
      go_wp2
      go_ret
      exact ⟨ret_int (by rw [HN.out, HK.out, HU.out]; try (congr 1; omega)), rfl⟩
    · by_cases t2 : 2 * (n - (n.tdiv s - 1) * s) = s
      · have e2 : ((2 * (n - (n.tdiv s - 1) * s)) == s) = true := by rw [t2]; simp
        by_cases t3 : ((n.tdiv s - 1)).tmod 2 ≠ 0
        · have HU := Lib.hid (upK_yes2 t1 t2 t3)
          have e3 : (((n.tdiv s - 1)).tmod 2 != 0) = true := by simpa using t3
          clear t2 t3
          go_enter Try.func70, Try.ntmps70
          go_wp2
          go_ret
          exact ⟨ret_int (by rw [HN.out, HK.out, HU.out]; try (congr 1; omega)), rfl⟩
        · have HU := Lib.hid (upK_no2 t1 t3)
          have e3 : (((n.tdiv s - 1)).tmod 2 != 0) = false := by simpa using t3
          clear t2 t3
          go_enter Try.func70, Try.ntmps70
          go_wp2
          go_ret
          exact ⟨ret_int (by rw [HN.out, HK.out, HU.out]), rfl⟩
      · have HU := Lib.hid (upK_no1 t1 t2)
        have e2 : ((2 * (n - (n.tdiv s - 1) * s)) == s) = false := by simpa using t2
        clear t2
        go_enter Try.func70, Try.ntmps70
        go_wp2
        go_ret
        exact ⟨ret_int (by rw [HN.out, HK.out, HU.out]), rfl⟩
  · have hk : lowK n s = n.tdiv s := by unfold lowK; rw [if_neg hm]
    have HK := Lib.hid hk
    rw [hk] at f1 f2 f3 f4 f5 f6 f7
    clear hk
    have c1 : -1001000 ≤ (n.tdiv s + 1) * s := by omega
    have c2 : (n.tdiv s + 1) * s ≤ 1001000 := by omega
    clear f5
    by_cases t1 : s < 2 * (n - n.tdiv s * s)
    · have HU := Lib.hid (upK_yes1 t1)
      go_enter Try.func70, Try.ntmps70
      go_wp2
      go_ret
      exact ⟨ret_int (by rw [HN.out, HK.out, HU.out]; try (congr 1; omega)), rfl⟩
    · by_cases t2 : 2 * (n - n.tdiv s * s) = s
      · have e2 : ((2 * (n - n.tdiv s * s)) == s) = true := by rw [t2]; simp
        by_cases t3 : (n.tdiv s).tmod 2 ≠ 0
        · have HU := Lib.hid (upK_yes2 t1 t2 t3)
          have e3 : ((n.tdiv s).tmod 2 != 0) = true := by simpa using t3
          clear t2 t3
          go_enter Try.func70, Try.ntmps70
          go_wp2
          go_ret
          exact ⟨ret_int (by rw [HN.out, HK.out, HU.out]; try (congr 1; omega)), rfl⟩
        · have HU := Lib.hid (upK_no2 t1 t3)
          have e3 : ((n.tdiv s).tmod 2 != 0) = false := by simpa using t3
          clear t2 t3
          go_enter Try.func70, Try.ntmps70
          go_wp2
          go_ret
          exact ⟨ret_int (by rw [HN.out, HK.out, HU.out]), rfl⟩
      · have HU := Lib.hid (upK_no1 t1 t2)
        have e2 : ((2 * (n - n.tdiv s * s)) == s) = false := by simpa using t2
        clear t2
        go_enter Try.func70, Try.ntmps70
        go_wp2
        go_ret
        exact ⟨ret_int (by rw [HN.out, HK.out, HU.out]), rfl⟩

theorem round_bound {n s : Int} (h : inB s 1 1000 = true) (h' : inB n (-1000000) 1000000 = true) : -1000500 ≤ roundI n s ∧ roundI n s ≤ 1000500 ∧ -1000 ≤ roundI n s - n ∧ roundI n s - n ≤ 1000 := by
  obtain ⟨a, b⟩ := inB_true.1 h
  obtain ⟨c, d⟩ := inB_true.1 h'
  have := nearI_err (n := n) a
  unfold roundI; rw [h, h']; simp only [Bool.and_self, if_true]; omega
theorem impl_RoundTo (n s : Int) (w : World) :
    Calls Try.prog 33 #[.int .i64 n, .int .i64 s] w fun e w' => e = .returned (.int .i64 (roundI n s)) ∧ w = w' := by
  cases h1 : inB s 1 1000
  · go_enter Try.func33, Try.ntmps33
    go_wp2_with (go_at_call 62; refine (impl_in _ _ _ _).mono ?_; rintro e w' ⟨rfl, rfl⟩)
    go_ret
    exact ⟨by simp [roundI, h1], rfl⟩
  · cases h2 : inB n (-1000000) 1000000
    · go_enter Try.func33, Try.ntmps33
      go_wp2_with (go_at_call 62; refine (impl_in _ _ _ _).mono ?_; rintro e w' ⟨rfl, rfl⟩)
      go_ret
      exact ⟨by simp [roundI, h1, h2], rfl⟩
    · obtain ⟨a, b⟩ := inB_true.1 h1
      obtain ⟨c, d⟩ := inB_true.1 h2
      go_enter Try.func33, Try.ntmps33
      go_wp2_with (first
        | (go_at_call 62; refine (impl_in _ _ _ _).mono ?_; rintro e w' ⟨rfl, rfl⟩)
        | (go_at_call 70; refine (impl_nearest _ _ _ a b c d).mono ?_; rintro e w' ⟨rfl, rfl⟩))
      go_ret
      exact ⟨by simp [roundI, h1, h2], rfl⟩
set_option maxHeartbeats 1600000 in
theorem spec_RoundTo (n s : Int) (w : World) :
    Calls Try.prog 65 #[.int .i64 n, .int .i64 s] w fun e w' => e = .returned (.int .i64 (roundI n s)) ∧ w = w' := by
  cases r1 : inB s 1 1000
  · go_enter Try.func65, Try.ntmps65
    go_wp2_with (go_at_call 60; refine (spec_in _ _ _ _).mono ?_; rintro e w' ⟨rfl, rfl⟩)
    go_ret
    exact ⟨by simp [roundI, r1], rfl⟩
  · cases r2 : inB n (-1000000) 1000000
    · go_enter Try.func65, Try.ntmps65
      go_wp2_with (go_at_call 60; refine (spec_in _ _ _ _).mono ?_; rintro e w' ⟨rfl, rfl⟩)
      go_ret
      exact ⟨by simp [roundI, r1, r2], rfl⟩
    · obtain ⟨h1, h2⟩ := inB_true.1 r1
      obtain ⟨h3, h4⟩ := inB_true.1 r2
      obtain ⟨q1, q2, f1, f2, f3, f4, f5, f6, f7, g1, g2⟩ := near_facts h1 h2 h3 h4
      have HN : Hid (roundI n s = upK n s (lowK n s) * s) := by unfold roundI; rw [r1, r2]; rfl
      by_cases hm : n.tmod s < 0
      · have hk : lowK n s = (n.tdiv s - 1) := by unfold lowK; rw [if_pos hm]
        have HK := Lib.hid hk
        rw [hk] at f1 f2 f3 f4 f5 f6 f7
        clear hk
        have c1 : -1001000 ≤ (n.tdiv s - 1 + 1) * s := by omega
        have c2 : (n.tdiv s - 1 + 1) * s ≤ 1001000 := by omega
        have c3 : -1001000 ≤ n.tdiv s * s := by rw [show n.tdiv s = n.tdiv s - 1 + 1 by omega]; omega
        have c4 : n.tdiv s * s ≤ 1001000 := by rw [show n.tdiv s = n.tdiv s - 1 + 1 by omega]; omega
        clear f5
        by_cases t1 : s < 2 * (n - (n.tdiv s - 1) * s)
        · have HU := Lib.hid (upK_yes1 t1)
          go_enter Try.func65, Try.ntmps65
          go_wp2_with (go_at_call 60; refine (spec_in _ _ _ _).mono ?_; rintro e w' ⟨rfl, rfl⟩)
          go_ret
          exact ⟨ret_int (by rw [HN.out, HK.out, HU.out]; try (congr 1; omega)), rfl⟩
        · by_cases t2 : 2 * (n - (n.tdiv s - 1) * s) = s
          · have e2 : ((2 * (n - (n.tdiv s - 1) * s)) == s) = true := by rw [t2]; simp
            by_cases t3 : ((n.tdiv s - 1)).tmod 2 ≠ 0
            · have HU := Lib.hid (upK_yes2 t1 t2 t3)
              have e3 : (((n.tdiv s - 1)).tmod 2 != 0) = true := by simpa using t3
              clear t2 t3
              go_enter Try.func65, Try.ntmps65
              go_wp2_with (go_at_call 60; refine (spec_in _ _ _ _).mono ?_; rintro e w' ⟨rfl, rfl⟩)
              go_ret
              exact ⟨ret_int (by rw [HN.out, HK.out, HU.out]; try (congr 1; omega)), rfl⟩
            · have HU := Lib.hid (upK_no2 t1 t3)
              have e3 : (((n.tdiv s - 1)).tmod 2 != 0) = false := by simpa using t3
              clear t2 t3
              go_enter Try.func65, Try.ntmps65
              go_wp2_with (go_at_call 60; refine (spec_in _ _ _ _).mono ?_; rintro e w' ⟨rfl, rfl⟩)
              go_ret
              exact ⟨ret_int (by rw [HN.out, HK.out, HU.out]), rfl⟩
          · have HU := Lib.hid (upK_no1 t1 t2)
            have e2 : ((2 * (n - (n.tdiv s - 1) * s)) == s) = false := by simpa using t2
            clear t2
            go_enter Try.func65, Try.ntmps65
            go_wp2_with (go_at_call 60; refine (spec_in _ _ _ _).mono ?_; rintro e w' ⟨rfl, rfl⟩)
            go_ret
            exact ⟨ret_int (by rw [HN.out, HK.out, HU.out]), rfl⟩
      · have hk : lowK n s = n.tdiv s := by unfold lowK; rw [if_neg hm]
        have HK := Lib.hid hk
        rw [hk] at f1 f2 f3 f4 f5 f6 f7
        clear hk
        have c1 : -1001000 ≤ (n.tdiv s + 1) * s := by omega
        have c2 : (n.tdiv s + 1) * s ≤ 1001000 := by omega
        clear f5
        by_cases t1 : s < 2 * (n - n.tdiv s * s)
        · have HU := Lib.hid (upK_yes1 t1)
          go_enter Try.func65, Try.ntmps65
          go_wp2_with (go_at_call 60; refine (spec_in _ _ _ _).mono ?_; rintro e w' ⟨rfl, rfl⟩)
          go_ret
          exact ⟨ret_int (by rw [HN.out, HK.out, HU.out]; try (congr 1; omega)), rfl⟩
        · by_cases t2 : 2 * (n - n.tdiv s * s) = s
          · have e2 : ((2 * (n - n.tdiv s * s)) == s) = true := by rw [t2]; simp
            by_cases t3 : (n.tdiv s).tmod 2 ≠ 0
            · have HU := Lib.hid (upK_yes2 t1 t2 t3)
              have e3 : ((n.tdiv s).tmod 2 != 0) = true := by simpa using t3
              clear t2 t3
              go_enter Try.func65, Try.ntmps65
              go_wp2_with (go_at_call 60; refine (spec_in _ _ _ _).mono ?_; rintro e w' ⟨rfl, rfl⟩)
              go_ret
              exact ⟨ret_int (by rw [HN.out, HK.out, HU.out]; try (congr 1; omega)), rfl⟩
            · have HU := Lib.hid (upK_no2 t1 t3)
              have e3 : ((n.tdiv s).tmod 2 != 0) = false := by simpa using t3
              clear t2 t3
              go_enter Try.func65, Try.ntmps65
              go_wp2_with (go_at_call 60; refine (spec_in _ _ _ _).mono ?_; rintro e w' ⟨rfl, rfl⟩)
              go_ret
              exact ⟨ret_int (by rw [HN.out, HK.out, HU.out]), rfl⟩
          · have HU := Lib.hid (upK_no1 t1 t2)
            have e2 : ((2 * (n - n.tdiv s * s)) == s) = false := by simpa using t2
            clear t2
            go_enter Try.func65, Try.ntmps65
            go_wp2_with (go_at_call 60; refine (spec_in _ _ _ _).mono ?_; rintro e w' ⟨rfl, rfl⟩)
            go_ret
            exact ⟨ret_int (by rw [HN.out, HK.out, HU.out]), rfl⟩

theorem roundErr_bound (n s : Int) : -1000 ≤ roundI n s - n ∧ roundI n s - n ≤ 1000 := by
  by_cases h : inB s 1 1000 = true ∧ inB n (-1000000) 1000000 = true
  · have := round_bound h.1 h.2; omega
  · have : roundI n s = n := by
      unfold roundI
      rw [if_neg]
      intro hh; exact h (by simpa using hh)
    rw [this]; omega
theorem impl_RoundTwice (n a b : Int) (w : World) :
    Calls Try.prog 35 #[.int .i64 n, .int .i64 a, .int .i64 b] w fun e w' => e = .returned (.int .i64 (roundI (roundI n a) b)) ∧ w = w' := by
  go_enter Try.func35, Try.ntmps35
  go_wp2_with (go_at_call 33; refine (impl_RoundTo _ _ _).mono ?_; rintro e w' ⟨rfl, rfl⟩)
  go_ret
  exact ⟨rfl, rfl⟩
theorem impl_RoundError (n s : Int) (w : World) :
    Calls Try.prog 34 #[.int .i64 n, .int .i64 s] w fun e w' => e = .returned (.int .i64 (roundI n s - n)) ∧ w = w' := by
  obtain ⟨h1, h2⟩ := roundErr_bound n s
  go_enter Try.func34, Try.ntmps34
  go_wp2_with (go_at_call 33; refine (impl_RoundTo _ _ _).mono ?_; rintro e w' ⟨rfl, rfl⟩)
  go_ret
  exact ⟨rfl, rfl⟩
end Go.Proofs.Ytmapcpkloomliaa
