/- The contracts of both LegendreOf: squares modulo 3, 5, 7. No condition. -/
import Derived.Test.YtefgdkjcoeikmaaScal
namespace Go.Proofs.Ytefgdkjcoeikmaa
open Go.ChangeShapes Go.WideShapes Go.ChangeAt Go.RowKit

/-! ### squares modulo 3, 5, 7 -/
def legR (p r : Int) : Int := if r = 0 then 0 else if (p = 3 ∧ r = 1) ∨ (p = 5 ∧ (r = 1 ∨ r = 4)) ∨ (p = 7 ∧ (r = 1 ∨ r = 2 ∨ r = 4)) then 1 else -1
def legI (a p : Int) : Int := if p = 3 ∨ p = 5 ∨ p = 7 then legR p (a % p) else 0
theorem legI_of {a p t : Int} (hp : p = 3 ∨ p = 5 ∨ p = 7) (h : a.tmod p = t) : legI a p = legR p (t % p) := by
  unfold legI
  rw [if_pos hp]
  have e := Int.mul_tdiv_add_tmod a p
  rw [h] at e
  congr 1
  rw [← e, Int.add_comm, Int.add_mul_emod_self_left]
theorem tmod_range {a p : Int} (h : 0 < p) : -p < a.tmod p ∧ a.tmod p < p := by
  have t1 := Int.tmod_lt_of_pos a h
  have := Int.tmod_lt_of_pos (-a) h
  rw [Int.neg_tmod] at this; omega

set_option maxHeartbeats 1600000 in
theorem impl_Legendre_3 (a : Int) (w : World) :
    Calls Try.prog 51 #[.int .i64 a, .int .i64 3] w fun e w' => e = .returned (.int .i64 (legI a 3)) ∧ w = w' := by
  obtain ⟨r1, r2⟩ := tmod_range (a := a) (p := 3) (by omega)
  rcases (show a.tmod 3 = -2 ∨ a.tmod 3 = -1 ∨ a.tmod 3 = 0 ∨ a.tmod 3 = 1 ∨ a.tmod 3 = 2 from by omega) with h | h | h | h | h
  all_goals
    have HL := Lib.hid (legI_of (by omega) h)
    clear r1 r2
    go_enter Try.func51, Try.ntmps51
    go_wp2
    try (refine wp_loop_rounds 7 ?_; rw [rounds_succ]; go_wp2)
    iterate 6 (try (rw [rounds_succ]; go_wp2))
    go_ret
    exact ⟨ret_int (by rw [HL.out]; decide), rfl⟩

set_option maxHeartbeats 1600000 in
theorem impl_Legendre_5 (a : Int) (w : World) :
    Calls Try.prog 51 #[.int .i64 a, .int .i64 5] w fun e w' => e = .returned (.int .i64 (legI a 5)) ∧ w = w' := by
  obtain ⟨r1, r2⟩ := tmod_range (a := a) (p := 5) (by omega)
  rcases (show a.tmod 5 = -4 ∨ a.tmod 5 = -3 ∨ a.tmod 5 = -2 ∨ a.tmod 5 = -1 ∨ a.tmod 5 = 0 ∨ a.tmod 5 = 1 ∨ a.tmod 5 = 2 ∨ a.tmod 5 = 3 ∨ a.tmod 5 = 4 from by omega) with h | h | h | h | h | h | h | h | h
  all_goals
    have HL := Lib.hid (legI_of (by omega) h)
    clear r1 r2
    go_enter Try.func51, Try.ntmps51
    go_wp2
    try (refine wp_loop_rounds 7 ?_; rw [rounds_succ]; go_wp2)
    iterate 6 (try (rw [rounds_succ]; go_wp2))
    go_ret
    exact ⟨ret_int (by rw [HL.out]; decide), rfl⟩

set_option maxHeartbeats 1600000 in
theorem impl_Legendre_7 (a : Int) (w : World) :
    Calls Try.prog 51 #[.int .i64 a, .int .i64 7] w fun e w' => e = .returned (.int .i64 (legI a 7)) ∧ w = w' := by
  obtain ⟨r1, r2⟩ := tmod_range (a := a) (p := 7) (by omega)
  rcases (show a.tmod 7 = -6 ∨ a.tmod 7 = -5 ∨ a.tmod 7 = -4 ∨ a.tmod 7 = -3 ∨ a.tmod 7 = -2 ∨ a.tmod 7 = -1 ∨ a.tmod 7 = 0 ∨ a.tmod 7 = 1 ∨ a.tmod 7 = 2 ∨ a.tmod 7 = 3 ∨ a.tmod 7 = 4 ∨ a.tmod 7 = 5 ∨ a.tmod 7 = 6 from by omega) with h | h | h | h | h | h | h | h | h | h | h | h | h
  all_goals
    have HL := Lib.hid (legI_of (by omega) h)
    clear r1 r2
    go_enter Try.func51, Try.ntmps51
    go_wp2
    try (refine wp_loop_rounds 7 ?_; rw [rounds_succ]; go_wp2)
    iterate 6 (try (rw [rounds_succ]; go_wp2))
    go_ret
    exact ⟨ret_int (by rw [HL.out]; decide), rfl⟩

theorem impl_LegendreOf (a p : Int) (w : World) :
    Calls Try.prog 51 #[.int .i64 a, .int .i64 p] w fun e w' => e = .returned (.int .i64 (legI a p)) ∧ w = w' := by
  by_cases h3 : p = 3
  · subst h3; exact impl_Legendre_3 a w
  · by_cases h5 : p = 5
    · subst h5; exact impl_Legendre_5 a w
    · by_cases h7 : p = 7
      · subst h7; exact impl_Legendre_7 a w
      · have e3 : (p != 3) = true := by simpa using h3
        have e5 : (p != 5) = true := by simpa using h5
        have e7 : (p != 7) = true := by simpa using h7
        have HL : Hid (legI a p = 0) := by unfold legI; exact if_neg (by omega)
        clear h3 h5 h7
        go_enter Try.func51, Try.ntmps51
        go_wp2
        go_ret
        exact ⟨ret_int HL.out.symm, rfl⟩

set_option maxHeartbeats 1600000 in
theorem spec_Legendre_3 (a : Int) (w : World) :
    Calls Try.prog 100 #[.int .i64 a, .int .i64 3] w fun e w' => e = .returned (.int .i64 (legI a 3)) ∧ w = w' := by
  obtain ⟨r1, r2⟩ := tmod_range (a := a) (p := 3) (by omega)
  rcases (show a.tmod 3 = -2 ∨ a.tmod 3 = -1 ∨ a.tmod 3 = 0 ∨ a.tmod 3 = 1 ∨ a.tmod 3 = 2 from by omega) with h | h | h | h | h
  all_goals
    have HL := Lib.hid (legI_of (by omega) h)
    clear r1 r2
    go_enter Try.func100, Try.ntmps100
    go_wp2
    try (refine wp_loop_rounds 7 ?_; rw [rounds_succ]; go_wp2)
    iterate 6 (try (rw [rounds_succ]; go_wp2))
    go_ret
    exact ⟨ret_int (by rw [HL.out]; decide), rfl⟩

set_option maxHeartbeats 1600000 in
theorem spec_Legendre_5 (a : Int) (w : World) :
    Calls Try.prog 100 #[.int .i64 a, .int .i64 5] w fun e w' => e = .returned (.int .i64 (legI a 5)) ∧ w = w' := by
  obtain ⟨r1, r2⟩ := tmod_range (a := a) (p := 5) (by omega)
  rcases (show a.tmod 5 = -4 ∨ a.tmod 5 = -3 ∨ a.tmod 5 = -2 ∨ a.tmod 5 = -1 ∨ a.tmod 5 = 0 ∨ a.tmod 5 = 1 ∨ a.tmod 5 = 2 ∨ a.tmod 5 = 3 ∨ a.tmod 5 = 4 from by omega) with h | h | h | h | h | h | h | h | h
  all_goals
    have HL := Lib.hid (legI_of (by omega) h)
    clear r1 r2
    go_enter Try.func100, Try.ntmps100
    go_wp2
    try (refine wp_loop_rounds 7 ?_; rw [rounds_succ]; go_wp2)
    iterate 6 (try (rw [rounds_succ]; go_wp2))
    go_ret
    exact ⟨ret_int (by rw [HL.out]; decide), rfl⟩

set_option maxHeartbeats 1600000 in
theorem spec_Legendre_7 (a : Int) (w : World) :
    Calls Try.prog 100 #[.int .i64 a, .int .i64 7] w fun e w' => e = .returned (.int .i64 (legI a 7)) ∧ w = w' := by
  obtain ⟨r1, r2⟩ := tmod_range (a := a) (p := 7) (by omega)
  rcases (show a.tmod 7 = -6 ∨ a.tmod 7 = -5 ∨ a.tmod 7 = -4 ∨ a.tmod 7 = -3 ∨ a.tmod 7 = -2 ∨ a.tmod 7 = -1 ∨ a.tmod 7 = 0 ∨ a.tmod 7 = 1 ∨ a.tmod 7 = 2 ∨ a.tmod 7 = 3 ∨ a.tmod 7 = 4 ∨ a.tmod 7 = 5 ∨ a.tmod 7 = 6 from by omega) with h | h | h | h | h | h | h | h | h | h | h | h | h
  all_goals
    have HL := Lib.hid (legI_of (by omega) h)
    clear r1 r2
    go_enter Try.func100, Try.ntmps100
    go_wp2
    try (refine wp_loop_rounds 7 ?_; rw [rounds_succ]; go_wp2)
    iterate 6 (try (rw [rounds_succ]; go_wp2))
    go_ret
    exact ⟨ret_int (by rw [HL.out]; decide), rfl⟩

theorem spec_LegendreOf (a p : Int) (w : World) :
    Calls Try.prog 100 #[.int .i64 a, .int .i64 p] w fun e w' => e = .returned (.int .i64 (legI a p)) ∧ w = w' := by
  by_cases h3 : p = 3
  · subst h3; exact spec_Legendre_3 a w
  · by_cases h5 : p = 5
    · subst h5; exact spec_Legendre_5 a w
    · by_cases h7 : p = 7
      · subst h7; exact spec_Legendre_7 a w
      · have e3 : (p != 3) = true := by simpa using h3
        have e5 : (p != 5) = true := by simpa using h5
        have e7 : (p != 7) = true := by simpa using h7
        have HL : Hid (legI a p = 0) := by unfold legI; exact if_neg (by omega)
        clear h3 h5 h7
        go_enter Try.func100, Try.ntmps100
        go_wp2
        go_ret
        exact ⟨ret_int HL.out.symm, rfl⟩
end Go.Proofs.Ytefgdkjcoeikmaa
