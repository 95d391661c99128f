/- The contracts of the functions that only reckon with integers: ranges, play, rounding, verniers, squares modulo a prime. No condition but those of each contract. -/
import Derived.Test.YtefgdkjcoeikmaaRows
import Derived.Test.YtefgdkjcoeikmaaBase
import Derived.Test.YtefgdkjcoeikmaaMath
namespace Go.Proofs.Ytefgdkjcoeikmaa
open Go.ChangeShapes Go.WideShapes Go.ChangeAt Go.RowKit

theorem spec_in (n lo hi : Int) (w : World) :
    Calls Try.prog 85 #[.int .i64 n, .int .i64 lo, .int .i64 hi] w fun e w' => e = .returned (.bool (inB n lo hi)) ∧ w = w' := by
  by_cases h1 : lo ≤ n <;> by_cases h2 : n ≤ hi
  all_goals
    go_enter Try.func85, Try.ntmps85
    go_wp2
    go_ret
    exact ⟨by simp [inB, *], rfl⟩
theorem impl_in (n lo hi : Int) (w : World) :
    Calls Try.prog 73 #[.int .i64 n, .int .i64 lo, .int .i64 hi] w fun e w' => e = .returned (.bool (inB n lo hi)) ∧ w = w' := by
  by_cases h1 : lo ≤ n <;> by_cases h2 : n ≤ hi
  all_goals
    go_enter Try.func73, Try.ntmps73
    go_wp2
    go_ret
    exact ⟨by simp [inB, *], rfl⟩

def playOkB (h s : Int) : Bool := inB h 0 100 && inB s (-10000) 10000
def vernOkB (n p : Int) : Bool := inB n 2 50 && inB p 0 10000
def armsOkB (a b : Int) : Bool := inB a 1 1000 && inB b 1 1000
/-! ### verniers -/
def gapI (n p k : Int) : Int := if vernOkB n p && inB k 0 n then (p + k * (n - 1)) % n else -1
theorem vern_bounds {n p : Int} (h : vernOkB n p = true) : 2 ≤ n ∧ n ≤ 50 ∧ 0 ≤ p ∧ p ≤ 10000 := by
  simp [vernOkB, inB] at h; omega
theorem gap_bounds {n k : Int} (h1 : 2 ≤ n) (h2 : n ≤ 50) (h3 : 0 ≤ k) (h4 : k ≤ n) : 0 ≤ k * (n - 1) ∧ k * (n - 1) ≤ 2500 := by
  refine ⟨Int.mul_nonneg h3 (by omega), ?_⟩
  have a := Int.mul_le_mul_of_nonneg_right h4 (show 0 ≤ n - 1 by omega)
  have b := Int.mul_le_mul_of_nonneg_left (show n - 1 ≤ 50 by omega) (show 0 ≤ n by omega)
  omega
/-- the first mark that coincides -/
def coinI (n p : Int) : Int := if vernOkB n p then p % n else -1
theorem gap_zero {n p k : Int} (h : vernOkB n p = true) (h1 : 0 ≤ k) (h2 : k ≤ p % n) : gapI n p k = (p % n - k) ∧ k ≤ n ∧ p % n < n ∧ 0 ≤ p % n := by
  obtain ⟨b1, b2, b3, b4⟩ := vern_bounds h
  have m1 := Int.emod_nonneg p (show n ≠ 0 by omega)
  have m2 := Int.emod_lt_of_pos p (show 0 < n by omega)
  have hk : inB k 0 n = true := inB_true.2 ⟨h1, by omega⟩
  refine ⟨?_, by omega, m2, m1⟩
  unfold gapI
  rw [h, hk]
  simp only [Bool.and_self, if_true]
  have e : p + k * (n - 1) = (p % n - k) + n * (p / n + k) := by
    have := Int.mul_ediv_add_emod p n
    grind
  rw [e, Int.add_mul_emod_self_left, Int.emod_eq_of_lt (by omega) (by omega)]
/-- where a gap is 0 -/
theorem gap_range {n p k : Int} (h : vernOkB n p = true) (h1 : 0 ≤ k) (h2 : k ≤ n) : 0 ≤ gapI n p k ∧ gapI n p k < n := by
  obtain ⟨b1, b2, b3, b4⟩ := vern_bounds h
  unfold gapI
  rw [h, inB_true.2 ⟨h1, h2⟩]
  simp only [Bool.and_self, if_true]
  exact ⟨Int.emod_nonneg _ (by omega), Int.emod_lt_of_pos _ (by omega)⟩

/-! ### reading a vernier -/
def readI (n p : Int) : Int := if vernOkB n p then p else -1
theorem vern_div {n p : Int} (h : vernOkB n p = true) : p / n * n + p % n = p ∧ 0 ≤ p / n ∧ p / n ≤ 10000 ∧ 0 ≤ p / n * n ∧ p / n * n ≤ 10000 ∧ 0 ≤ p % n ∧ p % n ≤ 50 := by
  obtain ⟨b1, b2, b3, b4⟩ := vern_bounds h
  have m1 := Int.emod_nonneg p (show n ≠ 0 by omega)
  have m2 := Int.emod_lt_of_pos p (show 0 < n by omega)
  have e := Int.mul_ediv_add_emod p n
  rw [Int.mul_comm] at e
  have d1 : 0 ≤ p / n := Int.ediv_nonneg b3 (by omega)
  have d2 : p / n ≤ p := Int.ediv_le_self _ b3
  have d3 := Int.mul_nonneg d1 (show 0 ≤ n by omega)
  omega
/-! ### the nearest mark -/
def nearMI (n p : Int) : Int := coinI n p
def distI (n p k : Int) : Int := if n - gapI n p k < gapI n p k then n - gapI n p k else gapI n p k
theorem dist_pos {n p k : Int} (h : vernOkB n p = true) (h1 : 0 ≤ k) (h2 : k < p % n) : 0 < distI n p k := by
  obtain ⟨e, _, _, _⟩ := gap_zero h h1 (by omega)
  obtain ⟨b1, b2, b3, b4⟩ := vern_bounds h
  obtain ⟨g1, g2⟩ := gap_range (k := k) h h1 (by omega)
  unfold distI; split <;> omega
theorem dist_zero {n p : Int} (h : vernOkB n p = true) : distI n p (p % n) = 0 := by
  obtain ⟨b1, b2, b3, b4⟩ := vern_bounds h
  obtain ⟨e, _, _, _⟩ := gap_zero (k := p % n) h (Int.emod_nonneg p (by omega)) (by omega)
  unfold distI; split <;> omega
theorem dist_nonneg {n p k : Int} (h : vernOkB n p = true) (h1 : 0 ≤ k) (h2 : k ≤ n) : 0 ≤ distI n p k ∧ distI n p k ≤ 50 := by
  obtain ⟨b1, b2, b3, b4⟩ := vern_bounds h
  obtain ⟨g1, g2⟩ := gap_range h h1 h2
  unfold distI; split <;> omega
/-- what holds of the best mark so far -/
def nmRel (n p k b l : Int) : Prop := (k = 0 ∧ b = -1) ∨ (0 < k ∧ 0 ≤ b ∧ b ≤ n ∧ l = distI n p b ∧ ((k ≤ p % n ∧ b < k) ∨ (p % n < k ∧ b = p % n)))
theorem nm_take {n p k b l : Int} (h : vernOkB n p = true) (hk : 0 ≤ k) (hn : k ≤ n) (hr : nmRel n p k b l) (ht : b < 0 ∨ distI n p k < l) : nmRel n p (k + 1) k (distI n p k) := by
  obtain ⟨b1, b2, b3, b4⟩ := vern_bounds h
  have m1 := Int.emod_nonneg p (show n ≠ 0 by omega)
  have dz := dist_zero h
  have dn := (dist_nonneg h hk hn).1
  refine .inr ⟨by omega, hk, hn, rfl, ?_⟩
  rcases hr with ⟨rfl, _⟩ | ⟨h0, hb, hbn, hl, ⟨h2, h3⟩ | ⟨h2, h3⟩⟩
  · omega
  · omega
  · rw [h3] at hl; omega
theorem nm_keep {n p k b l : Int} (h : vernOkB n p = true) (hn : k ≤ n) (hr : nmRel n p k b l) (hb0 : 0 ≤ b) (ht : l ≤ distI n p k) : nmRel n p (k + 1) b l := by
  have dz := dist_zero h
  rcases hr with ⟨rfl, h2⟩ | ⟨h0, hb, hbn, hl, ⟨h2, h3⟩ | ⟨h2, h3⟩⟩
  · omega
  · have dp := fun hh => dist_pos (k := b) h hb hh
    refine .inr ⟨by omega, hb, hbn, hl, ?_⟩
    by_cases e : k = p % n
    · rw [e] at ht; have := dp (by omega); omega
    · omega
  · exact .inr ⟨by omega, hb, hbn, hl, .inr ⟨by omega, h3⟩⟩
theorem nm_end {n p b l : Int} (h : vernOkB n p = true) (hr : nmRel n p (n + 1) b l) : b = nearMI n p := by
  obtain ⟨b1, b2, b3, b4⟩ := vern_bounds h
  have m2 := Int.emod_lt_of_pos p (show 0 < n by omega)
  unfold nearMI coinI
  rw [h, if_pos rfl]
  rcases hr with ⟨h0, h2⟩ | ⟨h0, hb, hbn, hl, ⟨h2, h3⟩ | ⟨h2, h3⟩⟩ <;> omega

/-- the reference holds the best mark alone -/
def smRel (n p k b : Int) : Prop := (k = 0 ∧ b = 0) ∨ (0 < k ∧ nmRel n p k b (distI n p b))
theorem snm {n p k b : Int} (h : vernOkB n p = true) (hr : smRel n p k b) (hk : 0 ≤ k) (hn : k ≤ n) :
    0 ≤ b ∧ b ≤ n ∧ (distI n p k < distI n p b → smRel n p (k + 1) k) ∧ (distI n p b ≤ distI n p k → smRel n p (k + 1) b) := by
  obtain ⟨b1, b2, b3, b4⟩ := vern_bounds h
  have m1 := Int.emod_nonneg p (show n ≠ 0 by omega)
  rcases hr with ⟨rfl, rfl⟩ | ⟨h0, hr⟩
  · refine ⟨by omega, by omega, fun hh => by omega, fun _ => .inr ⟨by omega, ?_⟩⟩
    exact nm_take (b := -1) (l := 0) h (by omega) (by omega) (.inl ⟨rfl, rfl⟩) (.inl (by omega))
  · have hb : 0 ≤ b ∧ b ≤ n := by
      rcases hr with ⟨h0, h2⟩ | ⟨h0, hb, hbn, _⟩
      · omega
      · exact ⟨hb, hbn⟩
    exact ⟨hb.1, hb.2, fun hh => .inr ⟨by omega, nm_take h hk hn hr (.inr hh)⟩, fun hh => .inr ⟨by omega, nm_keep h hn hr hb.1 hh⟩⟩
theorem snm_end {n p b : Int} (h : vernOkB n p = true) (hr : smRel n p (n + 1) b) : b = nearMI n p := by
  obtain ⟨b1, b2, b3, b4⟩ := vern_bounds h
  rcases hr with ⟨h0, _⟩ | ⟨_, hr⟩
  · omega
  · exact nm_end h hr

end Go.Proofs.Ytefgdkjcoeikmaa
