/- Plain mathematics: play, carried rounding, verniers, as the great statements ask. No program, no condition. -/
import Derived.Test.YtmapcpkloomliaaMath
import Derived.Test.YtmapcpkloomliaaWords
namespace Go.Proofs.Ytmapcpkloomliaa

/-! ### play -/
theorem clamp_in {s i d : Int} (h : 0 ≤ d) : i - d ≤ clampI s (i - d) (i + d) ∧ clampI s (i - d) (i + d) ≤ i + d := by
  unfold clampI; split
  · omega
  · split <;> omega
theorem clamp_again {r i d : Int} (h : i - d ≤ r ∧ r ≤ i + d) : clampI r (i - d) (i + d) = r := by
  unfold clampI; rw [if_neg (by omega), if_neg (by omega)]
theorem clamp_mono {s t i d : Int} (h : 0 ≤ d) (hst : s ≤ t) : clampI s (i - d) (i + d) ≤ clampI t (i - d) (i + d) ∧ clampI t (i - d) (i + d) - clampI s (i - d) (i + d) ≤ t - s := by
  unfold clampI; split <;> split <;> (try split) <;> (try split) <;> omega
theorem step_eq {d s i : Int} (h1 : 0 ≤ d) (h2 : d ≤ 100) (h3 : -20000 ≤ s) (h4 : s ≤ 20000) (h5 : -20000 ≤ i) (h6 : i ≤ 20000) : playStepI d s i = clampI s (i - d) (i + d) := by
  unfold playStepI
  rw [inB_true.2 ⟨h1, h2⟩, inB_true.2 ⟨h3, h4⟩, inB_true.2 ⟨h5, h6⟩]; rfl
/-- what is shown stays small -/
theorem playF_bound {d s : Int} {X : Nat → Int} {n : Nat} (h1 : 0 ≤ d) (h2 : d ≤ 100) (h3 : -10100 ≤ s) (h4 : s ≤ 10100) (h5 : ∀ i, i < n → -10000 ≤ X i ∧ X i ≤ 10000) : ∀ k, k ≤ n → -10100 ≤ playF d s X k ∧ playF d s X k ≤ 10100 := by
  intro k
  induction k with
  | zero => intro _; exact ⟨h3, h4⟩
  | succ k ih =>
    intro hk
    have hb := ih (by omega)
    have hx := h5 k (by omega)
    simp only [playF]
    rw [step_eq h1 h2 (by omega) (by omega) (by omega) (by omega)]
    have := clamp_in (s := playF d s X k) (i := X k) h1
    omega
theorem play_step {d s : Int} {X : Nat → Int} {n k : Nat} (h1 : 0 ≤ d) (h2 : d ≤ 100) (h3 : -10100 ≤ s) (h4 : s ≤ 10100) (h5 : ∀ i, i < n → -10000 ≤ X i ∧ X i ≤ 10000) (hk : k < n) :
    playF d s X (k + 1) = clampI (playF d s X k) (X k - d) (X k + d) ∧ X k - d ≤ playF d s X (k + 1) ∧ playF d s X (k + 1) ≤ X k + d ∧ playStepI d (playF d s X (k + 1)) (X k) = playF d s X (k + 1) := by
  have hb := playF_bound h1 h2 h3 h4 h5 k (by omega)
  have hx := h5 k hk
  have e : playF d s X (k + 1) = clampI (playF d s X k) (X k - d) (X k + d) := by
    simp only [playF]
    exact step_eq h1 h2 (by omega) (by omega) (by omega) (by omega)
  have hc := clamp_in (s := playF d s X k) (i := X k) h1
  rw [← e] at hc
  refine ⟨e, hc.1, hc.2, ?_⟩
  rw [step_eq h1 h2 (by omega) (by omega) (by omega) (by omega)]
  exact clamp_again hc
/-- two instruments -/
theorem play_two {d s t : Int} {X : Nat → Int} {n : Nat} (h1 : 0 ≤ d) (h2 : d ≤ 100) (h3 : -10100 ≤ s) (hst : s ≤ t) (h4 : t ≤ 10100) (h5 : ∀ i, i < n → -10000 ≤ X i ∧ X i ≤ 10000) :
    ∀ k, k ≤ n → playF d s X k ≤ playF d t X k ∧ (k < n → playF d t X (k + 1) - playF d s X (k + 1) ≤ playF d t X k - playF d s X k) := by
  intro k
  induction k with
  | zero =>
    intro hn
    refine ⟨hst, fun h0 => ?_⟩
    rw [(play_step h1 h2 h3 (by omega) h5 h0).1, (play_step h1 h2 (by omega) h4 h5 h0).1]
    exact (clamp_mono h1 hst).2
  | succ k ih =>
    intro hk
    obtain ⟨i1, i2⟩ := ih (by omega)
    have m1 : playF d s X (k + 1) ≤ playF d t X (k + 1) := by
      rw [(play_step h1 h2 h3 (by omega) h5 (by omega)).1, (play_step h1 h2 (by omega) h4 h5 (by omega)).1]
      exact (clamp_mono h1 i1).1
    refine ⟨m1, fun h0 => ?_⟩
    rw [(play_step h1 h2 h3 (by omega) h5 h0).1, (play_step h1 h2 (by omega) h4 h5 h0).1]
    exact (clamp_mono h1 m1).2
theorem moves_bound (F : Nat → Int) (k : Nat) : 0 ≤ movesF F k ∧ movesF F k ≤ k := by
  induction k with
  | zero => simp [movesF]
  | succ k ih => simp only [movesF]; split <;> omega
theorem lag_bound {d s : Int} {X : Nat → Int} {n : Nat} (h1 : 0 ≤ d) (h2 : d ≤ 100) (h3 : -10100 ≤ s) (h4 : s ≤ 10100) (h5 : ∀ i, i < n → -10000 ≤ X i ∧ X i ≤ 10000) :
    ∀ k, k ≤ n → 0 ≤ lagF X (playF d s X) k ∧ lagF X (playF d s X) k ≤ d := by
  intro k
  induction k with
  | zero => intro _; simp [lagF]; omega
  | succ k ih =>
    intro hk
    have := ih (by omega)
    have p := play_step h1 h2 h3 h4 h5 (k := k) (by omega)
    simp only [lagF]; omega

/-! ### carried rounding -/
theorem carry_ok {s : Int} {X : Nat → Int} {n : Nat} (h1 : 1 ≤ s) (h2 : s ≤ 1000) (h3 : ∀ i, i < n → -10000 ≤ X i ∧ X i ≤ 10000) :
    ∀ k, k ≤ n → -s ≤ 2 * restF s X k ∧ 2 * restF s X k ≤ s ∧ (k < n → carryF s X k = nearI (X k + restF s X k) s) := by
  intro k
  have hr : ∀ k, k < n → (-s ≤ 2 * restF s X k ∧ 2 * restF s X k ≤ s) → carryF s X k = nearI (X k + restF s X k) s := by
    intro k hk hb
    have hx := h3 k hk
    unfold carryF roundI
    rw [inB_true.2 ⟨h1, h2⟩, inB_true.2 ⟨by omega, by omega⟩]; rfl
  induction k with
  | zero => intro _; refine ⟨by simp [restF]; omega, by simp [restF]; omega, fun h0 => hr 0 h0 (by simp [restF]; omega)⟩
  | succ k ih =>
    intro hk
    obtain ⟨i1, i2, i3⟩ := ih (by omega)
    have e := i3 (by omega)
    have hn := nearI_err (n := X k + restF s X k) h1
    have hb : -s ≤ 2 * restF s X (k + 1) ∧ 2 * restF s X (k + 1) ≤ s := by
      simp only [restF]
      rw [show roundI (X k + restF s X k) s = carryF s X k from rfl, e]; omega
    exact ⟨hb.1, hb.2, fun h0 => hr (k + 1) h0 hb⟩
end Go.Proofs.Ytmapcpkloomliaa
