/- Plain mathematics: the arms of a wrong balance. No program, no condition. -/
import Derived.Test.YtmapcpkloomliaaFrac6
namespace Go.Proofs.Ytmapcpkloomliaa

theorem fracOk_one {x : Int} (h1 : -1000000 ≤ x) (h2 : x ≤ 1000000) : fracOk x 1 = true := fracOk_iff.2 ⟨⟨h1, h2⟩, ⟨by omega, by omega⟩, by simp⟩
/-- a fraction of the value x is x over 1 -/
theorem red_whole {t b x : Int} (hb : b ≠ 0) (hv : t = x * b) (h1 : -1000000 ≤ x) (h2 : x ≤ 1000000) : redT t b = x ∧ redB t b = 1 ∧ redOk t b = true := by
  have e : t * 1 = x * b := by omega
  have f := redT_of_ok (fracOk_one h1 h2)
  exact ⟨(redT_congr hb (by omega) e).trans f.1, (redB_congr hb (by omega) e).trans f.2.1, (redOk_congr hb (by omega) e).trans f.2.2⟩

theorem arms_l {a b n : Int} (a1 : 1 ≤ a) (a2 : a ≤ 1000) (b1 : 1 ≤ b) (b2 : b ≤ 1000) (n1 : 0 ≤ n) (n2 : n ≤ 1000) :
    rlOk a b n = true ∧ rlT a b n * b = n * a * rlB a b n ∧ fracOk (rlT a b n) (rlB a b n) = true := by
  have hin : rlIn a b n = true := by
    unfold rlIn armsOkB
    rw [inB_true.2 ⟨a1, a2⟩, inB_true.2 ⟨b1, b2⟩, inB_true.2 ⟨n1, n2⟩]; rfl
  have m := mul_bound (x := n) (y := a) (A := 1000) (B := 1000) ⟨by omega, n2⟩ ⟨by omega, a2⟩
  obtain ⟨e1, e2, e3⟩ := mk_in_range (t := n * a) (b := b) (by omega) (by omega) (by omega) (by omega) (by omega)
  have hr : redOk (n * a) b = true := redOk_of (x := n * a) (y := b) (by omega) b1 rfl (by omega) (by omega) (by omega)
  have hT : rlT a b n = redT (n * a) b := by unfold rlT; rw [hin, if_pos rfl, e1]
  have hB : rlB a b n = redB (n * a) b := by unfold rlB; rw [hin, if_pos rfl, e2]
  refine ⟨by unfold rlOk; rw [hin, e3, hr]; rfl, ?_, ?_⟩
  · rw [hT, hB]; exact red_val (by omega) hr
  · rw [hT, hB]; exact (red_ok hr).1

theorem arms_sq {a b n lt lb rt rb : Int} (a1 : 1 ≤ a) (b1 : 1 ≤ b) (n1 : 0 ≤ n) (n2 : n ≤ 1000) (hl : lt * b = n * a * lb) (hr : rt * a = n * b * rb) (fl : fracOk lt lb = true) (fr : fracOk rt rb = true) :
    timT lt lb rt rb = n * n ∧ timB lt lb rt rb = 1 ∧ timOk lt lb rt rb = true := by
  have hin : addIn lt lb rt rb = true := by unfold addIn; rw [fl, fr]; rfl
  obtain ⟨_, ⟨l1, _⟩, _⟩ := fracOk_iff.1 fl
  obtain ⟨_, ⟨r1, _⟩, _⟩ := fracOk_iff.1 fr
  have hv : lt * rt = n * n * (lb * rb) := by
    have h : (lt * rt) * (a * b) = (n * n * (lb * rb)) * (a * b) := by
      have : (lt * rt) * (a * b) = (lt * b) * (rt * a) := by grind
      rw [this, hl, hr]; grind
    exact Int.eq_of_mul_eq_mul_right (Int.mul_ne_zero (by omega) (by omega)) h
  have hb : lb * rb ≠ 0 := Int.mul_ne_zero (by omega) (by omega)
  have m := mul_bound (x := n) (y := n) (A := 1000) (B := 1000) ⟨by omega, n2⟩ ⟨by omega, n2⟩
  obtain ⟨e1, e2, e3⟩ := red_whole hb hv (by omega) (by omega)
  unfold timT timB timOk
  rw [hin, if_pos rfl, if_pos rfl]
  exact ⟨e1, e2, by rw [e3]; rfl⟩

theorem arms_sub {a b n : Int} (a1 : 1 ≤ a) (a2 : a ≤ 1000) (b1 : 1 ≤ b) (b2 : b ≤ 1000) (n1 : 0 ≤ n) (n2 : n ≤ 1000) :
    subT a b n (rlT a b n) (rlB a b n) = n ∧ subB a b n (rlT a b n) (rlB a b n) = 1 ∧ subOk a b n (rlT a b n) (rlB a b n) = true := by
  obtain ⟨h1, h2, h3⟩ := arms_l a1 a2 b1 b2 n1 n2
  have hin : subIn a b n (rlT a b n) (rlB a b n) = true := by unfold subIn; rw [h1, eqP_self]; rfl
  obtain ⟨f1, f2, f3, f4⟩ := sub_facts h3 a1 a2 b1 b2
  obtain ⟨_, ⟨l1, _⟩, _⟩ := fracOk_iff.1 h3
  have hb : rlB a b n * a ≠ 0 := Int.mul_ne_zero (by omega) (by omega)
  obtain ⟨e1, e2, e3⟩ := mk_in_range hb (t := rlT a b n * b) (by omega) (by omega) (by omega) (by omega)
  obtain ⟨g1, g2, g3⟩ := red_whole (t := rlT a b n * b) (x := n) hb (by rw [h2]; grind) (by omega) (by omega)
  unfold subT subB subOk
  rw [hin, if_pos rfl, if_pos rfl, e1, e2, e3]
  exact ⟨g1, g2, by rw [g3]; rfl⟩

theorem arms_ratio {a b n lt lb rt rb : Int} (a1 : 1 ≤ a) (a2 : a ≤ 1000) (b1 : 1 ≤ b) (b2 : b ≤ 1000) (n1 : 0 ≤ n) (hl : lt * b = n * a * lb) (hr : rt * a = n * b * rb) (fl : fracOk lt lb = true) (fr : fracOk rt rb = true) :
    ovOk lt lb rt rb = decide (0 < n) ∧ (ovOk lt lb rt rb = true → ovT lt lb rt rb * b * b = ovB lt lb rt rb * a * a ∧ -1000000 ≤ ovT lt lb rt rb ∧ ovT lt lb rt rb ≤ 1000000 ∧ 1 ≤ ovB lt lb rt rb ∧ ovB lt lb rt rb ≤ 1000000) := by
  obtain ⟨_, ⟨l1, _⟩, _⟩ := fracOk_iff.1 fl
  obtain ⟨_, ⟨r1, _⟩, _⟩ := fracOk_iff.1 fr
  by_cases hn : 0 < n
  · have hrt : rt ≠ 0 := by
      intro h
      rw [h] at hr
      have := Int.mul_pos (Int.mul_pos hn (show 0 < b by omega)) (show 0 < rb by omega)
      omega
    have hin : ovIn lt lb rt rb = true := by unfold ovIn; rw [fl, fr]; simp [hrt]
    have hb : lb * rt ≠ 0 := Int.mul_ne_zero (by omega) hrt
    have key : (lt * rb) * (b * b) = (a * a) * (lb * rt) := by
      have e1 : (lt * rb) * (b * b) = (lt * b) * (rb * b) := by grind
      have e2 : (a * a) * (lb * rt) = (rt * a) * (a * lb) := by grind
      rw [e1, e2, hl, hr]; grind
    have ma := mul_bound (x := a) (y := a) (A := 1000) (B := 1000) ⟨by omega, a2⟩ ⟨by omega, a2⟩
    have mb := mul_bound (x := b) (y := b) (A := 1000) (B := 1000) ⟨by omega, b2⟩ ⟨by omega, b2⟩
    have pb := Int.mul_pos (show 0 < b by omega) (show 0 < b by omega)
    have hok : redOk (lt * rb) (lb * rt) = true := redOk_of (x := a * a) (y := b * b) hb (by omega) key (by omega) (by omega) (by omega)
    have hT : ovT lt lb rt rb = redT (lt * rb) (lb * rt) := by unfold ovT; rw [hin, if_pos rfl]
    have hB : ovB lt lb rt rb = redB (lt * rb) (lb * rt) := by unfold ovB; rw [hin, if_pos rfl]
    have hOk : ovOk lt lb rt rb = true := by unfold ovOk; rw [hin, hok]; rfl
    refine ⟨by rw [hOk]; simp [hn], fun _ => ?_⟩
    rw [hT, hB]
    have v := red_val hb hok
    obtain ⟨⟨q1, q2⟩, ⟨q3, q4⟩, _⟩ := fracOk_iff.1 (red_ok hok).1
    generalize redT (lt * rb) (lb * rt) = x at *
    generalize redB (lt * rb) (lb * rt) = y at *
    refine ⟨?_, q1, q2, q3, q4⟩
    have h : (x * b * b) * (lb * rt) = (y * a * a) * (lb * rt) := by
      have e1 : (x * b * b) * (lb * rt) = (x * (lb * rt)) * (b * b) := by grind
      rw [e1, v]
      have e2 : lt * rb * y * (b * b) = y * ((lt * rb) * (b * b)) := by grind
      rw [e2, key]; grind
    exact Int.eq_of_mul_eq_mul_right hb h
  · obtain rfl : n = 0 := by omega
    have hrt : rt = 0 := by
      have h : rt * a = 0 := by rw [hr]; simp
      rcases Int.mul_eq_zero.1 h with h | h <;> omega
    have hOk : ovOk lt lb rt rb = false := by unfold ovOk ovIn; simp [hrt]
    exact ⟨by rw [hOk]; simp, fun h => by rw [hOk] at h; cases h⟩
end Go.Proofs.Ytmapcpkloomliaa
