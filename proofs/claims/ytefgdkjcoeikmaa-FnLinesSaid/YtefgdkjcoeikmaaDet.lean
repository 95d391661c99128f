/- Plain mathematics: sums, determinants up to four rows, orthogonal matrices. No program, no condition. -/
import Derived.Test.YtefgdkjcoeikmaaMath
namespace Go.Proofs.Ytefgdkjcoeikmaa
def sumN : Nat → (Nat → Int) → Int
  | 0, _ => 0
  | n + 1, f => sumN n f + f n
def sg (k : Nat) : Int := if k % 2 = 1 then -1 else 1
/-- without row i and column k -/
def wo (X : Nat → Nat → Int) (i k : Nat) : Nat → Nat → Int := fun r c => X (if r < i then r else r + 1) (if c < k then c else c + 1)
def detF : Nat → (Nat → Nat → Int) → Int
  | 0, _ => 1
  | n + 1, X => sumN (n + 1) fun k => sg k * X 0 k * detF n (wo X 0 k)
def adjF (n : Nat) (X : Nat → Nat → Int) (i k : Nat) : Int := sg (i + k) * detF (n - 1) (wo X k i)

theorem adj_id1 (X : Nat → Nat → Int) : sumN 1 (fun j => X 0 j * adjF 1 X j 0) = detF 1 X := by
  simp [detF, sumN, sg, adjF]
theorem adj_id2 (X : Nat → Nat → Int) (i k : Nat) (hi : i < 2) (hk : k < 2) : sumN 2 (fun j => X i j * adjF 2 X j k) = if i = k then detF 2 X else 0 := by
  have : i = 0 ∨ i = 1 := by omega
  have : k = 0 ∨ k = 1 := by omega
  rcases ‹i = 0 ∨ i = 1› with rfl | rfl <;> rcases ‹k = 0 ∨ k = 1› with rfl | rfl <;> simp [detF, sumN, wo, sg, adjF] <;> grind
theorem adj_id3 (X : Nat → Nat → Int) (i k : Nat) (hi : i < 3) (hk : k < 3) : sumN 3 (fun j => X i j * adjF 3 X j k) = if i = k then detF 3 X else 0 := by
  have : i = 0 ∨ i = 1 ∨ i = 2 := by omega
  have : k = 0 ∨ k = 1 ∨ k = 2:= by omega
  rcases ‹i = 0 ∨ i = 1 ∨ i = 2› with rfl | rfl | rfl <;> rcases ‹k = 0 ∨ k = 1 ∨ k = 2› with rfl | rfl | rfl <;> simp [detF, sumN, wo, sg, adjF] <;> grind
theorem adj_id4 (X : Nat → Nat → Int) (i k : Nat) (hi : i < 4) (hk : k < 4) : sumN 4 (fun j => X i j * adjF 4 X j k) = if i = k then detF 4 X else 0 := by
  have h1 : i = 0 ∨ i = 1 ∨ i = 2 ∨ i = 3 := by omega
  have h2 : k = 0 ∨ k = 1 ∨ k = 2 ∨ k = 3 := by omega
  rcases h1 with rfl | rfl | rfl | rfl <;> rcases h2 with rfl | rfl | rfl | rfl <;> simp [detF, sumN, wo, sg, adjF] <;> grind

theorem sumN_congr {n : Nat} {f g : Nat → Int} (h : ∀ i, i < n → f i = g i) : sumN n f = sumN n g := by
  induction n with
  | zero => rfl
  | succ n ih => simp only [sumN]; rw [ih (fun i hi => h i (by omega)), h n (by omega)]
theorem detF_congr {n : Nat} {X Y : Nat → Nat → Int} (h : ∀ i k, i < n → k < n → X i k = Y i k) : detF n X = detF n Y := by
  induction n generalizing X Y with
  | zero => rfl
  | succ n ih =>
    simp only [detF]
    refine sumN_congr fun k hk => ?_
    rw [h 0 k (by omega) hk, ih (fun r c hr hc => ?_)]
    unfold wo
    apply h
    · split <;> omega
    · split <;> omega
theorem wo_congr {n : Nat} {X Y : Nat → Nat → Int} {i k : Nat} (h : ∀ r c, r < n + 1 → c < n + 1 → X r c = Y r c) : ∀ r c, r < n → c < n → wo X i k r c = wo Y i k r c := by
  intro r c hr hc
  unfold wo
  apply h
  · split <;> omega
  · split <;> omega

/-- the adjugate, whatever the size up to four -/
theorem adj_id (n : Nat) (hn : n ≤ 4) (X : Nat → Nat → Int) (i k : Nat) (hi : i < n) (hk : k < n) : sumN n (fun j => X i j * adjF n X j k) = if i = k then detF n X else 0 := by
  match n, hn with
  | 0, _ => omega
  | 1, _ =>
    obtain rfl : i = 0 := by omega
    obtain rfl : k = 0 := by omega
    simpa using adj_id1 X
  | 2, _ => exact adj_id2 X i k hi hk
  | 3, _ => exact adj_id3 X i k hi hk
  | 4, _ => exact adj_id4 X i k hi hk
/-- the determinant by the first row, from minors -/
theorem det_row (n : Nat) (X : Nat → Nat → Int) : detF (n + 1) X = sumN (n + 1) fun k => sg k * (X 0 k * detF n (wo X 0 k)) := by
  simp only [detF]
  exact sumN_congr fun k _ => by rw [Int.mul_assoc]
theorem det_zero_col (n k : Nat) (hn : n ≤ 4) (hk : k < n) (X : Nat → Nat → Int) (h : ∀ i, i < n → X i k = 0) : detF n X = 0 := by
  match n, hn with
  | 0, _ => omega
  | 1, _ =>
    have hk : k = 0 := by omega
    subst hk
    have := h 0; simp [detF, sumN, *]
  | 2, _ =>
    have h0 := h 0 (by omega); have h1 := h 1 (by omega)
    have hk : k = 0 ∨ k = 1 := by omega
    rcases hk with rfl | rfl <;> simp [detF, sumN, wo, sg] <;> grind
  | 3, _ =>
    have h0 := h 0 (by omega); have h1 := h 1 (by omega); have h2 := h 2 (by omega)
    have hk : k = 0 ∨ k = 1 ∨ k = 2 := by omega
    rcases hk with rfl | rfl | rfl <;> simp [detF, sumN, wo, sg] <;> grind
  | 4, _ =>
    have h0 := h 0 (by omega); have h1 := h 1 (by omega); have h2 := h 2 (by omega); have h3 := h 3 (by omega)
    have hk : k = 0 ∨ k = 1 ∨ k = 2 ∨ k = 3 := by omega
    rcases hk with rfl | rfl | rfl | rfl <;> simp [detF, sumN, wo, sg] <;> grind
theorem det_zero_sum (n : Nat) (hn : n ≤ 4) (h1 : 1 ≤ n) (X : Nat → Nat → Int) (h : ∀ i, i < n → sumN n (X i) = 0) : detF n X = 0 := by
  match n, hn with
  | 0, _ => omega
  | 1, _ => have h0 := h 0; simp [detF, sumN, sg] at *; exact h0
  | 2, _ =>
    have h0 := h 0 (by omega); have h1 := h 1 (by omega)
    simp [sumN] at h0 h1
    simp [detF, sumN, wo, sg]; grind
  | 3, _ =>
    have h0 := h 0 (by omega); have h1 := h 1 (by omega); have h2 := h 2 (by omega)
    simp [sumN] at h0 h1 h2
    simp [detF, sumN, wo, sg]; grind
  | 4, _ =>
    have h0 := h 0 (by omega); have h1 := h 1 (by omega); have h2 := h 2 (by omega); have h3 := h 3 (by omega)
    simp [sumN] at h0 h1 h2 h3
    have e0 : X 0 0 = - X 0 1 - X 0 2 - X 0 3 := by omega
    have e1 : X 1 0 = - X 1 1 - X 1 2 - X 1 3 := by omega
    have e2 : X 2 0 = - X 2 1 - X 2 2 - X 2 3 := by omega
    have e3 : X 3 0 = - X 3 1 - X 3 2 - X 3 3 := by omega
    simp [detF, sumN, wo, sg]
    rw [e0, e1, e2, e3]
    grind

/-! bounds -/
theorem sumN_bound {n : Nat} {f : Nat → Int} {B : Int} (h : ∀ i, i < n → -B ≤ f i ∧ f i ≤ B) : -(n * B) ≤ sumN n f ∧ sumN n f ≤ n * B := by
  induction n with
  | zero => simp [sumN]
  | succ n ih =>
    have h1 := ih fun i hi => h i (by omega)
    have h2 := h n (by omega)
    simp only [sumN]
    have e : ((n + 1 : Nat) : Int) * B = n * B + B := by rw [Int.natCast_succ]; grind
    rw [e]; omega
theorem sg_cases (k : Nat) : sg k = 1 ∨ sg k = -1 := by unfold sg; split <;> simp
/-- n! * 8^n -/
def detB : Nat → Int
  | 0 => 1
  | n + 1 => (n + 1 : Nat) * (8 * detB n)
theorem detF_bound {n : Nat} {X : Nat → Nat → Int} (h : ∀ i k, i < n → k < n → -8 ≤ X i k ∧ X i k ≤ 8) : -(detB n) ≤ detF n X ∧ detF n X ≤ detB n := by
  induction n generalizing X with
  | zero => simp [detF, detB]
  | succ n ih =>
    simp only [detF, detB]
    refine sumN_bound fun k hk => ?_
    have h1 := ih (X := wo X 0 k) (fun r c hr hc => by
      unfold wo
      apply h
      · split <;> omega
      · split <;> omega)
    have h2 := mul_bound (h 0 k (by omega) hk) h1
    rcases sg_cases k with e | e <;> rw [e]
    · simp only [Int.one_mul]; exact h2
    · have e2 : -1 * X 0 k * detF n (wo X 0 k) = - (X 0 k * detF n (wo X 0 k)) := by grind
      rw [e2]; omega
theorem sumN_add (n : Nat) (f g : Nat → Int) : sumN n (fun i => f i + g i) = sumN n f + sumN n g := by
  induction n with
  | zero => rfl
  | succ n ih => simp only [sumN]; rw [ih]; omega
theorem sumN_mul (n : Nat) (c : Int) (f : Nat → Int) : sumN n (fun i => c * f i) = c * sumN n f := by
  induction n with
  | zero => simp [sumN]
  | succ n ih => simp only [sumN]; rw [ih]; grind
theorem sumN_mul_right (n : Nat) (c : Int) (f : Nat → Int) : sumN n (fun i => f i * c) = sumN n f * c := by
  induction n with
  | zero => simp [sumN]
  | succ n ih => simp only [sumN]; rw [ih]; grind
theorem sumN_zero (n : Nat) : sumN n (fun _ => 0) = 0 := by
  induction n with
  | zero => rfl
  | succ n ih => simp only [sumN]; rw [ih]; rfl
theorem sumN_const (n : Nat) (c : Int) : sumN n (fun _ => c) = n * c := by
  induction n with
  | zero => simp [sumN]
  | succ n ih => simp only [sumN]; rw [ih]; rw [Int.natCast_succ]; grind
theorem sumN_comm (n m : Nat) (f : Nat → Nat → Int) : sumN n (fun i => sumN m (f i)) = sumN m (fun k => sumN n fun i => f i k) := by
  induction n with
  | zero => simp [sumN, sumN_zero]
  | succ n ih => simp only [sumN]; rw [ih, ← sumN_add]
theorem sumN_prod (n m : Nat) (f g : Nat → Int) : sumN n f * sumN m g = sumN n (fun i => sumN m fun k => f i * g k) := by
  rw [← sumN_mul_right]
  exact sumN_congr fun i _ => (sumN_mul m (f i) g).symm
/-- one term of a sum -/
theorem sumN_delta (n k : Nat) (hk : k < n) (c : Nat → Int) : sumN n (fun i => if i = k then c i else 0) = c k := by
  induction n with
  | zero => omega
  | succ n ih =>
    simp only [sumN]
    by_cases e : k = n
    · subst e
      rw [sumN_congr (g := fun _ => 0) (fun i hi => if_neg (by omega)), sumN_zero]; simp
    · rw [ih (by omega), if_neg (by omega)]; omega
theorem sumN_nonneg {n : Nat} {f : Nat → Int} (h : ∀ i, i < n → 0 ≤ f i) : 0 ≤ sumN n f := by
  induction n with
  | zero => simp [sumN]
  | succ n ih => simp only [sumN]; have := ih fun i hi => h i (by omega); have := h n (by omega); omega
theorem sumN_eq_zero {n : Nat} {f : Nat → Int} (h : ∀ i, i < n → 0 ≤ f i) (h0 : sumN n f = 0) : ∀ i, i < n → f i = 0 := by
  induction n with
  | zero => intro i hi; omega
  | succ n ih =>
    simp only [sumN] at h0
    have h1 := sumN_nonneg (n := n) fun i hi => h i (by omega)
    have h2 := h n (by omega)
    intro i hi
    by_cases e : i = n
    · subst e; omega
    · exact ih (fun i hi => h i (by omega)) (by omega) i (by omega)

/-- A matrix whose rows are orthogonal of one weight has such columns, too. -/
theorem orth_cols (n : Nat) (M : Nat → Nat → Int) (w : Int) (h : ∀ i k, i < n → k < n → sumN n (fun j => M i j * M k j) = if i = k then w else 0) :
    ∀ i k, i < n → k < n → sumN n (fun j => M j i * M j k) = if i = k then w else 0 := by
  let P : Nat → Nat → Int := fun i k => sumN n (fun j => M j i * M j k)
  -- the squares of P
  have hsq : sumN n (fun i => sumN n fun k => P i k * P i k) = n * (w * w) := by
    have e1 : ∀ i k, P i k * P i k = sumN n (fun j => sumN n fun l => (M j i * M l i) * (M j k * M l k)) := by
      intro i k
      show sumN n _ * sumN n _ = _
      rw [sumN_prod]
      exact sumN_congr fun j _ => sumN_congr fun l _ => by grind
    have e2 : sumN n (fun i => sumN n fun k => P i k * P i k) = sumN n (fun j => sumN n fun l => sumN n (fun i => M j i * M l i) * sumN n (fun k => M j k * M l k)) := by
      have a1 : sumN n (fun i => sumN n fun k => P i k * P i k) = sumN n (fun i => sumN n fun k => sumN n (fun j => sumN n fun l => (M j i * M l i) * (M j k * M l k))) :=
        sumN_congr fun i _ => sumN_congr fun k _ => e1 i k
      rw [a1]
      -- bring j and l to the front
      have a2 : ∀ i, sumN n (fun k => sumN n (fun j => sumN n fun l => (M j i * M l i) * (M j k * M l k))) = sumN n (fun j => sumN n fun l => (M j i * M l i) * sumN n (fun k => M j k * M l k)) := by
        intro i
        rw [sumN_comm n n (fun k j => sumN n fun l => (M j i * M l i) * (M j k * M l k))]
        refine sumN_congr fun j _ => ?_
        rw [sumN_comm n n (fun k l => (M j i * M l i) * (M j k * M l k))]
        exact sumN_congr fun l _ => sumN_mul n _ _
      rw [sumN_congr fun i _ => a2 i]
      rw [sumN_comm n n (fun i j => sumN n fun l => (M j i * M l i) * sumN n (fun k => M j k * M l k))]
      refine sumN_congr fun j _ => ?_
      rw [sumN_comm n n (fun i l => (M j i * M l i) * sumN n (fun k => M j k * M l k))]
      exact sumN_congr fun l _ => sumN_mul_right n _ _
    rw [e2]
    have e3 : ∀ j, j < n → sumN n (fun l => sumN n (fun i => M j i * M l i) * sumN n (fun k => M j k * M l k)) = w * w := by
      intro j hj
      rw [sumN_congr (g := fun l => if l = j then w * w else 0) (fun l hl => by
        rw [h j l hj hl]
        by_cases e : j = l
        · simp [e]
        · rw [if_neg e, if_neg (fun e' => e e'.symm)]; simp)]
      exact sumN_delta n j hj (fun _ => w * w)
    rw [sumN_congr e3, sumN_const]
  have htr : sumN n (fun i => P i i) = n * w := by
    show sumN n (fun i => sumN n fun j => M j i * M j i) = _
    rw [sumN_comm n n (fun i j => M j i * M j i)]
    rw [sumN_congr (g := fun _ => w) (fun j hj => by have := h j j hj hj; simpa using this), sumN_const]
  have hS : sumN n (fun i => sumN n fun k => (P i k - if i = k then w else 0) * (P i k - if i = k then w else 0)) = 0 := by
    have e1 : ∀ i k, (P i k - if i = k then w else 0) * (P i k - if i = k then w else 0) = P i k * P i k + ((if k = i then (w * w - 2 * w * P i k) else 0)) := by
      intro i k
      by_cases e : i = k
      · subst e; simp; grind
      · rw [if_neg e, if_neg (fun e' => e e'.symm)]; simp
    rw [sumN_congr fun i _ => sumN_congr fun k _ => e1 i k]
    have e2 : ∀ i, i < n → sumN n (fun k => P i k * P i k + ((if k = i then (w * w - 2 * w * P i k) else 0))) = sumN n (fun k => P i k * P i k) + (w * w + (-(2 * w)) * P i i) := by
      intro i hi
      rw [sumN_add, sumN_delta n i hi (fun k => w * w - 2 * w * P i k)]
      grind
    rw [sumN_congr e2, sumN_add, hsq, sumN_add, sumN_const, sumN_mul, htr]
    grind
  have hz := sumN_eq_zero (fun i _ => sumN_nonneg fun k _ => by
    generalize (P i k - if i = k then w else 0) = x
    rcases Int.le_total 0 x with hx | hx
    · exact Int.mul_nonneg hx hx
    · have := Int.mul_nonneg (show 0 ≤ -x by omega) (show 0 ≤ -x by omega); grind) hS
  intro i k hi hk
  have h1 := sumN_eq_zero (fun k _ => by
    generalize (P i k - if i = k then w else 0) = x
    rcases Int.le_total 0 x with hx | hx
    · exact Int.mul_nonneg hx hx
    · have := Int.mul_nonneg (show 0 ≤ -x by omega) (show 0 ≤ -x by omega); grind) (hz i hi) k hk
  have h2 : P i k - (if i = k then w else 0) = 0 := by
    rcases Int.mul_eq_zero.1 h1 with h | h <;> exact h
  show P i k = _
  omega
end Go.Proofs.Ytefgdkjcoeikmaa
