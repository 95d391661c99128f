/- Plain mathematics: ranges, reduced fractions, rounding to a step. No program, no condition. -/
namespace Go.Proofs.Ytefgdkjcoeikmaa

def inB (n lo hi : Int) : Bool := decide (lo ≤ n) && decide (n ≤ hi)
theorem inB_true {n lo hi : Int} : inB n lo hi = true ↔ lo ≤ n ∧ n ≤ hi := by simp [inB]
theorem inB_false {n lo hi : Int} : inB n lo hi = false ↔ ¬ (lo ≤ n ∧ n ≤ hi) := by
  rw [← inB_true]; simp

theorem mul_bound {x y A B : Int} (hx : -A ≤ x ∧ x ≤ A) (hy : -B ≤ y ∧ y ≤ B) : -(A * B) ≤ x * y ∧ x * y ≤ A * B := by
  have a1 : 0 ≤ A := by omega
  have b1 : 0 ≤ B := by omega
  have p1 := Int.mul_nonneg (show 0 ≤ A - x by omega) (show 0 ≤ B - y by omega)
  have p2 := Int.mul_nonneg (show 0 ≤ A + x by omega) (show 0 ≤ B + y by omega)
  have p3 := Int.mul_nonneg (show 0 ≤ A - x by omega) (show 0 ≤ B + y by omega)
  have p4 := Int.mul_nonneg (show 0 ≤ A + x by omega) (show 0 ≤ B - y by omega)
  constructor <;> grind

/-! fractions -/
def fracOk (t b : Int) : Bool := inB t (-1000000) 1000000 && inB b 1 1000000 && decide ((Int.gcd t b : Int) = 1)

/-- the top of the reduced fraction t / b, its sign moved up -/
def nt (t b : Int) : Int := (if b < 0 then -t else t).tdiv (Int.gcd t b)
def nb (t b : Int) : Int := (if b < 0 then -b else b).tdiv (Int.gcd t b)
def redOk (t b : Int) : Bool := fracOk (nt t b) (nb t b)
def redT (t b : Int) : Int := if redOk t b then nt t b else 0
def redB (t b : Int) : Int := if redOk t b then nb t b else 0

theorem gcd_pos {t b : Int} (hb : b ≠ 0) : 0 < (Int.gcd t b : Int) := by
  have := Int.gcd_pos_of_ne_zero_right t hb
  omega

/-- t / b, reduced: the two parts say what they are -/
theorem red_spec {t b : Int} (hb : b ≠ 0) : 0 < nb t b ∧ Int.gcd (nt t b) (nb t b) = 1 ∧ nt t b * b = t * nb t b := by
  have hg := gcd_pos (t := t) hb
  obtain ⟨x, hx⟩ := Int.gcd_dvd_left t b
  obtain ⟨y, hy⟩ := Int.gcd_dvd_right t b
  have hg0 : (Int.gcd t b : Int) ≠ 0 := by omega
  have key : Int.gcd x y = 1 := by
    have h2 : 0 < Int.gcd t b := by omega
    have h1 : ∀ g : Nat, t = (g : Int) * x → b = (g : Int) * y → Int.gcd t b = g * Int.gcd x y := by
      intro g e1 e2
      rw [e1, e2, Int.gcd_mul_left]; simp
    have h3 := h1 _ hx hy
    exact Nat.eq_of_mul_eq_mul_left h2 (by omega)
  have ht : nt t b = if b < 0 then -x else x := by
    unfold nt
    split
    · rw [show -t = (Int.gcd t b : Int) * (-x) by rw [Int.mul_neg, ← hx]]
      exact Int.mul_tdiv_cancel_left _ hg0
    · conv => lhs; arg 1; rw [hx]
      exact Int.mul_tdiv_cancel_left _ hg0
  have hbb : nb t b = if b < 0 then -y else y := by
    unfold nb
    split
    · rw [show -b = (Int.gcd t b : Int) * (-y) by rw [Int.mul_neg, ← hy]]
      exact Int.mul_tdiv_cancel_left _ hg0
    · conv => lhs; arg 1; rw [hy]
      exact Int.mul_tdiv_cancel_left _ hg0
  rw [ht, hbb]
  generalize (Int.gcd t b : Int) = g at *
  refine ⟨?_, ?_, ?_⟩
  · split
    · have : ¬ (0 ≤ y) := fun h => by have := Int.mul_nonneg (Int.le_of_lt hg) h; omega
      omega
    · rcases Int.lt_trichotomy y 0 with h | h | h
      · have := Int.mul_neg_of_pos_of_neg hg h; omega
      · subst h; simp at hy; omega
      · exact h
  · split <;> simp [key, Int.gcd_neg, Int.neg_gcd]
  · subst hx hy
    split <;> grind

theorem dvd_of_gcd {a b c : Int} (h : a ∣ b * c) (g : Int.gcd b a = 1) : a ∣ c := by
  have h1 : a.natAbs ∣ b.natAbs * c.natAbs := by rw [← Int.natAbs_mul]; exact Int.natAbs_dvd_natAbs.2 h
  have h2 : Nat.Coprime a.natAbs b.natAbs := by unfold Nat.Coprime; rw [Nat.gcd_comm]; exact g
  exact Int.natAbs_dvd_natAbs.1 (Nat.Coprime.dvd_of_dvd_mul_left h2 h1)

/-- two reduced fractions with one value are one -/
theorem red_unique {t b t' b' : Int} (hb : 0 < b) (hb' : 0 < b') (g : Int.gcd t b = 1) (g' : Int.gcd t' b' = 1) (h : t * b' = t' * b) : t = t' ∧ b = b' := by
  have d1 : b ∣ b' := by
    have : b ∣ t * b' := ⟨t', by rw [h, Int.mul_comm]⟩
    exact dvd_of_gcd this g
  have d2 : b' ∣ b := by
    have : b' ∣ t' * b := ⟨t, by rw [← h, Int.mul_comm]⟩
    exact dvd_of_gcd this g'
  have e : b = b' := Int.dvd_antisymm (by omega) (by omega) d1 d2
  subst e
  exact ⟨Int.eq_of_mul_eq_mul_right (by omega) h, rfl⟩

/-- the value alone decides the reduced fraction -/
theorem red_congr {t b t' b' : Int} (hb : b ≠ 0) (hb' : b' ≠ 0) (h : t * b' = t' * b) : nt t b = nt t' b' ∧ nb t b = nb t' b' := by
  obtain ⟨p1, g1, e1⟩ := red_spec (t := t) hb
  obtain ⟨p2, g2, e2⟩ := red_spec (t := t') hb'
  refine red_unique p1 p2 g1 g2 ?_
  have hbb : b * b' ≠ 0 := Int.mul_ne_zero hb hb'
  refine Int.eq_of_mul_eq_mul_right hbb ?_
  grind

theorem redOk_congr {t b t' b' : Int} (hb : b ≠ 0) (hb' : b' ≠ 0) (h : t * b' = t' * b) : redOk t b = redOk t' b' := by
  obtain ⟨e1, e2⟩ := red_congr hb hb' h
  unfold redOk; rw [e1, e2]
theorem redT_congr {t b t' b' : Int} (hb : b ≠ 0) (hb' : b' ≠ 0) (h : t * b' = t' * b) : redT t b = redT t' b' := by
  unfold redT; rw [redOk_congr hb hb' h, (red_congr hb hb' h).1]
theorem redB_congr {t b t' b' : Int} (hb : b ≠ 0) (hb' : b' ≠ 0) (h : t * b' = t' * b) : redB t b = redB t' b' := by
  unfold redB; rw [redOk_congr hb hb' h, (red_congr hb hb' h).2]

theorem fracOk_iff {t b : Int} : fracOk t b = true ↔ (-1000000 ≤ t ∧ t ≤ 1000000) ∧ (1 ≤ b ∧ b ≤ 1000000) ∧ Int.gcd t b = 1 := by
  have : ((Int.gcd t b : Int) = 1) ↔ Int.gcd t b = 1 := by omega
  simp [fracOk, inB, and_assoc, this]
/-- what is valid is reduced already -/
theorem red_of_ok {t b : Int} (h : fracOk t b = true) : nt t b = t ∧ nb t b = b := by
  obtain ⟨_, h2, h3⟩ := fracOk_iff.1 h
  unfold nt nb
  rw [h3, if_neg (by omega), if_neg (by omega)]
  simp
theorem redT_of_ok {t b : Int} (h : fracOk t b = true) : redT t b = t ∧ redB t b = b ∧ redOk t b = true := by
  obtain ⟨e1, e2⟩ := red_of_ok h
  have : redOk t b = true := by unfold redOk; rw [e1, e2]; exact h
  unfold redT redB
  rw [this, e1, e2]; simp
/-- a result that was found is valid -/
theorem red_ok {t b : Int} (h : redOk t b = true) : fracOk (redT t b) (redB t b) = true ∧ redT t b = nt t b ∧ redB t b = nb t b := by
  unfold redT redB; rw [h]; simp; exact h
/-- and has the value -/
theorem red_val {t b : Int} (hb : b ≠ 0) (h : redOk t b = true) : redT t b * b = t * redB t b := by
  rw [(red_ok h).2.1, (red_ok h).2.2]; exact (red_spec hb).2.2
/-- when is it found: where the value has parts within the bounds -/
theorem redOk_of {t b x y : Int} (hb : b ≠ 0) (hy : 1 ≤ y) (hv : t * y = x * b) (h1 : -1000000 ≤ x) (h2 : x ≤ 1000000) (h3 : y ≤ 1000000) : redOk t b = true := by
  have hy0 : y ≠ 0 := by omega
  obtain ⟨p1, g1, e1⟩ := red_spec (t := x) hy0
  obtain ⟨c1, c2⟩ := red_congr hb hy0 hv
  unfold redOk
  rw [c1, c2]
  -- the reduced parts are no greater
  have hd : nb x y ∣ y := by
    have : nb x y ∣ nt x y * y := ⟨x, by rw [e1, Int.mul_comm]⟩
    exact dvd_of_gcd this g1
  obtain ⟨c, hc⟩ := hd
  have hcpos : 1 ≤ c := by
    rcases Int.lt_or_le c 1 with h | h
    · have := Int.mul_nonneg (a := nb x y) (b := -c) (by omega) (by omega)
      rw [Int.mul_neg] at this
      omega
    · exact h
  have hx : x = nt x y * c := by
    have : nt x y * c * nb x y = x * nb x y := by rw [← e1, hc]; grind
    exact (Int.eq_of_mul_eq_mul_right (by omega) this).symm
  generalize nt x y = p at *
  generalize nb x y = q at *
  have hq : q ≤ y := by
    rw [hc]
    have := Int.mul_nonneg (a := q) (b := c - 1) (by omega) (by omega)
    grind
  have hp1 : p ≤ 1000000 := by
    rcases Int.lt_or_le p 0 with h | h
    · omega
    · have := Int.mul_nonneg (a := p) (b := c - 1) (by omega) (by omega)
      have : p ≤ p * c := by grind
      omega
  have hp2 : -1000000 ≤ p := by
    rcases Int.lt_or_le p 0 with h | h
    · have := Int.mul_nonneg (a := -p) (b := c - 1) (by omega) (by omega)
      have : p * c ≤ p := by grind
      omega
    · omega
  exact fracOk_iff.2 ⟨⟨hp2, hp1⟩, ⟨by omega, by omega⟩, g1⟩
/-! rounding: as the text computes it -/
/-- the number of steps, from the whole steps below -/
def upK (n s k : Int) : Int := if s < 2 * (n - k * s) then k + 1 else if 2 * (n - k * s) = s ∧ k.tmod 2 ≠ 0 then k + 1 else k
def lowK (n s : Int) : Int := if n.tmod s < 0 then n.tdiv s - 1 else n.tdiv s
def nearI (n s : Int) : Int := upK n s (lowK n s) * s

theorem lowK_eq {n s : Int} (hs : 1 ≤ s) : lowK n s = n / s := by
  unfold lowK
  have h1 := Int.mul_tdiv_add_tmod n s
  have h2 := Int.mul_ediv_add_emod n s
  have h3 := Int.emod_nonneg n (show s ≠ 0 by omega)
  have h4 := Int.emod_lt_of_pos n (show 0 < s by omega)
  have h5 := Int.tmod_lt_of_pos n (show 0 < s by omega)
  have h6 : -s < n.tmod s := by
    have := Int.tmod_lt_of_pos (-n) (show 0 < s by omega)
    rw [Int.neg_tmod] at this; omega
  generalize n.tdiv s = q at *
  generalize n.tmod s = r at *
  generalize n / s = q' at *
  generalize n % s = r' at *
  have hmul : s * q - s * q' = s * (q - q') := by grind
  have hcase : ∀ d : Int, 1 ≤ d → s ≤ s * d := fun d hd => by
    have := Int.mul_le_mul_of_nonneg_left hd (show 0 ≤ s by omega); omega
  have hs2 : ∀ d : Int, 2 ≤ d → 2 * s ≤ s * d := fun d hd => by
    have := Int.mul_le_mul_of_nonneg_left hd (show 0 ≤ s by omega); omega
  have hneg : s * (q' - q) = - (s * (q - q')) := by grind
  split
  · rcases Int.lt_trichotomy (q - q') 1 with h | h | h
    · have := hcase (q' - q + 0)
      rcases Int.lt_or_le (q - q') 0 with h' | h'
      · have := hcase (q' - q) (by omega); omega
      · have e : q - q' = 0 := by omega
        rw [e] at hmul; omega
    · omega
    · have := hs2 (q - q') (by omega); omega
  · rcases Int.lt_trichotomy (q - q') 0 with h | h | h
    · have := hcase (q' - q) (by omega); omega
    · omega
    · have := hcase (q - q') (by omega); omega

/-- half steps are the worst -/
theorem nearI_err {n s : Int} (hs : 1 ≤ s) : 2 * (nearI n s - n) ≤ s ∧ -s ≤ 2 * (nearI n s - n) := by
  unfold nearI
  rw [lowK_eq hs]
  have h2 := Int.mul_ediv_add_emod n s
  have h3 := Int.emod_nonneg n (show s ≠ 0 by omega)
  have h4 := Int.emod_lt_of_pos n (show 0 < s by omega)
  have e1 : n / s * s = s * (n / s) := Int.mul_comm _ _
  have e2 : (n / s + 1) * s = s * (n / s) + s := by grind
  unfold upK
  generalize n / s = k at *
  split
  · rw [e2]; omega
  · split
    · rw [e2]; omega
    · rw [e1]; omega

/-- what is nearest by half a step, strictly, is the one -/
theorem nearI_of {n s k : Int} (hs : 1 ≤ s) (h1 : 2 * (n - k * s) < s) (h2 : -s < 2 * (n - k * s)) : nearI n s = k * s := by
  have h := nearI_err (n := n) hs
  unfold nearI at *
  generalize upK n s (lowK n s) = m at *
  have e : (m - k) * s = m * s - k * s := by grind
  rcases Int.lt_trichotomy m k with hm | hm | hm
  · have := Int.mul_le_mul_of_nonneg_right (show m - k ≤ -1 by omega) (show 0 ≤ s by omega); omega
  · rw [hm]
  · have := Int.mul_le_mul_of_nonneg_right (show 1 ≤ m - k by omega) (show 0 ≤ s by omega); omega

theorem nearI_mul {k s : Int} (hs : 1 ≤ s) : nearI (k * s) s = k * s := nearI_of hs (by omega) (by omega)
theorem nearI_self {s : Int} (hs : 1 ≤ s) : nearI s s = s := by have := nearI_mul (k := 1) hs; simpa using this
theorem nearI_twice {n s : Int} (hs : 1 ≤ s) : nearI (nearI n s) s = nearI n s := nearI_mul hs
theorem nearI_dvd {n s : Int} : (nearI n s).tmod s = 0 := by unfold nearI; exact Int.mul_tmod_left _ _

theorem tmod2 (k : Int) : k.tmod 2 ≠ 0 ↔ k % 2 = 1 := by
  rcases Int.le_total 0 k with h | h
  · rw [Int.tmod_eq_emod_of_nonneg h]; omega
  · have e : k.tmod 2 = -((-k).tmod 2) := by rw [Int.neg_tmod]; omega
    rw [e, Int.tmod_eq_emod_of_nonneg (show 0 ≤ -k by omega)]; omega

/-- the other sign -/
theorem nearI_neg {n s : Int} (hs : 1 ≤ s) : nearI (-n) s = - nearI n s := by
  have a := nearI_err (n := n) hs
  by_cases ht : 2 * (nearI n s - n) = s ∨ 2 * (nearI n s - n) = -s
  · -- a tie: both are even multiples
    have hk := Int.mul_ediv_add_emod n s
    have h3 := Int.emod_nonneg n (show s ≠ 0 by omega)
    have h4 := Int.emod_lt_of_pos n (show 0 < s by omega)
    have key : 2 * (n % s) = s := by
      unfold nearI upK at ht
      rw [lowK_eq hs] at ht
      have e1 : n / s * s = s * (n / s) := Int.mul_comm _ _
      have e2 : (n / s + 1) * s = s * (n / s) + s := by grind
      generalize n / s = k at *
      split at ht
      · rw [e2] at ht; omega
      · split at ht
        · rw [e2] at ht; omega
        · rw [e1] at ht; omega
    -- -n = s * (-(n/s) - 1) + n % s
    have hd : (-n) / s = -(n / s) - 1 := by
      have : -n = s * (-(n / s) - 1) + n % s := by grind
      rw [this, Int.mul_add_ediv_left _ _ (show s ≠ 0 by omega), Int.ediv_eq_zero_of_lt h3 h4]; omega
    unfold nearI upK
    rw [lowK_eq hs, lowK_eq hs, hd]
    have e1 : n / s * s = s * (n / s) := Int.mul_comm _ _
    have e3 : (-(n / s) - 1) * s = - (s * (n / s)) - s := by grind
    generalize hq : n / s = k at *
    simp only [tmod2]
    have t1 : ¬ s < 2 * (n - k * s) := by rw [e1]; omega
    have t2 : ¬ s < 2 * (-n - (-k - 1) * s) := by rw [e3]; omega
    rw [if_neg t1, if_neg t2]
    have t3 : 2 * (n - k * s) = s := by rw [e1]; omega
    have t4 : 2 * (-n - (-k - 1) * s) = s := by rw [e3]; omega
    by_cases hp : k % 2 = 1
    · rw [if_neg (show ¬ (2 * (-n - (-k - 1) * s) = s ∧ (-k - 1) % 2 = 1) from fun h => by have := h.2; omega), if_pos (show 2 * (n - k * s) = s ∧ k % 2 = 1 from ⟨t3, hp⟩)]; grind
    · rw [if_pos (show 2 * (-n - (-k - 1) * s) = s ∧ (-k - 1) % 2 = 1 from ⟨t4, by omega⟩), if_neg (show ¬ (2 * (n - k * s) = s ∧ k % 2 = 1) from fun h => hp h.2)]; grind
  · -- no tie
    have : nearI n s = upK n s (lowK n s) * s := rfl
    generalize hm : upK n s (lowK n s) = m at *
    rw [this] at ht a ⊢
    have e : -m * s = - (m * s) := by grind
    rw [nearI_of (k := -m) hs (by rw [e]; omega) (by rw [e]; omega), e]

theorem nearI_bound {n s : Int} (hs : 1 ≤ s) (hs2 : s ≤ 1000) (h1 : -1000000 ≤ n) (h2 : n ≤ 1000000) : -1000500 ≤ nearI n s ∧ nearI n s ≤ 1000500 := by
  have := nearI_err (n := n) hs; omega
end Go.Proofs.Ytefgdkjcoeikmaa
