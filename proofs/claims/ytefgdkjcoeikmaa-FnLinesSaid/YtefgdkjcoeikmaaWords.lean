/- Plain words: what the functions on lists of integers compute. No program, no condition. -/
import Derived.Test.YtefgdkjcoeikmaaMath
namespace Go.Proofs.Ytefgdkjcoeikmaa
def clampI (x lo hi : Int) : Int := if x < lo then lo else if hi < x then hi else x
def playStepI (d s i : Int) : Int := if inB d 0 100 && inB s (-20000) 20000 && inB i (-20000) 20000 then clampI s (i - d) (i + d) else s
def roundI (n s : Int) : Int := if inB s 1 1000 && inB n (-1000000) 1000000 then nearI n s else n
def allB (lo hi : Int) (X : Nat → Int) : Nat → Bool
  | 0 => true
  | n + 1 => allB lo hi X n && inB (X n) lo hi
theorem allB_iff {lo hi : Int} {X : Nat → Int} {n : Nat} : allB lo hi X n = true ↔ ∀ i, i < n → lo ≤ X i ∧ X i ≤ hi := by
  induction n with
  | zero => simp [allB]
  | succ n ih =>
    simp only [allB, Bool.and_eq_true, ih, inB_true]
    constructor
    · rintro ⟨h1, h2⟩ i hi
      by_cases e : i = n
      · subst e; exact h2
      · exact h1 i (by omega)
    · exact fun h => ⟨fun i hi => h i (by omega), h n (by omega)⟩
theorem allB_no {lo hi : Int} {X : Nat → Int} {n k : Nat} (hk : k < n) (h : inB (X k) lo hi = false) : allB lo hi X n = false := by
  cases e : allB lo hi X n
  · rfl
  · exact absurd (inB_true.2 (allB_iff.1 e k hk)) (by rw [h]; simp)
theorem allB_yes {lo hi : Int} {X : Nat → Int} {k : Nat} (h1 : allB lo hi X k = true) (h : inB (X k) lo hi = true) : allB lo hi X (k + 1) = true := by simp [allB, h1, h]
theorem allB_congr {lo hi : Int} {X Y : Nat → Int} {n : Nat} (h : ∀ i, i < n → X i = Y i) : allB lo hi X n = allB lo hi Y n := by
  rw [Bool.eq_iff_iff, allB_iff, allB_iff]
  exact ⟨fun g i hi => by rw [← h i hi]; exact g i hi, fun g i hi => by rw [h i hi]; exact g i hi⟩
/-- what is shown after k inputs -/
def playF (d s : Int) (X : Nat → Int) : Nat → Int
  | 0 => s
  | k + 1 => playStepI d (playF d s X k) (X k)
/-- the moves among the first k -/
def movesF (F : Nat → Int) : Nat → Int
  | 0 => 0
  | k + 1 => if F (k + 1) = F k then movesF F k else movesF F k + 1
/-- the greatest lag among the first k -/
def lagF (X F : Nat → Int) : Nat → Int
  | 0 => 0
  | k + 1 => max (lagF X F k) (max (X k - F (k + 1)) (F (k + 1) - X k))
/-- what is carried into the rounding of element k -/
def restF (s : Int) (X : Nat → Int) : Nat → Int
  | 0 => 0
  | k + 1 => X k + restF s X k - roundI (X k + restF s X k) s
def carryF (s : Int) (X : Nat → Int) (k : Nat) : Int := roundI (X k + restF s X k) s
end Go.Proofs.Ytefgdkjcoeikmaa
