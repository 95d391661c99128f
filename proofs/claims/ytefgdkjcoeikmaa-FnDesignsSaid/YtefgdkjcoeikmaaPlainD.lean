/- Plain laws of the drawn determinants: where the readings of two lists of values are the same, the design is not determined. No program. -/
import Derived.Test.YtefgdkjcoeikmaaDet3
import Derived.Test.YtefgdkjcoeikmaaMat7
namespace Go.Proofs.Ytefgdkjcoeikmaa
open Go.ChangeShapes Go.WideShapes Go.ChangeAt Go.RowKit
set_option linter.unusedVariables false
set_option linter.unusedSimpArgs false

theorem read_len {n m : Nat} {L : Nat → Nat} {X : Nat → Nat → Int} {V : Nat → Int} (h : readOkB n L X m V = true) : designOkB n L X = true ∧ m = L 0 := by
  simp only [readOkB, Bool.and_eq_true, decide_eq_true_eq] at h
  exact ⟨h.1, h.2.1⟩
theorem det_differs {n m k : Nat} {L : Nat → Nat} {X : Nat → Nat → Int} {V U : Nat → Int} (h : sameReadB n L X m m V U = true) (hk : k < m) (hne : V k ≠ U k) : gdet n L X = 0 := by
  simp only [sameReadB, sameB, Bool.and_eq_true] at h
  obtain ⟨h1, h2, _, h3⟩ := h
  obtain ⟨hD, hm⟩ := read_len h1
  obtain ⟨_, ⟨_, m2⟩, _⟩ := design_iff.1 hD
  have hS : ∀ r, r < n → sumN m (fun i => X r i * (V i - U i)) = 0 := by
    intro r hr
    have q := allR_iff.1 h3 r hr
    simp only [sameF, beq_iff_eq, readF, dot] at q
    have e : sumN m (fun i => X r i * (V i - U i)) = sumN m (fun i => X r i * V i) + sumN m (fun i => (-1) * (X r i * U i)) := by
      rw [← sumN_add]; exact sumN_congr fun i _ => by grind
    rw [e, sumN_mul, q]; omega
  have hG : ∀ j, sumN m (fun i => (V i - U i) * gramF n X i j) = 0 := by
    intro j
    have e1 : sumN m (fun i => (V i - U i) * gramF n X i j) = sumN m (fun i => sumN n fun r => (V i - U i) * (X r i * X r j)) := sumN_congr fun i _ => (sumN_mul n _ _).symm
    rw [e1, sumN_comm]
    have e2 : ∀ r, r < n → sumN m (fun i => (V i - U i) * (X r i * X r j)) = 0 := by
      intro r hr
      have e3 : sumN m (fun i => (V i - U i) * (X r i * X r j)) = X r j * sumN m (fun i => X r i * (V i - U i)) := by
        rw [← sumN_mul]; exact sumN_congr fun i _ => by grind
      rw [e3, hS r hr, Int.mul_zero]
    rw [sumN_congr e2, sumN_zero]
  have hA : sumN m (fun i => (V i - U i) * sumN m (fun j => gramF n X i j * adjF m (gramF n X) j k)) = (V k - U k) * detF m (gramF n X) := by
    have e1 : ∀ i, i < m → (V i - U i) * sumN m (fun j => gramF n X i j * adjF m (gramF n X) j k) = if i = k then (V i - U i) * detF m (gramF n X) else 0 := by
      intro i hi
      rw [adj_id m (by omega) (gramF n X) i k hi hk]
      split <;> simp
    rw [sumN_congr e1]
    exact sumN_delta m k hk (fun i => (V i - U i) * detF m (gramF n X))
  have hB : sumN m (fun i => (V i - U i) * sumN m (fun j => gramF n X i j * adjF m (gramF n X) j k)) = 0 := by
    have e1 : sumN m (fun i => (V i - U i) * sumN m (fun j => gramF n X i j * adjF m (gramF n X) j k)) = sumN m (fun i => sumN m fun j => (V i - U i) * (gramF n X i j * adjF m (gramF n X) j k)) := sumN_congr fun i _ => (sumN_mul m _ _).symm
    rw [e1, sumN_comm]
    have e2 : ∀ j, j < m → sumN m (fun i => (V i - U i) * (gramF n X i j * adjF m (gramF n X) j k)) = 0 := by
      intro j hj
      have e3 : sumN m (fun i => (V i - U i) * (gramF n X i j * adjF m (gramF n X) j k)) = adjF m (gramF n X) j k * sumN m (fun i => (V i - U i) * gramF n X i j) := by
        rw [← sumN_mul]; exact sumN_congr fun i _ => by grind
      rw [e3, hG j, Int.mul_zero]
    rw [sumN_congr e2, sumN_zero]
  rw [hA] at hB
  unfold gdet
  rw [← hm]
  rcases Int.mul_eq_zero.1 hB with h | h
  · omega
  · exact h
/-- a determined design tells lists of values apart -/
theorem det_tells {n m k : Nat} {L : Nat → Nat} {X : Nat → Nat → Int} {V U : Nat → Int} (hk : k < m) (hne : V k ≠ U k) : (!isDetB n L X || !sameReadB n L X m m V U) = true := by
  cases h : sameReadB n L X m m V U
  · simp
  · simp [isDetB, det_differs h hk hne]
/-- a sum by rows of a square and its adjugate, as far as j -/
def rowAdj (n : Nat) (X : Nat → Nat → Int) (i k : Nat) (j : Nat) : Int := sumN j fun q => X i q * adjF n X q k
/-- the first row's sum, as far as i -/
def rowDet (n : Nat) (X : Nat → Nat → Int) (i : Nat) : Int := sumN i fun q => sg q * (X 0 q * detF (n - 1) (wo X 0 q))
theorem rowDet_eq {n : Nat} (h : 1 ≤ n) (X : Nat → Nat → Int) : rowDet n X n = detF n X := by
  obtain ⟨m, rfl⟩ : ∃ m, n = m + 1 := ⟨n - 1, by omega⟩
  rw [det_row]; rfl
theorem rowAdj_succ (n : Nat) (X : Nat → Nat → Int) (i k j : Nat) : rowAdj n X i k (j + 1) = rowAdj n X i k j + X i j * adjF n X j k := rfl
theorem rowDet_even {n : Nat} {X : Nat → Nat → Int} {i : Nat} (h : ¬ i % 2 = 1) : rowDet n X (i + 1) = rowDet n X i + X 0 i * detF (n - 1) (wo X 0 i) := by
  simp [rowDet, sumN, sg, h]
theorem rowDet_odd {n : Nat} {X : Nat → Nat → Int} {i : Nat} (h : i % 2 = 1) : rowDet n X (i + 1) = rowDet n X i + -(X 0 i * detF (n - 1) (wo X 0 i)) := by
  simp [rowDet, sumN, sg, h]
theorem prod_in {x y A B : Int} (h1 : -A ≤ x) (h2 : x ≤ A) (h3 : -B ≤ y) (h4 : y ≤ B) : -(A * B) ≤ x * y ∧ x * y ≤ A * B := mul_bound ⟨h1, h2⟩ ⟨h3, h4⟩
end Go.Proofs.Ytefgdkjcoeikmaa
