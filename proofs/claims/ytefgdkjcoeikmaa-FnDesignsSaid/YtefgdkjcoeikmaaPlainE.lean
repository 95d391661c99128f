/- Plain laws of drawn designs. No program. -/
import Derived.Test.YtefgdkjcoeikmaaPlainD
import Derived.Test.YtefgdkjcoeikmaaMat4
namespace Go.Proofs.Ytefgdkjcoeikmaa
open Go.ChangeShapes Go.WideShapes Go.ChangeAt Go.RowKit
set_option linter.unusedVariables false
set_option linter.unusedSimpArgs false

theorem same_refl {n m : Nat} {L : Nat → Nat} {X : Nat → Nat → Int} {V : Nat → Int} (h : readOkB n L X m V = true) : sameReadB n L X m m V V = true := by
  have q : allR (sameF (readF m X V) (readF m X V)) n = true := allR_iff.2 fun i _ => by simp [sameF]
  simp [sameReadB, h, sameB, q]
theorem diff_parts {n : Nat} {L : Nat → Nat} {X : Nat → Nat → Int} (h : diffOkB n L X = true) : designOkB n L X = true ∧ ∀ i, i < n → sumN (L 0) (X i) = 0 := by
  simp only [diffOkB, Bool.and_eq_true, allR_iff] at h
  obtain ⟨_, _, hD⟩ := design_iff.1 h.1
  refine ⟨h.1, fun i hi => ?_⟩
  have q := h.2 i hi
  simp only [sumZ, beq_iff_eq] at q
  rw [← (hD i hi).1]; exact q
theorem diff_same {n m : Nat} {L : Nat → Nat} {X : Nat → Nat → Int} {V U : Nat → Int} (h : diffOkB n L X = true) (hv : readOkB n L X m V = true) (hu : readOkB n L X m U = true) (e : ∀ i, i < m → U i = V i + 5) : sameReadB n L X m m V U = true := by
  obtain ⟨hD, hS⟩ := diff_parts h
  have hm := (read_len hv).2
  suffices q : allR (sameF (readF m X V) (readF m X U)) n = true by simp [sameReadB, hv, hu, sameB, q]
  refine allR_iff.2 fun i hi => ?_
  simp only [sameF, beq_iff_eq, readF, dot]
  have e1 : sumN m (fun j => X i j * U j) = sumN m (fun j => X i j * V j) + sumN m (fun j => 5 * X i j) := by
    rw [← sumN_add]; exact sumN_congr fun j hj => by rw [e j hj]; grind
  rw [e1, sumN_mul]
  have := hS i hi
  rw [← hm] at this
  rw [show sumN m (X i) = 0 from this]; omega
theorem diff_sing {n : Nat} {L : Nat → Nat} {X : Nat → Nat → Int} (h : diffOkB n L X = true) : isDetB n L X = false := by
  obtain ⟨hD, hS⟩ := diff_parts h
  obtain ⟨_, ⟨m1, m2⟩, _⟩ := design_iff.1 hD
  have hz : gdet n L X = 0 := by
    unfold gdet
    refine det_zero_sum (L 0) m2 m1 _ fun i hi => ?_
    have e1 : sumN (L 0) (gramF n X i) = sumN (L 0) (fun k => sumN n fun r => X r i * X r k) := rfl
    rw [e1, sumN_comm]
    rw [sumN_congr (g := fun _ => 0) (fun r hr => by rw [sumN_mul]; rw [show sumN (L 0) (fun k => X r k) = 0 from hS r hr, Int.mul_zero]), sumN_zero]
  simp [isDetB, hz]
theorem gram_symm (n : Nat) (X : Nat → Nat → Int) (i k : Nat) : gramF n X i k = gramF n X k i := dot_comm _ _ _
theorem gram_diag {n : Nat} {L : Nat → Nat} {X : Nat → Nat → Int} (h : designOkB n L X = true) {i : Nat} (hi : i < L 0) : 0 ≤ gramF n X i i ∧ gramF n X i i ≤ n := by
  have h1 := design_prod h hi hi
  constructor
  · refine sumN_nonneg fun r hr => ?_
    show 0 ≤ X r i * X r i
    generalize X r i = x
    rcases Int.le_total 0 x with q | q
    · exact Int.mul_nonneg q q
    · have := Int.mul_nonneg (show 0 ≤ -x by omega) (show 0 ≤ -x by omega); grind
  · have := (sumN_bound (n := n) (f := fun r => X r i * X r i) (B := 1) h1).2
    simp only [Int.mul_one] at this
    exact this
theorem read_fits {n m : Nat} {X : Nat → Nat → Int} {V : Nat → Int} (h : designOkB n (fun _ => m) X = true) (hv : ∀ i, i < m → -1000 ≤ V i ∧ V i ≤ 1000) : readOkB n (fun _ => m) X m V = true := by
  simp only [readOkB, h, Bool.true_and, decide_true]; exact allB_iff.2 hv
end Go.Proofs.Ytefgdkjcoeikmaa
