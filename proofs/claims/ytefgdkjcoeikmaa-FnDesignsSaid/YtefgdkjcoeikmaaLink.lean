/- Plain laws of linked objects: labels, what joins them, how many there are. No program, no condition. -/
import Derived.Test.YtefgdkjcoeikmaaMat3
namespace Go.Proofs.Ytefgdkjcoeikmaa
open Go.ChangeShapes Go.WideShapes Go.ChangeAt Go.RowKit
set_option linter.unusedVariables false
set_option linter.unusedSimpArgs false

/-- label k stands at no place ahead of k -/
def firstB (g : Nat → Int) (k : Nat) : Bool := allR (fun i => g i != g k) k
def cnt (g : Nat → Int) : Nat → Nat
  | 0 => 0
  | k + 1 => cnt g k + (if firstB g k = true then 1 else 0)
theorem firstB_iff {g : Nat → Int} {k : Nat} : firstB g k = true ↔ ∀ i, i < k → g i ≠ g k := by
  simp [firstB, allR_iff]
theorem firstB_congr {g h : Nat → Int} {n : Nat} (e : ∀ i j, i < n → j < n → (g i = g j ↔ h i = h j)) {k : Nat} (hk : k < n) : firstB g k = firstB h k := by
  rw [Bool.eq_iff_iff, firstB_iff, firstB_iff]
  constructor
  · intro q i hi he; exact q i hi ((e i k (by omega) hk).2 he)
  · intro q i hi he; exact q i hi ((e i k (by omega) hk).1 he)
theorem cnt_congr {g h : Nat → Int} {n : Nat} (e : ∀ i j, i < n → j < n → (g i = g j ↔ h i = h j)) : cnt g n = cnt h n := by
  have : ∀ k, k ≤ n → cnt g k = cnt h k := by
    intro k hk
    induction k with
    | zero => rfl
    | succ k ih => simp only [cnt]; rw [ih (by omega), firstB_congr e (by omega)]
  exact this n (Nat.le_refl _)
theorem cnt_le (g : Nat → Int) (n : Nat) : cnt g n ≤ n := by
  induction n with
  | zero => exact Nat.le_refl _
  | succ n ih => simp only [cnt]; split <;> omega
theorem cnt_pos (g : Nat → Int) {n : Nat} (h : 1 ≤ n) : 1 ≤ cnt g n := by
  induction n with
  | zero => omega
  | succ n ih =>
    simp only [cnt]
    by_cases e : n = 0
    · subst e; simp [cnt, firstB, allR]
    · have := ih (by omega); omega
theorem cnt_first {g : Nat → Int} {k : Nat} (h : firstB g k = true) : cnt g (k + 1) = cnt g k + 1 := by simp [cnt, h]
theorem cnt_again {g : Nat → Int} {k : Nat} (h : firstB g k = false) : cnt g (k + 1) = cnt g k := by simp [cnt, h]

/-- some row holds both objects -/
def nz (X : Nat → Nat → Int) (r i j : Nat) : Prop := X r i ≠ 0 ∧ X r j ≠ 0
def Lk (n : Nat) (X : Nat → Nat → Int) (i j : Nat) : Prop := ∃ r, r < n ∧ nz X r i j
theorem Lk.symm {n : Nat} {X : Nat → Nat → Int} {i j : Nat} (h : Lk n X i j) : Lk n X j i := by
  obtain ⟨r, h1, h2, h3⟩ := h; exact ⟨r, h1, h3, h2⟩
/-- equal labels are linked by a chain (in any equivalence that holds the links) -/
def Sound (n m : Nat) (X : Nat → Nat → Int) (g : Nat → Int) : Prop :=
  ∀ R : Nat → Nat → Prop, (∀ i, R i i) → (∀ i j, R i j → R j i) → (∀ i j k, R i j → R j k → R i k) → (∀ i j, i < m → j < m → Lk n X i j → R i j) → ∀ i j, i < m → j < m → g i = g j → R i j
def relab (g : Nat → Int) (f t : Int) : Nat → Int := fun j => if g j = f then t else g j
theorem relab_eq {g : Nat → Int} {f t : Int} {i j : Nat} (h : g i = g j) : relab g f t i = relab g f t j := by simp [relab, h]
theorem relab_hit (g : Nat → Int) (a b : Nat) : relab g (g a) (g b) a = relab g (g a) (g b) b := by
  simp only [relab, if_true]; split <;> simp_all
theorem Sound.relab {n m : Nat} {X : Nat → Nat → Int} {g : Nat → Int} (h : Sound n m X g) {a b : Nat} (ha : a < m) (hb : b < m) (hl : Lk n X a b) : Sound n m X (relab g (g a) (g b)) := by
  intro R r1 r2 r3 r4 i j hi hj he
  have q := h R r1 r2 r3 r4
  have qab := r4 a b ha hb hl
  unfold Go.Proofs.Ytefgdkjcoeikmaa.relab at he
  by_cases e1 : g i = g a <;> by_cases e2 : g j = g a
  · exact q i j hi hj (e1.trans e2.symm)
  · rw [if_pos e1, if_neg e2] at he
    exact r3 _ _ _ (q i a hi ha e1) (r3 _ _ _ qab (q b j hb hj he))
  · rw [if_neg e1, if_pos e2] at he
    exact r3 _ _ _ (q i b hi hb he) (r3 _ _ _ (r2 _ _ qab) (q a j ha hj e2.symm))
  · rw [if_neg e1, if_neg e2] at he
    exact q i j hi hj he
theorem Sound.start (n m : Nat) (X : Nat → Nat → Int) : Sound n m X (fun i => (i : Int)) := by
  intro R r1 _ _ _ i j _ _ he
  have he : (i : Int) = (j : Int) := he
  have : i = j := by omega
  subst this; exact r1 i

/-- what is joined when row r stands at object i and k; u: how far the inner loop goes -/
def JD (u : Nat → Nat) (m : Nat) (X : Nat → Nat → Int) (g : Nat → Int) (r i k : Nat) : Prop :=
  (∀ r' i' j, r' < r → i' < m → j < u i' → nz X r' i' j → g i' = g j) ∧ (∀ i' j, i' < i → j < u i' → nz X r i' j → g i' = g j) ∧ (∀ j, j < k → nz X r i j → g i = g j)
theorem JD.start (u : Nat → Nat) (m : Nat) (X : Nat → Nat → Int) (g : Nat → Int) : JD u m X g 0 0 0 :=
  ⟨fun _ _ _ h => by omega, fun _ _ h => by omega, fun _ h => by omega⟩
theorem JD.relab {u : Nat → Nat} {m : Nat} {X : Nat → Nat → Int} {g : Nat → Int} {r i k : Nat} (h : JD u m X g r i k) (f t : Int) : JD u m X (relab g f t) r i k :=
  ⟨fun r' i' j a b c d => relab_eq (h.1 r' i' j a b c d), fun i' j a b c => relab_eq (h.2.1 i' j a b c), fun j a b => relab_eq (h.2.2 j a b)⟩
theorem JD.step {u : Nat → Nat} {m : Nat} {X : Nat → Nat → Int} {g : Nat → Int} {r i k : Nat} (h : JD u m X g r i k) (e : nz X r i k → g i = g k) : JD u m X g r i (k + 1) :=
  ⟨h.1, h.2.1, fun j hj hn => by
    by_cases q : j = k
    · subst q; exact e hn
    · exact h.2.2 j (by omega) hn⟩
theorem JD.next {u : Nat → Nat} {m : Nat} {X : Nat → Nat → Int} {g : Nat → Int} {r i : Nat} (h : JD u m X g r i (u i)) : JD u m X g r (i + 1) 0 :=
  ⟨h.1, fun i' j hi hj hn => by
    by_cases q : i' = i
    · subst q; exact h.2.2 j hj hn
    · exact h.2.1 i' j (by omega) hj hn, fun _ h => by omega⟩
theorem JD.row {u : Nat → Nat} {m : Nat} {X : Nat → Nat → Int} {g : Nat → Int} {r : Nat} (h : JD u m X g r m 0) : JD u m X g (r + 1) 0 0 :=
  ⟨fun r' i' j hr hi hj hn => by
    by_cases q : r' = r
    · subst q; exact h.2.1 i' j hi hj hn
    · exact h.1 r' i' j (by omega) hi hj hn, fun _ _ h => by omega, fun _ h => by omega⟩
/-- what both programs leave: labels that are equal where a chain links the objects, and there alone -/
def Joins (n m : Nat) (X : Nat → Nat → Int) (g : Nat → Int) : Prop := (∀ i j, i < m → j < m → Lk n X i j → g i = g j) ∧ Sound n m X g
theorem JD.joins_all {n m : Nat} {X : Nat → Nat → Int} {g : Nat → Int} (h : JD (fun _ => m) m X g n 0 0) (hs : Sound n m X g) : Joins n m X g :=
  ⟨fun i j hi hj ⟨r, hr, hn⟩ => h.1 r i j hr hi hj hn, hs⟩
theorem JD.joins_low {n m : Nat} {X : Nat → Nat → Int} {g : Nat → Int} (h : JD (fun i => i) m X g n 0 0) (hs : Sound n m X g) : Joins n m X g :=
  ⟨fun i j hi hj ⟨r, hr, hn⟩ => by
    rcases Nat.lt_trichotomy i j with q | q | q
    · exact (h.1 r j i hr hj q ⟨hn.2, hn.1⟩).symm
    · subst q; rfl
    · exact h.1 r i j hr hi q hn, hs⟩
theorem Joins.same {n m : Nat} {X : Nat → Nat → Int} {g h : Nat → Int} (a : Joins n m X g) (b : Joins n m X h) : ∀ i j, i < m → j < m → (g i = g j ↔ h i = h j) := by
  intro i j hi hj
  constructor
  · exact a.2 (fun i j => h i = h j) (fun _ => rfl) (fun _ _ e => e.symm) (fun _ _ _ e f => e.trans f) b.1 i j hi hj
  · exact b.2 (fun i j => g i = g j) (fun _ => rfl) (fun _ _ e => e.symm) (fun _ _ _ e f => e.trans f) a.1 i j hi hj
/-- the answer: how many labels -/
def LinkedIs (n : Nat) (L : Nat → Nat) (X : Nat → Nat → Int) (z : Int) : Prop :=
  (designOkB n L X = true → ∃ g, Joins n (L 0) X g ∧ z = (cnt g (L 0) : Nat)) ∧ (designOkB n L X = false → z = 0)
theorem LinkedIs.one {n : Nat} {L : Nat → Nat} {X : Nat → Nat → Int} {z y : Int} (a : LinkedIs n L X z) (b : LinkedIs n L X y) : z = y := by
  cases h : designOkB n L X
  · rw [a.2 h, b.2 h]
  · obtain ⟨g, g1, rfl⟩ := a.1 h
    obtain ⟨f, f1, rfl⟩ := b.1 h
    rw [cnt_congr (g1.same f1)]
theorem LinkedIs.range {n : Nat} {L : Nat → Nat} {X : Nat → Nat → Int} {z : Int} (a : LinkedIs n L X z) (h : designOkB n L X = true) (hl : 1 ≤ L 0) : 1 ≤ z ∧ z ≤ L 0 := by
  obtain ⟨g, g1, rfl⟩ := a.1 h
  have := cnt_le g (L 0)
  have := cnt_pos g hl
  omega
/-- the labels, the first q of them turned -/
def part (g : Nat → Int) (f t : Int) (q : Nat) : Nat → Int := fun j => if j < q then relab g f t j else g j
theorem part_zero (g : Nat → Int) (f t : Int) : ∀ j, part g f t 0 j = g j := fun j => by simp [part]
theorem part_full (g : Nat → Int) (f t : Int) (m : Nat) : ∀ j, j < m → part g f t m j = relab g f t j := fun j hj => by simp [part, hj]
theorem part_at (g : Nat → Int) (f t : Int) (q : Nat) : part g f t q q = g q := by simp [part]
theorem part_put {g : Nat → Int} {f t : Int} {q : Nat} (h : g q = f) : ∀ j, (if j = q then t else part g f t q j) = part g f t (q + 1) j := by
  intro j
  unfold part relab
  by_cases e : j = q
  · subst e; simp [h]
  · by_cases e2 : j < q
    · simp [e, e2, show j < q + 1 by omega]
    · simp [e, e2, show ¬ j < q + 1 by omega]
theorem part_skip {g : Nat → Int} {f t : Int} {q : Nat} (h : g q ≠ f) : ∀ j, part g f t q j = part g f t (q + 1) j := by
  intro j
  unfold part relab
  by_cases e : j = q
  · subst e; simp [h]
  · by_cases e2 : j < q
    · simp [e2, show j < q + 1 by omega]
    · simp [e2, show ¬ j < q + 1 by omega]
end Go.Proofs.Ytefgdkjcoeikmaa
