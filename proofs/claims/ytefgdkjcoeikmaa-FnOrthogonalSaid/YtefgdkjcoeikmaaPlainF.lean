/- Plain laws of orthogonal matrices of signs, and both built matrices by their contracts. No condition but those of each contract. -/
import Derived.Test.YtefgdkjcoeikmaaSigns
import Derived.Test.YtefgdkjcoeikmaaConf2
import Derived.Test.YtefgdkjcoeikmaaSyl3
import Derived.Test.YtefgdkjcoeikmaaMat5
import Derived.Test.YtefgdkjcoeikmaaMat3
import Derived.Test.YtefgdkjcoeikmaaMat8
namespace Go.Proofs.Ytefgdkjcoeikmaa
open Go.ChangeShapes Go.WideShapes Go.ChangeAt Go.RowKit
set_option linter.unusedVariables false
set_option linter.unusedSimpArgs false

theorem signs_fit {n : Nat} {X : Nat → Nat → Int} (h : In1 n X) (n1 : 1 ≤ n) (n2 : n ≤ 8) : signsOkB n (fun _ => n) X = true :=
  signs_iff.2 ⟨⟨n1, n2⟩, fun i hi => ⟨rfl, fun j hj => h i hi j hj⟩⟩
theorem orth_parts {n : Nat} {X : Nat → Nat → Int} (h : orthI n (fun _ => n) X ≠ 0) : orthI n (fun _ => n) X = dot n (X 0) (X 0) ∧ ∀ i, i < n → ∀ k, k < n → dot n (X i) (X k) = if i = k then dot n (X 0) (X 0) else 0 := by
  unfold orthI at h ⊢
  split at h
  · rename_i q
    rw [if_pos q]
    simp only [Bool.and_eq_true, orthB, allR_iff] at q
    exact ⟨rfl, fun i hi k hk => by have := q.2 i hi k hk; simpa [orthC] using this⟩
  · exact absurd rfl h
theorem trans_orth {n : Nat} {X : Nat → Nat → Int} (hX : In1 n X) (n1 : 1 ≤ n) (n2 : n ≤ 8) (h : orthI n (fun _ => n) X ≠ 0) : orthI n (fun _ => n) (transF X) = orthI n (fun _ => n) X := by
  obtain ⟨h1, h2⟩ := orth_parts h
  have h3 := orth_cols n X (dot n (X 0) (X 0)) (fun i k hi hk => h2 i hi k hk)
  have hT : In1 n (transF X) := fun i hi j hj => hX j hj i hi
  have h4 : ∀ i, i < n → ∀ k, k < n → dot n (transF X i) (transF X k) = if i = k then dot n (X 0) (X 0) else 0 := fun i hi k hk => h3 i k hi hk
  have h5 : dot n (transF X 0) (transF X 0) = dot n (X 0) (X 0) := by rw [h4 0 (by omega) 0 (by omega), if_pos rfl]
  rw [orth_yes (signs_fit hT n1 n2) (fun i hi k hk => by simp [orthC, h4 i hi k hk, h5]), h5, h1]
theorem rp_symm (n : Nat) (L : Nat → Nat) (X : Nat → Nat → Int) (i k : Int) : rowProdI n L X i k = rowProdI n L X k i := by
  unfold rowProdI
  rw [dot_comm n (X i.toNat) (X k.toNat)]
  cases inB i 0 ((n : Int) - 1) <;> cases inB k 0 ((n : Int) - 1) <;> rfl
theorem rp_w {n : Nat} {X : Nat → Nat → Int} (hX : In1 n X) (n1 : 1 ≤ n) (n2 : n ≤ 8) (h : orthI n (fun _ => n) X ≠ 0) {i j : Nat} (hi : i < n) (hj : j < n) : rowProdI n (fun _ => n) X i j = if i = j then orthI n (fun _ => n) X else 0 := by
  obtain ⟨h1, h2⟩ := orth_parts h
  unfold rowProdI
  rw [signs_fit hX n1 n2, inB_true.2 ⟨by omega, by omega⟩, inB_true.2 ⟨by omega, by omega⟩, h1]
  simpa using h2 i hi j hj
theorem leg_fin3 : ∀ a : Fin 3, ∀ b : Fin 3, legR 3 (((a : Int) * b) % 3) = legR 3 a * legR 3 b := by decide
theorem leg_fin5 : ∀ a : Fin 5, ∀ b : Fin 5, legR 5 (((a : Int) * b) % 5) = legR 5 a * legR 5 b := by decide
theorem leg_fin7 : ∀ a : Fin 7, ∀ b : Fin 7, legR 7 (((a : Int) * b) % 7) = legR 7 a * legR 7 b := by decide
theorem leg_mul {p : Int} (hp : p = 3 ∨ p = 5 ∨ p = 7) (x y : Int) : legI (x * y) p = legI x p * legI y p := by
  unfold legI
  rw [if_pos hp, Int.mul_emod]
  have h1 := Int.emod_nonneg x (show p ≠ 0 by omega)
  have h2 := Int.emod_lt_of_pos x (show 0 < p by omega)
  have h3 := Int.emod_nonneg y (show p ≠ 0 by omega)
  have h4 := Int.emod_lt_of_pos y (show 0 < p by omega)
  generalize x % p = a at *
  generalize y % p = b at *
  obtain ⟨a, rfl⟩ := Int.eq_ofNat_of_zero_le h1
  obtain ⟨b, rfl⟩ := Int.eq_ofNat_of_zero_le h3
  rcases hp with rfl | rfl | rfl
  · exact leg_fin3 ⟨a, by omega⟩ ⟨b, by omega⟩
  · exact leg_fin5 ⟨a, by omega⟩ ⟨b, by omega⟩
  · exact leg_fin7 ⟨a, by omega⟩ ⟨b, by omega⟩
theorem syl_w0 : orthI 1 (fun _ => 1) (sylF 0) = 1 := by decide +kernel
theorem syl_w1 : orthI 2 (fun _ => 2) (sylF 1) = 2 := by decide +kernel
theorem syl_w2 : orthI 4 (fun _ => 4) (sylF 2) = 4 := by decide +kernel
theorem syl_w3 : orthI 8 (fun _ => 8) (sylF 3) = 8 := by decide +kernel
theorem conf_w3 : orthI 4 (fun _ => 4) (confI 3) = 3 := by decide +kernel
theorem conf_w5 : orthI 6 (fun _ => 6) (confI 5) = 5 := by decide +kernel
theorem conf_w7 : orthI 8 (fun _ => 8) (confI 7) = 7 := by decide +kernel
theorem syl_call (k : Int) (s : Nat) (h : (k = 0 ∧ s = 1) ∨ (k = 1 ∧ s = 2) ∨ (k = 2 ∧ s = 4) ∨ (k = 3 ∧ s = 8)) (w : World) :
    Calls Try.prog 47 #[.int .i64 k] w fun e w' => ∃ (a : Option Addr) (c : Nat) (A : Nat → Option Addr) (C : Nat → Nat) (X : Nat → Nat → Int), e = .returned (.slice a s c) ∧ RowsAt w' a s A (fun _ => s) C X ∧ orthI s (fun _ => s) X = s ∧ Ext w w' := by
  refine (impl_SylvesterMatrix k w).mono ?_
  rintro e w' ⟨a, c, A, C, rfl, hO, hx⟩
  rcases h with ⟨rfl, rfl⟩ | ⟨rfl, rfl⟩ | ⟨rfl, rfl⟩ | ⟨rfl, rfl⟩
  · exact ⟨a, c, A, C, sylF 0, rfl, hO.rows, syl_w0, hx⟩
  · exact ⟨a, c, A, C, sylF 1, rfl, hO.rows, syl_w1, hx⟩
  · exact ⟨a, c, A, C, sylF 2, rfl, hO.rows, syl_w2, hx⟩
  · exact ⟨a, c, A, C, sylF 3, rfl, hO.rows, syl_w3, hx⟩
theorem conf_call (p : Int) (hp : p = 3 ∨ p = 5 ∨ p = 7) (w : World) :
    Calls Try.prog 48 #[.int .i64 p] w fun e w' => ∃ (n : Nat) (a : Option Addr) (c : Nat) (A : Nat → Option Addr) (C : Nat → Nat) (X : Nat → Nat → Int), (n : Int) = p + 1 ∧ n ≤ 8 ∧ e = .returned (.slice a n c) ∧ RowsAt w' a n A (fun _ => n) C X ∧ orthI n (fun _ => n) X = p ∧ Ext w w' := by
  refine (impl_ConferenceMatrix p w).mono ?_
  rintro e w' ⟨a, c, A, C, rfl, hO, hx⟩
  rcases hp with rfl | rfl | rfl
  · exact ⟨4, a, c, A, C, confI 3, rfl, by omega, rfl, hO.rows, conf_w3, hx⟩
  · exact ⟨6, a, c, A, C, confI 5, rfl, by omega, rfl, hO.rows, conf_w5, hx⟩
  · exact ⟨8, a, c, A, C, confI 7, rfl, by omega, rfl, hO.rows, conf_w7, hx⟩
end Go.Proofs.Ytefgdkjcoeikmaa
