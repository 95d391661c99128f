/- The draw of a design (seat B). No condition but those of each contract. -/
import Derived.Test.YtefgdkjcoeikmaaDrawC
namespace Go.Proofs.Ytefgdkjcoeikmaa
open Go.ChangeShapes Go.WideShapes Go.ChangeAt Go.RowKit
set_option linter.unusedVariables false
set_option linter.unusedSimpArgs false

set_option maxHeartbeats 3200000 in
theorem l21Design_c (g : Nat) (w : World) (h : Cur w g) :
    Calls Try.prog 75 #[.pointer (some ⟨g, 0, none⟩)] w fun e w' => ∃ (n m : Nat) (sa : Option Addr) (sc : Nat) (A : Nat → Option Addr) (C : Nat → Nat) (X : Nat → Nat → Int), 1 ≤ n ∧ n ≤ 4 ∧ 1 ≤ m ∧ m ≤ 6 ∧ e = .returned (.slice sa m sc) ∧ OR w' w.heap.size w'.heap.size (.slice sa m sc) m A (fun _ => n) C X ∧ (∀ i, i < m → ∀ j, j < n → -1 ≤ X i j ∧ X i j ≤ 1) ∧ Cur w' g ∧ Drew g w w' := by
  have hg0 := h.lt
  go_enter Try.func75, Try.ntmps75
  go_wp2_with fail
  refine (l01Below_c g 4 _ (h.ext (ext_alloc (ext_refl _) _)) (by omega) (by omega)).mono ?_
  rintro e w1 ⟨n1, hn1, rfl, hc1, hw1⟩
  have hz1 := hw1.size
  (try simp at hz1)
  obtain ⟨n, hn⟩ : ∃ n : Nat, n = 1 + n1 := ⟨_, rfl⟩
  have hn' : (1 : Int) + n1 = n := by omega
  obtain ⟨hna, hnb⟩ : 1 ≤ n ∧ n ≤ 4 := by omega
  clear hn
  go_wp2_with fail
  refine (l01Below_c g 6 _ hc1 (by omega) (by omega)).mono ?_
  rintro e w2 ⟨m1, hm1, rfl, hc2, hw2⟩
  have hz2 := hw2.size
  obtain ⟨m, hm⟩ : ∃ m : Nat, m = 1 + m1 := ⟨_, rfl⟩
  have hm' : (1 : Int) + m1 = m := by omega
  obtain ⟨hma, hmb⟩ : 1 ≤ m ∧ m ≤ 6 := by omega
  clear hm
  have hO0 := ((OR.empty w (fun _ => none) (fun _ => n) (fun _ => 0) (fun _ _ => 0)).within hw1 (.inr (by omega))).within hw2 (.inr (by omega))
  rw [← hz1, ← hz2] at hO0
  have hd2 : Drew g w w2 := ((Drew.ext (ext_alloc (ext_refl w) _)).within hw1).within hw2
  go_wp2_with fail
  clear hn' hm'
  go_loopg [3, 6, 7, 8] m (fun gk o i r8 r9 wr => ∃ (k : Nat) (sa : Option Addr) (sc : Nat) (A' : Nat → Option Addr) (C' : Nat → Nat) (X : Nat → Nat → Int), k ≤ m ∧ gk = m - k ∧ o = .slice sa k sc ∧ i = .int .i64 k ∧ OR wr w.heap.size wr.heap.size (.slice sa k sc) k A' (fun _ => n) C' X ∧ (∀ i, i < k → ∀ j, j < n → -1 ≤ X i j ∧ X i j ≤ 1) ∧ Cur wr g ∧ Drew g w wr)
  · exact ⟨0, _, _, _, _, _, Nat.zero_le _, by omega, rfl, by go_num, hO0, fun i hi => by omega, hc2, hd2⟩
  · obtain ⟨k, sa, sc, A', C', X, h1, h2, rfl, rfl, hO, hX, hc, hd⟩ := hrel
    obtain ⟨wo_, rfl⟩ : ∃ wo_ : World, wo_ = wr := ⟨_, rfl⟩
    have hs := hd.size
    rcases Nat.lt_or_ge k m with hlt | hge
    · have q1 : (k : Int) < m := by omega
      go_wp2_with fail
      refine (l03Load_d g n (by omega) _ hc).mono ?_
      rintro e w3 ⟨ra, rc, Y, rfl, hI, hY, hc3, hd3⟩
      go_wp2_with fail
      refine (l01Once_c g 3 _ hc3 (by omega) (by omega)).mono ?_
      rintro e w4 ⟨b, rfl, hc4, hw4⟩
      have hz4 := hw4.size
      have hd4 : Drew g wo_ w4 := hd3.within hw4
      have hs4 := hd4.size
      have hO4 := hO.drewn hd4 (by omega) (Nat.le_refl _)
      have hI4 := hI.within hw4 (.inr (by omega))
      -- the step's end: a row is pushed
      have fin : ∀ (Y : Nat → Int), (∀ j, j < n → -1 ≤ Y j ∧ Y j ≤ 1) → ∃ Z : Nat → Nat → Int, Z k = Y ∧ (∀ i, i < k → Z i = X i) ∧ (∀ i, i < k + 1 → ∀ j, j < n → -1 ≤ Z i j ∧ Z i j ≤ 1) := by
        intro Y hY
        refine ⟨fun i => if i = k then Y else X i, by simp, fun i hi => by simp [show ¬ i = k by omega], fun i hi j hj => ?_⟩
        by_cases he : i = k
        · simp [he]; exact hY j hj
        · simp [he]; exact hX i (by omega) j hj
      cases b
      · obtain ⟨Z, z1, z2, z3⟩ := fin Y hY
        have hIz : OI w4 wo_.heap.size w3.heap.size (.slice ra n rc) n (Z k) := by rw [z1]; exact hI4
        have hOz := hO4.congr (Y := Z) (fun i hi j _ => by rw [z2 i hi])
        go_wp2_with (at_builtin; refine wpList_push_row rfl _ _ 22 rfl Try.underlying22 info_ints _ w.heap.size wo_.heap.size k A' (fun _ => n) C' Z ra rc _ _ _ rfl (hOz.ext (ext_alloc (ext_refl _) _)) (hIz.ext (ext_alloc (ext_refl _) _)) ⟨w3.heap.size, 0, none⟩ 1 rfl (by rw [← hz4]; exact cell_new1 _ _ _) (by omega) (by omega) (by simp; omega) ?_; intro g' c' A'' C'' w5 hO5 hb5)
        go_roundg (m - (k + 1))
        case measure => omega
        case rel => exact ⟨k + 1, some ⟨g', 0, none⟩, c', A'', C'', Z, by omega, rfl, rfl, by go_num, hO5, z3, (hc4.ext (ext_alloc (ext_refl _) _)).below hb5 hg0, (hd.trans hd4).then_below (Below.trans ((ext_alloc (ext_refl w4) _).mono (by omega)) hb5)⟩
      · rcases Nat.lt_or_ge 1 n with hn2 | hn2
        · have q2 : (1 : Int) < n := by omega
          have hmk := run_make_row' (P := Try.prog) 23 3 (.int .i64 0) 8 Try.underlying23 info_int rfl .i64 .i64 n (by omega) (by omega)
          have hM := OI.made w4 n (by unfold maxLen; omega)
          rw [hz4] at hM
          go_wp2_with fail
          clear hmk
          refine (l01Below_c g n _ (hc4.ext (ext_alloc (ext_refl _) _)) (by omega) (by omega)).mono ?_
          rintro e w5 ⟨i, hi, rfl, hc5, hw5⟩
          have hz5 := hw5.size
          (try simp at hz5)
          have hM5 := hM.within hw5 (.inr (by omega))
          have hO5 := (hO4.ext (ext_alloc (ext_refl _) (.cells (madeCells #[.int .i64 0] n) 3))).within hw5 (.inr (by omega))
          obtain ⟨j, hjm⟩ : ∃ j : Nat, j = (i + 1) % n := ⟨_, rfl⟩
          have hj : j < n := by rw [hjm]; exact Nat.mod_lt _ (by omega)
          have qm : ((i : Int) + 1) % n = j := by rw [hjm]; rfl
          have qt : Int.tmod ((i : Int) + 1) n = j := by rw [Int.tmod_eq_emod_of_nonneg (by omega)]; exact qm
          have q3 : (i : Int) < n := by omega
          have q4 : (j : Int) < n := by omega
          have q5 : (n : Int) ≠ 0 := by omega
          have q6 : ((n : Int) == 0) = false := by rw [beq_eq_false_iff_ne]; omega
          clear hjm
          have e1 := hM5.cell hi
          have f1 := hM5.frozen
          have hM6 := hM5.store i 1
          have e2 := hM6.cell hj
          have f2 := hM6.frozen
          have hM7 := hM6.store j (-1)
          obtain ⟨Z, z1, z2, z3⟩ := fin (fun q => if q = j then (-1 : Int) else (fun q => if q = i then (1 : Int) else (fun _ => (0 : Int)) q) q) (fun q _ => by simp only []; split <;> (try split) <;> omega)
          have hW : Within w3.heap.size (w3.heap.size + 1) w5 ((w5.setCell ⟨w3.heap.size, i, none⟩ (.int .i64 1)).setCell ⟨w3.heap.size, j, none⟩ (.int .i64 (-1))) := ((Within.refl _ _ _).setCell (by simp) (by simp) _).setCell (by simp) (by simp) _
          have hIz := hM7.mono (show wo_.heap.size ≤ w3.heap.size by omega) (Nat.le_refl _)
          rw [← z1] at hIz
          have hOz := (hO5.within hW (.inl (by omega))).congr (Y := Z) (fun i hi j _ => by rw [z2 i hi])
          have hd7 : Drew g w ((w5.setCell ⟨w3.heap.size, i, none⟩ (.int .i64 1)).setCell ⟨w3.heap.size, j, none⟩ (.int .i64 (-1))) := (((hd.trans hd4).trans (Drew.ext (ext_alloc (ext_refl _) _))).within hw5).then_below (hW.below.mono (by omega))
          have hc7 := hc5.below hW.below (by omega)
          clear e2
          have e2 : (w5.setCell ⟨w3.heap.size, i, none⟩ (.int .i64 1)).cell? ⟨w3.heap.size, j, none⟩ = some (.int .i64 (if j = i then 1 else 0)) := hM6.cell hj
          have hsz8 : ((w5.setCell ⟨w3.heap.size, i, none⟩ (.int .i64 1)).setCell ⟨w3.heap.size, j, none⟩ (.int .i64 (-1))).heap.size = w3.heap.size + 1 := by have q := hW.size; omega
          clear hM hM5 hM6 hM7 fin
          go_wp2_with (at_builtin; refine wpList_push_row rfl _ _ 22 rfl Try.underlying22 info_ints _ w.heap.size wo_.heap.size k A' (fun _ => n) C' Z _ _ _ _ _ rfl (hOz.ext (ext_alloc (ext_refl _) _)) (hIz.ext (ext_alloc (ext_refl _) _)) ⟨w3.heap.size + 1, 0, none⟩ 1 rfl (by rw [← hsz8]; exact cell_new1 _ _ _) (by omega) (by omega) (by simp; omega) ?_; intro g' c' A'' C'' w6 hO6 hb6)
          go_roundg (m - (k + 1))
          case measure => omega
          case rel => exact ⟨k + 1, some ⟨g', 0, none⟩, c', A'', C'', Z, by omega, rfl, rfl, by go_num, hO6, z3, (hc7.ext (ext_alloc (ext_refl _) _)).below hb6 hg0, hd7.then_below (Below.trans ((ext_alloc (ext_refl _) _).mono (by omega)) hb6)⟩
        · have q2 : ¬ (1 : Int) < n := by omega
          obtain ⟨Z, z1, z2, z3⟩ := fin Y hY
          have hIz : OI w4 wo_.heap.size w3.heap.size (.slice ra n rc) n (Z k) := by rw [z1]; exact hI4
          have hOz := hO4.congr (Y := Z) (fun i hi j _ => by rw [z2 i hi])
          go_wp2_with (at_builtin; refine wpList_push_row rfl _ _ 22 rfl Try.underlying22 info_ints _ w.heap.size wo_.heap.size k A' (fun _ => n) C' Z ra rc _ _ _ rfl (hOz.ext (ext_alloc (ext_refl _) _)) (hIz.ext (ext_alloc (ext_refl _) _)) ⟨w3.heap.size, 0, none⟩ 1 rfl (by rw [← hz4]; exact cell_new1 _ _ _) (by omega) (by omega) (by simp; omega) ?_; intro g' c' A'' C'' w5 hO5 hb5)
          go_roundg (m - (k + 1))
          case measure => omega
          case rel => exact ⟨k + 1, some ⟨g', 0, none⟩, c', A'', C'', Z, by omega, rfl, rfl, by go_num, hO5, z3, (hc4.ext (ext_alloc (ext_refl _) _)).below hb5 hg0, (hd.trans hd4).then_below (Below.trans ((ext_alloc (ext_refl w4) _).mono (by omega)) hb5)⟩
    · obtain rfl : k = m := by omega
      go_wp2_with fail
      go_ret
      exact ⟨n, k, sa, sc, A', C', X, hna, hnb, hma, hmb, rfl, hO, hX, hc, hd⟩
end Go.Proofs.Ytefgdkjcoeikmaa
