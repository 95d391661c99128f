/- The draws of loads and of square matrices (seat B). No condition but those of each contract. -/
import Derived.Test.YtefgdkjcoeikmaaDraw
import Derived.Test.YtefgdkjcoeikmaaMat8
namespace Go.Proofs.Ytefgdkjcoeikmaa
open Go.ChangeShapes Go.WideShapes Go.ChangeAt Go.RowKit
set_option linter.unusedVariables false
set_option linter.unusedSimpArgs false

set_option maxHeartbeats 1600000 in
theorem l03Load_c (g : Nat) (n : Nat) (hn : n ≤ 1048576) (w : World) (h : Cur w g) :
    Calls Try.prog 94 #[.pointer (some ⟨g, 0, none⟩), .int .i64 n] w fun e w' => ∃ (sa : Option Addr) (sc : Nat) (X : Nat → Int), e = .returned (.slice sa n sc) ∧ OI w' w.heap.size w'.heap.size (.slice sa n sc) n X ∧ (∀ i, i < n → -1 ≤ X i ∧ X i ≤ 1) ∧ Cur w' g ∧ Below g w w' := by
  have hg0 := h.lt
  go_enter Try.func94, Try.ntmps94
  go_wp2_with fail
  go_loopg [5, 6] n (fun gk o i wr => ∃ (k : Nat) (sa : Option Addr) (sc : Nat) (X : Nat → Int), k ≤ n ∧ gk = n - k ∧ o = .slice sa k sc ∧ i = .int .i64 k ∧ OI wr w.heap.size wr.heap.size (.slice sa k sc) k X ∧ (∀ i, i < k → -1 ≤ X i ∧ X i ≤ 1) ∧ Cur wr g ∧ Below g w wr ∧ w.heap.size ≤ wr.heap.size)
  · exact ⟨0, _, _, fun _ => 0, Nat.zero_le _, by omega, rfl, rfl, (OI.lit w [] (fun _ => 0) 0 (by simp [maxLen]) rfl).now, fun i hi => by omega, h.ext (ext_alloc (ext_refl _) _), (ext_alloc (ext_refl w) _).mono (Nat.le_of_lt hg0), by simp⟩
  · obtain ⟨k, sa, sc, X, h1, h2, rfl, rfl, hO, hX, hc, hb, hs⟩ := hrel
    rcases Nat.lt_or_ge k n with hlt | hge
    · have q1 : (k : Int) < n := by omega
      go_wp2_with fail
      refine (l01Below_c g 3 _ hc (by omega) (by omega)).mono ?_
      rintro e w2 ⟨y, hy, rfl, hc2, hw2⟩
      have hz2 := hw2.size
      have hO2 := hO.within hw2 (.inr (by omega))
      obtain ⟨Y, hY⟩ : ∃ Y : Nat → Int, Y = fun j => if j = k then (y : Int) - 1 else X j := ⟨_, rfl⟩
      have hO3 : OI w2 w.heap.size wr.heap.size (.slice sa k sc) k Y := hO2.congr (fun j hj => by rw [hY]; simp; omega)
      have hYk : Y k = (y : Int) - 1 := by rw [hY]; simp
      have hYb : ∀ i, i < k + 1 → -1 ≤ Y i ∧ Y i ≤ 1 := by
        intro i hi
        rw [hY]
        by_cases he : i = k
        · simp [he]; omega
        · simp [he]; exact hX i (by omega)
      clear hY
      go_wp2_with (at_builtin; refine wpList_push_int rfl _ _ 23 rfl Try.underlying23 info_int _ w.heap.size k Y ((y : Int) - 1) _ _ _ rfl (hO3.ext (ext_alloc (ext_refl _) _)) ⟨wr.heap.size, 0, none⟩ 1 rfl (by rw [← hz2]; exact cell_new1 _ _ _) hYk (by omega) (by simp; omega) ?_; intro g' c' w3 hO4 hb3)
      go_roundg (n - (k + 1))
      case measure => omega
      case rel => exact ⟨k + 1, some ⟨g', 0, none⟩, c', Y, by omega, rfl, rfl, by go_num, hO4, hYb, (hc2.ext (ext_alloc (ext_refl _) _)).below hb3 hg0, Below.trans hb (Below.trans hw2.below (Below.trans ((ext_alloc (ext_refl _) _).mono (by omega)) (hb3.mono (by omega)))), by have q := hb3.size; simp at q; omega⟩
    · obtain rfl : k = n := by omega
      go_wp2_with fail
      go_ret
      exact ⟨sa, sc, X, rfl, hO, hX, hc, hb⟩

set_option maxHeartbeats 3200000 in
theorem l22Square_c (g : Nat) (w : World) (h : Cur w g) :
    Calls Try.prog 71 #[.pointer (some ⟨g, 0, none⟩)] w fun e w' => ∃ (n : Nat) (sa : Option Addr) (sc : Nat) (A : Nat → Option Addr) (C : Nat → Nat) (X : Nat → Nat → Int), 1 ≤ n ∧ n ≤ 4 ∧ e = .returned (.slice sa n sc) ∧ OR w' w.heap.size w'.heap.size (.slice sa n sc) n A (fun _ => n) C X ∧ (∀ i, i < n → ∀ j, j < n → -4 ≤ X i j ∧ X i j ≤ 4) ∧ Cur w' g ∧ Below g w w' := by
  have hg0 := h.lt
  go_enter Try.func71, Try.ntmps71
  go_wp2_with fail
  refine (l01Below_c g 4 _ (h.ext (ext_alloc (ext_refl _) _)) (by omega) (by omega)).mono ?_
  rintro e w1 ⟨n1, hn1, rfl, hc1, hw1⟩
  have hz1 := hw1.size
  (try simp at hz1)
  obtain ⟨n, hn⟩ : ∃ n : Nat, n = 1 + n1 := ⟨_, rfl⟩
  have hn' : (1 : Int) + n1 = n := by omega
  obtain ⟨hna, hnb⟩ : 1 ≤ n ∧ n ≤ 4 := by omega
  clear hn
  have hO0 := (OR.empty w (fun _ => none) (fun _ => n) (fun _ => 0) (fun _ _ => 0)).within hw1 (.inr (by omega))
  rw [← hz1] at hO0
  have hb1 : Below g w w1 := Below.trans ((ext_alloc (ext_refl w) _).mono (Nat.le_of_lt hg0)) hw1.below
  go_wp2_with fail
  clear hn'
  go_loopg [3, 5] n (fun gk o i wr => ∃ (k : Nat) (sa : Option Addr) (sc : Nat) (A' : Nat → Option Addr) (C' : Nat → Nat) (X : Nat → Nat → Int), k ≤ n ∧ gk = n - k ∧ o = .slice sa k sc ∧ i = .int .i64 k ∧ OR wr w.heap.size wr.heap.size (.slice sa k sc) k A' (fun _ => n) C' X ∧ (∀ i, i < k → ∀ j, j < n → -4 ≤ X i j ∧ X i j ≤ 4) ∧ Cur wr g ∧ Below g w wr ∧ w.heap.size ≤ wr.heap.size)
  · exact ⟨0, _, _, _, _, _, Nat.zero_le _, by omega, rfl, by go_num, hO0, fun i hi => by omega, hc1, hb1, by omega⟩
  · obtain ⟨k, sa, sc, A', C', X, h1, h2, rfl, rfl, hO, hX, hc, hb, hs⟩ := hrel
    obtain ⟨wo_, rfl⟩ : ∃ wo_ : World, wo_ = wr := ⟨_, rfl⟩
    rcases Nat.lt_or_ge k n with hlt | hge
    · have q1 : (k : Int) < n := by omega
      have hgo := hc.lt
      go_wp2_with fail
      go_loopg [6, 7] n (fun gk2 o i wr => ∃ (j : Nat) (ra : Option Addr) (rc : Nat) (Y : Nat → Int), j ≤ n ∧ gk2 = n - j ∧ o = .slice ra j rc ∧ i = .int .i64 j ∧ OI wr wo_.heap.size wr.heap.size (.slice ra j rc) j Y ∧ OR wr w.heap.size wo_.heap.size (.slice sa k sc) k A' (fun _ => n) C' X ∧ (∀ i, i < j → -4 ≤ Y i ∧ Y i ≤ 4) ∧ Cur wr g ∧ Below g wo_ wr ∧ wo_.heap.size ≤ wr.heap.size)
      · exact ⟨0, _, _, fun _ => 0, Nat.zero_le _, by omega, rfl, by go_num, (OI.lit wo_ [] (fun _ => 0) 0 (by simp [maxLen]) rfl).now, hO.ext (ext_alloc (ext_refl _) _), fun i hi => by omega, hc.ext (ext_alloc (ext_refl _) _), (ext_alloc (ext_refl wo_) _).mono (Nat.le_of_lt hgo), by simp⟩
      · obtain ⟨j, ra, rc, Y0, j1, j2, rfl, rfl, hI, hOi, hY0, hci, hbi, hsi⟩ := hrel
        rcases Nat.lt_or_ge j n with jlt | jge
        · have q2 : (j : Int) < n := by omega
          go_wp2_with fail
          refine (l01Below_c g 9 _ hci (by omega) (by omega)).mono ?_
          rintro e w2 ⟨y, hy, rfl, hc2, hw2⟩
          have hz2 := hw2.size
          have hI2 := hI.within hw2 (.inr (by omega))
          have hO2 := hOi.within hw2 (.inr (by omega))
          obtain ⟨Y, hY⟩ : ∃ Y : Nat → Int, Y = fun i => if i = j then (y : Int) - 4 else Y0 i := ⟨_, rfl⟩
          have hI3 : OI w2 wo_.heap.size wr.heap.size (.slice ra j rc) j Y := hI2.congr (fun i hi => by rw [hY]; simp; omega)
          have hYk : Y j = (y : Int) - 4 := by rw [hY]; simp
          have hYb : ∀ i, i < j + 1 → -4 ≤ Y i ∧ Y i ≤ 4 := by
            intro i hi
            rw [hY]
            by_cases he : i = j
            · simp [he]; omega
            · simp [he]; exact hY0 i (by omega)
          clear hY
          go_wp2_with (at_builtin; refine wpList_push_int rfl _ _ 23 rfl Try.underlying23 info_int _ wo_.heap.size j Y ((y : Int) - 4) _ _ _ rfl (hI3.ext (ext_alloc (ext_refl _) _)) ⟨wr.heap.size, 0, none⟩ 1 rfl (by rw [← hz2]; exact cell_new1 _ _ _) hYk (by omega) (by simp; omega) ?_; intro g' c' w3 hO4 hb3)
          go_roundg (n - (j + 1))
          case measure => omega
          case rel => exact ⟨j + 1, some ⟨g', 0, none⟩, c', Y, by omega, rfl, rfl, by go_num, hO4, (hO2.ext (ext_alloc (ext_refl _) _)).below hb3 (Nat.le_refl _), hYb, (hc2.ext (ext_alloc (ext_refl _) _)).below hb3 hgo, Below.trans hbi (Below.trans hw2.below (Below.trans ((ext_alloc (ext_refl _) _).mono (by omega)) (hb3.mono (by omega)))), by have q := hb3.size; simp at q; omega⟩
        · obtain rfl : j = n := by omega
          obtain ⟨Z, hZ⟩ : ∃ Z : Nat → Nat → Int, Z = fun i => if i = k then Y0 else X i := ⟨_, rfl⟩
          have hZk : Z k = Y0 := by rw [hZ]; simp
          have hOz : OR wr w.heap.size wo_.heap.size (.slice sa k sc) k A' (fun _ => j) C' Z := hOi.congr (fun i hi q _ => by rw [hZ]; simp [show ¬ i = k by omega])
          have hZb : ∀ i, i < k + 1 → ∀ q, q < j → -4 ≤ Z i q ∧ Z i q ≤ 4 := by
            intro i hi q hq
            rw [hZ]
            by_cases he : i = k
            · simp [he]; exact hY0 q hq
            · simp [he]; exact hX i (by omega) q hq
          have hIz : OI wr wo_.heap.size wr.heap.size (.slice ra j rc) j (Z k) := by rw [hZk]; exact hI
          clear hZ hZk
          go_wp2_with (at_builtin; refine wpList_push_row rfl _ _ 22 rfl Try.underlying22 info_ints _ w.heap.size wo_.heap.size k A' (fun _ => j) C' Z ra rc _ _ _ rfl (hOz.ext (ext_alloc (ext_refl _) _)) (hIz.ext (ext_alloc (ext_refl _) _)) ⟨wr.heap.size, 0, none⟩ 1 rfl (cell_new1 _ _ _) (by omega) (by omega) (by simp; omega) ?_; intro g' c' A'' C'' w2 hO2 hb2)
          go_roundg (j - (k + 1))
          case measure => omega
          case rel => exact ⟨k + 1, some ⟨g', 0, none⟩, c', A'', C'', Z, by omega, rfl, rfl, by go_num, hO2, hZb, (hci.ext (ext_alloc (ext_refl _) _)).below hb2 hg0, Below.trans hb (Below.trans hbi (Below.trans ((ext_alloc (ext_refl _) _).mono (by omega)) (hb2.mono (by omega)))), by have q := hb2.size; simp at q; omega⟩
    · obtain rfl : k = n := by omega
      go_wp2_with fail
      go_ret
      exact ⟨k, sa, sc, A', C', X, hna, hnb, rfl, hO, hX, hc, hb⟩
end Go.Proofs.Ytefgdkjcoeikmaa
