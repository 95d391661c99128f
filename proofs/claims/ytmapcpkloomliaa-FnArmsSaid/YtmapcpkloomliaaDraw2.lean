/- The draws of lists. No condition but those of each contract. -/
import Derived.Test.YtmapcpkloomliaaVern
namespace Go.Proofs.Ytmapcpkloomliaa
open Go.ChangeShapes Go.WideShapes Go.ChangeAt Go.RowKit
set_option linter.unusedVariables false
set_option linter.unusedSimpArgs false

set_option maxHeartbeats 1600000 in
theorem l19List_c (g : Nat) (w : World) (h : Cur w g) :
    Calls Try.prog 68 #[.pointer (some ⟨g, 0, none⟩)] w fun e w' => ∃ (n : Nat) (sa : Option Addr) (sc : Nat) (X : Nat → Int), n < 10 ∧ e = .returned (.slice sa n sc) ∧ OI w' w.heap.size w'.heap.size (.slice sa n sc) n X ∧ (∀ i, i < n → -50 ≤ X i ∧ X i ≤ 50) ∧ Cur w' g ∧ Below g w w' := by
  have hg0 := h.lt
  go_enter Try.func68, Try.ntmps68
  go_wp2_with fail
  refine (l01Below_c g 10 _ (h.ext (by repeat (first | (with_reducible exact ext_refl _) | (with_reducible refine ext_setCell ?_ ?_ _) | (with_reducible refine ext_alloc ?_ _) | (with_reducible refine ext_drewN ?_ _) | (with_reducible refine ext_drew ?_) | (with_reducible refine ext_trans ?_ (by assumption)) | (dsimp only; omega) | omega | (simp; omega)))) (by omega) (by omega)).mono ?_
  rintro e w1 ⟨n, hn, rfl, hc1, hw1⟩
  have hz1 := hw1.size
  (try simp at hz1)
  have hO0 := (OI.lit w [] (fun _ => 0) 0 (by simp [maxLen]) rfl).within hw1 (.inr (by omega))
  rw [← hz1] at hO0
  have hb1 : Below g w w1 := Below.trans ((ext_alloc (ext_refl w) _).mono (Nat.le_of_lt hg0)) hw1.below
  go_wp2_with fail
  go_loopg [3, 5] n (fun gk o i wr => ∃ (k : Nat) (sa : Option Addr) (sc : Nat) (X : Nat → Int), k ≤ n ∧ gk = n - k ∧ o = .slice sa k sc ∧ i = .int .i64 k ∧ OI wr w.heap.size wr.heap.size (.slice sa k sc) k X ∧ (∀ i, i < k → -50 ≤ X i ∧ X i ≤ 50) ∧ Cur wr g ∧ Below g w wr ∧ w.heap.size ≤ wr.heap.size)
  · exact ⟨0, _, _, fun _ => 0, Nat.zero_le _, by omega, rfl, rfl, hO0, fun i hi => by omega, hc1, hb1, by omega⟩
  · obtain ⟨k, sa, sc, X, h1, h2, rfl, rfl, hO, hX, hc, hb, hs⟩ := hrel
    rcases Nat.lt_or_ge k n with hlt | hge
    · have q1 : (k : Int) < n := by omega
      go_wp2_with fail
      refine (l01Below_c g 101 _ hc (by omega) (by omega)).mono ?_
      rintro e w2 ⟨y, hy, rfl, hc2, hw2⟩
      have hz2 := hw2.size
      have hO2 := hO.within hw2 (.inr (by omega))
      obtain ⟨Y, hY⟩ : ∃ Y : Nat → Int, Y = fun j => if j = k then (y : Int) - 50 else X j := ⟨_, rfl⟩
      have hO3 : OI w2 w.heap.size wr.heap.size (.slice sa k sc) k Y := hO2.congr (fun j hj => by rw [hY]; simp; omega)
      have hYk : Y k = (y : Int) - 50 := by rw [hY]; simp
      have hYb : ∀ i, i < k + 1 → -50 ≤ Y i ∧ Y i ≤ 50 := by
        intro i hi
        rw [hY]
        by_cases he : i = k
        · simp [he]; omega
        · simp [he]; exact hX i (by omega)
      clear hY
      go_wp2_with (at_builtin; refine wpList_push_int rfl _ _ 22 rfl Try.underlying22 info_int _ w.heap.size k Y ((y : Int) - 50) _ _ _ rfl (hO3.ext (ext_alloc (ext_refl _) _)) ⟨wr.heap.size, 0, none⟩ 1 rfl (by rw [← hz2]; exact cell_new1 _ _ _) hYk (by omega) (by simp; omega) ?_; intro g' c' w3 hO4 hb3)
      go_roundg (n - (k + 1))
      case measure => omega
      case rel => exact ⟨k + 1, some ⟨g', 0, none⟩, c', Y, by omega, rfl, rfl, by go_num, hO4, hYb, (hc2.ext (ext_alloc (ext_refl _) _)).below hb3 hg0, Below.trans hb (Below.trans hw2.below (Below.trans ((ext_alloc (ext_refl _) _).mono (by omega)) (hb3.mono (by omega)))), by have q := hb3.size; simp at q; omega⟩
    · obtain rfl : k = n := by omega
      go_wp2_with fail
      go_ret
      exact ⟨k, sa, sc, X, hn, rfl, hO, hX, hc, hb⟩

set_option maxHeartbeats 1600000 in
theorem l18Inputs_c (g : Nat) (w : World) (h : Cur w g) :
    Calls Try.prog 74 #[.pointer (some ⟨g, 0, none⟩)] w fun e w' => ∃ (n : Nat) (sa : Option Addr) (sc : Nat) (X : Nat → Int), n < 12 ∧ e = .returned (.slice sa n sc) ∧ OI w' w.heap.size w'.heap.size (.slice sa n sc) n X ∧ (∀ i, i < n → -20 ≤ X i ∧ X i ≤ 20) ∧ Cur w' g ∧ Below g w w' := by
  have hg0 := h.lt
  go_enter Try.func74, Try.ntmps74
  go_wp2_with fail
  refine (l01Below_c g 12 _ (h.ext (by repeat (first | (with_reducible exact ext_refl _) | (with_reducible refine ext_setCell ?_ ?_ _) | (with_reducible refine ext_alloc ?_ _) | (with_reducible refine ext_drewN ?_ _) | (with_reducible refine ext_drew ?_) | (with_reducible refine ext_trans ?_ (by assumption)) | (dsimp only; omega) | omega | (simp; omega)))) (by omega) (by omega)).mono ?_
  rintro e w1 ⟨n, hn, rfl, hc1, hw1⟩
  have hz1 := hw1.size
  (try simp at hz1)
  have hO0 := (OI.lit w [] (fun _ => 0) 0 (by simp [maxLen]) rfl).within hw1 (.inr (by omega))
  rw [← hz1] at hO0
  have hb1 : Below g w w1 := Below.trans ((ext_alloc (ext_refl w) _).mono (Nat.le_of_lt hg0)) hw1.below
  go_wp2_with fail
  go_loopg [3, 5] n (fun gk o i wr => ∃ (k : Nat) (sa : Option Addr) (sc : Nat) (X : Nat → Int), k ≤ n ∧ gk = n - k ∧ o = .slice sa k sc ∧ i = .int .i64 k ∧ OI wr w.heap.size wr.heap.size (.slice sa k sc) k X ∧ (∀ i, i < k → -20 ≤ X i ∧ X i ≤ 20) ∧ Cur wr g ∧ Below g w wr ∧ w.heap.size ≤ wr.heap.size)
  · exact ⟨0, _, _, fun _ => 0, Nat.zero_le _, by omega, rfl, rfl, hO0, fun i hi => by omega, hc1, hb1, by omega⟩
  · obtain ⟨k, sa, sc, X, h1, h2, rfl, rfl, hO, hX, hc, hb, hs⟩ := hrel
    rcases Nat.lt_or_ge k n with hlt | hge
    · have q1 : (k : Int) < n := by omega
      go_wp2_with fail
      refine (l01Below_c g 41 _ hc (by omega) (by omega)).mono ?_
      rintro e w2 ⟨y, hy, rfl, hc2, hw2⟩
      have hz2 := hw2.size
      have hO2 := hO.within hw2 (.inr (by omega))
      obtain ⟨Y, hY⟩ : ∃ Y : Nat → Int, Y = fun j => if j = k then (y : Int) - 20 else X j := ⟨_, rfl⟩
      have hO3 : OI w2 w.heap.size wr.heap.size (.slice sa k sc) k Y := hO2.congr (fun j hj => by rw [hY]; simp; omega)
      have hYk : Y k = (y : Int) - 20 := by rw [hY]; simp
      have hYb : ∀ i, i < k + 1 → -20 ≤ Y i ∧ Y i ≤ 20 := by
        intro i hi
        rw [hY]
        by_cases he : i = k
        · simp [he]; omega
        · simp [he]; exact hX i (by omega)
      clear hY
      go_wp2_with (at_builtin; refine wpList_push_int rfl _ _ 22 rfl Try.underlying22 info_int _ w.heap.size k Y ((y : Int) - 20) _ _ _ rfl (hO3.ext (ext_alloc (ext_refl _) _)) ⟨wr.heap.size, 0, none⟩ 1 rfl (by rw [← hz2]; exact cell_new1 _ _ _) hYk (by omega) (by simp; omega) ?_; intro g' c' w3 hO4 hb3)
      go_roundg (n - (k + 1))
      case measure => omega
      case rel => exact ⟨k + 1, some ⟨g', 0, none⟩, c', Y, by omega, rfl, rfl, by go_num, hO4, hYb, (hc2.ext (ext_alloc (ext_refl _) _)).below hb3 hg0, Below.trans hb (Below.trans hw2.below (Below.trans ((ext_alloc (ext_refl _) _).mono (by omega)) (hb3.mono (by omega)))), by have q := hb3.size; simp at q; omega⟩
    · obtain rfl : k = n := by omega
      go_wp2_with fail
      go_ret
      exact ⟨k, sa, sc, X, hn, rfl, hO, hX, hc, hb⟩

set_option maxHeartbeats 800000 in
theorem l01PickInt_c (g : Nat) (sa : Option Addr) (n sc lo hi : Nat) (X : Nat → Int) (w : World) (h : Cur w g) (hO : OI w lo hi (.slice sa n sc) n X) (hg : g < lo) (hn : 0 < n) (hm : n ≤ 1048576) :
    Calls Try.prog 69 #[.pointer (some ⟨g, 0, none⟩), .slice sa n sc] w fun e w' => ∃ k, k < n ∧ e = .returned (.int .i64 (X k)) ∧ Cur w' g ∧ Within g (g + 1) w w' := by
  have H := Lib.hid hO
  clear hO
  go_enter Try.func69, Try.ntmps69
  go_wp2_with fail
  refine (l01Below_c g n _ h hn hm).mono ?_
  rintro e w1 ⟨k, hk, rfl, hc1, hw1⟩
  obtain ⟨b, off, rfl, hcell⟩ := (H.out.within hw1 (.inr (by omega))).reads hn
  have hck := hcell k hk
  clear hcell
  have q1 : (k : Int) < n := by omega
  go_wp2_with fail
  go_ret
  exact ⟨k, hk, rfl, hc1, hw1⟩
def steps7 : Nat → Int := fun j => [1, 2, 3, 5, 10, 4, 25].getD j 1
theorem steps7_in (k : Nat) (h : k < 7) : 1 ≤ steps7 k ∧ steps7 k ≤ 25 := by
  match k, h with
  | 0, _ => decide
  | 1, _ => decide
  | 2, _ => decide
  | 3, _ => decide
  | 4, _ => decide
  | 5, _ => decide
  | 6, _ => decide
  | j + 7, h => omega
set_option maxHeartbeats 800000 in
theorem spec_DrawRounding (a : Option Addr) (n c : Nat) (X : Nat → Int) (w : World) (h : BytesAt w a n X) (hn : n ≤ 1048576) :
    Calls Try.prog 31 #[.slice a n c] w fun e w' => ∃ (m : Nat) (sa : Option Addr) (sc : Nat) (Y : Nat → Int) (s : Int), m < 10 ∧ (∀ i, i < m → -50 ≤ Y i ∧ Y i ≤ 50) ∧ 1 ≤ s ∧ s ≤ 25 ∧ e = .returned (.tuple #[.slice sa m sc, .int .i64 s]) ∧ IntsAt w' sa m Y ∧ Ext w w' := by
  go_enter Try.func31, Try.ntmps31
  go_wp2_with fail
  refine (l01New_c _ _ _ _ _ h hn).mono ?_
  rintro e w1 ⟨g, rfl, hc1, hg, hx1⟩
  have hg1 := hc1.lt
  go_wp2_with fail
  refine (l19List_c g _ hc1).mono ?_
  rintro e w2 ⟨m, sa, sc, Y, hm, rfl, hO, hY, hc2, hb2⟩
  have hg2 := hc2.lt
  have hL := OI.lit w2 [.int .i64 1, .int .i64 2, .int .i64 3, .int .i64 5, .int .i64 10, .int .i64 4, .int .i64 25] steps7 7 (by simp [maxLen]) rfl
  go_wp2_with fail
  refine (l01PickInt_c g _ 7 _ _ _ steps7 _ (hc2.ext (ext_alloc (ext_refl _) _)) hL hg2 (by omega) (by omega)).mono ?_
  rintro e w3 ⟨k, hk, rfl, hc3, hw3⟩
  have hs := steps7_in k hk
  go_wp2_with fail
  go_ret2
  refine ⟨m, sa, sc, Y, steps7 k, hm, hY, hs.1, hs.2, rfl, ((hO.ext (ext_alloc (ext_refl _) _)).within hw3 (.inr (by omega))).reads, Below.trans hx1 (Below.trans (hb2.mono hg) (Below.trans ((ext_alloc (ext_refl _) _).mono (by omega)) (hw3.below.mono hg)))⟩
set_option maxHeartbeats 800000 in
theorem spec_DrawPlay (a : Option Addr) (n c : Nat) (X : Nat → Int) (w : World) (h : BytesAt w a n X) (hn : n ≤ 1048576) :
    Calls Try.prog 48 #[.slice a n c] w fun e w' => ∃ (d s : Int) (m : Nat) (sa : Option Addr) (sc : Nat) (Y : Nat → Int), 0 ≤ d ∧ d ≤ 8 ∧ -10 ≤ s ∧ s ≤ 10 ∧ m < 12 ∧ (∀ i, i < m → -20 ≤ Y i ∧ Y i ≤ 20) ∧ e = .returned (.tuple #[.int .i64 d, .int .i64 s, .slice sa m sc]) ∧ IntsAt w' sa m Y ∧ Ext w w' := by
  go_enter Try.func48, Try.ntmps48
  go_wp2_with fail
  refine (l01New_c _ _ _ _ _ h hn).mono ?_
  rintro e w1 ⟨g, rfl, hc1, hg, hx1⟩
  go_wp2_with fail
  refine (l01Below_c g 9 _ hc1 (by omega) (by omega)).mono ?_
  rintro e w2 ⟨x, hx, rfl, hc2, hw2⟩
  go_wp2_with fail
  refine (l01Below_c g 21 _ hc2 (by omega) (by omega)).mono ?_
  rintro e w3 ⟨y, hy, rfl, hc3, hw3⟩
  go_wp2_with fail
  refine (l18Inputs_c g _ hc3).mono ?_
  rintro e w4 ⟨m, sa, sc, Y, hm, rfl, hO, hY, hc4, hb4⟩
  go_wp2_with fail
  go_ret3
  exact ⟨x, (y : Int) - 10, m, sa, sc, Y, by omega, by omega, by omega, by omega, hm, fun i hi => by have := hY i hi; omega, rfl, hO.reads, Below.trans hx1 (Below.trans ((hw2.trans hw3).below.mono hg) (hb4.mono hg))⟩
end Go.Proofs.Ytmapcpkloomliaa
