/- The draws of designs with values, of square matrices (seat B). No condition but those of each contract. -/
import Derived.Test.YtefgdkjcoeikmaaDrawD
namespace Go.Proofs.Ytefgdkjcoeikmaa
open Go.ChangeShapes Go.WideShapes Go.ChangeAt Go.RowKit
set_option linter.unusedVariables false
set_option linter.unusedSimpArgs false

set_option maxHeartbeats 1600000 in
theorem l21List_c (g : Nat) (n m lo hi : Nat) (sa0 : Option Addr) (sc0 : Nat) (A : Nat → Option Addr) (C : Nat → Nat) (X0 : Nat → Nat → Int) (hn : n ≤ 1048576) (hm : 1 ≤ m) (w : World) (h : Cur w g) (hr : OR w lo hi (.slice sa0 m sc0) m A (fun _ => n) C X0) (hgl : g < lo) (hhi : hi ≤ w.heap.size) :
    Calls Try.prog 76 #[.pointer (some ⟨g, 0, none⟩), .slice sa0 m sc0] w fun e w' => ∃ (sa : Option Addr) (sc : Nat) (X : Nat → Int), e = .returned (.slice sa n sc) ∧ OI w' w.heap.size w'.heap.size (.slice sa n sc) n X ∧ (∀ i, i < n → -20 ≤ X i ∧ X i ≤ 20) ∧ Cur w' g ∧ Drew g w w' := by
  have hg0 := h.lt
  have qm : (0 : Int) < m := by omega
  obtain ⟨rb, ro, rfl, _⟩ := hr.rows.at_ (show 0 < m by omega)
  have HR := Lib.hid hr
  clear hr
  go_enter Try.func76, Try.ntmps76
  go_wp2_with fail
  go_loopg [5, 6] n (fun gk o i wr => ∃ (k : Nat) (sa : Option Addr) (sc : Nat) (X : Nat → Int), k ≤ n ∧ gk = n - k ∧ o = .slice sa k sc ∧ i = .int .i64 k ∧ OI wr w.heap.size wr.heap.size (.slice sa k sc) k X ∧ (∀ i, i < k → -20 ≤ X i ∧ X i ≤ 20) ∧ Cur wr g ∧ Drew g w wr ∧ w.heap.size ≤ wr.heap.size)
  · exact ⟨0, _, _, fun _ => 0, Nat.zero_le _, by omega, rfl, rfl, (OI.lit w [] (fun _ => 0) 0 (by simp [maxLen]) rfl).now, fun i hi => by omega, h.ext (ext_alloc (ext_refl _) _), Drew.ext (ext_alloc (ext_refl w) _), by simp⟩
  · obtain ⟨k, sa, sc, X, h1, h2, rfl, rfl, hO, hX, hc, hb, hs⟩ := hrel
    obtain ⟨rb', ro', hrr, hc0⟩ := (HR.out.drewn hb hgl hhi).rows.at_ (show 0 < m by omega)
    simp only [Option.some.injEq, Addr.mk.injEq, and_true] at hrr
    obtain ⟨rfl, rfl⟩ := hrr
    rw [Nat.add_zero] at hc0
    generalize A 0 = a0 at hc0
    rcases Nat.lt_or_ge k n with hlt | hge
    · have q1 : (k : Int) < n := by omega
      go_wp2_with fail
      refine (l01Below_c g 41 _ hc (by omega) (by omega)).mono ?_
      rintro e w2 ⟨y, hy, rfl, hc2, hw2⟩
      have hz2 := hw2.size
      have hO2 := hO.within hw2 (.inr (by omega))
      obtain ⟨Y, hY⟩ : ∃ Y : Nat → Int, Y = fun j => if j = k then (y : Int) - 20 else X j := ⟨_, rfl⟩
      have hO3 : OI w2 w.heap.size wr.heap.size (.slice sa k sc) k Y := hO2.congr (fun j hj => by rw [hY]; simp; omega)
      have hYk : Y k = (y : Int) - 20 := by rw [hY]; simp
      have hYb : ∀ i, i < k + 1 → -20 ≤ Y i ∧ Y i ≤ 20 := by
        intro i hi
        rw [hY]
        by_cases he : i = k
        · simp [he]; omega
        · simp [he]; exact hX i (by omega)
      clear hY
      go_wp2_with (at_builtin; refine wpList_push_int rfl _ _ 23 rfl Try.underlying23 info_int _ w.heap.size k Y ((y : Int) - 20) _ _ _ rfl (hO3.ext (ext_alloc (ext_refl _) _)) ⟨wr.heap.size, 0, none⟩ 1 rfl (by rw [← hz2]; exact cell_new1 _ _ _) hYk (by omega) (by simp; omega) ?_; intro g' c' w3 hO4 hb3)
      go_roundg (n - (k + 1))
      case measure => omega
      case rel => exact ⟨k + 1, some ⟨g', 0, none⟩, c', Y, by omega, rfl, rfl, by go_num, hO4, hYb, (hc2.ext (ext_alloc (ext_refl _) _)).below hb3 hg0, ((hb.within hw2).then_below (Below.trans ((ext_alloc (ext_refl w2) _).mono (by omega)) hb3)), by have q := hb3.size; simp at q; omega⟩
    · obtain rfl : k = n := by omega
      go_wp2_with fail
      go_ret
      exact ⟨sa, sc, X, rfl, hO, hX, hc, hb⟩


set_option maxHeartbeats 800000 in
theorem spec_DrawSquare (a : Option Addr) (n0 c : Nat) (X0 : Nat → Int) (w : World) (h : BytesAt w a n0 X0) (hn : n0 ≤ 1048576) :
    Calls Try.prog 31 #[.slice a n0 c] w fun e w' => ∃ (n : Nat) (sa : Option Addr) (sc : Nat) (A : Nat → Option Addr) (C : Nat → Nat) (X : Nat → Nat → Int), 1 ≤ n ∧ n ≤ 4 ∧ e = .returned (.slice sa n sc) ∧ RowsAt w' sa n A (fun _ => n) C X ∧ (∀ i, i < n → ∀ j, j < n → -4 ≤ X i j ∧ X i j ≤ 4) ∧ Ext w w' := by
  go_enter Try.func31, Try.ntmps31
  go_wp2_with fail
  refine (l01New_c _ _ _ _ _ h hn).mono ?_
  rintro e w1 ⟨g, rfl, hc1, hg, hx1⟩
  go_wp2_with fail
  refine (l22Square_c g _ hc1).mono ?_
  rintro e w2 ⟨n, sa, sc, A, C, X, n1, n2, rfl, hO, hX, hc2, hb2⟩
  go_wp2_with fail
  go_ret
  exact ⟨n, sa, sc, A, C, X, n1, n2, rfl, hO.rows, hX, Below.trans hx1 (hb2.mono hg)⟩
set_option maxHeartbeats 800000 in
theorem spec_DrawDesign (a : Option Addr) (n0 c : Nat) (X0 : Nat → Int) (w : World) (h : BytesAt w a n0 X0) (hn : n0 ≤ 1048576) :
    Calls Try.prog 35 #[.slice a n0 c] w fun e w' => ∃ (n m : Nat) (sa : Option Addr) (sc : Nat) (A : Nat → Option Addr) (C : Nat → Nat) (X : Nat → Nat → Int) (va : Option Addr) (vc : Nat) (Y : Nat → Int), 1 ≤ n ∧ n ≤ 4 ∧ 1 ≤ m ∧ m ≤ 6 ∧ e = .returned (.tuple #[.slice sa m sc, .slice va n vc]) ∧ RowsAt w' sa m A (fun _ => n) C X ∧ (∀ i, i < m → ∀ j, j < n → -1 ≤ X i j ∧ X i j ≤ 1) ∧ IntsAt w' va n Y ∧ (∀ i, i < n → -20 ≤ Y i ∧ Y i ≤ 20) ∧ Ext w w' := by
  go_enter Try.func35, Try.ntmps35
  go_wp2_with fail
  refine (l01New_c _ _ _ _ _ h hn).mono ?_
  rintro e w1 ⟨g, rfl, hc1, hg, hx1⟩
  have hg1 := hc1.lt
  go_wp2_with fail
  refine (l21Design_c g _ hc1).mono ?_
  rintro e w2 ⟨n, m, sa, sc, A, C, X, n1, n2, m1, m2, rfl, hO, hX, hc2, hd2⟩
  go_wp2_with fail
  refine (l21List_c g n m _ _ sa sc A C X (by omega) m1 _ hc2 hO hg1 (Nat.le_refl _)).mono ?_
  rintro e w3 ⟨va, vc, Y, rfl, hI, hY, hc3, hd3⟩
  go_wp2_with fail
  go_ret2
  exact ⟨n, m, sa, sc, A, C, X, va, vc, Y, n1, n2, m1, m2, rfl, (hO.drewn hd3 hg1 (Nat.le_refl _)).rows, hX, hI.reads, hY, Below.trans hx1 (((hd2.trans hd3).below (by omega)).mono hg)⟩
end Go.Proofs.Ytefgdkjcoeikmaa
