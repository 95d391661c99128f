/- The draw of a vernier, and what the statement on verniers needs. No condition but those of each contract. -/
import Derived.Test.YtmapcpkloomliaaDraw
import Derived.Test.YtmapcpkloomliaaScal
namespace Go.Proofs.Ytmapcpkloomliaa
open Go.ChangeShapes Go.WideShapes Go.ChangeAt Go.RowKit
set_option linter.unusedVariables false
set_option linter.unusedSimpArgs false

theorem Drawn.rf (w : World) : Drawn w w := ⟨0, rfl⟩
theorem Drawn.dN {w w' : World} (h : Drawn w w') (n : Nat) : Drawn w (w'.drewN n) := by
  obtain ⟨m, rfl⟩ := h; exact ⟨m + n, World.drewN_drewN _ _ _⟩
theorem quiet_dr {P : Program} {f : FuncId} {args : Array Value} {w : World} {n : Nat} {v : Value}
    (h : Calls P f args (w.drewN n) fun e w' => e = .returned v ∧ Drawn (w.drewN n) w') : Calls P f args (w.drewN n) fun e w'' => e = .returned v ∧ ∃ m, w'' = w.drewN m :=
  Calls.quiet_of h

theorem laws_big (a : Option Addr) (n c : Nat) (w : World) :
    Calls Try.prog 20 #[.slice a n c] w fun e w' => e = .returned (.bool (decide (1048576 < n))) ∧ w = w' := by
  by_cases h : 1048576 < n
  · have h' : (1048576 : Int) < n := by omega
    go_enter Try.func20, Try.ntmps20
    go_wp2
    go_ret
    exact ⟨ret_bool (by simp [h]), rfl⟩
  · have h' : ¬ (1048576 : Int) < n := by omega
    go_enter Try.func20, Try.ntmps20
    go_wp2
    go_ret
    exact ⟨ret_bool (by simp [h]), rfl⟩
theorem vern_read {n p : Int} (h : vernOkB n p = true) : readI n p = p := by simp [readI, h]
theorem impl_ReadVernier_d (n p : Int) (w : World) (h1 : vernOkB n p = true) :
    Calls Try.prog 24 #[.int .i64 n, .int .i64 p] w fun e w' => e = .returned (.int .i64 (readI n p)) ∧ Drawn w w' := by
  obtain ⟨b1, b2, b3, b4⟩ := vern_bounds h1
  obtain ⟨e1, d1, d2, d3, d4, d5, d6⟩ := vern_div h1
  have E := Lib.hid e1
  clear e1
  have hc : coinI n p = p % n := by simp [coinI, h1]
  have HC := Lib.hid hc
  have c1 : 0 ≤ coinI n p := by omega
  have c2 : coinI n p ≤ 50 := by omega
  clear hc
  go_enter Try.func24, Try.ntmps24
  go_wp2_with (go_at_call 26; refine (impl_VernierOk _ _ _).mono ?_; rintro e w' ⟨rfl, rfl⟩)
  go_quiet ((go_at_call 22; exact quiet_eq (impl_CoincidingMark _ _ _)))
  go_wp2
  go_ret
  exact ⟨ret_int (by rw [HC.out, E.out]; simp [readI, h1]), (Drawn.rf _).dN _⟩
theorem spec_DrawVernier (a : Option Addr) (n c : Nat) (X : Nat → Int) (w : World) (h : BytesAt w a n X) (hn : n ≤ 1048576) :
    Calls Try.prog 21 #[.slice a n c] w fun e w' => ∃ k p : Int, 2 ≤ k ∧ k ≤ 31 ∧ 0 ≤ p ∧ p ≤ 499 ∧ e = .returned (.tuple #[.int .i64 k, .int .i64 p]) ∧ Ext w w' := by
  go_enter Try.func21, Try.ntmps21
  go_wp2_with fail
  refine (l01New_c _ _ _ _ _ h hn).mono ?_
  rintro e w1 ⟨g, rfl, hc1, hg, hx1⟩
  go_wp2_with fail
  refine (l01Below_c g 30 _ hc1 (by omega) (by omega)).mono ?_
  rintro e w2 ⟨x, hx, rfl, hc2, hw2⟩
  go_wp2_with fail
  refine (l01Below_c g 500 _ hc2 (by omega) (by omega)).mono ?_
  rintro e w3 ⟨y, hy, rfl, hc3, hw3⟩
  go_wp2_with fail
  go_ret2
  exact ⟨2 + (x : Int), y, by omega, by omega, by omega, by omega, rfl, Below.trans hx1 ((hw2.trans hw3).below.mono hg)⟩
end Go.Proofs.Ytmapcpkloomliaa
