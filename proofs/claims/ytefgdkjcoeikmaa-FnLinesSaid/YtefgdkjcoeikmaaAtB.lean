/- The words 'at' and 'big' of the statements (seat B). No condition but those of each contract. -/
import Derived.Test.YtefgdkjcoeikmaaDrawE
import Derived.BigQuiet
namespace Go.Proofs.Ytefgdkjcoeikmaa
open Go.ChangeShapes Go.WideShapes Go.ChangeAt Go.RowKit
set_option linter.unusedVariables false
set_option linter.unusedSimpArgs false

theorem laws_big (a : Option Addr) (n c : Nat) (w : World) :
    Calls Try.prog 23 #[.slice a n c] w fun e w' => e = .returned (.bool (decide (1048576 < n))) ∧ w = w' := by
  by_cases h : 1048576 < n
  · have h' : (1048576 : Int) < n := by omega
    go_enter Try.func23, Try.ntmps23
    go_wp2
    go_ret
    exact ⟨ret_bool (by simp [h]), rfl⟩
  · have h' : ¬ (1048576 : Int) < n := by omega
    go_enter Try.func23, Try.ntmps23
    go_wp2
    go_ret
    exact ⟨ret_bool (by simp [h]), rfl⟩
set_option maxHeartbeats 800000 in
theorem laws_at (i : Nat) (hi : i ≤ 100) (a : Option Addr) (n c : Nat) (X : Nat → Int) (w : World) (h : BytesAt w a n X) (hn : n ≤ 1048576) :
    Calls Try.prog 36 #[.slice a n c, .int .i64 i] w fun e w' => ∃ x : Int, 0 ≤ x ∧ x ≤ 255 ∧ e = .returned (.int .i64 x) ∧ w = w' := by
  rcases Nat.eq_zero_or_pos n with rfl | hp
  · go_enter Try.func36, Try.ntmps36
    go_wp2
    go_ret
    exact ⟨0, by omega, by omega, rfl, rfl⟩
  · obtain ⟨b, off, rfl, hc, hx0, hx1⟩ := h.at_ (show (i * 5 + 1) % n < n from Nat.mod_lt _ hp)
    have q0 : ((n : Int) == 0) = false := by rw [beq_eq_false_iff_ne]; omega
    have q1 : (n : Int) ≠ 0 := by omega
    have q2 : Int.tmod ((i : Int) * 5 + 1) (n : Int) = (((i * 5 + 1) % n : Nat) : Int) := by rw [Int.tmod_eq_emod_of_nonneg (by omega)]; rfl
    have q3 : ((i : Int) * 5 + 1) % (n : Int) = (((i * 5 + 1) % n : Nat) : Int) := rfl
    have q4 : (((i * 5 + 1) % n : Nat) : Int) < n := by have := Nat.mod_lt (i * 5 + 1) hp; omega
    generalize (i * 5 + 1) % n = m at *
    go_enter Try.func36, Try.ntmps36
    go_wp2
    go_ret
    exact ⟨X m, hx0, hx1, rfl, rfl⟩
theorem quiet_eq2 {P : Program} {f : FuncId} {args : Array Value} {w : World} {a n : Nat} {v : Value}
    (h : Calls P f args (w.drewN (a + n)) fun e w' => e = .returned v ∧ w.drewN (a + n) = w') : Calls P f args (w.drewN (a + n)) fun e w'' => e = .returned v ∧ ∃ m, w'' = w.drewN (a + m) :=
  h.mono fun _ _ ⟨he, hm⟩ => ⟨he, n, hm.symm⟩
end Go.Proofs.Ytefgdkjcoeikmaa
