/- The word 'at' of the statements as a plain function. No condition but those of each contract. -/
import Derived.Test.YtefgdkjcoeikmaaAtB
namespace Go.Proofs.Ytefgdkjcoeikmaa
open Go.ChangeShapes Go.WideShapes Go.ChangeAt Go.RowKit
set_option linter.unusedVariables false
set_option linter.unusedSimpArgs false

def atF (n : Nat) (X : Nat → Int) (i : Nat) : Int := if n = 0 then 0 else X ((i * 5 + 1) % n)
theorem atF_in {w : World} {a : Option Addr} {n : Nat} {X : Nat → Int} (h : BytesAt w a n X) (i : Nat) : 0 ≤ atF n X i ∧ atF n X i ≤ 255 := by
  unfold atF
  split
  · omega
  · obtain ⟨b, off, rfl, hc, hx0, hx1⟩ := h.at_ (show (i * 5 + 1) % n < n from Nat.mod_lt _ (by omega))
    omega
set_option maxHeartbeats 800000 in
theorem laws_at_f (i : Nat) (hi : i ≤ 100) (a : Option Addr) (n c : Nat) (X : Nat → Int) (w : World) (h : BytesAt w a n X) (hn : n ≤ 1048576) :
    Calls Try.prog 36 #[.slice a n c, .int .i64 i] w fun e w' => e = .returned (.int .i64 (atF n X i)) ∧ w' = w := by
  rcases Nat.eq_zero_or_pos n with rfl | hp
  · go_enter Try.func36, Try.ntmps36
    go_wp2
    go_ret
    exact ⟨rfl, rfl⟩
  · obtain ⟨b, off, rfl, hc, hx0, hx1⟩ := h.at_ (show (i * 5 + 1) % n < n from Nat.mod_lt _ hp)
    have HA := Lib.hid (show X ((i * 5 + 1) % n) = atF n X i by unfold atF; rw [if_neg (by omega)])
    have q0 : ((n : Int) == 0) = false := by rw [beq_eq_false_iff_ne]; omega
    have q1 : (n : Int) ≠ 0 := by omega
    have q2 : Int.tmod ((i : Int) * 5 + 1) (n : Int) = (((i * 5 + 1) % n : Nat) : Int) := by rw [Int.tmod_eq_emod_of_nonneg (by omega)]; rfl
    have q3 : ((i : Int) * 5 + 1) % (n : Int) = (((i * 5 + 1) % n : Nat) : Int) := rfl
    have q4 : (((i * 5 + 1) % n : Nat) : Int) < n := by have := Nat.mod_lt (i * 5 + 1) hp; omega
    generalize (i * 5 + 1) % n = m at *
    go_enter Try.func36, Try.ntmps36
    go_wp2
    go_ret
    exact ⟨by rw [HA.out]; rfl, rfl⟩
end Go.Proofs.Ytefgdkjcoeikmaa
