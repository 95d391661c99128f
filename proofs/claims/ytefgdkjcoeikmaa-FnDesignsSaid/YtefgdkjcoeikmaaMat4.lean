/- The contracts of IsDifferential and OrthogonalWeight. No condition but those of each contract. -/
import Derived.Test.YtefgdkjcoeikmaaMat3
namespace Go.Proofs.Ytefgdkjcoeikmaa
open Go.ChangeShapes Go.WideShapes Go.ChangeAt Go.RowKit
set_option linter.unusedVariables false
set_option linter.unusedSimpArgs false

set_option maxHeartbeats 800000 in
theorem impl_sumOf (a : Option Addr) (n c : Nat) (X : Nat → Int) (w : World) (ha : IntsAt w a n X) (hn : n ≤ 1048576) (hM : ∀ i, i < n → -1099511627776 ≤ X i ∧ X i ≤ 1099511627776) :
    Calls Try.prog 81 #[.slice a n c] w fun e w' => e = .returned (.int .i64 (sumN n X)) ∧ w = w' := by
  have HA := Lib.hid ha
  have HM := Lib.hid hM
  clear ha hM
  go_enter Try.func81, Try.ntmps81
  go_wp2
  go_loop [3, 8] (fun t i => ∃ k : Nat, k ≤ n ∧ t = .int .i64 (sumN k X) ∧ i = .int .i64 k) (fun _ i => n - (intOf i).toNat)
  case atStart => exact ⟨0, Nat.zero_le _, rfl, rfl⟩
  case round =>
    obtain ⟨k, hk, rfl, rfl⟩ := hrel
    rcases Nat.lt_or_ge k n with hlt | hge
    · obtain ⟨ba, oa, rfl, hca⟩ := HA.out.at_ hlt
      have hlt' : (k : Int) < (n : Int) := by omega
      obtain ⟨q1, q2⟩ := HM.out k hlt
      obtain ⟨q3, q4⟩ := sumN_bound (n := k) (f := X) (B := 1099511627776) (fun i hi => HM.out i (by omega))
      go_wp2
      go_round
      case measure => simp [intOf]; omega
      case rel => exact ⟨k + 1, by omega, rfl, by go_num⟩
    · obtain rfl : k = n := by omega
      go_wp2
      go_ret
      exact ⟨rfl, rfl⟩

/-! ### sums that are 0 -/
def cntI (v : Int) (X : Nat → Int) : Nat → Int
  | 0 => 0
  | k + 1 => if X k = v then cntI v X k + 1 else cntI v X k
theorem cnt_bound (v : Int) (X : Nat → Int) (k : Nat) : 0 ≤ cntI v X k ∧ cntI v X k ≤ k := by
  induction k with
  | zero => simp [cntI]
  | succ k ih => simp only [cntI]; split <;> omega
theorem cnt_sum {X : Nat → Int} {n : Nat} (h : ∀ j, j < n → -1 ≤ X j ∧ X j ≤ 1) : cntI 1 X n - cntI (-1) X n = sumN n X := by
  induction n with
  | zero => rfl
  | succ n ih =>
    have h1 := ih fun j hj => h j (by omega)
    have h2 := h n (by omega)
    simp only [cntI, sumN]
    split <;> split <;> omega
def sumZ (L : Nat → Nat) (X : Nat → Nat → Int) : Nat → Bool := fun i => sumN (L i) (X i) == 0
def diffOkB (n : Nat) (L : Nat → Nat) (X : Nat → Nat → Int) : Bool := designOkB n L X && allR (sumZ L X) n

set_option maxHeartbeats 1600000 in
theorem impl_IsDifferential (a : Option Addr) (n c : Nat) (A : Nat → Option Addr) (L C : Nat → Nat) (X : Nat → Nat → Int) (w : World) (h : RowsAt w a n A L C X) (hn : n ≤ 1048576) (hT : off L n ≤ 1048576) :
    Calls Try.prog 42 #[.slice a n c] w fun e w' => e = .returned (.bool (diffOkB n L X)) ∧ w = w' := by
  have H := Lib.hid h
  cases h0 : designOkB n L X
  · go_enter Try.func42, Try.ntmps42
    go_wp2_with (go_at_call 41; refine (impl_DesignOk _ _ _ _ _ _ _ _ h hn hT).mono ?_; rintro e w' ⟨rfl, rfl⟩)
    go_ret
    exact ⟨ret_bool (by simp [diffOkB, h0]), rfl⟩
  · have HD := Lib.hid (design_iff.1 h0)
    have HOK := Lib.hid (show diffOkB n L X = allR (sumZ L X) n by simp [diffOkB, h0])
    go_enter Try.func42, Try.ntmps42
    go_wp2_with (go_at_call 41; refine (impl_DesignOk _ _ _ _ _ _ _ _ h hn hT).mono ?_; rintro e w' ⟨rfl, rfl⟩)
    clear h h0
    go_loop [10] (fun i => ∃ k : Nat, k ≤ n ∧ i = .int .i64 k ∧ Hid (allR (sumZ L X) k = true)) (fun i => n - (intOf i).toNat)
    case atStart => exact ⟨0, Nat.zero_le _, rfl, Lib.hid rfl⟩
    case round =>
      obtain ⟨k, hk, rfl, hal⟩ := hrel
      rcases Nat.lt_or_ge k n with hlt | hge
      · obtain ⟨b, of, rfl, hc⟩ := H.out.at_ hlt
        have hr := H.out.row k hlt
        have hl1 := off_row (L := L) hlt
        have hlt' : (k : Int) < (n : Int) := by omega
        have hM := Lib.hid (show ∀ i, i < L k → -1099511627776 ≤ X k i ∧ X k i ≤ 1099511627776 from fun i hi => by have := (HD.out.2.2 k hlt).2 i hi; omega)
        by_cases e : sumN (L k) (X k) = 0
        · have HB := Lib.hid (allR_yes hal.out (show sumZ L X k = true by simp [sumZ, e]))
          have hb : (sumN (L k) (X k) != 0) = false := by simp [e]
          clear e
          go_wp2_with (go_at_call 81; refine (impl_sumOf _ _ _ _ _ hr (by omega) hM.out).mono ?_; rintro e w' ⟨rfl, rfl⟩)
          go_round
          case measure => simp [intOf]; omega
          case rel => exact ⟨k + 1, by omega, by go_num, HB⟩
        · have HB := Lib.hid (allR_no hlt (show sumZ L X k = false by simp [sumZ, e]))
          have hb : (sumN (L k) (X k) != 0) = true := by simp [e]
          clear e
          go_wp2_with (go_at_call 81; refine (impl_sumOf _ _ _ _ _ hr (by omega) hM.out).mono ?_; rintro e w' ⟨rfl, rfl⟩)
          go_ret
          exact ⟨ret_bool (HOK.out.trans HB.out).symm, rfl⟩
      · obtain rfl : k = n := by omega
        go_wp2
        go_ret
        exact ⟨ret_bool (HOK.out.trans hal.out).symm, rfl⟩
theorem diff_no {n k : Nat} {L : Nat → Nat} {X : Nat → Nat → Int} (hk : k < n) (h : cntI 1 (X k) (L k) ≠ cntI (-1) (X k) (L k)) : diffOkB n L X = false := by
  cases h0 : designOkB n L X
  · simp [diffOkB, h0]
  · have hs := cnt_sum ((design_iff.1 h0).2.2 k hk).2
    have : sumZ L X k = false := by simp [sumZ]; omega
    simp [diffOkB, allR_no hk this]
theorem diff_yes {n : Nat} {L : Nat → Nat} {X : Nat → Nat → Int} (h : ∀ k, k < n → cntI 1 (X k) (L k) = cntI (-1) (X k) (L k)) : diffOkB n L X = designOkB n L X := by
  cases h0 : designOkB n L X
  · simp [diffOkB, h0]
  · have : allR (sumZ L X) n = true := allR_iff.2 fun k hk => by
      have hs := cnt_sum ((design_iff.1 h0).2.2 k hk).2
      have := h k hk
      simp [sumZ]; omega
    simp [diffOkB, h0, this]
end Go.Proofs.Ytefgdkjcoeikmaa
