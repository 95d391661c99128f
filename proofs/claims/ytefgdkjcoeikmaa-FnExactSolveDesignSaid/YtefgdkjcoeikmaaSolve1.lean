/- The contracts of readings that are valid, and of spreads. No condition but those of each contract. -/
import Derived.Test.YtefgdkjcoeikmaaDet3
import Derived.Test.YtefgdkjcoeikmaaFrac5
namespace Go.Proofs.Ytefgdkjcoeikmaa
open Go.ChangeShapes Go.WideShapes Go.ChangeAt Go.RowKit
set_option linter.unusedVariables false
set_option linter.unusedSimpArgs false

def readingsOkB (n : Nat) (L : Nat → Nat) (X : Nat → Nat → Int) (m : Nat) (V : Nat → Int) : Bool := isDetB n L X && (decide (m = n) && allB (-500) 500 V m)
set_option maxHeartbeats 1600000 in
theorem impl_ReadingsOk (a b : Option Addr) (n c m d : Nat) (A : Nat → Option Addr) (L C : Nat → Nat) (X : Nat → Nat → Int) (V : Nat → Int) (w : World) (h : RowsAt w a n A L C X) (hv : IntsAt w b m V) (hn : n ≤ 1048576) (hT : off L n ≤ 1048576) (hm : m ≤ 1099511627776) :
    Calls Try.prog 58 #[.slice a n c, .slice b m d] w fun e w' => e = .returned (.bool (readingsOkB n L X m V)) ∧ Ext w w' := by
  have HV := Lib.hid hv
  clear hv
  cases h0 : isDetB n L X
  · go_enter Try.func58, Try.ntmps58
    go_wp2_with (go_at_call 37; refine (impl_IsDetermined _ _ _ _ _ _ _ _ h hn hT).mono ?_; rintro e w1 ⟨rfl, hx⟩)
    go_ret
    exact ⟨ret_bool (by simp [readingsOkB, h0]), hx⟩
  · by_cases e : m = n
    · have hb := neq_no e
      have HOK := Lib.hid (show readingsOkB n L X m V = allB (-500) 500 V m by simp [readingsOkB, h0, e])
      clear e
      go_enter Try.func58, Try.ntmps58
      go_wp2_with (go_at_call 37; refine (impl_IsDetermined _ _ _ _ _ _ _ _ h hn hT).mono ?_; rintro e w1 ⟨rfl, hx⟩)
      clear h0 hb
      go_loop [19] (fun i => ∃ k : Nat, k ≤ m ∧ i = .int .i64 k ∧ Hid (allB (-500) 500 V k = true)) (fun i => m - (intOf i).toNat)
      case atStart => exact ⟨0, Nat.zero_le _, rfl, Lib.hid rfl⟩
      case round =>
        obtain ⟨k, hk, rfl, hal⟩ := hrel
        rcases Nat.lt_or_ge k m with hlt | hge
        · obtain ⟨b2, of2, rfl, hc⟩ := HV.out.at_ hlt
          have hc' := ext_cell hx hc
          have hlt' : (k : Int) < (m : Int) := by omega
          clear hc
          cases h3 : inB (V k) (-500) 500
          · have HB := Lib.hid (allB_no hlt h3)
            go_wp2_with (go_at_call 73; refine (impl_in _ _ _ _).mono ?_; rintro e w' ⟨rfl, rfl⟩)
            go_ret
            exact ⟨ret_bool (HOK.out.trans HB.out).symm, hx⟩
          · have HB := Lib.hid (allB_yes hal.out h3)
            go_wp2_with (go_at_call 73; refine (impl_in _ _ _ _).mono ?_; rintro e w' ⟨rfl, rfl⟩)
            go_round
            case measure => simp [intOf]; omega
            case rel => exact ⟨k + 1, by omega, by go_num, HB⟩
        · obtain rfl : k = m := by omega
          go_wp2
          go_ret
          exact ⟨ret_bool (HOK.out.trans hal.out).symm, hx⟩
    · have hb := neq_yes e
      have HR := Lib.hid (show readingsOkB n L X m V = false by simp [readingsOkB, e])
      clear e
      go_enter Try.func58, Try.ntmps58
      go_wp2_with (go_at_call 37; refine (impl_IsDetermined _ _ _ _ _ _ _ _ h hn hT).mono ?_; rintro e w1 ⟨rfl, hx⟩)
      go_ret
      exact ⟨ret_bool HR.out.symm, hx⟩
set_option maxHeartbeats 1600000 in
theorem spec_ReadingsOk (a b : Option Addr) (n c m d : Nat) (A : Nat → Option Addr) (L C : Nat → Nat) (X : Nat → Nat → Int) (V : Nat → Int) (w : World) (h : RowsAt w a n A L C X) (hv : IntsAt w b m V) (hn : n ≤ 1048576) (hT : off L n ≤ 1048576) (hm : m ≤ 1099511627776) :
    Calls Try.prog 53 #[.slice a n c, .slice b m d] w fun e w' => e = .returned (.bool (readingsOkB n L X m V)) ∧ Ext w w' := by
  have HV := Lib.hid hv
  clear hv
  go_enter Try.func53, Try.ntmps53
  go_wp2
  go_loop [5] (fun i => ∃ k : Nat, k ≤ m ∧ i = .int .i64 k ∧ Hid (allB (-500) 500 V k = true)) (fun i => m - (intOf i).toNat)
  case atStart => exact ⟨0, Nat.zero_le _, rfl, Lib.hid rfl⟩
  case round =>
    obtain ⟨k, hk, rfl, hal⟩ := hrel
    rcases Nat.lt_or_ge k m with hlt | hge
    · obtain ⟨b2, of2, rfl, hc⟩ := HV.out.at_ hlt
      have hlt' : (k : Int) < (m : Int) := by omega
      cases h3 : inB (V k) (-500) 500
      · have HB := Lib.hid (allB_no hlt h3)
        go_wp2_with (go_at_call 85; refine (spec_in _ _ _ _).mono ?_; rintro e w' ⟨rfl, rfl⟩)
        go_ret
        exact ⟨ret_bool (show false = readingsOkB n L X m V by simp [readingsOkB, HB.out]), ext_refl _⟩
      · have HB := Lib.hid (allB_yes hal.out h3)
        go_wp2_with (go_at_call 85; refine (spec_in _ _ _ _).mono ?_; rintro e w' ⟨rfl, rfl⟩)
        go_round
        case measure => simp [intOf]; omega
        case rel => exact ⟨k + 1, by omega, by go_num, HB⟩
    · obtain rfl : k = m := by omega
      cases h0 : isDetB n L X
      · go_wp2_with (go_at_call 86; refine (spec_IsDetermined _ _ _ _ _ _ _ _ h hn hT).mono ?_; rintro e w1 ⟨rfl, hx⟩)
        go_ret
        exact ⟨ret_bool (show false = readingsOkB n L X k V by simp [readingsOkB, h0]), hx⟩
      · have HR := Lib.hid (show ((k : Int) == (n : Int)) = readingsOkB n L X k V by
          rw [Bool.eq_iff_iff]; simp [readingsOkB, h0, hal.out]; omega)
        go_wp2_with (go_at_call 86; refine (spec_IsDetermined _ _ _ _ _ _ _ _ h hn hT).mono ?_; rintro e w1 ⟨rfl, hx⟩)
        go_ret
        exact ⟨ret_bool HR.out, hx⟩

/-! ### spreads -/
def spOk (n : Nat) (L : Nat → Nat) (X : Nat → Nat → Int) (k : Int) : Bool := isDetB n L X && inB k 0 ((L 0 : Int) - 1)
def spTop (n : Nat) (L : Nat → Nat) (X : Nat → Nat → Int) (k : Int) : Int := adjF (L 0) (gramF n X) k.toNat k.toNat
def fracIf (ok : Bool) (t b : Int) : Ending := frac (if ok then mkT t b else 0) (if ok then mkB t b else 0) (ok && mkOk t b)
theorem fracIf_no {ok : Bool} {t b : Int} (h : ok = false) : fracIf ok t b = frac 0 0 false := by simp [fracIf, h]
theorem fracIf_yes {ok : Bool} {t b : Int} (h : ok = true) : fracIf ok t b = frac (mkT t b) (mkB t b) (mkOk t b) := by simp [fracIf, h]
/-- the cells of a result -/
theorem res_cells {w wk : World} {T : TypeId} (E : Ext (w.alloc (.cells #[.int .i64 0, .int .i64 0] T)) wk) :
    wk.cell? ⟨w.heap.size, 0, none⟩ = some (.int .i64 0) ∧ wk.cell? ⟨w.heap.size, 1, none⟩ = some (.int .i64 0) ∧ (∀ j, wk.frozen? ⟨w.heap.size, j, none⟩ = false) ∧ w.heap.size < wk.heap.size := by
  have hz := ext_size E
  simp at hz
  refine ⟨ext_cell E (by go_simp), ext_cell E (by go_simp), fun j => ?_, by omega⟩
  rw [E.frozen (p := ⟨w.heap.size, j, none⟩) (by simp)]
  go_simp
theorem det_parts {n : Nat} {L : Nat → Nat} {X : Nat → Nat → Int} (h : isDetB n L X = true) : designOkB n L X = true ∧ gdet n L X ≠ 0 := by
  simp only [isDetB, Bool.and_eq_true, bne_iff_ne] at h; exact h

theorem adj_diag {n : Nat} {X : Nat → Nat → Int} {k : Nat} : adjF n X k k = detF (n - 1) (wo X k k) := adj_even (by omega)
/-! ### the sum of all spreads -/
def diag (n : Nat) (L : Nat → Nat) (X : Nat → Nat → Int) : Nat → Int := fun k => adjF (L 0) (gramF n X) k k
theorem diag_bound {n : Nat} {L : Nat → Nat} {X : Nat → Nat → Int} (h : designOkB n L X = true) {k : Nat} (hk : k < L 0) : -100000 ≤ diag n L X k ∧ diag n L X k ≤ 100000 := by
  obtain ⟨m', hm'⟩ : ∃ m', L 0 = m' + 1 := ⟨L 0 - 1, by omega⟩
  have hs := gram_sq h
  unfold diag
  rw [adj_diag]
  rw [hm'] at hs ⊢
  exact (hs.wo k k).det
theorem diag_sum {n : Nat} {L : Nat → Nat} {X : Nat → Nat → Int} (h : designOkB n L X = true) {k : Nat} (hk : k ≤ L 0) : -1000000 ≤ sumN k (diag n L X) ∧ sumN k (diag n L X) ≤ 1000000 := by
  have := sumN_bound (n := k) (f := diag n L X) (B := 100000) (fun i hi => diag_bound h (by omega))
  have := (design_iff.1 h).2.1
  omega
end Go.Proofs.Ytefgdkjcoeikmaa
