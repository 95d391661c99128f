/- The contracts of the functions on lists of integers, more: moves, lags, carried rounding. No condition but those of each contract. -/
import Derived.Test.YtmapcpkloomliaaList2
import Derived.Test.YtmapcpkloomliaaPlainA
import Derived.WalkSpells
namespace Go.Proofs.Ytmapcpkloomliaa
open Go.ChangeShapes Go.WideShapes Go.ChangeAt Go.RowKit
set_option linter.unusedVariables false
set_option linter.unusedSimpArgs false

theorem playAllOk_iff {d s : Int} {n : Nat} {X : Nat → Int} : playAllOk d s n X = true ↔ (0 ≤ d ∧ d ≤ 100) ∧ (-10000 ≤ s ∧ s ≤ 10000) ∧ n ≤ 60 ∧ ∀ i, i < n → -10000 ≤ X i ∧ X i ≤ 10000 := by
  unfold playAllOk playOkB
  simp only [Bool.and_eq_true, inB_true, decide_eq_true_eq, allB_iff, and_assoc]
def countMovesI (d s : Int) (n : Nat) (X : Nat → Int) : Int := if playAllOk d s n X then movesF (playF d s X) n else -1
def greatestLagI (d s : Int) (n : Nat) (X : Nat → Int) : Int := if playAllOk d s n X then lagF X (playF d s X) n else -1
theorem wrapI {x : Int} (h1 : -9223372036854775808 ≤ x) (h2 : x ≤ 9223372036854775807) : IntKind.i64.wrap x = x := IntWalk.i64_in _ (by omega)

set_option maxHeartbeats 1600000 in
theorem impl_CountMoves (d s : Int) (a : Option Addr) (n c : Nat) (X : Nat → Int) (w : World) (h : IntsAt w a n X) (hn : n ≤ 1099511627776) :
    Calls Try.prog 39 #[.int .i64 d, .int .i64 s, .slice a n c] w fun e w' => e = .returned (.int .i64 (countMovesI d s n X)) ∧ Ext w w' := by
  have hq := fun (w : World) (a : Option Addr) (n c : Nat) => Lib.run_eql_slice_nil (P := Try.prog) w 22 3 a n c 0 0 Try.underlying22
  cases hok : playAllOk d s n X
  · have HR := Lib.hid (show countMovesI d s n X = -1 by simp [countMovesI, hok])
    go_enter Try.func39, Try.ntmps39
    go_wp2_with fail
    refine (impl_PlayAll _ _ _ _ _ X _ h hn).mono ?_
    rintro e w1 hp
    obtain ⟨rfl, hx⟩ := hp.2 hok
    clear hp
    go_wp2_with fail
    go_ret
    exact ⟨ret_int HR.out.symm, hx⟩
  · have HR := Lib.hid (show countMovesI d s n X = movesF (playF d s X) n by simp [countMovesI, hok])
    go_enter Try.func39, Try.ntmps39
    go_wp2_with fail
    refine (impl_PlayAll _ _ _ _ _ X _ h hn).mono ?_
    rintro e w1 hp
    obtain ⟨p, q, rfl, hO, hx⟩ := hp.1 hok
    clear hp
    obtain ⟨g, rfl, b1, b2, b3⟩ := hO.head (by omega)
    go_wp2_with fail
    clear hq
    go_loopg [8, 9] n (fun gk t i wr => ∃ k : Nat, k ≤ n ∧ gk = n - k ∧ i = .int .i64 ((k : Int) + 1) ∧ t = .int .i64 (movesF (playF d s X) k) ∧ Ext w1 wr)
    case atStart => exact ⟨0, Nat.zero_le _, rfl, rfl, rfl, ext_refl _⟩
    case round =>
      obtain ⟨k, hk, rfl, rfl, rfl, hxr⟩ := hrel
      have hO' := hO.ext hxr
      obtain ⟨m1, m2⟩ := moves_bound (playF d s X) k
      rcases Nat.lt_or_ge k n with hlt | hge
      · have c1 := hO'.cell (k := k) (by omega)
        have c2 := hO'.cell (k := k + 1) (by omega)
        have hlt' : (k : Int) < (n : Int) := by omega
        have W1 : IntKind.i64.wrap ((k : Int) + 1 - 1) = (k : Int) := by rw [wrapI] <;> omega
        have W2 : ((k : Int) + 1).toNat = k + 1 := by omega
        have W3 : (0 : Int) ≤ (k : Int) + 1 := by omega
        have W4 : (k : Int) + 1 < ((n + 1 : Nat) : Int) := by omega
        have W5 : (k : Int) < ((n + 1 : Nat) : Int) := by omega
        by_cases hf : playF d s X (k + 1) = playF d s X k
        · have HB : ((playF d s X (k + 1)) != (playF d s X k)) = false := by simp [hf]
          have HM := Lib.hid (show movesF (playF d s X) (k + 1) = movesF (playF d s X) k by simp [movesF, hf])
          clear hf
          go_wp2
          go_quiet (fail)
          go_wp2
          go_roundg (n - (k + 1))
          case measure => omega
          case rel => exact ⟨k + 1, by omega, rfl, by go_num, by rw [HM.out], ext_drewN hxr _⟩
        · have HB : ((playF d s X (k + 1)) != (playF d s X k)) = true := by simp [hf]
          have HM := Lib.hid (show movesF (playF d s X) (k + 1) = movesF (playF d s X) k + 1 by simp [movesF, hf])
          clear hf
          go_wp2
          go_quiet (fail)
          go_wp2
          go_roundg (n - (k + 1))
          case measure => omega
          case rel => exact ⟨k + 1, by omega, rfl, by go_num, by rw [HM.out], ext_drewN hxr _⟩
      · obtain rfl : k = n := by omega
        go_wp2
        go_ret
        exact ⟨ret_int HR.out.symm, ext_trans hx hxr⟩
theorem IfM.no {w w' : World} {b : Bool} {n : Nat} {X : Nat → Int} {e : Ending} (h : IfM w b n X e w') (hb : b = false) : MakesI w 0 X e w' := by
  unfold IfM at h; rw [hb] at h; exact h
theorem IfM.yes {w w' : World} {b : Bool} {n : Nat} {X : Nat → Int} {e : Ending} (h : IfM w b n X e w') (hb : b = true) : MakesI w n X e w' := by
  unfold IfM at h; rw [hb] at h; exact h

set_option maxHeartbeats 1600000 in
theorem spec_CountMoves (d s : Int) (a : Option Addr) (n c : Nat) (X : Nat → Int) (w : World) (h : IntsAt w a n X) (hn : n ≤ 1099511627776) :
    Calls Try.prog 38 #[.int .i64 d, .int .i64 s, .slice a n c] w fun e w' => e = .returned (.int .i64 (countMovesI d s n X)) ∧ Ext w w' := by
  cases hok : playAllOk d s n X
  · have HR := Lib.hid (show countMovesI d s n X = -1 by simp [countMovesI, hok])
    go_enter Try.func38, Try.ntmps38
    go_wp2_with fail
    refine ((spec_PlayAll _ _ _ _ _ X _ h hn).mono fun _ _ q => q.no hok).mono ?_
    rintro e w1 ⟨p, q, rfl, hO, hx⟩
    go_wp2_with fail
    refine wp_loop_rounds 1 ?_
    rw [rounds_succ]
    go_wp2
    go_ret
    exact ⟨ret_int HR.out.symm, hx⟩
  · have HR := Lib.hid (show countMovesI d s n X = movesF (playF d s X) n by simp [countMovesI, hok])
    go_enter Try.func38, Try.ntmps38
    go_wp2_with fail
    refine ((spec_PlayAll _ _ _ _ _ X _ h hn).mono fun _ _ q => q.yes hok).mono ?_
    rintro e w1 ⟨p, q, rfl, hO, hx⟩
    obtain ⟨g, rfl, b1, b2, b3⟩ := hO.head (by omega)
    go_wp2_with fail
    go_loopg [8, 9] n (fun gk t i wr => ∃ k : Nat, k ≤ n ∧ gk = n - k ∧ i = .int .i64 ((k : Int) + 1) ∧ t = .int .i64 (movesF (playF d s X) k) ∧ Ext w1 wr)
    case atStart => exact ⟨0, Nat.zero_le _, rfl, rfl, rfl, ext_refl _⟩
    case round =>
      obtain ⟨k, hk, rfl, rfl, rfl, hxr⟩ := hrel
      have hO' := hO.ext hxr
      obtain ⟨m1, m2⟩ := moves_bound (playF d s X) k
      rcases Nat.lt_or_ge k n with hlt | hge
      · have c1 := hO'.cell (k := k) (by omega)
        have c2 := hO'.cell (k := k + 1) (by omega)
        have hlt' : (k : Int) < (n : Int) := by omega
        have W1 : IntKind.i64.wrap ((k : Int) + 1 - 1) = (k : Int) := by rw [wrapI] <;> omega
        have W2 : ((k : Int) + 1).toNat = k + 1 := by omega
        have W3 : (0 : Int) ≤ (k : Int) + 1 := by omega
        have W4 : (k : Int) + 1 < ((n + 1 : Nat) : Int) := by omega
        have W5 : (k : Int) < ((n + 1 : Nat) : Int) := by omega
        by_cases hf : playF d s X (k + 1) = playF d s X k
        · have HB : ((playF d s X (k + 1)) != (playF d s X k)) = false := by simp [hf]
          have HM := Lib.hid (show movesF (playF d s X) (k + 1) = movesF (playF d s X) k by simp [movesF, hf])
          clear hf
          go_wp2
          go_quiet (fail)
          go_wp2
          go_roundg (n - (k + 1))
          case measure => omega
          case rel => exact ⟨k + 1, by omega, rfl, by go_num, by rw [HM.out], ext_drewN hxr _⟩
        · have HB : ((playF d s X (k + 1)) != (playF d s X k)) = true := by simp [hf]
          have HM := Lib.hid (show movesF (playF d s X) (k + 1) = movesF (playF d s X) k + 1 by simp [movesF, hf])
          clear hf
          go_wp2
          go_quiet (fail)
          go_wp2
          go_roundg (n - (k + 1))
          case measure => omega
          case rel => exact ⟨k + 1, by omega, rfl, by go_num, by rw [HM.out], ext_drewN hxr _⟩
      · obtain rfl : k = n := by omega
        go_wp2
        go_ret
        exact ⟨ret_int HR.out.symm, ext_trans hx hxr⟩

/-! ### lags -/
@[go_sem] theorem run_max3 {P : Program} (w : World) (ts : Array TypeId) (t : TypeId) (x y z : Int) : (Builtin.max_ ts t #[.int .i64 x, .int .i64 y, .int .i64 z]).run P w = .ok (.int .i64 (max (max x y) z)) w := by
  have e : ∀ a b : Int, (if a < b then b else a) = max a b := fun a b => by split <;> omega
  simp [Builtin.max_, Builtin.max2, e]
theorem lag_facts {d s : Int} {X : Nat → Int} {n k : Nat} (h : playAllOk d s n X = true) (hk : k < n) :
    0 ≤ lagF X (playF d s X) k ∧ lagF X (playF d s X) k ≤ 100 ∧ -10000 ≤ X k ∧ X k ≤ 10000 ∧ -10100 ≤ playF d s X (k + 1) ∧ playF d s X (k + 1) ≤ 10100 := by
  obtain ⟨⟨h1, h2⟩, ⟨h3, h4⟩, h5, h6⟩ := playAllOk_iff.1 h
  have l := lag_bound (s := s) (n := n) h1 h2 (by omega) (by omega) h6 k (by omega)
  have p := playF_bound (s := s) (n := n) h1 h2 (by omega) (by omega) h6 (k + 1) (by omega)
  have x := h6 k hk
  omega
set_option maxHeartbeats 1600000 in
theorem impl_GreatestLag (d s : Int) (a : Option Addr) (n c : Nat) (X : Nat → Int) (w : World) (h : IntsAt w a n X) (hn : n ≤ 1099511627776) :
    Calls Try.prog 37 #[.int .i64 d, .int .i64 s, .slice a n c] w fun e w' => e = .returned (.int .i64 (greatestLagI d s n X)) ∧ Ext w w' := by
  have hq := fun (w : World) (a : Option Addr) (n c : Nat) => Lib.run_eql_slice_nil (P := Try.prog) w 22 3 a n c 0 0 Try.underlying22
  cases hok : playAllOk d s n X
  · have HR := Lib.hid (show greatestLagI d s n X = -1 by simp [greatestLagI, hok])
    go_enter Try.func37, Try.ntmps37
    go_wp2_with fail
    refine (impl_PlayAll _ _ _ _ _ X _ h hn).mono ?_
    rintro e w1 hp
    obtain ⟨rfl, hx⟩ := hp.2 hok
    clear hp
    go_wp2_with fail
    go_ret
    exact ⟨ret_int HR.out.symm, hx⟩
  · have HR := Lib.hid (show greatestLagI d s n X = lagF X (playF d s X) n by simp [greatestLagI, hok])
    have HOK := Lib.hid hok
    have H := Lib.hid h
    go_enter Try.func37, Try.ntmps37
    go_wp2_with fail
    refine (impl_PlayAll _ _ _ _ _ X _ h hn).mono ?_
    rintro e w1 hp
    obtain ⟨p, q, rfl, hO, hx⟩ := hp.1 hok
    clear hp hok h
    obtain ⟨g, rfl, b1, b2, b3⟩ := hO.head (by omega)
    go_wp2_with fail
    clear hq
    go_loopg [8, 19] n (fun gk t i wr => ∃ k : Nat, k ≤ n ∧ gk = n - k ∧ i = .int .i64 k ∧ t = .int .i64 (lagF X (playF d s X) k) ∧ Ext w1 wr)
    case atStart => exact ⟨0, Nat.zero_le _, rfl, rfl, rfl, ext_refl _⟩
    case round =>
      obtain ⟨k, hk, rfl, rfl, rfl, hxr⟩ := hrel
      have hO' := hO.ext hxr
      rcases Nat.lt_or_ge k n with hlt | hge
      · obtain ⟨l1, l2, l3, l4, l5, l6⟩ := lag_facts HOK.out hlt
        obtain ⟨b, off, rfl, hc⟩ := H.out.at_ hlt
        have hc' := ext_cell (ext_trans hx hxr) hc
        have c2 := hO'.cell (k := k + 1) (by omega)
        have hlt' : (k : Int) < (n : Int) := by omega
        have W1 : IntKind.i64.wrap ((k : Int) + 1) = (k : Int) + 1 := by rw [wrapI] <;> omega
        have W2 : ((k : Int) + 1).toNat = k + 1 := by omega
        have W3 : (0 : Int) ≤ (k : Int) + 1 := by omega
        have W4 : (k : Int) + 1 < ((n + 1 : Nat) : Int) := by omega
        have W5 : IntKind.i64.wrap (X k - playF d s X (k + 1)) = X k - playF d s X (k + 1) := by rw [wrapI] <;> omega
        have W6 : IntKind.i64.wrap (playF d s X (k + 1) - X k) = playF d s X (k + 1) - X k := by rw [wrapI] <;> omega
        clear hc
        go_wp2
        go_quiet (fail)
        go_wp2
        go_roundg (n - (k + 1))
        case measure => omega
        case rel => exact ⟨k + 1, by omega, rfl, by go_num, rfl, ext_drewN hxr _⟩
      · obtain rfl : k = n := by omega
        go_wp2
        go_ret
        exact ⟨ret_int HR.out.symm, ext_trans hx hxr⟩

set_option maxHeartbeats 1600000 in
theorem spec_GreatestLag (d s : Int) (a : Option Addr) (n c : Nat) (X : Nat → Int) (w : World) (h : IntsAt w a n X) (hn : n ≤ 1099511627776) :
    Calls Try.prog 36 #[.int .i64 d, .int .i64 s, .slice a n c] w fun e w' => e = .returned (.int .i64 (greatestLagI d s n X)) ∧ Ext w w' := by
  cases hok : playAllOk d s n X
  · have HR := Lib.hid (show greatestLagI d s n X = -1 by simp [greatestLagI, hok])
    go_enter Try.func36, Try.ntmps36
    go_wp2_with fail
    refine ((spec_PlayAll _ _ _ _ _ X _ h hn).mono fun _ _ q => q.no hok).mono ?_
    rintro e w1 ⟨p, q, rfl, hO, hx⟩
    go_wp2_with fail
    refine wp_loop_rounds 1 ?_
    rw [rounds_succ]
    go_wp2
    go_ret
    exact ⟨ret_int HR.out.symm, hx⟩
  · have HR := Lib.hid (show greatestLagI d s n X = lagF X (playF d s X) n by simp [greatestLagI, hok])
    have HOK := Lib.hid hok
    have H := Lib.hid h
    go_enter Try.func36, Try.ntmps36
    go_wp2_with fail
    refine ((spec_PlayAll _ _ _ _ _ X _ h hn).mono fun _ _ q => q.yes HOK.out).mono ?_
    rintro e w1 ⟨p, q, rfl, hO, hx⟩
    clear hok h
    obtain ⟨g, rfl, b1, b2, b3⟩ := hO.head (by omega)
    go_wp2_with fail
    go_loopg [8, 9] n (fun gk t i wr => ∃ k : Nat, k ≤ n ∧ gk = n - k ∧ i = .int .i64 ((k : Int) + 1) ∧ t = .int .i64 (lagF X (playF d s X) k) ∧ Ext w1 wr)
    case atStart => exact ⟨0, Nat.zero_le _, rfl, rfl, rfl, ext_refl _⟩
    case round =>
      obtain ⟨k, hk, rfl, rfl, rfl, hxr⟩ := hrel
      have hO' := hO.ext hxr
      rcases Nat.lt_or_ge k n with hlt | hge
      · obtain ⟨l1, l2, l3, l4, l5, l6⟩ := lag_facts HOK.out hlt
        obtain ⟨b, off, rfl, hc⟩ := H.out.at_ hlt
        have hc' := ext_cell (ext_trans hx hxr) hc
        have c2 := hO'.cell (k := k + 1) (by omega)
        have hlt' : (k : Int) < (n : Int) := by omega
        have W1 : IntKind.i64.wrap ((k : Int) + 1 - 1) = (k : Int) := by rw [wrapI] <;> omega
        have W2 : ((k : Int) + 1).toNat = k + 1 := by omega
        have W3 : (0 : Int) ≤ (k : Int) + 1 := by omega
        have W4 : (k : Int) + 1 < ((n + 1 : Nat) : Int) := by omega
        have W5 : IntKind.i64.wrap (X k - playF d s X (k + 1)) = X k - playF d s X (k + 1) := by rw [wrapI] <;> omega
        have W6 : IntKind.i64.wrap (playF d s X (k + 1) - X k) = playF d s X (k + 1) - X k := by rw [wrapI] <;> omega
        clear hc
        go_wp2
        go_quiet (fail)
        go_wp2
        go_roundg (n - (k + 1))
        case measure => omega
        case rel => exact ⟨k + 1, by omega, rfl, by go_num, by (congr 1; simp only [lagF]; omega), ext_drewN hxr _⟩
      · obtain rfl : k = n := by omega
        go_wp2
        go_ret
        exact ⟨ret_int HR.out.symm, ext_trans hx hxr⟩
end Go.Proofs.Ytmapcpkloomliaa
