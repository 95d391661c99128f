/- The contracts of carried rounding. No condition but those of each contract. -/
import Derived.Test.YtmapcpkloomliaaList3
namespace Go.Proofs.Ytmapcpkloomliaa
open Go.ChangeShapes Go.WideShapes Go.ChangeAt Go.RowKit
set_option linter.unusedVariables false
set_option linter.unusedSimpArgs false

def carryOk (s : Int) (n : Nat) (X : Nat → Int) : Bool := decide (n ≤ 30) && inB s 1 1000 && allB (-10000) 10000 X n
theorem carry_facts {s : Int} {X : Nat → Int} {k : Nat} (h1 : inB s 1 1000 = true) (h2 : allB (-10000) 10000 X k = true) (h3 : inB (X k) (-10000) 10000 = true) :
    -10000 ≤ X k ∧ X k ≤ 10000 ∧ -500 ≤ restF s X k ∧ restF s X k ≤ 500 ∧ -1000 ≤ roundI (X k + restF s X k) s - (X k + restF s X k) ∧ roundI (X k + restF s X k) s - (X k + restF s X k) ≤ 1000 := by
  obtain ⟨a, b⟩ := inB_true.1 h1
  obtain ⟨c, d⟩ := inB_true.1 h3
  have hc := carry_ok a b (allB_iff.1 h2) k (Nat.le_refl _)
  have := roundErr_bound (X k + restF s X k) s
  omega

set_option maxHeartbeats 1600000 in
theorem impl_CarryRounding (a : Option Addr) (n c : Nat) (s : Int) (X : Nat → Int) (w : World) (h : IntsAt w a n X) (hn : n ≤ 1099511627776) :
    Calls Try.prog 32 #[.slice a n c, .int .i64 s] w (OrNil w (carryOk s n X) n (carryF s X)) := by
  have H := Lib.hid h
  clear h
  by_cases h2 : n ≤ 30
  · cases h1 : inB s 1 1000
    · go_enter Try.func32, Try.ntmps32
      go_wp2_with (go_at_call 62; refine (impl_in _ _ _ _).mono ?_; rintro e w' ⟨rfl, rfl⟩)
      go_ret
      exact OrNil.no ⟨rfl, ext_refl _⟩ (by simp [carryOk, h1])
    · have HOK := Lib.hid (show carryOk s n X = allB (-10000) 10000 X n by simp [carryOk, h1, h2])
      have HS := Lib.hid h1
      go_enter Try.func32, Try.ntmps32
      go_wp2_with (go_at_call 62; refine (impl_in _ _ _ _).mono ?_; rintro e w' ⟨rfl, rfl⟩)
      clear h1
      go_loopg [5, 6, 20] n (fun g o t i wr => ∃ (k : Nat) (b : Option Addr) (cc : Nat), k ≤ n ∧ g = n - k ∧ i = .int .i64 k ∧ t = .int .i64 (restF s X k) ∧ o = .slice b k cc ∧ OI wr w.heap.size wr.heap.size (.slice b k cc) k (carryF s X) ∧ Hid (allB (-10000) 10000 X k = true) ∧ Ext w wr)
      case atStart => exact ⟨0, none, 0, Nat.zero_le _, rfl, rfl, rfl, rfl, OI.nil _ _ _ _, Lib.hid rfl, ext_refl _⟩
      case round =>
        obtain ⟨k, b, cc, hk, rfl, rfl, rfl, rfl, hO, hal, hx⟩ := hrel
        rcases Nat.lt_or_ge k n with hlt | hge
        · obtain ⟨b', off, rfl, hc⟩ := H.out.at_ hlt
          have hc' := ext_cell hx hc
          have hlt' : (k : Int) < (n : Int) := by omega
          have hsz := hx.size
          clear hc
          cases h3 : inB (X k) (-10000) 10000
          · have HB := Lib.hid (allB_no hlt h3)
            go_wp2_with (go_at_call 62; refine (impl_in _ _ _ _).mono ?_; rintro e w' ⟨rfl, rfl⟩)
            go_ret
            exact OrNil.no ⟨rfl, hx⟩ (by rw [HOK.out]; exact HB.out)
          · have HB := Lib.hid (allB_yes hal.out h3)
            obtain ⟨f1, f2, f3, f4, f5, f6⟩ := carry_facts HS.out hal.out h3
            go_wp2_with (first
              | (go_at_call 62; refine (impl_in _ _ _ _).mono ?_; rintro e w' ⟨rfl, rfl⟩)
              | (go_at_call 33; refine (impl_RoundTo _ _ _).mono ?_; rintro e w' ⟨rfl, rfl⟩)
              | (at_builtin; refine wpList_push_int rfl _ _ 22 rfl Try.underlying22 info_int _ w.heap.size k (carryF s X) (roundI (X k + restF s X k) s) _ _ _ rfl (hO.ext (ext_alloc (ext_refl _) _)) ⟨wr.heap.size, 0, none⟩ 1 rfl (cell_new1 _ _ _) rfl (by omega) (by simp; omega) ?_; intro g' c' w1 hO1 hb1))
            go_roundg (n - (k + 1))
            case measure => omega
            case rel => exact ⟨k + 1, some ⟨g', 0, none⟩, c', by omega, rfl, by go_num, rfl, rfl, hO1, HB, Below.trans (ext_alloc hx _) hb1⟩
        · obtain rfl : k = n := by omega
          go_wp2
          go_ret
          exact OrNil.yes ⟨_, _, rfl, hO, hx⟩ (by rw [HOK.out]; exact hal.out)
  · go_enter Try.func32, Try.ntmps32
    go_wp2
    go_ret
    exact OrNil.no ⟨rfl, ext_refl _⟩ (by simp [carryOk, h2])

set_option maxHeartbeats 1600000 in
theorem spec_CarryRounding (a : Option Addr) (n c : Nat) (s : Int) (X : Nat → Int) (w : World) (h : IntsAt w a n X) (hn : n ≤ 1099511627776) :
    Calls Try.prog 47 #[.slice a n c, .int .i64 s] w (IfM w (carryOk s n X) n (carryF s X)) := by
  have H := Lib.hid h
  clear h
  cases hall : allB (-10000) 10000 X n
  · have HOK := Lib.hid (show carryOk s n X = false by simp [carryOk, hall])
    have HALL := Lib.hid hall
    clear hall
    go_enter Try.func47, Try.ntmps47
    go_wp2
    go_loop [6] (fun i => ∃ k : Nat, k ≤ n ∧ i = .int .i64 k ∧ Hid (allB (-10000) 10000 X k = true)) (fun i => n - (intOf i).toNat)
    case atStart => exact ⟨0, Nat.zero_le _, rfl, Lib.hid rfl⟩
    case round =>
      obtain ⟨k, hk, rfl, hal⟩ := hrel
      rcases Nat.lt_or_ge k n with hlt | hge
      · obtain ⟨b, off, rfl, hc⟩ := H.out.at_ hlt
        have hc' := ext_cell (ext_alloc (ext_refl w) (.cells #[] 3)) hc
        have hlt' : (k : Int) < (n : Int) := by omega
        cases h3 : inB (X k) (-10000) 10000
        · go_wp2_with (go_at_call 60; refine (spec_in _ _ _ _).mono ?_; rintro e w' ⟨rfl, rfl⟩)
          go_ret
          exact makes_no HOK.out (makes_empty _ _)
        · have HB := Lib.hid (allB_yes hal.out h3)
          go_wp2_with (go_at_call 60; refine (spec_in _ _ _ _).mono ?_; rintro e w' ⟨rfl, rfl⟩)
          go_round
          case measure => simp [intOf]; omega
          case rel => exact ⟨k + 1, by omega, by go_num, HB⟩
      · obtain rfl : k = n := by omega
        have := hal.out
        rw [HALL.out] at this
        cases this
  · have HALL := Lib.hid (allB_iff.1 hall)
    have HALB := Lib.hid hall
    have HOK := Lib.hid (show carryOk s n X = (decide (n ≤ 30) && inB s 1 1000) by simp [carryOk, hall])
    clear hall
    -- the second loop's test
    obtain ⟨t, ht⟩ : ∃ t : Bool, carryOk s n X = t := ⟨_, rfl⟩
    have HT := Lib.hid ht
    rw [HOK.out] at ht
    go_enter Try.func47, Try.ntmps47
    go_wp2
    go_loop [6] (fun i => ∃ k : Nat, k ≤ n ∧ i = .int .i64 k) (fun i => n - (intOf i).toNat)
    case atStart => exact ⟨0, Nat.zero_le _, rfl⟩
    case round =>
      obtain ⟨k, hk, rfl⟩ := hrel
      rcases Nat.lt_or_ge k n with hlt | hge
      · obtain ⟨b, off, rfl, hc⟩ := H.out.at_ hlt
        have hc' := ext_cell (ext_alloc (ext_refl w) (.cells #[] 3)) hc
        have hlt' : (k : Int) < (n : Int) := by omega
        have h3 := inB_true.2 (HALL.out k hlt)
        clear ht
        go_wp2_with (go_at_call 60; refine (spec_in _ _ _ _).mono ?_; rintro e w' ⟨rfl, rfl⟩)
        go_round
        case measure => simp [intOf]; omega
        case rel => exact ⟨k + 1, by omega, by go_num⟩
      · obtain rfl : k = n := by omega
        cases t
        · -- nothing is rounded
          by_cases h0 : 0 < k
          · have h0' : (0 : Int) < (k : Int) := by omega
            by_cases h2 : k ≤ 30
            · have h1 : inB s 1 1000 = false := by simpa [h2] using ht
              clear ht
              go_wp2
              refine wp_loop_rounds 1 ?_
              rw [rounds_succ]
              go_wp2_with (go_at_call 60; refine (spec_in _ _ _ _).mono ?_; rintro e w' ⟨rfl, rfl⟩)
              go_ret
              exact makes_no HT.out (makes_empty _ _)
            · clear ht
              go_wp2
              refine wp_loop_rounds 1 ?_
              rw [rounds_succ]
              go_wp2
              go_ret
              exact makes_no HT.out (makes_empty _ _)
          · clear ht
            obtain rfl : k = 0 := by omega
            go_wp2
            refine wp_loop_rounds 1 ?_
            rw [rounds_succ]
            go_wp2
            go_ret
            exact makes_no HT.out (makes_empty _ _)
        · simp only [Bool.and_eq_true, decide_eq_true_eq] at ht
          obtain ⟨h2, h1⟩ := ht
          have HS := Lib.hid h1
          go_wp2
          go_loopg [5, 7, 8] k (fun g o t i wr => ∃ (j : Nat) (b : Option Addr) (cc : Nat), j ≤ k ∧ g = k - j ∧ i = .int .i64 j ∧ t = .int .i64 (restF s X j) ∧ o = .slice b j cc ∧ OI wr w.heap.size wr.heap.size (.slice b j cc) j (carryF s X) ∧ Ext w wr)
          case atStart => exact ⟨0, some ⟨w.heap.size, 0, none⟩, 0, Nat.zero_le _, rfl, rfl, rfl, rfl, (OI.lit w [] _ 0 (by simp [maxLen]) rfl).now, (by repeat (first | (with_reducible exact ext_refl _) | (with_reducible refine ext_setCell ?_ ?_ _) | (with_reducible refine ext_alloc ?_ _) | (with_reducible refine ext_drewN ?_ _) | (with_reducible refine ext_drew ?_) | (with_reducible refine ext_trans ?_ (by assumption)) | (dsimp only; omega) | omega | (simp; omega)))⟩
          case round =>
            obtain ⟨j, b, cc, hj, rfl, rfl, rfl, rfl, hO, hx⟩ := hrel
            rcases Nat.lt_or_ge j k with hlt | hge
            · obtain ⟨b', off, rfl, hc⟩ := H.out.at_ hlt
              have hc' := ext_cell hx hc
              have hlt' : (j : Int) < (k : Int) := by omega
              have hsz := hx.size
              obtain ⟨f1, f2, f3, f4, f5, f6⟩ := carry_facts HS.out (allB_iff.2 fun i hi => HALL.out i (by omega)) (inB_true.2 (HALL.out j hlt))
              clear hc
              go_wp2_with (first
                | (go_at_call 60; refine (spec_in _ _ _ _).mono ?_; rintro e w' ⟨rfl, rfl⟩)
                | (go_at_call 65; refine (spec_RoundTo _ _ _).mono ?_; rintro e w' ⟨rfl, rfl⟩)
                | (at_builtin; refine wpList_push_int rfl _ _ 22 rfl Try.underlying22 info_int _ w.heap.size j (carryF s X) (roundI (X j + restF s X j) s) _ _ _ rfl (hO.ext (ext_alloc (ext_refl _) _)) ⟨wr.heap.size, 0, none⟩ 1 rfl (cell_new1 _ _ _) rfl (by omega) (by simp; omega) ?_; intro g' c' w1 hO1 hb1))
              go_roundg (k - (j + 1))
              case measure => omega
              case rel => exact ⟨j + 1, some ⟨g', 0, none⟩, c', by omega, rfl, by go_num, rfl, rfl, hO1, Below.trans (ext_alloc hx _) hb1⟩
            · obtain rfl : j = k := by omega
              go_wp2_with (go_at_call 60; refine (spec_in _ _ _ _).mono ?_; rintro e w' ⟨rfl, rfl⟩)
              go_ret
              exact makes_yes HT.out ⟨_, _, rfl, hO, hx⟩
end Go.Proofs.Ytmapcpkloomliaa
