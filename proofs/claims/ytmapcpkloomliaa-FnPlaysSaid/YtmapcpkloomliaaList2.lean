/- The contracts of the functions on lists of integers: sums of rounded numbers, play, carried rounding. No condition but those of each contract. -/
import Derived.Test.YtmapcpkloomliaaList1
import Derived.Test.YtmapcpkloomliaaScal2
import Derived.Deep.RegionLaw
namespace Go.Proofs.Ytmapcpkloomliaa
open Go.ChangeShapes Go.WideShapes Go.ChangeAt Go.RowKit
set_option linter.unusedVariables false
set_option linter.unusedSimpArgs false

/-! ### sums of rounded numbers -/
def sumRI (s : Int) (X : Nat → Int) : Nat → Int
  | 0 => 0
  | k + 1 => wrap64 (sumRI s X k + roundI (X k) s)
def sumR (s : Int) (X : Nat → Int) (n : Nat) : Int := if n ≤ 30 then sumRI s X n else 0

set_option maxHeartbeats 400000 in
theorem impl_SumOfRounded (a : Option Addr) (n c : Nat) (s : Int) (X : Nat → Int) (w : World) (h : IntsAt w a n X) (hn : n ≤ 1099511627776) :
    Calls Try.prog 28 #[.slice a n c, .int .i64 s] w fun e w' => e = .returned (.int .i64 (sumR s X n)) ∧ w = w' := by
  have H := Lib.hid h
  clear h
  by_cases h30 : n ≤ 30
  · have HR := Lib.hid (show sumR s X n = sumRI s X n from if_pos h30)
    go_enter Try.func28, Try.ntmps28
    go_wp2
    go_loop [5, 13] (fun t i => ∃ k : Nat, k ≤ n ∧ t = .int .i64 (sumRI s X k) ∧ i = .int .i64 k) (fun _ i => n - (intOf i).toNat)
    case atStart => exact ⟨0, Nat.zero_le _, rfl, rfl⟩
    case round =>
      obtain ⟨k, hk, rfl, rfl⟩ := hrel
      rcases Nat.lt_or_ge k n with hlt | hge
      · obtain ⟨b, off, rfl, hc⟩ := H.out.at_ hlt
        have hlt' : (k : Int) < (n : Int) := by omega
        go_wp2_with (go_at_call 33; refine (impl_RoundTo _ _ _).mono ?_; rintro e w' ⟨rfl, rfl⟩)
        go_round
        case measure => simp [intOf]; omega
        case rel => exact ⟨k + 1, by omega, rfl, by go_num⟩
      · obtain rfl : k = n := by omega
        go_wp2
        go_ret
        exact ⟨ret_int HR.out.symm, rfl⟩
  · have HR := Lib.hid (show sumR s X n = 0 from if_neg h30)
    go_enter Try.func28, Try.ntmps28
    go_wp2
    go_ret
    exact ⟨ret_int HR.out.symm, rfl⟩

set_option maxHeartbeats 400000 in
theorem spec_SumOfRounded (a : Option Addr) (n c : Nat) (s : Int) (X : Nat → Int) (w : World) (h : IntsAt w a n X) (hn : n ≤ 1099511627776) :
    Calls Try.prog 27 #[.slice a n c, .int .i64 s] w fun e w' => e = .returned (.int .i64 (sumR s X n)) ∧ w = w' := by
  have H := Lib.hid h
  clear h
  by_cases h30 : n ≤ 30
  · have HR := Lib.hid (show sumR s X n = sumRI s X n from if_pos h30)
    go_enter Try.func27, Try.ntmps27
    go_wp2
    go_loop [5, 6] (fun t i => ∃ k : Nat, k ≤ n ∧ t = .int .i64 (sumRI s X k) ∧ i = .int .i64 k) (fun _ i => n - (intOf i).toNat)
    case atStart => exact ⟨0, Nat.zero_le _, rfl, rfl⟩
    case round =>
      obtain ⟨k, hk, rfl, rfl⟩ := hrel
      rcases Nat.lt_or_ge k n with hlt | hge
      · obtain ⟨b, off, rfl, hc⟩ := H.out.at_ hlt
        have hlt' : (k : Int) < (n : Int) := by omega
        go_wp2_with (go_at_call 65; refine (spec_RoundTo _ _ _).mono ?_; rintro e w' ⟨rfl, rfl⟩)
        go_round
        case measure => simp [intOf]; omega
        case rel => exact ⟨k + 1, by omega, rfl, by go_num⟩
      · obtain rfl : k = n := by omega
        go_wp2
        go_ret
        exact ⟨ret_int HR.out.symm, rfl⟩
  · have HR := Lib.hid (show sumR s X n = 0 from if_neg h30)
    have h0 : 0 < n := by omega
    have h0' : (0 : Int) < (n : Int) := by omega
    go_enter Try.func27, Try.ntmps27
    go_wp2
    refine wp_loop_rounds 1 ?_
    rw [rounds_succ]
    go_wp2
    go_ret
    exact ⟨ret_int HR.out.symm, rfl⟩

/-! ### play -/
def playAllOk (d s : Int) (n : Nat) (X : Nat → Int) : Bool := playOkB d s && decide (n ≤ 60) && allB (-10000) 10000 X n
/-- a list where b holds, nil elsewhere -/
def OrNil (w : World) (b : Bool) (n : Nat) (X : Nat → Int) (e : Ending) (w' : World) : Prop := (b = true → MakesI w n X e w') ∧ (b = false → e = .returned (.slice none 0 0) ∧ Ext w w')
theorem OrNil.yes {w w' : World} {b : Bool} {n : Nat} {X : Nat → Int} {e : Ending} (h : MakesI w n X e w') (hb : b = true) : OrNil w b n X e w' := ⟨fun _ => h, (fun hh => by rw [hb] at hh; cases hh)⟩
theorem OrNil.no {w w' : World} {b : Bool} {n : Nat} {X : Nat → Int} {e : Ending} (h : e = .returned (.slice none 0 0) ∧ Ext w w') (hb : b = false) : OrNil w b n X e w' := ⟨(fun hh => by rw [hb] at hh; cases hh), fun _ => h⟩
theorem OrNil.makes {w w' : World} {b : Bool} {n : Nat} {X : Nat → Int} {e : Ending} (h : OrNil w b n X e w') : MakesI w (if b then n else 0) X e w' := by
  cases hb : b
  · obtain ⟨he, hx⟩ := h.2 hb
    exact ⟨none, 0, he, OI.nil _ _ _ _, hx⟩
  · exact h.1 hb

set_option maxHeartbeats 1600000 in
theorem impl_PlayAll (d s : Int) (a : Option Addr) (n c : Nat) (X : Nat → Int) (w : World) (h : IntsAt w a n X) (hn : n ≤ 1099511627776) :
    Calls Try.prog 30 #[.int .i64 d, .int .i64 s, .slice a n c] w (OrNil w (playAllOk d s n X) (n + 1) (playF d s X)) := by
  have H := Lib.hid h
  clear h
  cases h1 : playOkB d s
  · go_enter Try.func30, Try.ntmps30
    go_wp2_with (go_at_call 52; refine (impl_PlayOk _ _ _).mono ?_; rintro e w' ⟨rfl, rfl⟩)
    go_ret
    exact OrNil.no ⟨rfl, ext_refl _⟩ (by simp [playAllOk, h1])
  · by_cases h2 : n ≤ 60
    · have HOK := Lib.hid (show playAllOk d s n X = allB (-10000) 10000 X n by simp [playAllOk, h1, h2])
      go_enter Try.func30, Try.ntmps30
      go_wp2_with (go_at_call 52; refine (impl_PlayOk _ _ _).mono ?_; rintro e w' ⟨rfl, rfl⟩)
      go_loopg [7, 23] n (fun g o i wr => ∃ (k b cc : Nat), k ≤ n ∧ g = n - k ∧ i = .int .i64 k ∧ o = .slice (some ⟨b, 0, none⟩) (k + 1) cc ∧ OI wr w.heap.size wr.heap.size (.slice (some ⟨b, 0, none⟩) (k + 1) cc) (k + 1) (playF d s X) ∧ Hid (allB (-10000) 10000 X k = true) ∧ Ext w wr)
      case atStart => exact ⟨0, w.heap.size, 1, Nat.zero_le _, rfl, rfl, rfl, (OI.lit w [.int .i64 s] (playF d s X) 1 (by simp [maxLen]) rfl).now, Lib.hid rfl, (by repeat (first | (with_reducible exact ext_refl _) | (with_reducible refine ext_setCell ?_ ?_ _) | (with_reducible refine ext_alloc ?_ _) | (with_reducible refine ext_drewN ?_ _) | (with_reducible refine ext_drew ?_) | (with_reducible refine ext_trans ?_ (by assumption)) | (dsimp only; omega) | omega | (simp; omega)))⟩
      case round =>
        obtain ⟨k, b, cc, hk, rfl, rfl, rfl, hO, hal, hx⟩ := hrel
        rcases Nat.lt_or_ge k n with hlt | hge
        · obtain ⟨b', off, rfl, hc⟩ := H.out.at_ hlt
          have hc' := ext_cell hx hc
          have hl := hO.cell (k := k) (by omega)
          have hlt' : (k : Int) < (n : Int) := by omega
          have hsz := hx.size
          clear hc
          cases h3 : inB (X k) (-10000) 10000
          · have HB := Lib.hid (allB_no hlt h3)
            go_wp2_with (go_at_call 62; refine (impl_in _ _ _ _).mono ?_; rintro e w' ⟨rfl, rfl⟩)
            go_ret
            exact OrNil.no ⟨rfl, hx⟩ (by rw [HOK.out]; exact HB.out)
          · have HB := Lib.hid (allB_yes hal.out h3)
            go_wp2_with (first
              | (go_at_call 62; refine (impl_in _ _ _ _).mono ?_; rintro e w' ⟨rfl, rfl⟩)
              | (go_at_call 50; refine (impl_PlayStep _ _ _ _).mono ?_; rintro e w' ⟨rfl, rfl⟩)
              | (at_builtin; refine wpList_push_int rfl _ _ 22 rfl Try.underlying22 info_int _ w.heap.size (k + 1) (playF d s X) (playStepI d (playF d s X k) (X k)) _ _ _ rfl (hO.ext (ext_alloc (ext_refl _) _)) ⟨wr.heap.size, 0, none⟩ 1 rfl (cell_new1 _ _ _) rfl (by omega) (by simp; omega) ?_; intro g' c' w1 hO1 hb1))
            go_roundg (n - (k + 1))
            case measure => omega
            case rel => exact ⟨k + 1, g', c', by omega, rfl, by go_num, rfl, hO1, HB, Below.trans (ext_alloc hx _) hb1⟩
        · obtain rfl : k = n := by omega
          go_wp2
          go_ret
          exact OrNil.yes ⟨_, _, rfl, hO, hx⟩ (by rw [HOK.out]; exact hal.out)
    · go_enter Try.func30, Try.ntmps30
      go_wp2_with (go_at_call 52; refine (impl_PlayOk _ _ _).mono ?_; rintro e w' ⟨rfl, rfl⟩)
      go_ret
      exact OrNil.no ⟨rfl, ext_refl _⟩ (by simp [playAllOk, h1, h2])

/-- a list where b holds, an empty one elsewhere -/
def IfM (w : World) (b : Bool) (n : Nat) (X : Nat → Int) (e : Ending) (w' : World) : Prop := MakesI w (if b = true then n else 0) X e w'
theorem makes_no {w w' : World} {b : Bool} {n : Nat} {X : Nat → Int} {e : Ending} (hb : b = false) (h : MakesI w 0 X e w') : IfM w b n X e w' := by
  unfold IfM; rw [hb]; exact h
theorem makes_yes {w w' : World} {b : Bool} {n : Nat} {X : Nat → Int} {e : Ending} (hb : b = true) (h : MakesI w n X e w') : IfM w b n X e w' := by
  unfold IfM; rw [hb]; exact h
/-- '[]int{}' -/
theorem makes_empty (w : World) (X : Nat → Int) : MakesI w 0 X (.returned (.slice (some ⟨w.heap.size, 0, none⟩) 0 0)) (w.alloc (.cells #[] 3)) :=
  ⟨_, _, rfl, (OI.lit w [] X 0 (by simp [maxLen]) rfl).now, ext_alloc (ext_refl _) _⟩

set_option maxHeartbeats 1600000 in
theorem spec_PlayAll (d s : Int) (a : Option Addr) (n c : Nat) (X : Nat → Int) (w : World) (h : IntsAt w a n X) (hn : n ≤ 1099511627776) :
    Calls Try.prog 29 #[.int .i64 d, .int .i64 s, .slice a n c] w (IfM w (playAllOk d s n X) (n + 1) (playF d s X)) := by
  have H := Lib.hid h
  clear h
  cases hall : allB (-10000) 10000 X n
  · have HOK := Lib.hid (show playAllOk d s n X = false by simp [playAllOk, hall])
    have HALL := Lib.hid hall
    clear hall
    go_enter Try.func29, Try.ntmps29
    go_wp2
    go_loop [7] (fun i => ∃ k : Nat, k ≤ n ∧ i = .int .i64 k ∧ Hid (allB (-10000) 10000 X k = true)) (fun i => n - (intOf i).toNat)
    case atStart => exact ⟨0, Nat.zero_le _, rfl, Lib.hid rfl⟩
    case round =>
      obtain ⟨k, hk, rfl, hal⟩ := hrel
      rcases Nat.lt_or_ge k n with hlt | hge
      · obtain ⟨b, off, rfl, hc⟩ := H.out.at_ hlt
        have hlt' : (k : Int) < (n : Int) := by omega
        cases h3 : inB (X k) (-10000) 10000
        · go_wp2_with (go_at_call 60; refine (spec_in _ _ _ _).mono ?_; rintro e w' ⟨rfl, rfl⟩)
          go_ret
          exact makes_no HOK.out (makes_empty _ _)
        · have HB := Lib.hid (allB_yes hal.out h3)
          go_wp2_with (go_at_call 60; refine (spec_in _ _ _ _).mono ?_; rintro e w' ⟨rfl, rfl⟩)
          go_round
          case measure => simp [intOf]; omega
          case rel => exact ⟨k + 1, by omega, by go_num, HB⟩
      · obtain rfl : k = n := by omega
        have := hal.out
        rw [HALL.out] at this
        cases this
  · have HALL := Lib.hid (allB_iff.1 hall)
    have HOK := Lib.hid (show playAllOk d s n X = (playOkB d s && decide (n ≤ 60)) by simp [playAllOk, hall])
    clear hall
    cases h1 : playOkB d s
    · go_enter Try.func29, Try.ntmps29
      go_wp2
      go_loop [7] (fun i => ∃ k : Nat, k ≤ n ∧ i = .int .i64 k) (fun i => n - (intOf i).toNat)
      case atStart => exact ⟨0, Nat.zero_le _, rfl⟩
      case round =>
        obtain ⟨k, hk, rfl⟩ := hrel
        rcases Nat.lt_or_ge k n with hlt | hge
        · obtain ⟨b, off, rfl, hc⟩ := H.out.at_ hlt
          have hlt' : (k : Int) < (n : Int) := by omega
          have h3 := inB_true.2 (HALL.out k hlt)
          go_wp2_with (go_at_call 60; refine (spec_in _ _ _ _).mono ?_; rintro e w' ⟨rfl, rfl⟩)
          go_round
          case measure => simp [intOf]; omega
          case rel => exact ⟨k + 1, by omega, by go_num⟩
        · obtain rfl : k = n := by omega
          go_wp2_with (go_at_call 66; refine (spec_PlayOk _ _ _).mono ?_; rintro e w' ⟨rfl, rfl⟩)
          go_ret
          exact makes_no (by rw [HOK.out, h1]; rfl) (makes_empty _ _)
    · by_cases h2 : n ≤ 60
      · have HR := Lib.hid (show playAllOk d s n X = true by rw [HOK.out]; simp [h1, h2])
        go_enter Try.func29, Try.ntmps29
        go_wp2
        go_loop [7] (fun i => ∃ k : Nat, k ≤ n ∧ i = .int .i64 k) (fun i => n - (intOf i).toNat)
        case atStart => exact ⟨0, Nat.zero_le _, rfl⟩
        case round =>
          obtain ⟨k, hk, rfl⟩ := hrel
          rcases Nat.lt_or_ge k n with hlt | hge
          · obtain ⟨b, off, rfl, hc⟩ := H.out.at_ hlt
            have hlt' : (k : Int) < (n : Int) := by omega
            have h3 := inB_true.2 (HALL.out k hlt)
            go_wp2_with (go_at_call 60; refine (spec_in _ _ _ _).mono ?_; rintro e w' ⟨rfl, rfl⟩)
            go_round
            case measure => simp [intOf]; omega
            case rel => exact ⟨k + 1, by omega, by go_num⟩
          · obtain rfl : k = n := by omega
            go_wp2_with (go_at_call 66; refine (spec_PlayOk _ _ _).mono ?_; rintro e w' ⟨rfl, rfl⟩)
            go_loopg [8, 9] k (fun g o i wr => ∃ (j b cc : Nat), j ≤ k ∧ g = k - j ∧ i = .int .i64 j ∧ o = .slice (some ⟨b, 0, none⟩) (j + 1) cc ∧ OI wr w.heap.size wr.heap.size (.slice (some ⟨b, 0, none⟩) (j + 1) cc) (j + 1) (playF d s X) ∧ Ext w wr)
            case atStart => exact ⟨0, w.heap.size, 1, Nat.zero_le _, rfl, rfl, rfl, (OI.lit w [.int .i64 s] (playF d s X) 1 (by simp [maxLen]) rfl).now, (by repeat (first | (with_reducible exact ext_refl _) | (with_reducible refine ext_setCell ?_ ?_ _) | (with_reducible refine ext_alloc ?_ _) | (with_reducible refine ext_drewN ?_ _) | (with_reducible refine ext_drew ?_) | (with_reducible refine ext_trans ?_ (by assumption)) | (dsimp only; omega) | omega | (simp; omega)))⟩
            case round =>
              obtain ⟨j, b, cc, hj, rfl, rfl, rfl, hO, hx⟩ := hrel
              rcases Nat.lt_or_ge j k with hlt | hge
              · obtain ⟨b', off, rfl, hc⟩ := H.out.at_ hlt
                have hc' := ext_cell hx hc
                have hl := hO.cell (k := j) (by omega)
                have hlt' : (j : Int) < (k : Int) := by omega
                have hlt2 : (j : Int) < (j : Int) + 1 := by omega
                have hsz := hx.size
                clear hc
                go_wp2
                have hO1 := Lib.hid (fun v => hO.ext (ext_alloc (ext_drew (ext_refl wr)) v))
                go_region_law (first | (refine step_push_int rfl _ _ 22 rfl Try.underlying22 info_int _ w.heap.size (j + 1) (playF d s X) (playStepI d (playF d s X j) (X j)) _ _ _ rfl (hO1.out _) ⟨wr.heap.size, 0, none⟩ 1 rfl (by simp) rfl (by omega) (by simp; omega) ?_; intro g' c' w1 hO1 hb1) | (go_simp; go_at_call 67; refine (spec_PlayStep _ _ _ _).mono ?_; rintro e w' ⟨rfl, rfl⟩))
                all_goals
                  go_wp2
                  go_roundg (k - (j + 1))
                  case measure => omega
                  case rel => exact ⟨j + 1, g', c', by omega, rfl, by go_num, rfl, hO1, Below.trans (ext_alloc (ext_drew hx) _) hb1⟩
              · obtain rfl : j = k := by omega
                go_wp2
                go_ret
                exact makes_yes HR.out ⟨_, _, rfl, hO, hx⟩
      · go_enter Try.func29, Try.ntmps29
        go_wp2
        go_loop [7] (fun i => ∃ k : Nat, k ≤ n ∧ i = .int .i64 k) (fun i => n - (intOf i).toNat)
        case atStart => exact ⟨0, Nat.zero_le _, rfl⟩
        case round =>
          obtain ⟨k, hk, rfl⟩ := hrel
          rcases Nat.lt_or_ge k n with hlt | hge
          · obtain ⟨b, off, rfl, hc⟩ := H.out.at_ hlt
            have hlt' : (k : Int) < (n : Int) := by omega
            have h3 := inB_true.2 (HALL.out k hlt)
            go_wp2_with (go_at_call 60; refine (spec_in _ _ _ _).mono ?_; rintro e w' ⟨rfl, rfl⟩)
            go_round
            case measure => simp [intOf]; omega
            case rel => exact ⟨k + 1, by omega, by go_num⟩
          · obtain rfl : k = n := by omega
            go_wp2_with (go_at_call 66; refine (spec_PlayOk _ _ _).mono ?_; rintro e w' ⟨rfl, rfl⟩)
            go_ret
            exact makes_no (by rw [HOK.out]; simp [h2]) (makes_empty _ _)
end Go.Proofs.Ytmapcpkloomliaa
