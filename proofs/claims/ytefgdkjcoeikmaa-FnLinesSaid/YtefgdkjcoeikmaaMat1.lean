/- The contracts of the tests on matrices: sides, squares, designs, signs. No condition but those of each contract. -/
import Derived.Test.YtefgdkjcoeikmaaRows1
import Derived.Test.YtefgdkjcoeikmaaWords
import Derived.Test.YtefgdkjcoeikmaaScal
namespace Go.Proofs.Ytefgdkjcoeikmaa
open Go.ChangeShapes Go.WideShapes Go.ChangeAt Go.RowKit
set_option linter.unusedVariables false
set_option linter.unusedSimpArgs false

/-! ### plain words -/
def allR (f : Nat → Bool) : Nat → Bool
  | 0 => true
  | k + 1 => allR f k && f k
theorem allR_iff {f : Nat → Bool} {n : Nat} : allR f n = true ↔ ∀ i, i < n → f i = true := by
  induction n with
  | zero => simp [allR]
  | succ n ih =>
    simp only [allR, Bool.and_eq_true, ih]
    constructor
    · rintro ⟨h1, h2⟩ i hi
      by_cases e : i = n
      · subst e; exact h2
      · exact h1 i (by omega)
    · exact fun h => ⟨fun i hi => h i (by omega), h n (by omega)⟩
theorem allR_no {f : Nat → Bool} {n k : Nat} (hk : k < n) (h : f k = false) : allR f n = false := by
  cases e : allR f n
  · rfl
  · exact absurd (allR_iff.1 e k hk) (by rw [h]; simp)
theorem allR_yes {f : Nat → Bool} {k : Nat} (h1 : allR f k = true) (h : f k = true) : allR f (k + 1) = true := by simp [allR, h1, h]

def rowB (m : Nat) (lo hi : Int) (L : Nat → Nat) (X : Nat → Nat → Int) : Nat → Bool := fun i => decide (L i = m) && allB lo hi (X i) (L i)
theorem rowB_len {m : Nat} {lo hi : Int} {L : Nat → Nat} {X : Nat → Nat → Int} {k : Nat} (h : L k ≠ m) : rowB m lo hi L X k = false := by simp [rowB, h]
theorem rowB_eq {m : Nat} {lo hi : Int} {L : Nat → Nat} {X : Nat → Nat → Int} {k : Nat} (h : L k = m) : rowB m lo hi L X k = allB lo hi (X k) (L k) := by simp [rowB, h]
def designOkB (n : Nat) (L : Nat → Nat) (X : Nat → Nat → Int) : Bool := inB n 1 8 && (inB (L 0) 1 4 && allR (rowB (L 0) (-1) 1 L X) n)
def signsOkB (n : Nat) (L : Nat → Nat) (X : Nat → Nat → Int) : Bool := inB n 1 8 && allR (rowB n (-1) 1 L X) n
def squareOkB (n : Nat) (L : Nat → Nat) (X : Nat → Nat → Int) : Bool := inB n 1 4 && allR (rowB n (-8) 8 L X) n
theorem neq_yes {a b : Nat} (h : a ≠ b) : ((a : Int) != (b : Int)) = true := by simp; omega
theorem neq_no {a b : Nat} (h : a = b) : ((a : Int) != (b : Int)) = false := by simp [h]

/-! ### sides -/
set_option maxHeartbeats 400000 in
theorem impl_areSides (a : Option Addr) (n c : Nat) (X : Nat → Int) (w : World) (h : IntsAt w a n X) (hn : n ≤ 1099511627776) :
    Calls Try.prog 80 #[.slice a n c] w fun e w' => e = .returned (.bool (allB (-1) 1 X n)) ∧ w = w' := by
  have H := Lib.hid h
  clear h
  go_enter Try.func80, Try.ntmps80
  go_wp2
  go_loop [7] (fun i => ∃ k : Nat, k ≤ n ∧ i = .int .i64 k ∧ Hid (allB (-1) 1 X k = true)) (fun i => n - (intOf i).toNat)
  case atStart => exact ⟨0, Nat.zero_le _, rfl, Lib.hid rfl⟩
  case round =>
    obtain ⟨k, hk, rfl, hal⟩ := hrel
    rcases Nat.lt_or_ge k n with hlt | hge
    · obtain ⟨b, off, rfl, hc⟩ := H.out.at_ hlt
      have hlt' : (k : Int) < (n : Int) := by omega
      cases h3 : inB (X k) (-1) 1
      · have HB := Lib.hid (allB_no hlt h3)
        go_wp2_with (go_at_call 73; refine (impl_in _ _ _ _).mono ?_; rintro e w' ⟨rfl, rfl⟩)
        go_ret
        exact ⟨ret_bool HB.out.symm, rfl⟩
      · have HB := Lib.hid (allB_yes hal.out h3)
        go_wp2_with (go_at_call 73; refine (impl_in _ _ _ _).mono ?_; rintro e w' ⟨rfl, rfl⟩)
        go_round
        case measure => simp [intOf]; omega
        case rel => exact ⟨k + 1, by omega, by go_num, HB⟩
    · obtain rfl : k = n := by omega
      go_wp2
      go_ret
      exact ⟨ret_bool hal.out.symm, rfl⟩
set_option maxHeartbeats 400000 in
theorem spec_l03Signs (a : Option Addr) (n c : Nat) (X : Nat → Int) (w : World) (h : IntsAt w a n X) (hn : n ≤ 1099511627776) :
    Calls Try.prog 91 #[.slice a n c] w fun e w' => e = .returned (.bool (allB (-1) 1 X n)) ∧ w = w' := by
  have H := Lib.hid h
  clear h
  go_enter Try.func91, Try.ntmps91
  go_wp2
  go_loop [3] (fun i => ∃ k : Nat, k ≤ n ∧ i = .int .i64 k ∧ Hid (allB (-1) 1 X k = true)) (fun i => n - (intOf i).toNat)
  case atStart => exact ⟨0, Nat.zero_le _, rfl, Lib.hid rfl⟩
  case round =>
    obtain ⟨k, hk, rfl, hal⟩ := hrel
    rcases Nat.lt_or_ge k n with hlt | hge
    · obtain ⟨b, off, rfl, hc⟩ := H.out.at_ hlt
      have hlt' : (k : Int) < (n : Int) := by omega
      cases h3 : inB (X k) (-1) 1
      · have HB := Lib.hid (allB_no hlt h3)
        go_wp2_with (go_at_call 85; refine (spec_in _ _ _ _).mono ?_; rintro e w' ⟨rfl, rfl⟩)
        go_ret
        exact ⟨ret_bool HB.out.symm, rfl⟩
      · have HB := Lib.hid (allB_yes hal.out h3)
        go_wp2_with (go_at_call 85; refine (spec_in _ _ _ _).mono ?_; rintro e w' ⟨rfl, rfl⟩)
        go_round
        case measure => simp [intOf]; omega
        case rel => exact ⟨k + 1, by omega, by go_num, HB⟩
    · obtain rfl : k = n := by omega
      go_wp2
      go_ret
      exact ⟨ret_bool hal.out.symm, rfl⟩

/-! ### signs -/
set_option maxHeartbeats 800000 in
theorem impl_SignsOk (a : Option Addr) (n c : Nat) (A : Nat → Option Addr) (L C : Nat → Nat) (X : Nat → Nat → Int) (w : World) (h : RowsAt w a n A L C X) (hn : n ≤ 1048576) (hT : off L n ≤ 1048576) :
    Calls Try.prog 50 #[.slice a n c] w fun e w' => e = .returned (.bool (signsOkB n L X)) ∧ w = w' := by
  have H := Lib.hid h
  clear h
  cases h1 : inB n 1 8
  · go_enter Try.func50, Try.ntmps50
    go_wp2_with (go_at_call 73; refine (impl_in _ _ _ _).mono ?_; rintro e w' ⟨rfl, rfl⟩)
    go_ret
    exact ⟨ret_bool (by simp [signsOkB, h1]), rfl⟩
  · have HOK := Lib.hid (show signsOkB n L X = allR (rowB n (-1) 1 L X) n by simp [signsOkB, h1])
    go_enter Try.func50, Try.ntmps50
    go_wp2_with (go_at_call 73; refine (impl_in _ _ _ _).mono ?_; rintro e w' ⟨rfl, rfl⟩)
    go_loop [11] (fun i => ∃ k : Nat, k ≤ n ∧ i = .int .i64 k ∧ Hid (allR (rowB n (-1) 1 L X) k = true)) (fun i => n - (intOf i).toNat)
    case atStart => exact ⟨0, Nat.zero_le _, rfl, Lib.hid rfl⟩
    case round =>
      obtain ⟨k, hk, rfl, hal⟩ := hrel
      rcases Nat.lt_or_ge k n with hlt | hge
      · obtain ⟨b, of, rfl, hc⟩ := H.out.at_ hlt
        have hr := H.out.row k hlt
        have hl1 := off_row (L := L) hlt
        have hlt' : (k : Int) < (n : Int) := by omega
        by_cases e : L k = n
        · have HE := Lib.hid (rowB_eq (lo := -1) (hi := 1) (X := X) e)
          have hb := neq_no e
          clear e
          cases h3 : allB (-1) 1 (X k) (L k)
          · have HB := Lib.hid (allR_no hlt (HE.out.trans h3))
            go_wp2_with (go_at_call 80; refine (impl_areSides _ _ _ _ _ hr (by omega)).mono ?_; rintro e w' ⟨rfl, rfl⟩)
            go_ret
            exact ⟨ret_bool (HOK.out.trans HB.out).symm, rfl⟩
          · have HB := Lib.hid (allR_yes hal.out (HE.out.trans h3))
            go_wp2_with (go_at_call 80; refine (impl_areSides _ _ _ _ _ hr (by omega)).mono ?_; rintro e w' ⟨rfl, rfl⟩)
            go_round
            case measure => simp [intOf]; omega
            case rel => exact ⟨k + 1, by omega, by go_num, HB⟩
        · have HB := Lib.hid (allR_no hlt (rowB_len (lo := -1) (hi := 1) (X := X) e))
          have hb := neq_yes e
          clear e
          go_wp2
          go_ret
          exact ⟨ret_bool (HOK.out.trans HB.out).symm, rfl⟩
      · obtain rfl : k = n := by omega
        go_wp2
        go_ret
        exact ⟨ret_bool (HOK.out.trans hal.out).symm, rfl⟩

theorem quiet_same {P : Program} {f : FuncId} {args : Array Value} {w : World} {v : Value}
    (h : Calls P f args w fun e w' => e = .returned v ∧ w = w') : Calls P f args w fun e w' => e = .returned v ∧ Drawn w w' :=
  h.mono fun _ _ ⟨he, hm⟩ => ⟨he, 0, hm.symm⟩
theorem Drawn.refl (w : World) : Drawn w w := ⟨0, rfl⟩
theorem Drawn.drewN {w w' : World} (h : Drawn w w') (n : Nat) : Drawn w (w'.drewN n) := by
  obtain ⟨m, rfl⟩ := h; exact ⟨m + n, World.drewN_drewN _ _ _⟩
theorem Drawn.trans {w w' w'' : World} (h : Drawn w w') (k : Drawn w' w'') : Drawn w w'' := by
  obtain ⟨m, rfl⟩ := h; exact k.elim fun n hn => ⟨m + n, by rw [hn, World.drewN_drewN]⟩
/-- a callee that only draws, met in a region that draws -/
theorem quiet_drawn {P : Program} {f : FuncId} {args : Array Value} {w : World} {n : Nat} {v : Value}
    (h : Calls P f args (w.drewN n) fun e w' => e = .returned v ∧ Drawn (w.drewN n) w') : Calls P f args (w.drewN n) fun e w'' => e = .returned v ∧ ∃ m, w'' = w.drewN m :=
  Calls.quiet_of h

/-! ### designs -/
set_option maxHeartbeats 1600000 in
theorem impl_DesignOk (a : Option Addr) (n c : Nat) (A : Nat → Option Addr) (L C : Nat → Nat) (X : Nat → Nat → Int) (w : World) (h : RowsAt w a n A L C X) (hn : n ≤ 1048576) (hT : off L n ≤ 1048576) :
    Calls Try.prog 41 #[.slice a n c] w fun e w' => e = .returned (.bool (designOkB n L X)) ∧ w = w' := by
  have H := Lib.hid h
  clear h
  cases h1 : inB n 1 8
  · go_enter Try.func41, Try.ntmps41
    go_wp2_with (go_at_call 73; refine (impl_in _ _ _ _).mono ?_; rintro e w' ⟨rfl, rfl⟩)
    go_ret
    exact ⟨ret_bool (by simp [designOkB, h1]), rfl⟩
  · obtain ⟨n1, n2⟩ := inB_true.1 h1
    have hn0 : 0 < n := by omega
    have hn0' : (0 : Int) < (n : Int) := by omega
    obtain ⟨b, of, rfl, hc0⟩ := H.out.at_ hn0
    simp only [Nat.add_zero] at hc0
    have hl0 := off_row (L := L) hn0
    cases h2 : inB (L 0) 1 4
    · go_enter Try.func41, Try.ntmps41
      go_wp2_with (go_at_call 73; refine (impl_in _ _ _ _).mono ?_; rintro e w' ⟨rfl, rfl⟩)
      go_ret
      exact ⟨ret_bool (by simp [designOkB, h2]), rfl⟩
    · have HOK := Lib.hid (show designOkB n L X = allR (rowB (L 0) (-1) 1 L X) n by simp [designOkB, h1, h2])
      go_enter Try.func41, Try.ntmps41
      go_wp2_with (go_at_call 73; refine (impl_in _ _ _ _).mono ?_; rintro e w' ⟨rfl, rfl⟩)
      go_loop [19] (fun i => ∃ k : Nat, k ≤ n ∧ i = .int .i64 k ∧ Hid (allR (rowB (L 0) (-1) 1 L X) k = true)) (fun i => n - (intOf i).toNat)
      case atStart => exact ⟨0, Nat.zero_le _, rfl, Lib.hid rfl⟩
      case round =>
        obtain ⟨k, hk, rfl, hal⟩ := hrel
        rcases Nat.lt_or_ge k n with hlt | hge
        · obtain ⟨b', of', hbo, hc⟩ := H.out.at_ hlt
          simp only [Option.some.injEq, Addr.mk.injEq, and_true] at hbo
          obtain ⟨rfl, rfl⟩ := hbo
          have hr := H.out.row k hlt
          have hl1 := off_row (L := L) hlt
          have hlt' : (k : Int) < (n : Int) := by omega
          by_cases e : L k = L 0
          · have HE := Lib.hid (rowB_eq (lo := -1) (hi := 1) (X := X) e)
            have hb := neq_no e
            clear e
            cases h3 : allB (-1) 1 (X k) (L k)
            · have HB := Lib.hid (allR_no hlt (HE.out.trans h3))
              go_wp2_with (go_at_call 80; refine (impl_areSides _ _ _ _ _ hr (by omega)).mono ?_; rintro e w' ⟨rfl, rfl⟩)
              go_ret
              exact ⟨ret_bool (HOK.out.trans HB.out).symm, rfl⟩
            · have HB := Lib.hid (allR_yes hal.out (HE.out.trans h3))
              go_wp2_with (go_at_call 80; refine (impl_areSides _ _ _ _ _ hr (by omega)).mono ?_; rintro e w' ⟨rfl, rfl⟩)
              go_round
              case measure => simp [intOf]; omega
              case rel => exact ⟨k + 1, by omega, by go_num, HB⟩
          · have HB := Lib.hid (allR_no hlt (rowB_len (lo := -1) (hi := 1) (X := X) e))
            have hb := neq_yes e
            clear e
            go_wp2
            go_ret
            exact ⟨ret_bool (HOK.out.trans HB.out).symm, rfl⟩
        · obtain rfl : k = n := by omega
          go_wp2
          go_ret
          exact ⟨ret_bool (HOK.out.trans hal.out).symm, rfl⟩

set_option maxHeartbeats 1600000 in
theorem spec_DesignOk (a : Option Addr) (n c : Nat) (A : Nat → Option Addr) (L C : Nat → Nat) (X : Nat → Nat → Int) (w : World) (h : RowsAt w a n A L C X) (hn : n ≤ 1048576) (hT : off L n ≤ 1048576) :
    Calls Try.prog 62 #[.slice a n c] w fun e w' => e = .returned (.bool (designOkB n L X)) ∧ Drawn w w' := by
  have H := Lib.hid h
  clear h
  go_enter Try.func62, Try.ntmps62
  go_wp2
  go_loopg [3] n (fun g i wr => ∃ k : Nat, k ≤ n ∧ g = n - k ∧ i = .int .i64 k ∧ Hid (allR (rowB (L 0) (-1) 1 L X) k = true) ∧ Drawn w wr)
  case atStart => exact ⟨0, Nat.zero_le _, rfl, rfl, Lib.hid rfl, Drawn.refl _⟩
  case round =>
    obtain ⟨k, hk, rfl, rfl, hal, hd⟩ := hrel
    rcases Nat.lt_or_ge k n with hlt | hge
    · have hn0' : (0 : Int) < (n : Int) := by omega
      obtain ⟨b, of, rfl, hc0⟩ := H.out.at_ (show 0 < n by omega)
      obtain ⟨b', of', hbo, hc⟩ := H.out.at_ hlt
      simp only [Option.some.injEq, Addr.mk.injEq, and_true] at hbo
      obtain ⟨rfl, rfl⟩ := hbo
      simp only [Nat.add_zero] at hc0
      have d0 := ext_cell hd.ext hc0
      have d1 := ext_cell hd.ext hc
      have hr := (H.out.row k hlt).ext hd.ext
      have hl1 := off_row (L := L) hlt
      have hlt' : (k : Int) < (n : Int) := by omega
      clear hc0 hc
      by_cases e : L k = L 0
      · have HE := Lib.hid (rowB_eq (lo := -1) (hi := 1) (X := X) e)
        have hb := neq_no e
        clear e
        cases h3 : allB (-1) 1 (X k) (L k)
        · have HB := Lib.hid (allR_no hlt (HE.out.trans h3))
          go_wp2
          go_quiet ((go_at_call 91; exact quiet_eq (spec_l03Signs _ _ _ _ _ (hr.ext (ext_of_drewN _ _)) (by omega))))
          go_wp2
          go_ret
          exact ⟨ret_bool (show false = designOkB n L X by simp [designOkB, HB.out]), hd.drewN _⟩
        · have HB := Lib.hid (allR_yes hal.out (HE.out.trans h3))
          go_wp2
          go_quiet ((go_at_call 91; exact quiet_eq (spec_l03Signs _ _ _ _ _ (hr.ext (ext_of_drewN _ _)) (by omega))))
          go_wp2
          go_roundg (n - (k + 1))
          case measure => omega
          case rel => exact ⟨k + 1, by omega, rfl, by go_num, HB, hd.drewN _⟩
      · have HB := Lib.hid (allR_no hlt (rowB_len (lo := -1) (hi := 1) (X := X) e))
        have hb := neq_yes e
        clear e
        go_wp2
        go_quiet (fail)
        go_wp2
        go_ret
        exact ⟨ret_bool (show false = designOkB n L X by simp [designOkB, HB.out]), hd.drewN _⟩
    · obtain rfl : k = n := by omega
      cases h1 : inB k 1 8
      · go_wp2_with (go_at_call 85; refine (spec_in _ _ _ _).mono ?_; rintro e w' ⟨rfl, rfl⟩)
        go_ret
        exact ⟨ret_bool (show false = designOkB k L X by simp [designOkB, h1]), hd⟩
      · obtain ⟨n1, n2⟩ := inB_true.1 h1
        obtain ⟨b, of, rfl, hc0⟩ := H.out.at_ (show 0 < k by omega)
        simp only [Nat.add_zero] at hc0
        have d0 := ext_cell hd.ext hc0
        have hn0' : (0 : Int) < (k : Int) := by omega
        have HR := Lib.hid (show inB (L 0) 1 4 = designOkB k L X by simp [designOkB, h1, hal.out])
        clear hc0
        go_wp2_with (go_at_call 85; refine (spec_in _ _ _ _).mono ?_; rintro e w' ⟨rfl, rfl⟩)
        go_ret
        exact ⟨ret_bool HR.out, hd⟩
end Go.Proofs.Ytefgdkjcoeikmaa
