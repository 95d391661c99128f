/- The contracts of SquareOk, and products of rows. No condition but those of each contract. -/
import Derived.Test.YtefgdkjcoeikmaaMat1
import Derived.Test.YtefgdkjcoeikmaaDet
namespace Go.Proofs.Ytefgdkjcoeikmaa
open Go.ChangeShapes Go.WideShapes Go.ChangeAt Go.RowKit
set_option linter.unusedVariables false
set_option linter.unusedSimpArgs false

theorem ext_of_drawn {P : Program} {f : FuncId} {args : Array Value} {w : World} {v : Value} (h : Calls P f args w fun e w' => e = .returned v ∧ Drawn w w') : Calls P f args w fun e w' => e = .returned v ∧ Ext w w' :=
  h.mono fun _ _ ⟨a, b⟩ => ⟨a, b.ext⟩
set_option maxHeartbeats 1600000 in
theorem impl_SquareOk (a : Option Addr) (n c : Nat) (A : Nat → Option Addr) (L C : Nat → Nat) (X : Nat → Nat → Int) (w : World) (h : RowsAt w a n A L C X) (hn : n ≤ 1048576) (hT : off L n ≤ 1048576) :
    Calls Try.prog 39 #[.slice a n c] w fun e w' => e = .returned (.bool (squareOkB n L X)) ∧ w = w' := by
  have H := Lib.hid h
  clear h
  cases h1 : inB n 1 4
  · go_enter Try.func39, Try.ntmps39
    go_wp2_with (go_at_call 73; refine (impl_in _ _ _ _).mono ?_; rintro e w' ⟨rfl, rfl⟩)
    go_ret
    exact ⟨ret_bool (by simp [squareOkB, h1]), rfl⟩
  · have HOK := Lib.hid (show squareOkB n L X = allR (rowB n (-8) 8 L X) n by simp [squareOkB, h1])
    go_enter Try.func39, Try.ntmps39
    go_wp2_with (go_at_call 73; refine (impl_in _ _ _ _).mono ?_; rintro e w' ⟨rfl, rfl⟩)
    go_loop [13] (fun i => ∃ k : Nat, k ≤ n ∧ i = .int .i64 k ∧ Hid (allR (rowB n (-8) 8 L X) k = true)) (fun i => n - (intOf i).toNat)
    case atStart => exact ⟨0, Nat.zero_le _, rfl, Lib.hid rfl⟩
    case round =>
      obtain ⟨k, hk, rfl, hal⟩ := hrel
      rcases Nat.lt_or_ge k n with hlt | hge
      · obtain ⟨b, of, rfl, hc⟩ := H.out.at_ hlt
        have hr0 := H.out.row k hlt
        generalize A k = ak at hc hr0
        have hr := Lib.hid hr0
        clear hr0
        have hl1 := off_row (L := L) hlt
        have hlt' : (k : Int) < (n : Int) := by omega
        by_cases e : L k = n
        · have HE := Lib.hid (rowB_eq (lo := -8) (hi := 8) (X := X) e)
          have hb := neq_no e
          clear e
          go_wp2
          go_loop [24] (fun i => ∃ j : Nat, j ≤ L k ∧ i = .int .i64 j ∧ Hid (allB (-8) 8 (X k) j = true)) (fun i => L k - (intOf i).toNat)
          case atStart => exact ⟨0, Nat.zero_le _, rfl, Lib.hid rfl⟩
          case round =>
            obtain ⟨j, hj, rfl, haj⟩ := hrel
            rcases Nat.lt_or_ge j (L k) with jlt | jge
            · obtain ⟨b2, of2, rfl, hc2⟩ := hr.out.at_ jlt
              have jlt' : (j : Int) < (L k : Int) := by omega
              cases h3 : inB (X k j) (-8) 8
              · have HB := Lib.hid (allR_no hlt (HE.out.trans (allB_no jlt h3)))
                go_wp2_with (go_at_call 73; refine (impl_in _ _ _ _).mono ?_; rintro e w' ⟨rfl, rfl⟩)
                go_ret
                exact ⟨ret_bool (HOK.out.trans HB.out).symm, rfl⟩
              · have HB := Lib.hid (allB_yes haj.out h3)
                go_wp2_with (go_at_call 73; refine (impl_in _ _ _ _).mono ?_; rintro e w' ⟨rfl, rfl⟩)
                go_round
                case measure => simp [intOf]; omega
                case rel => exact ⟨j + 1, by omega, by go_num, HB⟩
            · have HB := Lib.hid (allR_yes hal.out (HE.out.trans (show allB (-8) 8 (X k) (L k) = true by rw [show L k = j by omega]; exact haj.out)))
              go_wp2
              go_round
              case measure => simp [intOf]; omega
              case rel => exact ⟨k + 1, by omega, by go_num, HB⟩
        · have HB := Lib.hid (allR_no hlt (rowB_len (lo := -8) (hi := 8) (X := X) e))
          have hb := neq_yes e
          clear e
          go_wp2
          go_ret
          exact ⟨ret_bool (HOK.out.trans HB.out).symm, rfl⟩
      · obtain rfl : k = n := by omega
        go_wp2
        go_ret
        exact ⟨ret_bool (HOK.out.trans hal.out).symm, rfl⟩

end Go.Proofs.Ytefgdkjcoeikmaa
