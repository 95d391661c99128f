/- The contract of OrthogonalWeight. No condition but those of each contract. -/
import Derived.Test.YtefgdkjcoeikmaaMat3
namespace Go.Proofs.Ytefgdkjcoeikmaa
open Go.ChangeShapes Go.WideShapes Go.ChangeAt Go.RowKit
set_option linter.unusedVariables false
set_option linter.unusedSimpArgs false

/-- the product of rows i and k is what an orthogonal matrix has -/
def orthC (n : Nat) (X : Nat → Nat → Int) (i k : Nat) : Bool := dot n (X i) (X k) == (if i = k then dot n (X 0) (X 0) else 0)
def orthB (n : Nat) (X : Nat → Nat → Int) : Bool := allR (fun i => allR (orthC n X i) n) n
def orthI (n : Nat) (L : Nat → Nat) (X : Nat → Nat → Int) : Int := if signsOkB n L X && orthB n X then dot n (X 0) (X 0) else 0
theorem orth_no {n i k : Nat} {L : Nat → Nat} {X : Nat → Nat → Int} (hi : i < n) (hk : k < n) (h : orthC n X i k = false) : orthI n L X = 0 := by
  simp [orthI, orthB, allR_no hi (f := fun i => allR (orthC n X i) n) (allR_no hk h)]
theorem orth_yes {n : Nat} {L : Nat → Nat} {X : Nat → Nat → Int} (hs : signsOkB n L X = true) (h : ∀ i, i < n → ∀ k, k < n → orthC n X i k = true) : orthI n L X = dot n (X 0) (X 0) := by
  have : orthB n X = true := allR_iff.2 fun i hi => allR_iff.2 fun k hk => h i hi k hk
  simp [orthI, hs, this]
theorem orthC_comm (n : Nat) (X : Nat → Nat → Int) (i k : Nat) : orthC n X i k = orthC n X k i := by
  unfold orthC; rw [dot_comm]
  by_cases e : i = k
  · subst e; rfl
  · rw [if_neg e, if_neg (fun q => e q.symm)]
/-- the test's parts -/
theorem orth_same {n i : Nat} {X : Nat → Nat → Int} : orthC n X i i = !(dot n (X i) (X i) != dot n (X 0) (X 0)) := by simp [orthC, bne]
theorem orth_other {n i k : Nat} {X : Nat → Nat → Int} (h : i ≠ k) : orthC n X i k = !(dot n (X i) (X k) != 0) := by simp [orthC, h, bne]
theorem eq_yes {a b : Nat} (h : a = b) : ((a : Int) == (b : Int)) = true := by simp [h]
theorem eq_no {a b : Nat} (h : a ≠ b) : ((a : Int) == (b : Int)) = false := by simp; omega
theorem hid_all {P : Nat → Prop} {k : Nat} (h : Hid (∀ j, j < k → P j)) (hk : P k) : Hid (∀ j, j < k + 1 → P j) := Lib.hid fun j hj => by
  by_cases q : j = k
  · subst q; exact hk
  · exact h.out j (by omega)

set_option maxHeartbeats 3200000 in
theorem impl_OrthogonalWeight (a : Option Addr) (n c : Nat) (A : Nat → Option Addr) (L C : Nat → Nat) (X : Nat → Nat → Int) (w : World) (h : RowsAt w a n A L C X) (hn : n ≤ 1048576) (hT : off L n ≤ 1048576) :
    Calls Try.prog 45 #[.slice a n c] w fun e w' => e = .returned (.int .i64 (orthI n L X)) ∧ Drawn w w' := by
  have H := Lib.hid h
  cases h0 : signsOkB n L X
  · go_enter Try.func45, Try.ntmps45
    go_wp2_with (go_at_call 50; refine (impl_SignsOk _ _ _ _ _ _ _ _ h hn hT).mono ?_; rintro e w' ⟨rfl, rfl⟩)
    go_ret
    exact ⟨ret_int (by simp [orthI, h0]), Drawn.refl _⟩
  · have HS := Lib.hid h0
    have HP := Lib.hid (show ∀ i, i < n → L i = n from fun i hi => ((signs_iff.1 h0).2 i hi).1)
    obtain ⟨⟨n1, n2⟩, _⟩ := signs_iff.1 h0
    have hn0' : (0 : Int) < (n : Int) := by omega
    obtain ⟨b, of, rfl, hc0⟩ := H.out.at_ (show 0 < n by omega)
    simp only [Nat.add_zero] at hc0
    rw [HP.out 0 (by omega)] at hc0
    have hr0 := H.out.row 0 (by omega)
    rw [HP.out 0 (by omega)] at hr0
    have hM0 := Lib.hid (signs_prod h0 (i := 0) (k := 0) (by omega) (by omega)).2.2.2
    have HN := Lib.hid (HP.out 0 (by omega))
    go_enter Try.func45, Try.ntmps45
    go_wp2_with (go_at_call 50; refine (impl_SignsOk _ _ _ _ _ _ _ _ h hn hT).mono ?_; rintro e w' ⟨rfl, rfl⟩)
    clear h h0
    go_quiet ((go_at_call 78; exact quiet_drawn (impl_product _ _ _ _ _ _ _ _ _ (hr0.ext (ext_of_drewN _ _)) (hr0.ext (ext_of_drewN _ _)) (Nat.le_refl _) (by omega) (by omega) (by rw [← HN.out]; exact hM0.out))))
    go_wp2
    go_loopg [19] n (fun g i wr => ∃ k : Nat, k ≤ n ∧ g = n - k ∧ i = .int .i64 k ∧ Hid (∀ j, j < k → ∀ l, l < n → orthC n X j l = true) ∧ Drawn w wr)
    case atStart => exact ⟨0, Nat.zero_le _, rfl, rfl, Lib.hid (fun j hj => by omega), ⟨nq, rfl⟩⟩
    case round =>
      obtain ⟨k, hk, rfl, rfl, hal, hd⟩ := hrel
      rcases Nat.lt_or_ge k n with hlt | hge
      · have hlt' : (k : Int) < (n : Int) := by omega
        obtain ⟨wo, rfl⟩ : ∃ wo : World, wo = wr := ⟨_, rfl⟩
        go_wp2
        go_loopg [24] n (fun g i wr => ∃ l : Nat, l ≤ n ∧ g = n - l ∧ i = .int .i64 l ∧ Hid (∀ j, j < l → orthC n X k j = true) ∧ Drawn w wr)
        case atStart => exact ⟨0, Nat.zero_le _, rfl, rfl, Lib.hid (fun j hj => by omega), hd⟩
        case round =>
          obtain ⟨l, hl, rfl, rfl, haj, hd2⟩ := hrel
          rcases Nat.lt_or_ge l n with llt | lge
          · have llt' : (l : Int) < (n : Int) := by omega
            obtain ⟨b', of', hbo, hck⟩ := H.out.at_ hlt
            obtain ⟨b'', of'', hbo2, hcl⟩ := H.out.at_ llt
            simp only [Option.some.injEq, Addr.mk.injEq, and_true] at hbo hbo2
            obtain ⟨rfl, rfl⟩ := hbo
            obtain ⟨rfl, rfl⟩ := hbo2
            rw [HP.out k hlt] at hck
            rw [HP.out l llt] at hcl
            have dck := ext_cell hd2.ext hck
            have dcl := ext_cell hd2.ext hcl
            have r1 := (H.out.row k hlt).ext hd2.ext
            have r2 := (H.out.row l llt).ext hd2.ext
            rw [HP.out k hlt] at r1
            rw [HP.out l llt] at r2
            have hM := (signs_prod HS.out hlt llt).2.2.2
            rw [HP.out k hlt] at hM
            have HM := Lib.hid hM
            clear hM hck hcl
            by_cases e : k = l
            · subst e
              have hb := eq_yes (rfl : k = k)
              cases ht : (dot n (X k) (X k) != dot n (X 0) (X 0))
              · have HB := hid_all haj (show orthC n X k k = true by rw [orth_same, ht]; rfl)
                go_wp2
                go_quiet ((go_at_call 78; exact quiet_drawn (impl_product _ _ _ _ _ _ _ _ _ (r1.ext (ext_of_drewN _ _)) (r2.ext (ext_of_drewN _ _)) (Nat.le_refl _) (by omega) (by omega) HM.out)))
                go_wp2
                go_roundg (n - (k + 1))
                case measure => omega
                case rel => exact ⟨k + 1, by omega, rfl, by go_num, HB, hd2.drewN _⟩
              · have HB := Lib.hid (orth_no (L := L) hlt hlt (show orthC n X k k = false by rw [orth_same, ht]; rfl))
                go_wp2
                go_quiet ((go_at_call 78; exact quiet_drawn (impl_product _ _ _ _ _ _ _ _ _ (r1.ext (ext_of_drewN _ _)) (r2.ext (ext_of_drewN _ _)) (Nat.le_refl _) (by omega) (by omega) HM.out)))
                go_wp2
                go_ret
                exact ⟨ret_int HB.out.symm, hd2.drewN _⟩
            · have hb := eq_no e
              have hb2 := neq_yes e
              cases ht : (dot n (X k) (X l) != 0)
              · have HB := hid_all haj (show orthC n X k l = true by rw [orth_other e, ht]; rfl)
                go_wp2
                go_quiet ((go_at_call 78; exact quiet_drawn (impl_product _ _ _ _ _ _ _ _ _ (r1.ext (ext_of_drewN _ _)) (r2.ext (ext_of_drewN _ _)) (Nat.le_refl _) (by omega) (by omega) HM.out)))
                go_wp2
                go_roundg (n - (l + 1))
                case measure => omega
                case rel => exact ⟨l + 1, by omega, rfl, by go_num, HB, hd2.drewN _⟩
              · have HB := Lib.hid (orth_no (L := L) hlt llt (show orthC n X k l = false by rw [orth_other e, ht]; rfl))
                go_wp2
                go_quiet ((go_at_call 78; exact quiet_drawn (impl_product _ _ _ _ _ _ _ _ _ (r1.ext (ext_of_drewN _ _)) (r2.ext (ext_of_drewN _ _)) (Nat.le_refl _) (by omega) (by omega) HM.out)))
                go_wp2
                go_ret
                exact ⟨ret_int HB.out.symm, hd2.drewN _⟩
          · obtain rfl : l = n := by omega
            have HB := hid_all hal (P := fun j => ∀ q, q < l → orthC l X j q = true) haj.out
            go_wp2
            go_roundg (l - (k + 1))
            case measure => omega
            case rel => exact ⟨k + 1, by omega, rfl, by go_num, HB, hd2⟩
      · obtain rfl : k = n := by omega
        have HB := Lib.hid (orth_yes HS.out hal.out)
        go_wp2
        go_ret
        exact ⟨ret_int HB.out.symm, hd⟩

end Go.Proofs.Ytefgdkjcoeikmaa
