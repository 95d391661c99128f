/- The contracts of products of rows, of sums, of orthogonal weights. No condition but those of each contract. -/
import Derived.Test.YtefgdkjcoeikmaaMat2
namespace Go.Proofs.Ytefgdkjcoeikmaa
open Go.ChangeShapes Go.WideShapes Go.ChangeAt Go.RowKit
set_option linter.unusedVariables false
set_option linter.unusedSimpArgs false

theorem wrapI {x : Int} (h1 : -9223372036854775808 ≤ x) (h2 : x ≤ 9223372036854775807) : IntKind.i64.wrap x = x := IntWalk.i64_in _ (by omega)

/-! ### what a valid matrix is -/
theorem rowB_true {m : Nat} {lo hi : Int} {L : Nat → Nat} {X : Nat → Nat → Int} {i : Nat} : rowB m lo hi L X i = true ↔ L i = m ∧ ∀ j, j < L i → lo ≤ X i j ∧ X i j ≤ hi := by
  simp only [rowB, Bool.and_eq_true, decide_eq_true_eq, allB_iff]
theorem signs_iff {n : Nat} {L : Nat → Nat} {X : Nat → Nat → Int} : signsOkB n L X = true ↔ (1 ≤ n ∧ n ≤ 8) ∧ ∀ i, i < n → L i = n ∧ ∀ j, j < L i → -1 ≤ X i j ∧ X i j ≤ 1 := by
  simp only [signsOkB, Bool.and_eq_true, inB_true, allR_iff, rowB_true]
  constructor
  · rintro ⟨h1, h2⟩; exact ⟨by omega, h2⟩
  · rintro ⟨h1, h2⟩; exact ⟨by omega, h2⟩
theorem square_iff {n : Nat} {L : Nat → Nat} {X : Nat → Nat → Int} : squareOkB n L X = true ↔ (1 ≤ n ∧ n ≤ 4) ∧ ∀ i, i < n → L i = n ∧ ∀ j, j < L i → -8 ≤ X i j ∧ X i j ≤ 8 := by
  simp only [squareOkB, Bool.and_eq_true, inB_true, allR_iff, rowB_true]
  constructor
  · rintro ⟨h1, h2⟩; exact ⟨by omega, h2⟩
  · rintro ⟨h1, h2⟩; exact ⟨by omega, h2⟩
theorem design_iff {n : Nat} {L : Nat → Nat} {X : Nat → Nat → Int} : designOkB n L X = true ↔ (1 ≤ n ∧ n ≤ 8) ∧ (1 ≤ L 0 ∧ L 0 ≤ 4) ∧ ∀ i, i < n → L i = L 0 ∧ ∀ j, j < L i → -1 ≤ X i j ∧ X i j ≤ 1 := by
  simp only [designOkB, Bool.and_eq_true, inB_true, allR_iff, rowB_true]
  constructor
  · rintro ⟨h1, h2, h3⟩; exact ⟨by omega, by omega, h3⟩
  · rintro ⟨h1, h2, h3⟩; exact ⟨by omega, by omega, h3⟩

/-! ### products -/
def dot (n : Nat) (X Y : Nat → Int) : Int := sumN n fun i => X i * Y i
theorem dot_succ (n : Nat) (X Y : Nat → Int) : dot (n + 1) X Y = dot n X Y + X n * Y n := rfl
theorem dot_congr {n : Nat} {X Y X' Y' : Nat → Int} (h : ∀ i, i < n → X i = X' i ∧ Y i = Y' i) : dot n X Y = dot n X' Y' := sumN_congr fun i hi => by rw [(h i hi).1, (h i hi).2]
theorem dot_comm (n : Nat) (X Y : Nat → Int) : dot n X Y = dot n Y X := sumN_congr fun i _ => Int.mul_comm _ _
theorem dot_bound {n : Nat} {X Y : Nat → Int} {M : Int} (h : ∀ i, i < n → -M ≤ X i * Y i ∧ X i * Y i ≤ M) : -(n * M) ≤ dot n X Y ∧ dot n X Y ≤ n * M := sumN_bound h

set_option maxHeartbeats 800000 in
theorem impl_product (a b : Option Addr) (n m c d : Nat) (X Y : Nat → Int) (w : World) (ha : IntsAt w a n X) (hb : IntsAt w b m Y) (hnm : n ≤ m) (hn : n ≤ 1024) (hm : m ≤ 1099511627776) (hM : ∀ i, i < n → -1099511627776 ≤ X i * Y i ∧ X i * Y i ≤ 1099511627776) :
    Calls Try.prog 78 #[.slice a n c, .slice b m d] w fun e w' => e = .returned (.int .i64 (dot n X Y)) ∧ Drawn w w' := by
  have HA := Lib.hid ha
  have HB := Lib.hid hb
  have HM := Lib.hid hM
  clear ha hb hM
  go_enter Try.func78, Try.ntmps78
  go_wp2
  go_loopg [5, 9] n (fun g t i wr => ∃ k : Nat, k ≤ n ∧ g = n - k ∧ t = .int .i64 (dot k X Y) ∧ i = .int .i64 k ∧ Drawn w wr)
  case atStart => exact ⟨0, Nat.zero_le _, rfl, rfl, rfl, Drawn.refl _⟩
  case round =>
    obtain ⟨k, hk, rfl, rfl, rfl, hd⟩ := hrel
    rcases Nat.lt_or_ge k n with hlt | hge
    · obtain ⟨ba, oa, rfl, hca⟩ := HA.out.at_ hlt
      obtain ⟨bb, ob, rfl, hcb⟩ := HB.out.at_ (show k < m by omega)
      have hca' := ext_cell hd.ext hca
      have hcb' := ext_cell hd.ext hcb
      have hlt' : (k : Int) < (n : Int) := by omega
      have hlt2 : (k : Int) < (m : Int) := by omega
      obtain ⟨q1, q2⟩ := HM.out k hlt
      obtain ⟨q3, q4⟩ := dot_bound (n := k) (X := X) (Y := Y) (M := 1099511627776) (fun i hi => HM.out i (by omega))
      have W1 : IntKind.i64.wrap (X k * Y k) = X k * Y k := wrapI (by omega) (by omega)
      have W2 : IntKind.i64.wrap (dot k X Y + X k * Y k) = dot k X Y + X k * Y k := wrapI (by omega) (by omega)
      clear hca hcb
      go_wp2
      go_quiet (fail)
      go_wp2
      go_roundg (n - (k + 1))
      case measure => omega
      case rel => exact ⟨k + 1, by omega, rfl, rfl, by go_num, hd.drewN _⟩
    · obtain rfl : k = n := by omega
      go_wp2
      go_ret
      exact ⟨rfl, hd⟩
/-! ### products of rows of signs -/
def rowProdI (n : Nat) (L : Nat → Nat) (X : Nat → Nat → Int) (i k : Int) : Int := if signsOkB n L X && (inB i 0 ((n : Int) - 1) && inB k 0 ((n : Int) - 1)) then dot n (X i.toNat) (X k.toNat) else 0
/-- two rows of signs -/
theorem signs_prod {n : Nat} {L : Nat → Nat} {X : Nat → Nat → Int} (h : signsOkB n L X = true) {i k : Nat} (hi : i < n) (hk : k < n) :
    L i = n ∧ L k = n ∧ n ≤ 8 ∧ ∀ j, j < L i → -1099511627776 ≤ X i j * X k j ∧ X i j * X k j ≤ 1099511627776 := by
  obtain ⟨h1, h2⟩ := signs_iff.1 h
  obtain ⟨l1, r1⟩ := h2 i hi
  obtain ⟨l2, r2⟩ := h2 k hk
  refine ⟨l1, l2, h1.2, fun j hj => ?_⟩
  have := mul_bound (x := X i j) (y := X k j) (A := 1) (B := 1) (by have := r1 j hj; omega) (by have := r2 j (by omega); omega)
  omega

set_option maxHeartbeats 1600000 in
theorem impl_RowProduct (a : Option Addr) (n c : Nat) (A : Nat → Option Addr) (L C : Nat → Nat) (X : Nat → Nat → Int) (i k : Int) (w : World) (h : RowsAt w a n A L C X) (hn : n ≤ 1048576) (hT : off L n ≤ 1048576) :
    Calls Try.prog 49 #[.slice a n c, .int .i64 i, .int .i64 k] w fun e w' => e = .returned (.int .i64 (rowProdI n L X i k)) ∧ Drawn w w' := by
  cases h0 : signsOkB n L X
  · go_enter Try.func49, Try.ntmps49
    go_wp2_with (go_at_call 50; refine (impl_SignsOk _ _ _ _ _ _ _ _ h hn hT).mono ?_; rintro e w' ⟨rfl, rfl⟩)
    go_ret
    exact ⟨ret_int (by simp [rowProdI, h0]), Drawn.refl _⟩
  · cases h1 : inB i 0 ((n : Int) - 1)
    · go_enter Try.func49, Try.ntmps49
      go_wp2_with (first | (go_at_call 50; refine (impl_SignsOk _ _ _ _ _ _ _ _ h hn hT).mono ?_; rintro e w' ⟨rfl, rfl⟩) | (go_at_call 73; refine (impl_in _ _ _ _).mono ?_; rintro e w' ⟨rfl, rfl⟩))
      go_ret
      exact ⟨ret_int (by simp [rowProdI, h1]), Drawn.refl _⟩
    · cases h2 : inB k 0 ((n : Int) - 1)
      · go_enter Try.func49, Try.ntmps49
        go_wp2_with (first | (go_at_call 50; refine (impl_SignsOk _ _ _ _ _ _ _ _ h hn hT).mono ?_; rintro e w' ⟨rfl, rfl⟩) | (go_at_call 73; refine (impl_in _ _ _ _).mono ?_; rintro e w' ⟨rfl, rfl⟩))
        go_ret
        exact ⟨ret_int (by simp [rowProdI, h2]), Drawn.refl _⟩
      · obtain ⟨b1, b2⟩ := inB_true.1 h1
        obtain ⟨b3, b4⟩ := inB_true.1 h2
        obtain ⟨i', rfl⟩ := Int.eq_ofNat_of_zero_le b1
        obtain ⟨k', rfl⟩ := Int.eq_ofNat_of_zero_le b3
        have i1 : i' < n := by omega
        have k1 : k' < n := by omega
        have i2 : (i' : Int) < (n : Int) := by omega
        have k2 : (k' : Int) < (n : Int) := by omega
        obtain ⟨l1, l2, l3, l4⟩ := signs_prod h0 i1 k1
        have HR := Lib.hid (show rowProdI n L X i' k' = dot (L i') (X i') (X k') by simp [rowProdI, h0, h1, h2, l1])
        have HL := Lib.hid (And.intro l1 (And.intro l2 l4))
        clear l1 l2 l4
        obtain ⟨b, of, rfl, hci⟩ := h.at_ i1
        obtain ⟨b', of', hbo, hck⟩ := h.at_ k1
        simp only [Option.some.injEq, Addr.mk.injEq, and_true] at hbo
        obtain ⟨rfl, rfl⟩ := hbo
        have r1 := h.row i' i1
        have r2 := h.row k' k1
        go_enter Try.func49, Try.ntmps49
        go_wp2_with (first | (go_at_call 50; refine (impl_SignsOk _ _ _ _ _ _ _ _ h hn hT).mono ?_; rintro e w' ⟨rfl, rfl⟩) | (go_at_call 73; refine (impl_in _ _ _ _).mono ?_; rintro e w' ⟨rfl, rfl⟩))
        go_quiet ((go_at_call 78; exact quiet_drawn (impl_product _ _ _ _ _ _ _ _ _ (r1.ext (ext_of_drewN _ _)) (r2.ext (ext_of_drewN _ _)) (by have q := HL.out; omega) (by have q := HL.out; omega) (by have q := HL.out; omega) HL.out.2.2)))
        go_wp2
        go_ret
        exact ⟨ret_int HR.out.symm, (Drawn.refl _).drewN _⟩
end Go.Proofs.Ytefgdkjcoeikmaa
