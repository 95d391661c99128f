/- The contracts of determinants. No condition but those of each contract. -/
import Derived.Test.YtefgdkjcoeikmaaDet1
namespace Go.Proofs.Ytefgdkjcoeikmaa
open Go.ChangeShapes Go.WideShapes Go.ChangeAt Go.RowKit
set_option linter.unusedVariables false
set_option linter.unusedSimpArgs false

theorem sg_succ (k : Nat) : sg (k + 1) = -sg k := by unfold sg; split <;> split <;> omega
/-- a matrix of n rows and n columns with small entries -/
def Sq (n : Nat) (L : Nat → Nat) (X : Nat → Nat → Int) : Prop := n ≤ 4 ∧ (∀ r, r < n → L r = n) ∧ ∀ r c, r < n → c < n → -8 ≤ X r c ∧ X r c ≤ 8
theorem Sq.wo {n : Nat} {L : Nat → Nat} {X : Nat → Nat → Int} (h : Sq (n + 1) L X) (i k : Nat) : Sq n (fun _ => n) (wo X i k) := by
  refine ⟨by have := h.1; omega, fun _ _ => rfl, fun r c hr hc => ?_⟩
  unfold Go.Proofs.Ytefgdkjcoeikmaa.wo
  apply h.2.2
  · split <;> omega
  · split <;> omega
theorem Sq.det {n : Nat} {L : Nat → Nat} {X : Nat → Nat → Int} (h : Sq n L X) : -100000 ≤ detF n X ∧ detF n X ≤ 100000 := by
  have hb := detF_bound (n := n) (X := X) (fun i k hi hk => h.2.2 i k hi hk)
  have hn := h.1
  have : detB n ≤ 100000 := by
    match n, hn with
    | 0, _ => decide
    | 1, _ => decide
    | 2, _ => decide
    | 3, _ => decide
    | 4, _ => decide
  omega
/-- a term of the determinant by the first row -/
def detT (n : Nat) (X : Nat → Nat → Int) (k : Nat) : Int := sg k * X 0 k * detF n (wo X 0 k)
theorem detF_succ (n : Nat) (X : Nat → Nat → Int) : detF (n + 1) X = sumN (n + 1) (detT n X) := rfl
theorem Sq.term {n k : Nat} {L : Nat → Nat} {X : Nat → Nat → Int} (h : Sq (n + 1) L X) (hk : k < n + 1) : (-8 ≤ sg k * X 0 k ∧ sg k * X 0 k ≤ 8) ∧ (-800000 ≤ detT n X k ∧ detT n X k ≤ 800000) := by
  have h1 : -8 ≤ sg k * X 0 k ∧ sg k * X 0 k ≤ 8 := by
    have := h.2.2 0 k (by omega) hk
    rcases sg_cases k with e | e <;> rw [e] <;> omega
  have h2 := (h.wo 0 k).det
  have := mul_bound (A := 8) (B := 100000) h1 h2
  exact ⟨h1, by unfold detT; omega⟩
theorem Sq.sum {n k : Nat} {L : Nat → Nat} {X : Nat → Nat → Int} (h : Sq (n + 1) L X) (hk : k ≤ n + 1) : -8000000 ≤ sumN k (detT n X) ∧ sumN k (detT n X) ≤ 8000000 := by
  have := sumN_bound (n := k) (f := detT n X) (B := 800000) (fun i hi => (h.term (by omega)).2)
  have := h.1
  omega

set_option maxRecDepth 100000 in
set_option maxHeartbeats 6400000 in
theorem impl_determinant (n : Nat) : ∀ (a : Option Addr) (c : Nat) (A : Nat → Option Addr) (L C : Nat → Nat) (X : Nat → Nat → Int) (w : World), RowsAt w a n A L C X → Sq n L X →
    Calls Try.prog 72 #[.slice a n c] w fun e w' => e = .returned (.int .i64 (detF n X)) ∧ Ext w w' := by
  induction n with
  | zero =>
    intro a c A L C X w h hs
    go_enter Try.func72, Try.ntmps72
    go_wp2_with fail
    go_ret
    exact ⟨rfl, ext_refl _⟩
  | succ n ih =>
    intro a c A L C X w h hs
    have H := Lib.hid h
    have HS := Lib.hid hs
    have hn4 := hs.1
    clear h hs
    have hb0 : ((n : Int) + 1 == 0) = false := by simp; omega
    obtain ⟨ba, of, rfl, hc0⟩ := H.out.at_ (show 0 < n + 1 by omega)
    simp only [Nat.add_zero] at hc0
    have hr0 := H.out.row 0 (by omega)
    rw [HS.out.2.1 0 (by omega)] at hc0 hr0
    generalize A 0 = a0 at hc0 hr0
    have HR := Lib.hid hr0
    clear hr0
    go_enter Try.func72, Try.ntmps72
    go_wp2_with fail
    go_loopg [3, 4, 14] (n + 1) (fun g t s i wr => ∃ k : Nat, k ≤ n + 1 ∧ g = n + 1 - k ∧ t = .int .i64 (sumN k (detT n X)) ∧ s = .int .i64 (sg k) ∧ i = .int .i64 k ∧ Ext w wr)
    case atStart => exact ⟨0, Nat.zero_le _, rfl, rfl, rfl, rfl, ext_refl _⟩
    case round =>
      obtain ⟨k, hk, rfl, rfl, rfl, rfl, hx⟩ := hrel
      rcases Nat.lt_or_ge k (n + 1) with hlt | hge
      · obtain ⟨b0, of0, rfl, hck⟩ := HR.out.at_ hlt
        have hck' := ext_cell hx hck
        have hlt' : (k : Int) < (n : Int) + 1 := by omega
        obtain ⟨⟨t1, t2⟩, t3, t4⟩ := HS.out.term hlt
        obtain ⟨t5, t6⟩ := HS.out.sum (k := k) (by omega)
        have H1 := H.out.ext hx
        have HG := Lib.hid (sg_succ k)
        have hsg : -1 ≤ sg k ∧ sg k ≤ 1 := by rcases sg_cases k with e | e <;> omega
        obtain ⟨g1, g2⟩ := hsg
        clear hck hc0
        unfold detT at t3 t4
        go_wp2_with fail
        refine (impl_without _ n _ 0 k _ _ _ X _ H1 (by omega) HS.out.2.1 (by omega) (by omega)).mono ?_
        rintro e w1 ⟨p1, q1, A1, C1, rfl, hO1, hx1⟩
        go_wp2_with fail
        refine (ih _ _ _ _ _ _ _ hO1.rows (HS.out.wo 0 k)).mono ?_
        rintro e w2 ⟨rfl, hx2⟩
        go_wp2_with fail
        go_roundg (n + 1 - (k + 1))
        case measure => omega
        case rel => exact ⟨k + 1, by omega, rfl, rfl, by rw [HG.out], by go_num, ext_trans hx (ext_trans hx1 hx2)⟩
      · obtain rfl : k = n + 1 := by omega
        go_wp2_with fail
        go_ret
        exact ⟨rfl, hx⟩

set_option maxRecDepth 100000 in
set_option maxHeartbeats 6400000 in
theorem spec_l22Det (n : Nat) : ∀ (a : Option Addr) (c : Nat) (A : Nat → Option Addr) (L C : Nat → Nat) (X : Nat → Nat → Int) (w : World), RowsAt w a n A L C X → Sq n L X →
    Calls Try.prog 54 #[.slice a n c] w fun e w' => e = .returned (.int .i64 (detF n X)) ∧ Ext w w' := by
  induction n with
  | zero =>
    intro a c A L C X w h hs
    go_enter Try.func54, Try.ntmps54
    go_wp2_with fail
    go_ret
    exact ⟨rfl, ext_refl _⟩
  | succ n ih =>
    intro a c A L C X w h hs
    have H := Lib.hid h
    have HS := Lib.hid hs
    have hn4 := hs.1
    clear h hs
    have hb0 : ((n : Int) + 1 == 0) = false := by simp; omega
    obtain ⟨ba, of, rfl, hc0⟩ := H.out.at_ (show 0 < n + 1 by omega)
    simp only [Nat.add_zero] at hc0
    have hr0 := H.out.row 0 (by omega)
    rw [HS.out.2.1 0 (by omega)] at hc0 hr0
    generalize A 0 = a0 at hc0 hr0
    have HR := Lib.hid hr0
    clear hr0
    go_enter Try.func54, Try.ntmps54
    go_wp2_with fail
    go_loopg [3, 4, 5] (n + 1) (fun g t s i wr => ∃ k : Nat, k ≤ n + 1 ∧ g = n + 1 - k ∧ t = .int .i64 (sumN k (detT n X)) ∧ s = .int .i64 (sg k) ∧ i = .int .i64 k ∧ Ext w wr)
    case atStart => exact ⟨0, Nat.zero_le _, rfl, rfl, rfl, rfl, ext_refl _⟩
    case round =>
      obtain ⟨k, hk, rfl, rfl, rfl, rfl, hx⟩ := hrel
      rcases Nat.lt_or_ge k (n + 1) with hlt | hge
      · obtain ⟨b0, of0, rfl, hck⟩ := HR.out.at_ hlt
        have hcz := ext_cell hx hc0
        have hck' := ext_cell hx hck
        have hlt' : (k : Int) < (n : Int) + 1 := by omega
        have h0' : (0 : Int) < (n : Int) + 1 := by omega
        obtain ⟨⟨t1, t2⟩, t3, t4⟩ := HS.out.term hlt
        obtain ⟨t5, t6⟩ := HS.out.sum (k := k) (by omega)
        have H1 := H.out.ext hx
        have HG := Lib.hid (sg_succ k)
        have hsg : -1 ≤ sg k ∧ sg k ≤ 1 := by rcases sg_cases k with e | e <;> omega
        obtain ⟨g1, g2⟩ := hsg
        by_cases e : X 0 k = 0
        · have hb : (X 0 k != 0) = false := by simp [e]
          have HZ := Lib.hid (show sumN (k + 1) (detT n X) = sumN k (detT n X) by simp [sumN, detT, e])
          clear e
          go_wp2_with fail
          go_roundg (n + 1 - (k + 1))
          case measure => omega
          case rel => exact ⟨k + 1, by omega, rfl, by rw [HZ.out], by rw [HG.out], by go_num, hx⟩
        · have hb : (X 0 k != 0) = true := by simp [e]
          unfold detT at t3 t4
          have W1 : IntKind.i64.wrap (sg k * X 0 k) = sg k * X 0 k := wrapI (by omega) (by omega)
          have W2 : IntKind.i64.wrap (sg k * X 0 k * detF n (wo X 0 k)) = sg k * X 0 k * detF n (wo X 0 k) := wrapI (by omega) (by omega)
          have W3 : IntKind.i64.wrap (sumN k (detT n X) + sg k * X 0 k * detF n (wo X 0 k)) = sumN k (detT n X) + sg k * X 0 k * detF n (wo X 0 k) := wrapI (by omega) (by omega)
          clear e
          go_wp2_with fail
          go_region_law (first
            | (go_simp
               go_at_call 87
               refine (spec_l22Without _ n _ 0 k _ _ _ X _ (H1.ext (ext_drew (ext_refl _))) (by omega) HS.out.2.1 (by omega) (by omega)).mono ?_
               rintro e w1 ⟨p1, q1, A1, C1, rfl, hO1, hx1⟩
               have y1 := ext_cell (ext_trans hx (ext_trans (ext_drew (ext_refl _)) hx1)) hc0
               have y2 := ext_cell (ext_trans hx (ext_trans (ext_drew (ext_refl _)) hx1)) hck)
            | (go_simp
               go_at_call 54
               refine (ih _ _ _ _ _ _ _ hO1.rows (HS.out.wo 0 k)).mono ?_
               rintro e w2 ⟨rfl, hx2⟩
               have z1 := ext_cell (ext_trans hx (ext_trans (ext_drew (ext_refl _)) (ext_trans hx1 hx2))) hc0
               have z2 := ext_cell (ext_trans hx (ext_trans (ext_drew (ext_refl _)) (ext_trans hx1 hx2))) hck))
          all_goals
            go_wp2_with fail
            go_roundg (n + 1 - (k + 1))
            case measure => omega
            case rel => exact ⟨k + 1, by omega, rfl, rfl, by rw [HG.out], by go_num, ext_trans hx (ext_trans (ext_drew (ext_refl _)) (ext_trans hx1 hx2))⟩
      · obtain rfl : k = n + 1 := by omega
        go_wp2_with fail
        go_ret
        exact ⟨rfl, hx⟩

/-! ### the determinant, and minors -/
theorem sq_of {n : Nat} {L : Nat → Nat} {X : Nat → Nat → Int} (h : squareOkB n L X = true) : Sq n L X := by
  obtain ⟨⟨h1, h2⟩, h3⟩ := square_iff.1 h
  exact ⟨h2, fun r hr => (h3 r hr).1, fun r c hr hc => (h3 r hr).2 c (by rw [(h3 r hr).1]; exact hc)⟩
def detOfI (n : Nat) (L : Nat → Nat) (X : Nat → Nat → Int) : Int := if squareOkB n L X then detF n X else 0
def minorI (n : Nat) (L : Nat → Nat) (X : Nat → Nat → Int) (i k : Int) : Int := if squareOkB n L X && (inB i 0 ((n : Int) - 1) && inB k 0 ((n : Int) - 1)) then detF (n - 1) (wo X i.toNat k.toNat) else 0

set_option maxHeartbeats 1600000 in
theorem impl_DeterminantOf (a : Option Addr) (n c : Nat) (A : Nat → Option Addr) (L C : Nat → Nat) (X : Nat → Nat → Int) (w : World) (h : RowsAt w a n A L C X) (hn : n ≤ 1048576) (hT : off L n ≤ 1048576) :
    Calls Try.prog 33 #[.slice a n c] w fun e w' => e = .returned (.int .i64 (detOfI n L X)) ∧ Ext w w' := by
  cases h0 : squareOkB n L X
  · go_enter Try.func33, Try.ntmps33
    go_wp2_with (go_at_call 39; refine (impl_SquareOk _ _ _ _ _ _ _ _ h hn hT).mono ?_; rintro e w' ⟨rfl, rfl⟩)
    go_ret
    exact ⟨ret_int (by simp [detOfI, h0]), ext_refl _⟩
  · have HS := Lib.hid (sq_of h0)
    have HR := Lib.hid (show detOfI n L X = detF n X by simp [detOfI, h0])
    go_enter Try.func33, Try.ntmps33
    go_wp2_with (first | (go_at_call 39; refine (impl_SquareOk _ _ _ _ _ _ _ _ h hn hT).mono ?_; rintro e w' ⟨rfl, rfl⟩) | (go_at_call 72; refine (impl_determinant _ _ _ _ _ _ _ _ h HS.out).mono ?_; rintro e w1 ⟨rfl, hx⟩))
    go_ret
    exact ⟨ret_int HR.out.symm, hx⟩
set_option maxHeartbeats 1600000 in
theorem impl_MinorOf (a : Option Addr) (n c : Nat) (A : Nat → Option Addr) (L C : Nat → Nat) (X : Nat → Nat → Int) (i k : Int) (w : World) (h : RowsAt w a n A L C X) (hn : n ≤ 1048576) (hT : off L n ≤ 1048576) :
    Calls Try.prog 34 #[.slice a n c, .int .i64 i, .int .i64 k] w fun e w' => e = .returned (.int .i64 (minorI n L X i k)) ∧ Ext w w' := by
  cases h0 : squareOkB n L X
  · go_enter Try.func34, Try.ntmps34
    go_wp2_with (go_at_call 39; refine (impl_SquareOk _ _ _ _ _ _ _ _ h hn hT).mono ?_; rintro e w' ⟨rfl, rfl⟩)
    go_ret
    exact ⟨ret_int (by simp [minorI, h0]), ext_refl _⟩
  · obtain ⟨⟨n1, n2⟩, _⟩ := square_iff.1 h0
    cases h1 : inB i 0 ((n : Int) - 1)
    · go_enter Try.func34, Try.ntmps34
      go_wp2_with (first | (go_at_call 39; refine (impl_SquareOk _ _ _ _ _ _ _ _ h hn hT).mono ?_; rintro e w' ⟨rfl, rfl⟩) | (go_at_call 73; refine (impl_in _ _ _ _).mono ?_; rintro e w' ⟨rfl, rfl⟩))
      go_ret
      exact ⟨ret_int (by simp [minorI, h1]), ext_refl _⟩
    · cases h2 : inB k 0 ((n : Int) - 1)
      · go_enter Try.func34, Try.ntmps34
        go_wp2_with (first | (go_at_call 39; refine (impl_SquareOk _ _ _ _ _ _ _ _ h hn hT).mono ?_; rintro e w' ⟨rfl, rfl⟩) | (go_at_call 73; refine (impl_in _ _ _ _).mono ?_; rintro e w' ⟨rfl, rfl⟩))
        go_ret
        exact ⟨ret_int (by simp [minorI, h2]), ext_refl _⟩
      · obtain ⟨b1, b2⟩ := inB_true.1 h1
        obtain ⟨b3, b4⟩ := inB_true.1 h2
        obtain ⟨i', rfl⟩ := Int.eq_ofNat_of_zero_le b1
        obtain ⟨k', rfl⟩ := Int.eq_ofNat_of_zero_le b3
        obtain ⟨n', rfl⟩ : ∃ n', n = n' + 1 := ⟨n - 1, by omega⟩
        have i1 : i' ≤ n' := by omega
        have k1 : k' ≤ n' := by omega
        have h1' : inB (i' : Int) 0 (n' : Int) = true := inB_true.2 ⟨by omega, by omega⟩
        have h2' : inB (k' : Int) 0 (n' : Int) = true := inB_true.2 ⟨by omega, by omega⟩
        have HS := Lib.hid (sq_of h0)
        have HR := Lib.hid (show minorI (n' + 1) L X i' k' = detF n' (wo X i' k') by unfold minorI; rw [h0, h1, h2]; simp)
        go_enter Try.func34, Try.ntmps34
        go_wp2_with (first
          | (go_at_call 39; refine (impl_SquareOk _ _ _ _ _ _ _ _ h hn hT).mono ?_; rintro e w' ⟨rfl, rfl⟩)
          | (go_at_call 73; refine (impl_in _ _ _ _).mono ?_; rintro e w' ⟨rfl, rfl⟩)
          | (go_at_call 74; refine (impl_without _ n' _ i' k' _ _ _ X _ h (by omega) HS.out.2.1 i1 k1).mono ?_; rintro e w1 ⟨p1, q1, A1, C1, rfl, hO1, hx1⟩)
          | (go_at_call 72; refine (impl_determinant _ _ _ _ _ _ _ _ hO1.rows (HS.out.wo i' k')).mono ?_; rintro e w2 ⟨rfl, hx2⟩))
        go_ret
        exact ⟨ret_int HR.out.symm, ext_trans hx1 hx2⟩
end Go.Proofs.Ytefgdkjcoeikmaa
