/- The contracts of the adjugate and of determined designs. No condition but those of each contract. -/
import Derived.Test.YtefgdkjcoeikmaaDet2
import Derived.Test.YtefgdkjcoeikmaaMat9
namespace Go.Proofs.Ytefgdkjcoeikmaa
open Go.ChangeShapes Go.WideShapes Go.ChangeAt Go.RowKit
set_option linter.unusedVariables false
set_option linter.unusedSimpArgs false

theorem minor_at {n : Nat} {L : Nat → Nat} {X : Nat → Nat → Int} (h : squareOkB n L X = true) {i k : Nat} (hi : i < n) (hk : k < n) : minorI n L X i k = detF (n - 1) (wo X i k) ∧ -100000 ≤ detF (n - 1) (wo X i k) ∧ detF (n - 1) (wo X i k) ≤ 100000 := by
  obtain ⟨n', rfl⟩ : ∃ n', n = n' + 1 := ⟨n - 1, by omega⟩
  refine ⟨?_, ((sq_of h).wo i k).det⟩
  unfold minorI
  rw [h, inB_true.2 ⟨by omega, by omega⟩, inB_true.2 ⟨by omega, by omega⟩]; simp
theorem adj_odd {n : Nat} {X : Nat → Nat → Int} {i k : Nat} (h : (i + k) % 2 = 1) : adjF n X i k = -detF (n - 1) (wo X k i) := by simp [adjF, sg, h]
theorem adj_even {n : Nat} {X : Nat → Nat → Int} {i k : Nat} (h : ¬ (i + k) % 2 = 1) : adjF n X i k = detF (n - 1) (wo X k i) := by simp [adjF, sg, h]

set_option maxHeartbeats 6400000 in
theorem impl_AdjugateOf (a : Option Addr) (n c : Nat) (A : Nat → Option Addr) (L C : Nat → Nat) (X : Nat → Nat → Int) (w : World) (h : RowsAt w a n A L C X) (hn : n ≤ 1048576) (hT : off L n ≤ 1048576) :
    Calls Try.prog 32 #[.slice a n c] w (OrNilR w (squareOkB n L X) n (fun _ => n) (adjF n X)) := by
  have H := Lib.hid h
  cases h0 : squareOkB n L X
  · go_enter Try.func32, Try.ntmps32
    go_wp2_with (go_at_call 39; refine (impl_SquareOk _ _ _ _ _ _ _ _ h hn hT).mono ?_; rintro e w' ⟨rfl, rfl⟩)
    go_ret
    exact OrNilR.no ⟨rfl, ext_refl _⟩ (by first | rfl | exact h0)
  · have HR := Lib.hid h0
    obtain ⟨⟨n1, n2⟩, _⟩ := square_iff.1 h0
    go_enter Try.func32, Try.ntmps32
    go_wp2_with (go_at_call 39; refine (impl_SquareOk _ _ _ _ _ _ _ _ h hn hT).mono ?_; rintro e w' ⟨rfl, rfl⟩)
    clear h h0
    go_loopg [3, 13] n (fun g o i wr => ∃ (k : Nat) (q : Option Addr) (cc : Nat) (A' : Nat → Option Addr) (C' : Nat → Nat), k ≤ n ∧ g = n - k ∧ i = .int .i64 k ∧ o = .slice q k cc ∧ OR wr w.heap.size wr.heap.size (.slice q k cc) k A' (fun _ => n) C' (adjF n X) ∧ Ext w wr)
    case atStart => exact ⟨0, none, 0, fun _ => none, fun _ => 0, Nat.zero_le _, rfl, rfl, rfl, OR.nil _ _ _ _ _ _ _, ext_refl _⟩
    case round =>
      obtain ⟨k, q, cc, A', C', hk, rfl, rfl, rfl, hO, hx⟩ := hrel
      obtain ⟨wo_, rfl⟩ : ∃ wo_ : World, wo_ = wr := ⟨_, rfl⟩
      rcases Nat.lt_or_ge k n with hlt | hge
      · have hlt' : (k : Int) < (n : Int) := by omega
        have hszo := ext_size hx
        go_wp2_with fail
        go_loopg [5, 18] n (fun g o i wr => ∃ (j : Nat) (q2 : Option Addr) (cc2 : Nat), j ≤ n ∧ g = n - j ∧ i = .int .i64 j ∧ o = .slice q2 j cc2 ∧ OI wr wo_.heap.size wr.heap.size (.slice q2 j cc2) j (adjF n X k) ∧ Ext wo_ wr)
        case atStart => exact ⟨0, none, 0, Nat.zero_le _, rfl, rfl, rfl, OI.nil _ _ _ _, ext_refl _⟩
        case round =>
          obtain ⟨j, q2, cc2, hj, rfl, rfl, rfl, hI, hx2⟩ := hrel
          have hxr := ext_trans hx hx2
          have hsz2 := ext_size hx2
          rcases Nat.lt_or_ge j n with jlt | jge
          · have jlt' : (j : Int) < (n : Int) := by omega
            have H1 := H.out.ext hxr
            obtain ⟨m1, m2, m3⟩ := minor_at HR.out jlt hlt
            have HM := Lib.hid m1
            rw [← m1] at m2 m3
            clear m1
            by_cases e : (k + j) % 2 = 1
            · have hb : (((k : Int) + (j : Int)) % 2 == 1) = true := by simp; omega
              have HA := Lib.hid (show adjF n X k j = -minorI n L X j k by rw [adj_odd e, HM.out])
              clear e
              go_wp2_with fail
              refine (impl_MinorOf _ _ _ _ _ _ _ _ _ _ H1 hn hT).mono ?_
              rintro e w1 ⟨rfl, hx3⟩
              have hI1 := hI.ext hx3
              have hsz3 := ext_size hx3
              go_wp2_with (at_builtin; refine wpList_push_int rfl _ _ 23 rfl Try.underlying23 info_int _ wo_.heap.size j (adjF n X k) (-minorI n L X j k) _ _ _ rfl (hI1.ext (ext_alloc (ext_refl _) _)) ⟨w1.heap.size, 0, none⟩ 1 rfl (cell_new1 _ _ _) HA.out (by omega) (by simp; omega) ?_; intro g' c' w4 hO4 hb4)
              go_roundg (n - (j + 1))
              case measure => omega
              case rel => exact ⟨j + 1, some ⟨g', 0, none⟩, c', by omega, rfl, by go_num, rfl, hO4, Below.trans (ext_alloc (ext_trans hx2 hx3) _) hb4⟩
            · have hb : (((k : Int) + (j : Int)) % 2 == 1) = false := by simp; omega
              have HA := Lib.hid (show adjF n X k j = minorI n L X j k by rw [adj_even e, HM.out])
              clear e
              go_wp2_with fail
              refine (impl_MinorOf _ _ _ _ _ _ _ _ _ _ H1 hn hT).mono ?_
              rintro e w1 ⟨rfl, hx3⟩
              have hI1 := hI.ext hx3
              have hsz3 := ext_size hx3
              go_wp2_with (at_builtin; refine wpList_push_int rfl _ _ 23 rfl Try.underlying23 info_int _ wo_.heap.size j (adjF n X k) (minorI n L X j k) _ _ _ rfl (hI1.ext (ext_alloc (ext_refl _) _)) ⟨w1.heap.size, 0, none⟩ 1 rfl (cell_new1 _ _ _) HA.out (by omega) (by simp; omega) ?_; intro g' c' w4 hO4 hb4)
              go_roundg (n - (j + 1))
              case measure => omega
              case rel => exact ⟨j + 1, some ⟨g', 0, none⟩, c', by omega, rfl, by go_num, rfl, hO4, Below.trans (ext_alloc (ext_trans hx2 hx3) _) hb4⟩
          · obtain rfl : j = n := by omega
            go_wp2_with (at_builtin; refine wpList_push_row rfl _ _ 22 rfl Try.underlying22 info_ints _ w.heap.size wo_.heap.size k A' (fun _ => j) C' (adjF j X) q2 cc2 _ _ _ rfl ((hO.ext hx2).ext (ext_alloc (ext_refl _) _)) (hI.ext (ext_alloc (ext_refl _) _)) ⟨wr.heap.size, 0, none⟩ 1 rfl (cell_new1 _ _ _) (by omega) (by omega) (by simp; omega) ?_; intro g' c' A'' C'' w2 hO2 hb2)
            go_roundg (j - (k + 1))
            case measure => omega
            case rel => exact ⟨k + 1, some ⟨g', 0, none⟩, c', A'', C'', by omega, rfl, by go_num, rfl, hO2, Below.trans (ext_alloc hxr _) hb2⟩
      · obtain rfl : k = n := by omega
        go_wp2
        go_ret
        exact OrNilR.yes ⟨_, _, _, _, rfl, hO, hx⟩ (by first | rfl | exact HR.out)

/-! ### determined designs -/
def gdet (n : Nat) (L : Nat → Nat) (X : Nat → Nat → Int) : Int := detF (L 0) (gramF n X)
def isDetB (n : Nat) (L : Nat → Nat) (X : Nat → Nat → Int) : Bool := designOkB n L X && (gdet n L X != 0)
theorem gram_sq {n : Nat} {L : Nat → Nat} {X : Nat → Nat → Int} (h : designOkB n L X = true) : Sq (L 0) (fun _ => L 0) (gramF n X) := by
  obtain ⟨⟨h1, h2⟩, ⟨h3, h4⟩, h5⟩ := design_iff.1 h
  refine ⟨h4, fun _ _ => rfl, fun i k hi hk => ?_⟩
  have := dot_bound (n := n) (X := fun r => X r i) (Y := fun r => X r k) (M := 1) (design_prod h hi hk)
  unfold gramF; omega
theorem gram_square {n : Nat} {L : Nat → Nat} {X : Nat → Nat → Int} (h : designOkB n L X = true) : squareOkB (L 0) (fun _ => L 0) (gramF n X) = true := by
  obtain ⟨⟨h1, h2⟩, ⟨h3, h4⟩, h5⟩ := design_iff.1 h
  exact square_iff.2 ⟨⟨h3, h4⟩, fun i hi => ⟨rfl, fun j hj => (gram_sq h).2.2 i j hi hj⟩⟩
theorem off_const_small {k : Nat} (h : k ≤ 8) : off (fun _ => k) k ≤ 1048576 := by
  rw [off_const]; have := Nat.mul_le_mul h h; omega

set_option maxHeartbeats 1600000 in
theorem impl_IsDetermined (a : Option Addr) (n c : Nat) (A : Nat → Option Addr) (L C : Nat → Nat) (X : Nat → Nat → Int) (w : World) (h : RowsAt w a n A L C X) (hn : n ≤ 1048576) (hT : off L n ≤ 1048576) :
    Calls Try.prog 37 #[.slice a n c] w fun e w' => e = .returned (.bool (isDetB n L X)) ∧ Ext w w' := by
  cases h0 : designOkB n L X
  · go_enter Try.func37, Try.ntmps37
    go_wp2_with (go_at_call 41; refine (impl_DesignOk _ _ _ _ _ _ _ _ h hn hT).mono ?_; rintro e w' ⟨rfl, rfl⟩)
    go_ret
    exact ⟨ret_bool (by simp [isDetB, h0]), ext_refl _⟩
  · obtain ⟨_, ⟨m1, m2⟩, _⟩ := design_iff.1 h0
    have HS := Lib.hid (gram_square h0)
    have HR := Lib.hid (show (detOfI (L 0) (fun _ => L 0) (gramF n X) != 0) = isDetB n L X by simp [isDetB, h0, gdet, detOfI, gram_square h0])
    go_enter Try.func37, Try.ntmps37
    go_wp2_with (first
      | (go_at_call 41; refine (impl_DesignOk _ _ _ _ _ _ _ _ h hn hT).mono ?_; rintro e w' ⟨rfl, rfl⟩)
      | (go_at_call 40; refine ((impl_GramOf _ _ _ _ _ _ _ _ h hn hT).mono fun _ _ q => q.1 h0).mono ?_; rintro e w1 ⟨p1, q1, A1, C1, rfl, hO1, hx1⟩)
      | (go_at_call 33; refine (impl_DeterminantOf _ _ _ _ _ _ _ _ hO1.rows (by omega) (off_const_small (by omega))).mono ?_; rintro e w2 ⟨rfl, hx2⟩))
    go_ret
    exact ⟨ret_bool HR.out, ext_trans hx1 hx2⟩
set_option maxHeartbeats 1600000 in
theorem spec_IsDetermined (a : Option Addr) (n c : Nat) (A : Nat → Option Addr) (L C : Nat → Nat) (X : Nat → Nat → Int) (w : World) (h : RowsAt w a n A L C X) (hn : n ≤ 1048576) (hT : off L n ≤ 1048576) :
    Calls Try.prog 86 #[.slice a n c] w fun e w' => e = .returned (.bool (isDetB n L X)) ∧ Ext w w' := by
  cases h0 : designOkB n L X
  · go_enter Try.func86, Try.ntmps86
    go_wp2_with (go_at_call 62; refine (spec_DesignOk _ _ _ _ _ _ _ _ h hn hT).mono ?_; rintro e w' ⟨rfl, hd⟩)
    go_ret
    exact ⟨ret_bool (by simp [isDetB, h0]), hd.ext⟩
  · have HS := Lib.hid (gram_sq h0)
    have HR := Lib.hid (show (detF (L 0) (gramF n X) != 0) = isDetB n L X by simp [isDetB, h0, gdet])
    go_enter Try.func86, Try.ntmps86
    go_wp2_with (first
      | (go_at_call 62; refine (spec_DesignOk _ _ _ _ _ _ _ _ h hn hT).mono ?_; rintro e w0 ⟨rfl, hd⟩; have h1 := h.ext hd.ext)
      | (go_at_call 55; refine ((spec_GramOf _ _ _ _ _ _ _ _ h1 hn hT).mono fun _ _ q => q.yes h0).mono ?_; rintro e w1 ⟨p1, q1, A1, C1, rfl, hO1, hx1⟩)
      | (go_at_call 54; refine (spec_l22Det _ _ _ _ _ _ _ _ hO1.rows HS.out).mono ?_; rintro e w2 ⟨rfl, hx2⟩))
    go_ret
    exact ⟨ret_bool HR.out, ext_trans hd.ext (ext_trans hx1 hx2)⟩
end Go.Proofs.Ytefgdkjcoeikmaa
