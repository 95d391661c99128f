/- The contracts of the functions on fractions. No condition but the ranges that each contract names. -/
import Derived.Test.YtefgdkjcoeikmaaScal
namespace Go.Proofs.Ytefgdkjcoeikmaa
open Go.ChangeShapes Go.WideShapes Go.ChangeAt Go.RowKit
set_option linter.unusedVariables false

theorem gcd_abs (a b : Int) : Nat.gcd a.natAbs b.natAbs = Int.gcd a b := rfl
theorem gcd_step (x y : Nat) : Nat.gcd y (x % y) = Nat.gcd x y := by rw [Nat.gcd_comm, ← Nat.gcd_rec, Nat.gcd_comm]

set_option maxHeartbeats 800000 in
theorem impl_gcd (a b : Int) (w : World) (a1 : -4611686018427387904 ≤ a) (a2 : a ≤ 4611686018427387904) (b1 : -4611686018427387904 ≤ b) (b2 : b ≤ 4611686018427387904) :
    Calls Try.prog 93 #[.int .i64 a, .int .i64 b] w fun e w' => e = .returned (.int .i64 (Int.gcd a b)) ∧ ∃ m, w' = w.drewN m := by
  have HG : Hid (Nat.gcd a.natAbs b.natAbs = Int.gcd a b) := rfl
  by_cases ha : a < 0 <;> by_cases hb : b < 0
  all_goals
    go_enter Try.func93, Try.ntmps93
    go_wp2
    go_loopw [0, 1] (fun s0 s1 wr => ∃ x y m : Nat, x ≤ 4611686018427387904 ∧ y ≤ 4611686018427387904 ∧ s0 = .int .i64 x ∧ s1 = .int .i64 y ∧ Nat.gcd x y = Int.gcd a b ∧ wr = w.drewN m) (fun _ s1 _ => (intOf s1).toNat)
    case atStart =>
      refine ⟨a.natAbs, b.natAbs, 0, by omega, by omega, ?_, ?_, HG.out, rfl⟩
      · congr 1; omega
      · congr 1; omega
    case round =>
      obtain ⟨x, y, m, hx, hy, rfl, rfl, hg, rfl⟩ := hrel
      have HGG := Lib.hid hg
      clear hg
      by_cases h0 : y = 0
      · subst h0
        go_wp2
        go_ret
        exact ⟨ret_int (by have := HGG.out; rw [Nat.gcd_zero_right] at this; rw [this]), m, rfl⟩
      · have hm : x % y < y := Nat.mod_lt _ (by omega)
        have hne : ((y : Int) != 0) = true := by simpa using h0
        have hy0 : (1 : Int) ≤ y := by omega
        go_wp2
        go_quiet (fail)
        go_wp2
        go_roundw
        case rel => exact ⟨y, x % y, m + nq, by omega, by omega, rfl, rfl, by rw [gcd_step]; exact HGG.out, by rw [World.drewN_drewN]⟩
        case measure => simp only [intOf]; omega
set_option maxHeartbeats 800000 in
theorem spec_gcd (a b : Int) (w : World) (a1 : -4611686018427387904 ≤ a) (a2 : a ≤ 4611686018427387904) (b1 : -4611686018427387904 ≤ b) (b2 : b ≤ 4611686018427387904) :
    Calls Try.prog 89 #[.int .i64 a, .int .i64 b] w fun e w' => e = .returned (.int .i64 (Int.gcd a b)) ∧ ∃ m, w' = w.drewN m := by
  have HG : Hid (Nat.gcd a.natAbs b.natAbs = Int.gcd a b) := rfl
  by_cases ha : a < -a <;> by_cases hb : b < -b
  all_goals
    go_enter Try.func89, Try.ntmps89
    go_wp2
    go_loopw [0, 1] (fun s0 s1 wr => ∃ x y m : Nat, x ≤ 4611686018427387904 ∧ y ≤ 4611686018427387904 ∧ s0 = .int .i64 x ∧ s1 = .int .i64 y ∧ Nat.gcd x y = Int.gcd a b ∧ wr = w.drewN m) (fun _ s1 _ => (intOf s1).toNat)
    case atStart =>
      refine ⟨a.natAbs, b.natAbs, 0, by omega, by omega, ?_, ?_, HG.out, rfl⟩
      · congr 1; omega
      · congr 1; omega
    case round =>
      obtain ⟨x, y, m, hx, hy, rfl, rfl, hg, rfl⟩ := hrel
      have HGG := Lib.hid hg
      clear hg
      by_cases h0 : y = 0
      · subst h0
        go_wp2
        go_ret
        exact ⟨ret_int (by have := HGG.out; rw [Nat.gcd_zero_right] at this; rw [this]), m, rfl⟩
      · have hm : x % y < y := Nat.mod_lt _ (by omega)
        have hne : ((y : Int) != 0) = true := by simpa using h0
        have hy0 : (1 : Int) ≤ y := by omega
        go_wp2
        go_quiet (fail)
        go_wp2
        go_roundw
        case rel => exact ⟨y, x % y, m + nq, by omega, by omega, rfl, rfl, by rw [gcd_step]; exact HGG.out, by rw [World.drewN_drewN]⟩
        case measure => simp only [intOf]; omega

set_option maxHeartbeats 800000 in
theorem impl_FractionOk (t b : Int) (w : World) :
    Calls Try.prog 66 #[.agg #[.int .i64 t, .int .i64 b]] w fun e w' => e = .returned (.bool (fracOk t b)) ∧ Ext w w' := by
  cases h1 : inB t (-1000000) 1000000
  · go_enter Try.func66, Try.ntmps66
    go_wp2_with (go_at_call 73; refine (impl_in _ _ _ _).mono ?_; rintro e w' ⟨rfl, rfl⟩)
    go_ret
    exact ⟨by simp [fracOk, h1], ext_alloc (ext_refl _) _⟩
  · cases h2 : inB b 1 1000000
    · go_enter Try.func66, Try.ntmps66
      go_wp2_with (go_at_call 73; refine (impl_in _ _ _ _).mono ?_; rintro e w' ⟨rfl, rfl⟩)
      go_ret
      exact ⟨by simp [fracOk, h1, h2], ext_alloc (ext_refl _) _⟩
    · obtain ⟨c1, c2⟩ := inB_true.1 h1
      obtain ⟨c3, c4⟩ := inB_true.1 h2
      have HF : Hid (fracOk t b = ((Int.gcd t b : Int) == 1)) := by
        unfold Hid fracOk
        rw [h1, h2]
        simp only [Bool.true_and]
        rfl
      go_enter Try.func66, Try.ntmps66
      go_wp2_with (first
        | (go_at_call 73; refine (impl_in _ _ _ _).mono ?_; rintro e w' ⟨rfl, rfl⟩)
        | (go_at_call 93; refine (impl_gcd _ _ _ (by omega) (by omega) (by omega) (by omega)).mono ?_; rintro e w' ⟨rfl, m, rfl⟩))
      go_ret
      exact ⟨ret_bool HF.out.symm, ext_drewN (ext_alloc (ext_refl _) _) _⟩

set_option maxHeartbeats 800000 in
theorem spec_FractionOk (t b : Int) (w : World) :
    Calls Try.prog 90 #[.agg #[.int .i64 t, .int .i64 b]] w fun e w' => e = .returned (.bool (fracOk t b)) ∧ Ext w w' := by
  cases h1 : inB t (-1000000) 1000000
  · go_enter Try.func90, Try.ntmps90
    go_wp2_with (go_at_call 85; refine (spec_in _ _ _ _).mono ?_; rintro e w' ⟨rfl, rfl⟩)
    go_ret
    exact ⟨by simp [fracOk, h1], ext_alloc (ext_refl _) _⟩
  · cases h2 : inB b 1 1000000
    · go_enter Try.func90, Try.ntmps90
      go_wp2_with (go_at_call 85; refine (spec_in _ _ _ _).mono ?_; rintro e w' ⟨rfl, rfl⟩)
      go_ret
      exact ⟨by simp [fracOk, h1, h2], ext_alloc (ext_refl _) _⟩
    · obtain ⟨c1, c2⟩ := inB_true.1 h1
      obtain ⟨c3, c4⟩ := inB_true.1 h2
      have HF : Hid (fracOk t b = ((Int.gcd t b : Int) == 1)) := by
        unfold Hid fracOk
        rw [h1, h2]
        simp only [Bool.true_and]
        rfl
      go_enter Try.func90, Try.ntmps90
      go_wp2_with (first
        | (go_at_call 85; refine (spec_in _ _ _ _).mono ?_; rintro e w' ⟨rfl, rfl⟩)
        | (go_at_call 89; refine (spec_gcd _ _ _ (by omega) (by omega) (by omega) (by omega)).mono ?_; rintro e w' ⟨rfl, m, rfl⟩))
      go_ret
      exact ⟨ret_bool HF.out.symm, ext_drewN (ext_alloc (ext_refl _) _) _⟩
theorem tdiv_bound {t g : Int} {M : Int} (hg : 0 < g) (h1 : -M ≤ t) (h2 : t ≤ M) : -M ≤ t.tdiv g ∧ t.tdiv g ≤ M := by
  have e := Int.natAbs_tdiv t g
  have l : t.natAbs.div g.natAbs ≤ t.natAbs := Nat.div_le_self t.natAbs g.natAbs
  rw [← e] at l
  omega
theorem gcd_le {t b : Int} (hb : b ≠ 0) : (Int.gcd t b : Int) ≤ b.natAbs := by
  have := Nat.le_of_dvd (by omega) (Nat.gcd_dvd_right t.natAbs b.natAbs)
  have e : Int.gcd t b = Nat.gcd t.natAbs b.natAbs := rfl
  omega

set_option maxHeartbeats 1600000 in
theorem impl_reduced (t b : Int) (w : World) (hb : b ≠ 0) (a1 : -4611686018427387904 ≤ t) (a2 : t ≤ 4611686018427387904) (b1 : -4611686018427387904 ≤ b) (b2 : b ≤ 4611686018427387904) :
    Calls Try.prog 70 #[.int .i64 t, .int .i64 b] w fun e w' => e = .returned (.tuple #[.agg #[.int .i64 (redT t b), .int .i64 (redB t b)], .bool (redOk t b)]) ∧ Ext w w' := by
  have hg := gcd_pos (t := t) hb
  have hg2 := gcd_le (t := t) hb
  obtain ⟨t1, t2⟩ := tdiv_bound hg a1 a2
  obtain ⟨t3, t4⟩ := tdiv_bound hg b1 b2
  have hg3 : (Int.gcd t b : Int) ≤ 4611686018427387904 := by omega
  clear hg2
  by_cases hneg : b < 0
  · have N1 : Hid (nt t b = (- t.tdiv (Int.gcd t b))) := by unfold Hid nt; rw [if_pos hneg, Int.neg_tdiv]
    have N2 : Hid (nb t b = (- b.tdiv (Int.gcd t b))) := by unfold Hid nb; rw [if_pos hneg, Int.neg_tdiv]
    cases hr : fracOk (- t.tdiv (Int.gcd t b)) (- b.tdiv (Int.gcd t b))
    · have HR : Hid (redOk t b = false) := by unfold Hid redOk; rw [N1.out, N2.out]; exact hr
      go_enter Try.func70, Try.ntmps70
      go_wp2_with (go_at_call 93; refine (impl_gcd _ _ _ (by omega) (by omega) (by omega) (by omega)).mono ?_; rintro e w' ⟨rfl, m, rfl⟩)
      go_region
      go_wp2_with (go_at_call 66; refine (impl_FractionOk _ _ _).mono ?_; rintro e w1 ⟨rfl, hx⟩; obtain ⟨hc, hf⟩ := bcell hx)
      have c0 := ext_cell hx (b := w.heap.size) (off := 0) (v := .int .i64 0) (by go_simp)
      have c1 := ext_cell hx (b := w.heap.size) (off := 1) (v := .int .i64 0) (by go_simp)
      exact bodyPost_ret (v := .tuple #[.agg #[.int .i64 0, .int .i64 0], .bool false]) (by simp [results, Try.results70, go_sem, c0, c1]) rfl
        ⟨by rw [redT, redB, HR.out]; first | rfl | (rw [if_pos rfl, if_pos rfl, N1.out, N2.out]), ext_setCell (ext_setCell (ext_trans (ext_alloc (ext_drewN (ext_alloc (ext_refl _) _) _) _) hx) (Nat.le_refl _) _) (Nat.le_refl _) _⟩
    · have HR : Hid (redOk t b = true) := by unfold Hid redOk; rw [N1.out, N2.out]; exact hr
      go_enter Try.func70, Try.ntmps70
      go_wp2_with (go_at_call 93; refine (impl_gcd _ _ _ (by omega) (by omega) (by omega) (by omega)).mono ?_; rintro e w' ⟨rfl, m, rfl⟩)
      go_region
      go_wp2_with (go_at_call 66; refine (impl_FractionOk _ _ _).mono ?_; rintro e w1 ⟨rfl, hx⟩; obtain ⟨hc, hf⟩ := bcell hx)
      have c0 := ext_cell hx (b := w.heap.size) (off := 0) (v := .int .i64 0) (by go_simp)
      have c1 := ext_cell hx (b := w.heap.size) (off := 1) (v := .int .i64 0) (by go_simp)
      exact bodyPost_ret (v := .tuple #[.agg #[.int .i64 (- t.tdiv (Int.gcd t b)), .int .i64 (- b.tdiv (Int.gcd t b))], .bool true]) (by simp [results, Try.results70, go_sem, c0, c1]) rfl
        ⟨by rw [redT, redB, HR.out]; first | rfl | (rw [if_pos rfl, if_pos rfl, N1.out, N2.out]), ext_setCell (ext_setCell (ext_trans (ext_alloc (ext_drewN (ext_alloc (ext_refl _) _) _) _) hx) (Nat.le_refl _) _) (Nat.le_refl _) _⟩
  · have N1 : Hid (nt t b = (t.tdiv (Int.gcd t b))) := by unfold Hid nt; rw [if_neg hneg]
    have N2 : Hid (nb t b = (b.tdiv (Int.gcd t b))) := by unfold Hid nb; rw [if_neg hneg]
    cases hr : fracOk (t.tdiv (Int.gcd t b)) (b.tdiv (Int.gcd t b))
    · have HR : Hid (redOk t b = false) := by unfold Hid redOk; rw [N1.out, N2.out]; exact hr
      go_enter Try.func70, Try.ntmps70
      go_wp2_with (go_at_call 93; refine (impl_gcd _ _ _ (by omega) (by omega) (by omega) (by omega)).mono ?_; rintro e w' ⟨rfl, m, rfl⟩)
      go_region
      go_wp2_with (go_at_call 66; refine (impl_FractionOk _ _ _).mono ?_; rintro e w1 ⟨rfl, hx⟩; obtain ⟨hc, hf⟩ := bcell hx)
      have c0 := ext_cell hx (b := w.heap.size) (off := 0) (v := .int .i64 0) (by go_simp)
      have c1 := ext_cell hx (b := w.heap.size) (off := 1) (v := .int .i64 0) (by go_simp)
      exact bodyPost_ret (v := .tuple #[.agg #[.int .i64 0, .int .i64 0], .bool false]) (by simp [results, Try.results70, go_sem, c0, c1]) rfl
        ⟨by rw [redT, redB, HR.out]; first | rfl | (rw [if_pos rfl, if_pos rfl, N1.out, N2.out]), ext_setCell (ext_setCell (ext_trans (ext_alloc (ext_drewN (ext_alloc (ext_refl _) _) _) _) hx) (Nat.le_refl _) _) (Nat.le_refl _) _⟩
    · have HR : Hid (redOk t b = true) := by unfold Hid redOk; rw [N1.out, N2.out]; exact hr
      go_enter Try.func70, Try.ntmps70
      go_wp2_with (go_at_call 93; refine (impl_gcd _ _ _ (by omega) (by omega) (by omega) (by omega)).mono ?_; rintro e w' ⟨rfl, m, rfl⟩)
      go_region
      go_wp2_with (go_at_call 66; refine (impl_FractionOk _ _ _).mono ?_; rintro e w1 ⟨rfl, hx⟩; obtain ⟨hc, hf⟩ := bcell hx)
      have c0 := ext_cell hx (b := w.heap.size) (off := 0) (v := .int .i64 0) (by go_simp)
      have c1 := ext_cell hx (b := w.heap.size) (off := 1) (v := .int .i64 0) (by go_simp)
      exact bodyPost_ret (v := .tuple #[.agg #[.int .i64 (t.tdiv (Int.gcd t b)), .int .i64 (b.tdiv (Int.gcd t b))], .bool true]) (by simp [results, Try.results70, go_sem, c0, c1]) rfl
        ⟨by rw [redT, redB, HR.out]; first | rfl | (rw [if_pos rfl, if_pos rfl, N1.out, N2.out]), ext_setCell (ext_setCell (ext_trans (ext_alloc (ext_drewN (ext_alloc (ext_refl _) _) _) _) hx) (Nat.le_refl _) _) (Nat.le_refl _) _⟩
end Go.Proofs.Ytefgdkjcoeikmaa
