/- The contracts of readings that are valid, and of spreads. No condition but those of each contract. -/
import Derived.Test.YtbehkflmhlfekaaDet3
import Derived.Test.YtbehkflmhlfekaaFrac5
namespace Go.Proofs.Ytbehkflmhlfekaa
open Go.ChangeShapes Go.WideShapes Go.ChangeAt Go.RowKit
set_option linter.unusedVariables false
set_option linter.unusedSimpArgs false

def readingsOkB (n : Nat) (L : Nat → Nat) (X : Nat → Nat → Int) (m : Nat) (V : Nat → Int) : Bool := isDetB n L X && (decide (m = n) && allB (-500) 500 V m)
set_option maxHeartbeats 1600000 in
theorem impl_ReadingsOk (a b : Option Addr) (n c m d : Nat) (A : Nat → Option Addr) (L C : Nat → Nat) (X : Nat → Nat → Int) (V : Nat → Int) (w : World) (h : RowsAt w a n A L C X) (hv : IntsAt w b m V) (hn : n ≤ 1048576) (hT : off L n ≤ 1048576) (hm : m ≤ 1099511627776) :
    Calls Try.prog 81 #[.slice a n c, .slice b m d] w fun e w' => e = .returned (.bool (readingsOkB n L X m V)) ∧ Ext w w' := by
  have HV := Lib.hid hv
  clear hv
  cases h0 : isDetB n L X
  · go_enter Try.func81, Try.ntmps81
    go_wp2_with (go_at_call 77; refine (impl_IsDetermined _ _ _ _ _ _ _ _ h hn hT).mono ?_; rintro e w1 ⟨rfl, hx⟩)
    go_ret
    exact ⟨ret_bool (by simp [readingsOkB, h0]), hx⟩
  · by_cases e : m = n
    · have hb := neq_no e
      have HOK := Lib.hid (show readingsOkB n L X m V = allB (-500) 500 V m by simp [readingsOkB, h0, e])
      clear e
      go_enter Try.func81, Try.ntmps81
      go_wp2_with (go_at_call 77; refine (impl_IsDetermined _ _ _ _ _ _ _ _ h hn hT).mono ?_; rintro e w1 ⟨rfl, hx⟩)
      clear h0 hb
      go_loop [19] (fun i => ∃ k : Nat, k ≤ m ∧ i = .int .i64 k ∧ Hid (allB (-500) 500 V k = true)) (fun i => m - (intOf i).toNat)
      case atStart => exact ⟨0, Nat.zero_le _, rfl, Lib.hid rfl⟩
      case round =>
        obtain ⟨k, hk, rfl, hal⟩ := hrel
        rcases Nat.lt_or_ge k m with hlt | hge
        · obtain ⟨b2, of2, rfl, hc⟩ := HV.out.at_ hlt
          have hc' := ext_cell hx hc
          have hlt' : (k : Int) < (m : Int) := by omega
          clear hc
          cases h3 : inB (V k) (-500) 500
          · have HB := Lib.hid (allB_no hlt h3)
            go_wp2_with (go_at_call 93; refine (impl_in _ _ _ _).mono ?_; rintro e w' ⟨rfl, rfl⟩)
            go_ret
            exact ⟨ret_bool (HOK.out.trans HB.out).symm, hx⟩
          · have HB := Lib.hid (allB_yes hal.out h3)
            go_wp2_with (go_at_call 93; refine (impl_in _ _ _ _).mono ?_; rintro e w' ⟨rfl, rfl⟩)
            go_round
            case measure => simp [intOf]; omega
            case rel => exact ⟨k + 1, by omega, by go_num, HB⟩
        · obtain rfl : k = m := by omega
          go_wp2
          go_ret
          exact ⟨ret_bool (HOK.out.trans hal.out).symm, hx⟩
    · have hb := neq_yes e
      have HR := Lib.hid (show readingsOkB n L X m V = false by simp [readingsOkB, e])
      clear e
      go_enter Try.func81, Try.ntmps81
      go_wp2_with (go_at_call 77; refine (impl_IsDetermined _ _ _ _ _ _ _ _ h hn hT).mono ?_; rintro e w1 ⟨rfl, hx⟩)
      go_ret
      exact ⟨ret_bool HR.out.symm, hx⟩
set_option maxHeartbeats 1600000 in
theorem spec_ReadingsOk (a b : Option Addr) (n c m d : Nat) (A : Nat → Option Addr) (L C : Nat → Nat) (X : Nat → Nat → Int) (V : Nat → Int) (w : World) (h : RowsAt w a n A L C X) (hv : IntsAt w b m V) (hn : n ≤ 1048576) (hT : off L n ≤ 1048576) (hm : m ≤ 1099511627776) :
    Calls Try.prog 80 #[.slice a n c, .slice b m d] w fun e w' => e = .returned (.bool (readingsOkB n L X m V)) ∧ Ext w w' := by
  have HV := Lib.hid hv
  clear hv
  go_enter Try.func80, Try.ntmps80
  go_wp2
  go_loop [5] (fun i => ∃ k : Nat, k ≤ m ∧ i = .int .i64 k ∧ Hid (allB (-500) 500 V k = true)) (fun i => m - (intOf i).toNat)
  case atStart => exact ⟨0, Nat.zero_le _, rfl, Lib.hid rfl⟩
  case round =>
    obtain ⟨k, hk, rfl, hal⟩ := hrel
    rcases Nat.lt_or_ge k m with hlt | hge
    · obtain ⟨b2, of2, rfl, hc⟩ := HV.out.at_ hlt
      have hlt' : (k : Int) < (m : Int) := by omega
      cases h3 : inB (V k) (-500) 500
      · have HB := Lib.hid (allB_no hlt h3)
        go_wp2_with (go_at_call 89; refine (spec_in _ _ _ _).mono ?_; rintro e w' ⟨rfl, rfl⟩)
        go_ret
        exact ⟨ret_bool (show false = readingsOkB n L X m V by simp [readingsOkB, HB.out]), ext_refl _⟩
      · have HB := Lib.hid (allB_yes hal.out h3)
        go_wp2_with (go_at_call 89; refine (spec_in _ _ _ _).mono ?_; rintro e w' ⟨rfl, rfl⟩)
        go_round
        case measure => simp [intOf]; omega
        case rel => exact ⟨k + 1, by omega, by go_num, HB⟩
    · obtain rfl : k = m := by omega
      cases h0 : isDetB n L X
      · go_wp2_with (go_at_call 76; refine (spec_IsDetermined _ _ _ _ _ _ _ _ h hn hT).mono ?_; rintro e w1 ⟨rfl, hx⟩)
        go_ret
        exact ⟨ret_bool (show false = readingsOkB n L X k V by simp [readingsOkB, h0]), hx⟩
      · have HR := Lib.hid (show ((k : Int) == (n : Int)) = readingsOkB n L X k V by
          rw [Bool.eq_iff_iff]; simp [readingsOkB, h0, hal.out]; omega)
        go_wp2_with (go_at_call 76; refine (spec_IsDetermined _ _ _ _ _ _ _ _ h hn hT).mono ?_; rintro e w1 ⟨rfl, hx⟩)
        go_ret
        exact ⟨ret_bool HR.out, hx⟩

/-! ### spreads -/
def spOk (n : Nat) (L : Nat → Nat) (X : Nat → Nat → Int) (k : Int) : Bool := isDetB n L X && inB k 0 ((L 0 : Int) - 1)
def spTop (n : Nat) (L : Nat → Nat) (X : Nat → Nat → Int) (k : Int) : Int := adjF (L 0) (gramF n X) k.toNat k.toNat
def fracIf (ok : Bool) (t b : Int) : Ending := frac (if ok then mkT t b else 0) (if ok then mkB t b else 0) (ok && mkOk t b)
theorem fracIf_no {ok : Bool} {t b : Int} (h : ok = false) : fracIf ok t b = frac 0 0 false := by simp [fracIf, h]
theorem fracIf_yes {ok : Bool} {t b : Int} (h : ok = true) : fracIf ok t b = frac (mkT t b) (mkB t b) (mkOk t b) := by simp [fracIf, h]
/-- the cells of a result -/
theorem res_cells {w wk : World} {T : TypeId} (E : Ext (w.alloc (.cells #[.int .i64 0, .int .i64 0] T)) wk) :
    wk.cell? ⟨w.heap.size, 0, none⟩ = some (.int .i64 0) ∧ wk.cell? ⟨w.heap.size, 1, none⟩ = some (.int .i64 0) ∧ (∀ j, wk.frozen? ⟨w.heap.size, j, none⟩ = false) ∧ w.heap.size < wk.heap.size := by
  have hz := ext_size E
  simp at hz
  refine ⟨ext_cell E (by go_simp), ext_cell E (by go_simp), fun j => ?_, by omega⟩
  rw [E.frozen (p := ⟨w.heap.size, j, none⟩) (by simp)]
  go_simp
theorem det_parts {n : Nat} {L : Nat → Nat} {X : Nat → Nat → Int} (h : isDetB n L X = true) : designOkB n L X = true ∧ gdet n L X ≠ 0 := by
  simp only [isDetB, Bool.and_eq_true, bne_iff_ne] at h; exact h

set_option maxRecDepth 100000 in
set_option maxHeartbeats 6400000 in
theorem impl_SpreadOf (a : Option Addr) (n c : Nat) (A : Nat → Option Addr) (L C : Nat → Nat) (X : Nat → Nat → Int) (k : Int) (w : World) (h : RowsAt w a n A L C X) (hn : n ≤ 1048576) (hT : off L n ≤ 1048576) :
    Calls Try.prog 30 #[.slice a n c, .int .i64 k] w fun e w' => e = fracIf (spOk n L X k) (spTop n L X k) (gdet n L X) ∧ Ext w w' := by
  have h1 := h.ext (ext_alloc (ext_refl w) (.cells #[.int .i64 0, .int .i64 0] 25))
  cases h0 : isDetB n L X
  · have HR := Lib.hid (fracIf_no (t := spTop n L X k) (b := gdet n L X) (show spOk n L X k = false by simp [spOk, h0]))
    go_enter Try.func30, Try.ntmps30
    go_wp2_with fail
    refine (impl_IsDetermined _ _ _ _ _ _ _ _ h1 hn hT).mono ?_
    rintro e w1 ⟨rfl, hx⟩
    obtain ⟨c0, c1, cf, cz⟩ := res_cells hx
    go_wp2_with fail
    exact bodyPost_ret (v := .tuple #[.agg #[.int .i64 0, .int .i64 0], .bool false]) (by simp [results, Try.results30, go_sem, c0, c1, cf, cz]) rfl ⟨HR.out.symm, (by repeat (first | (with_reducible exact ext_refl _) | (with_reducible refine ext_setCell ?_ ?_ _) | (with_reducible refine ext_alloc ?_ _) | (with_reducible refine ext_drewN ?_ _) | (with_reducible refine ext_drew ?_) | (with_reducible refine ext_trans ?_ (by assumption)) | (dsimp only; omega) | omega | (simp; omega)))⟩
  · obtain ⟨hd0, hg0⟩ := det_parts h0
    obtain ⟨⟨n1, n2⟩, ⟨m1, m2⟩, _⟩ := design_iff.1 hd0
    have hn0' : (0 : Int) < (n : Int) := by omega
    obtain ⟨ba, of, rfl, hc0⟩ := h.at_ (show 0 < n by omega)
    simp only [Nat.add_zero] at hc0
    cases h2 : inB k 0 ((L 0 : Int) - 1)
    · have HR := Lib.hid (fracIf_no (t := spTop n L X k) (b := gdet n L X) (show spOk n L X k = false by simp [spOk, h2]))
      clear hg0
      go_enter Try.func30, Try.ntmps30
      go_wp2_with fail
      refine (impl_IsDetermined _ _ _ _ _ _ _ _ h1 hn hT).mono ?_
      rintro e w1 ⟨rfl, hx⟩
      obtain ⟨c0, c1, cf, cz⟩ := res_cells hx
      have d0 := ext_cell (ext_trans (ext_alloc (ext_refl w) _) hx) hc0
      go_wp2_with (go_at_call 93; refine (impl_in _ _ _ _).mono ?_; rintro e w' ⟨rfl, rfl⟩)
      exact bodyPost_ret (v := .tuple #[.agg #[.int .i64 0, .int .i64 0], .bool false]) (by simp [results, Try.results30, go_sem, c0, c1, cf, cz]) rfl ⟨HR.out.symm, (by repeat (first | (with_reducible exact ext_refl _) | (with_reducible refine ext_setCell ?_ ?_ _) | (with_reducible refine ext_alloc ?_ _) | (with_reducible refine ext_drewN ?_ _) | (with_reducible refine ext_drew ?_) | (with_reducible refine ext_trans ?_ (by assumption)) | (dsimp only; omega) | omega | (simp; omega)))⟩
    · obtain ⟨b1, b2⟩ := inB_true.1 h2
      obtain ⟨k', rfl⟩ := Int.eq_ofNat_of_zero_le b1
      have HR := Lib.hid (fracIf_yes (t := spTop n L X k') (b := gdet n L X) (show spOk n L X k' = true by simp [spOk, h0, h2]))
      have HT := Lib.hid (show spTop n L X k' = adjF (L 0) (gramF n X) k' k' by simp [spTop])
      have k1 : k' < L 0 := by omega
      have k2 : (k' : Int) < (L 0 : Int) := by omega
      have HSQ := Lib.hid (gram_square hd0)
      have HS := Lib.hid (gram_sq hd0)
      have HD := Lib.hid hd0
      have hoff := off_const_small (k := L 0) (by omega)
      clear hg0
      go_enter Try.func30, Try.ntmps30
      go_wp2_with fail
      refine (impl_IsDetermined _ _ _ _ _ _ _ _ h1 hn hT).mono ?_
      rintro e w1 ⟨rfl, hx⟩
      have d0 := ext_cell (ext_trans (ext_alloc (ext_refl w) _) hx) hc0
      have h3 := h1.ext hx
      clear hd0 hc0 h h1
      go_wp2_with (go_at_call 93; refine (impl_in _ _ _ _).mono ?_; rintro e w' ⟨rfl, rfl⟩)
      refine ((impl_GramOf _ _ _ _ _ _ _ _ h3 hn hT).mono fun _ _ q => q.1 HD.out).mono ?_
      rintro e w2 ⟨p2, q2, A2, C2, rfl, hO2, hx2⟩
      have hE2 := ext_trans hx hx2
      clear d0 h3
      go_wp2_with fail
      go_region_law (first
        | (go_simp
           go_at_call 79
           refine ((impl_AdjugateOf _ _ _ _ _ _ _ _ (hO2.rows.ext (ext_drew (ext_refl _))) (by omega) hoff).mono fun _ _ q => q.1 HSQ.out).mono ?_
           rintro e w3 ⟨p3, q3, A3, C3, rfl, hO3, hx3⟩
           obtain ⟨g3, hg3, _, _, _⟩ := hO3.head (by omega)
           rw [hg3] at hO3 ⊢
           have y1 := hO3.cell k1
           obtain ⟨g4, hg4, _, _, _⟩ := (hO3.row k' k1).head (by omega)
           have y3 := hO3.row k' k1
           rw [hg4] at y1 y3
           have y2 := y3.cell k1
           clear y3 hg3 hg4)
        | (go_simp
           go_at_call 95
           refine (impl_determinant _ _ _ _ _ _ _ _ (hO2.rows.ext (ext_trans (ext_drew (ext_refl _)) hx3)) HS.out).mono ?_
           rintro e w4 ⟨rfl, hx4⟩
           have z1 := ext_cell hx4 y1
           have z2 := ext_cell hx4 y2)
        | (go_simp
           go_at_call 94
           refine (impl_MakeFraction _ _ _).mono ?_
           rintro e w5 ⟨rfl, hx5⟩
           obtain ⟨c0, c1, cf, cz⟩ := res_cells (ext_trans hE2 (ext_trans (ext_drew (ext_refl _)) (ext_trans hx3 (ext_trans hx4 hx5))))))
      all_goals
        go_wp2_with fail
        exact bodyPost_ret (v := .tuple #[.agg #[.int .i64 (mkT (adjF (L 0) (gramF n X) k' k') (gdet n L X)), .int .i64 (mkB (adjF (L 0) (gramF n X) k' k') (gdet n L X))], .bool (mkOk (adjF (L 0) (gramF n X) k' k') (gdet n L X))]) (by simp [results, Try.results30, go_sem, c0, c1, cf, cz, gdet]) rfl ⟨by rw [HR.out, HT.out], (by repeat (first | (with_reducible exact ext_refl _) | (with_reducible refine ext_setCell ?_ ?_ _) | (with_reducible refine ext_alloc ?_ _) | (with_reducible refine ext_drewN ?_ _) | (with_reducible refine ext_drew ?_) | (with_reducible refine ext_trans ?_ (by assumption)) | (dsimp only; omega) | omega | (simp; omega)))⟩

theorem adj_diag {n : Nat} {X : Nat → Nat → Int} {k : Nat} : adjF n X k k = detF (n - 1) (wo X k k) := adj_even (by omega)
set_option maxRecDepth 100000 in
set_option maxHeartbeats 6400000 in
theorem spec_SpreadOf (a : Option Addr) (n c : Nat) (A : Nat → Option Addr) (L C : Nat → Nat) (X : Nat → Nat → Int) (k : Int) (w : World) (h : RowsAt w a n A L C X) (hn : n ≤ 1048576) (hT : off L n ≤ 1048576) :
    Calls Try.prog 28 #[.slice a n c, .int .i64 k] w fun e w' => e = fracIf (spOk n L X k) (spTop n L X k) (gdet n L X) ∧ Ext w w' := by
  have h1 := h.ext (ext_alloc (ext_refl w) (.cells #[.int .i64 0, .int .i64 0] 25))
  cases h0 : isDetB n L X
  · have HR := Lib.hid (fracIf_no (t := spTop n L X k) (b := gdet n L X) (show spOk n L X k = false by simp [spOk, h0]))
    go_enter Try.func28, Try.ntmps28
    go_wp2_with fail
    refine (spec_IsDetermined _ _ _ _ _ _ _ _ h1 hn hT).mono ?_
    rintro e w1 ⟨rfl, hx⟩
    obtain ⟨c0, c1, cf, cz⟩ := res_cells hx
    go_wp2_with fail
    exact bodyPost_ret (v := .tuple #[.agg #[.int .i64 0, .int .i64 0], .bool false]) (by simp [results, Try.results28, go_sem, c0, c1, cf, cz]) rfl ⟨HR.out.symm, (by repeat (first | (with_reducible exact ext_refl _) | (with_reducible refine ext_setCell ?_ ?_ _) | (with_reducible refine ext_alloc ?_ _) | (with_reducible refine ext_drewN ?_ _) | (with_reducible refine ext_drew ?_) | (with_reducible refine ext_trans ?_ (by assumption)) | (dsimp only; omega) | omega | (simp; omega)))⟩
  · obtain ⟨hd0, hg0⟩ := det_parts h0
    obtain ⟨⟨n1, n2⟩, ⟨m1, m2⟩, _⟩ := design_iff.1 hd0
    have hn0' : (0 : Int) < (n : Int) := by omega
    obtain ⟨ba, of, rfl, hc0⟩ := h.at_ (show 0 < n by omega)
    simp only [Nat.add_zero] at hc0
    cases h2 : inB k 0 ((L 0 : Int) - 1)
    · have HR := Lib.hid (fracIf_no (t := spTop n L X k) (b := gdet n L X) (show spOk n L X k = false by simp [spOk, h2]))
      clear hg0
      go_enter Try.func28, Try.ntmps28
      go_wp2_with fail
      refine (spec_IsDetermined _ _ _ _ _ _ _ _ h1 hn hT).mono ?_
      rintro e w1 ⟨rfl, hx⟩
      obtain ⟨c0, c1, cf, cz⟩ := res_cells hx
      have d0 := ext_cell (ext_trans (ext_alloc (ext_refl w) _) hx) hc0
      go_wp2_with (go_at_call 89; refine (spec_in _ _ _ _).mono ?_; rintro e w' ⟨rfl, rfl⟩)
      exact bodyPost_ret (v := .tuple #[.agg #[.int .i64 0, .int .i64 0], .bool false]) (by simp [results, Try.results28, go_sem, c0, c1, cf, cz]) rfl ⟨HR.out.symm, (by repeat (first | (with_reducible exact ext_refl _) | (with_reducible refine ext_setCell ?_ ?_ _) | (with_reducible refine ext_alloc ?_ _) | (with_reducible refine ext_drewN ?_ _) | (with_reducible refine ext_drew ?_) | (with_reducible refine ext_trans ?_ (by assumption)) | (dsimp only; omega) | omega | (simp; omega)))⟩
    · obtain ⟨b1, b2⟩ := inB_true.1 h2
      obtain ⟨k', rfl⟩ := Int.eq_ofNat_of_zero_le b1
      have HR := Lib.hid (fracIf_yes (t := spTop n L X k') (b := gdet n L X) (show spOk n L X k' = true by simp [spOk, h0, h2]))
      have HTop := Lib.hid (show spTop n L X k' = detF (L 0 - 1) (wo (gramF n X) k' k') by simp [spTop, adj_diag])
      obtain ⟨m', hm'⟩ : ∃ m', L 0 = m' + 1 := ⟨L 0 - 1, by omega⟩
      have k1 : k' ≤ m' := by omega
      have HS := Lib.hid (gram_sq hd0)
      have HD := Lib.hid hd0
      have HM := Lib.hid hm'
      clear hg0 hm'
      go_enter Try.func28, Try.ntmps28
      go_wp2_with fail
      refine (spec_IsDetermined _ _ _ _ _ _ _ _ h1 hn hT).mono ?_
      rintro e w1 ⟨rfl, hx⟩
      have d0 := ext_cell (ext_trans (ext_alloc (ext_refl w) _) hx) hc0
      have h3 := h1.ext hx
      clear hd0 hc0 h h1
      go_wp2_with (go_at_call 89; refine (spec_in _ _ _ _).mono ?_; rintro e w' ⟨rfl, rfl⟩)
      refine ((spec_GramOf _ _ _ _ _ _ _ _ h3 hn hT).mono fun _ _ q => q.yes HD.out).mono ?_
      rintro e w2 ⟨p2, q2, A2, C2, rfl, hO2, hx2⟩
      have hE2 := ext_trans hx hx2
      have hS := HS.out
      have hO2' := Lib.hid hO2.rows
      rw [HM.out] at hO2' hS ⊢
      have HSm := Lib.hid hS
      clear d0 h3 hS
      go_wp2_with fail
      refine (spec_l22Without _ m' _ k' k' _ _ _ _ _ hO2'.out (by have := HSm.out.1; omega) (fun _ _ => rfl) k1 k1).mono ?_
      rintro e w3 ⟨p3, q3, A3, C3, rfl, hO3, hx3⟩
      go_wp2_with fail
      refine (spec_l22Det _ _ _ _ _ _ _ _ hO3.rows (HSm.out.wo k' k')).mono ?_
      rintro e w4 ⟨rfl, hx4⟩
      go_wp2_with fail
      refine (spec_l22Det _ _ _ _ _ _ _ _ (hO2'.out.ext (ext_trans hx3 hx4)) HSm.out).mono ?_
      rintro e w5 ⟨rfl, hx5⟩
      go_wp2_with fail
      refine (spec_MakeFraction _ _ _).mono ?_
      rintro e w6 ⟨rfl, hx6⟩
      obtain ⟨c0, c1, cf, cz⟩ := res_cells (ext_trans hE2 (ext_trans hx3 (ext_trans hx4 (ext_trans hx5 hx6))))
      go_wp2_with fail
      exact bodyPost_ret (v := .tuple #[.agg #[.int .i64 (mkT (detF m' (wo (gramF n X) k' k')) (detF (m' + 1) (gramF n X))), .int .i64 (mkB (detF m' (wo (gramF n X) k' k')) (detF (m' + 1) (gramF n X)))], .bool (mkOk (detF m' (wo (gramF n X) k' k')) (detF (m' + 1) (gramF n X)))]) (by simp [results, Try.results28, go_sem, c0, c1, cf, cz]) rfl ⟨by rw [HR.out, HTop.out]; unfold gdet; rw [HM.out]; rfl, (by repeat (first | (with_reducible exact ext_refl _) | (with_reducible refine ext_setCell ?_ ?_ _) | (with_reducible refine ext_alloc ?_ _) | (with_reducible refine ext_drewN ?_ _) | (with_reducible refine ext_drew ?_) | (with_reducible refine ext_trans ?_ (by assumption)) | (dsimp only; omega) | omega | (simp; omega)))⟩

/-! ### the sum of all spreads -/
def diag (n : Nat) (L : Nat → Nat) (X : Nat → Nat → Int) : Nat → Int := fun k => adjF (L 0) (gramF n X) k k
theorem diag_bound {n : Nat} {L : Nat → Nat} {X : Nat → Nat → Int} (h : designOkB n L X = true) {k : Nat} (hk : k < L 0) : -100000 ≤ diag n L X k ∧ diag n L X k ≤ 100000 := by
  obtain ⟨m', hm'⟩ : ∃ m', L 0 = m' + 1 := ⟨L 0 - 1, by omega⟩
  have hs := gram_sq h
  unfold diag
  rw [adj_diag]
  rw [hm'] at hs ⊢
  exact (hs.wo k k).det
theorem diag_sum {n : Nat} {L : Nat → Nat} {X : Nat → Nat → Int} (h : designOkB n L X = true) {k : Nat} (hk : k ≤ L 0) : -1000000 ≤ sumN k (diag n L X) ∧ sumN k (diag n L X) ≤ 1000000 := by
  have := sumN_bound (n := k) (f := diag n L X) (B := 100000) (fun i hi => diag_bound h (by omega))
  have := (design_iff.1 h).2.1
  omega
set_option maxRecDepth 100000 in
set_option maxHeartbeats 6400000 in
theorem impl_TotalSpread (a : Option Addr) (n c : Nat) (A : Nat → Option Addr) (L C : Nat → Nat) (X : Nat → Nat → Int) (w : World) (h : RowsAt w a n A L C X) (hn : n ≤ 1048576) (hT : off L n ≤ 1048576) :
    Calls Try.prog 34 #[.slice a n c] w fun e w' => e = fracIf (isDetB n L X) (sumN (L 0) (diag n L X)) (gdet n L X) ∧ Ext w w' := by
  have h1 := h.ext (ext_alloc (ext_refl w) (.cells #[.int .i64 0, .int .i64 0] 25))
  cases h0 : isDetB n L X
  · have HR := Lib.hid (fracIf_no (t := sumN (L 0) (diag n L X)) (b := gdet n L X) h0)
    go_enter Try.func34, Try.ntmps34
    go_wp2_with fail
    refine (impl_IsDetermined _ _ _ _ _ _ _ _ h1 hn hT).mono ?_
    rintro e w1 ⟨rfl, hx⟩
    obtain ⟨c0, c1, cf, cz⟩ := res_cells hx
    go_wp2_with fail
    exact bodyPost_ret (v := .tuple #[.agg #[.int .i64 0, .int .i64 0], .bool false]) (by simp [results, Try.results34, go_sem, c0, c1, cf, cz]) rfl ⟨(by first | exact HR.out.symm | exact (fracIf_no rfl).symm), (by repeat (first | (with_reducible exact ext_refl _) | (with_reducible refine ext_setCell ?_ ?_ _) | (with_reducible refine ext_alloc ?_ _) | (with_reducible refine ext_drewN ?_ _) | (with_reducible refine ext_drew ?_) | (with_reducible refine ext_trans ?_ (by assumption)) | (dsimp only; omega) | omega | (simp; omega)))⟩
  · obtain ⟨hd0, hg0⟩ := det_parts h0
    obtain ⟨⟨n1, n2⟩, ⟨m1, m2⟩, _⟩ := design_iff.1 hd0
    have HR := Lib.hid (fracIf_yes (t := sumN (L 0) (diag n L X)) (b := gdet n L X) h0)
    have HSQ := Lib.hid (gram_square hd0)
    have HS := Lib.hid (gram_sq hd0)
    have HD := Lib.hid hd0
    have H0 := Lib.hid h0
    have hoff := off_const_small (k := L 0) (by omega)
    clear hg0
    go_enter Try.func34, Try.ntmps34
    go_wp2_with fail
    refine (impl_IsDetermined _ _ _ _ _ _ _ _ h1 hn hT).mono ?_
    rintro e w1 ⟨rfl, hx⟩
    have h3 := h1.ext hx
    clear hd0 h h1
    go_wp2_with fail
    refine ((impl_GramOf _ _ _ _ _ _ _ _ h3 hn hT).mono fun _ _ q => q.1 HD.out).mono ?_
    rintro e w2 ⟨p2, q2, A2, C2, rfl, hO2, hx2⟩
    have hE2 := ext_trans hx hx2
    clear h3 h0
    go_wp2_with fail
    refine ((impl_AdjugateOf _ _ _ _ _ _ _ _ hO2.rows (by omega) hoff).mono fun _ _ q => q.1 HSQ.out).mono ?_
    rintro e w3 ⟨p3, q3, A3, C3, rfl, hO3, hx3⟩
    obtain ⟨g3, rfl, _, _, _⟩ := hO3.head (by omega)
    go_wp2_with fail
    go_loop [5, 17] (fun t i => ∃ k : Nat, k ≤ L 0 ∧ t = .int .i64 (sumN k (diag n L X)) ∧ i = .int .i64 k) (fun _ i => L 0 - (intOf i).toNat)
    case atStart => exact ⟨0, Nat.zero_le _, rfl, rfl⟩
    case round =>
      obtain ⟨k, hk, rfl, rfl⟩ := hrel
      rcases Nat.lt_or_ge k (L 0) with hlt | hge
      · have hlt' : (k : Int) < (L 0 : Int) := by omega
        have y1 := hO3.cell hlt
        have y3 := hO3.row k hlt
        generalize A3 k = ak at y1 y3
        obtain ⟨g4, rfl, _, _, _⟩ := y3.head (by omega)
        have y2 := y3.cell hlt
        obtain ⟨t1, t2⟩ := diag_bound HD.out hlt
        obtain ⟨t3, t4⟩ := diag_sum HD.out (k := k) (by omega)
        clear y3
        unfold diag at t1 t2
        go_wp2_with fail
        go_round
        case measure => simp [intOf]; omega
        case rel => exact ⟨k + 1, by omega, rfl, by go_num⟩
      · obtain rfl : k = L 0 := by omega
        go_wp2_with fail
        refine (impl_determinant _ _ _ _ _ _ _ _ (hO2.rows.ext hx3) HS.out).mono ?_
        rintro e w4 ⟨rfl, hx4⟩
        go_wp2_with fail
        refine (impl_MakeFraction _ _ _).mono ?_
        rintro e w5 ⟨rfl, hx5⟩
        obtain ⟨c0, c1, cf, cz⟩ := res_cells (ext_trans hE2 (ext_trans hx3 (ext_trans hx4 hx5)))
        go_wp2_with fail
        exact bodyPost_ret (v := .tuple #[.agg #[.int .i64 (mkT (sumN (L 0) (diag n L X)) (gdet n L X)), .int .i64 (mkB (sumN (L 0) (diag n L X)) (gdet n L X))], .bool (mkOk (sumN (L 0) (diag n L X)) (gdet n L X))]) (by simp [results, Try.results34, go_sem, c0, c1, cf, cz, gdet]) rfl ⟨(by first | exact HR.out.symm | (rw [← H0.out]; exact HR.out.symm)), (by repeat (first | (with_reducible exact ext_refl _) | (with_reducible refine ext_setCell ?_ ?_ _) | (with_reducible refine ext_alloc ?_ _) | (with_reducible refine ext_drewN ?_ _) | (with_reducible refine ext_drew ?_) | (with_reducible refine ext_trans ?_ (by assumption)) | (dsimp only; omega) | omega | (simp; omega)))⟩
set_option maxRecDepth 100000 in
set_option maxHeartbeats 6400000 in
theorem spec_TotalSpread (a : Option Addr) (n c : Nat) (A : Nat → Option Addr) (L C : Nat → Nat) (X : Nat → Nat → Int) (w : World) (h : RowsAt w a n A L C X) (hn : n ≤ 1048576) (hT : off L n ≤ 1048576) :
    Calls Try.prog 33 #[.slice a n c] w fun e w' => e = fracIf (isDetB n L X) (sumN (L 0) (diag n L X)) (gdet n L X) ∧ Ext w w' := by
  have h1 := h.ext (ext_alloc (ext_refl w) (.cells #[.int .i64 0, .int .i64 0] 25))
  cases h0 : isDetB n L X
  · have HR := Lib.hid (fracIf_no (t := sumN (L 0) (diag n L X)) (b := gdet n L X) h0)
    go_enter Try.func33, Try.ntmps33
    go_wp2_with fail
    refine (spec_IsDetermined _ _ _ _ _ _ _ _ h1 hn hT).mono ?_
    rintro e w1 ⟨rfl, hx⟩
    obtain ⟨c0, c1, cf, cz⟩ := res_cells hx
    go_wp2_with fail
    exact bodyPost_ret (v := .tuple #[.agg #[.int .i64 0, .int .i64 0], .bool false]) (by simp [results, Try.results33, go_sem, c0, c1, cf, cz]) rfl ⟨(by first | exact HR.out.symm | exact (fracIf_no rfl).symm), (by repeat (first | (with_reducible exact ext_refl _) | (with_reducible refine ext_setCell ?_ ?_ _) | (with_reducible refine ext_alloc ?_ _) | (with_reducible refine ext_drewN ?_ _) | (with_reducible refine ext_drew ?_) | (with_reducible refine ext_trans ?_ (by assumption)) | (dsimp only; omega) | omega | (simp; omega)))⟩
  · obtain ⟨hd0, hg0⟩ := det_parts h0
    obtain ⟨⟨n1, n2⟩, ⟨m1, m2⟩, _⟩ := design_iff.1 hd0
    have HR := Lib.hid (fracIf_yes (t := sumN (L 0) (diag n L X)) (b := gdet n L X) h0)
    have HS := Lib.hid (gram_sq hd0)
    have HD := Lib.hid hd0
    have H0 := Lib.hid h0
    have HX : ∃ m, m = L 0 ∧ 1 ≤ m ∧ m ≤ 4 := ⟨_, rfl, m1, m2⟩
    clear hg0
    go_enter Try.func33, Try.ntmps33
    go_wp2_with fail
    refine (spec_IsDetermined _ _ _ _ _ _ _ _ h1 hn hT).mono ?_
    rintro e w1 ⟨rfl, hx⟩
    have h3 := h1.ext hx
    clear hd0 h h1
    go_wp2_with fail
    refine ((spec_GramOf _ _ _ _ _ _ _ _ h3 hn hT).mono fun _ _ q => q.yes HD.out).mono ?_
    rintro e w2 ⟨p2, q2, A2, C2, rfl, hO2, hx2⟩
    have hE2 := ext_trans hx hx2
    clear h3 h0
    go_wp2_with fail
    go_loopg [5, 6] (L 0) (fun g t i wr => ∃ k : Nat, k ≤ L 0 ∧ g = L 0 - k ∧ t = .int .i64 (sumN k (diag n L X)) ∧ i = .int .i64 k ∧ Ext w2 wr)
    case atStart => exact ⟨0, Nat.zero_le _, rfl, rfl, rfl, ext_refl _⟩
    case round =>
      obtain ⟨k, hk, rfl, rfl, rfl, hxr⟩ := hrel
      rcases Nat.lt_or_ge k (L 0) with hlt | hge
      · have hlt' : (k : Int) < (L 0 : Int) := by omega
        have hR := hO2.rows.ext hxr
        have hS := HS.out
        obtain ⟨t1, t2⟩ := diag_bound HD.out hlt
        obtain ⟨t3, t4⟩ := diag_sum HD.out (k := k) (by omega)
        have HV := Lib.hid (show diag n L X k = detF (L 0 - 1) (wo (gramF n X) k k) from adj_diag)
        rw [HV.out] at t1 t2
        obtain ⟨m', hm'⟩ : ∃ m', m' + 1 = L 0 := ⟨L 0 - 1, by omega⟩
        have hmm : L 0 - 1 = m' := by omega
        rw [hmm] at t1 t2
        have HM := Lib.hid (And.intro hm' hmm)
        clear hmm
        rw [← hm'] at hR hS
        have HSm := Lib.hid hS
        clear hS
        go_wp2_with fail
        have hW := spec_l22Without p2 m' q2 k k _ _ _ _ wr hR (by have := HSm.out.1; omega) (fun _ _ => rfl) (by omega) (by omega)
        rw [hm'] at hW
        clear hm'
        refine hW.mono ?_
        rintro e w3 ⟨p3, q3, A3, C3, rfl, hO3, hx3⟩
        clear hW
        go_wp2_with fail
        refine (spec_l22Det _ _ _ _ _ _ _ _ hO3.rows (HSm.out.wo k k)).mono ?_
        rintro e w4 ⟨rfl, hx4⟩
        go_wp2_with fail
        go_roundg (L 0 - (k + 1))
        case measure => omega
        case rel => exact ⟨k + 1, by omega, rfl, by simp only [sumN]; rw [HV.out, HM.out.2], by go_num, ext_trans hxr (ext_trans hx3 hx4)⟩
      · obtain rfl : k = L 0 := by omega
        go_wp2_with fail
        refine (spec_l22Det _ _ _ _ _ _ _ _ (hO2.rows.ext hxr) HS.out).mono ?_
        rintro e w4 ⟨rfl, hx4⟩
        go_wp2_with fail
        refine (spec_MakeFraction _ _ _).mono ?_
        rintro e w5 ⟨rfl, hx5⟩
        obtain ⟨c0, c1, cf, cz⟩ := res_cells (ext_trans hE2 (ext_trans hxr (ext_trans hx4 hx5)))
        go_wp2_with fail
        exact bodyPost_ret (v := .tuple #[.agg #[.int .i64 (mkT (sumN (L 0) (diag n L X)) (gdet n L X)), .int .i64 (mkB (sumN (L 0) (diag n L X)) (gdet n L X))], .bool (mkOk (sumN (L 0) (diag n L X)) (gdet n L X))]) (by simp [results, Try.results33, go_sem, c0, c1, cf, cz, gdet]) rfl ⟨(by first | exact HR.out.symm | (rw [← H0.out]; exact HR.out.symm)), (by repeat (first | (with_reducible exact ext_refl _) | (with_reducible refine ext_setCell ?_ ?_ _) | (with_reducible refine ext_alloc ?_ _) | (with_reducible refine ext_drewN ?_ _) | (with_reducible refine ext_drew ?_) | (with_reducible refine ext_trans ?_ (by assumption)) | (dsimp only; omega) | omega | (simp; omega)))⟩
end Go.Proofs.Ytbehkflmhlfekaa
