/- The contract of the reference's ConferenceMatrix. No condition but those of each contract. -/
import Derived.Test.YtefgdkjcoeikmaaLeg
import Derived.Test.YtefgdkjcoeikmaaMat8
namespace Go.Proofs.Ytefgdkjcoeikmaa
open Go.ChangeShapes Go.WideShapes Go.ChangeAt Go.RowKit
set_option linter.unusedVariables false
set_option linter.unusedSimpArgs false

/-- row i, column j of the conference matrix of side p + 1 -/
def confF (f p : Int) (i j : Nat) : Int := if i = 0 then (if j = 0 then 0 else 1) else if j = 0 then f else legI ((j : Int) - (i : Int)) p
def confI (p : Int) : Nat → Nat → Int := confF (if p = 5 then 1 else -1) p
def confN (p : Int) : Nat := if p = 3 then 4 else if p = 5 then 6 else if p = 7 then 8 else 0
theorem makes_of {w w' : World} {n m : Nat} {L : Nat → Nat} {X : Nat → Nat → Int} {e : Ending} (h : MakesR w n L X e w') (hn : n = m) : MakesR w m L X e w' := hn ▸ h

set_option maxHeartbeats 3200000 in
theorem spec_Conf_3 (w : World) :
    Calls Try.prog 97 #[.int .i64 3] w (MakesR w 4 (fun _ => 4) (confF (-1) 3)) := by
  go_enter Try.func97, Try.ntmps97
  go_wp2
  go_loopg [3, 5] 4 (fun g o ii wr => ∃ (i : Nat) (q : Option Addr) (cc : Nat) (A' : Nat → Option Addr) (C' : Nat → Nat), i ≤ 4 ∧ g = 4 - i ∧ ii = .int .i64 ((i : Int) - 1) ∧ o = .slice q i cc ∧ OR wr w.heap.size wr.heap.size (.slice q i cc) i A' (fun _ => 4) C' (confF (-1) 3) ∧ Ext w wr)
  case atStart => exact ⟨0, some ⟨w.heap.size, 0, none⟩, 0, fun _ => none, fun _ => 0, Nat.zero_le _, rfl, by go_num, rfl, (OR.empty w _ _ _ _).now, (by repeat (first | (with_reducible exact ext_refl _) | (with_reducible refine ext_setCell ?_ ?_ _) | (with_reducible refine ext_alloc ?_ _) | (with_reducible refine ext_drewN ?_ _) | (with_reducible refine ext_drew ?_) | (with_reducible refine ext_trans ?_ (by assumption)) | (dsimp only; omega) | omega | (simp; omega)))⟩
  case round =>
    obtain ⟨i, q, cc, A', C', hk, rfl, rfl, rfl, hO, hx⟩ := hrel
    obtain ⟨wo_, rfl⟩ : ∃ wo_ : World, wo_ = wr := ⟨_, rfl⟩
    have hszo := ext_size hx
    rcases Nat.lt_or_ge i 4 with hlt | hge
    · have hlt' : (i : Int) - 1 < 3 := by omega
      go_wp2
      go_loopg [6, 7] 4 (fun g o jj wr => ∃ (j : Nat) (q2 : Option Addr) (cc2 : Nat), j ≤ 4 ∧ g = 4 - j ∧ jj = .int .i64 ((j : Int) - 1) ∧ o = .slice q2 j cc2 ∧ OI wr wo_.heap.size wr.heap.size (.slice q2 j cc2) j (confF (-1) 3 i) ∧ Ext wo_ wr)
      case atStart => exact ⟨0, some ⟨wo_.heap.size, 0, none⟩, 0, Nat.zero_le _, rfl, by go_num, rfl, (OI.lit wo_ [] _ 0 (by simp [maxLen]) rfl).now, ext_alloc (ext_refl _) _⟩
      case round =>
        obtain ⟨j, q2, cc2, hj, rfl, rfl, rfl, hI, hx2⟩ := hrel
        have hxr := ext_trans hx hx2
        have hsz2 := ext_size hx2
        rcases Nat.lt_or_ge j 4 with jlt | jge
        · have jlt' : (j : Int) - 1 < 3 := by omega
          rcases Nat.eq_zero_or_pos i with hi0 | hi0
          · have hin : (i : Int) - 1 < 0 := by omega
            rcases Nat.eq_zero_or_pos j with hj0 | hj0
            · have hjn : (j : Int) - 1 < 0 := by omega
              have HA := Lib.hid (show confF (-1) 3 i j = 0 by simp [confF, hi0, hj0])
              clear hi0 hj0
              go_wp2_with (at_builtin; refine wpList_push_int rfl _ _ 23 rfl Try.underlying23 info_int _ wo_.heap.size j (confF (-1) 3 i) (0) _ _ _ rfl (hI.ext (ext_alloc (ext_refl _) _)) ⟨wr.heap.size, 0, none⟩ 1 rfl (cell_new1 _ _ _) HA.out (by omega) (by simp; omega) ?_; intro g' c' w4 hO4 hb4)
              go_roundg (4 - (j + 1))
              case measure => omega
              case rel => exact ⟨j + 1, some ⟨g', 0, none⟩, c', by omega, rfl, by go_num, rfl, hO4, Below.trans (ext_alloc hx2 _) hb4⟩
            · have hjn : ¬ (j : Int) - 1 < 0 := by omega
              have HA := Lib.hid (show confF (-1) 3 i j = 1 by simp only [confF, if_pos hi0, if_neg (show ¬ j = 0 by omega)])
              clear hi0
              go_wp2_with (at_builtin; refine wpList_push_int rfl _ _ 23 rfl Try.underlying23 info_int _ wo_.heap.size j (confF (-1) 3 i) (1) _ _ _ rfl (hI.ext (ext_alloc (ext_refl _) _)) ⟨wr.heap.size, 0, none⟩ 1 rfl (cell_new1 _ _ _) HA.out (by omega) (by simp; omega) ?_; intro g' c' w4 hO4 hb4)
              go_roundg (4 - (j + 1))
              case measure => omega
              case rel => exact ⟨j + 1, some ⟨g', 0, none⟩, c', by omega, rfl, by go_num, rfl, hO4, Below.trans (ext_alloc hx2 _) hb4⟩
          · have hin : ¬ (i : Int) - 1 < 0 := by omega
            rcases Nat.eq_zero_or_pos j with hj0 | hj0
            · have hjn : (j : Int) - 1 < 0 := by omega
              have HA := Lib.hid (show confF (-1) 3 i j = (-1) by simp only [confF, if_pos hj0, if_neg (show ¬ i = 0 by omega)])
              clear hj0
              go_wp2_with (at_builtin; refine wpList_push_int rfl _ _ 23 rfl Try.underlying23 info_int _ wo_.heap.size j (confF (-1) 3 i) ((-1)) _ _ _ rfl (hI.ext (ext_alloc (ext_refl _) _)) ⟨wr.heap.size, 0, none⟩ 1 rfl (cell_new1 _ _ _) HA.out (by omega) (by simp; omega) ?_; intro g' c' w4 hO4 hb4)
              go_roundg (4 - (j + 1))
              case measure => omega
              case rel => exact ⟨j + 1, some ⟨g', 0, none⟩, c', by omega, rfl, by go_num, rfl, hO4, Below.trans (ext_alloc hx2 _) hb4⟩
            · have hjn : ¬ (j : Int) - 1 < 0 := by omega
              have HA := Lib.hid (show confF (-1) 3 i j = legI ((j : Int) - 1 - ((i : Int) - 1)) 3 by
                simp only [confF, if_neg (show ¬ j = 0 by omega), if_neg (show ¬ i = 0 by omega)]
                rw [show (j : Int) - 1 - ((i : Int) - 1) = j - i by omega])
              go_wp2_with (first | (go_at_call 100; refine (spec_LegendreOf _ _ _).mono ?_; rintro e w' ⟨rfl, rfl⟩) | (at_builtin; refine wpList_push_int rfl _ _ 23 rfl Try.underlying23 info_int _ wo_.heap.size j (confF (-1) 3 i) (legI ((j : Int) - 1 - ((i : Int) - 1)) 3) _ _ _ rfl (hI.ext (ext_alloc (ext_refl _) _)) ⟨wr.heap.size, 0, none⟩ 1 rfl (cell_new1 _ _ _) HA.out (by omega) (by simp; omega) ?_; intro g' c' w4 hO4 hb4))
              go_roundg (4 - (j + 1))
              case measure => omega
              case rel => exact ⟨j + 1, some ⟨g', 0, none⟩, c', by omega, rfl, by go_num, rfl, hO4, Below.trans (ext_alloc hx2 _) hb4⟩
        · obtain rfl : j = 4 := by omega
          go_wp2_with (at_builtin; refine wpList_push_row rfl _ _ 22 rfl Try.underlying22 info_ints _ w.heap.size wo_.heap.size i A' (fun _ => 4) C' (confF (-1) 3) q2 cc2 _ _ _ rfl ((hO.ext hx2).ext (ext_alloc (ext_refl _) _)) (hI.ext (ext_alloc (ext_refl _) _)) ⟨wr.heap.size, 0, none⟩ 1 rfl (cell_new1 _ _ _) (by omega) (by omega) (by simp; omega) ?_; intro g' c' A'' C'' w2 hO2 hb2)
          go_roundg (4 - (i + 1))
          case measure => omega
          case rel => exact ⟨i + 1, some ⟨g', 0, none⟩, c', A'', C'', by omega, rfl, by go_num, rfl, hO2, Below.trans (ext_alloc hxr _) hb2⟩
    · obtain rfl : i = 4 := by omega
      go_wp2
      go_ret
      exact ⟨_, _, _, _, rfl, hO, hx⟩

set_option maxHeartbeats 3200000 in
theorem spec_Conf_5 (w : World) :
    Calls Try.prog 97 #[.int .i64 5] w (MakesR w 6 (fun _ => 6) (confF 1 5)) := by
  go_enter Try.func97, Try.ntmps97
  go_wp2
  go_loopg [3, 5] 6 (fun g o ii wr => ∃ (i : Nat) (q : Option Addr) (cc : Nat) (A' : Nat → Option Addr) (C' : Nat → Nat), i ≤ 6 ∧ g = 6 - i ∧ ii = .int .i64 ((i : Int) - 1) ∧ o = .slice q i cc ∧ OR wr w.heap.size wr.heap.size (.slice q i cc) i A' (fun _ => 6) C' (confF 1 5) ∧ Ext w wr)
  case atStart => exact ⟨0, some ⟨w.heap.size, 0, none⟩, 0, fun _ => none, fun _ => 0, Nat.zero_le _, rfl, by go_num, rfl, (OR.empty w _ _ _ _).now, (by repeat (first | (with_reducible exact ext_refl _) | (with_reducible refine ext_setCell ?_ ?_ _) | (with_reducible refine ext_alloc ?_ _) | (with_reducible refine ext_drewN ?_ _) | (with_reducible refine ext_drew ?_) | (with_reducible refine ext_trans ?_ (by assumption)) | (dsimp only; omega) | omega | (simp; omega)))⟩
  case round =>
    obtain ⟨i, q, cc, A', C', hk, rfl, rfl, rfl, hO, hx⟩ := hrel
    obtain ⟨wo_, rfl⟩ : ∃ wo_ : World, wo_ = wr := ⟨_, rfl⟩
    have hszo := ext_size hx
    rcases Nat.lt_or_ge i 6 with hlt | hge
    · have hlt' : (i : Int) - 1 < 5 := by omega
      go_wp2
      go_loopg [6, 7] 6 (fun g o jj wr => ∃ (j : Nat) (q2 : Option Addr) (cc2 : Nat), j ≤ 6 ∧ g = 6 - j ∧ jj = .int .i64 ((j : Int) - 1) ∧ o = .slice q2 j cc2 ∧ OI wr wo_.heap.size wr.heap.size (.slice q2 j cc2) j (confF 1 5 i) ∧ Ext wo_ wr)
      case atStart => exact ⟨0, some ⟨wo_.heap.size, 0, none⟩, 0, Nat.zero_le _, rfl, by go_num, rfl, (OI.lit wo_ [] _ 0 (by simp [maxLen]) rfl).now, ext_alloc (ext_refl _) _⟩
      case round =>
        obtain ⟨j, q2, cc2, hj, rfl, rfl, rfl, hI, hx2⟩ := hrel
        have hxr := ext_trans hx hx2
        have hsz2 := ext_size hx2
        rcases Nat.lt_or_ge j 6 with jlt | jge
        · have jlt' : (j : Int) - 1 < 5 := by omega
          rcases Nat.eq_zero_or_pos i with hi0 | hi0
          · have hin : (i : Int) - 1 < 0 := by omega
            rcases Nat.eq_zero_or_pos j with hj0 | hj0
            · have hjn : (j : Int) - 1 < 0 := by omega
              have HA := Lib.hid (show confF 1 5 i j = 0 by simp [confF, hi0, hj0])
              clear hi0 hj0
              go_wp2_with (at_builtin; refine wpList_push_int rfl _ _ 23 rfl Try.underlying23 info_int _ wo_.heap.size j (confF 1 5 i) (0) _ _ _ rfl (hI.ext (ext_alloc (ext_refl _) _)) ⟨wr.heap.size, 0, none⟩ 1 rfl (cell_new1 _ _ _) HA.out (by omega) (by simp; omega) ?_; intro g' c' w4 hO4 hb4)
              go_roundg (6 - (j + 1))
              case measure => omega
              case rel => exact ⟨j + 1, some ⟨g', 0, none⟩, c', by omega, rfl, by go_num, rfl, hO4, Below.trans (ext_alloc hx2 _) hb4⟩
            · have hjn : ¬ (j : Int) - 1 < 0 := by omega
              have HA := Lib.hid (show confF 1 5 i j = 1 by simp only [confF, if_pos hi0, if_neg (show ¬ j = 0 by omega)])
              clear hi0
              go_wp2_with (at_builtin; refine wpList_push_int rfl _ _ 23 rfl Try.underlying23 info_int _ wo_.heap.size j (confF 1 5 i) (1) _ _ _ rfl (hI.ext (ext_alloc (ext_refl _) _)) ⟨wr.heap.size, 0, none⟩ 1 rfl (cell_new1 _ _ _) HA.out (by omega) (by simp; omega) ?_; intro g' c' w4 hO4 hb4)
              go_roundg (6 - (j + 1))
              case measure => omega
              case rel => exact ⟨j + 1, some ⟨g', 0, none⟩, c', by omega, rfl, by go_num, rfl, hO4, Below.trans (ext_alloc hx2 _) hb4⟩
          · have hin : ¬ (i : Int) - 1 < 0 := by omega
            rcases Nat.eq_zero_or_pos j with hj0 | hj0
            · have hjn : (j : Int) - 1 < 0 := by omega
              have HA := Lib.hid (show confF 1 5 i j = 1 by simp only [confF, if_pos hj0, if_neg (show ¬ i = 0 by omega)])
              clear hj0
              go_wp2_with (at_builtin; refine wpList_push_int rfl _ _ 23 rfl Try.underlying23 info_int _ wo_.heap.size j (confF 1 5 i) (1) _ _ _ rfl (hI.ext (ext_alloc (ext_refl _) _)) ⟨wr.heap.size, 0, none⟩ 1 rfl (cell_new1 _ _ _) HA.out (by omega) (by simp; omega) ?_; intro g' c' w4 hO4 hb4)
              go_roundg (6 - (j + 1))
              case measure => omega
              case rel => exact ⟨j + 1, some ⟨g', 0, none⟩, c', by omega, rfl, by go_num, rfl, hO4, Below.trans (ext_alloc hx2 _) hb4⟩
            · have hjn : ¬ (j : Int) - 1 < 0 := by omega
              have HA := Lib.hid (show confF 1 5 i j = legI ((j : Int) - 1 - ((i : Int) - 1)) 5 by
                simp only [confF, if_neg (show ¬ j = 0 by omega), if_neg (show ¬ i = 0 by omega)]
                rw [show (j : Int) - 1 - ((i : Int) - 1) = j - i by omega])
              go_wp2_with (first | (go_at_call 100; refine (spec_LegendreOf _ _ _).mono ?_; rintro e w' ⟨rfl, rfl⟩) | (at_builtin; refine wpList_push_int rfl _ _ 23 rfl Try.underlying23 info_int _ wo_.heap.size j (confF 1 5 i) (legI ((j : Int) - 1 - ((i : Int) - 1)) 5) _ _ _ rfl (hI.ext (ext_alloc (ext_refl _) _)) ⟨wr.heap.size, 0, none⟩ 1 rfl (cell_new1 _ _ _) HA.out (by omega) (by simp; omega) ?_; intro g' c' w4 hO4 hb4))
              go_roundg (6 - (j + 1))
              case measure => omega
              case rel => exact ⟨j + 1, some ⟨g', 0, none⟩, c', by omega, rfl, by go_num, rfl, hO4, Below.trans (ext_alloc hx2 _) hb4⟩
        · obtain rfl : j = 6 := by omega
          go_wp2_with (at_builtin; refine wpList_push_row rfl _ _ 22 rfl Try.underlying22 info_ints _ w.heap.size wo_.heap.size i A' (fun _ => 6) C' (confF 1 5) q2 cc2 _ _ _ rfl ((hO.ext hx2).ext (ext_alloc (ext_refl _) _)) (hI.ext (ext_alloc (ext_refl _) _)) ⟨wr.heap.size, 0, none⟩ 1 rfl (cell_new1 _ _ _) (by omega) (by omega) (by simp; omega) ?_; intro g' c' A'' C'' w2 hO2 hb2)
          go_roundg (6 - (i + 1))
          case measure => omega
          case rel => exact ⟨i + 1, some ⟨g', 0, none⟩, c', A'', C'', by omega, rfl, by go_num, rfl, hO2, Below.trans (ext_alloc hxr _) hb2⟩
    · obtain rfl : i = 6 := by omega
      go_wp2
      go_ret
      exact ⟨_, _, _, _, rfl, hO, hx⟩

set_option maxHeartbeats 3200000 in
theorem spec_Conf_7 (w : World) :
    Calls Try.prog 97 #[.int .i64 7] w (MakesR w 8 (fun _ => 8) (confF (-1) 7)) := by
  go_enter Try.func97, Try.ntmps97
  go_wp2
  go_loopg [3, 5] 8 (fun g o ii wr => ∃ (i : Nat) (q : Option Addr) (cc : Nat) (A' : Nat → Option Addr) (C' : Nat → Nat), i ≤ 8 ∧ g = 8 - i ∧ ii = .int .i64 ((i : Int) - 1) ∧ o = .slice q i cc ∧ OR wr w.heap.size wr.heap.size (.slice q i cc) i A' (fun _ => 8) C' (confF (-1) 7) ∧ Ext w wr)
  case atStart => exact ⟨0, some ⟨w.heap.size, 0, none⟩, 0, fun _ => none, fun _ => 0, Nat.zero_le _, rfl, by go_num, rfl, (OR.empty w _ _ _ _).now, (by repeat (first | (with_reducible exact ext_refl _) | (with_reducible refine ext_setCell ?_ ?_ _) | (with_reducible refine ext_alloc ?_ _) | (with_reducible refine ext_drewN ?_ _) | (with_reducible refine ext_drew ?_) | (with_reducible refine ext_trans ?_ (by assumption)) | (dsimp only; omega) | omega | (simp; omega)))⟩
  case round =>
    obtain ⟨i, q, cc, A', C', hk, rfl, rfl, rfl, hO, hx⟩ := hrel
    obtain ⟨wo_, rfl⟩ : ∃ wo_ : World, wo_ = wr := ⟨_, rfl⟩
    have hszo := ext_size hx
    rcases Nat.lt_or_ge i 8 with hlt | hge
    · have hlt' : (i : Int) - 1 < 7 := by omega
      go_wp2
      go_loopg [6, 7] 8 (fun g o jj wr => ∃ (j : Nat) (q2 : Option Addr) (cc2 : Nat), j ≤ 8 ∧ g = 8 - j ∧ jj = .int .i64 ((j : Int) - 1) ∧ o = .slice q2 j cc2 ∧ OI wr wo_.heap.size wr.heap.size (.slice q2 j cc2) j (confF (-1) 7 i) ∧ Ext wo_ wr)
      case atStart => exact ⟨0, some ⟨wo_.heap.size, 0, none⟩, 0, Nat.zero_le _, rfl, by go_num, rfl, (OI.lit wo_ [] _ 0 (by simp [maxLen]) rfl).now, ext_alloc (ext_refl _) _⟩
      case round =>
        obtain ⟨j, q2, cc2, hj, rfl, rfl, rfl, hI, hx2⟩ := hrel
        have hxr := ext_trans hx hx2
        have hsz2 := ext_size hx2
        rcases Nat.lt_or_ge j 8 with jlt | jge
        · have jlt' : (j : Int) - 1 < 7 := by omega
          rcases Nat.eq_zero_or_pos i with hi0 | hi0
          · have hin : (i : Int) - 1 < 0 := by omega
            rcases Nat.eq_zero_or_pos j with hj0 | hj0
            · have hjn : (j : Int) - 1 < 0 := by omega
              have HA := Lib.hid (show confF (-1) 7 i j = 0 by simp [confF, hi0, hj0])
              clear hi0 hj0
              go_wp2_with (at_builtin; refine wpList_push_int rfl _ _ 23 rfl Try.underlying23 info_int _ wo_.heap.size j (confF (-1) 7 i) (0) _ _ _ rfl (hI.ext (ext_alloc (ext_refl _) _)) ⟨wr.heap.size, 0, none⟩ 1 rfl (cell_new1 _ _ _) HA.out (by omega) (by simp; omega) ?_; intro g' c' w4 hO4 hb4)
              go_roundg (8 - (j + 1))
              case measure => omega
              case rel => exact ⟨j + 1, some ⟨g', 0, none⟩, c', by omega, rfl, by go_num, rfl, hO4, Below.trans (ext_alloc hx2 _) hb4⟩
            · have hjn : ¬ (j : Int) - 1 < 0 := by omega
              have HA := Lib.hid (show confF (-1) 7 i j = 1 by simp only [confF, if_pos hi0, if_neg (show ¬ j = 0 by omega)])
              clear hi0
              go_wp2_with (at_builtin; refine wpList_push_int rfl _ _ 23 rfl Try.underlying23 info_int _ wo_.heap.size j (confF (-1) 7 i) (1) _ _ _ rfl (hI.ext (ext_alloc (ext_refl _) _)) ⟨wr.heap.size, 0, none⟩ 1 rfl (cell_new1 _ _ _) HA.out (by omega) (by simp; omega) ?_; intro g' c' w4 hO4 hb4)
              go_roundg (8 - (j + 1))
              case measure => omega
              case rel => exact ⟨j + 1, some ⟨g', 0, none⟩, c', by omega, rfl, by go_num, rfl, hO4, Below.trans (ext_alloc hx2 _) hb4⟩
          · have hin : ¬ (i : Int) - 1 < 0 := by omega
            rcases Nat.eq_zero_or_pos j with hj0 | hj0
            · have hjn : (j : Int) - 1 < 0 := by omega
              have HA := Lib.hid (show confF (-1) 7 i j = (-1) by simp only [confF, if_pos hj0, if_neg (show ¬ i = 0 by omega)])
              clear hj0
              go_wp2_with (at_builtin; refine wpList_push_int rfl _ _ 23 rfl Try.underlying23 info_int _ wo_.heap.size j (confF (-1) 7 i) ((-1)) _ _ _ rfl (hI.ext (ext_alloc (ext_refl _) _)) ⟨wr.heap.size, 0, none⟩ 1 rfl (cell_new1 _ _ _) HA.out (by omega) (by simp; omega) ?_; intro g' c' w4 hO4 hb4)
              go_roundg (8 - (j + 1))
              case measure => omega
              case rel => exact ⟨j + 1, some ⟨g', 0, none⟩, c', by omega, rfl, by go_num, rfl, hO4, Below.trans (ext_alloc hx2 _) hb4⟩
            · have hjn : ¬ (j : Int) - 1 < 0 := by omega
              have HA := Lib.hid (show confF (-1) 7 i j = legI ((j : Int) - 1 - ((i : Int) - 1)) 7 by
                simp only [confF, if_neg (show ¬ j = 0 by omega), if_neg (show ¬ i = 0 by omega)]
                rw [show (j : Int) - 1 - ((i : Int) - 1) = j - i by omega])
              go_wp2_with (first | (go_at_call 100; refine (spec_LegendreOf _ _ _).mono ?_; rintro e w' ⟨rfl, rfl⟩) | (at_builtin; refine wpList_push_int rfl _ _ 23 rfl Try.underlying23 info_int _ wo_.heap.size j (confF (-1) 7 i) (legI ((j : Int) - 1 - ((i : Int) - 1)) 7) _ _ _ rfl (hI.ext (ext_alloc (ext_refl _) _)) ⟨wr.heap.size, 0, none⟩ 1 rfl (cell_new1 _ _ _) HA.out (by omega) (by simp; omega) ?_; intro g' c' w4 hO4 hb4))
              go_roundg (8 - (j + 1))
              case measure => omega
              case rel => exact ⟨j + 1, some ⟨g', 0, none⟩, c', by omega, rfl, by go_num, rfl, hO4, Below.trans (ext_alloc hx2 _) hb4⟩
        · obtain rfl : j = 8 := by omega
          go_wp2_with (at_builtin; refine wpList_push_row rfl _ _ 22 rfl Try.underlying22 info_ints _ w.heap.size wo_.heap.size i A' (fun _ => 8) C' (confF (-1) 7) q2 cc2 _ _ _ rfl ((hO.ext hx2).ext (ext_alloc (ext_refl _) _)) (hI.ext (ext_alloc (ext_refl _) _)) ⟨wr.heap.size, 0, none⟩ 1 rfl (cell_new1 _ _ _) (by omega) (by omega) (by simp; omega) ?_; intro g' c' A'' C'' w2 hO2 hb2)
          go_roundg (8 - (i + 1))
          case measure => omega
          case rel => exact ⟨i + 1, some ⟨g', 0, none⟩, c', A'', C'', by omega, rfl, by go_num, rfl, hO2, Below.trans (ext_alloc hxr _) hb2⟩
    · obtain rfl : i = 8 := by omega
      go_wp2
      go_ret
      exact ⟨_, _, _, _, rfl, hO, hx⟩

set_option maxHeartbeats 800000 in
theorem spec_ConferenceMatrix (p : Int) (w : World) :
    Calls Try.prog 97 #[.int .i64 p] w (MakesR w (confN p) (fun _ => confN p) (confI p)) := by
  by_cases h3 : p = 3
  · subst h3; exact spec_Conf_3 w
  · by_cases h5 : p = 5
    · subst h5; exact spec_Conf_5 w
    · by_cases h7 : p = 7
      · subst h7; exact spec_Conf_7 w
      · have HN := Lib.hid (show confN p = 0 by simp only [confN, if_neg h3, if_neg h5, if_neg h7])
        have b3 : (p != 3) = true := by simp [h3]
        have b5 : (p != 5) = true := by simp [h5]
        have b7 : (p != 7) = true := by simp [h7]
        rw [HN.out]
        go_enter Try.func97, Try.ntmps97
        go_wp2
        go_ret
        exact makesR_empty _ _ _
end Go.Proofs.Ytefgdkjcoeikmaa
