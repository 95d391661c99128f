/- The contract of the reference's SylvesterMatrix. No condition but those of each contract. -/
import Derived.Test.YtefgdkjcoeikmaaMat8
import Derived.Laws.Bits128
import Derived.BigQuiet
namespace Go.Proofs.Ytefgdkjcoeikmaa
open Go.ChangeShapes Go.WideShapes Go.ChangeAt Go.RowKit
set_option linter.unusedVariables false
set_option linter.unusedSimpArgs false

theorem and1 (x : Int) : bits .and .i64 x 1 = x % 2 := by
  have h2 := i64_and127 x
  have h : bits .and .i64 x 1 = IntKind.i64.wrap ((BitVec.ofInt 64 x &&& BitVec.ofInt 64 1).toNat : Int) := rfl
  have h1 : (BitVec.ofInt 64 1).toNat = 1 := by decide
  rw [h, BitVec.toNat_and, h1, Nat.and_one_is_mod, BitVec.toNat_ofInt]
  have hp : (0 : Int) ≤ x % 18446744073709551616 := Int.emod_nonneg _ (by omega)
  have e : ((x % 18446744073709551616).toNat % 2 : Nat) = (x % 2).toNat := by omega
  have e2 : (x % ((2 ^ 64 : Nat) : Int)).toNat % 2 = (x % 2).toNat := e
  rw [e2]
  have : ((x % 2).toNat : Int) = x % 2 := by omega
  rw [this]
  simp [IntKind.wrap, IntKind.bits, IntKind.signed]
  omega
/-- the sign at row i, column j by the first b bits -/
def sylS (i j : Nat) : Nat → Int
  | 0 => 1
  | b + 1 => if (i / 2 ^ b) % 2 = 1 ∧ (j / 2 ^ b) % 2 = 1 then - sylS i j b else sylS i j b
theorem sylS_bound (i j b : Nat) : -1 ≤ sylS i j b ∧ sylS i j b ≤ 1 := by
  induction b with
  | zero => simp [sylS]
  | succ b ih => simp only [sylS]; split <;> omega
theorem sylS_yes {i j b : Nat} (h1 : (i / 2 ^ b) % 2 = 1) (h2 : (j / 2 ^ b) % 2 = 1) : sylS i j (b + 1) = - sylS i j b := by simp only [sylS, if_pos (And.intro h1 h2)]
theorem sylS_no1 {i j b : Nat} (h1 : ¬ (i / 2 ^ b) % 2 = 1) : sylS i j (b + 1) = sylS i j b := by simp only [sylS, if_neg (fun h : _ ∧ _ => h1 h.1)]
theorem sylS_no2 {i j b : Nat} (h2 : ¬ (j / 2 ^ b) % 2 = 1) : sylS i j (b + 1) = sylS i j b := by simp only [sylS, if_neg (fun h : _ ∧ _ => h2 h.2)]
def sylF (k : Nat) (i j : Nat) : Int := sylS i j k
def sylN (k : Int) : Nat := if inB k 0 3 then 2 ^ k.toNat else 0

set_option maxHeartbeats 3200000 in
theorem spec_Syl_0 (w : World) :
    Calls Try.prog 96 #[.int .i64 0] w (MakesR w 1 (fun _ => 1) (sylF 0)) := by
  have HA1 := and1
  have hin : inB 0 0 3 = true := by decide
  go_enter Try.func96, Try.ntmps96
  go_wp2_with (go_at_call 85; refine (spec_in _ _ _ _).mono ?_; rw [hin]; rintro e w' ⟨rfl, rfl⟩)
  go_loopg [3, 4] 1 (fun g o ii wr => ∃ (i : Nat) (q : Option Addr) (cc : Nat) (A' : Nat → Option Addr) (C' : Nat → Nat), i ≤ 1 ∧ g = 1 - i ∧ ii = .int .i64 i ∧ o = .slice q i cc ∧ OR wr w.heap.size wr.heap.size (.slice q i cc) i A' (fun _ => 1) C' (sylF 0) ∧ Ext w wr)
  case atStart => exact ⟨0, some ⟨w.heap.size, 0, none⟩, 0, fun _ => none, fun _ => 0, Nat.zero_le _, rfl, by go_num, rfl, (OR.empty w _ _ _ _).now, (by repeat (first | (with_reducible exact ext_refl _) | (with_reducible refine ext_setCell ?_ ?_ _) | (with_reducible refine ext_alloc ?_ _) | (with_reducible refine ext_drewN ?_ _) | (with_reducible refine ext_drew ?_) | (with_reducible refine ext_trans ?_ (by assumption)) | (dsimp only; omega) | omega | (simp; omega)))⟩
  case round =>
    obtain ⟨i, q, cc, A', C', hk, rfl, rfl, rfl, hO, hx⟩ := hrel
    obtain ⟨wo_, rfl⟩ : ∃ wo_ : World, wo_ = wr := ⟨_, rfl⟩
    have hszo := ext_size hx
    rcases Nat.lt_or_ge i 1 with hlt | hge
    · have hlt' : (i : Int) < 1 := by omega
      go_wp2
      go_loopg [5, 6] 1 (fun g o jj wr => ∃ (j : Nat) (q2 : Option Addr) (cc2 : Nat), j ≤ 1 ∧ g = 1 - j ∧ jj = .int .i64 j ∧ o = .slice q2 j cc2 ∧ OI wr wo_.heap.size wr.heap.size (.slice q2 j cc2) j (sylF 0 i) ∧ Ext wo_ wr)
      case atStart => exact ⟨0, some ⟨wo_.heap.size, 0, none⟩, 0, Nat.zero_le _, rfl, by go_num, rfl, (OI.lit wo_ [] _ 0 (by simp [maxLen]) rfl).now, ext_alloc (ext_refl _) _⟩
      case round =>
        obtain ⟨j, q2, cc2, hj, rfl, rfl, rfl, hI, hx2⟩ := hrel
        obtain ⟨wi_, rfl⟩ : ∃ wi_ : World, wi_ = wr := ⟨_, rfl⟩
        have hxr := ext_trans hx hx2
        have hsz2 := ext_size hx2
        rcases Nat.lt_or_ge j 1 with jlt | jge
        · have jlt' : (j : Int) < 1 := by omega
          go_wp2
          go_loopg [7, 8] 0 (fun g s bb wr => ∃ b : Nat, b ≤ 0 ∧ g = 0 - b ∧ s = .int .i64 (sylS i j b) ∧ bb = .int .i64 b ∧ wr = wi_)
          case atStart => exact ⟨0, Nat.zero_le _, rfl, rfl, by go_num, rfl⟩
          case round =>
            obtain ⟨b, hb, rfl, rfl, rfl, rfl⟩ := hrel
            obtain ⟨sb1, sb2⟩ := sylS_bound i j b
            rcases Nat.lt_or_ge b 0 with blt | bge
            · omega
            · obtain rfl : b = 0 := by omega
              go_wp2_with (at_builtin; refine wpList_push_int rfl _ _ 23 rfl Try.underlying23 info_int _ wo_.heap.size j (sylF 0 i) (sylS i j 0) _ _ _ rfl (hI.ext (ext_alloc (ext_refl _) _)) ⟨wr.heap.size, 0, none⟩ 1 rfl (cell_new1 _ _ _) rfl (by omega) (by simp; omega) ?_; intro g' c' w4 hO4 hb4)
              go_roundg (1 - (j + 1))
              case measure => omega
              case rel => exact ⟨j + 1, some ⟨g', 0, none⟩, c', by omega, rfl, by go_num, rfl, hO4, Below.trans (ext_alloc hx2 _) hb4⟩
        · obtain rfl : j = 1 := by omega
          go_wp2_with (at_builtin; refine wpList_push_row rfl _ _ 22 rfl Try.underlying22 info_ints _ w.heap.size wo_.heap.size i A' (fun _ => 1) C' (sylF 0) q2 cc2 _ _ _ rfl ((hO.ext hx2).ext (ext_alloc (ext_refl _) _)) (hI.ext (ext_alloc (ext_refl _) _)) ⟨wi_.heap.size, 0, none⟩ 1 rfl (cell_new1 _ _ _) (by omega) (by omega) (by simp; omega) ?_; intro g' c' A'' C'' w2 hO2 hb2)
          go_roundg (1 - (i + 1))
          case measure => omega
          case rel => exact ⟨i + 1, some ⟨g', 0, none⟩, c', A'', C'', by omega, rfl, by go_num, rfl, hO2, Below.trans (ext_alloc hxr _) hb2⟩
    · obtain rfl : i = 1 := by omega
      go_wp2
      go_ret
      exact ⟨_, _, _, _, rfl, hO, hx⟩

set_option maxHeartbeats 3200000 in
theorem spec_Syl_1 (w : World) :
    Calls Try.prog 96 #[.int .i64 1] w (MakesR w 2 (fun _ => 2) (sylF 1)) := by
  have HA1 := and1
  have hin : inB 1 0 3 = true := by decide
  go_enter Try.func96, Try.ntmps96
  go_wp2_with (go_at_call 85; refine (spec_in _ _ _ _).mono ?_; rw [hin]; rintro e w' ⟨rfl, rfl⟩)
  go_loopg [3, 4] 2 (fun g o ii wr => ∃ (i : Nat) (q : Option Addr) (cc : Nat) (A' : Nat → Option Addr) (C' : Nat → Nat), i ≤ 2 ∧ g = 2 - i ∧ ii = .int .i64 i ∧ o = .slice q i cc ∧ OR wr w.heap.size wr.heap.size (.slice q i cc) i A' (fun _ => 2) C' (sylF 1) ∧ Ext w wr)
  case atStart => exact ⟨0, some ⟨w.heap.size, 0, none⟩, 0, fun _ => none, fun _ => 0, Nat.zero_le _, rfl, by go_num, rfl, (OR.empty w _ _ _ _).now, (by repeat (first | (with_reducible exact ext_refl _) | (with_reducible refine ext_setCell ?_ ?_ _) | (with_reducible refine ext_alloc ?_ _) | (with_reducible refine ext_drewN ?_ _) | (with_reducible refine ext_drew ?_) | (with_reducible refine ext_trans ?_ (by assumption)) | (dsimp only; omega) | omega | (simp; omega)))⟩
  case round =>
    obtain ⟨i, q, cc, A', C', hk, rfl, rfl, rfl, hO, hx⟩ := hrel
    obtain ⟨wo_, rfl⟩ : ∃ wo_ : World, wo_ = wr := ⟨_, rfl⟩
    have hszo := ext_size hx
    rcases Nat.lt_or_ge i 2 with hlt | hge
    · have hlt' : (i : Int) < 2 := by omega
      go_wp2
      go_loopg [5, 6] 2 (fun g o jj wr => ∃ (j : Nat) (q2 : Option Addr) (cc2 : Nat), j ≤ 2 ∧ g = 2 - j ∧ jj = .int .i64 j ∧ o = .slice q2 j cc2 ∧ OI wr wo_.heap.size wr.heap.size (.slice q2 j cc2) j (sylF 1 i) ∧ Ext wo_ wr)
      case atStart => exact ⟨0, some ⟨wo_.heap.size, 0, none⟩, 0, Nat.zero_le _, rfl, by go_num, rfl, (OI.lit wo_ [] _ 0 (by simp [maxLen]) rfl).now, ext_alloc (ext_refl _) _⟩
      case round =>
        obtain ⟨j, q2, cc2, hj, rfl, rfl, rfl, hI, hx2⟩ := hrel
        obtain ⟨wi_, rfl⟩ : ∃ wi_ : World, wi_ = wr := ⟨_, rfl⟩
        have hxr := ext_trans hx hx2
        have hsz2 := ext_size hx2
        rcases Nat.lt_or_ge j 2 with jlt | jge
        · have jlt' : (j : Int) < 2 := by omega
          go_wp2
          go_loopg [7, 8] 1 (fun g s bb wr => ∃ b : Nat, b ≤ 1 ∧ g = 1 - b ∧ s = .int .i64 (sylS i j b) ∧ bb = .int .i64 b ∧ wr = wi_)
          case atStart => exact ⟨0, Nat.zero_le _, rfl, rfl, by go_num, rfl⟩
          case round =>
            obtain ⟨b, hb, rfl, rfl, rfl, rfl⟩ := hrel
            obtain ⟨sb1, sb2⟩ := sylS_bound i j b
            rcases Nat.lt_or_ge b 1 with blt | bge
            · have hcase : b = 0 := by omega
              rcases hcase with rfl
              · by_cases e1 : (i / 2 ^ 0) % 2 = 1
                · have f1 : (i : Int) % 2 = 1 := by simp at e1; omega
                  by_cases e2 : (j / 2 ^ 0) % 2 = 1
                  · have f2 : (j : Int) % 2 = 1 := by simp at e2; omega
                    have HS := Lib.hid (sylS_yes e1 e2)
                    clear e1 e2
                    go_wp2
                    go_roundg (1 - (0 + 1))
                    case measure => omega
                    case rel => exact ⟨0 + 1, by omega, rfl, by rw [HS.out], by go_num, rfl⟩
                  · have f2 : ¬ (j : Int) % 2 = 1 := by simp at e2; omega
                    have HS := Lib.hid (sylS_no2 (i := i) e2)
                    clear e1 e2
                    go_wp2
                    go_roundg (1 - (0 + 1))
                    case measure => omega
                    case rel => exact ⟨0 + 1, by omega, rfl, by rw [HS.out], by go_num, rfl⟩
                · have f1 : ¬ (i : Int) % 2 = 1 := by simp at e1; omega
                  have HS := Lib.hid (sylS_no1 (j := j) e1)
                  clear e1
                  go_wp2
                  go_roundg (1 - (0 + 1))
                  case measure => omega
                  case rel => exact ⟨0 + 1, by omega, rfl, by rw [HS.out], by go_num, rfl⟩
            · obtain rfl : b = 1 := by omega
              go_wp2_with (at_builtin; refine wpList_push_int rfl _ _ 23 rfl Try.underlying23 info_int _ wo_.heap.size j (sylF 1 i) (sylS i j 1) _ _ _ rfl (hI.ext (ext_alloc (ext_refl _) _)) ⟨wr.heap.size, 0, none⟩ 1 rfl (cell_new1 _ _ _) rfl (by omega) (by simp; omega) ?_; intro g' c' w4 hO4 hb4)
              go_roundg (2 - (j + 1))
              case measure => omega
              case rel => exact ⟨j + 1, some ⟨g', 0, none⟩, c', by omega, rfl, by go_num, rfl, hO4, Below.trans (ext_alloc hx2 _) hb4⟩
        · obtain rfl : j = 2 := by omega
          go_wp2_with (at_builtin; refine wpList_push_row rfl _ _ 22 rfl Try.underlying22 info_ints _ w.heap.size wo_.heap.size i A' (fun _ => 2) C' (sylF 1) q2 cc2 _ _ _ rfl ((hO.ext hx2).ext (ext_alloc (ext_refl _) _)) (hI.ext (ext_alloc (ext_refl _) _)) ⟨wi_.heap.size, 0, none⟩ 1 rfl (cell_new1 _ _ _) (by omega) (by omega) (by simp; omega) ?_; intro g' c' A'' C'' w2 hO2 hb2)
          go_roundg (2 - (i + 1))
          case measure => omega
          case rel => exact ⟨i + 1, some ⟨g', 0, none⟩, c', A'', C'', by omega, rfl, by go_num, rfl, hO2, Below.trans (ext_alloc hxr _) hb2⟩
    · obtain rfl : i = 2 := by omega
      go_wp2
      go_ret
      exact ⟨_, _, _, _, rfl, hO, hx⟩

set_option maxHeartbeats 3200000 in
theorem spec_Syl_2 (w : World) :
    Calls Try.prog 96 #[.int .i64 2] w (MakesR w 4 (fun _ => 4) (sylF 2)) := by
  have HA1 := and1
  have hin : inB 2 0 3 = true := by decide
  go_enter Try.func96, Try.ntmps96
  go_wp2_with (go_at_call 85; refine (spec_in _ _ _ _).mono ?_; rw [hin]; rintro e w' ⟨rfl, rfl⟩)
  go_loopg [3, 4] 4 (fun g o ii wr => ∃ (i : Nat) (q : Option Addr) (cc : Nat) (A' : Nat → Option Addr) (C' : Nat → Nat), i ≤ 4 ∧ g = 4 - i ∧ ii = .int .i64 i ∧ o = .slice q i cc ∧ OR wr w.heap.size wr.heap.size (.slice q i cc) i A' (fun _ => 4) C' (sylF 2) ∧ Ext w wr)
  case atStart => exact ⟨0, some ⟨w.heap.size, 0, none⟩, 0, fun _ => none, fun _ => 0, Nat.zero_le _, rfl, by go_num, rfl, (OR.empty w _ _ _ _).now, (by repeat (first | (with_reducible exact ext_refl _) | (with_reducible refine ext_setCell ?_ ?_ _) | (with_reducible refine ext_alloc ?_ _) | (with_reducible refine ext_drewN ?_ _) | (with_reducible refine ext_drew ?_) | (with_reducible refine ext_trans ?_ (by assumption)) | (dsimp only; omega) | omega | (simp; omega)))⟩
  case round =>
    obtain ⟨i, q, cc, A', C', hk, rfl, rfl, rfl, hO, hx⟩ := hrel
    obtain ⟨wo_, rfl⟩ : ∃ wo_ : World, wo_ = wr := ⟨_, rfl⟩
    have hszo := ext_size hx
    rcases Nat.lt_or_ge i 4 with hlt | hge
    · have hlt' : (i : Int) < 4 := by omega
      go_wp2
      go_loopg [5, 6] 4 (fun g o jj wr => ∃ (j : Nat) (q2 : Option Addr) (cc2 : Nat), j ≤ 4 ∧ g = 4 - j ∧ jj = .int .i64 j ∧ o = .slice q2 j cc2 ∧ OI wr wo_.heap.size wr.heap.size (.slice q2 j cc2) j (sylF 2 i) ∧ Ext wo_ wr)
      case atStart => exact ⟨0, some ⟨wo_.heap.size, 0, none⟩, 0, Nat.zero_le _, rfl, by go_num, rfl, (OI.lit wo_ [] _ 0 (by simp [maxLen]) rfl).now, ext_alloc (ext_refl _) _⟩
      case round =>
        obtain ⟨j, q2, cc2, hj, rfl, rfl, rfl, hI, hx2⟩ := hrel
        obtain ⟨wi_, rfl⟩ : ∃ wi_ : World, wi_ = wr := ⟨_, rfl⟩
        have hxr := ext_trans hx hx2
        have hsz2 := ext_size hx2
        rcases Nat.lt_or_ge j 4 with jlt | jge
        · have jlt' : (j : Int) < 4 := by omega
          go_wp2
          go_loopg [7, 8] 2 (fun g s bb wr => ∃ b : Nat, b ≤ 2 ∧ g = 2 - b ∧ s = .int .i64 (sylS i j b) ∧ bb = .int .i64 b ∧ wr = wi_)
          case atStart => exact ⟨0, Nat.zero_le _, rfl, rfl, by go_num, rfl⟩
          case round =>
            obtain ⟨b, hb, rfl, rfl, rfl, rfl⟩ := hrel
            obtain ⟨sb1, sb2⟩ := sylS_bound i j b
            rcases Nat.lt_or_ge b 2 with blt | bge
            · have hcase : b = 0 ∨ b = 1 := by omega
              rcases hcase with rfl | rfl
              · by_cases e1 : (i / 2 ^ 0) % 2 = 1
                · have f1 : (i : Int) % 2 = 1 := by simp at e1; omega
                  by_cases e2 : (j / 2 ^ 0) % 2 = 1
                  · have f2 : (j : Int) % 2 = 1 := by simp at e2; omega
                    have HS := Lib.hid (sylS_yes e1 e2)
                    clear e1 e2
                    go_wp2
                    go_roundg (2 - (0 + 1))
                    case measure => omega
                    case rel => exact ⟨0 + 1, by omega, rfl, by rw [HS.out], by go_num, rfl⟩
                  · have f2 : ¬ (j : Int) % 2 = 1 := by simp at e2; omega
                    have HS := Lib.hid (sylS_no2 (i := i) e2)
                    clear e1 e2
                    go_wp2
                    go_roundg (2 - (0 + 1))
                    case measure => omega
                    case rel => exact ⟨0 + 1, by omega, rfl, by rw [HS.out], by go_num, rfl⟩
                · have f1 : ¬ (i : Int) % 2 = 1 := by simp at e1; omega
                  have HS := Lib.hid (sylS_no1 (j := j) e1)
                  clear e1
                  go_wp2
                  go_roundg (2 - (0 + 1))
                  case measure => omega
                  case rel => exact ⟨0 + 1, by omega, rfl, by rw [HS.out], by go_num, rfl⟩
              · by_cases e1 : (i / 2 ^ 1) % 2 = 1
                · have f1 : ((i : Int) / 2) % 2 = 1 := by simp at e1; omega
                  by_cases e2 : (j / 2 ^ 1) % 2 = 1
                  · have f2 : ((j : Int) / 2) % 2 = 1 := by simp at e2; omega
                    have HS := Lib.hid (sylS_yes e1 e2)
                    clear e1 e2
                    go_wp2
                    go_roundg (2 - (1 + 1))
                    case measure => omega
                    case rel => exact ⟨1 + 1, by omega, rfl, by rw [HS.out], by go_num, rfl⟩
                  · have f2 : ¬ ((j : Int) / 2) % 2 = 1 := by simp at e2; omega
                    have HS := Lib.hid (sylS_no2 (i := i) e2)
                    clear e1 e2
                    go_wp2
                    go_roundg (2 - (1 + 1))
                    case measure => omega
                    case rel => exact ⟨1 + 1, by omega, rfl, by rw [HS.out], by go_num, rfl⟩
                · have f1 : ¬ ((i : Int) / 2) % 2 = 1 := by simp at e1; omega
                  have HS := Lib.hid (sylS_no1 (j := j) e1)
                  clear e1
                  go_wp2
                  go_roundg (2 - (1 + 1))
                  case measure => omega
                  case rel => exact ⟨1 + 1, by omega, rfl, by rw [HS.out], by go_num, rfl⟩
            · obtain rfl : b = 2 := by omega
              go_wp2_with (at_builtin; refine wpList_push_int rfl _ _ 23 rfl Try.underlying23 info_int _ wo_.heap.size j (sylF 2 i) (sylS i j 2) _ _ _ rfl (hI.ext (ext_alloc (ext_refl _) _)) ⟨wr.heap.size, 0, none⟩ 1 rfl (cell_new1 _ _ _) rfl (by omega) (by simp; omega) ?_; intro g' c' w4 hO4 hb4)
              go_roundg (4 - (j + 1))
              case measure => omega
              case rel => exact ⟨j + 1, some ⟨g', 0, none⟩, c', by omega, rfl, by go_num, rfl, hO4, Below.trans (ext_alloc hx2 _) hb4⟩
        · obtain rfl : j = 4 := by omega
          go_wp2_with (at_builtin; refine wpList_push_row rfl _ _ 22 rfl Try.underlying22 info_ints _ w.heap.size wo_.heap.size i A' (fun _ => 4) C' (sylF 2) q2 cc2 _ _ _ rfl ((hO.ext hx2).ext (ext_alloc (ext_refl _) _)) (hI.ext (ext_alloc (ext_refl _) _)) ⟨wi_.heap.size, 0, none⟩ 1 rfl (cell_new1 _ _ _) (by omega) (by omega) (by simp; omega) ?_; intro g' c' A'' C'' w2 hO2 hb2)
          go_roundg (4 - (i + 1))
          case measure => omega
          case rel => exact ⟨i + 1, some ⟨g', 0, none⟩, c', A'', C'', by omega, rfl, by go_num, rfl, hO2, Below.trans (ext_alloc hxr _) hb2⟩
    · obtain rfl : i = 4 := by omega
      go_wp2
      go_ret
      exact ⟨_, _, _, _, rfl, hO, hx⟩

set_option maxHeartbeats 3200000 in
theorem spec_Syl_3 (w : World) :
    Calls Try.prog 96 #[.int .i64 3] w (MakesR w 8 (fun _ => 8) (sylF 3)) := by
  have HA1 := and1
  have hin : inB 3 0 3 = true := by decide
  go_enter Try.func96, Try.ntmps96
  go_wp2_with (go_at_call 85; refine (spec_in _ _ _ _).mono ?_; rw [hin]; rintro e w' ⟨rfl, rfl⟩)
  go_loopg [3, 4] 8 (fun g o ii wr => ∃ (i : Nat) (q : Option Addr) (cc : Nat) (A' : Nat → Option Addr) (C' : Nat → Nat), i ≤ 8 ∧ g = 8 - i ∧ ii = .int .i64 i ∧ o = .slice q i cc ∧ OR wr w.heap.size wr.heap.size (.slice q i cc) i A' (fun _ => 8) C' (sylF 3) ∧ Ext w wr)
  case atStart => exact ⟨0, some ⟨w.heap.size, 0, none⟩, 0, fun _ => none, fun _ => 0, Nat.zero_le _, rfl, by go_num, rfl, (OR.empty w _ _ _ _).now, (by repeat (first | (with_reducible exact ext_refl _) | (with_reducible refine ext_setCell ?_ ?_ _) | (with_reducible refine ext_alloc ?_ _) | (with_reducible refine ext_drewN ?_ _) | (with_reducible refine ext_drew ?_) | (with_reducible refine ext_trans ?_ (by assumption)) | (dsimp only; omega) | omega | (simp; omega)))⟩
  case round =>
    obtain ⟨i, q, cc, A', C', hk, rfl, rfl, rfl, hO, hx⟩ := hrel
    obtain ⟨wo_, rfl⟩ : ∃ wo_ : World, wo_ = wr := ⟨_, rfl⟩
    have hszo := ext_size hx
    rcases Nat.lt_or_ge i 8 with hlt | hge
    · have hlt' : (i : Int) < 8 := by omega
      go_wp2
      go_loopg [5, 6] 8 (fun g o jj wr => ∃ (j : Nat) (q2 : Option Addr) (cc2 : Nat), j ≤ 8 ∧ g = 8 - j ∧ jj = .int .i64 j ∧ o = .slice q2 j cc2 ∧ OI wr wo_.heap.size wr.heap.size (.slice q2 j cc2) j (sylF 3 i) ∧ Ext wo_ wr)
      case atStart => exact ⟨0, some ⟨wo_.heap.size, 0, none⟩, 0, Nat.zero_le _, rfl, by go_num, rfl, (OI.lit wo_ [] _ 0 (by simp [maxLen]) rfl).now, ext_alloc (ext_refl _) _⟩
      case round =>
        obtain ⟨j, q2, cc2, hj, rfl, rfl, rfl, hI, hx2⟩ := hrel
        obtain ⟨wi_, rfl⟩ : ∃ wi_ : World, wi_ = wr := ⟨_, rfl⟩
        have hxr := ext_trans hx hx2
        have hsz2 := ext_size hx2
        rcases Nat.lt_or_ge j 8 with jlt | jge
        · have jlt' : (j : Int) < 8 := by omega
          go_wp2
          go_loopg [7, 8] 3 (fun g s bb wr => ∃ b : Nat, b ≤ 3 ∧ g = 3 - b ∧ s = .int .i64 (sylS i j b) ∧ bb = .int .i64 b ∧ wr = wi_)
          case atStart => exact ⟨0, Nat.zero_le _, rfl, rfl, by go_num, rfl⟩
          case round =>
            obtain ⟨b, hb, rfl, rfl, rfl, rfl⟩ := hrel
            obtain ⟨sb1, sb2⟩ := sylS_bound i j b
            rcases Nat.lt_or_ge b 3 with blt | bge
            · have hcase : b = 0 ∨ b = 1 ∨ b = 2 := by omega
              rcases hcase with rfl | rfl | rfl
              · by_cases e1 : (i / 2 ^ 0) % 2 = 1
                · have f1 : (i : Int) % 2 = 1 := by simp at e1; omega
                  by_cases e2 : (j / 2 ^ 0) % 2 = 1
                  · have f2 : (j : Int) % 2 = 1 := by simp at e2; omega
                    have HS := Lib.hid (sylS_yes e1 e2)
                    clear e1 e2
                    go_wp2
                    go_roundg (3 - (0 + 1))
                    case measure => omega
                    case rel => exact ⟨0 + 1, by omega, rfl, by rw [HS.out], by go_num, rfl⟩
                  · have f2 : ¬ (j : Int) % 2 = 1 := by simp at e2; omega
                    have HS := Lib.hid (sylS_no2 (i := i) e2)
                    clear e1 e2
                    go_wp2
                    go_roundg (3 - (0 + 1))
                    case measure => omega
                    case rel => exact ⟨0 + 1, by omega, rfl, by rw [HS.out], by go_num, rfl⟩
                · have f1 : ¬ (i : Int) % 2 = 1 := by simp at e1; omega
                  have HS := Lib.hid (sylS_no1 (j := j) e1)
                  clear e1
                  go_wp2
                  go_roundg (3 - (0 + 1))
                  case measure => omega
                  case rel => exact ⟨0 + 1, by omega, rfl, by rw [HS.out], by go_num, rfl⟩
              · by_cases e1 : (i / 2 ^ 1) % 2 = 1
                · have f1 : ((i : Int) / 2) % 2 = 1 := by simp at e1; omega
                  by_cases e2 : (j / 2 ^ 1) % 2 = 1
                  · have f2 : ((j : Int) / 2) % 2 = 1 := by simp at e2; omega
                    have HS := Lib.hid (sylS_yes e1 e2)
                    clear e1 e2
                    go_wp2
                    go_roundg (3 - (1 + 1))
                    case measure => omega
                    case rel => exact ⟨1 + 1, by omega, rfl, by rw [HS.out], by go_num, rfl⟩
                  · have f2 : ¬ ((j : Int) / 2) % 2 = 1 := by simp at e2; omega
                    have HS := Lib.hid (sylS_no2 (i := i) e2)
                    clear e1 e2
                    go_wp2
                    go_roundg (3 - (1 + 1))
                    case measure => omega
                    case rel => exact ⟨1 + 1, by omega, rfl, by rw [HS.out], by go_num, rfl⟩
                · have f1 : ¬ ((i : Int) / 2) % 2 = 1 := by simp at e1; omega
                  have HS := Lib.hid (sylS_no1 (j := j) e1)
                  clear e1
                  go_wp2
                  go_roundg (3 - (1 + 1))
                  case measure => omega
                  case rel => exact ⟨1 + 1, by omega, rfl, by rw [HS.out], by go_num, rfl⟩
              · by_cases e1 : (i / 2 ^ 2) % 2 = 1
                · have f1 : ((i : Int) / 4) % 2 = 1 := by simp at e1; omega
                  by_cases e2 : (j / 2 ^ 2) % 2 = 1
                  · have f2 : ((j : Int) / 4) % 2 = 1 := by simp at e2; omega
                    have HS := Lib.hid (sylS_yes e1 e2)
                    clear e1 e2
                    go_wp2
                    go_roundg (3 - (2 + 1))
                    case measure => omega
                    case rel => exact ⟨2 + 1, by omega, rfl, by rw [HS.out], by go_num, rfl⟩
                  · have f2 : ¬ ((j : Int) / 4) % 2 = 1 := by simp at e2; omega
                    have HS := Lib.hid (sylS_no2 (i := i) e2)
                    clear e1 e2
                    go_wp2
                    go_roundg (3 - (2 + 1))
                    case measure => omega
                    case rel => exact ⟨2 + 1, by omega, rfl, by rw [HS.out], by go_num, rfl⟩
                · have f1 : ¬ ((i : Int) / 4) % 2 = 1 := by simp at e1; omega
                  have HS := Lib.hid (sylS_no1 (j := j) e1)
                  clear e1
                  go_wp2
                  go_roundg (3 - (2 + 1))
                  case measure => omega
                  case rel => exact ⟨2 + 1, by omega, rfl, by rw [HS.out], by go_num, rfl⟩
            · obtain rfl : b = 3 := by omega
              go_wp2_with (at_builtin; refine wpList_push_int rfl _ _ 23 rfl Try.underlying23 info_int _ wo_.heap.size j (sylF 3 i) (sylS i j 3) _ _ _ rfl (hI.ext (ext_alloc (ext_refl _) _)) ⟨wr.heap.size, 0, none⟩ 1 rfl (cell_new1 _ _ _) rfl (by omega) (by simp; omega) ?_; intro g' c' w4 hO4 hb4)
              go_roundg (8 - (j + 1))
              case measure => omega
              case rel => exact ⟨j + 1, some ⟨g', 0, none⟩, c', by omega, rfl, by go_num, rfl, hO4, Below.trans (ext_alloc hx2 _) hb4⟩
        · obtain rfl : j = 8 := by omega
          go_wp2_with (at_builtin; refine wpList_push_row rfl _ _ 22 rfl Try.underlying22 info_ints _ w.heap.size wo_.heap.size i A' (fun _ => 8) C' (sylF 3) q2 cc2 _ _ _ rfl ((hO.ext hx2).ext (ext_alloc (ext_refl _) _)) (hI.ext (ext_alloc (ext_refl _) _)) ⟨wi_.heap.size, 0, none⟩ 1 rfl (cell_new1 _ _ _) (by omega) (by omega) (by simp; omega) ?_; intro g' c' A'' C'' w2 hO2 hb2)
          go_roundg (8 - (i + 1))
          case measure => omega
          case rel => exact ⟨i + 1, some ⟨g', 0, none⟩, c', A'', C'', by omega, rfl, by go_num, rfl, hO2, Below.trans (ext_alloc hxr _) hb2⟩
    · obtain rfl : i = 8 := by omega
      go_wp2
      go_ret
      exact ⟨_, _, _, _, rfl, hO, hx⟩

set_option maxHeartbeats 800000 in
theorem spec_SylvesterMatrix (k : Int) (w : World) :
    Calls Try.prog 96 #[.int .i64 k] w (MakesR w (sylN k) (fun _ => sylN k) (sylF k.toNat)) := by
  cases h : inB k 0 3
  · have HN := Lib.hid (show sylN k = 0 by simp [sylN, h])
    rw [HN.out]
    go_enter Try.func96, Try.ntmps96
    go_wp2_with (go_at_call 85; refine (spec_in _ _ _ _).mono ?_; rw [h]; rintro e w' ⟨rfl, rfl⟩)
    go_ret
    exact makesR_empty _ _ _
  · obtain ⟨h1, h2⟩ := inB_true.1 h
    have hk : k = 0 ∨ k = 1 ∨ k = 2 ∨ k = 3 := by omega
    rcases hk with rfl | rfl | rfl | rfl
    · exact spec_Syl_0 w
    · exact spec_Syl_1 w
    · exact spec_Syl_2 w
    · exact spec_Syl_3 w
end Go.Proofs.Ytefgdkjcoeikmaa
