/- The contract of the reference's TurnLoad on signs (seat B). No condition but those of each contract. -/
import Derived.Test.YtefgdkjcoeikmaaAtB
import Derived.Test.YtefgdkjcoeikmaaMat1
namespace Go.Proofs.Ytefgdkjcoeikmaa
open Go.ChangeShapes Go.WideShapes Go.ChangeAt Go.RowKit
set_option linter.unusedVariables false
set_option linter.unusedSimpArgs false

set_option maxHeartbeats 1600000 in
theorem spec_TurnLoad (a : Option Addr) (n c : Nat) (X : Nat → Int) (w : World) (h : IntsAt w a n X) (hn : n ≤ 1048576) (hX : ∀ i, i < n → -1 ≤ X i ∧ X i ≤ 1) :
    Calls Try.prog 98 #[.slice a n c] w (MakesI w n (fun j => - X j)) := by
  have H := Lib.hid h
  have HX := Lib.hid hX
  have HS := Lib.hid (show allB (-1) 1 X n = true from allB_iff.2 hX)
  clear h hX
  go_enter Try.func98, Try.ntmps98
  go_wp2
  go_loopg [3, 4] n (fun g o i wr => ∃ (k : Nat) (q : Option Addr) (cc : Nat), k ≤ n ∧ g = n - k ∧ i = .int .i64 k ∧ o = .slice q k cc ∧ OI wr w.heap.size wr.heap.size (.slice q k cc) k (fun j => - X j) ∧ Ext w wr)
  case atStart => exact ⟨0, some ⟨w.heap.size, 0, none⟩, 0, Nat.zero_le _, rfl, by go_num, rfl, (OI.lit w [] _ 0 (by simp [maxLen]) rfl).now, (by repeat (first | (with_reducible exact ext_refl _) | (with_reducible refine ext_setCell ?_ ?_ _) | (with_reducible refine ext_alloc ?_ _) | (with_reducible refine ext_drewN ?_ _) | (with_reducible refine ext_drew ?_) | (with_reducible refine ext_trans ?_ (by assumption)) | (dsimp only; omega) | omega | (simp; omega)))⟩
  case round =>
    obtain ⟨k, q, cc, hk, rfl, rfl, rfl, hO, hx⟩ := hrel
    have hs := ext_size hx
    rcases Nat.lt_or_ge k n with hlt | hge
    · have hlt' : (k : Int) < n := by omega
      obtain ⟨b, off, rfl, hc⟩ := (H.out.ext hx) (by omega)
      have hck := hc k hlt
      have hrow := H.out.ext hx
      obtain ⟨x1, x2⟩ := HX.out k hlt
      clear hc
      go_wp2_with fail
      refine (spec_l03Signs _ _ _ _ _ hrow (by omega)).mono ?_
      rw [HS.out]
      rintro e w' ⟨rfl, rfl⟩
      go_wp2_with (at_builtin; refine wpList_push_int rfl _ _ 23 rfl Try.underlying23 info_int _ w.heap.size k (fun j => - X j) (- X k) _ _ _ rfl (hO.ext (ext_alloc (ext_refl _) _)) ⟨wr.heap.size, 0, none⟩ 1 rfl (cell_new1 _ _ _) rfl (by omega) (by simp; omega) ?_; intro g' c' w4 hO4 hb4)
      go_roundg (n - (k + 1))
      case measure => omega
      case rel => exact ⟨k + 1, some ⟨g', 0, none⟩, c', by omega, rfl, by go_num, rfl, hO4, Below.trans (ext_alloc hx _) hb4⟩
    · obtain rfl : k = n := by omega
      go_wp2
      go_ret
      exact ⟨_, _, rfl, hO, hx⟩
end Go.Proofs.Ytefgdkjcoeikmaa
