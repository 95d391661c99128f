/- The contract of the program's SylvesterMatrix. No condition but those of each contract. -/
import Derived.Test.YtefgdkjcoeikmaaSyl1
import Derived.Test.YtefgdkjcoeikmaaGrow2
import Derived.Test.YtefgdkjcoeikmaaDet1
namespace Go.Proofs.Ytefgdkjcoeikmaa
open Go.ChangeShapes Go.WideShapes Go.ChangeAt Go.RowKit
set_option linter.unusedVariables false
set_option linter.unusedSimpArgs false

theorem bit_add {i b t : Nat} (h : b < t) : ((i + 2 ^ t) / 2 ^ b) % 2 = (i / 2 ^ b) % 2 := by
  obtain ⟨c, rfl⟩ : ∃ c, t = b + (c + 1) := ⟨t - b - 1, by omega⟩
  have e : 2 ^ (b + (c + 1)) = 2 ^ b * (2 * 2 ^ c) := by rw [Nat.pow_add, Nat.pow_succ, Nat.mul_comm (2 ^ c) 2]
  rw [e, Nat.add_mul_div_left _ _ (Nat.two_pow_pos b)]
  omega
theorem syl_i {i j t : Nat} : ∀ b, b ≤ t → sylS (i + 2 ^ t) j b = sylS i j b := by
  intro b
  induction b with
  | zero => intro _; rfl
  | succ b ih => intro h; simp only [sylS]; rw [bit_add (by omega), ih (by omega)]
theorem syl_j {i j t : Nat} : ∀ b, b ≤ t → sylS i (j + 2 ^ t) b = sylS i j b := by
  intro b
  induction b with
  | zero => intro _; rfl
  | succ b ih => intro h; simp only [sylS]; rw [bit_add (i := j) (by omega), ih (by omega)]
theorem bit_low {i t : Nat} (h : i < 2 ^ t) : ¬ (i / 2 ^ t) % 2 = 1 := by rw [Nat.div_eq_of_lt h]; omega
theorem bit_high {i t : Nat} (h : i < 2 ^ t) : ((i + 2 ^ t) / 2 ^ t) % 2 = 1 := by
  have := Nat.add_mul_div_left i 1 (Nat.two_pow_pos t)
  rw [Nat.mul_one] at this
  rw [this, Nat.div_eq_of_lt h]
/-- the upper half's row -/
theorem syl_top {i t : Nat} (h : i < 2 ^ t) (j : Nat) (hj : j < 2 ^ t + 2 ^ t) : joinF (2 ^ t) (sylF t i) (sylF t i) j = sylF (t + 1) i j := by
  unfold joinF sylF
  rw [sylS_no1 (bit_low h)]
  split
  · rfl
  · have := syl_j (i := i) (j := j - 2 ^ t) (t := t) t (Nat.le_refl _)
    rw [show j - 2 ^ t + 2 ^ t = j by omega] at this
    exact this.symm
/-- the lower half's row -/
theorem syl_bot {i t : Nat} (h : i < 2 ^ t) (j : Nat) (hj : j < 2 ^ t + 2 ^ t) : joinF (2 ^ t) (sylF t i) (fun j => - sylF t i j) j = sylF (t + 1) (i + 2 ^ t) j := by
  unfold joinF sylF
  split
  · next hl => rw [sylS_no2 (bit_low hl), syl_i t (Nat.le_refl _)]
  · have hl : j - 2 ^ t < 2 ^ t := by omega
    obtain ⟨j', rfl⟩ : ∃ j', j = j' + 2 ^ t := ⟨j - 2 ^ t, by omega⟩
    rw [show j' + 2 ^ t - 2 ^ t = j' by omega] at hl ⊢
    rw [sylS_yes (bit_high h) (bit_high hl), syl_i t (Nat.le_refl _), syl_j t (Nat.le_refl _)]

set_option maxHeartbeats 800000 in
theorem impl_negated (a : Option Addr) (n c : Nat) (X : Nat → Int) (w : World) (h : IntsAt w a n X) (hn : n ≤ 1048576) (hX : ∀ i, i < n → -1 ≤ X i ∧ X i ≤ 1) :
    Calls Try.prog 84 #[.slice a n c] w (MakesI w n (fun j => - X j)) := by
  have H := Lib.hid h
  have HX := Lib.hid hX
  clear h hX
  go_enter Try.func84, Try.ntmps84
  go_wp2
  go_loopg [3, 8] n (fun g o i wr => ∃ (k : Nat) (q : Option Addr) (cc : Nat), k ≤ n ∧ g = n - k ∧ i = .int .i64 k ∧ o = .slice q k cc ∧ OI wr w.heap.size wr.heap.size (.slice q k cc) k (fun j => - X j) ∧ Ext w wr)
  case atStart => exact ⟨0, none, 0, Nat.zero_le _, rfl, by go_num, rfl, OI.nil _ _ _ _, (by repeat (first | (with_reducible exact ext_refl _) | (with_reducible refine ext_setCell ?_ ?_ _) | (with_reducible refine ext_alloc ?_ _) | (with_reducible refine ext_drewN ?_ _) | (with_reducible refine ext_drew ?_) | (with_reducible refine ext_trans ?_ (by assumption)) | (dsimp only; omega) | omega | (simp; omega)))⟩
  case round =>
    obtain ⟨k, q, cc, hk, rfl, rfl, rfl, hO, hx⟩ := hrel
    have hs := ext_size hx
    rcases Nat.lt_or_ge k n with hlt | hge
    · have hlt' : (k : Int) < n := by omega
      obtain ⟨b, off, rfl, hc⟩ := (H.out.ext hx) (by omega)
      have hck := hc k hlt
      obtain ⟨x1, x2⟩ := HX.out k hlt
      have HW := Lib.hid (show - X k = - X k from rfl)
      clear hc
      go_wp2_with (at_builtin; refine wpList_push_int rfl _ _ 23 rfl Try.underlying23 info_int _ w.heap.size k (fun j => - X j) (- X k) _ _ _ rfl (hO.ext (ext_alloc (ext_refl _) _)) ⟨wr.heap.size, 0, none⟩ 1 rfl (cell_new1 _ _ _) rfl (by omega) (by simp; omega) ?_; intro g' c' w4 hO4 hb4)
      go_roundg (n - (k + 1))
      case measure => omega
      case rel => exact ⟨k + 1, some ⟨g', 0, none⟩, c', by omega, rfl, by go_num, rfl, hO4, Below.trans (ext_alloc hx _) hb4⟩
    · obtain rfl : k = n := by omega
      go_wp2
      go_ret
      exact ⟨_, _, rfl, hO, hx⟩
end Go.Proofs.Ytefgdkjcoeikmaa
