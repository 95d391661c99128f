/- Lists of integers in the statements: copying, comparing, marking. No condition but those of each contract. -/
import Derived.Test.YtefgdkjcoeikmaaRows
import Derived.Test.YtefgdkjcoeikmaaMem
import Derived.Test.YtefgdkjcoeikmaaMem2
import Derived.Test.YtefgdkjcoeikmaaMath
namespace Go.Proofs.Ytefgdkjcoeikmaa
open Go.ChangeShapes Go.WideShapes Go.ChangeAt Go.RowKit
set_option linter.unusedVariables false
set_option linter.unusedSimpArgs false

set_option maxHeartbeats 400000 in
theorem laws_toIntS (a : Option Addr) (n c : Nat) (X : Nat → Int) (w : World) (hn : n ≤ 1099511627776) (h : IntsAt w a n X) :
    Calls Try.prog 12 #[.slice a n c] w (MakesI w n X) := by
  have hmk := run_make_row' (P := Try.prog) 23 3 (.int .i64 0) 8 Try.underlying23 info_int rfl .i64 .i64 n (by omega) (by omega)
  go_enter Try.func12, Try.ntmps12
  go_wp2
  clear hmk
  go_loopg [4] n (fun g i wr => ∃ k : Nat, k ≤ n ∧ g = n - k ∧ i = .int .i64 k ∧ OI wr w.heap.size (w.heap.size + 1) (.slice (some ⟨w.heap.size, 0, none⟩) n n) n (fun j => if j < k then X j else 0) ∧ Ext w wr)
  case atStart => exact ⟨0, Nat.zero_le _, rfl, rfl, (OI.made w n (by unfold maxLen; omega)).congr (fun i _ => by simp), (by repeat (first | (with_reducible exact ext_refl _) | (with_reducible refine ext_setCell ?_ ?_ _) | (with_reducible refine ext_alloc ?_ _) | (with_reducible refine ext_drewN ?_ _) | (with_reducible refine ext_drew ?_) | (with_reducible refine ext_trans ?_ (by assumption)) | (dsimp only; omega) | omega | (simp; omega)))⟩
  case round =>
    obtain ⟨k, hk, rfl, rfl, hO, hx⟩ := hrel
    rcases Nat.lt_or_ge k n with hlt | hge
    · obtain ⟨b, off, rfl, hc⟩ := h.at_ hlt
      have hc' := ext_cell hx hc
      have h1 := hO.cell hlt
      have h2 := hO.frozen k
      have hO' := Lib.hid (hO.store k (X k))
      clear h hc hO
      go_wp2
      go_roundg (n - (k + 1))
      case measure => omega
      case rel => exact ⟨k + 1, by omega, rfl, by go_num, hO'.out.congr (fun i _ => by by_cases e : i = k <;> simp [e]; by_cases e2 : i < k <;> simp [e2] <;> omega), hx.setCell (Nat.le_refl _) _⟩
    · have hO' := Lib.hid (hO.congr (Y := X) (fun i hi => by rw [if_pos (by omega)]))
      clear hO h
      go_wp2
      go_ret
      exact ⟨_, _, rfl, hO'.out.now, hx⟩

theorem ext_of_same {P : Program} {f : FuncId} {args : Array Value} {w : World} {v : Value} (h : Calls P f args w fun e w' => e = .returned v ∧ w = w') : Calls P f args w fun e w' => e = .returned v ∧ Ext w w' :=
  h.mono fun _ _ ⟨a, b⟩ => ⟨a, b ▸ ext_refl _⟩
/-- the world has only drawn -/
def Drawn (w w' : World) : Prop := ∃ m, w' = w.drewN m
theorem Drawn.ext {w w' : World} (h : Drawn w w') : Ext w w' := by
  obtain ⟨m, rfl⟩ := h; exact ext_of_drewN w m
set_option maxHeartbeats 400000 in
theorem laws_eqIntS_d (a b : Option Addr) (c d n : Nat) (X Y : Nat → Int) (w : World) (hn : n ≤ 1099511627776) (ha : IntsAt w a n X) (hb : IntsAt w b n Y) (he : ∀ i, i < n → X i = Y i) :
    Calls Try.prog 16 #[.slice a n c, .slice b n d] w fun e w' => e = .returned (.bool true) ∧ Drawn w w' := by
  have HA := Lib.hid ha
  have HB := Lib.hid (hb.congr (fun i hi => (he i hi).symm))
  clear ha hb he
  go_enter Try.func16, Try.ntmps16
  go_wp2
  go_loopg [5] n (fun g i wr => ∃ k m : Nat, k ≤ n ∧ g = n - k ∧ i = .int .i64 k ∧ wr = w.drewN m)
  case atStart => exact ⟨0, 0, Nat.zero_le _, rfl, rfl, rfl⟩
  case round =>
    obtain ⟨k, m, hk, rfl, rfl, rfl⟩ := hrel
    rcases Nat.lt_or_ge k n with hlt | hge
    · obtain ⟨ba, oa, rfl, hca⟩ := HA.out.at_ hlt
      obtain ⟨bb, ob, rfl, hcb⟩ := HB.out.at_ hlt
      have hlt' : (k : Int) < (n : Int) := by omega
      go_wp2
      go_quiet (fail)
      go_wp2
      go_roundg (n - (k + 1))
      case measure => omega
      case rel => exact ⟨k + 1, m + nq, by omega, rfl, by go_num, rfl⟩
    · go_wp2
      go_ret
      exact ⟨rfl, m, rfl⟩
theorem laws_eqIntS (a b : Option Addr) (c d n : Nat) (X Y : Nat → Int) (w : World) (hn : n ≤ 1099511627776) (ha : IntsAt w a n X) (hb : IntsAt w b n Y) (he : ∀ i, i < n → X i = Y i) :
    Calls Try.prog 16 #[.slice a n c, .slice b n d] w fun e w' => e = .returned (.bool true) ∧ Ext w w' :=
  (laws_eqIntS_d a b c d n X Y w hn ha hb he).mono fun _ _ ⟨h1, h2⟩ => ⟨h1, h2.ext⟩

set_option maxHeartbeats 400000 in
theorem laws_markIntS (a : Option Addr) (n c lo hi : Nat) (m : Int) (X : Nat → Int) (w : World) (hn : n ≤ 1099511627776) (hm : 0 ≤ m) (hm2 : m ≤ 1099511627776) (h : OI w lo hi (.slice a n c) n X) :
    Calls Try.prog 18 #[.slice a n c, .int .i64 m] w fun e w' => e = .returned (.int .i64 (m + n)) ∧ OI w' lo hi (.slice a n c) n (fun j => m + j) ∧ OnlyAt a w w' := by
  have H := Lib.hid h
  clear h
  go_enter Try.func18, Try.ntmps18
  go_wp2
  go_loopg [1, 5] n (fun g q i wr => ∃ k : Nat, k ≤ n ∧ g = n - k ∧ q = .int .i64 (m + k) ∧ i = .int .i64 k ∧ OI wr lo hi (.slice a n c) n (fun j => if j < k then m + j else X j) ∧ OnlyAt a w wr)
  case atStart => exact ⟨0, Nat.zero_le _, rfl, by simp, rfl, H.out.congr (fun i _ => by simp), OnlyAt.refl _ _⟩
  case round =>
    obtain ⟨k, hk, rfl, rfl, rfl, hO, hx⟩ := hrel
    rcases Nat.lt_or_ge k n with hlt | hge
    · obtain ⟨g, rfl, b1, b2, b3⟩ := hO.head (by omega)
      have h1 := hO.cell hlt
      have h2 := hO.frozen k
      have hO' := Lib.hid (hO.store k (m + k))
      clear hO
      go_wp2
      go_roundg (n - (k + 1))
      case measure => omega
      case rel => exact ⟨k + 1, by omega, rfl, by go_num, by go_num, hO'.out.congr (fun i _ => by by_cases e : i = k <;> simp [e]; by_cases e2 : i < k <;> simp [e2] <;> omega), hx.setCell _ _⟩
    · obtain rfl : k = n := by omega
      have hO' := Lib.hid (hO.congr (Y := fun j => m + j) (fun i hi => by rw [if_pos (by omega)]))
      clear hO
      go_wp2
      go_ret
      exact ⟨rfl, hO'.out, hx⟩

end Go.Proofs.Ytefgdkjcoeikmaa
