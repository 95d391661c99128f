/- Rows of integers in the statements: size, copying, comparing, marking. No condition but those of each contract. -/
import Derived.Test.YtefgdkjcoeikmaaList1
namespace Go.Proofs.Ytefgdkjcoeikmaa
open Go.ChangeShapes Go.WideShapes Go.ChangeAt Go.RowKit
set_option linter.unusedVariables false
set_option linter.unusedSimpArgs false

/-- how many cells lie ahead of row k -/
def off (L : Nat → Nat) : Nat → Nat
  | 0 => 0
  | k + 1 => off L k + L k
theorem off_mono {L : Nat → Nat} {i k : Nat} (h : i ≤ k) : off L i ≤ off L k := by
  induction k with
  | zero => obtain rfl : i = 0 := by omega
            exact Nat.le_refl _
  | succ k ih =>
    by_cases e : i = k + 1
    · subst e; exact Nat.le_refl _
    · have := ih (by omega); simp only [off]; omega
theorem off_row {L : Nat → Nat} {i n : Nat} (h : i < n) : off L i + L i ≤ off L n := off_mono (L := L) (i := i + 1) (k := n) h
theorem off_congr {L L' : Nat → Nat} {n : Nat} (h : ∀ i, i < n → L i = L' i) : off L n = off L' n := by
  induction n with
  | zero => rfl
  | succ n ih => simp only [off]; rw [ih (fun i hi => h i (by omega)), h n (by omega)]

/-! ### size -/
theorem laws_szIntS_yes (a : Option Addr) (n c : Nat) (l : Int) (w : World) (h : (n : Int) ≤ l) (h2 : l ≤ 1048576) :
    Calls Try.prog 52 #[.slice a n c, .int .i64 l] w fun e w' => e = .returned (.int .i64 (l - n)) ∧ w = w' := by
  go_enter Try.func52, Try.ntmps52
  go_wp2
  go_ret
  exact ⟨rfl, rfl⟩
theorem laws_szIntS_no (a : Option Addr) (n c : Nat) (l : Int) (w : World) (h : l < (n : Int)) (h1 : 0 ≤ l) (h2 : n ≤ 9223372036854775807) :
    Calls Try.prog 52 #[.slice a n c, .int .i64 l] w fun e w' => e = .returned (.int .i64 (-1)) ∧ w = w' := by
  go_enter Try.func52, Try.ntmps52
  go_wp2
  go_ret
  exact ⟨rfl, rfl⟩
/-- either too large, or all lengths together are small -/
def Sized (n : Nat) (L : Nat → Nat) (w : World) (e : Ending) (w' : World) : Prop :=
  (e = .returned (.int .i64 (-1)) ∨ ∃ r : Int, 0 ≤ r ∧ r ≤ 1048576 ∧ e = .returned (.int .i64 r) ∧ n ≤ 1048576 ∧ off L n ≤ 1048576) ∧ w = w'
set_option maxHeartbeats 800000 in
theorem laws_szIntSS (a : Option Addr) (n c : Nat) (A : Nat → Option Addr) (L C : Nat → Nat) (X : Nat → Nat → Int) (l : Int) (w : World) (h : RowsAt w a n A L C X) (hn : n ≤ 9223372036854775807) (l1 : 0 ≤ l) (l2 : l ≤ 1048576) :
    Calls Try.prog 9 #[.slice a n c, .int .i64 l] w (Sized n L w) := by
  have H := Lib.hid h
  clear h
  by_cases h0 : (n : Int) ≤ l
  · go_enter Try.func9, Try.ntmps9
    go_wp2
    go_loop [1, 5] (fun q i => ∃ k : Nat, k ≤ n ∧ q = .int .i64 (l - n - off L k) ∧ i = .int .i64 k ∧ (off L k : Int) ≤ l - n) (fun _ i => n - (intOf i).toNat)
    case atStart => exact ⟨0, Nat.zero_le _, by simp [off], rfl, by simp [off]; omega⟩
    case round =>
      obtain ⟨k, hk, rfl, rfl, ho⟩ := hrel
      rcases Nat.lt_or_ge k n with hlt | hge
      · obtain ⟨b, of, rfl, hc⟩ := H.out.at_ hlt
        obtain ⟨c1, c2⟩ := H.out.le k hlt
        unfold maxLen at c2
        have hoff := Lib.hid (show off L (k + 1) = off L k + L k from rfl)
        by_cases hs : (L k : Int) ≤ l - n - off L k
        · go_wp2_with (go_at_call 52; refine (laws_szIntS_yes _ _ _ _ _ (by omega) (by omega)).mono ?_; rintro e w' ⟨rfl, rfl⟩)
          go_round
          case measure => simp [intOf]; omega
          case rel => exact ⟨k + 1, by omega, by rw [hoff.out]; go_num, by go_num, by rw [hoff.out]; omega⟩
        · go_wp2_with (go_at_call 52; refine (laws_szIntS_no _ _ _ _ _ (by omega) (by omega) (by omega)).mono ?_; rintro e w' ⟨rfl, rfl⟩)
          go_ret
          exact ⟨.inl rfl, rfl⟩
      · obtain rfl : k = n := by omega
        go_wp2
        go_ret
        exact ⟨.inr ⟨_, by omega, by omega, rfl, by omega, by omega⟩, rfl⟩
  · go_enter Try.func9, Try.ntmps9
    go_wp2
    go_ret
    exact ⟨.inl rfl, rfl⟩

/-! ### copying -/
set_option maxHeartbeats 1600000 in
theorem laws_toIntSS (a : Option Addr) (n c : Nat) (A : Nat → Option Addr) (L C : Nat → Nat) (X : Nat → Nat → Int) (w : World) (hn : n ≤ 1048576) (h : RowsAt w a n A L C X) (hT : off L n ≤ 1048576) :
    Calls Try.prog 11 #[.slice a n c] w (MakesR w n L X) := by
  have H := Lib.hid h
  clear h
  have hmk := run_make_row' (P := Try.prog) 22 23 (.slice none 0 0) 24 Try.underlying22 info_ints rfl .i64 .i64 n (by omega) (by omega)
  go_enter Try.func11, Try.ntmps11
  go_wp2
  clear hmk
  go_loopg [4] n (fun g i wr => ∃ (k : Nat) (A' : Nat → Option Addr) (L' C' : Nat → Nat), k ≤ n ∧ g = n - k ∧ i = .int .i64 k ∧ OR wr w.heap.size wr.heap.size (.slice (some ⟨w.heap.size, 0, none⟩) n n) n A' L' C' X ∧ Hid (∀ j, j < n → L' j = if j < k then L j else 0) ∧ Ext w wr)
  case atStart => exact ⟨0, _, _, _, Nat.zero_le _, rfl, rfl, (OR.made w n X (by unfold maxLen; omega)).now, Lib.hid (fun j _ => by simp), (by repeat (first | (with_reducible exact ext_refl _) | (with_reducible refine ext_setCell ?_ ?_ _) | (with_reducible refine ext_alloc ?_ _) | (with_reducible refine ext_drewN ?_ _) | (with_reducible refine ext_drew ?_) | (with_reducible refine ext_trans ?_ (by assumption)) | (dsimp only; omega) | omega | (simp; omega)))⟩
  case round =>
    obtain ⟨k, A', L', C', hk, rfl, rfl, hO, hE, hx⟩ := hrel
    rcases Nat.lt_or_ge k n with hlt | hge
    · obtain ⟨b, off, rfl, hc⟩ := H.out.at_ hlt
      have hc' := ext_cell hx hc
      have hr := (H.out.row k hlt).ext hx
      have hl := off_row (L := L) hlt
      have hlt' : (k : Int) < (n : Int) := by omega
      clear hc
      go_wp2_with fail
      refine (laws_toIntS _ _ _ (X k) _ (by omega) hr).mono ?_
      rintro e w1 ⟨p, q, rfl, hO1, hx1⟩
      have hO' := hO.ext hx1
      have h1 := hO'.cell hlt
      have h2 := hO'.frozen k
      have HP := Lib.hid (hO'.put (k := k) hO1 (ext_size hx) (ext_size hx1))
      have hs1 := ext_size hx
      have hs2 := ext_size hx1
      have hx2 : Ext w w1 := ext_trans hx hx1
      clear hO hO' hr
      go_wp2_with fail
      go_roundg (n - (k + 1))
      case measure => omega
      case rel =>
        refine ⟨k + 1, _, _, _, by omega, rfl, by go_num, (HP.out.now).congr ?_, Lib.hid ?_, hx2.setCell (Nat.le_refl _) _⟩
        · intro i hi j hj
          by_cases e : i = k <;> simp [e]
        · intro j hj
          by_cases e : j = k
          · subst e; simp
          · simp only [e, if_false]
            rw [hE.out j hj]
            by_cases e2 : j < k
            · rw [if_pos e2, if_pos (by omega)]
            · rw [if_neg e2, if_neg (by omega)]
    · obtain rfl : k = n := by omega
      have hO' := Lib.hid (hO.congrL (L' := L) (fun i hi => by rw [hE.out i hi, if_pos hi]))
      clear hO
      go_wp2
      go_ret
      exact ⟨_, _, _, _, rfl, hO'.out, hx⟩

/-! ### comparing -/
set_option maxHeartbeats 1600000 in
theorem laws_eqIntSS (a b : Option Addr) (c d n : Nat) (A B : Nat → Option Addr) (L C L' C' : Nat → Nat) (X Y : Nat → Nat → Int) (w : World) (hn : n ≤ 1048576) (ha : RowsAt w a n A L C X) (hb : RowsAt w b n B L' C' Y)
    (hT : off L n ≤ 1048576) (hL : ∀ i, i < n → L i = L' i) (he : ∀ i, i < n → ∀ j, j < L i → X i j = Y i j) :
    Calls Try.prog 15 #[.slice a n c, .slice b n d] w fun e w' => e = .returned (.bool true) ∧ Ext w w' := by
  have HA := Lib.hid ha
  have HB := Lib.hid hb
  have HL := Lib.hid hL
  have HE := Lib.hid he
  clear ha hb hL he
  go_enter Try.func15, Try.ntmps15
  go_wp2
  go_loopg [5] n (fun g i wr => ∃ k : Nat, k ≤ n ∧ g = n - k ∧ i = .int .i64 k ∧ Ext w wr)
  case atStart => exact ⟨0, Nat.zero_le _, rfl, rfl, ext_refl _⟩
  case round =>
    obtain ⟨k, hk, rfl, rfl, hx⟩ := hrel
    rcases Nat.lt_or_ge k n with hlt | hge
    · obtain ⟨ba, oa, rfl, hca0⟩ := HA.out.at_ hlt
      obtain ⟨bb, ob, rfl, hcb0⟩ := HB.out.at_ hlt
      have hl1 := off_row (L := L) hlt
      have hl2 := HL.out k hlt
      rw [← hl2] at hcb0
      have hca := ext_cell hx hca0
      have hcb := ext_cell hx hcb0
      have hra := (HA.out.row k hlt).ext hx
      have hrb := (HB.out.row k hlt).ext hx
      rw [← hl2] at hrb
      have hee := Lib.hid (HE.out k hlt)
      have hlt' : (k : Int) < (n : Int) := by omega
      clear hl2 hca0 hcb0
      go_wp2
      go_quiet ((go_at_call 16; exact Calls.quiet_of (laws_eqIntS_d _ _ _ _ _ _ _ _ (by omega) (hra.ext (ext_of_drewN _ _)) (hrb.ext (ext_of_drewN _ _)) hee.out)))
      go_wp2
      go_roundg (n - (k + 1))
      case measure => omega
      case rel => exact ⟨k + 1, by omega, rfl, by go_num, ext_drewN hx _⟩
    · go_wp2
      go_ret
      exact ⟨rfl, hx⟩

/-! ### marking -/
def markF (m : Int) (L : Nat → Nat) : Nat → Nat → Int := fun i j => m + off L i + j
set_option maxHeartbeats 1600000 in
theorem laws_markIntSS (a : Option Addr) (n c lo hi : Nat) (A : Nat → Option Addr) (L C : Nat → Nat) (X : Nat → Nat → Int) (m : Int) (w : World) (hn : n ≤ 1048576) (hm : 0 ≤ m) (hm2 : m ≤ 1) (h : OR w lo hi (.slice a n c) n A L C X) (hT : off L n ≤ 1048576) :
    Calls Try.prog 17 #[.slice a n c, .int .i64 m] w fun e w' => e = .returned (.int .i64 (m + off L n)) ∧ OR w' lo hi (.slice a n c) n A L C (markF m L) ∧ Within lo hi w w' := by
  have H := Lib.hid h
  clear h
  go_enter Try.func17, Try.ntmps17
  go_wp2
  go_loopg [1, 5] n (fun g q i wr => ∃ k : Nat, k ≤ n ∧ g = n - k ∧ q = .int .i64 (m + off L k) ∧ i = .int .i64 k ∧ OR wr lo hi (.slice a n c) n A L C (fun i j => if i < k then markF m L i j else X i j) ∧ Within lo hi w wr)
  case atStart => exact ⟨0, Nat.zero_le _, rfl, by simp [off], rfl, H.out.congr (fun i _ j _ => by simp), Within.refl _ _ _⟩
  case round =>
    obtain ⟨k, hk, rfl, rfl, rfl, hO, hx⟩ := hrel
    rcases Nat.lt_or_ge k n with hlt | hge
    · obtain ⟨b, of, rfl, hc⟩ := hO.rows.at_ hlt
      have hr := hO.row k hlt
      have hl1 := off_row (L := L) hlt
      have hlt' : (k : Int) < (n : Int) := by omega
      have hoff := Lib.hid (show off L (k + 1) = off L k + L k from rfl)
      go_wp2_with fail
      refine (laws_markIntS _ _ _ lo hi _ _ _ (by omega) (by omega) (by omega) hr).mono ?_
      rintro e w1 ⟨rfl, hO1, hy⟩
      have HP := Lib.hid (hO.mark hlt hy hO1)
      have hx1 := hx.trans (hy.within (fun p hp => ⟨(hr.lt p hp).1, (hr.lt p hp).2.2.1⟩))
      clear hO hr hO1 hy
      go_wp2_with fail
      go_roundg (n - (k + 1))
      case measure => omega
      case rel =>
        refine ⟨k + 1, by omega, rfl, by rw [hoff.out]; go_num, by go_num, HP.out.congr ?_, hx1⟩
        intro i hi j hj
        by_cases e : i = k
        · subst e; simp [markF]
        · simp only [e, if_false]
          by_cases e2 : i < k
          · rw [if_pos e2, if_pos (by omega)]
          · rw [if_neg e2, if_neg (by omega)]
    · obtain rfl : k = n := by omega
      have HP := Lib.hid (hO.congr (Y := markF m L) (fun i hi j _ => by simp [hi]))
      clear hO
      go_wp2
      go_ret
      exact ⟨rfl, HP.out, hx⟩

end Go.Proofs.Ytefgdkjcoeikmaa
