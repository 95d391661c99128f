/- The contracts of columns and of the transposed matrix. No condition but those of each contract. -/
import Derived.Test.YtefgdkjcoeikmaaMat6
namespace Go.Proofs.Ytefgdkjcoeikmaa
open Go.ChangeShapes Go.WideShapes Go.ChangeAt Go.RowKit
set_option linter.unusedVariables false
set_option linter.unusedSimpArgs false

set_option maxHeartbeats 800000 in
theorem impl_column (a : Option Addr) (n c k : Nat) (A : Nat → Option Addr) (L C : Nat → Nat) (X : Nat → Nat → Int) (w : World) (h : RowsAt w a n A L C X) (hn : n ≤ 1048576) (hk : ∀ i, i < n → k < L i) (hk2 : k ≤ 1099511627776) :
    Calls Try.prog 79 #[.slice a n c, .int .i64 k] w (MakesI w n (fun i => X i k)) := by
  have H := Lib.hid h
  have HK := Lib.hid hk
  clear h hk
  go_enter Try.func79, Try.ntmps79
  go_wp2
  go_loopg [5, 10] n (fun g o i wr => ∃ (j : Nat) (q : Option Addr) (cc : Nat), j ≤ n ∧ g = n - j ∧ i = .int .i64 j ∧ o = .slice q j cc ∧ OI wr w.heap.size wr.heap.size (.slice q j cc) j (fun i => X i k) ∧ Ext w wr)
  case atStart => exact ⟨0, none, 0, Nat.zero_le _, rfl, rfl, rfl, OI.nil _ _ _ _, ext_refl _⟩
  case round =>
    obtain ⟨j, q, cc, hj, rfl, rfl, rfl, hO, hx⟩ := hrel
    rcases Nat.lt_or_ge j n with jlt | jge
    · obtain ⟨ba, of, rfl, hc⟩ := H.out.at_ jlt
      have jlt' : (j : Int) < (n : Int) := by omega
      have hsz := hx.size
      have hr := H.out.row j jlt
      have hkk := HK.out j jlt
      have hkk' : (k : Int) < (L j : Int) := by omega
      generalize A j = aj at hc hr
      obtain ⟨br, ofr, rfl, hcr⟩ := hr.at_ hkk
      have hc' := ext_cell hx hc
      have hcr' := ext_cell hx hcr
      clear hc hcr hr
      go_wp2_with (at_builtin; refine wpList_push_int rfl _ _ 23 rfl Try.underlying23 info_int _ w.heap.size j (fun i => X i k) (X j k) _ _ _ rfl (hO.ext (ext_alloc (ext_refl _) _)) ⟨wr.heap.size, 0, none⟩ 1 rfl (cell_new1 _ _ _) rfl (by omega) (by simp; omega) ?_; intro g' c' w2 hO1 hb1)
      go_roundg (n - (j + 1))
      case measure => omega
      case rel => exact ⟨j + 1, some ⟨g', 0, none⟩, c', by omega, rfl, by go_num, rfl, hO1, Below.trans (ext_alloc hx _) hb1⟩
    · obtain rfl : j = n := by omega
      go_wp2
      go_ret
      exact ⟨_, _, rfl, hO, hx⟩

/-- rows where b holds, nil elsewhere -/
def OrNilR (w : World) (b : Bool) (n : Nat) (L : Nat → Nat) (X : Nat → Nat → Int) (e : Ending) (w' : World) : Prop := (b = true → MakesR w n L X e w') ∧ (b = false → e = .returned (.slice none 0 0) ∧ Ext w w')
theorem OrNilR.yes {w w' : World} {b : Bool} {n : Nat} {L : Nat → Nat} {X : Nat → Nat → Int} {e : Ending} (h : MakesR w n L X e w') (hb : b = true) : OrNilR w b n L X e w' := ⟨fun _ => h, (fun hh => by rw [hb] at hh; cases hh)⟩
theorem OrNilR.no {w w' : World} {b : Bool} {n : Nat} {L : Nat → Nat} {X : Nat → Nat → Int} {e : Ending} (h : e = .returned (.slice none 0 0) ∧ Ext w w') (hb : b = false) : OrNilR w b n L X e w' := ⟨(fun hh => by rw [hb] at hh; cases hh), fun _ => h⟩
theorem OrNilR.makes {w w' : World} {b : Bool} {n : Nat} {L : Nat → Nat} {X : Nat → Nat → Int} {e : Ending} (h : OrNilR w b n L X e w') : MakesR w (if b then n else 0) L X e w' := by
  cases hb : b
  · obtain ⟨he, hx⟩ := h.2 hb
    exact ⟨none, 0, fun _ => none, fun _ => 0, he, OR.nil _ _ _ _ _ _ _, hx⟩
  · exact h.1 hb
/-- rows where b holds, none elsewhere -/
def IfR (w : World) (b : Bool) (n : Nat) (L : Nat → Nat) (X : Nat → Nat → Int) (e : Ending) (w' : World) : Prop := MakesR w (if b = true then n else 0) L X e w'
theorem IfR.mkNo {w w' : World} {b : Bool} {n : Nat} {L : Nat → Nat} {X : Nat → Nat → Int} {e : Ending} (hb : b = false) (h : MakesR w 0 L X e w') : IfR w b n L X e w' := by
  unfold IfR; rw [hb]; exact h
theorem IfR.mkYes {w w' : World} {b : Bool} {n : Nat} {L : Nat → Nat} {X : Nat → Nat → Int} {e : Ending} (hb : b = true) (h : MakesR w n L X e w') : IfR w b n L X e w' := by
  unfold IfR; rw [hb]; exact h
theorem IfR.no {w w' : World} {b : Bool} {n : Nat} {L : Nat → Nat} {X : Nat → Nat → Int} {e : Ending} (h : IfR w b n L X e w') (hb : b = false) : MakesR w 0 L X e w' := by
  unfold IfR at h; rw [hb] at h; exact h
theorem IfR.yes {w w' : World} {b : Bool} {n : Nat} {L : Nat → Nat} {X : Nat → Nat → Int} {e : Ending} (h : IfR w b n L X e w') (hb : b = true) : MakesR w n L X e w' := by
  unfold IfR at h; rw [hb] at h; exact h
/-- '[][]int{}' -/
theorem OR.empty (w : World) (A : Nat → Option Addr) (L C : Nat → Nat) (X : Nat → Nat → Int) : OR (w.alloc (.cells #[] 23)) w.heap.size (w.heap.size + 1) (.slice (some ⟨w.heap.size, 0, none⟩) 0 0) 0 A L C X := by
  have := World.ownsRow_lit (base := w.heap.size) (e := 23) (size := 1) w #[] 0 (Nat.le_refl _) (by simp [maxLen]) rfl
  exact ⟨this, by simp [Value.ownBlock], fun i hi => by omega, fun i j hi => by omega⟩
theorem makesR_empty (w : World) (L : Nat → Nat) (X : Nat → Nat → Int) : MakesR w 0 L X (.returned (.slice (some ⟨w.heap.size, 0, none⟩) 0 0)) (w.alloc (.cells #[] 23)) :=
  ⟨_, _, fun _ => none, fun _ => 0, rfl, (OR.empty w _ L _ X).now, ext_alloc (ext_refl _) _⟩

theorem off_const (k n : Nat) : off (fun _ => k) n = n * k := by
  induction n with
  | zero => simp [off]
  | succ n ih => simp only [off]; rw [ih, Nat.succ_mul]
theorem off_small (b : Bool) (n k : Nat) (h : b = true → n ≤ 8 ∧ k ≤ 8) : off (fun _ => k) (if b = true then n else 0) ≤ 1048576 := by
  rw [off_const]
  cases hb : b
  · simp
  · obtain ⟨h1, h2⟩ := h hb
    have := Nat.mul_le_mul h1 h2
    simp only [if_true]; omega

/-! ### the transposed matrix -/
def transF (X : Nat → Nat → Int) : Nat → Nat → Int := fun i j => X j i
set_option maxHeartbeats 1600000 in
theorem impl_TransposeSigns (a : Option Addr) (n c : Nat) (A : Nat → Option Addr) (L C : Nat → Nat) (X : Nat → Nat → Int) (w : World) (h : RowsAt w a n A L C X) (hn : n ≤ 1048576) (hT : off L n ≤ 1048576) :
    Calls Try.prog 46 #[.slice a n c] w (OrNilR w (signsOkB n L X) n (fun _ => n) (transF X)) := by
  have H := Lib.hid h
  cases h0 : signsOkB n L X
  · go_enter Try.func46, Try.ntmps46
    go_wp2_with (go_at_call 50; refine (impl_SignsOk _ _ _ _ _ _ _ _ h hn hT).mono ?_; rintro e w' ⟨rfl, rfl⟩)
    go_ret
    exact OrNilR.no ⟨rfl, ext_refl _⟩ (by first | rfl | exact h0)
  · have HR := Lib.hid h0
    have HL := Lib.hid (show ∀ i, i < n → L i = n from fun i hi => ((signs_iff.1 h0).2 i hi).1)
    go_enter Try.func46, Try.ntmps46
    go_wp2_with (go_at_call 50; refine (impl_SignsOk _ _ _ _ _ _ _ _ h hn hT).mono ?_; rintro e w' ⟨rfl, rfl⟩)
    clear h h0
    go_loopg [3, 10] n (fun g o i wr => ∃ (k : Nat) (q : Option Addr) (cc : Nat) (A' : Nat → Option Addr) (C' : Nat → Nat), k ≤ n ∧ g = n - k ∧ i = .int .i64 k ∧ o = .slice q k cc ∧ OR wr w.heap.size wr.heap.size (.slice q k cc) k A' (fun _ => n) C' (transF X) ∧ Ext w wr)
    case atStart => exact ⟨0, none, 0, fun _ => none, fun _ => 0, Nat.zero_le _, rfl, rfl, rfl, OR.nil _ _ _ _ _ _ _, ext_refl _⟩
    case round =>
      obtain ⟨k, q, cc, A', C', hk, rfl, rfl, rfl, hO, hx⟩ := hrel
      rcases Nat.lt_or_ge k n with hlt | hge
      · have hlt' : (k : Int) < (n : Int) := by omega
        have hsz := hx.size
        have H1 := H.out.ext hx
        go_wp2_with fail
        refine (impl_column _ _ _ _ _ _ _ _ _ H1 hn (fun i hi => by rw [HL.out i hi]; exact hlt) (by omega)).mono ?_
        rintro e w1 ⟨p1, q1, rfl, hO1, hx1⟩
        have hsz1 := hx1.size
        go_wp2_with (at_builtin; refine wpList_push_row rfl _ _ 22 rfl Try.underlying22 info_ints _ w.heap.size wr.heap.size k A' (fun _ => n) C' (transF X) p1 q1 _ _ _ rfl ((hO.ext hx1).ext (ext_alloc (ext_refl _) _)) (hO1.ext (ext_alloc (ext_refl _) _)) ⟨w1.heap.size, 0, none⟩ 1 rfl (cell_new1 _ _ _) (by omega) (by omega) (by simp; omega) ?_; intro g' c' A'' C'' w2 hO2 hb2)
        go_roundg (n - (k + 1))
        case measure => omega
        case rel => exact ⟨k + 1, some ⟨g', 0, none⟩, c', A'', C'', by omega, rfl, by go_num, rfl, hO2, Below.trans (ext_alloc (ext_trans hx hx1) _) hb2⟩
      · obtain rfl : k = n := by omega
        go_wp2
        go_ret
        exact OrNilR.yes ⟨_, _, _, _, rfl, hO, hx⟩ (by first | rfl | exact HR.out)

end Go.Proofs.Ytefgdkjcoeikmaa
