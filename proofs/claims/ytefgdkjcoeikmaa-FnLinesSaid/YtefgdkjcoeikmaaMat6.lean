/- The contracts of readings of a design, of columns, of the transposed matrix. No condition but those of each contract. -/
import Derived.Test.YtefgdkjcoeikmaaMat3
import Derived.WalkSpells
namespace Go.Proofs.Ytefgdkjcoeikmaa
open Go.ChangeShapes Go.WideShapes Go.ChangeAt Go.RowKit
set_option linter.unusedVariables false
set_option linter.unusedSimpArgs false

/-- a list where b holds, nil elsewhere -/
def OrNil (w : World) (b : Bool) (n : Nat) (X : Nat → Int) (e : Ending) (w' : World) : Prop := (b = true → MakesI w n X e w') ∧ (b = false → e = .returned (.slice none 0 0) ∧ Ext w w')
theorem OrNil.yes {w w' : World} {b : Bool} {n : Nat} {X : Nat → Int} {e : Ending} (h : MakesI w n X e w') (hb : b = true) : OrNil w b n X e w' := ⟨fun _ => h, (fun hh => by rw [hb] at hh; cases hh)⟩
theorem OrNil.no {w w' : World} {b : Bool} {n : Nat} {X : Nat → Int} {e : Ending} (h : e = .returned (.slice none 0 0) ∧ Ext w w') (hb : b = false) : OrNil w b n X e w' := ⟨(fun hh => by rw [hb] at hh; cases hh), fun _ => h⟩
theorem OrNil.makes {w w' : World} {b : Bool} {n : Nat} {X : Nat → Int} {e : Ending} (h : OrNil w b n X e w') : MakesI w (if b then n else 0) X e w' := by
  cases hb : b
  · obtain ⟨he, hx⟩ := h.2 hb
    exact ⟨none, 0, he, OI.nil _ _ _ _, hx⟩
  · exact h.1 hb
/-- a list where b holds, an empty one elsewhere -/
def IfM (w : World) (b : Bool) (n : Nat) (X : Nat → Int) (e : Ending) (w' : World) : Prop := MakesI w (if b = true then n else 0) X e w'
theorem makes_no {w w' : World} {b : Bool} {n : Nat} {X : Nat → Int} {e : Ending} (hb : b = false) (h : MakesI w 0 X e w') : IfM w b n X e w' := by
  unfold IfM; rw [hb]; exact h
theorem makes_yes {w w' : World} {b : Bool} {n : Nat} {X : Nat → Int} {e : Ending} (hb : b = true) (h : MakesI w n X e w') : IfM w b n X e w' := by
  unfold IfM; rw [hb]; exact h
theorem IfM.no {w w' : World} {b : Bool} {n : Nat} {X : Nat → Int} {e : Ending} (h : IfM w b n X e w') (hb : b = false) : MakesI w 0 X e w' := by
  unfold IfM at h; rw [hb] at h; exact h
theorem IfM.yes {w w' : World} {b : Bool} {n : Nat} {X : Nat → Int} {e : Ending} (h : IfM w b n X e w') (hb : b = true) : MakesI w n X e w' := by
  unfold IfM at h; rw [hb] at h; exact h
/-- '[]int{}' -/
theorem makes_empty (w : World) (X : Nat → Int) : MakesI w 0 X (.returned (.slice (some ⟨w.heap.size, 0, none⟩) 0 0)) (w.alloc (.cells #[] 3)) :=
  ⟨_, _, rfl, (OI.lit w [] X 0 (by simp [maxLen]) rfl).now, ext_alloc (ext_refl _) _⟩

/-! ### readings -/
def readOkB (n : Nat) (L : Nat → Nat) (X : Nat → Nat → Int) (m : Nat) (V : Nat → Int) : Bool := designOkB n L X && (decide (m = L 0) && allB (-1000) 1000 V m)
def readF (m : Nat) (X : Nat → Nat → Int) (V : Nat → Int) : Nat → Int := fun i => dot m (X i) V
theorem read_prod {n m : Nat} {L : Nat → Nat} {X : Nat → Nat → Int} {V : Nat → Int} (h : readOkB n L X m V = true) {i : Nat} (hi : i < n) :
    L i = m ∧ 1 ≤ m ∧ m ≤ 4 ∧ (∀ j, j < m → -1000 ≤ X i j * V j ∧ X i j * V j ≤ 1000) := by
  simp only [readOkB, Bool.and_eq_true, decide_eq_true_eq, design_iff, allB_iff] at h
  obtain ⟨⟨⟨h1, h2⟩, ⟨h3, h4⟩, h5⟩, h6, h7⟩ := h
  obtain ⟨l1, r1⟩ := h5 i hi
  refine ⟨by omega, by omega, by omega, fun j hj => ?_⟩
  have := mul_bound (x := X i j) (y := V j) (A := 1) (B := 1000) (by have := r1 j (by omega); omega) (by have := h7 j hj; omega)
  omega

set_option maxHeartbeats 3200000 in
theorem impl_ReadDesign (a b : Option Addr) (n c m d : Nat) (A : Nat → Option Addr) (L C : Nat → Nat) (X : Nat → Nat → Int) (V : Nat → Int) (w : World) (h : RowsAt w a n A L C X) (hv : IntsAt w b m V) (hn : n ≤ 1048576) (hT : off L n ≤ 1048576) (hm : m ≤ 1099511627776) :
    Calls Try.prog 43 #[.slice a n c, .slice b m d] w (OrNil w (readOkB n L X m V) n (readF m X V)) := by
  have H := Lib.hid h
  have HV := Lib.hid hv
  clear hv
  cases h0 : designOkB n L X
  · go_enter Try.func43, Try.ntmps43
    go_wp2_with (go_at_call 41; refine (impl_DesignOk _ _ _ _ _ _ _ _ h hn hT).mono ?_; rintro e w' ⟨rfl, rfl⟩)
    go_ret
    exact OrNil.no ⟨rfl, ext_refl _⟩ (by simp [readOkB, h0])
  · obtain ⟨⟨n1, n2⟩, ⟨m1, m2⟩, hD⟩ := design_iff.1 h0
    have hn0' : (0 : Int) < (n : Int) := by omega
    obtain ⟨ba, of, rfl, hc0⟩ := H.out.at_ (show 0 < n by omega)
    simp only [Nat.add_zero] at hc0
    by_cases e : m = L 0
    · have hb := neq_no e
      have HOK := Lib.hid (show readOkB n L X m V = allB (-1000) 1000 V m by simp [readOkB, h0, e])
      have HL := Lib.hid (show ∀ i, i < n → L i = m from fun i hi => by rw [(hD i hi).1, e])
      clear e hD
      go_enter Try.func43, Try.ntmps43
      go_wp2_with (go_at_call 41; refine (impl_DesignOk _ _ _ _ _ _ _ _ h hn hT).mono ?_; rintro e w' ⟨rfl, rfl⟩)
      clear h h0
      go_loop [24] (fun i => ∃ k : Nat, k ≤ m ∧ i = .int .i64 k ∧ Hid (allB (-1000) 1000 V k = true)) (fun i => m - (intOf i).toNat)
      case atStart => exact ⟨0, Nat.zero_le _, rfl, Lib.hid rfl⟩
      case round =>
        obtain ⟨k, hk, rfl, hal⟩ := hrel
        rcases Nat.lt_or_ge k m with hlt | hge
        · obtain ⟨b2, of2, rfl, hc⟩ := HV.out.at_ hlt
          have hlt' : (k : Int) < (m : Int) := by omega
          cases h3 : inB (V k) (-1000) 1000
          · have HB := Lib.hid (allB_no hlt h3)
            go_wp2_with (go_at_call 73; refine (impl_in _ _ _ _).mono ?_; rintro e w' ⟨rfl, rfl⟩)
            go_ret
            exact OrNil.no ⟨rfl, ext_refl _⟩ (HOK.out.trans HB.out)
          · have HB := Lib.hid (allB_yes hal.out h3)
            go_wp2_with (go_at_call 73; refine (impl_in _ _ _ _).mono ?_; rintro e w' ⟨rfl, rfl⟩)
            go_round
            case measure => simp [intOf]; omega
            case rel => exact ⟨k + 1, by omega, by go_num, HB⟩
        · obtain rfl : k = m := by omega
          have HR := Lib.hid (HOK.out.trans hal.out)
          go_wp2
          go_loopg [7, 34] n (fun g o i wr => ∃ (j : Nat) (q : Option Addr) (cc : Nat), j ≤ n ∧ g = n - j ∧ i = .int .i64 j ∧ o = .slice q j cc ∧ OI wr w.heap.size wr.heap.size (.slice q j cc) j (readF k X V) ∧ Ext w wr)
          case atStart => exact ⟨0, none, 0, Nat.zero_le _, rfl, rfl, rfl, OI.nil _ _ _ _, ext_refl _⟩
          case round =>
            obtain ⟨j, q, cc, hj, rfl, rfl, rfl, hO, hx⟩ := hrel
            rcases Nat.lt_or_ge j n with jlt | jge
            · obtain ⟨b', of', hbo, hc⟩ := H.out.at_ jlt
              simp only [Option.some.injEq, Addr.mk.injEq, and_true] at hbo
              obtain ⟨rfl, rfl⟩ := hbo
              have jlt' : (j : Int) < (n : Int) := by omega
              have hsz := hx.size
              have hc' := ext_cell hx hc
              have hr := (H.out.row j jlt).ext hx
              have hv' := HV.out.ext hx
              obtain ⟨p1, p2, p3, p4⟩ := read_prod HR.out jlt
              rw [p1] at hr hc'
              have HP := Lib.hid p4
              clear hc p1 p4
              go_wp2_with fail
              refine (impl_product _ _ _ _ _ _ _ _ _ hr hv' (Nat.le_refl _) (by omega) (by omega) (fun i hi => by have := HP.out i hi; omega)).mono ?_
              rintro e w1 ⟨rfl, hd⟩
              have hO' := hO.ext (ext_alloc hd.ext (.cells #[.int .i64 (dot k (X j) V)] 3))
              have hsz2 := ext_size hd.ext
              go_wp2_with (at_builtin; refine wpList_push_int rfl _ _ 23 rfl Try.underlying23 info_int _ w.heap.size j (readF k X V) (dot k (X j) V) _ _ _ rfl hO' ⟨w1.heap.size, 0, none⟩ 1 rfl (cell_new1 _ _ _) rfl (by omega) (by simp; omega) ?_; intro g' c' w2 hO1 hb1)
              go_roundg (n - (j + 1))
              case measure => omega
              case rel => exact ⟨j + 1, some ⟨g', 0, none⟩, c', by omega, rfl, by go_num, rfl, hO1, Below.trans (ext_alloc (ext_trans hx hd.ext) _) hb1⟩
            · obtain rfl : j = n := by omega
              go_wp2
              go_ret
              exact OrNil.yes ⟨_, _, rfl, hO, hx⟩ HR.out
    · have hb := neq_yes e
      have HR := Lib.hid (show readOkB n L X m V = false by simp [readOkB, e])
      clear e hD
      go_enter Try.func43, Try.ntmps43
      go_wp2_with (go_at_call 41; refine (impl_DesignOk _ _ _ _ _ _ _ _ h hn hT).mono ?_; rintro e w' ⟨rfl, rfl⟩)
      go_ret
      exact OrNil.no ⟨rfl, ext_refl _⟩ HR.out

end Go.Proofs.Ytefgdkjcoeikmaa
