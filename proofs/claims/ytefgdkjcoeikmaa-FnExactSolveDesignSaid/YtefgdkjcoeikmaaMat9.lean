/- The contracts of the products of a design's columns. No condition but those of each contract. -/
import Derived.Test.YtefgdkjcoeikmaaMat8
import Derived.StillTailTactics
namespace Go.Proofs.Ytefgdkjcoeikmaa
open Go.ChangeShapes Go.WideShapes Go.ChangeAt Go.RowKit
set_option linter.unusedVariables false
set_option linter.unusedSimpArgs false

theorem if_small {b : Bool} {k : Nat} (h : b = true → k ≤ 8) : (if b = true then k else 0) ≤ 1048576 := by
  cases hb : b
  · simp
  · have := h hb; simp; omega
def gramF (n : Nat) (X : Nat → Nat → Int) : Nat → Nat → Int := fun i k => dot n (fun r => X r i) (fun r => X r k)
theorem design_prod {n : Nat} {L : Nat → Nat} {X : Nat → Nat → Int} (h : designOkB n L X = true) {i k : Nat} (hi : i < L 0) (hk : k < L 0) : ∀ r, r < n → -1 ≤ X r i * X r k ∧ X r i * X r k ≤ 1 := by
  intro r hr
  obtain ⟨_, _, h3⟩ := design_iff.1 h
  obtain ⟨l, b⟩ := h3 r hr
  have := mul_bound (x := X r i) (y := X r k) (A := 1) (B := 1) (by have := b i (by omega); omega) (by have := b k (by omega); omega)
  omega

set_option maxHeartbeats 3200000 in
theorem impl_GramOf (a : Option Addr) (n c : Nat) (A : Nat → Option Addr) (L C : Nat → Nat) (X : Nat → Nat → Int) (w : World) (h : RowsAt w a n A L C X) (hn : n ≤ 1048576) (hT : off L n ≤ 1048576) :
    Calls Try.prog 40 #[.slice a n c] w (OrNilR w (designOkB n L X) (L 0) (fun _ => L 0) (gramF n X)) := by
  have H := Lib.hid h
  cases h0 : designOkB n L X
  · go_enter Try.func40, Try.ntmps40
    go_wp2_with (go_at_call 41; refine (impl_DesignOk _ _ _ _ _ _ _ _ h hn hT).mono ?_; rintro e w' ⟨rfl, rfl⟩)
    go_ret
    exact OrNilR.no ⟨rfl, ext_refl _⟩ (by first | rfl | exact h0)
  · have HR := Lib.hid h0
    obtain ⟨⟨n1, n2⟩, ⟨m1, m2⟩, hD⟩ := design_iff.1 h0
    have HL := Lib.hid (show ∀ i, i < n → L i = L 0 from fun i hi => (hD i hi).1)
    have hn0' : (0 : Int) < (n : Int) := by omega
    obtain ⟨ba, of, rfl, hc0⟩ := H.out.at_ (show 0 < n by omega)
    simp only [Nat.add_zero] at hc0
    have HC := Lib.hid hc0
    clear hD
    go_enter Try.func40, Try.ntmps40
    go_wp2_with (go_at_call 41; refine (impl_DesignOk _ _ _ _ _ _ _ _ h hn hT).mono ?_; rintro e w' ⟨rfl, rfl⟩)
    clear h h0 hc0
    go_loopg [3, 14] (L 0) (fun g o i wr => ∃ (k : Nat) (q : Option Addr) (cc : Nat) (A' : Nat → Option Addr) (C' : Nat → Nat), k ≤ L 0 ∧ g = L 0 - k ∧ i = .int .i64 k ∧ o = .slice q k cc ∧ OR wr w.heap.size wr.heap.size (.slice q k cc) k A' (fun _ => L 0) C' (gramF n X) ∧ Ext w wr)
    case atStart => exact ⟨0, none, 0, fun _ => none, fun _ => 0, Nat.zero_le _, rfl, rfl, rfl, OR.nil _ _ _ _ _ _ _, ext_refl _⟩
    case round =>
      obtain ⟨k, q, cc, A', C', hk, rfl, rfl, rfl, hO, hx⟩ := hrel
      obtain ⟨wo, rfl⟩ : ∃ wo : World, wo = wr := ⟨_, rfl⟩
      rcases Nat.lt_or_ge k (L 0) with hlt | hge
      · have hlt' : (k : Int) < (L 0 : Int) := by omega
        have hszo := ext_size hx
        have hc0 := ext_cell hx HC.out
        go_wp2_with fail
        clear hc0
        go_loopg [5, 21] (L 0) (fun g o i wr => ∃ (j : Nat) (q2 : Option Addr) (cc2 : Nat), j ≤ L 0 ∧ g = L 0 - j ∧ i = .int .i64 j ∧ o = .slice q2 j cc2 ∧ OI wr wo.heap.size wr.heap.size (.slice q2 j cc2) j (gramF n X k) ∧ Ext wo wr)
        case atStart => exact ⟨0, none, 0, Nat.zero_le _, rfl, rfl, rfl, OI.nil _ _ _ _, ext_refl _⟩
        case round =>
          obtain ⟨j, q2, cc2, hj, rfl, rfl, rfl, hI, hx2⟩ := hrel
          have hxr := ext_trans hx hx2
          have hsz2 := ext_size hx2
          rcases Nat.lt_or_ge j (L 0) with jlt | jge
          · have jlt' : (j : Int) < (L 0 : Int) := by omega
            have H1 := H.out.ext hxr
            go_wp2_with fail
            refine (impl_column _ _ _ _ _ _ _ _ _ H1 hn (fun i hi => by rw [HL.out i hi]; exact hlt) (by omega)).mono ?_
            rintro e w1 ⟨p1, q1, rfl, hO1, hx3⟩
            have H2 := H1.ext hx3
            go_wp2_with fail
            refine (impl_column _ _ _ _ _ _ _ _ _ H2 hn (fun i hi => by rw [HL.out i hi]; exact jlt) (by omega)).mono ?_
            rintro e w2 ⟨p2, q2', rfl, hO2, hx4⟩
            have HP := Lib.hid (design_prod HR.out hlt jlt)
            go_wp2_with fail
            refine (impl_product _ _ _ _ _ _ _ _ _ (hO1.ext hx4).reads hO2.reads (Nat.le_refl _) (by omega) (by omega) (fun i hi => by have := HP.out i hi; omega)).mono ?_
            rintro e w3 ⟨rfl, hd⟩
            have hx5 := ext_trans hx3 (ext_trans hx4 hd.ext)
            have hsz5 := ext_size hx5
            have hI3 := hI.ext hx5
            clear hO1 hO2 hd hx3 hx4 H1 H2
            go_wp2_with (at_builtin; refine wpList_push_int rfl _ _ 23 rfl Try.underlying23 info_int _ wo.heap.size j (gramF n X k) (dot n (fun i => X i k) (fun i => X i j)) _ _ _ rfl (hI3.ext (ext_alloc (ext_refl _) _)) ⟨w3.heap.size, 0, none⟩ 1 rfl (cell_new1 _ _ _) rfl (by omega) (by simp; omega) ?_; intro g' c' w4 hO4 hb4)
            go_roundg (L 0 - (j + 1))
            case measure => omega
            case rel => exact ⟨j + 1, some ⟨g', 0, none⟩, c', by omega, rfl, by go_num, rfl, hO4, Below.trans (ext_alloc (ext_trans hx2 hx5) _) hb4⟩
          · have hjl : L 0 = j := by omega
            have HJ := Lib.hid hjl
            have hI' : OI wr wo.heap.size wr.heap.size (.slice q2 (L 0) cc2) (L 0) (gramF n X k) := by rw [hjl]; exact hI
            clear hI hjl
            obtain rfl : j = L 0 := HJ.out.symm
            go_wp2_with (at_builtin; refine wpList_push_row rfl _ _ 22 rfl Try.underlying22 info_ints _ w.heap.size wo.heap.size k A' (fun _ => L 0) C' (gramF n X) q2 cc2 _ _ _ rfl ((hO.ext hx2).ext (ext_alloc (ext_refl _) _)) (hI'.ext (ext_alloc (ext_refl _) _)) ⟨wr.heap.size, 0, none⟩ 1 rfl (cell_new1 _ _ _) (by omega) (by omega) (by simp; omega) ?_; intro g' c' A'' C'' w2 hO2 hb2)
            go_roundg (L 0 - (k + 1))
            case measure => omega
            case rel => exact ⟨k + 1, some ⟨g', 0, none⟩, c', A'', C'', by omega, rfl, by go_num, rfl, hO2, Below.trans (ext_alloc hxr _) hb2⟩
      · obtain rfl : k = L 0 := by omega
        go_wp2
        go_ret
        exact OrNilR.yes ⟨_, _, _, _, rfl, hO, hx⟩ (by first | rfl | exact HR.out)

set_option maxHeartbeats 6400000 in
theorem spec_GramOf (a : Option Addr) (n c : Nat) (A : Nat → Option Addr) (L C : Nat → Nat) (X : Nat → Nat → Int) (w : World) (h : RowsAt w a n A L C X) (hn : n ≤ 1048576) (hT : off L n ≤ 1048576) :
    Calls Try.prog 55 #[.slice a n c] w (IfR w (designOkB n L X) (L 0) (fun _ => L 0) (gramF n X)) := by
  have H := Lib.hid h
  have H1 := h.ext (ext_alloc (ext_refl w) (.cells #[] 23))
  clear h
  cases h0 : designOkB n L X
  · have HR := Lib.hid h0
    go_enter Try.func55, Try.ntmps55
    go_wp2_with (go_at_call 62; refine (spec_DesignOk _ _ _ _ _ _ _ _ H1 hn hT).mono ?_; rintro e w' ⟨rfl, hd⟩)
    go_ret
    exact IfR.mkNo (by first | rfl | exact HR.out) ⟨_, _, fun _ => none, fun _ => 0, rfl, ((OR.empty w _ _ _ _).ext hd.ext).now, ext_trans (ext_alloc (ext_refl _) _) hd.ext⟩
  · have HR := Lib.hid h0
    obtain ⟨⟨n1, n2⟩, ⟨m1, m2⟩, hD⟩ := design_iff.1 h0
    have HL := Lib.hid (show ∀ i, i < n → L i = L 0 from fun i hi => (hD i hi).1)
    have hn0' : (0 : Int) < (n : Int) := by omega
    obtain ⟨ba, of, rfl, hc0⟩ := H.out.at_ (show 0 < n by omega)
    simp only [Nat.add_zero] at hc0
    clear hD
    have hmk := run_make_row' (P := Try.prog) 23 3 (.int .i64 0) 8 Try.underlying23 info_int rfl .i64 .i64 (L 0) (by omega) (by omega)
    have HMK := Lib.hid hmk
    clear hmk
    go_enter Try.func55, Try.ntmps55
    go_wp2_with fail
    refine (spec_DesignOk _ _ _ _ _ _ _ _ H1 hn hT).mono ?_
    rintro e w0 ⟨rfl, hd0⟩
    have hx0 : Ext w w0 := ext_trans (ext_alloc (ext_refl _) _) hd0.ext
    have hc1 := ext_cell hx0 hc0
    have hO0 := ((OR.empty w (fun _ => none) (fun _ => L 0) (fun _ => 0) (gramF n X)).ext hd0.ext).now
    clear H1 hc0 hd0
    go_wp2
    clear h0 hc1
    go_loopg [3, 5] (L 0) (fun g o i wr => ∃ (k : Nat) (q : Option Addr) (cc : Nat) (A' : Nat → Option Addr) (C' : Nat → Nat), k ≤ L 0 ∧ g = L 0 - k ∧ i = .int .i64 k ∧ o = .slice q k cc ∧ OR wr w.heap.size wr.heap.size (.slice q k cc) k A' (fun _ => L 0) C' (gramF n X) ∧ Ext w wr)
    case atStart => exact ⟨0, some ⟨w.heap.size, 0, none⟩, 0, fun _ => none, fun _ => 0, Nat.zero_le _, rfl, rfl, rfl, hO0, hx0⟩
    case round =>
      obtain ⟨k, q, cc, A', C', hk, rfl, rfl, rfl, hO, hx⟩ := hrel
      obtain ⟨wo, rfl⟩ : ∃ wo : World, wo = wr := ⟨_, rfl⟩
      rcases Nat.lt_or_ge k (L 0) with hlt | hge
      · have hlt' : (k : Int) < (L 0 : Int) := by omega
        have hszo := ext_size hx
        have hmk := HMK.out
        go_wp2
        clear hmk
        go_loopg [7] (L 0) (fun g i wr => ∃ (j : Nat), j ≤ L 0 ∧ g = L 0 - j ∧ i = .int .i64 j ∧ OI wr wo.heap.size (wo.heap.size + 1) (.slice (some ⟨wo.heap.size, 0, none⟩) (L 0) (L 0)) (L 0) (fun q => if q < j then gramF n X k q else 0) ∧ Ext wo wr)
        case atStart => exact ⟨0, Nat.zero_le _, rfl, rfl, (OI.made wo (L 0) (by unfold maxLen; omega)).congr (fun i _ => by simp), ext_alloc (ext_refl _) _⟩
        case round =>
          obtain ⟨j, hj, rfl, rfl, hI, hx2⟩ := hrel
          obtain ⟨wi, rfl⟩ : ∃ wi : World, wi = wr := ⟨_, rfl⟩
          rcases Nat.lt_or_ge j (L 0) with jlt | jge
          · have jlt' : (j : Int) < (L 0 : Int) := by omega
            have HP := Lib.hid (design_prod HR.out hlt jlt)
            go_wp2
            go_loopg [8] n (fun g i wr => ∃ (r : Nat), r ≤ n ∧ g = n - r ∧ i = .int .i64 r ∧ OI wr wo.heap.size (wo.heap.size + 1) (.slice (some ⟨wo.heap.size, 0, none⟩) (L 0) (L 0)) (L 0) (fun q => if q = j then dot r (fun p => X p k) (fun p => X p j) else if q < j then gramF n X k q else 0) ∧ Ext wo wr)
            case atStart => exact ⟨0, Nat.zero_le _, rfl, rfl, hI.congr (fun i _ => by by_cases e : i = j <;> simp [e, dot, sumN]), hx2⟩
            case round =>
              obtain ⟨r, hr, rfl, rfl, hI2, hx3⟩ := hrel
              have hxr := ext_trans hx hx3
              rcases Nat.lt_or_ge r n with rlt | rge
              · obtain ⟨b', of', hbo, hc⟩ := H.out.at_ rlt
                simp only [Option.some.injEq, Addr.mk.injEq, and_true] at hbo
                obtain ⟨rfl, rfl⟩ := hbo
                have rlt' : (r : Int) < (n : Int) := by omega
                have hrow := H.out.row r rlt
                rw [HL.out r rlt] at hc hrow
                generalize A r = ar at hc hrow
                obtain ⟨br, ofr, har, hc3⟩ := hrow.at_ hlt
                obtain ⟨br2, ofr2, har2, hc4⟩ := hrow.at_ jlt
                subst har
                simp only [Option.some.injEq, Addr.mk.injEq, and_true] at har2
                obtain ⟨rfl, rfl⟩ := har2
                have d1 := ext_cell hxr hc
                have d2 := ext_cell hxr hc3
                have d3 := ext_cell hxr hc4
                have d4 := hI2.cell jlt
                rw [if_pos rfl] at d4
                have d5 := hI2.frozen j
                obtain ⟨q1, q2⟩ := HP.out r rlt
                obtain ⟨q3, q4⟩ := dot_bound (n := r) (X := fun p => X p k) (Y := fun p => X p j) (M := 1) (fun i hi => HP.out i (by omega))
                have W1 : IntKind.i64.wrap (X r k * X r j) = X r k * X r j := wrapI (by omega) (by omega)
                have W2 : IntKind.i64.wrap (dot r (fun p => X p k) (fun p => X p j) + X r k * X r j) = dot r (fun p => X p k) (fun p => X p j) + X r k * X r j := wrapI (by omega) (by omega)
                have HS := Lib.hid (hI2.store j (dot r (fun p => X p k) (fun p => X p j) + X r k * X r j))
                clear hc hc3 hc4 hrow hI2
                go_wp2
                go_still_tail 23, (by kernel_rfl)
                change wpList _ _ _ _ _ wr.drew
                go_wp2
                go_roundg (n - (r + 1))
                case measure => omega
                case rel =>
                  refine ⟨r + 1, by omega, rfl, by go_num, (HS.out.ext (ext_drew (ext_refl _))).congr ?_, ext_drew (hx3.setCell (Nat.le_refl _) _)⟩
                  intro i hi
                  by_cases e : i = j
                  · simp [e, dot, sumN]
                  · simp [e]
              · obtain rfl : r = n := by omega
                have HI := Lib.hid (hI2.congr (Y := fun q => if q < j + 1 then gramF r X k q else 0) (fun i hi => by
                  by_cases e : i = j
                  · subst e; simp [gramF]
                  · simp only [e, if_false]
                    by_cases e2 : i < j
                    · rw [if_pos e2, if_pos (by omega)]
                    · rw [if_neg e2, if_neg (by omega)]))
                clear hI2
                go_wp2
                go_roundg (L 0 - (j + 1))
                case measure => omega
                case rel => exact ⟨j + 1, by omega, rfl, by go_num, HI.out, hx3⟩
          · obtain rfl : j = L 0 := by omega
            have hI' := (hI.congr (Y := gramF n X k) (fun i hi => by simp [hi])).now
            have hsz2 := ext_size hx2
            clear hI
            go_wp2_with (at_builtin; refine wpList_push_row rfl _ _ 22 rfl Try.underlying22 info_ints _ w.heap.size wo.heap.size k A' (fun _ => L 0) C' (gramF n X) (some ⟨wo.heap.size, 0, none⟩) (L 0) _ _ _ rfl ((hO.ext hx2).ext (ext_alloc (ext_refl _) _)) (hI'.ext (ext_alloc (ext_refl _) _)) ⟨wi.heap.size, 0, none⟩ 1 rfl (cell_new1 _ _ _) (by omega) (by omega) (by simp; omega) ?_; intro g' c' A'' C'' w2 hO2 hb2)
            go_roundg (L 0 - (k + 1))
            case measure => omega
            case rel => exact ⟨k + 1, some ⟨g', 0, none⟩, c', A'', C'', by omega, rfl, by go_num, rfl, hO2, Below.trans (ext_alloc (ext_trans hx hx2) _) hb2⟩
      · obtain rfl : k = L 0 := by omega
        go_wp2
        go_ret
        exact IfR.mkYes (by first | rfl | exact HR.out) ⟨_, _, _, _, rfl, hO, hx⟩
end Go.Proofs.Ytefgdkjcoeikmaa
