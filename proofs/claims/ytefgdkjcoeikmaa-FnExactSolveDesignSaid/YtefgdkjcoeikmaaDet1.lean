/- The contracts of leaving out a row and a column. No condition but those of each contract. -/
import Derived.Test.YtefgdkjcoeikmaaMat8
import Derived.Test.YtefgdkjcoeikmaaApp
import Derived.Deep.RegionLaw
namespace Go.Proofs.Ytefgdkjcoeikmaa
open Go.ChangeShapes Go.WideShapes Go.ChangeAt Go.RowKit
set_option linter.unusedVariables false
set_option linter.unusedSimpArgs false

/-- a list copied: a nil list stays nil -/
theorem impl_copyInts (a : Option Addr) (n c : Nat) (X : Nat → Int) (w : World) (h : IntsAt w a n X) (hn : n ≤ 1099511627776) :
    Calls Try.prog 83 #[.slice a n c] w (MakesI w n X) := by
  go_enter Try.func83, Try.ntmps83
  go_wp2_with (at_builtin; refine wpList_append_ints rfl _ _ 23 rfl Try.underlying23 info_int _ w.heap.size w.heap.size 0 X none 0 rfl (OI.nil _ _ _ _) a n c X rfl h (by omega) (Nat.le_refl _) ?_; intro g' c' w1 hO1 hb1; rw [Nat.zero_add] at hO1 ⊢)
  go_ret
  exact ⟨_, _, rfl, hO1.congr (fun i _ => by simp [joinF]), hb1⟩

/-- how many rows are there when j have been met -/
def posR (i j : Nat) : Nat := if i < j then j - 1 else j
theorem wo_row {X : Nat → Nat → Int} {i k j m : Nat} (hj : j ≠ i) (hk : k ≤ m) : ∀ c, c < k + (m + 1 - (k + 1)) → joinF k (X j) (fun q => X j (k + 1 + q)) c = wo X i k (posR i j) c := by
  intro c hc
  have hp : (if posR i j < i then posR i j else posR i j + 1) = j := by unfold posR; split <;> split <;> omega
  unfold wo joinF
  rw [hp]
  by_cases e : c < k
  · rw [if_pos e, if_pos e]
  · rw [if_neg e, if_neg e]
    show X j (k + 1 + (c - k)) = X j (c + 1)
    congr 1; omega

set_option maxRecDepth 100000 in
set_option maxHeartbeats 6400000 in
theorem impl_without (a : Option Addr) (n c i k : Nat) (A : Nat → Option Addr) (L C : Nat → Nat) (X : Nat → Nat → Int) (w : World) (h : RowsAt w a (n + 1) A L C X) (hn : n ≤ 8) (hL : ∀ r, r < n + 1 → L r = n + 1) (hi : i ≤ n) (hk : k ≤ n) :
    Calls Try.prog 74 #[.slice a (n + 1) c, .int .i64 i, .int .i64 k] w (MakesR w n (fun _ => n) (wo X i k)) := by
  have H := Lib.hid h
  have HL := Lib.hid hL
  clear h hL
  go_enter Try.func74, Try.ntmps74
  go_wp2
  go_loopg [7, 12] (n + 1) (fun g o q wr => ∃ (j p : Nat) (sa : Option Addr) (cc : Nat) (A' : Nat → Option Addr) (C' : Nat → Nat), j ≤ n + 1 ∧ g = n + 1 - j ∧ q = .int .i64 j ∧ Hid (p = posR i j) ∧ p ≤ n + 1 ∧ o = .slice sa p cc ∧ OR wr w.heap.size wr.heap.size (.slice sa p cc) p A' (fun _ => n) C' (wo X i k) ∧ Ext w wr)
  case atStart => exact ⟨0, 0, none, 0, fun _ => none, fun _ => 0, Nat.zero_le _, rfl, rfl, Lib.hid (by simp [posR]), Nat.zero_le _, rfl, OR.nil _ _ _ _ _ _ _, ext_refl _⟩
  case round =>
    obtain ⟨j, p, sa, cc, A', C', hj, rfl, rfl, hp, hpn, rfl, hO, hx⟩ := hrel
    rcases Nat.lt_or_ge j (n + 1) with jlt | jge
    · obtain ⟨ba, of, rfl, hc⟩ := H.out.at_ jlt
      have jlt' : (j : Int) < (n : Int) + 1 := by omega
      have hsz := ext_size hx
      have hrow := H.out.row j jlt
      have hcap := (H.out.le j jlt).1
      rw [HL.out j jlt] at hc hrow hcap
      generalize A j = aj at hc hrow
      generalize C j = cj at hc hcap
      have hc' := ext_cell hx hc
      clear hc
      by_cases e : j = i
      · have hb := neq_no e
        have HP := Lib.hid (show p = posR i (j + 1) by rw [hp.out]; subst e; simp [posR])
        clear e
        go_wp2
        go_roundg (n + 1 - (j + 1))
        case measure => omega
        case rel => exact ⟨j + 1, p, sa, cc, A', C', by omega, rfl, by go_num, HP, hpn, rfl, hO, hx⟩
      · have hb := neq_yes e
        have HP := Lib.hid (show p + 1 = posR i (j + 1) by rw [hp.out]; unfold posR; split <;> split <;> omega)
        have HW := Lib.hid (wo_row (X := X) (k := k) (m := n) e hk)
        have hp1 : p + 1 ≤ n + 1 := by have := HP.out; unfold posR at this; split at this <;> omega
        obtain ⟨br, ofr, rfl, _⟩ := hrow.at_ (show 0 < n + 1 by omega)
        have hrow' := hrow.ext hx
        have htake := hrow'.take (k := k) (by omega)
        have hcut := hrow'.cut (k := k + 1) hcap
        rw [show n + 1 - (k + 1) = n - k by omega] at hcut
        have k1 : (k : Int) ≤ (n : Int) + 1 := by omega
        have k2 : (k : Int) + 1 ≤ (n : Int) + 1 := by omega
        have k3 : (k : Int) ≤ (cj : Int) := by omega
        have W1 : IntKind.i64.wrap ((k : Int) + 1) = (k : Int) + 1 := wrapI (by omega) (by omega)
        have W2 : ((k : Int) + 1).toNat = k + 1 := by omega
        have W3 : (0 : Int) ≤ (k : Int) + 1 := by omega
        clear hrow hrow' e
        go_wp2
        go_region_law (first
          | (refine step_append_ints rfl (.tmp 24) (.tmp 28) 23 rfl Try.underlying23 info_int _ _ _ k (X j) p1 q1 rfl hO1 _ (n - k) (cj - (k + 1)) (fun q => X j (k + 1 + q)) rfl (hcut.ext (ext_trans (ext_drew (ext_refl _)) hx1)) (by omega) (by have := ext_size hx1; simpa using this) ?_
             intro a2 c2 w2 hO2 hb2
             rw [show k + (n - k) = n by omega] at hO2 ⊢
             have hx12 : Ext wr w2 := Below.trans (ext_trans (ext_drew (ext_refl _)) hx1) hb2
             have hsz2 := ext_size hx12
             have hR2 : OI w2 wr.heap.size w2.heap.size (.slice a2 n c2) n (wo X i k p) := hO2.congr (fun c hc => by rw [hp.out]; exact HW.out c (by omega)))
          | (refine step_push_row rfl (.tmp 20) (.tmp 30) 22 rfl Try.underlying22 info_ints _ w.heap.size wr.heap.size p A' (fun _ => n) C' (wo X i k) a2 c2 _ _ _ rfl ((hO.ext hx12).ext (ext_alloc (ext_refl _) _)) (hR2.ext (ext_alloc (ext_refl _) _)) ⟨w2.heap.size, 0, none⟩ 1 rfl (cell_new1 _ _ _) (by omega) (by omega) (by simp; omega) ?_
             intro g3 c3 A3 C3 w3 hO3 hb3)
          | (go_simp; go_at_call 83; refine (impl_copyInts _ _ _ _ _ (htake.ext (ext_drew (ext_refl _))) (by omega)).mono ?_; rintro e w1 ⟨p1, q1, rfl, hO1, hx1⟩))
        go_wp2
        all_goals
          go_roundg (n + 1 - (j + 1))
          case measure => omega
          case rel => exact ⟨j + 1, p + 1, some ⟨g3, 0, none⟩, c3, A3, C3, by omega, rfl, by go_num, HP, hp1, rfl, hO3, Below.trans (ext_alloc (ext_trans hx hx12) _) hb3⟩
    · obtain rfl : j = n + 1 := by omega
      have HN := Lib.hid (show p = n by rw [hp.out]; unfold posR; rw [if_pos (by omega)]; omega)
      clear hp
      obtain rfl : p = n := HN.out
      go_wp2
      go_ret
      exact ⟨_, _, _, _, rfl, hO, hx⟩

set_option maxRecDepth 100000 in
set_option maxHeartbeats 6400000 in
theorem spec_l22Without (a : Option Addr) (n c i k : Nat) (A : Nat → Option Addr) (L C : Nat → Nat) (X : Nat → Nat → Int) (w : World) (h : RowsAt w a (n + 1) A L C X) (hn : n ≤ 8) (hL : ∀ r, r < n + 1 → L r = n + 1) (hi : i ≤ n) (hk : k ≤ n) :
    Calls Try.prog 87 #[.slice a (n + 1) c, .int .i64 i, .int .i64 k] w (MakesR w n (fun _ => n) (wo X i k)) := by
  have H := Lib.hid h
  have HL := Lib.hid hL
  clear h hL
  go_enter Try.func87, Try.ntmps87
  go_wp2
  go_loopg [7, 8] (n + 1) (fun g o q wr => ∃ (j p : Nat) (sa : Option Addr) (cc : Nat) (A' : Nat → Option Addr) (C' : Nat → Nat), j ≤ n + 1 ∧ g = n + 1 - j ∧ q = .int .i64 j ∧ Hid (p = posR i j) ∧ p ≤ n + 1 ∧ o = .slice sa p cc ∧ OR wr w.heap.size wr.heap.size (.slice sa p cc) p A' (fun _ => n) C' (wo X i k) ∧ Ext w wr)
  case atStart => exact ⟨0, 0, some ⟨w.heap.size, 0, none⟩, 0, fun _ => none, fun _ => 0, Nat.zero_le _, rfl, rfl, Lib.hid (by simp [posR]), Nat.zero_le _, rfl, (OR.empty w _ _ _ _).now, (by repeat (first | (with_reducible exact ext_refl _) | (with_reducible refine ext_setCell ?_ ?_ _) | (with_reducible refine ext_alloc ?_ _) | (with_reducible refine ext_drewN ?_ _) | (with_reducible refine ext_drew ?_) | (with_reducible refine ext_trans ?_ (by assumption)) | (dsimp only; omega) | omega | (simp; omega)))⟩
  case round =>
    obtain ⟨j, p, sa, cc, A', C', hj, rfl, rfl, hp, hpn, rfl, hO, hx⟩ := hrel
    obtain ⟨wo_, rfl⟩ : ∃ wo_ : World, wo_ = wr := ⟨_, rfl⟩
    rcases Nat.lt_or_ge j (n + 1) with jlt | jge
    · have jlt' : (j : Int) < (n : Int) + 1 := by omega
      have hsz := ext_size hx
      by_cases e : j = i
      · have hb := neq_no e
        have HP := Lib.hid (show p = posR i (j + 1) by rw [hp.out]; subst e; simp [posR])
        clear e
        go_wp2
        refine wp_loop_rounds 1 ?_
        rw [rounds_succ]
        go_wp2
        go_roundg (n + 1 - (j + 1))
        case measure => omega
        case rel => exact ⟨j + 1, p, sa, cc, A', C', by omega, rfl, by go_num, HP, hpn, rfl, hO.ext (ext_alloc (ext_refl _) _) |>.now, ext_alloc hx _⟩
      · have hb := neq_yes e
        have HP := Lib.hid (show p + 1 = posR i (j + 1) by rw [hp.out]; unfold posR; split <;> split <;> omega)
        have HR := Lib.hid (show (if posR i j < i then posR i j else posR i j + 1) = j by unfold posR; split <;> split <;> omega)
        have hp1 : p + 1 ≤ n + 1 := by have := HP.out; unfold posR at this; split at this <;> omega
        clear e
        go_wp2
        go_loopg [9, 10] (n + 1) (fun g o q wr => ∃ (d s : Nat) (ra : Option Addr) (rc : Nat), d ≤ n + 1 ∧ g = n + 1 - d ∧ q = .int .i64 d ∧ Hid (s = posR k d) ∧ s ≤ n + 1 ∧ o = .slice ra s rc ∧ OI wr wo_.heap.size wr.heap.size (.slice ra s rc) s (wo X i k p) ∧ Ext wo_ wr)
        case atStart => exact ⟨0, 0, some ⟨wo_.heap.size, 0, none⟩, 0, Nat.zero_le _, rfl, rfl, Lib.hid (by simp [posR]), Nat.zero_le _, rfl, (OI.lit wo_ [] _ 0 (by simp [maxLen]) rfl).now, ext_alloc (ext_refl _) _⟩
        case round =>
          obtain ⟨d, s, ra, rc, hd, rfl, rfl, hs, hsn, rfl, hI, hx2⟩ := hrel
          have hxr := ext_trans hx hx2
          have hsz2 := ext_size hx2
          rcases Nat.lt_or_ge d (n + 1) with dlt | dge
          · have dlt' : (d : Int) < (n : Int) + 1 := by omega
            obtain ⟨ba, of, rfl, hc⟩ := H.out.at_ jlt
            have hrow := H.out.row j jlt
            rw [HL.out j jlt] at hc hrow
            generalize A j = aj at hc hrow
            obtain ⟨br, ofr, rfl, hcr⟩ := hrow.at_ dlt
            have hc' := ext_cell hxr hc
            have hcr' := ext_cell hxr hcr
            clear hc hcr hrow
            by_cases e2 : d = k
            · have hb2 := neq_no e2
              have HS := Lib.hid (show s = posR k (d + 1) by rw [hs.out]; subst e2; simp [posR])
              clear e2
              go_wp2
              go_roundg (n + 1 - (d + 1))
              case measure => omega
              case rel => exact ⟨d + 1, s, ra, rc, by omega, rfl, by go_num, HS, hsn, rfl, hI, hx2⟩
            · have hb2 := neq_yes e2
              have HS := Lib.hid (show s + 1 = posR k (d + 1) by rw [hs.out]; unfold posR; split <;> split <;> omega)
              have hs1 : s + 1 ≤ n + 1 := by have := HS.out; unfold posR at this; split at this <;> omega
              have HV : wo X i k p s = X j d := by
                have e3 : (if posR k d < k then posR k d else posR k d + 1) = d := by unfold posR; split <;> split <;> omega
                unfold wo; rw [hp.out, hs.out, HR.out, e3]
              have HVV := Lib.hid HV
              clear e2 HV
              go_wp2_with (at_builtin; refine wpList_push_int rfl _ _ 23 rfl Try.underlying23 info_int _ wo_.heap.size s (wo X i k p) (X j d) _ _ _ rfl (hI.ext (ext_alloc (ext_refl _) _)) ⟨wr.heap.size, 0, none⟩ 1 rfl (cell_new1 _ _ _) HVV.out (by omega) (by simp; omega) ?_; intro g' c' w2 hO1 hb1)
              go_roundg (n + 1 - (d + 1))
              case measure => omega
              case rel => exact ⟨d + 1, s + 1, some ⟨g', 0, none⟩, c', by omega, rfl, by go_num, HS, hs1, rfl, hO1, Below.trans (ext_alloc hx2 _) hb1⟩
          · obtain rfl : d = n + 1 := by omega
            have HN := Lib.hid (show s = n by rw [hs.out]; unfold posR; rw [if_pos (by omega)]; omega)
            clear hs
            obtain rfl : s = n := HN.out
            go_wp2_with (at_builtin; refine wpList_push_row rfl _ _ 22 rfl Try.underlying22 info_ints _ w.heap.size wo_.heap.size p A' (fun _ => s) C' (wo X i k) ra rc _ _ _ rfl ((hO.ext hx2).ext (ext_alloc (ext_refl _) _)) (hI.ext (ext_alloc (ext_refl _) _)) ⟨wr.heap.size, 0, none⟩ 1 rfl (cell_new1 _ _ _) (by omega) (by omega) (by simp; omega) ?_; intro g' c' A'' C'' w2 hO2 hb2)
            go_roundg (s + 1 - (j + 1))
            case measure => omega
            case rel => exact ⟨j + 1, p + 1, some ⟨g', 0, none⟩, c', A'', C'', by omega, rfl, by go_num, HP, hp1, rfl, hO2, Below.trans (ext_alloc hxr _) hb2⟩
    · obtain rfl : j = n + 1 := by omega
      have HN := Lib.hid (show p = n by rw [hp.out]; unfold posR; rw [if_pos (by omega)]; omega)
      clear hp
      obtain rfl : p = n := HN.out
      go_wp2
      go_ret
      exact ⟨_, _, _, _, rfl, hO, hx⟩
end Go.Proofs.Ytefgdkjcoeikmaa
