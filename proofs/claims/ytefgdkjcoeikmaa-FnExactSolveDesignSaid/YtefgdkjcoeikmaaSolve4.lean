/- The contracts of the reference's solving of designs. No condition but those of each contract. -/
import Derived.Test.YtefgdkjcoeikmaaSolve3
import Derived.StillTailTactics
namespace Go.Proofs.Ytefgdkjcoeikmaa
open Go.ChangeShapes Go.WideShapes Go.ChangeAt Go.RowKit
set_option linter.unusedVariables false
set_option linter.unusedSimpArgs false

set_option maxHeartbeats 6400000 in
theorem spec_l24Adjugate (a : Option Addr) (n c : Nat) (A : Nat → Option Addr) (C : Nat → Nat) (X : Nat → Nat → Int) (w : World) (h : RowsAt w a n A (fun _ => n) C X) (h0 : squareOkB n (fun _ => n) X = true) :
    Calls Try.prog 88 #[.slice a n c] w (MakesR w n (fun _ => n) (adjF n X)) := by
  have H := Lib.hid h
  have HR := Lib.hid h0
  obtain ⟨⟨n1, n2⟩, _⟩ := square_iff.1 h0
  clear h0 h
  obtain ⟨m, hm⟩ : ∃ m, n = m + 1 := ⟨n - 1, by omega⟩
  have HM := Lib.hid hm
  have HS := Lib.hid (show Sq (m + 1) (fun _ => m + 1) X from by have := sq_of HR.out; rw [hm] at this; exact this)
  have HW := Lib.hid (show ∀ (w' : World), Ext w w' → RowsAt w' a (m + 1) A (fun _ => m + 1) C X from fun w' E => by have := H.out.ext E; rw [hm] at this; exact this)
  clear hm
  go_enter Try.func88, Try.ntmps88
  go_wp2_with fail
  go_loopg [3, 4] n (fun g o i wr => ∃ (k : Nat) (q : Option Addr) (cc : Nat) (A' : Nat → Option Addr) (C' : Nat → Nat), k ≤ n ∧ g = n - k ∧ i = .int .i64 k ∧ o = .slice q k cc ∧ OR wr w.heap.size wr.heap.size (.slice q k cc) k A' (fun _ => n) C' (adjF n X) ∧ Ext w wr)
  case atStart => exact ⟨0, some ⟨w.heap.size, 0, none⟩, 0, fun _ => none, fun _ => 0, Nat.zero_le _, rfl, rfl, rfl, (OR.empty w _ _ _ _).now, ext_alloc (ext_refl _) _⟩
  case round =>
    obtain ⟨k, q, cc, A', C', hk, rfl, rfl, rfl, hO, hx⟩ := hrel
    obtain ⟨wo_, rfl⟩ : ∃ wo_ : World, wo_ = wr := ⟨_, rfl⟩
    rcases Nat.lt_or_ge k n with hlt | hge
    · have hlt' : (k : Int) < (n : Int) := by omega
      have hszo := ext_size hx
      go_wp2_with fail
      go_loopg [5, 6] n (fun g o i wr => ∃ (j : Nat) (q2 : Option Addr) (cc2 : Nat), j ≤ n ∧ g = n - j ∧ i = .int .i64 j ∧ o = .slice q2 j cc2 ∧ OI wr wo_.heap.size wr.heap.size (.slice q2 j cc2) j (adjF n X k) ∧ Ext wo_ wr)
      case atStart => exact ⟨0, some ⟨wo_.heap.size, 0, none⟩, 0, Nat.zero_le _, rfl, rfl, rfl, (OI.lit wo_ [] _ 0 (by simp [maxLen]) rfl).now, ext_alloc (ext_refl _) _⟩
      case round =>
        obtain ⟨j, q2, cc2, hj, rfl, rfl, rfl, hI, hx2⟩ := hrel
        have hxr := ext_trans hx hx2
        have hsz2 := ext_size hx2
        rcases Nat.lt_or_ge j n with jlt | jge
        · have jlt' : (j : Int) < (n : Int) := by omega
          obtain ⟨_, m2, m3⟩ := minor_at HR.out jlt hlt
          have HDW := Lib.hid (HS.out.wo j k)
          have hwithout := (spec_l22Without a m c j k A (fun _ => m + 1) C X wr (HW.out wr hxr) (by have := HM.out; omega) (fun _ _ => rfl) (by have := HM.out; omega) (by have := HM.out; omega))
          rw [← HM.out] at hwithout
          have HMM := Lib.hid (show n - 1 = m by have := HM.out; omega)
          rw [HMM.out] at m2 m3
          by_cases e : (k + j) % 2 = 1
          · have hb : (((k : Int) + (j : Int)) % 2 == 1) = true := by simp; omega
            have HA := Lib.hid (show adjF n X k j = -detF m (wo X j k) by rw [adj_odd e, HMM.out])
            clear e
            go_wp2_with fail
            refine hwithout.mono ?_
            rintro e w1 ⟨p1, q1, A1, C1, rfl, hO1, hx3⟩
            clear hwithout
            go_wp2_with fail
            refine (spec_l22Det m _ _ _ _ _ _ _ hO1.rows HDW.out).mono ?_
            rintro e w2 ⟨rfl, hx4⟩
            have hx5 := ext_trans hx3 hx4
            have hI1 := hI.ext hx5
            have hsz3 := ext_size hx5
            clear hO1
            go_wp2_with (at_builtin; refine wpList_push_int rfl _ _ 23 rfl Try.underlying23 info_int _ wo_.heap.size j (adjF n X k) (-detF m (wo X j k)) _ _ _ rfl (hI1.ext (ext_alloc (ext_refl _) _)) ⟨w2.heap.size, 0, none⟩ 1 rfl (cell_new1 _ _ _) HA.out (by omega) (by simp; omega) ?_; intro g' c' w4 hO4 hb4)
            go_roundg (n - (j + 1))
            case measure => omega
            case rel => exact ⟨j + 1, some ⟨g', 0, none⟩, c', by omega, rfl, by go_num, rfl, hO4, Below.trans (ext_alloc (ext_trans hx2 hx5) _) hb4⟩
          · have hb : (((k : Int) + (j : Int)) % 2 == 1) = false := by simp; omega
            have HA := Lib.hid (show adjF n X k j = detF m (wo X j k) by rw [adj_even e, HMM.out])
            clear e
            go_wp2_with fail
            refine hwithout.mono ?_
            rintro e w1 ⟨p1, q1, A1, C1, rfl, hO1, hx3⟩
            clear hwithout
            go_wp2_with fail
            refine (spec_l22Det m _ _ _ _ _ _ _ hO1.rows HDW.out).mono ?_
            rintro e w2 ⟨rfl, hx4⟩
            have hx5 := ext_trans hx3 hx4
            have hI1 := hI.ext hx5
            have hsz3 := ext_size hx5
            clear hO1
            go_wp2_with (at_builtin; refine wpList_push_int rfl _ _ 23 rfl Try.underlying23 info_int _ wo_.heap.size j (adjF n X k) (detF m (wo X j k)) _ _ _ rfl (hI1.ext (ext_alloc (ext_refl _) _)) ⟨w2.heap.size, 0, none⟩ 1 rfl (cell_new1 _ _ _) HA.out (by omega) (by simp; omega) ?_; intro g' c' w4 hO4 hb4)
            go_roundg (n - (j + 1))
            case measure => omega
            case rel => exact ⟨j + 1, some ⟨g', 0, none⟩, c', by omega, rfl, by go_num, rfl, hO4, Below.trans (ext_alloc (ext_trans hx2 hx5) _) hb4⟩
        · obtain rfl : n = j := by omega
          go_wp2_with (at_builtin; refine wpList_push_row rfl _ _ 22 rfl Try.underlying22 info_ints _ w.heap.size wo_.heap.size k A' (fun _ => n) C' (adjF n X) q2 cc2 _ _ _ rfl ((hO.ext hx2).ext (ext_alloc (ext_refl _) _)) (hI.ext (ext_alloc (ext_refl _) _)) ⟨wr.heap.size, 0, none⟩ 1 rfl (cell_new1 _ _ _) (by omega) (by omega) (by simp; omega) ?_; intro g' c' A'' C'' w2 hO2 hb2)
          go_roundg (n - (k + 1))
          case measure => omega
          case rel => exact ⟨k + 1, some ⟨g', 0, none⟩, c', A'', C'', by omega, rfl, by go_num, rfl, hO2, Below.trans (ext_alloc hxr _) hb2⟩
    · obtain rfl : n = k := by omega
      go_wp2_with fail
      go_ret
      exact ⟨_, _, _, _, rfl, hO, hx⟩
end Go.Proofs.Ytefgdkjcoeikmaa
