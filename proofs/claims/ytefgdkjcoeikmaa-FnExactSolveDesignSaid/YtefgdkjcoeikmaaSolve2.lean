/- The contracts of the program's solving of designs. No condition but those of each contract. -/
import Derived.Test.YtefgdkjcoeikmaaSolve1
import Derived.Test.YtefgdkjcoeikmaaFracS
namespace Go.Proofs.Ytefgdkjcoeikmaa
open Go.ChangeShapes Go.WideShapes Go.ChangeAt Go.RowKit
set_option linter.unusedVariables false
set_option linter.unusedSimpArgs false

def rightF (n : Nat) (X : Nat → Nat → Int) (V : Nat → Int) : Nat → Int := fun j => dot n (fun r => X r j) V
def topF (m n : Nat) (X : Nat → Nat → Int) (V : Nat → Int) : Nat → Int := fun k => dot m (adjF m (gramF n X) k) (rightF n X V)
theorem reads_parts {n m : Nat} {L : Nat → Nat} {X : Nat → Nat → Int} {V : Nat → Int} (h : readingsOkB n L X m V = true) : isDetB n L X = true ∧ m = n ∧ ∀ i, i < n → -500 ≤ V i ∧ V i ≤ 500 := by
  simp only [readingsOkB, Bool.and_eq_true, decide_eq_true_eq] at h
  obtain ⟨h1, rfl, h3⟩ := h
  exact ⟨h1, rfl, allB_iff.1 h3⟩
theorem right_prod {n : Nat} {L : Nat → Nat} {X : Nat → Nat → Int} {V : Nat → Int} (h : designOkB n L X = true) (hv : ∀ i, i < n → -500 ≤ V i ∧ V i ≤ 500) {j : Nat} (hj : j < L 0) : ∀ r, r < n → -500 ≤ X r j * V r ∧ X r j * V r ≤ 500 := by
  intro r hr
  obtain ⟨_, _, hD⟩ := design_iff.1 h
  obtain ⟨l1, l2⟩ := hD r hr
  have := mul_bound (A := 1) (B := 500) (l2 j (by omega)) (hv r hr)
  omega
theorem right_in {n : Nat} {L : Nat → Nat} {X : Nat → Nat → Int} {V : Nat → Int} (h : designOkB n L X = true) (hv : ∀ i, i < n → -500 ≤ V i ∧ V i ≤ 500) {j : Nat} (hj : j < L 0) (k : Nat) (hk : k ≤ n) : -4000 ≤ rightF k X V j ∧ rightF k X V j ≤ 4000 := by
  obtain ⟨⟨n1, n2⟩, _, _⟩ := design_iff.1 h
  have := sumN_bound (n := k) (f := fun r => X r j * V r) (B := 500) (fun r hr => right_prod h hv hj r (by omega))
  have e : (k : Int) * 500 ≤ 4000 := by omega
  show -4000 ≤ sumN k (fun r => X r j * V r) ∧ sumN k (fun r => X r j * V r) ≤ 4000
  omega
theorem gadj_in {n : Nat} {L : Nat → Nat} {X : Nat → Nat → Int} (h : designOkB n L X = true) {i k : Nat} (hi : i < L 0) (hk : k < L 0) : -100000 ≤ adjF (L 0) (gramF n X) i k ∧ adjF (L 0) (gramF n X) i k ≤ 100000 := by
  obtain ⟨_, m2, m3⟩ := minor_at (gram_square h) hk hi
  by_cases e : (i + k) % 2 = 1
  · rw [adj_odd e]; omega
  · rw [adj_even e]; omega
theorem top_prod {n : Nat} {L : Nat → Nat} {X : Nat → Nat → Int} {V : Nat → Int} (h : designOkB n L X = true) (hv : ∀ i, i < n → -500 ≤ V i ∧ V i ≤ 500) {k : Nat} (hk : k < L 0) : ∀ j, j < L 0 → -400000000 ≤ adjF (L 0) (gramF n X) k j * rightF n X V j ∧ adjF (L 0) (gramF n X) k j * rightF n X V j ≤ 400000000 := by
  intro j hj
  have := mul_bound (gadj_in h hk hj) (right_in h hv hj n (Nat.le_refl _))
  omega

set_option maxHeartbeats 3200000 in
theorem impl_solved (a b : Option Addr) (n c d : Nat) (A : Nat → Option Addr) (L C : Nat → Nat) (X : Nat → Nat → Int) (V : Nat → Int) (w : World) (h : RowsAt w a n A L C X) (hvr : IntsAt w b n V) (hn : n ≤ 1048576) (hT : off L n ≤ 1048576) (hd : designOkB n L X = true) (hv : ∀ i, i < n → -500 ≤ V i ∧ V i ≤ 500) :
    Calls Try.prog 59 #[.slice a n c, .slice b n d] w fun e w' => ∃ (q : Option Addr) (cc : Nat), e = .returned (.tuple #[.slice q (L 0) cc, .int .i64 (gdet n L X)]) ∧ OI w' w.heap.size w'.heap.size (.slice q (L 0) cc) (L 0) (topF (L 0) n X V) ∧ Ext w w' := by
  have H := Lib.hid h
  have HVR := Lib.hid hvr
  have HD := Lib.hid hd
  have HV := Lib.hid hv
  obtain ⟨⟨n1, n2⟩, ⟨m1, m2⟩, hD⟩ := design_iff.1 hd
  have HL := Lib.hid (show ∀ i, i < n → L i = L 0 from fun i hi => (hD i hi).1)
  have HSQ := Lib.hid (gram_square hd)
  have HS := Lib.hid (gram_sq hd)
  have hn0' : (0 : Int) < (n : Int) := by omega
  obtain ⟨ba, of, rfl, hc0⟩ := H.out.at_ (show 0 < n by omega)
  simp only [Nat.add_zero] at hc0
  have HC := Lib.hid hc0
  have hoff := off_const_small (k := L 0) (by omega)
  obtain ⟨m, hm⟩ : ∃ m, m = L 0 := ⟨_, rfl⟩
  rw [← hm] at m1 m2 hoff ⊢
  have HM := Lib.hid hm
  clear hD hc0 hd hv hm hvr h
  go_enter Try.func59, Try.ntmps59
  go_wp2_with fail
  refine ((impl_GramOf _ _ _ _ _ _ _ _ H.out hn hT).mono fun _ _ q => q.1 HD.out).mono ?_
  rw [← HM.out]
  rintro e w1 ⟨p1, q1, A1, C1, rfl, hO1, hx1⟩
  have hc1 := ext_cell hx1 HC.out
  rw [← HM.out] at hc1
  go_wp2_with fail
  clear hc1
  go_loopg [7, 18] m (fun g o i wr => ∃ (j : Nat) (q2 : Option Addr) (cc2 : Nat), j ≤ m ∧ g = m - j ∧ o = .slice q2 j cc2 ∧ i = .int .i64 j ∧ OI wr w1.heap.size wr.heap.size (.slice q2 j cc2) j (rightF n X V) ∧ Ext w1 wr)
  case atStart => exact ⟨0, none, 0, Nat.zero_le _, rfl, rfl, rfl, OI.nil _ _ _ _, ext_refl _⟩
  case round =>
    obtain ⟨j, q2, cc2, hj, rfl, rfl, rfl, hI, hx2⟩ := hrel
    have hxr := ext_trans hx1 hx2
    have hsz2 := ext_size hx2
    rcases Nat.lt_or_ge j m with jlt | jge
    · have jlt' : (j : Int) < m := by omega
      have jl0 : j < L 0 := by rw [← HM.out]; exact jlt
      go_wp2_with fail
      refine (impl_column _ _ _ _ _ _ _ _ _ (H.out.ext hxr) hn (fun i hi => by rw [HL.out i hi]; exact jl0) (by omega)).mono ?_
      rintro e w2 ⟨p2, q3, rfl, hO2, hx3⟩
      have HP := Lib.hid (right_prod HD.out HV.out jl0)
      go_wp2_with fail
      refine (impl_product _ _ _ _ _ _ _ _ _ hO2.reads (HVR.out.ext (ext_trans hxr hx3)) (Nat.le_refl _) (by omega) (by omega) (fun i hi => by have := HP.out i hi; omega)).mono ?_
      rintro e w3 ⟨rfl, hd3⟩
      have hx4 := ext_trans hx3 hd3.ext
      have hsz4 := ext_size hx4
      have hI3 := hI.ext hx4
      clear hO2 hd3 hx3
      go_wp2_with (at_builtin; refine wpList_push_int rfl _ _ 23 rfl Try.underlying23 info_int _ w1.heap.size j (rightF n X V) (dot n (fun i => X i j) V) _ _ _ rfl (hI3.ext (ext_alloc (ext_refl _) _)) ⟨w3.heap.size, 0, none⟩ 1 rfl (cell_new1 _ _ _) rfl (by omega) (by simp; omega) ?_; intro g' c' w4 hO4 hb4)
      go_roundg (m - (j + 1))
      case measure => omega
      case rel => exact ⟨j + 1, some ⟨g', 0, none⟩, c', by omega, rfl, rfl, by go_num, hO4, Below.trans (ext_alloc (ext_trans hx2 hx4) _) hb4⟩
    · obtain rfl : m = j := by omega
      obtain ⟨wa, rfl⟩ : ∃ wa : World, wa = wr := ⟨_, rfl⟩
      have HI := Lib.hid hI.reads
      have HO1 := Lib.hid (hO1.rows.ext hx2)
      go_wp2_with fail
      refine ((impl_AdjugateOf _ _ _ _ _ _ _ _ HO1.out (by omega) hoff).mono fun _ _ q => q.1 (by have := HSQ.out; rw [← HM.out] at this; exact this)).mono ?_
      rintro e w3 ⟨p3, q3, A3, C3, rfl, hO3, hx3⟩
      have H3 := Lib.hid hO3.rows
      obtain ⟨b3, o3, rfl, hc3⟩ := H3.out.top (by omega)
      have HC3 := Lib.hid hc3
      clear hO3 hc3 hI hO1
      go_wp2_with fail
      go_loopg [9, 33] m (fun g o i wr => ∃ (j : Nat) (q2 : Option Addr) (cc2 : Nat), j ≤ m ∧ g = m - j ∧ o = .slice q2 j cc2 ∧ i = .int .i64 j ∧ OI wr w3.heap.size wr.heap.size (.slice q2 j cc2) j (topF m n X V) ∧ Ext w3 wr)
      case atStart => exact ⟨0, none, 0, Nat.zero_le _, rfl, rfl, rfl, OI.nil _ _ _ _, ext_refl _⟩
      case round =>
        obtain ⟨j, q2, cc2, hj, rfl, rfl, rfl, hI, hx4⟩ := hrel
        have hsz4 := ext_size hx4
        rcases Nat.lt_or_ge j m with jlt | jge
        · have jlt' : (j : Int) < m := by omega
          have jl0 : j < L 0 := by rw [← HM.out]; exact jlt
          have c3 := ext_cell hx4 (HC3.out j jlt)
          have R3 := (H3.out.row j jlt).ext hx4
          have HP := Lib.hid (top_prod HD.out HV.out jl0)
          rw [← HM.out] at HP
          go_wp2_with fail
          refine (impl_product _ _ _ _ _ _ _ _ _ R3 (HI.out.ext (ext_trans hx3 hx4)) (Nat.le_refl _) (by omega) (by omega) (fun i hi => by have := HP.out i hi; omega)).mono ?_
          rintro e w5 ⟨rfl, hd5⟩
          have hx5 := hd5.ext
          have hsz5 := ext_size hx5
          have hI5 := hI.ext hx5
          clear hd5 c3 R3 HP
          go_wp2_with (at_builtin; refine wpList_push_int rfl _ _ 23 rfl Try.underlying23 info_int _ w3.heap.size j (topF m n X V) (dot m (adjF m (gramF n X) j) (rightF n X V)) _ _ _ rfl (hI5.ext (ext_alloc (ext_refl _) _)) ⟨w5.heap.size, 0, none⟩ 1 rfl (cell_new1 _ _ _) rfl (by omega) (by simp; omega) ?_; intro g' c' w6 hO6 hb6)
          go_roundg (m - (j + 1))
          case measure => omega
          case rel => exact ⟨j + 1, some ⟨g', 0, none⟩, c', by omega, rfl, rfl, by go_num, hO6, Below.trans (ext_alloc (ext_trans hx4 hx5) _) hb6⟩
        · obtain rfl : m = j := by omega
          have E := ext_trans hx1 (ext_trans hx2 (ext_trans hx3 hx4))
          have hzE := ext_size (ext_trans hx1 (ext_trans hx2 hx3))
          have HR := Lib.hid (show detF m (gramF n X) = gdet n L X by unfold gdet; rw [← HM.out])
          go_wp2_with fail
          refine (impl_determinant _ _ _ _ _ _ _ _ (HO1.out.ext (ext_trans hx3 hx4)) (by have := HS.out; rw [← HM.out] at this; exact this)).mono ?_
          rw [HR.out]
          rintro e w7 ⟨rfl, hx7⟩
          go_wp2_with fail
          go_ret2
          exact ⟨q2, cc2, rfl, ((hI.ext hx7).mono (by omega) (Nat.le_refl _)).now, ext_trans E hx7⟩
end Go.Proofs.Ytefgdkjcoeikmaa
