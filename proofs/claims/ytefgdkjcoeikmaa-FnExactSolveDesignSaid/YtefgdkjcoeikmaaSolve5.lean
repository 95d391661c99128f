/- The contract of the reference's tops of solutions. No condition but those of each contract. -/
import Derived.Test.YtefgdkjcoeikmaaSolve4
namespace Go.Proofs.Ytefgdkjcoeikmaa
open Go.ChangeShapes Go.WideShapes Go.ChangeAt Go.RowKit
set_option linter.unusedVariables false
set_option linter.unusedSimpArgs false

theorem dot_step (r : Nat) (X Y : Nat → Int) : dot (r + 1) X Y = dot r X Y + X r * Y r := rfl
theorem top_in {n : Nat} {L : Nat → Nat} {X : Nat → Nat → Int} {V : Nat → Int} (h : designOkB n L X = true) (hv : ∀ i, i < n → -500 ≤ V i ∧ V i ≤ 500) {k : Nat} (hk : k < L 0) (r : Nat) (hr : r ≤ L 0) : -1600000000 ≤ dot r (adjF (L 0) (gramF n X) k) (rightF n X V) ∧ dot r (adjF (L 0) (gramF n X) k) (rightF n X V) ≤ 1600000000 := by
  obtain ⟨_, ⟨m1, m2⟩, _⟩ := design_iff.1 h
  have := sumN_bound (n := r) (f := fun j => adjF (L 0) (gramF n X) k j * rightF n X V j) (B := 400000000) (fun j hj => top_prod h hv hk j (by omega))
  have e : (r : Int) * 400000000 ≤ 1600000000 := by omega
  show -1600000000 ≤ sumN r (fun j => adjF (L 0) (gramF n X) k j * rightF n X V j) ∧ sumN r (fun j => adjF (L 0) (gramF n X) k j * rightF n X V j) ≤ 1600000000
  omega

set_option maxHeartbeats 6400000 in
theorem spec_l24Tops (a b : Option Addr) (n c d : Nat) (A : Nat → Option Addr) (L C : Nat → Nat) (X : Nat → Nat → Int) (V : Nat → Int) (w : World) (h : RowsAt w a n A L C X) (hvr : IntsAt w b n V) (hn : n ≤ 1048576) (hT : off L n ≤ 1048576) (hd : designOkB n L X = true) (hv : ∀ i, i < n → -500 ≤ V i ∧ V i ≤ 500) :
    Calls Try.prog 56 #[.slice a n c, .slice b n d] w (MakesI w (L 0) (topF (L 0) n X V)) := by
  have H := Lib.hid h
  have HVR := Lib.hid hvr
  have HD := Lib.hid hd
  have HV := Lib.hid hv
  obtain ⟨⟨n1, n2⟩, ⟨m1, m2⟩, hD⟩ := design_iff.1 hd
  have HL := Lib.hid (show ∀ i, i < n → L i = L 0 from fun i hi => (hD i hi).1)
  have HSQ := Lib.hid (gram_square hd)
  have hn0' : (0 : Int) < (n : Int) := by omega
  obtain ⟨ba, of, rfl, hcs⟩ := H.out.top (show 0 < n by omega)
  have HCS := Lib.hid hcs
  have hc0 := hcs 0 (by omega)
  simp only [Nat.add_zero] at hc0
  obtain ⟨bv, ov, rfl, hvs⟩ := HVR.out (show 0 < n by omega)
  have HVS := Lib.hid hvs
  obtain ⟨m, hm⟩ : ∃ m, m = L 0 := ⟨_, rfl⟩
  rw [← hm] at m1 m2 hc0 ⊢
  have HM := Lib.hid hm
  have HRI := Lib.hid (fun j (hj : j < m) k hk => right_in HD.out HV.out (show j < L 0 by omega) k hk)
  have HTI := Lib.hid (fun k (hk : k < m) r (hr : r ≤ m) => top_in HD.out HV.out (show k < L 0 by omega) r (by omega))
  have HRP := Lib.hid (fun j (hj : j < m) => right_prod HD.out HV.out (show j < L 0 by omega))
  have HTP := Lib.hid (fun k (hk : k < m) j (hj : j < m) => top_prod HD.out HV.out (show k < L 0 by omega) j (by omega))
  rw [← hm] at HTI HTP
  clear hD hcs hvs hd hv hm hvr h
  have hmk := run_make_row' (P := Try.prog) 23 3 (.int .i64 0) 8 Try.underlying23 info_int rfl .i64 .i64 m (by omega) (by omega)
  have HMK := Lib.hid hmk
  clear hmk
  go_enter Try.func56, Try.ntmps56
  go_wp2_with fail
  refine ((spec_GramOf _ _ _ _ _ _ _ _ H.out hn hT).mono fun _ _ q => q.yes HD.out).mono ?_
  rw [← HM.out]
  rintro e w1 ⟨p1, q1, A1, C1, rfl, hO1, hx1⟩
  go_wp2_with fail
  refine (spec_l24Adjugate _ _ _ _ _ _ _ hO1.rows (by have := HSQ.out; rw [← HM.out] at this; exact this)).mono ?_
  rintro e w2 ⟨p2, q2, A2, C2, rfl, hO2, hx2⟩
  have E2 := ext_trans hx1 hx2
  have hz2 := ext_size E2
  have H2 := Lib.hid hO2.rows
  obtain ⟨b2, o2, rfl, ha2⟩ := H2.out.top (by omega)
  have HA2 := Lib.hid ha2
  clear hc0 hO1 hO2 ha2
  have hmk := HMK.out
  go_wp2_with fail
  clear hmk
  go_loopg [8] m (fun g i wr => ∃ (j : Nat), j ≤ m ∧ g = m - j ∧ i = .int .i64 j ∧ OI wr w2.heap.size (w2.heap.size + 1) (.slice (some ⟨w2.heap.size, 0, none⟩) m m) m (fun q => if q < j then rightF n X V q else 0) ∧ Ext w2 wr)
  case atStart => exact ⟨0, Nat.zero_le _, rfl, rfl, (OI.made w2 m (by unfold maxLen; omega)).congr (fun i _ => by simp), ext_alloc (ext_refl _) _⟩
  case round =>
    obtain ⟨j, hj, rfl, rfl, hI, hx3⟩ := hrel
    obtain ⟨wi, rfl⟩ : ∃ wi : World, wi = wr := ⟨_, rfl⟩
    rcases Nat.lt_or_ge j m with jlt | jge
    · have jlt' : (j : Int) < (m : Int) := by omega
      go_wp2_with fail
      go_loopg [9] n (fun g i wr => ∃ (r : Nat), r ≤ n ∧ g = n - r ∧ i = .int .i64 r ∧ OI wr w2.heap.size (w2.heap.size + 1) (.slice (some ⟨w2.heap.size, 0, none⟩) m m) m (fun q => if q = j then rightF r X V j else if q < j then rightF n X V q else 0) ∧ Ext w2 wr)
      case atStart => exact ⟨0, Nat.zero_le _, rfl, rfl, hI.congr (fun i _ => by by_cases e : i = j <;> simp [e, rightF, dot, sumN]), hx3⟩
      case round =>
        obtain ⟨r, hr, rfl, rfl, hI2, hx4⟩ := hrel
        have E4 := ext_trans E2 hx4
        rcases Nat.lt_or_ge r n with rlt | rge
        · have rlt' : (r : Int) < (n : Int) := by omega
          have d1 := ext_cell E4 (HCS.out r rlt)
          have R1 := (H.out.row r rlt).ext E4
          rw [HL.out r rlt, ← HM.out] at d1 R1
          generalize A r = ar at d1 R1
          obtain ⟨br, ofr, rfl, d2⟩ := R1.at_ jlt
          have d3 := ext_cell E4 (HVS.out r rlt)
          have d4 := hI2.cell jlt
          rw [if_pos rfl] at d4
          have d5 := hI2.frozen j
          obtain ⟨s1, s2⟩ := HRP.out j jlt r rlt
          obtain ⟨s3, s4⟩ := HRI.out j jlt r (by omega)
          have W1 : IntKind.i64.wrap (X r j * V r) = X r j * V r := wrapI (by omega) (by omega)
          have W2 : IntKind.i64.wrap (rightF r X V j + X r j * V r) = rightF r X V j + X r j * V r := wrapI (by omega) (by omega)
          have HS := Lib.hid (hI2.store j (rightF r X V j + X r j * V r))
          clear R1 hI2
          go_wp2
          go_still_tail 20, (by kernel_rfl)
          change wpList _ _ _ _ _ wr.drew
          go_wp2
          go_roundg (n - (r + 1))
          case measure => omega
          case rel =>
            refine ⟨r + 1, by omega, rfl, by go_num, (HS.out.ext (ext_drew (ext_refl _))).congr ?_, ext_drew (hx4.setCell (Nat.le_refl _) _)⟩
            intro i hi
            by_cases e : i = j
            · simp [e, rightF, dot, sumN]
            · simp [e]
        · obtain rfl : n = r := by omega
          go_wp2_with fail
          go_roundg (m - (j + 1))
          case measure => omega
          case rel =>
            refine ⟨j + 1, by omega, rfl, by go_num, hI2.congr ?_, hx4⟩
            intro i hi
            by_cases e : i = j
            · simp [e]
            · by_cases e2 : i < j
              · simp [e, e2, show i < j + 1 by omega]
              · simp [e, e2, show ¬ i < j + 1 by omega]
    · obtain rfl : m = j := by omega
      have HI := Lib.hid ((hI.congr (Y := rightF n X V) (fun i hi => by simp [hi])).reads)
      have hzi := ext_size hx3
      have hmk := HMK.out
      clear hI
      go_wp2_with fail
      clear hmk
      go_loopg [11] m (fun g i wr => ∃ (j : Nat), j ≤ m ∧ g = m - j ∧ i = .int .i64 j ∧ OI wr wi.heap.size (wi.heap.size + 1) (.slice (some ⟨wi.heap.size, 0, none⟩) m m) m (fun q => if q < j then topF m n X V q else 0) ∧ Ext wi wr)
      case atStart => exact ⟨0, Nat.zero_le _, rfl, rfl, (OI.made wi m (by unfold maxLen; omega)).congr (fun i _ => by simp), ext_alloc (ext_refl _) _⟩
      case round =>
        obtain ⟨j, hj, rfl, rfl, hI, hx5⟩ := hrel
        obtain ⟨wj, rfl⟩ : ∃ wj : World, wj = wr := ⟨_, rfl⟩
        rcases Nat.lt_or_ge j m with jlt | jge
        · have jlt' : (j : Int) < (m : Int) := by omega
          go_wp2_with fail
          go_loopg [12] m (fun g i wr => ∃ (r : Nat), r ≤ m ∧ g = m - r ∧ i = .int .i64 r ∧ OI wr wi.heap.size (wi.heap.size + 1) (.slice (some ⟨wi.heap.size, 0, none⟩) m m) m (fun q => if q = j then dot r (adjF m (gramF n X) j) (rightF n X V) else if q < j then topF m n X V q else 0) ∧ Ext wi wr)
          case atStart => exact ⟨0, Nat.zero_le _, rfl, rfl, hI.congr (fun i _ => by by_cases e : i = j <;> simp [e, dot, sumN]), hx5⟩
          case round =>
            obtain ⟨r, hr, rfl, rfl, hI2, hx6⟩ := hrel
            have E6 := ext_trans hx3 hx6
            rcases Nat.lt_or_ge r m with rlt | rge
            · have rlt' : (r : Int) < (m : Int) := by omega
              have d1 := ext_cell E6 (HA2.out j jlt)
              have R1 := (H2.out.row j jlt).ext E6
              generalize A2 j = ar at d1 R1
              obtain ⟨br, ofr, rfl, d2⟩ := R1.at_ rlt
              obtain ⟨bq, oq, hbq, d3⟩ := (HI.out.ext hx6).at_ rlt
              simp only [Option.some.injEq, Addr.mk.injEq, and_true] at hbq
              obtain ⟨rfl, rfl⟩ := hbq
              simp only [Nat.zero_add] at d3
              have d4 := hI2.cell jlt
              rw [if_pos rfl] at d4
              have d5 := hI2.frozen j
              obtain ⟨s1, s2⟩ := HTP.out j jlt r rlt
              obtain ⟨s3, s4⟩ := HTI.out j jlt r (by omega)
              have W1 : IntKind.i64.wrap (adjF m (gramF n X) j r * rightF n X V r) = adjF m (gramF n X) j r * rightF n X V r := wrapI (by omega) (by omega)
              have W2 : IntKind.i64.wrap (dot r (adjF m (gramF n X) j) (rightF n X V) + adjF m (gramF n X) j r * rightF n X V r) = dot r (adjF m (gramF n X) j) (rightF n X V) + adjF m (gramF n X) j r * rightF n X V r := wrapI (by omega) (by omega)
              have HS := Lib.hid (hI2.store j (dot r (adjF m (gramF n X) j) (rightF n X V) + adjF m (gramF n X) j r * rightF n X V r))
              clear R1 hI2
              go_wp2
              go_still_tail 20, (by kernel_rfl)
              change wpList _ _ _ _ _ wr.drew
              go_wp2
              go_roundg (m - (r + 1))
              case measure => omega
              case rel =>
                refine ⟨r + 1, by omega, rfl, by go_num, (HS.out.ext (ext_drew (ext_refl _))).congr ?_, ext_drew (hx6.setCell (Nat.le_refl _) _)⟩
                intro i hi
                by_cases e : i = j
                · simp [e, dot, sumN]
                · simp [e]
            · obtain rfl : m = r := by omega
              go_wp2_with fail
              go_roundg (m - (j + 1))
              case measure => omega
              case rel =>
                refine ⟨j + 1, by omega, rfl, by go_num, hI2.congr ?_, hx6⟩
                intro i hi
                by_cases e : i = j
                · simp [e, topF]
                · by_cases e2 : i < j
                  · simp [e, e2, show i < j + 1 by omega]
                  · simp [e, e2, show ¬ i < j + 1 by omega]
        · obtain rfl : m = j := by omega
          go_wp2_with fail
          go_ret
          exact ⟨_, _, rfl, ((hI.congr (Y := topF m n X V) (fun i hi => by simp [hi])).mono (by omega) (Nat.le_refl _)).now, ext_trans E2 (ext_trans hx3 hx5)⟩
end Go.Proofs.Ytefgdkjcoeikmaa
