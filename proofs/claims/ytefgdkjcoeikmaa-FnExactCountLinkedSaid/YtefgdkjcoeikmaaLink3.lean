/- The contract of the reference's count of linked objects. No condition but those of each contract. -/
import Derived.Test.YtefgdkjcoeikmaaLink2
namespace Go.Proofs.Ytefgdkjcoeikmaa
open Go.ChangeShapes Go.WideShapes Go.ChangeAt Go.RowKit
set_option linter.unusedVariables false
set_option linter.unusedSimpArgs false

set_option maxHeartbeats 6400000 in
set_option maxRecDepth 100000 in
theorem spec_CountLinked (a : Option Addr) (n c : Nat) (A : Nat → Option Addr) (L C : Nat → Nat) (X : Nat → Nat → Int) (w : World) (h : RowsAt w a n A L C X) (hn : n ≤ 1048576) (hT : off L n ≤ 1048576) :
    Calls Try.prog 21 #[.slice a n c] w fun e w' => ∃ z, LinkedIs n L X z ∧ e = .returned (.int .i64 z) ∧ Ext w w' := by
  have H := Lib.hid h
  cases h0 : designOkB n L X
  · have HR := Lib.hid h0
    go_enter Try.func21, Try.ntmps21
    go_wp2_with (go_at_call 62; refine (spec_DesignOk _ _ _ _ _ _ _ _ h hn hT).mono ?_; rintro e w' ⟨rfl, hd⟩)
    go_ret
    exact ⟨0, ⟨(fun q => absurd (HR.out.symm.trans q) (by simp)), fun _ => rfl⟩, rfl, hd.ext⟩
  · have HR := Lib.hid h0
    obtain ⟨⟨n1, n2⟩, ⟨m1, m2⟩, hD⟩ := design_iff.1 h0
    have HL := Lib.hid (show ∀ i, i < n → L i = L 0 from fun i hi => (hD i hi).1)
    have hn0 : 0 < n := by omega
    have hn0' : (0 : Int) < (n : Int) := by omega
    obtain ⟨ba, of, rfl, hc0⟩ := H.out.top hn0
    have HC := Lib.hid hc0
    have hc00 := hc0 0 hn0
    simp only [Nat.add_zero] at hc00
    clear hD hc0
    obtain ⟨m, hm⟩ : ∃ m, m = L 0 := ⟨_, rfl⟩
    have HM := Lib.hid hm
    rw [← hm] at m1 m2 hc00
    have HLm := Lib.hid (show ∀ i, i < n → L i = m from fun i hi => (HL.out i hi).trans hm.symm)
    clear hm
    go_enter Try.func21, Try.ntmps21
    go_wp2_with fail
    refine (spec_DesignOk _ _ _ _ _ _ _ _ h hn hT).mono ?_
    rw [h0]
    rintro e w0 ⟨rfl, hd⟩
    have hx0 := hd.ext
    have hc1 := ext_cell hx0 hc00
    have hsz0 := ext_size hx0
    have hE := OI.lit w0 [] (fun i => (i : Int)) 0 (by simp [maxLen]) rfl
    clear h h0 hc00 hd
    go_wp2_with fail
    clear hc1
    go_loopg [4, 5] m (fun g s i wr => ∃ (k : Nat) (q : Option Addr) (cc : Nat), k ≤ m ∧ g = m - k ∧ s = .slice q k cc ∧ i = .int .i64 k ∧ OI wr w0.heap.size wr.heap.size (.slice q k cc) k (fun i => (i : Int)) ∧ Ext w0 wr)
    case atStart => exact ⟨0, _, _, Nat.zero_le _, rfl, rfl, rfl, hE.now, ext_alloc (ext_refl _) _⟩
    case round =>
      clear hE
      obtain ⟨k, q, cc, hk, rfl, rfl, rfl, hI, hx⟩ := hrel
      have hsz := ext_size hx
      rcases Nat.lt_or_ge k m with hlt | hge
      · have hlt' : (k : Int) < (m : Int) := by omega
        go_wp2_with (at_builtin; refine wpList_push_int rfl _ _ 23 rfl Try.underlying23 info_int _ w0.heap.size k (fun i => (i : Int)) (k : Int) _ _ _ rfl (hI.ext (ext_alloc (ext_refl _) _)) ⟨wr.heap.size, 0, none⟩ 1 rfl (cell_new1 _ _ _) rfl (by omega) (by simp; omega) ?_; intro g' c' w4 hO4 hb4)
        go_roundg (m - (k + 1))
        case measure => omega
        case rel => exact ⟨k + 1, some ⟨g', 0, none⟩, c', by omega, rfl, rfl, by go_num, hO4, Below.trans (ext_alloc hx _) hb4⟩
      · obtain rfl : m = k := by omega
        obtain ⟨w1, rfl⟩ : ∃ w1 : World, w1 = wr := ⟨_, rfl⟩
        obtain ⟨g, rfl, g1, g2, g3⟩ := hI.head (by omega)
        have HG := Lib.hid g1
        have HC0 := Lib.hid (fun i hi => ext_cell hx0 (HC.out i hi))
        have HX := Lib.hid (H.out.ext hx0)
        go_wp2_with fail
        go_loopg [6] n (fun gh i wr => ∃ (r : Nat) (G : Nat → Int), r ≤ n ∧ gh = n - r ∧ i = .int .i64 r ∧ OI wr w0.heap.size w1.heap.size (.slice (some ⟨g, 0, none⟩) m cc) m G ∧ Lab (fun _ => m) n m X r 0 0 G ∧ Ext w0 wr)
        case atStart => exact ⟨0, _, Nat.zero_le _, rfl, rfl, hI, Lab.start (by omega), hx⟩
        case round =>
          clear hI
          obtain ⟨r, G, hr, rfl, rfl, hI, hLab, hx⟩ := hrel
          rcases Nat.lt_or_ge r n with rlt | rge
          · have r1 : (r : Int) < n := by omega
            have c0 := HC0.out r rlt
            rw [HLm.out r rlt] at c0
            have R1 := HX.out.row r rlt
            rw [HLm.out r rlt] at R1
            generalize A r = ar at c0 R1
            obtain ⟨b1, o1, rfl, d1⟩ := R1 (by omega)
            have HD := Lib.hid d1
            have HCR := Lib.hid c0
            clear R1 d1 c0
            go_wp2_with fail
            go_loopg [7] m (fun gh i wr => ∃ (i' : Nat) (G : Nat → Int), i' ≤ m ∧ gh = m - i' ∧ i = .int .i64 i' ∧ OI wr w0.heap.size w1.heap.size (.slice (some ⟨g, 0, none⟩) m cc) m G ∧ Lab (fun _ => m) n m X r i' 0 G ∧ Ext w0 wr)
            case atStart => exact ⟨0, G, Nat.zero_le _, rfl, rfl, hI, hLab, hx⟩
            case round =>
              clear hI hLab hx
              obtain ⟨i, G, hi, rfl, rfl, hI, hLab, hx⟩ := hrel
              rcases Nat.lt_or_ge i m with ilt | ige
              · have i1 : (i : Int) < m := by omega
                go_wp2_with fail
                go_loopg [8] m (fun gh s wr => ∃ (j : Nat) (G : Nat → Int), j ≤ m ∧ gh = m - j ∧ s = .int .i64 j ∧ OI wr w0.heap.size w1.heap.size (.slice (some ⟨g, 0, none⟩) m cc) m G ∧ Lab (fun _ => m) n m X r i j G ∧ Ext w0 wr)
                case atStart => exact ⟨0, G, Nat.zero_le _, rfl, rfl, hI, hLab, hx⟩
                case round =>
                  clear hI hLab hx
                  obtain ⟨j, G, hj, rfl, rfl, hI, hLab, hx⟩ := hrel
                  rcases Nat.lt_or_ge j m with jlt | jge
                  · have j2 : (j : Int) < m := by omega
                    have e0 := ext_cell hx HCR.out
                    have e1 := ext_cell hx (HD.out i ilt)
                    have e2 := ext_cell hx (HD.out j (by omega))
                    by_cases z1 : X r i = 0
                    · have b1 : (X r i == 0) = true := by simp [z1]
                      have HN := Lib.hid (hLab.skip (row_nz z1 j))
                      clear z1
                      go_wp2_with fail
                      go_roundg (m - (j + 1))
                      case measure => omega
                      case rel => exact ⟨j + 1, G, by omega, rfl, by go_num, hI, HN.out, hx⟩
                    · have b1 : (X r i == 0) = false := by simp [z1]
                      by_cases z2 : X r j = 0
                      · have b2 : (X r j == 0) = true := by simp [z2]
                        have HN := Lib.hid (hLab.skip (row_nz2 z2 i))
                        clear z1 z2
                        go_wp2_with fail
                        go_roundg (m - (j + 1))
                        case measure => omega
                        case rel => exact ⟨j + 1, G, by omega, rfl, by go_num, hI, HN.out, hx⟩
                      · have b2 : (X r j == 0) = false := by simp [z2]
                        have HN := Lib.hid (hLab.join2 rlt ilt jlt ⟨z1, z2⟩)
                        clear z1 z2
                        have f1 := hI.cell ilt
                        have f2 := hI.cell jlt
                        go_wp2_with fail
                        clear f1 f2 e1 e2 e0
                        go_loopg [11] m (fun gh s wv => ∃ q : Nat, q ≤ m ∧ gh = m - q ∧ s = .int .i64 q ∧ OI wv w0.heap.size w1.heap.size (.slice (some ⟨g, 0, none⟩) m cc) m (part G (G j) (G i) q) ∧ Ext w0 wv)
                        case atStart => exact ⟨0, Nat.zero_le _, rfl, rfl, hI.congr (fun p _ => (part_zero _ _ _ p).symm), hx⟩
                        case round =>
                          clear hI hx hLab
                          obtain ⟨q, hq, rfl, rfl, hI, hx⟩ := hrel
                          rcases Nat.lt_or_ge q m with qlt | qge
                          · have q1 : (q : Int) < m := by omega
                            have f1 := hI.cell qlt
                            rw [part_at] at f1
                            have f2 := hI.frozen q
                            by_cases z1 : G q = G j
                            · have z2 : (G q == G j) = true := by simp [z1]
                              have HS := Lib.hid ((hI.store q (G i)).congr (fun p _ => part_put (f := G j) z1 p))
                              clear z1 hI
                              go_wp2_with fail
                              go_roundg (m - (q + 1))
                              case measure => omega
                              case rel => exact ⟨q + 1, by omega, rfl, by go_num, HS.out, ext_setCell hx HG.out _⟩
                            · have z2 : (G q == G j) = false := by simp [z1]
                              have HS := Lib.hid (hI.congr (fun p _ => part_skip (t := G i) z1 p))
                              clear z1 hI
                              go_wp2_with fail
                              go_roundg (m - (q + 1))
                              case measure => omega
                              case rel => exact ⟨q + 1, by omega, rfl, by go_num, HS.out, hx⟩
                          · obtain rfl : m = q := by omega
                            go_wp2_with fail
                            go_roundg (m - (j + 1))
                            case measure => omega
                            case rel => exact ⟨j + 1, _, by omega, rfl, by go_num, hI.congr (part_full _ _ _ _), HN.out, hx⟩
                  · obtain rfl : m = j := by omega
                    go_wp2_with fail
                    go_roundg (m - (i + 1))
                    case measure => omega
                    case rel => exact ⟨i + 1, G, by omega, rfl, by go_num, hI, hLab.next, hx⟩
              · obtain rfl : m = i := by omega
                go_wp2_with fail
                go_roundg (n - (r + 1))
                case measure => omega
                case rel => exact ⟨r + 1, G, by omega, rfl, by go_num, hI, hLab.row, hx⟩
          · obtain rfl : n = r := by omega
            have HJ := Lib.hid (hLab.done_.joins_all hLab.sound)
            clear hLab
            go_wp2_with fail
            go_loopg [12, 13] m (fun gh o s wr => ∃ k : Nat, k ≤ m ∧ gh = m - k ∧ o = .int .i64 (cnt G k : Nat) ∧ s = .int .i64 k ∧ OI wr w0.heap.size w1.heap.size (.slice (some ⟨g, 0, none⟩) m cc) m G ∧ Ext w0 wr)
            case atStart => exact ⟨0, Nat.zero_le _, rfl, rfl, rfl, hI, hx⟩
            case round =>
              clear hI hx
              obtain ⟨k, hk, rfl, rfl, rfl, hI, hx⟩ := hrel
              rcases Nat.lt_or_ge k m with klt | kge
              · have k1 : (k : Int) < m := by omega
                have hcl := cnt_le G k
                go_wp2_with fail
                go_loopg [14, 15] k (fun gh b s wr => ∃ p : Nat, p ≤ k ∧ gh = k - p ∧ b = .bool (allR (fun p => G p != G k) p) ∧ s = .int .i64 p ∧ OI wr w0.heap.size w1.heap.size (.slice (some ⟨g, 0, none⟩) m cc) m G ∧ Ext w0 wr)
                case atStart => exact ⟨0, Nat.zero_le _, rfl, rfl, rfl, hI, hx⟩
                case round =>
                  clear hI hx
                  obtain ⟨p, hp, rfl, rfl, rfl, hI, hx⟩ := hrel
                  rcases Nat.lt_or_ge p k with plt | pge
                  · have p1 : (p : Int) < k := by omega
                    have p2 : (p : Int) < m := by omega
                    have f1 := hI.cell (show p < m by omega)
                    have f2 := hI.cell klt
                    have HA := Lib.hid (show allR (fun p => G p != G k) (p + 1) = (allR (fun p => G p != G k) p && (G p != G k)) from rfl)
                    cases hb : allR (fun p => G p != G k) p
                    · have HB := Lib.hid hb
                      clear hb
                      go_wp2
                      go_quiet (fail)
                      go_wp2
                      go_roundg (k - (p + 1))
                      case measure => omega
                      case rel => exact ⟨p + 1, by omega, rfl, by rw [HA.out, HB.out]; rfl, by go_num, hI.ext (ext_drewN (ext_refl _) _), ext_drewN hx _⟩
                    · have HB := Lib.hid hb
                      clear hb
                      cases hq : (G p == G k)
                      · have HQ := Lib.hid hq
                        go_wp2
                        go_quiet (fail)
                        go_wp2
                        go_roundg (k - (p + 1))
                        case measure => omega
                        case rel => exact ⟨p + 1, by omega, rfl, by rw [HA.out, HB.out, bne, HQ.out]; rfl, by go_num, hI.ext (ext_drewN (ext_refl _) _), ext_drewN hx _⟩
                      · have HQ := Lib.hid hq
                        go_wp2
                        go_quiet (fail)
                        go_wp2
                        go_roundg (k - (p + 1))
                        case measure => omega
                        case rel => exact ⟨p + 1, by omega, rfl, by rw [HA.out, HB.out, bne, HQ.out]; rfl, by go_num, hI.ext (ext_drewN (ext_refl _) _), ext_drewN hx _⟩
                  · obtain rfl : k = p := by omega
                    cases hb : allR (fun p => G p != G k) k
                    · have HB := Lib.hid (cnt_again (g := G) (k := k) hb)
                      clear hb
                      go_wp2_with fail
                      go_roundg (m - (k + 1))
                      case measure => omega
                      case rel => exact ⟨k + 1, by omega, rfl, by rw [HB.out], by go_num, hI, hx⟩
                    · have HB := Lib.hid (cnt_first (g := G) (k := k) hb)
                      clear hb
                      go_wp2_with fail
                      go_roundg (m - (k + 1))
                      case measure => omega
                      case rel => exact ⟨k + 1, by omega, rfl, by rw [HB.out]; go_num, by go_num, hI, hx⟩
              · obtain rfl : m = k := by omega
                go_wp2_with fail
                go_ret
                exact ⟨_, ⟨fun _ => ⟨G, by rw [← HM.out]; exact HJ.out, by rw [← HM.out]⟩, fun q => absurd (HR.out.symm.trans q) (by simp)⟩, rfl, ext_trans hx0 hx⟩
end Go.Proofs.Ytefgdkjcoeikmaa
