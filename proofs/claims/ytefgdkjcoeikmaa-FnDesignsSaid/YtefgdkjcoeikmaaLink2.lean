/- The contract of the program's count of linked objects. No condition but those of each contract. -/
import Derived.Test.YtefgdkjcoeikmaaLink
import Derived.Test.YtefgdkjcoeikmaaMat2
import Derived.Maps.OwnSet
import Derived.BigQuiet
namespace Go.Proofs.Ytefgdkjcoeikmaa
open Go.ChangeShapes Go.WideShapes Go.ChangeAt Go.RowKit Go.Maps
set_option linter.unusedVariables false
set_option linter.unusedSimpArgs false

theorem int_law : Keyed Try.prog 3 := int_keyed Try.underlying3
/-- D is the set of the first k labels -/
def SetIs (D : DataW Unit) (g : Nat → Int) (k : Nat) : Prop := Maps.Tidy D ∧ Maps.size D = cnt g k ∧ ∀ z, Maps.has D (.int .i64 z) = true ↔ ∃ i, i < k ∧ g i = z
theorem SetIs.start (g : Nat → Int) : SetIs (.map []) g 0 := ⟨Maps.tidy_empty, rfl, fun z => by simp [Maps.has]⟩
theorem SetIs.step {D : DataW Unit} {g : Nat → Int} {k : Nat} (h : SetIs D g k) (d : DataW Unit) : SetIs (D.put (.int .i64 (g k)) d) g (k + 1) := by
  have hk : WideAt.IsKeyLit (.int .i64 (g k)) := by simp [WideAt.IsKeyLit]
  refine ⟨h.1.put hk d, ?_, fun z => ?_⟩
  · rw [Maps.size_put h.1 d, h.2.1]
    cases e : firstB g k
    · rw [cnt_again e]
      have : Maps.has D (.int .i64 (g k)) = true := by
        rw [h.2.2]
        have q : ¬ firstB g k = true := by rw [e]; simp
        rw [firstB_iff] at q
        simp only [Classical.not_forall] at q
        obtain ⟨i, hi, hn⟩ := q
        exact ⟨i, hi, Classical.not_not.1 hn⟩
      rw [if_pos this]
    · rw [cnt_first e]
      have : ¬ Maps.has D (.int .i64 (g k)) = true := by
        rw [h.2.2]
        rintro ⟨i, hi, hn⟩
        exact firstB_iff.1 e i hi hn
      rw [if_neg this]
  · by_cases e : z = g k
    · subst e
      rw [Maps.has_put_same h.1.isMap hk]
      simp only [true_iff]
      exact ⟨k, by omega, rfl⟩
    · rw [Maps.has_put_other (by simpa using e), h.2.2]
      constructor
      · rintro ⟨i, hi, hn⟩; exact ⟨i, by omega, hn⟩
      · rintro ⟨i, hi, hn⟩
        by_cases q : i = k
        · subst q; exact absurd hn.symm e
        · exact ⟨i, by omega, hn⟩
/-- labels stay small -/
def LabIn (m : Nat) (g : Nat → Int) : Prop := ∀ i, i < m → 0 ≤ g i ∧ g i < 8
theorem LabIn.start {m : Nat} (h : m ≤ 8) : LabIn m (fun i => (i : Int)) := fun i hi => by show 0 ≤ (i : Int) ∧ (i : Int) < 8; omega
theorem LabIn.relab {m : Nat} {g : Nat → Int} (h : LabIn m g) (a : Nat) {b : Nat} (hb : b < m) : LabIn m (relab g (g a) (g b)) := fun i hi => by
  unfold Go.Proofs.Ytefgdkjcoeikmaa.relab; split
  · exact h b hb
  · exact h i hi
theorem row_nz {X : Nat → Nat → Int} {r i : Nat} (h : X r i = 0) (j : Nat) : ¬ nz X r i j := fun q => q.1 h
theorem row_nz2 {X : Nat → Nat → Int} {r j : Nat} (h : X r j = 0) (i : Nat) : ¬ nz X r i j := fun q => q.2 h

/-- the invariant of a loop: labels in memory, sound, joined so far -/
structure Lab (u : Nat → Nat) (n m : Nat) (X : Nat → Nat → Int) (r i k : Nat) (G : Nat → Int) : Prop where
  small : LabIn m G
  sound : Sound n m X G
  done_ : JD u m X G r i k

theorem Lab.start {u : Nat → Nat} {n m : Nat} {X : Nat → Nat → Int} (h : m ≤ 8) : Lab u n m X 0 0 0 (fun i => (i : Int)) := ⟨LabIn.start h, Sound.start n m X, JD.start u m X _⟩
theorem Lab.skip {u : Nat → Nat} {n m : Nat} {X : Nat → Nat → Int} {r i k : Nat} {G : Nat → Int} (h : Lab u n m X r i k G) (e : ¬ nz X r i k) : Lab u n m X r i (k + 1) G :=
  ⟨h.small, h.sound, h.done_.step fun q => absurd q e⟩
theorem Lab.join {u : Nat → Nat} {n m : Nat} {X : Nat → Nat → Int} {r i k : Nat} {G : Nat → Int} (h : Lab u n m X r i k G) (hr : r < n) (hi : i < m) (hk : k < m) (e : nz X r i k) : Lab u n m X r i (k + 1) (relab G (G i) (G k)) :=
  ⟨h.small.relab i hk, h.sound.relab hi hk ⟨r, hr, e⟩, (h.done_.relab _ _).step fun _ => relab_hit G i k⟩
theorem Lab.join2 {u : Nat → Nat} {n m : Nat} {X : Nat → Nat → Int} {r i k : Nat} {G : Nat → Int} (h : Lab u n m X r i k G) (hr : r < n) (hi : i < m) (hk : k < m) (e : nz X r i k) : Lab u n m X r i (k + 1) (relab G (G k) (G i)) :=
  ⟨h.small.relab k hi, h.sound.relab hk hi ⟨r, hr, e.2, e.1⟩, (h.done_.relab _ _).step fun _ => (relab_hit G k i).symm⟩
theorem Lab.next {u : Nat → Nat} {n m : Nat} {X : Nat → Nat → Int} {r i : Nat} {G : Nat → Int} (h : Lab u n m X r i (u i) G) : Lab u n m X r (i + 1) 0 G := ⟨h.small, h.sound, h.done_.next⟩
theorem Lab.row {u : Nat → Nat} {n m : Nat} {X : Nat → Nat → Int} {r : Nat} {G : Nat → Int} (h : Lab u n m X r m 0 G) : Lab u n m X (r + 1) 0 0 G := ⟨h.small, h.sound, h.done_.row⟩

set_option maxHeartbeats 6400000 in
set_option maxRecDepth 100000 in
theorem impl_CountLinked (a : Option Addr) (n c : Nat) (A : Nat → Option Addr) (L C : Nat → Nat) (X : Nat → Nat → Int) (w : World) (h : RowsAt w a n A L C X) (hn : n ≤ 1048576) (hT : off L n ≤ 1048576) :
    Calls Try.prog 22 #[.slice a n c] w fun e w' => ∃ z, LinkedIs n L X z ∧ e = .returned (.int .i64 z) ∧ Ext w w' := by
  have H := Lib.hid h
  cases h0 : designOkB n L X
  · have HR := Lib.hid h0
    go_enter Try.func22, Try.ntmps22
    go_wp2_with (go_at_call 41; refine (impl_DesignOk _ _ _ _ _ _ _ _ h hn hT).mono ?_; rintro e w' ⟨rfl, rfl⟩)
    go_ret
    exact ⟨0, ⟨(fun q => absurd (HR.out.symm.trans q) (by simp)), fun _ => rfl⟩, rfl, ext_refl _⟩
  · have HR := Lib.hid h0
    obtain ⟨⟨n1, n2⟩, ⟨m1, m2⟩, hD⟩ := design_iff.1 h0
    have HL := Lib.hid (show ∀ i, i < n → L i = L 0 from fun i hi => (hD i hi).1)
    have hn0 : 0 < n := by omega
    have hn0' : (0 : Int) < (n : Int) := by omega
    obtain ⟨ba, of, rfl, hc0⟩ := H.out.top hn0
    have HC := Lib.hid hc0
    have hc00 := hc0 0 hn0
    simp only [Nat.add_zero] at hc00
    clear hD hc0
    obtain ⟨m, hm⟩ : ∃ m, m = L 0 := ⟨_, rfl⟩
    have HM := Lib.hid hm
    rw [← hm] at m1 m2 hc00
    have HLm := Lib.hid (show ∀ i, i < n → L i = m from fun i hi => (HL.out i hi).trans hm.symm)
    clear hm
    have hmm := @run_makeMap Try.prog
    go_enter Try.func22, Try.ntmps22
    go_wp2_with (go_at_call 41; refine (impl_DesignOk _ _ _ _ _ _ _ _ h hn hT).mono ?_; rintro e w' ⟨rfl, rfl⟩)
    clear h h0 hc00
    go_loopg [4, 24] m (fun g s i wr => ∃ (k : Nat) (q : Option Addr) (cc : Nat), k ≤ m ∧ g = m - k ∧ i = .int .i64 k ∧ s = .slice q k cc ∧ OI wr w.heap.size wr.heap.size (.slice q k cc) k (fun i => (i : Int)) ∧ Ext w wr)
    case atStart => exact ⟨0, none, 0, Nat.zero_le _, rfl, rfl, rfl, OI.nil _ _ _ _, ext_refl _⟩
    case round =>
      obtain ⟨k, q, cc, hk, rfl, rfl, rfl, hI, hx⟩ := hrel
      have hsz := ext_size hx
      rcases Nat.lt_or_ge k m with hlt | hge
      · have hlt' : (k : Int) < (m : Int) := by omega
        go_wp2_with (at_builtin; refine wpList_push_int rfl _ _ 23 rfl Try.underlying23 info_int _ w.heap.size k (fun i => (i : Int)) (k : Int) _ _ _ rfl (hI.ext (ext_alloc (ext_refl _) _)) ⟨wr.heap.size, 0, none⟩ 1 rfl (cell_new1 _ _ _) rfl (by omega) (by simp; omega) ?_; intro g' c' w4 hO4 hb4)
        go_roundg (m - (k + 1))
        case measure => omega
        case rel => exact ⟨k + 1, some ⟨g', 0, none⟩, c', by omega, rfl, by go_num, rfl, hO4, Below.trans (ext_alloc hx _) hb4⟩
      · obtain rfl : m = k := by omega
        obtain ⟨w1, rfl⟩ : ∃ w1 : World, w1 = wr := ⟨_, rfl⟩
        obtain ⟨g, rfl, g1, g2, g3⟩ := hI.head (by omega)
        have HG := Lib.hid g1
        go_wp2_with fail
        go_loopg [34] n (fun gh i wr => ∃ (r : Nat) (G : Nat → Int), r ≤ n ∧ gh = n - r ∧ i = .int .i64 r ∧ OI wr w.heap.size w1.heap.size (.slice (some ⟨g, 0, none⟩) m cc) m G ∧ Lab (fun i => i) n m X r 0 0 G ∧ Ext w wr ∧ wr.heap.size = w1.heap.size)
        case atStart => exact ⟨0, _, Nat.zero_le _, rfl, rfl, hI, Lab.start (by omega), hx, rfl⟩
        case round =>
          clear hI
          obtain ⟨r, G, hr, rfl, rfl, hI, hLab, hx, hz⟩ := hrel
          rcases Nat.lt_or_ge r n with rlt | rge
          · have r1 : (r : Int) < n := by omega
            have c1 := ext_cell hx (HC.out r rlt)
            rw [HLm.out r rlt] at c1
            have R1 := H.out.row r rlt
            rw [HLm.out r rlt] at R1
            generalize A r = ar at c1 R1
            obtain ⟨b1, o1, rfl, d1⟩ := R1 (by omega)
            have HD := Lib.hid d1
            clear R1 d1
            go_wp2_with fail
            clear c1
            go_loopg [39] m (fun gh i wr => ∃ (i' : Nat) (G : Nat → Int), i' ≤ m ∧ gh = m - i' ∧ i = .int .i64 i' ∧ OI wr w.heap.size w1.heap.size (.slice (some ⟨g, 0, none⟩) m cc) m G ∧ Lab (fun i => i) n m X r i' 0 G ∧ Ext w wr ∧ wr.heap.size = w1.heap.size)
            case atStart => exact ⟨0, G, Nat.zero_le _, rfl, rfl, hI, hLab, hx, hz⟩
            case round =>
              clear hI hLab hx hz
              obtain ⟨i, G, hi, rfl, rfl, hI, hLab, hx, hz⟩ := hrel
              rcases Nat.lt_or_ge i m with ilt | ige
              · have i1 : (i : Int) < m := by omega
                go_wp2_with fail
                go_loopg [43] i (fun gh s wr => ∃ (j : Nat) (G : Nat → Int), j ≤ i ∧ gh = i - j ∧ s = .int .i64 j ∧ OI wr w.heap.size w1.heap.size (.slice (some ⟨g, 0, none⟩) m cc) m G ∧ Lab (fun i => i) n m X r i j G ∧ Ext w wr ∧ wr.heap.size = w1.heap.size)
                case atStart => exact ⟨0, G, Nat.zero_le _, rfl, rfl, hI, hLab, hx, hz⟩
                case round =>
                  clear hI hLab hx hz
                  obtain ⟨j, G, hj, rfl, rfl, hI, hLab, hx, hz⟩ := hrel
                  rcases Nat.lt_or_ge j i with jlt | jge
                  · have j1 : (j : Int) < i := by omega
                    have j2 : (j : Int) < m := by omega
                    have e1 := ext_cell hx (HD.out i ilt)
                    have e2 := ext_cell hx (HD.out j (by omega))
                    by_cases z1 : X r i = 0
                    · have b1 : (X r i == 0) = true := by simp [z1]
                      have HN := Lib.hid (hLab.skip (row_nz z1 j))
                      clear z1
                      go_wp2_with fail
                      go_roundg (i - (j + 1))
                      case measure => omega
                      case rel => exact ⟨j + 1, G, by omega, rfl, by go_num, hI, HN.out, hx, hz⟩
                    · have b1 : (X r i == 0) = false := by simp [z1]
                      by_cases z2 : X r j = 0
                      · have b2 : (X r j == 0) = true := by simp [z2]
                        have HN := Lib.hid (hLab.skip (row_nz2 z2 i))
                        clear z1 z2
                        go_wp2_with fail
                        go_roundg (i - (j + 1))
                        case measure => omega
                        case rel => exact ⟨j + 1, G, by omega, rfl, by go_num, hI, HN.out, hx, hz⟩
                      · have b2 : (X r j == 0) = false := by simp [z2]
                        have HN := Lib.hid (hLab.join rlt ilt (show j < m by omega) ⟨z1, z2⟩)
                        clear z1 z2
                        have f1 := hI.cell ilt
                        have f2 := hI.cell (show j < m by omega)
                        go_wp2_with fail
                        go_quiet (fail)
                        clear f1 f2 e1 e2
                        go_wp2_with fail
                        go_loopg [67] m (fun gh s wv => ∃ q : Nat, q ≤ m ∧ gh = m - q ∧ s = .int .i64 q ∧ OI wv w.heap.size w1.heap.size (.slice (some ⟨g, 0, none⟩) m cc) m (part G (G i) (G j) q) ∧ Ext w wv ∧ wv.heap.size = w1.heap.size)
                        case atStart => exact ⟨0, Nat.zero_le _, rfl, rfl, (hI.ext (ext_drewN (ext_refl _) _)).congr (fun p _ => (part_zero _ _ _ p).symm), ext_drewN hx _, hz⟩
                        case round =>
                          clear hI hx hz hLab
                          obtain ⟨q, hq, rfl, rfl, hI, hx, hz⟩ := hrel
                          rcases Nat.lt_or_ge q m with qlt | qge
                          · have q1 : (q : Int) < m := by omega
                            have f1 := hI.cell qlt
                            rw [part_at] at f1
                            have f2 := hI.frozen q
                            by_cases z1 : G q = G i
                            · have z2 : (G q == G i) = true := by simp [z1]
                              have HS := Lib.hid ((hI.store q (G j)).congr (fun p _ => part_put (f := G i) z1 p))
                              clear z1 hI
                              go_wp2_with fail
                              go_roundg (m - (q + 1))
                              case measure => omega
                              case rel => exact ⟨q + 1, by omega, rfl, by go_num, HS.out, ext_setCell hx HG.out _, by simp [hz]⟩
                            · have z2 : (G q == G i) = false := by simp [z1]
                              have HS := Lib.hid (hI.congr (fun p _ => part_skip (t := G j) z1 p))
                              clear z1 hI
                              go_wp2_with fail
                              go_roundg (m - (q + 1))
                              case measure => omega
                              case rel => exact ⟨q + 1, by omega, rfl, by go_num, HS.out, hx, hz⟩
                          · obtain rfl : m = q := by omega
                            go_wp2_with fail
                            go_roundg (i - (j + 1))
                            case measure => omega
                            case rel => exact ⟨j + 1, _, by omega, rfl, by go_num, hI.congr (part_full _ _ _ _), HN.out, hx, hz⟩
                  · obtain rfl : i = j := by omega
                    go_wp2_with fail
                    go_roundg (m - (i + 1))
                    case measure => omega
                    case rel => exact ⟨i + 1, G, by omega, rfl, by go_num, hI, hLab.next, hx, hz⟩
              · obtain rfl : m = i := by omega
                go_wp2_with fail
                go_roundg (n - (r + 1))
                case measure => omega
                case rel => exact ⟨r + 1, G, by omega, rfl, by go_num, hI, hLab.row, hx, hz⟩
          · obtain rfl : n = r := by omega
            have HJ := Lib.hid (hLab.done_.joins_low hLab.sound)
            have HS := Lib.hid hLab.small
            obtain ⟨wB, rfl⟩ : ∃ wB : World, wB = wr := ⟨_, rfl⟩
            have HI := Lib.hid hI
            have HZ := Lib.hid hz
            clear hI hLab hz
            go_wp2_with fail
            go_loopg [87] m (fun gh s wv => ∃ (k : Nat) (D : DataW Unit), k ≤ m ∧ gh = m - k ∧ s = .int .i64 k ∧ wv.ownsMap Try.prog 3 (plainElem (H := Unit) Try.prog 3) wB.heap.size k D ∧ SetIs D G k ∧ Below wB.heap.size wB wv)
            case atStart => exact ⟨0, .map [], Nat.zero_le _, rfl, rfl, World.ownsMap_made _ _ _ _, SetIs.start _, (Below.refl _ _).alloc (Nat.le_refl _) _⟩
            case round =>
              obtain ⟨k, D, hk, rfl, rfl, hown, hset, hB⟩ := hrel
              rcases Nat.lt_or_ge k m with klt | kge
              · have k1 : (k : Int) < m := by omega
                have f1 := (HI.out.below hB (by have := HZ.out; omega)).cell klt
                obtain ⟨s1, s2⟩ := HS.out k klt
                have HT := Lib.hid (hset.step (.lit (.int .i64 1)))
                clear hset
                have hszB := hB.size
                go_wp2_with (at_mapUpdate; refine wpList_mapUpdate_own _ rfl _ _ _ 66 rfl 3 3 int_law Try.underlying66 (plainElem (H := Unit) Try.prog 3) wB.heap.size k D rfl hown (by unfold maxLen; omega) _ _ _ rfl rfl (keyOf_int_mk Try.underlying3 (WalkArith.wf_i64 (by omega))) _ [] (plainElem_int Try.underlying3 (WalkArith.wf_i64 (by omega))) ?_; intro w2 hown2 hgrow2)
                go_roundg (m - (k + 1))
                case measure => omega
                case rel => exact ⟨k + 1, _, by omega, rfl, by go_num, hown2, HT.out, hB.grown hgrow2 hszB (fun j hj => by cases hj; exact Nat.le_refl _)⟩
              · obtain rfl : m = k := by omega
                go_wp2_with (at_len; refine wpList_len_own _ rfl _ 66 rfl 3 3 Try.underlying66 _ wB.heap.size m D rfl hown ?_)
                go_ret
                exact ⟨_, ⟨fun _ => ⟨G, by rw [← HM.out]; exact HJ.out, by rw [← HM.out, hset.2.1]⟩, fun q => absurd (HR.out.symm.trans q) (by simp)⟩, rfl, ext_trans hx hB⟩
end Go.Proofs.Ytefgdkjcoeikmaa
