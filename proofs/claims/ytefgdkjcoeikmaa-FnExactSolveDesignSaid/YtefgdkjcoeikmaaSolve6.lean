/- The contract of the reference's SolveDesign. No condition but those of each contract. -/
import Derived.Test.YtefgdkjcoeikmaaSolve5
import Derived.Test.YtefgdkjcoeikmaaGrowF
namespace Go.Proofs.Ytefgdkjcoeikmaa
open Go.ChangeShapes Go.WideShapes Go.ChangeAt Go.RowKit
set_option linter.unusedVariables false
set_option linter.unusedSimpArgs false

set_option maxHeartbeats 6400000 in
theorem spec_SolveDesign (a b : Option Addr) (n c m d : Nat) (A : Nat → Option Addr) (L C : Nat → Nat) (X : Nat → Nat → Int) (V : Nat → Int) (w : World) (h : RowsAt w a n A L C X) (hv : IntsAt w b m V) (hn : n ≤ 1048576) (hT : off L n ≤ 1048576) (hm : m ≤ 1099511627776) :
    Calls Try.prog 10 #[.slice a n c, .slice b m d] w (Sol w n L X m V) := by
  have hE0 := OF.empty w (solT n L X V) (solU n L X V)
  have hx0 : Ext w (w.alloc (.cells #[] 41)) := ext_alloc (ext_refl _) _
  cases h0 : readingsOkB n L X m V
  · have HR := Lib.hid (show solOk n L X m V = false by simp [solOk, h0])
    go_enter Try.func10, Try.ntmps10
    go_wp2_with fail
    refine (spec_ReadingsOk _ _ _ _ _ _ _ _ _ _ _ _ (h.ext hx0) (hv.ext hx0) hn hT hm).mono ?_
    rw [h0]
    rintro e w1 ⟨rfl, hx⟩
    have HE := Lib.hid (hE0.ext hx)
    go_wp2_with fail
    go_ret2
    exact ⟨0, false, _, 0, Lib.hid ⟨HR.out.symm, rfl⟩, rfl, HE.out.now, ext_trans hx0 hx⟩
  · obtain ⟨hdet, hmn, hV⟩ := reads_parts h0
    obtain ⟨hdes, _⟩ := det_parts hdet
    obtain ⟨⟨n1, n2⟩, ⟨m1, m2⟩, _⟩ := design_iff.1 hdes
    have HR := Lib.hid (show solOk n L X m V = allR (solB n L X V) (L 0) by simp [solOk, h0])
    have HT := Lib.hid (fun k => (⟨rfl, rfl, rfl⟩ : mkOk (topF (L 0) n X V k) (gdet n L X) = solB n L X V k ∧ mkT (topF (L 0) n X V k) (gdet n L X) = solT n L X V k ∧ mkB (topF (L 0) n X V k) (gdet n L X) = solU n L X V k))
    have HGD := Lib.hid (show detF (L 0) (gramF n X) = gdet n L X from rfl)
    have HSQ := Lib.hid (gram_sq hdes)
    subst hmn
    go_enter Try.func10, Try.ntmps10
    go_wp2_with fail
    refine (spec_ReadingsOk _ _ _ _ _ _ _ _ _ _ _ _ (h.ext hx0) (hv.ext hx0) hn hT hm).mono ?_
    rw [h0]
    rintro e w1 ⟨rfl, hx⟩
    have hE1 := (hE0.ext hx).now
    have hx1 : Ext w w1 := ext_trans hx0 hx
    clear hE0 hx0
    go_wp2_with fail
    refine ((spec_GramOf _ _ _ _ _ _ _ _ (h.ext hx1) hn hT).mono fun _ _ q => q.yes hdes).mono ?_
    rintro e w2 ⟨p2, q2, A2, C2, rfl, hO2, hx2⟩
    go_wp2_with fail
    refine (spec_l22Det (L 0) _ _ _ _ _ _ _ hO2.rows HSQ.out).mono ?_
    rw [HGD.out]
    rintro e w3 ⟨rfl, hx3⟩
    have E3 := ext_trans hx1 (ext_trans hx2 hx3)
    have hE3 := (hE1.ext (ext_trans hx2 hx3)).now
    clear hO2 hE1
    go_wp2_with fail
    refine (spec_l24Tops _ _ _ _ _ _ _ _ _ _ _ (h.ext E3) (hv.ext E3) hn hT hdes hV).mono ?_
    rintro e w4 ⟨q, cl, rfl, hI, hx4⟩
    obtain ⟨gl, rfl, gl1, gl2, gl3⟩ := hI.head (by omega)
    have HI := Lib.hid hI
    have E4 := ext_trans E3 hx4
    have hw3 : w.heap.size < w3.heap.size := by have := ext_size hx; have := ext_size (ext_trans hx2 hx3); simp at *; omega
    have hsz0 := ext_size E4
    have hE4 := (hE3.ext hx4).now
    clear hI h hv h0 hdet hdes hE3 hx
    generalize hK : L 0 = K at *
    go_wp2_with fail
    go_loopg [6, 9] K (fun g o i wr => ∃ (k : Nat) (q : Option Addr) (cc : Nat), k ≤ K ∧ g = K - k ∧ o = .slice q k cc ∧ i = .int .i64 k ∧ OF wr w.heap.size wr.heap.size (.slice q k cc) k (solT m L X V) (solU m L X V) ∧ (∀ p, q = some p → p.block = w.heap.size ∨ w4.heap.size ≤ p.block) ∧ OI wr w3.heap.size w4.heap.size (.slice (some ⟨gl, 0, none⟩) K cl) K (topF K m X V) ∧ Hid (allR (solB m L X V) k = true) ∧ Ext w wr ∧ w4.heap.size ≤ wr.heap.size)
    case atStart => exact ⟨0, _, 0, Nat.zero_le _, rfl, rfl, rfl, hE4, fun p hp => .inl (by cases hp; rfl), HI.out, Lib.hid rfl, E4, Nat.le_refl _⟩
    case round =>
      clear hE4
      obtain ⟨k, q, cc, hk, rfl, rfl, rfl, hO, hq, hI, hal, hx, hsz⟩ := hrel
      rcases Nat.lt_or_ge k K with klt | kge
      · have k1 : (k : Int) < K := by omega
        have c1 := hI.cell klt
        obtain ⟨t1, t2, t3⟩ := HT.out k
        have HT1 := Lib.hid t1
        have HT2 := Lib.hid t2
        have HT3 := Lib.hid t3
        clear t1 t2 t3
        go_wp2_with fail
        refine (spec_MakeFraction _ _ _).mono ?_
        rw [HT1.out, HT2.out, HT3.out]
        generalize hy : solT m L X V k = y
        generalize hz : solU m L X V k = z
        have HY := Lib.hid hy
        have HZ := Lib.hid hz
        clear hy hz
        cases hb : solB m L X V k
        · have HB := Lib.hid (allR_no klt hb)
          clear hb
          rintro e w5 ⟨rfl, hx5⟩
          have E5 := ext_trans hx hx5
          have hsz5 := ext_size E5
          go_wp2_with fail
          go_ret2
          exact ⟨0, false, _, 0, Lib.hid ⟨by rw [HR.out, HB.out], rfl⟩, rfl, (by have q := OF.empty (w5.alloc (.cells #[.int .i64 y, .int .i64 z] 41)) (solT m L X V) (solU m L X V); rw [show (w5.alloc (.cells #[.int .i64 y, .int .i64 z] 41)).heap.size = w5.heap.size + 1 by simp] at q; exact (q.mono (by omega) (Nat.le_refl _)).now), ext_alloc (ext_alloc E5 _) _⟩
        · have HB := Lib.hid (allR_yes hal.out hb)
          clear hb
          rintro e w5 ⟨rfl, hx5⟩
          have hsz5 := ext_size hx5
          have E5 := ext_trans hx hx5
          have hz0 := ext_size E5
          have hO5 := hO.ext hx5
          have hI5 := (hI.ext hx5).ext (ext_alloc (ext_alloc (ext_refl _) (.cells #[.int .i64 y, .int .i64 z] 41)) (.cells #[.int .i64 y, .int .i64 z] 41))
          clear c1 hO hI
          have n1' := cell_new2 (w5.alloc (.cells #[.int .i64 y, .int .i64 z] 41)) (.int .i64 y) (.int .i64 z) 41
          have n2' := cell_new2' (w5.alloc (.cells #[.int .i64 y, .int .i64 z] 41)) (.int .i64 y) (.int .i64 z) 41
          simp only [World.size_alloc] at n1' n2'
          have N1 := Lib.hid n1'
          have N2 := Lib.hid n2'
          have HQ := Lib.hid hq
          clear n1' n2' hq
          go_wp2_with (at_builtin; refine wpList_push_frac2 rfl _ _ 25 rfl Try.underlying25 info_frac _ w.heap.size k (solT m L X V) (solU m L X V) y z _ _ _ rfl (hO5.ext (ext_alloc (ext_alloc (ext_refl _) _) _)) ⟨w5.heap.size + 1, 0, none⟩ 1 rfl N1.out N2.out HY.out HZ.out (by omega) (by simp; omega) ?_; intro g' c' w6 hO6 hg6)
          have hB6 := hg6.below (lo := w.heap.size) (by simp; omega) (fun k hk => (hO5.1.lt k hk).1)
          have hz6 := hB6.size
          simp at hz6
          have hI6 : OI w6 w3.heap.size w4.heap.size (.slice (some ⟨gl, 0, none⟩) K cl) K (topF K m X V) := hI5.grown hg6.1 (by
            intro b hb e
            simp only [Value.ownBlock, Option.some.injEq] at hb
            subst hb
            cases q with
            | none => simp [Value.ownBlock] at e
            | some p =>
              simp only [Value.ownBlock, Option.some.injEq] at e
              have := HQ.out p rfl
              omega)
          have hq6 : ∀ p, some (⟨g', 0, none⟩ : Addr) = some p → p.block = w.heap.size ∨ w4.heap.size ≤ p.block := by
            intro p hp
            cases hp
            rcases hg6.2 with e | e
            · cases q with
              | none => simp [Value.ownBlock] at e
              | some p =>
                simp only [Value.ownBlock, Option.some.injEq] at e
                have := HQ.out p rfl
                show g' = w.heap.size ∨ w4.heap.size ≤ g'
                omega
            · have := e g' rfl
              simp at this
              right; show w4.heap.size ≤ g'; omega
          clear hI5 hg6 hO5
          go_roundg (K - (k + 1))
          case measure => omega
          case rel => exact ⟨k + 1, some ⟨g', 0, none⟩, c', by omega, rfl, rfl, by go_num, hO6, hq6, hI6, HB, Below.trans (ext_alloc (ext_alloc E5 _) _) hB6, by omega⟩
      · obtain rfl : K = k := by omega
        go_wp2_with fail
        go_ret2
        exact ⟨K, true, q, cc, Lib.hid ⟨by rw [HR.out, hal.out], by simp [hK]⟩, rfl, hO, hx⟩
end Go.Proofs.Ytefgdkjcoeikmaa
