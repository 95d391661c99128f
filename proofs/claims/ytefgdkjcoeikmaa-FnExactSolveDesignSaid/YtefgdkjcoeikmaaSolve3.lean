/- The contract of the program's SolveDesign. No condition but those of each contract. -/
import Derived.Test.YtefgdkjcoeikmaaSolve2
namespace Go.Proofs.Ytefgdkjcoeikmaa
open Go.ChangeShapes Go.WideShapes Go.ChangeAt Go.RowKit
set_option linter.unusedVariables false
set_option linter.unusedSimpArgs false

def solB (n : Nat) (L : Nat → Nat) (X : Nat → Nat → Int) (V : Nat → Int) : Nat → Bool := fun k => mkOk (topF (L 0) n X V k) (gdet n L X)
def solT (n : Nat) (L : Nat → Nat) (X : Nat → Nat → Int) (V : Nat → Int) : Nat → Int := fun k => mkT (topF (L 0) n X V k) (gdet n L X)
def solU (n : Nat) (L : Nat → Nat) (X : Nat → Nat → Int) (V : Nat → Int) : Nat → Int := fun k => mkB (topF (L 0) n X V k) (gdet n L X)
def solOk (n : Nat) (L : Nat → Nat) (X : Nat → Nat → Int) (m : Nat) (V : Nat → Int) : Bool := readingsOkB n L X m V && allR (solB n L X V) (L 0)
/-- the solutions, or none -/
def Sol (w : World) (n : Nat) (L : Nat → Nat) (X : Nat → Nat → Int) (m : Nat) (V : Nat → Int) (e : Ending) (w' : World) : Prop :=
  ∃ (z : Nat) (b : Bool) (q : Option Addr) (cc : Nat), Hid (b = solOk n L X m V ∧ z = if b = true then L 0 else 0) ∧ e = .returned (.tuple #[.slice q z cc, .bool b]) ∧ OF w' w.heap.size w'.heap.size (.slice q z cc) z (solT n L X V) (solU n L X V) ∧ Ext w w'

set_option maxHeartbeats 6400000 in
theorem impl_SolveDesign (a b : Option Addr) (n c m d : Nat) (A : Nat → Option Addr) (L C : Nat → Nat) (X : Nat → Nat → Int) (V : Nat → Int) (w : World) (h : RowsAt w a n A L C X) (hv : IntsAt w b m V) (hn : n ≤ 1048576) (hT : off L n ≤ 1048576) (hm : m ≤ 1099511627776) :
    Calls Try.prog 13 #[.slice a n c, .slice b m d] w (Sol w n L X m V) := by
  cases h0 : readingsOkB n L X m V
  · have HR := Lib.hid (show solOk n L X m V = false by simp [solOk, h0])
    go_enter Try.func13, Try.ntmps13
    go_wp2_with fail
    refine (impl_ReadingsOk _ _ _ _ _ _ _ _ _ _ _ _ h hv hn hT hm).mono ?_
    rw [h0]
    rintro e w1 ⟨rfl, hx⟩
    go_wp2_with fail
    go_ret2
    exact ⟨0, false, none, 0, Lib.hid ⟨HR.out.symm, rfl⟩, rfl, OF.nil _ _ _ _ _, hx⟩
  · obtain ⟨hdet, hmn, hV⟩ := reads_parts h0
    obtain ⟨hdes, _⟩ := det_parts hdet
    obtain ⟨⟨n1, n2⟩, ⟨m1, m2⟩, _⟩ := design_iff.1 hdes
    have HR := Lib.hid (show solOk n L X m V = allR (solB n L X V) (L 0) by simp [solOk, h0])
    have HT := Lib.hid (fun k => (⟨rfl, rfl, rfl⟩ : mkOk (topF (L 0) n X V k) (gdet n L X) = solB n L X V k ∧ mkT (topF (L 0) n X V k) (gdet n L X) = solT n L X V k ∧ mkB (topF (L 0) n X V k) (gdet n L X) = solU n L X V k))
    subst hmn
    go_enter Try.func13, Try.ntmps13
    go_wp2_with fail
    refine (impl_ReadingsOk _ _ _ _ _ _ _ _ _ _ _ _ h hv hn hT hm).mono ?_
    rw [h0]
    rintro e w1 ⟨rfl, hx1⟩
    go_wp2_with fail
    refine (impl_solved _ _ _ _ _ _ _ _ _ _ _ (h.ext hx1) (hv.ext hx1) hn hT hdes hV).mono ?_
    rintro e w2 ⟨q, cc, rfl, hI, hx2⟩
    obtain ⟨gl, rfl, gl1, gl2, gl3⟩ := hI.head (by omega)
    have HI := Lib.hid hI
    have E2 := ext_trans hx1 hx2
    clear hI h hv h0 hdet hdes
    generalize hK : L 0 = K at *
    go_wp2_with fail
    go_loopg [8, 25] K (fun g o i wr => ∃ (k : Nat) (q : Option Addr) (cc : Nat), k ≤ K ∧ g = K - k ∧ o = .slice q k cc ∧ i = .int .i64 k ∧ OF wr w2.heap.size wr.heap.size (.slice q k cc) k (solT m L X V) (solU m L X V) ∧ Hid (allR (solB m L X V) k = true) ∧ Ext w2 wr)
    case atStart => exact ⟨0, none, 0, Nat.zero_le _, rfl, rfl, rfl, OF.nil _ _ _ _ _, Lib.hid rfl, ext_refl _⟩
    case round =>
      obtain ⟨k, q, cc, hk, rfl, rfl, rfl, hO, hal, hx⟩ := hrel
      have hsz := ext_size hx
      rcases Nat.lt_or_ge k K with klt | kge
      · have k1 : (k : Int) < K := by omega
        have c1 := (HI.out.ext hx).cell klt
        obtain ⟨t1, t2, t3⟩ := HT.out k
        have HT1 := Lib.hid t1
        have HT2 := Lib.hid t2
        have HT3 := Lib.hid t3
        clear t1 t2 t3
        go_wp2_with fail
        refine (impl_MakeFraction _ _ _).mono ?_
        rw [HT1.out, HT2.out, HT3.out]
        generalize hy : solT m L X V k = y
        generalize hz : solU m L X V k = z
        have HY := Lib.hid hy
        have HZ := Lib.hid hz
        clear hy hz
        cases hb : solB m L X V k
        · have HB := Lib.hid (allR_no klt hb)
          clear hb
          rintro e w3 ⟨rfl, hx3⟩
          go_wp2_with fail
          go_ret2
          exact ⟨0, false, none, 0, Lib.hid ⟨by rw [HR.out, HB.out], rfl⟩, rfl, OF.nil _ _ _ _ _, ext_alloc (ext_trans E2 (ext_trans hx hx3)) _⟩
        · have HB := Lib.hid (allR_yes hal.out hb)
          clear hb
          rintro e w3 ⟨rfl, hx3⟩
          have hsz3 := ext_size hx3
          have hO3 := hO.ext hx3
          clear c1 hO
          have n1' := cell_new2 (w3.alloc (.cells #[.int .i64 y, .int .i64 z] 41)) (.int .i64 y) (.int .i64 z) 41
          have n2' := cell_new2' (w3.alloc (.cells #[.int .i64 y, .int .i64 z] 41)) (.int .i64 y) (.int .i64 z) 41
          simp only [World.size_alloc] at n1' n2'
          have N1 := Lib.hid n1'
          have N2 := Lib.hid n2'
          clear n1' n2'
          go_wp2_with (at_builtin; refine wpList_push_frac rfl _ _ 25 rfl Try.underlying25 info_frac _ w2.heap.size k (solT m L X V) (solU m L X V) y z _ _ _ rfl (hO3.ext (ext_alloc (ext_alloc (ext_refl _) _) _)) ⟨w3.heap.size + 1, 0, none⟩ 1 rfl N1.out N2.out HY.out HZ.out (by omega) (by simp; omega) ?_; intro g' c' w4 hO4 hb4)
          go_roundg (K - (k + 1))
          case measure => omega
          case rel => exact ⟨k + 1, some ⟨g', 0, none⟩, c', by omega, rfl, rfl, by go_num, hO4, HB, Below.trans (ext_alloc (ext_alloc (ext_trans hx hx3) _) _) hb4⟩
      · obtain rfl : K = k := by omega
        go_wp2_with fail
        go_ret2
        exact ⟨K, true, q, cc, Lib.hid ⟨by rw [HR.out, hal.out], by simp [hK]⟩, rfl, (hO.mono (ext_size E2) (Nat.le_refl _)).now, ext_trans E2 hx⟩
end Go.Proofs.Ytefgdkjcoeikmaa
