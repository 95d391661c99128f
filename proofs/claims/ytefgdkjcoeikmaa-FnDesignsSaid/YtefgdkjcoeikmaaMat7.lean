/- The contracts of SameReadings, of columns and of the transposed matrix. No condition but those of each contract. -/
import Derived.Test.YtefgdkjcoeikmaaMat6
namespace Go.Proofs.Ytefgdkjcoeikmaa
open Go.ChangeShapes Go.WideShapes Go.ChangeAt Go.RowKit
set_option linter.unusedVariables false
set_option linter.unusedSimpArgs false

def sameF (F G : Nat → Int) : Nat → Bool := fun i => F i == G i
def sameB (n m : Nat) (F G : Nat → Int) : Bool := decide (n = m) && allR (sameF F G) n
theorem neqI_yes {a b : Int} (h : (a == b) = false) : (a != b) = true := by simp [bne, h]
theorem neqI_no {a b : Int} (h : (a == b) = true) : (a != b) = false := by simp [bne, h]

set_option maxHeartbeats 800000 in
theorem impl_sameInts (a b : Option Addr) (n m c d : Nat) (F G : Nat → Int) (w : World) (ha : IntsAt w a n F) (hb : IntsAt w b m G) (hn : n ≤ 1099511627776) (hm : m ≤ 1099511627776) :
    Calls Try.prog 77 #[.slice a n c, .slice b m d] w fun e w' => e = .returned (.bool (sameB n m F G)) ∧ Drawn w w' := by
  have HA := Lib.hid ha
  have HB := Lib.hid hb
  clear ha hb
  by_cases e : n = m
  · subst e
    have HS := Lib.hid (show sameB n n F G = allR (sameF F G) n by simp [sameB])
    go_enter Try.func77, Try.ntmps77
    go_wp2
    go_loopg [13] n (fun g i wr => ∃ k : Nat, k ≤ n ∧ g = n - k ∧ i = .int .i64 k ∧ Hid (allR (sameF F G) k = true) ∧ Drawn w wr)
    case atStart => exact ⟨0, Nat.zero_le _, rfl, rfl, Lib.hid rfl, Drawn.refl _⟩
    case round =>
      obtain ⟨k, hk, rfl, rfl, hal, hd⟩ := hrel
      rcases Nat.lt_or_ge k n with hlt | hge
      · obtain ⟨ba, oa, rfl, hca⟩ := HA.out.at_ hlt
        obtain ⟨bb, ob, rfl, hcb⟩ := HB.out.at_ hlt
        have hca' := ext_cell hd.ext hca
        have hcb' := ext_cell hd.ext hcb
        have hlt' : (k : Int) < (n : Int) := by omega
        clear hca hcb
        cases hf : (F k == G k)
        · have HR := Lib.hid (allR_no hlt (f := sameF F G) hf)
          have hb := neqI_yes hf
          clear hf
          go_wp2
          go_quiet (fail)
          go_wp2
          go_ret
          exact ⟨ret_bool (HS.out.trans HR.out).symm, hd.drewN _⟩
        · have HR := Lib.hid (allR_yes (f := sameF F G) hal.out hf)
          have hb := neqI_no hf
          clear hf
          go_wp2
          go_quiet (fail)
          go_wp2
          go_roundg (n - (k + 1))
          case measure => omega
          case rel => exact ⟨k + 1, by omega, rfl, by go_num, HR, hd.drewN _⟩
      · obtain rfl : k = n := by omega
        go_wp2
        go_ret
        exact ⟨ret_bool (HS.out.trans hal.out).symm, hd⟩
  · have hb := neq_yes e
    have HS := Lib.hid (show sameB n m F G = false by simp [sameB, e])
    clear e
    go_enter Try.func77, Try.ntmps77
    go_wp2
    go_ret
    exact ⟨ret_bool HS.out.symm, Drawn.refl _⟩

def sameReadB (n : Nat) (L : Nat → Nat) (X : Nat → Nat → Int) (m k : Nat) (V U : Nat → Int) : Bool := readOkB n L X m V && (readOkB n L X k U && sameB n n (readF m X V) (readF k X U))
theorem read_pos {n m : Nat} {L : Nat → Nat} {X : Nat → Nat → Int} {V : Nat → Int} (h : readOkB n L X m V = true) : 1 ≤ n ∧ n ≤ 8 := by
  simp only [readOkB, Bool.and_eq_true, design_iff] at h
  exact h.1.1

set_option maxHeartbeats 1600000 in
theorem impl_SameReadings (a b b2 : Option Addr) (n c m d k f : Nat) (A : Nat → Option Addr) (L C : Nat → Nat) (X : Nat → Nat → Int) (V U : Nat → Int) (w : World) (h : RowsAt w a n A L C X) (hv : IntsAt w b m V) (hu : IntsAt w b2 k U) (hn : n ≤ 1048576) (hT : off L n ≤ 1048576) (hm : m ≤ 1099511627776) (hk : k ≤ 1099511627776) :
    Calls Try.prog 38 #[.slice a n c, .slice b m d, .slice b2 k f] w fun e w' => e = .returned (.bool (sameReadB n L X m k V U)) ∧ Ext w w' := by
  have hq := fun (w : World) (a : Option Addr) (n c : Nat) => run_neq_slice_nil_any (P := Try.prog) w 23 3 a n c 0 0 Try.underlying23
  cases h1 : readOkB n L X m V
  · have HR := Lib.hid (show sameReadB n L X m k V U = false by simp [sameReadB, h1])
    go_enter Try.func38, Try.ntmps38
    go_wp2_with fail
    refine (impl_ReadDesign _ _ _ _ _ _ _ _ _ _ _ _ h hv hn hT hm).mono ?_
    rintro e w1 hp
    obtain ⟨rfl, hx⟩ := hp.2 h1
    clear hp
    go_wp2_with fail
    refine ((impl_ReadDesign _ _ _ _ _ _ _ _ _ _ _ _ (h.ext hx) (hu.ext hx) hn hT hk).mono fun _ _ q => q.makes).mono ?_
    rintro e w2 ⟨p, q, rfl, hO, hx2⟩
    generalize (if readOkB n L X k U = true then n else 0) = z at hO ⊢
    go_wp2_with fail
    go_ret
    exact ⟨ret_bool HR.out.symm, ext_trans hx hx2⟩
  · obtain ⟨n1, n2⟩ := read_pos h1
    cases h2 : readOkB n L X k U
    · have HR := Lib.hid (show sameReadB n L X m k V U = false by simp [sameReadB, h2])
      go_enter Try.func38, Try.ntmps38
      go_wp2_with fail
      refine (impl_ReadDesign _ _ _ _ _ _ _ _ _ _ _ _ h hv hn hT hm).mono ?_
      rintro e w1 hp
      obtain ⟨p, q, rfl, hO, hx⟩ := hp.1 h1
      clear hp
      obtain ⟨g, rfl, g1, g2, g3⟩ := hO.head (by omega)
      go_wp2_with fail
      refine (impl_ReadDesign _ _ _ _ _ _ _ _ _ _ _ _ (h.ext hx) (hu.ext hx) hn hT hk).mono ?_
      rintro e w2 hp
      obtain ⟨rfl, hx2⟩ := hp.2 h2
      clear hp
      go_wp2_with fail
      go_ret
      exact ⟨ret_bool HR.out.symm, ext_trans hx hx2⟩
    · have HR := Lib.hid (show sameReadB n L X m k V U = sameB n n (readF m X V) (readF k X U) by simp [sameReadB, h1, h2])
      go_enter Try.func38, Try.ntmps38
      go_wp2_with fail
      refine (impl_ReadDesign _ _ _ _ _ _ _ _ _ _ _ _ h hv hn hT hm).mono ?_
      rintro e w1 hp
      obtain ⟨p, q, rfl, hO, hx⟩ := hp.1 h1
      clear hp
      obtain ⟨g, rfl, g1, g2, g3⟩ := hO.head (by omega)
      go_wp2_with fail
      refine (impl_ReadDesign _ _ _ _ _ _ _ _ _ _ _ _ (h.ext hx) (hu.ext hx) hn hT hk).mono ?_
      rintro e w2 hp
      obtain ⟨p2, q2, rfl, hO2, hx2⟩ := hp.1 h2
      clear hp
      obtain ⟨g', rfl, g1', g2', g3'⟩ := hO2.head (by omega)
      have r1 := (hO.ext hx2).reads
      have r2 := hO2.reads
      go_wp2_with (go_at_call 77; refine (impl_sameInts _ _ _ _ _ _ _ _ _ r1 r2 (by omega) (by omega)).mono ?_; rintro e w3 ⟨rfl, hd⟩)
      go_ret
      exact ⟨ret_bool HR.out.symm, ext_trans hx (ext_trans hx2 hd.ext)⟩

end Go.Proofs.Ytefgdkjcoeikmaa
