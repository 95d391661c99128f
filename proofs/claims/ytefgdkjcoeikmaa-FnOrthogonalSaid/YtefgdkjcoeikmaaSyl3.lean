/- The contract of the program's SylvesterMatrix. No condition but those of each contract. -/
import Derived.Test.YtefgdkjcoeikmaaSyl2
import Derived.Test.YtefgdkjcoeikmaaConf2
namespace Go.Proofs.Ytefgdkjcoeikmaa
open Go.ChangeShapes Go.WideShapes Go.ChangeAt Go.RowKit
set_option linter.unusedVariables false
set_option linter.unusedSimpArgs false

theorem pow_small {t : Nat} (h : t ≤ 3) : 1 ≤ 2 ^ t ∧ 2 ^ t ≤ 8 := by
  have : t = 0 ∨ t = 1 ∨ t = 2 ∨ t = 3 := by omega
  rcases this with rfl | rfl | rfl | rfl <;> decide
/-- two rows' outer blocks differ -/
def Apart (u v : Value) : Prop := ∀ b, u.ownBlock = some b → v.ownBlock ≠ some b
theorem Grew.apart {u u' v : Value} {w w' : World} (h : Grew u u' w w') (ha : Apart u v) (hv : ∀ b, v.ownBlock = some b → b < w.heap.size) : Apart u' v := by
  intro b hb hb2
  rcases h.2 with e | e
  · rw [e] at hb; exact ha b hb hb2
  · have q1 := e b hb
    have q2 := hv b hb2
    omega
theorem Apart.symm {u v : Value} (h : Apart u v) : Apart v u := fun b hb hb2 => h b hb2 hb

set_option maxHeartbeats 6400000 in
theorem impl_Syl (K : Nat) (hK : K ≤ 3) (w : World) :
    Calls Try.prog 47 #[.int .i64 K] w (MakesR w (2 ^ K) (fun _ => 2 ^ K) (sylF K)) := by
  have hin : inB (K : Int) 0 3 = true := inB_true.2 ⟨by omega, by omega⟩
  go_enter Try.func47, Try.ntmps47
  go_wp2_with (go_at_call 73; refine (impl_in _ _ _ _).mono ?_; rw [hin]; rintro e w' ⟨rfl, rfl⟩)
  go_loopg [3, 14] K (fun g ov ii wr => ∃ (t : Nat) (m : Nat) (q : Option Addr) (cc : Nat) (A' : Nat → Option Addr) (C' : Nat → Nat), t ≤ K ∧ g = K - t ∧ Hid (m = 2 ^ t) ∧ ii = .int .i64 t ∧ ov = .slice q m cc ∧ OR wr w.heap.size wr.heap.size (.slice q m cc) m A' (fun _ => m) C' (sylF t) ∧ Ext w wr)
  case atStart => exact ⟨0, 1, some ⟨w.heap.size + 1, 0, none⟩, 1, fun _ => some ⟨w.heap.size, 0, none⟩, fun _ => 1, Nat.zero_le _, rfl, rfl, by go_num, rfl, by
    have hl := OI.lit w [.int .i64 1] (sylF 0 0) 1 (by simp [maxLen]) (by simp [ints, sylF, sylS])
    have ho := OR.lit1 hl (by simp) (by simp)
    simp only [World.size_alloc] at ho
    exact (ho.congr (fun i hi j hj => by rw [show i = 0 by omega])).now, (by repeat (first | (with_reducible exact ext_refl _) | (with_reducible refine ext_setCell ?_ ?_ _) | (with_reducible refine ext_alloc ?_ _) | (with_reducible refine ext_drewN ?_ _) | (with_reducible refine ext_drew ?_) | (with_reducible refine ext_trans ?_ (by assumption)) | (dsimp only; omega) | omega | (simp; omega)))⟩
  case round =>
    obtain ⟨t, m, q, cc, A', C', ht, rfl, HM, rfl, rfl, hO, hx⟩ := hrel
    obtain ⟨m1, m2⟩ := pow_small (show t ≤ 3 by omega)
    rw [← HM.out] at m1 m2
    obtain ⟨wo_, rfl⟩ : ∃ wo_ : World, wo_ = wr := ⟨_, rfl⟩
    have hszo := ext_size hx
    rcases Nat.lt_or_ge t K with hlt | hge
    · have hlt' : (t : Int) < K := by omega
      go_wp2
      go_loopg [4, 5, 18] m (fun g tv bv ii wr => ∃ (k : Nat) (ta : Option Addr) (tc : Nat) (ba : Option Addr) (bc : Nat) (At : Nat → Option Addr) (Ct : Nat → Nat) (Ab : Nat → Option Addr) (Cb : Nat → Nat), k ≤ m ∧ g = m - k ∧ ii = .int .i64 k ∧ tv = .slice ta k tc ∧ bv = .slice ba k bc ∧ OR wr wo_.heap.size wr.heap.size (.slice ta k tc) k At (fun _ => m + m) Ct (sylF (t + 1)) ∧ OR wr wo_.heap.size wr.heap.size (.slice ba k bc) k Ab (fun _ => m + m) Cb (fun i => sylF (t + 1) (i + m)) ∧ Apart (.slice ta k tc) (.slice ba k bc) ∧ (∀ i j, i < k → j < k → ∀ p q, At i = some p → Ab j = some q → p.block ≠ q.block) ∧ Ext wo_ wr)
      case atStart => exact ⟨0, none, 0, none, 0, fun _ => none, fun _ => 0, fun _ => none, fun _ => 0, Nat.zero_le _, rfl, by go_num, rfl, rfl, OR.nil _ _ _ _ _ _ _, OR.nil _ _ _ _ _ _ _, (fun b hb => by simp [Value.ownBlock] at hb), fun i j hi => by omega, (by repeat (first | (with_reducible exact ext_refl _) | (with_reducible refine ext_setCell ?_ ?_ _) | (with_reducible refine ext_alloc ?_ _) | (with_reducible refine ext_drewN ?_ _) | (with_reducible refine ext_drew ?_) | (with_reducible refine ext_trans ?_ (by assumption)) | (dsimp only; omega) | omega | (simp; omega)))⟩
      case round =>
        obtain ⟨k, ta, tc, ba, bc, At, Ct, Ab, Cb, hk, rfl, rfl, rfl, rfl, hT, hB, hAp, hCr, hx2⟩ := hrel
        have hsz2 := ext_size hx2
        rcases Nat.lt_or_ge k m with klt | kge
        · have klt' : (k : Int) < m := by omega
          have hkp : k < 2 ^ t := by rw [← HM.out]; exact klt
          obtain ⟨ob, oo, rfl, hcell⟩ := (hO.ext hx2).rows.1 (show 0 < m by omega)
          have hck := hcell k klt
          have hr0 := hO.row k klt
          clear hcell
          generalize A' k = ak at hck hr0
          have hrow := (hr0.ext hx2).reads
          have syb : ∀ i, i < m → -1 ≤ sylF t k i ∧ sylF t k i ≤ 1 := fun i _ => sylS_bound k i t
          go_wp2_with fail
          refine (impl_copyInts _ _ _ _ _ hrow (by omega)).mono ?_
          rintro e w1 ⟨p1, c1, rfl, hI1, hx3⟩
          have hsz3 := ext_size hx3
          go_wp2_with (first
            | (at_builtin; refine wpList_append_ints rfl _ _ 23 rfl Try.underlying23 info_int _ wr.heap.size _ m (sylF t k) p1 c1 rfl hI1 ak m (C' k) (sylF t k) rfl (hrow.ext hx3) (by omega) (by omega) ?_; intro a2 c2 w2 hI2 hb2; have E12 : Ext wr w2 := Below.trans hx3 hb2; have hTa := (hT.ext E12).ext (ext_alloc (ext_refl _) (.cells #[.slice a2 (m + m) c2] 23)); have hBa := (hB.ext E12).ext (ext_alloc (ext_refl _) (.cells #[.slice a2 (m + m) c2] 23)); have hz2 := ext_size E12; have hI2' : OI w2 wr.heap.size w2.heap.size (.slice a2 (m + m) c2) (m + m) (sylF (t + 1) k) := hI2.congr (fun j hj => by have q := syl_top hkp j (by rw [← HM.out]; exact hj); rw [← HM.out] at q; exact q); have hLb := OR.lit1 (hI2'.mono (show wo_.heap.size ≤ wr.heap.size by omega) (Nat.le_refl _)) (Nat.le_refl _) (by omega); have hap : ∀ i j, i < k → j < 1 → ∀ p q, At i = some p → (fun _ : Nat => a2) j = some q → p.block ≠ q.block := (by intro i j hi _ p q hp hq; have b1 := ((hT.row i hi).lt p hp).2.2; have b2 := (hI2.lt q hq).1; omega))
            | (at_builtin; refine wpList_append_rows rfl _ _ 22 rfl Try.underlying22 info_ints _ wo_.heap.size _ _ k 1 At (fun _ => a2) (fun _ => m + m) (fun _ => m + m) Ct (fun _ => c2) (sylF (t + 1)) (fun _ => sylF (t + 1) k) _ _ rfl hTa ⟨w2.heap.size, 0, none⟩ 1 rfl hLb hap (by omega) (by simp; omega) ?_; intro a3 c3 w3 hT3 hg3)
            | (go_at_call 83; fail))
          have hB3 := hBa.grown hg3.1 hAp.symm (fun i hi p hp hv => hTa.top_ne (hBa.row i hi) p.block hv (by simp [Value.ownBlock, hp]))
          have hAp3 : Apart (.slice a3 (k + 1) c3) (.slice ba k bc) := hg3.apart hAp (fun b hb => (hBa.top.lt b hb).2)
          have hz3 : w2.heap.size < w3.heap.size := by have q := hg3.1.size; simp at q; omega
          have E3 : Ext wo_ w3 := Below.trans hx2 (Below.trans (E12.mono hsz2) (Below.trans ((ext_alloc (ext_refl w2) _).mono (by omega)) (hg3.below (by simp; omega) (fun b hb => (hTa.top.lt b hb).1))))
          have hrow3 := (hr0.ext E3).reads
          refine (impl_copyInts _ _ _ _ _ hrow3 (by omega)).mono ?_
          rintro e w4 ⟨p4, c4, rfl, hI4, hx4⟩
          have hsz4 := ext_size hx4
          go_wp2_with fail
          refine (impl_negated _ _ _ _ _ (hrow3.ext hx4) (by omega) syb).mono ?_
          rintro e w5 ⟨p5, c5, rfl, hN5, hx5⟩
          have hsz5 := ext_size hx5
          go_wp2_with (first
            | (at_builtin; refine wpList_append_ints rfl _ _ 23 rfl Try.underlying23 info_int _ w3.heap.size _ m (sylF t k) p4 c4 rfl (hI4.ext hx5) p5 m c5 (fun j => - sylF t k j) rfl hN5.reads (by omega) (by omega) ?_; intro a6 c6 w6 hI6 hb6; have E36 : Ext w3 w6 := Below.trans (ext_trans hx4 hx5) hb6; have hTb := (hT3.ext E36).ext (ext_alloc (ext_refl _) (.cells #[.slice a6 (m + m) c6] 23)); have hBb := (hB3.ext E36).ext (ext_alloc (ext_refl _) (.cells #[.slice a6 (m + m) c6] 23)); have hz6 := ext_size E36; have hI6' : OI w6 w3.heap.size w6.heap.size (.slice a6 (m + m) c6) (m + m) (sylF (t + 1) (k + m)) := hI6.congr (fun j hj => by have q := syl_bot hkp j (by rw [← HM.out]; exact hj); rw [← HM.out] at q; exact q); have hLc := OR.lit1 (hI6'.mono (show wo_.heap.size ≤ w3.heap.size by omega) (Nat.le_refl _)) (Nat.le_refl _) (by omega); have hap2 : ∀ i j, i < k → j < 1 → ∀ p q, Ab i = some p → (fun _ : Nat => a6) j = some q → p.block ≠ q.block := (by intro i j hi _ p q hp hq; have b1 := ((hB.row i hi).lt p hp).2.2; have b2 := (hI6.lt q hq).1; omega))
            | (at_builtin; refine wpList_append_rows rfl _ _ 22 rfl Try.underlying22 info_ints _ wo_.heap.size _ _ k 1 Ab (fun _ => a6) (fun _ => m + m) (fun _ => m + m) Cb (fun _ => c6) (fun i => sylF (t + 1) (i + m)) (fun _ => sylF (t + 1) (k + m)) _ _ rfl hBb ⟨w6.heap.size, 0, none⟩ 1 rfl hLc hap2 (by omega) (by simp; omega) ?_; intro a7 c7 w7 hB7 hg7))
          go_roundg (m - (k + 1))
          case measure => omega
          case rel =>
            refine ⟨k + 1, a3, c3, a7, c7, _, _, _, _, by omega, rfl, by go_num, rfl, rfl, ((hTb.grown hg7.1 hAp3 (fun i hi p hp hv => hBb.top_ne (hTb.row i hi) p.block hv (by simp [Value.ownBlock, hp]))).now.congrL (fun i _ => joinA_const)).congr (fun i hi jj _ => ?_), (hB7.congrL (fun i _ => joinA_const)).congr (fun i hi jj _ => ?_), (hg7.apart hAp3.symm (fun b hb => (hTb.top.lt b hb).2)).symm, ?_, Below.trans E3 (Below.trans (E36.mono (by omega)) (Below.trans ((ext_alloc (ext_refl w6) _).mono (by omega)) (hg7.below (by simp; omega) (fun b hb => (hBb.top.lt b hb).1))))⟩
            · by_cases e : i < k
              · rw [joinA_lt e]
              · rw [joinA_ge e, show i = k by omega]
            · by_cases e : i < k
              · rw [joinA_lt e]
              · rw [joinA_ge e, show i = k by omega]
            · intro i j hi hj p q hp hq
              by_cases e1 : i < k
              · rw [joinA_lt e1] at hp
                have b1 := ((hT.row i e1).lt p hp).2.2
                by_cases e2 : j < k
                · rw [joinA_lt e2] at hq
                  exact hCr i j e1 e2 p q hp hq
                · rw [joinA_ge e2] at hq
                  have b2 := (hI6.lt q hq).1
                  omega
              · rw [joinA_ge e1] at hp
                have b1 := hI2.lt p hp
                by_cases e2 : j < k
                · rw [joinA_lt e2] at hq
                  have b2 := ((hB.row j e2).lt q hq).2.2
                  omega
                · rw [joinA_ge e2] at hq
                  have b2 := (hI6.lt q hq).1
                  omega
        · obtain rfl : k = m := by omega
          obtain ⟨bb, bo, rfl, _⟩ := hB.rows.top (by omega)
          go_wp2_with (at_builtin; refine wpList_append_rows rfl _ _ 22 rfl Try.underlying22 info_ints _ wo_.heap.size _ _ k k At Ab (fun _ => k + k) (fun _ => k + k) Ct Cb (sylF (t + 1)) (fun i => sylF (t + 1) (i + k)) _ _ rfl hT ⟨bb, bo, none⟩ bc rfl hB hCr (by omega) (by omega) ?_; intro a8 c8 w8 hO8 hg8)
          have hpw : k + k = 2 ^ (t + 1) := by rw [HM.out, Nat.pow_succ]; omega
          go_roundg (K - (t + 1))
          case measure => omega
          case rel =>
            refine ⟨t + 1, k + k, a8, c8, _, _, by omega, rfl, hpw, by go_num, rfl, ((hO8.congrL (fun i _ => joinA_const)).congr (fun i hi jj _ => ?_)).mono hszo (Nat.le_refl _), Below.trans hx (Below.trans (hx2.mono hszo) ((hg8.below (by omega) (fun b hb => (hT.top.lt b hb).1)).mono hszo))⟩
            by_cases e : i < k
            · rw [joinA_lt e]
            · rw [joinA_ge e, show i - k + k = i by omega]
    · obtain rfl : t = K := by omega
      have hm := HM.out
      go_wp2
      go_ret
      exact ⟨q, cc, A', C', by rw [← hm]; rfl, by rw [← hm]; exact hO, hx⟩

set_option maxHeartbeats 800000 in
theorem impl_SylvesterMatrix (k : Int) (w : World) :
    Calls Try.prog 47 #[.int .i64 k] w (MakesR w (sylN k) (fun _ => sylN k) (sylF k.toNat)) := by
  cases h : inB k 0 3
  · have HN := Lib.hid (show sylN k = 0 by simp [sylN, h])
    rw [HN.out]
    go_enter Try.func47, Try.ntmps47
    go_wp2_with (go_at_call 73; refine (impl_in _ _ _ _).mono ?_; rw [h]; rintro e w' ⟨rfl, rfl⟩)
    go_ret
    exact ⟨none, 0, fun _ => none, fun _ => 0, rfl, OR.nil _ _ _ _ _ _ _, ext_refl _⟩
  · obtain ⟨h1, h2⟩ := inB_true.1 h
    obtain ⟨K, rfl⟩ := Int.eq_ofNat_of_zero_le h1
    have e : sylN (K : Int) = 2 ^ K := by unfold sylN; rw [h]; rfl
    rw [e]
    exact impl_Syl K (by omega) w
theorem sylN_le (k : Int) : sylN k ≤ 8 := by
  unfold sylN
  cases h : inB k 0 3
  · simp
  · obtain ⟨h1, h2⟩ := inB_true.1 h
    simp only [if_true]
    exact (pow_small (show k.toNat ≤ 3 by omega)).2
theorem syl_off (k : Int) : off (fun _ => sylN k) (sylN k) ≤ 64 := by
  rw [off_const]
  have h := sylN_le k
  exact Nat.le_trans (Nat.mul_le_mul h h) (by omega)
end Go.Proofs.Ytefgdkjcoeikmaa
