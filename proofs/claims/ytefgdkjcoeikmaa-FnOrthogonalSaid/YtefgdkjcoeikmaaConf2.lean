/- The contract of the program's ConferenceMatrix. No condition but those of each contract. -/
import Derived.Test.YtefgdkjcoeikmaaConf1
import Derived.Test.YtefgdkjcoeikmaaGrow2
namespace Go.Proofs.Ytefgdkjcoeikmaa
open Go.ChangeShapes Go.WideShapes Go.ChangeAt Go.RowKit
set_option linter.unusedVariables false
set_option linter.unusedSimpArgs false

theorem conf_zero {f p : Int} {i : Nat} : confF f p (i + 1) 0 = f := by simp [confF]
theorem conf_top0 {f p : Int} : confF f p 0 0 = 0 := by simp [confF]
theorem conf_top {f p : Int} {j : Nat} : confF f p 0 (j + 1) = 1 := by simp [confF]
theorem conf_in {f p : Int} {i j : Nat} : confF f p (i + 1) (j + 1) = legI ((j : Int) - (i : Int)) p := by
  simp only [confF, if_neg (Nat.succ_ne_zero _)]
  rw [show ((j + 1 : Nat) : Int) - ((i + 1 : Nat) : Int) = (j : Int) - i by omega]
theorem joinA_const {α : Type} {n : Nat} {x : α} {i : Nat} : joinA n (fun _ => x) (fun _ => x) i = x := by simp [joinA]

set_option maxHeartbeats 3200000 in
theorem impl_Conf_3 (w : World) :
    Calls Try.prog 48 #[.int .i64 3] w (MakesR w 4 (fun _ => 4) (confF (-1) 3)) := by
  go_enter Try.func48, Try.ntmps48
  go_wp2
  go_loopg [4, 5, 23] 3 (fun g tv ov ii wr => ∃ (k : Nat) (ta : Option Addr) (tc : Nat) (q : Option Addr) (cc : Nat) (A' : Nat → Option Addr) (C' : Nat → Nat), k ≤ 3 ∧ g = 3 - k ∧ ii = .int .i64 k ∧ tv = .slice ta (k + 1) tc ∧ ov = .slice q k cc ∧ OI wr w.heap.size wr.heap.size (.slice ta (k + 1) tc) (k + 1) (confF (-1) 3 0) ∧ OR wr w.heap.size wr.heap.size (.slice q k cc) k A' (fun _ => 4) C' (fun i => confF (-1) 3 (i + 1)) ∧ (∀ i, i < k → ∀ b, A' i = some b → (Value.slice ta (k + 1) tc).ownBlock ≠ some b.block) ∧ Ext w wr)
  case atStart => exact ⟨0, some ⟨w.heap.size, 0, none⟩, 1, none, 0, fun _ => none, fun _ => 0, Nat.zero_le _, rfl, by go_num, rfl, rfl, (OI.lit w [.int .i64 0] _ 1 (by simp [maxLen]) (by simp [ints, conf_top0])).now, OR.nil _ _ _ _ _ _ _, fun i hi => by omega, (by repeat (first | (with_reducible exact ext_refl _) | (with_reducible refine ext_setCell ?_ ?_ _) | (with_reducible refine ext_alloc ?_ _) | (with_reducible refine ext_drewN ?_ _) | (with_reducible refine ext_drew ?_) | (with_reducible refine ext_trans ?_ (by assumption)) | (dsimp only; omega) | omega | (simp; omega)))⟩
  case round =>
    obtain ⟨k, ta, tc, q, cc, A', C', hk, rfl, rfl, rfl, rfl, hT, hO, hS, hx⟩ := hrel
    obtain ⟨wo_, rfl⟩ : ∃ wo_ : World, wo_ = wr := ⟨_, rfl⟩
    have hszo := ext_size hx
    rcases Nat.lt_or_ge k 3 with hlt | hge
    · have hlt' : (k : Int) < 3 := by omega
      have hTa := hT.ext (ext_alloc (ext_refl _) (.cells #[.int .i64 1] 3))
      have hOa := hO.ext (ext_alloc (ext_refl _) (.cells #[.int .i64 1] 3))
      go_wp2_with (at_builtin; refine wpList_push_int2 rfl _ _ 23 rfl Try.underlying23 info_int _ w.heap.size (k + 1) (confF (-1) 3 0) 1 _ _ _ rfl hTa ⟨wo_.heap.size, 0, none⟩ 1 rfl (cell_new1 _ _ _) conf_top (by omega) (by simp; omega) ?_; intro g1 c1 w1 hT1 hg1)
      have hO1 := hOa.grown hg1.1 (hOa.top_ne hTa) hS
      have hz1 : wo_.heap.size < w1.heap.size := by have q := hg1.1.size; simp at q; omega
      have hS1 : ∀ i, i < k → ∀ b, A' i = some b → (Value.slice (some ⟨g1, 0, none⟩) (k + 1 + 1) c1).ownBlock ≠ some b.block := by
        intro i hi b hb
        rcases hg1.2 with e | e
        · rw [e]; exact hS i hi b hb
        · intro e2
          have q1 := e _ e2
          have q2 := ((hO.row i hi).lt b hb).2.1
          simp at q1
          omega
      have hx1 : Ext w w1 := Below.trans (ext_alloc hx _) (hg1.below (by simp; omega) (fun b hb => (hTa.1.lt b hb).1))
      clear hg1 hTa hOa hS
      obtain ⟨ws_, hws⟩ : ∃ ws_ : World, ws_ = w1 := ⟨_, rfl⟩
      rw [← hws] at hT1 hO1 hz1 hx1
      rw [← hws]
      clear hws
      go_wp2
      go_loopg [7, 32] 3 (fun g lv jj wr => ∃ (j : Nat) (q2 : Option Addr) (cc2 : Nat), j ≤ 3 ∧ g = 3 - j ∧ jj = .int .i64 j ∧ lv = .slice q2 (j + 1) cc2 ∧ OI wr ws_.heap.size wr.heap.size (.slice q2 (j + 1) cc2) (j + 1) (confF (-1) 3 (k + 1)) ∧ Ext ws_ wr)
      case atStart => exact ⟨0, some ⟨ws_.heap.size, 0, none⟩, 1, Nat.zero_le _, rfl, by go_num, rfl, (OI.lit ws_ [.int .i64 (-1)] _ 1 (by simp [maxLen]) (by simp [ints, conf_zero])).now, ext_alloc (ext_refl _) _⟩
      case round =>
        obtain ⟨j, q2, cc2, hj, rfl, rfl, rfl, hI, hx2⟩ := hrel
        have hsz2 := ext_size hx2
        rcases Nat.lt_or_ge j 3 with jlt | jge
        · have jlt' : (j : Int) < 3 := by omega
          go_wp2_with (first | (go_at_call 51; refine (impl_LegendreOf _ _ _).mono ?_; rintro e w' ⟨rfl, rfl⟩) | (at_builtin; refine wpList_push_int rfl _ _ 23 rfl Try.underlying23 info_int _ ws_.heap.size (j + 1) (confF (-1) 3 (k + 1)) (legI ((j : Int) - (k : Int)) 3) _ _ _ rfl (hI.ext (ext_alloc (ext_refl _) _)) ⟨wr.heap.size, 0, none⟩ 1 rfl (cell_new1 _ _ _) conf_in (by omega) (by simp; omega) ?_; intro g' c' w4 hO4 hb4))
          go_roundg (3 - (j + 1))
          case measure => omega
          case rel => exact ⟨j + 1, some ⟨g', 0, none⟩, c', by omega, rfl, by go_num, rfl, hO4, Below.trans (ext_alloc hx2 _) hb4⟩
        · obtain rfl : j = 3 := by omega
          have hTb := (hT1.ext hx2).ext (ext_alloc (ext_refl _) (.cells #[.slice q2 4 cc2] 23))
          have hOb := (hO1.ext hx2).ext (ext_alloc (ext_refl _) (.cells #[.slice q2 4 cc2] 23))
          have hLb := OR.lit1 (hI.mono (show w.heap.size ≤ ws_.heap.size by omega) (Nat.le_refl _)) (Nat.le_refl _) (by omega)
          have hap : ∀ i j, i < k → j < 1 → ∀ p q, A' i = some p → (fun _ : Nat => q2) j = some q → p.block ≠ q.block := by
            intro i j hi _ p q hp hq
            have b1 := ((hO1.row i hi).lt p hp).2.2
            have b2 := (hI.lt q hq).1
            omega
          go_wp2_with (at_builtin; refine wpList_append_rows rfl _ _ 22 rfl Try.underlying22 info_ints _ w.heap.size _ _ k 1 A' (fun _ => q2) (fun _ => 4) (fun _ => 4) C' (fun _ => cc2) _ _ _ _ rfl hOb ⟨wr.heap.size, 0, none⟩ 1 rfl hLb hap (by omega) (by simp; omega) ?_; intro a3 c3 w3 hO3 hg3)
          go_roundg (3 - (k + 1))
          case measure => omega
          case rel =>
            refine ⟨k + 1, some ⟨g1, 0, none⟩, c1, a3, c3, _, _, by omega, rfl, by go_num, rfl, rfl, (hTb.grown hg3.1 (fun b hb hv => hOb.top_ne hTb b hv hb)).now, (hO3.congrL (fun i _ => joinA_const)).congr (fun i hi jj _ => ?_), ?_, Below.trans hx1 (Below.trans (hx2.mono (by omega)) (Below.trans ((ext_alloc (ext_refl _) _).mono (by omega)) (hg3.below (by simp; omega) (fun b hb => (hOb.top.lt b hb).1))))⟩
            · by_cases e : i < k
              · rw [joinA_lt e]
              · rw [joinA_ge e, show i = k by omega]
            · intro i hi b hb
              by_cases e : i < k
              · rw [joinA_lt e] at hb; exact hS1 i e b hb
              · rw [joinA_ge e] at hb
                intro e2
                have b1 := (hT1.1.lt _ e2).2
                have b2 := (hI.lt b hb).1
                omega
    · obtain rfl : k = 3 := by omega
      obtain ⟨og, oc, ho⟩ := hO.form1
      simp only [Value.slice.injEq, true_and] at ho
      obtain ⟨rfl, rfl⟩ := ho
      have hOb := hO.ext (ext_alloc (ext_refl _) (.cells #[.slice ta 4 tc] 23))
      have hLb := OR.lit1 hT (Nat.le_refl _) (by omega)
      have hap : ∀ i j, i < 1 → j < 3 → ∀ p q, (fun _ : Nat => ta) i = some p → A' j = some q → p.block ≠ q.block := by
        intro i j _ hj p q hp hq
        have := hS j hj q hq
        simp only at hp
        subst hp
        simpa [Value.ownBlock] using this
      go_wp2_with (at_builtin; refine wpList_append_rows rfl _ _ 22 rfl Try.underlying22 info_ints _ w.heap.size _ _ 1 3 (fun _ => ta) A' (fun _ => 4) (fun _ => 4) (fun _ => tc) C' _ _ _ _ rfl hLb ⟨og, 0, none⟩ cc rfl hOb hap (by omega) (by simp; omega) ?_; intro a3 c3 w3 hO3 hg3)
      go_ret
      refine ⟨_, _, _, _, rfl, (hO3.congrL (fun i _ => joinA_const)).congr (fun i hi jj _ => ?_), Below.trans (ext_alloc hx _) (hg3.below (by simp; omega) (fun b hb => (hLb.top.lt b hb).1))⟩
      by_cases e : i < 1
      · rw [joinA_lt e, show i = 0 by omega]
      · rw [joinA_ge e, show i = i - 1 + 1 by omega]; rfl

set_option maxHeartbeats 3200000 in
theorem impl_Conf_5 (w : World) :
    Calls Try.prog 48 #[.int .i64 5] w (MakesR w 6 (fun _ => 6) (confF 1 5)) := by
  go_enter Try.func48, Try.ntmps48
  go_wp2
  go_loopg [4, 5, 23] 5 (fun g tv ov ii wr => ∃ (k : Nat) (ta : Option Addr) (tc : Nat) (q : Option Addr) (cc : Nat) (A' : Nat → Option Addr) (C' : Nat → Nat), k ≤ 5 ∧ g = 5 - k ∧ ii = .int .i64 k ∧ tv = .slice ta (k + 1) tc ∧ ov = .slice q k cc ∧ OI wr w.heap.size wr.heap.size (.slice ta (k + 1) tc) (k + 1) (confF 1 5 0) ∧ OR wr w.heap.size wr.heap.size (.slice q k cc) k A' (fun _ => 6) C' (fun i => confF 1 5 (i + 1)) ∧ (∀ i, i < k → ∀ b, A' i = some b → (Value.slice ta (k + 1) tc).ownBlock ≠ some b.block) ∧ Ext w wr)
  case atStart => exact ⟨0, some ⟨w.heap.size, 0, none⟩, 1, none, 0, fun _ => none, fun _ => 0, Nat.zero_le _, rfl, by go_num, rfl, rfl, (OI.lit w [.int .i64 0] _ 1 (by simp [maxLen]) (by simp [ints, conf_top0])).now, OR.nil _ _ _ _ _ _ _, fun i hi => by omega, (by repeat (first | (with_reducible exact ext_refl _) | (with_reducible refine ext_setCell ?_ ?_ _) | (with_reducible refine ext_alloc ?_ _) | (with_reducible refine ext_drewN ?_ _) | (with_reducible refine ext_drew ?_) | (with_reducible refine ext_trans ?_ (by assumption)) | (dsimp only; omega) | omega | (simp; omega)))⟩
  case round =>
    obtain ⟨k, ta, tc, q, cc, A', C', hk, rfl, rfl, rfl, rfl, hT, hO, hS, hx⟩ := hrel
    obtain ⟨wo_, rfl⟩ : ∃ wo_ : World, wo_ = wr := ⟨_, rfl⟩
    have hszo := ext_size hx
    rcases Nat.lt_or_ge k 5 with hlt | hge
    · have hlt' : (k : Int) < 5 := by omega
      have hTa := hT.ext (ext_alloc (ext_refl _) (.cells #[.int .i64 1] 3))
      have hOa := hO.ext (ext_alloc (ext_refl _) (.cells #[.int .i64 1] 3))
      go_wp2_with (at_builtin; refine wpList_push_int2 rfl _ _ 23 rfl Try.underlying23 info_int _ w.heap.size (k + 1) (confF 1 5 0) 1 _ _ _ rfl hTa ⟨wo_.heap.size, 0, none⟩ 1 rfl (cell_new1 _ _ _) conf_top (by omega) (by simp; omega) ?_; intro g1 c1 w1 hT1 hg1)
      have hO1 := hOa.grown hg1.1 (hOa.top_ne hTa) hS
      have hz1 : wo_.heap.size < w1.heap.size := by have q := hg1.1.size; simp at q; omega
      have hS1 : ∀ i, i < k → ∀ b, A' i = some b → (Value.slice (some ⟨g1, 0, none⟩) (k + 1 + 1) c1).ownBlock ≠ some b.block := by
        intro i hi b hb
        rcases hg1.2 with e | e
        · rw [e]; exact hS i hi b hb
        · intro e2
          have q1 := e _ e2
          have q2 := ((hO.row i hi).lt b hb).2.1
          simp at q1
          omega
      have hx1 : Ext w w1 := Below.trans (ext_alloc hx _) (hg1.below (by simp; omega) (fun b hb => (hTa.1.lt b hb).1))
      clear hg1 hTa hOa hS
      obtain ⟨ws_, hws⟩ : ∃ ws_ : World, ws_ = w1 := ⟨_, rfl⟩
      rw [← hws] at hT1 hO1 hz1 hx1
      rw [← hws]
      clear hws
      go_wp2
      go_loopg [7, 32] 5 (fun g lv jj wr => ∃ (j : Nat) (q2 : Option Addr) (cc2 : Nat), j ≤ 5 ∧ g = 5 - j ∧ jj = .int .i64 j ∧ lv = .slice q2 (j + 1) cc2 ∧ OI wr ws_.heap.size wr.heap.size (.slice q2 (j + 1) cc2) (j + 1) (confF 1 5 (k + 1)) ∧ Ext ws_ wr)
      case atStart => exact ⟨0, some ⟨ws_.heap.size, 0, none⟩, 1, Nat.zero_le _, rfl, by go_num, rfl, (OI.lit ws_ [.int .i64 1] _ 1 (by simp [maxLen]) (by simp [ints, conf_zero])).now, ext_alloc (ext_refl _) _⟩
      case round =>
        obtain ⟨j, q2, cc2, hj, rfl, rfl, rfl, hI, hx2⟩ := hrel
        have hsz2 := ext_size hx2
        rcases Nat.lt_or_ge j 5 with jlt | jge
        · have jlt' : (j : Int) < 5 := by omega
          go_wp2_with (first | (go_at_call 51; refine (impl_LegendreOf _ _ _).mono ?_; rintro e w' ⟨rfl, rfl⟩) | (at_builtin; refine wpList_push_int rfl _ _ 23 rfl Try.underlying23 info_int _ ws_.heap.size (j + 1) (confF 1 5 (k + 1)) (legI ((j : Int) - (k : Int)) 5) _ _ _ rfl (hI.ext (ext_alloc (ext_refl _) _)) ⟨wr.heap.size, 0, none⟩ 1 rfl (cell_new1 _ _ _) conf_in (by omega) (by simp; omega) ?_; intro g' c' w4 hO4 hb4))
          go_roundg (5 - (j + 1))
          case measure => omega
          case rel => exact ⟨j + 1, some ⟨g', 0, none⟩, c', by omega, rfl, by go_num, rfl, hO4, Below.trans (ext_alloc hx2 _) hb4⟩
        · obtain rfl : j = 5 := by omega
          have hTb := (hT1.ext hx2).ext (ext_alloc (ext_refl _) (.cells #[.slice q2 6 cc2] 23))
          have hOb := (hO1.ext hx2).ext (ext_alloc (ext_refl _) (.cells #[.slice q2 6 cc2] 23))
          have hLb := OR.lit1 (hI.mono (show w.heap.size ≤ ws_.heap.size by omega) (Nat.le_refl _)) (Nat.le_refl _) (by omega)
          have hap : ∀ i j, i < k → j < 1 → ∀ p q, A' i = some p → (fun _ : Nat => q2) j = some q → p.block ≠ q.block := by
            intro i j hi _ p q hp hq
            have b1 := ((hO1.row i hi).lt p hp).2.2
            have b2 := (hI.lt q hq).1
            omega
          go_wp2_with (at_builtin; refine wpList_append_rows rfl _ _ 22 rfl Try.underlying22 info_ints _ w.heap.size _ _ k 1 A' (fun _ => q2) (fun _ => 6) (fun _ => 6) C' (fun _ => cc2) _ _ _ _ rfl hOb ⟨wr.heap.size, 0, none⟩ 1 rfl hLb hap (by omega) (by simp; omega) ?_; intro a3 c3 w3 hO3 hg3)
          go_roundg (5 - (k + 1))
          case measure => omega
          case rel =>
            refine ⟨k + 1, some ⟨g1, 0, none⟩, c1, a3, c3, _, _, by omega, rfl, by go_num, rfl, rfl, (hTb.grown hg3.1 (fun b hb hv => hOb.top_ne hTb b hv hb)).now, (hO3.congrL (fun i _ => joinA_const)).congr (fun i hi jj _ => ?_), ?_, Below.trans hx1 (Below.trans (hx2.mono (by omega)) (Below.trans ((ext_alloc (ext_refl _) _).mono (by omega)) (hg3.below (by simp; omega) (fun b hb => (hOb.top.lt b hb).1))))⟩
            · by_cases e : i < k
              · rw [joinA_lt e]
              · rw [joinA_ge e, show i = k by omega]
            · intro i hi b hb
              by_cases e : i < k
              · rw [joinA_lt e] at hb; exact hS1 i e b hb
              · rw [joinA_ge e] at hb
                intro e2
                have b1 := (hT1.1.lt _ e2).2
                have b2 := (hI.lt b hb).1
                omega
    · obtain rfl : k = 5 := by omega
      obtain ⟨og, oc, ho⟩ := hO.form1
      simp only [Value.slice.injEq, true_and] at ho
      obtain ⟨rfl, rfl⟩ := ho
      have hOb := hO.ext (ext_alloc (ext_refl _) (.cells #[.slice ta 6 tc] 23))
      have hLb := OR.lit1 hT (Nat.le_refl _) (by omega)
      have hap : ∀ i j, i < 1 → j < 5 → ∀ p q, (fun _ : Nat => ta) i = some p → A' j = some q → p.block ≠ q.block := by
        intro i j _ hj p q hp hq
        have := hS j hj q hq
        simp only at hp
        subst hp
        simpa [Value.ownBlock] using this
      go_wp2_with (at_builtin; refine wpList_append_rows rfl _ _ 22 rfl Try.underlying22 info_ints _ w.heap.size _ _ 1 5 (fun _ => ta) A' (fun _ => 6) (fun _ => 6) (fun _ => tc) C' _ _ _ _ rfl hLb ⟨og, 0, none⟩ cc rfl hOb hap (by omega) (by simp; omega) ?_; intro a3 c3 w3 hO3 hg3)
      go_ret
      refine ⟨_, _, _, _, rfl, (hO3.congrL (fun i _ => joinA_const)).congr (fun i hi jj _ => ?_), Below.trans (ext_alloc hx _) (hg3.below (by simp; omega) (fun b hb => (hLb.top.lt b hb).1))⟩
      by_cases e : i < 1
      · rw [joinA_lt e, show i = 0 by omega]
      · rw [joinA_ge e, show i = i - 1 + 1 by omega]; rfl

set_option maxHeartbeats 3200000 in
theorem impl_Conf_7 (w : World) :
    Calls Try.prog 48 #[.int .i64 7] w (MakesR w 8 (fun _ => 8) (confF (-1) 7)) := by
  go_enter Try.func48, Try.ntmps48
  go_wp2
  go_loopg [4, 5, 23] 7 (fun g tv ov ii wr => ∃ (k : Nat) (ta : Option Addr) (tc : Nat) (q : Option Addr) (cc : Nat) (A' : Nat → Option Addr) (C' : Nat → Nat), k ≤ 7 ∧ g = 7 - k ∧ ii = .int .i64 k ∧ tv = .slice ta (k + 1) tc ∧ ov = .slice q k cc ∧ OI wr w.heap.size wr.heap.size (.slice ta (k + 1) tc) (k + 1) (confF (-1) 7 0) ∧ OR wr w.heap.size wr.heap.size (.slice q k cc) k A' (fun _ => 8) C' (fun i => confF (-1) 7 (i + 1)) ∧ (∀ i, i < k → ∀ b, A' i = some b → (Value.slice ta (k + 1) tc).ownBlock ≠ some b.block) ∧ Ext w wr)
  case atStart => exact ⟨0, some ⟨w.heap.size, 0, none⟩, 1, none, 0, fun _ => none, fun _ => 0, Nat.zero_le _, rfl, by go_num, rfl, rfl, (OI.lit w [.int .i64 0] _ 1 (by simp [maxLen]) (by simp [ints, conf_top0])).now, OR.nil _ _ _ _ _ _ _, fun i hi => by omega, (by repeat (first | (with_reducible exact ext_refl _) | (with_reducible refine ext_setCell ?_ ?_ _) | (with_reducible refine ext_alloc ?_ _) | (with_reducible refine ext_drewN ?_ _) | (with_reducible refine ext_drew ?_) | (with_reducible refine ext_trans ?_ (by assumption)) | (dsimp only; omega) | omega | (simp; omega)))⟩
  case round =>
    obtain ⟨k, ta, tc, q, cc, A', C', hk, rfl, rfl, rfl, rfl, hT, hO, hS, hx⟩ := hrel
    obtain ⟨wo_, rfl⟩ : ∃ wo_ : World, wo_ = wr := ⟨_, rfl⟩
    have hszo := ext_size hx
    rcases Nat.lt_or_ge k 7 with hlt | hge
    · have hlt' : (k : Int) < 7 := by omega
      have hTa := hT.ext (ext_alloc (ext_refl _) (.cells #[.int .i64 1] 3))
      have hOa := hO.ext (ext_alloc (ext_refl _) (.cells #[.int .i64 1] 3))
      go_wp2_with (at_builtin; refine wpList_push_int2 rfl _ _ 23 rfl Try.underlying23 info_int _ w.heap.size (k + 1) (confF (-1) 7 0) 1 _ _ _ rfl hTa ⟨wo_.heap.size, 0, none⟩ 1 rfl (cell_new1 _ _ _) conf_top (by omega) (by simp; omega) ?_; intro g1 c1 w1 hT1 hg1)
      have hO1 := hOa.grown hg1.1 (hOa.top_ne hTa) hS
      have hz1 : wo_.heap.size < w1.heap.size := by have q := hg1.1.size; simp at q; omega
      have hS1 : ∀ i, i < k → ∀ b, A' i = some b → (Value.slice (some ⟨g1, 0, none⟩) (k + 1 + 1) c1).ownBlock ≠ some b.block := by
        intro i hi b hb
        rcases hg1.2 with e | e
        · rw [e]; exact hS i hi b hb
        · intro e2
          have q1 := e _ e2
          have q2 := ((hO.row i hi).lt b hb).2.1
          simp at q1
          omega
      have hx1 : Ext w w1 := Below.trans (ext_alloc hx _) (hg1.below (by simp; omega) (fun b hb => (hTa.1.lt b hb).1))
      clear hg1 hTa hOa hS
      obtain ⟨ws_, hws⟩ : ∃ ws_ : World, ws_ = w1 := ⟨_, rfl⟩
      rw [← hws] at hT1 hO1 hz1 hx1
      rw [← hws]
      clear hws
      go_wp2
      go_loopg [7, 32] 7 (fun g lv jj wr => ∃ (j : Nat) (q2 : Option Addr) (cc2 : Nat), j ≤ 7 ∧ g = 7 - j ∧ jj = .int .i64 j ∧ lv = .slice q2 (j + 1) cc2 ∧ OI wr ws_.heap.size wr.heap.size (.slice q2 (j + 1) cc2) (j + 1) (confF (-1) 7 (k + 1)) ∧ Ext ws_ wr)
      case atStart => exact ⟨0, some ⟨ws_.heap.size, 0, none⟩, 1, Nat.zero_le _, rfl, by go_num, rfl, (OI.lit ws_ [.int .i64 (-1)] _ 1 (by simp [maxLen]) (by simp [ints, conf_zero])).now, ext_alloc (ext_refl _) _⟩
      case round =>
        obtain ⟨j, q2, cc2, hj, rfl, rfl, rfl, hI, hx2⟩ := hrel
        have hsz2 := ext_size hx2
        rcases Nat.lt_or_ge j 7 with jlt | jge
        · have jlt' : (j : Int) < 7 := by omega
          go_wp2_with (first | (go_at_call 51; refine (impl_LegendreOf _ _ _).mono ?_; rintro e w' ⟨rfl, rfl⟩) | (at_builtin; refine wpList_push_int rfl _ _ 23 rfl Try.underlying23 info_int _ ws_.heap.size (j + 1) (confF (-1) 7 (k + 1)) (legI ((j : Int) - (k : Int)) 7) _ _ _ rfl (hI.ext (ext_alloc (ext_refl _) _)) ⟨wr.heap.size, 0, none⟩ 1 rfl (cell_new1 _ _ _) conf_in (by omega) (by simp; omega) ?_; intro g' c' w4 hO4 hb4))
          go_roundg (7 - (j + 1))
          case measure => omega
          case rel => exact ⟨j + 1, some ⟨g', 0, none⟩, c', by omega, rfl, by go_num, rfl, hO4, Below.trans (ext_alloc hx2 _) hb4⟩
        · obtain rfl : j = 7 := by omega
          have hTb := (hT1.ext hx2).ext (ext_alloc (ext_refl _) (.cells #[.slice q2 8 cc2] 23))
          have hOb := (hO1.ext hx2).ext (ext_alloc (ext_refl _) (.cells #[.slice q2 8 cc2] 23))
          have hLb := OR.lit1 (hI.mono (show w.heap.size ≤ ws_.heap.size by omega) (Nat.le_refl _)) (Nat.le_refl _) (by omega)
          have hap : ∀ i j, i < k → j < 1 → ∀ p q, A' i = some p → (fun _ : Nat => q2) j = some q → p.block ≠ q.block := by
            intro i j hi _ p q hp hq
            have b1 := ((hO1.row i hi).lt p hp).2.2
            have b2 := (hI.lt q hq).1
            omega
          go_wp2_with (at_builtin; refine wpList_append_rows rfl _ _ 22 rfl Try.underlying22 info_ints _ w.heap.size _ _ k 1 A' (fun _ => q2) (fun _ => 8) (fun _ => 8) C' (fun _ => cc2) _ _ _ _ rfl hOb ⟨wr.heap.size, 0, none⟩ 1 rfl hLb hap (by omega) (by simp; omega) ?_; intro a3 c3 w3 hO3 hg3)
          go_roundg (7 - (k + 1))
          case measure => omega
          case rel =>
            refine ⟨k + 1, some ⟨g1, 0, none⟩, c1, a3, c3, _, _, by omega, rfl, by go_num, rfl, rfl, (hTb.grown hg3.1 (fun b hb hv => hOb.top_ne hTb b hv hb)).now, (hO3.congrL (fun i _ => joinA_const)).congr (fun i hi jj _ => ?_), ?_, Below.trans hx1 (Below.trans (hx2.mono (by omega)) (Below.trans ((ext_alloc (ext_refl _) _).mono (by omega)) (hg3.below (by simp; omega) (fun b hb => (hOb.top.lt b hb).1))))⟩
            · by_cases e : i < k
              · rw [joinA_lt e]
              · rw [joinA_ge e, show i = k by omega]
            · intro i hi b hb
              by_cases e : i < k
              · rw [joinA_lt e] at hb; exact hS1 i e b hb
              · rw [joinA_ge e] at hb
                intro e2
                have b1 := (hT1.1.lt _ e2).2
                have b2 := (hI.lt b hb).1
                omega
    · obtain rfl : k = 7 := by omega
      obtain ⟨og, oc, ho⟩ := hO.form1
      simp only [Value.slice.injEq, true_and] at ho
      obtain ⟨rfl, rfl⟩ := ho
      have hOb := hO.ext (ext_alloc (ext_refl _) (.cells #[.slice ta 8 tc] 23))
      have hLb := OR.lit1 hT (Nat.le_refl _) (by omega)
      have hap : ∀ i j, i < 1 → j < 7 → ∀ p q, (fun _ : Nat => ta) i = some p → A' j = some q → p.block ≠ q.block := by
        intro i j _ hj p q hp hq
        have := hS j hj q hq
        simp only at hp
        subst hp
        simpa [Value.ownBlock] using this
      go_wp2_with (at_builtin; refine wpList_append_rows rfl _ _ 22 rfl Try.underlying22 info_ints _ w.heap.size _ _ 1 7 (fun _ => ta) A' (fun _ => 8) (fun _ => 8) (fun _ => tc) C' _ _ _ _ rfl hLb ⟨og, 0, none⟩ cc rfl hOb hap (by omega) (by simp; omega) ?_; intro a3 c3 w3 hO3 hg3)
      go_ret
      refine ⟨_, _, _, _, rfl, (hO3.congrL (fun i _ => joinA_const)).congr (fun i hi jj _ => ?_), Below.trans (ext_alloc hx _) (hg3.below (by simp; omega) (fun b hb => (hLb.top.lt b hb).1))⟩
      by_cases e : i < 1
      · rw [joinA_lt e, show i = 0 by omega]
      · rw [joinA_ge e, show i = i - 1 + 1 by omega]; rfl

set_option maxHeartbeats 800000 in
theorem impl_ConferenceMatrix (p : Int) (w : World) :
    Calls Try.prog 48 #[.int .i64 p] w (MakesR w (confN p) (fun _ => confN p) (confI p)) := by
  by_cases h3 : p = 3
  · subst h3; exact impl_Conf_3 w
  · by_cases h5 : p = 5
    · subst h5; exact impl_Conf_5 w
    · by_cases h7 : p = 7
      · subst h7; exact impl_Conf_7 w
      · have HN := Lib.hid (show confN p = 0 by simp only [confN, if_neg h3, if_neg h5, if_neg h7])
        have b3 : (p != 3) = true := by simp [h3]
        have b5 : (p != 5) = true := by simp [h5]
        have b7 : (p != 7) = true := by simp [h7]
        rw [HN.out]
        go_enter Try.func48, Try.ntmps48
        go_wp2
        go_ret
        exact ⟨none, 0, fun _ => none, fun _ => 0, rfl, OR.nil _ _ _ _ _ _ _, ext_refl _⟩
theorem confN_le (p : Int) : confN p ≤ 8 := by unfold confN; split <;> (try split) <;> (try split) <;> omega
theorem conf_off (p : Int) : off (fun _ => confN p) (confN p) ≤ 64 := by
  rw [off_const]
  have h := confN_le p
  exact Nat.le_trans (Nat.mul_le_mul h h) (by omega)
end Go.Proofs.Ytefgdkjcoeikmaa
