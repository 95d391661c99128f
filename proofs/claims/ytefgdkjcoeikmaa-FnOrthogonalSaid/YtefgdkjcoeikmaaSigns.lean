/- The draw of sign matrices (seat D). No condition but those of each contract. -/
import Derived.Test.YtefgdkjcoeikmaaDrawC
import Derived.Test.YtefgdkjcoeikmaaTurn
import Derived.Test.YtefgdkjcoeikmaaConf1
import Derived.Test.YtefgdkjcoeikmaaSyl1
namespace Go.Proofs.Ytefgdkjcoeikmaa
open Go.ChangeShapes Go.WideShapes Go.ChangeAt Go.RowKit
set_option linter.unusedVariables false
set_option linter.unusedSimpArgs false

/-! ### two rows exchanged -/
def sw (i j p : Nat) : Nat := if p = j then i else if p = i then j else p
theorem sw_lt {n i j p : Nat} (hi : i < n) (hj : j < n) (hp : p < n) : sw i j p < n := by unfold sw; split <;> (try split) <;> omega
theorem sw_inj {i j p q : Nat} (h : p ≠ q) : sw i j p ≠ sw i j q := by unfold sw; split <;> split <;> (try split) <;> (try split) <;> omega
theorem OR.swap {w : World} {lo hi n g cap i j : Nat} {A : Nat → Option Addr} {L C : Nat → Nat} {X : Nat → Nat → Int} (h : OR w lo hi (.slice (some ⟨g, 0, none⟩) n cap) n A L C X) (hi_ : i < n) (hj : j < n) :
    OR ((w.setCell ⟨g, i, none⟩ (.slice (A j) (L j) (C j))).setCell ⟨g, j, none⟩ (.slice (A i) (L i) (C i))) lo hi (.slice (some ⟨g, 0, none⟩) n cap) n (fun p => A (sw i j p)) (fun p => L (sw i j p)) (fun p => C (sw i j p)) (fun p => X (sw i j p)) := by
  obtain ⟨g1, g2, cur, g3, g4, g5⟩ := h.outer_ne
  have ho : OnlyAt (some ⟨g, 0, none⟩) w ((w.setCell ⟨g, i, none⟩ (.slice (A j) (L j) (C j))).setCell ⟨g, j, none⟩ (.slice (A i) (L i) (C i))) := ((OnlyAt.refl _ _).setCell _ _).setCell _ _
  have hkeep : ∀ (a : Option Addr) (m c l h' : Nat) (Y : Nat → Int), OI w l h' (.slice a m c) m Y → OI ((w.setCell ⟨g, i, none⟩ (.slice (A j) (L j) (C j))).setCell ⟨g, j, none⟩ (.slice (A i) (L i) (C i))) l h' (.slice a m c) m Y := by
    intro a m c l h' Y hO
    refine hO.only ho ?_
    intro p q hp hq
    simp only [Option.some.injEq] at hq
    subst hq
    exact hO.blockType g3 (by decide) p hp
  refine ⟨?_, fun b hb => h.bound b hb, fun p hp => hkeep _ _ _ _ _ _ (h.row _ (sw_lt hi_ hj hp)), fun p q hp hq hpq => h.apart _ _ (sw_lt hi_ hj hp) (sw_lt hi_ hj hq) (sw_inj hpq)⟩
  have s1 := (World.ownsRow.stored h.top i (.slice (A j) (L j) (C j))).1
  rw [rowsV_set] at s1
  have s2 := (World.ownsRow.stored s1 j (.slice (A i) (L i) (C i))).1
  rw [rowsV_set] at s2
  rw [rowsV_congr (A' := fun p => A (sw i j p)) (L' := fun p => L (sw i j p)) (C' := fun p => C (sw i j p)) (fun p hp => by unfold sw; refine ⟨?_, ?_, ?_⟩ <;> split <;> (try split) <;> rfl)] at s2
  exact s2
theorem OR.frozen2 {w : World} {lo hi n g cap i j : Nat} {A : Nat → Option Addr} {L C : Nat → Nat} {X : Nat → Nat → Int} (h : OR w lo hi (.slice (some ⟨g, 0, none⟩) n cap) n A L C X) (v : Value) : (w.setCell ⟨g, i, none⟩ v).frozen? ⟨g, j, none⟩ = false :=
  World.ownsRow.frozenAt (World.ownsRow.stored h.top i v).1 j

theorem OR.cell2 {w : World} {lo hi n g cap i j : Nat} {A : Nat → Option Addr} {L C : Nat → Nat} {X : Nat → Nat → Int} (h : OR w lo hi (.slice (some ⟨g, 0, none⟩) n cap) n A L C X) (hj : j < n) (v : Value) : ∃ y, (w.setCell ⟨g, i, none⟩ v).cell? ⟨g, j, none⟩ = some y := by
  rw [World.ownsRow.cellAt (World.ownsRow.stored h.top i v).1 j (by omega)]
  exact ⟨_, List.getElem?_eq_getElem (by simp [rowsV]; exact hj)⟩

def In1 (n : Nat) (X : Nat → Nat → Int) : Prop := ∀ i, i < n → ∀ j, j < n → -1 ≤ X i j ∧ X i j ≤ 1
theorem In1.turn {n : Nat} {X : Nat → Nat → Int} (h : In1 n X) (i : Nat) (hi : i < n) : In1 n (fun p => if p = i then fun j => - X i j else X p) := by
  intro p hp j hj
  by_cases e : p = i
  · simp only [e, if_true]; have := h i hi j hj; omega
  · simp only [e, if_false]; exact h p hp j hj
theorem In1.swap {n : Nat} {X : Nat → Nat → Int} (h : In1 n X) {i j : Nat} (hi : i < n) (hj : j < n) : In1 n (fun p => X (sw i j p)) := fun p hp q hq => h _ (sw_lt hi hj hp) q hq
theorem In1.syl {k : Int} {m : Nat} : In1 m (sylF k.toNat) := fun i _ j _ => sylS_bound i j _
theorem legI_in (a p : Int) : -1 ≤ legI a p ∧ legI a p ≤ 1 := by
  unfold legI legR; split <;> (try split) <;> (try split) <;> omega
theorem In1.conf {p : Int} {m : Nat} : In1 m (confI p) := by
  intro i _ j _
  unfold confI confF
  have := legI_in ((j : Int) - (i : Int)) p
  repeat' split
  all_goals first | omega | exact legI_in _ _

set_option maxHeartbeats 12800000 in
set_option maxRecDepth 100000 in
theorem l23Signs_c (g : Nat) (w : World) (h : Cur w g) :
    Calls Try.prog 82 #[.pointer (some ⟨g, 0, none⟩)] w fun e w' => ∃ (n : Nat) (sa : Option Addr) (sc : Nat) (A : Nat → Option Addr) (C : Nat → Nat) (X : Nat → Nat → Int), 1 ≤ n ∧ n ≤ 8 ∧ e = .returned (.slice sa n sc) ∧ OR w' w.heap.size w'.heap.size (.slice sa n sc) n A (fun _ => n) C X ∧ In1 n X ∧ Cur w' g ∧ Drew g w w' := by
  have hg0 := h.lt
  go_enter Try.func82, Try.ntmps82
  go_wp2_with fail
  refine (l01Below_c g 3 _ (h.ext (ext_alloc (ext_refl _) _)) (by omega) (by omega)).mono ?_
  rintro e w1 ⟨x, hx, rfl, hc1, hw1⟩
  have hz1 := hw1.size
  (try simp at hz1)
  have hd1 : Drew g w w1 := (Drew.ext (ext_alloc (ext_refl w) _)).within hw1
  obtain rfl | rfl | rfl : x = 0 ∨ x = 1 ∨ x = 2 := by omega
  · go_wp2_with fail
    refine (l01Below_c g 5 _ hc1 (by omega) (by omega)).mono ?_
    rintro e w2 ⟨n1, hn1, rfl, hc2, hw2⟩
    have hz2 := hw2.size
    obtain ⟨n, hn⟩ : ∃ n : Nat, n = 1 + n1 := ⟨_, rfl⟩
    have hn' : (1 : Int) + n1 = n := by omega
    obtain ⟨hna, hnb⟩ : 1 ≤ n ∧ n ≤ 5 := by omega
    clear hn
    have hO0 := ((OR.empty w (fun _ => none) (fun _ => n) (fun _ => 0) (fun _ _ => 0)).within hw1 (.inr (by omega))).within hw2 (.inr (by omega))
    rw [← hz1, ← hz2] at hO0
    have hd2 : Drew g w w2 := hd1.within hw2
    go_wp2_with fail
    clear hn'
    go_loopg [3, 5] n (fun gk o i wr => ∃ (k : Nat) (sa : Option Addr) (sc : Nat) (A' : Nat → Option Addr) (C' : Nat → Nat) (X : Nat → Nat → Int), k ≤ n ∧ gk = n - k ∧ o = .slice sa k sc ∧ i = .int .i64 k ∧ OR wr w.heap.size wr.heap.size (.slice sa k sc) k A' (fun _ => n) C' X ∧ (∀ i, i < k → ∀ j, j < n → -1 ≤ X i j ∧ X i j ≤ 1) ∧ Cur wr g ∧ Drew g w wr)
    · exact ⟨0, _, _, _, _, _, Nat.zero_le _, by omega, rfl, by go_num, hO0, fun i hi => by omega, hc2, hd2⟩
    · obtain ⟨k, sa, sc, A', C', X, h1, h2, rfl, rfl, hO, hX, hc, hd⟩ := hrel
      obtain ⟨wo_, rfl⟩ : ∃ wo_ : World, wo_ = wr := ⟨_, rfl⟩
      have hs := hd.size
      rcases Nat.lt_or_ge k n with hlt | hge
      · have q1 : (k : Int) < n := by omega
        go_wp2_with fail
        refine (l03Load_d g n (by omega) _ hc).mono ?_
        rintro e w3 ⟨ra, rc, Y, rfl, hI, hY, hc3, hd3⟩
        have hs3 := hd3.size
        have hO3 := hO.drewn hd3 (by omega) (Nat.le_refl _)
        obtain ⟨Z, z1, z2, z3⟩ : ∃ Z : Nat → Nat → Int, Z k = Y ∧ (∀ i, i < k → Z i = X i) ∧ (∀ i, i < k + 1 → ∀ j, j < n → -1 ≤ Z i j ∧ Z i j ≤ 1) := by
          refine ⟨fun i => if i = k then Y else X i, by simp, fun i hi => by simp [show ¬ i = k by omega], fun i hi j hj => ?_⟩
          by_cases he : i = k
          · simp [he]; exact hY j hj
          · simp [he]; exact hX i (by omega) j hj
        have hIz : OI w3 wo_.heap.size w3.heap.size (.slice ra n rc) n (Z k) := by rw [z1]; exact hI
        have hOz := hO3.congr (Y := Z) (fun i hi j _ => by rw [z2 i hi])
        clear z1 z2 hI hO3
        go_wp2_with (at_builtin; refine wpList_push_row rfl _ _ 22 rfl Try.underlying22 info_ints _ w.heap.size wo_.heap.size k A' (fun _ => n) C' Z ra rc _ _ _ rfl (hOz.ext (ext_alloc (ext_refl _) _)) (hIz.ext (ext_alloc (ext_refl _) _)) ⟨w3.heap.size, 0, none⟩ 1 rfl (cell_new1 _ _ _) (by omega) (by omega) (by simp; omega) ?_; intro g' c' A'' C'' w5 hO5 hb5)
        go_roundg (n - (k + 1))
        case measure => omega
        case rel => exact ⟨k + 1, some ⟨g', 0, none⟩, c', A'', C'', Z, by omega, rfl, rfl, by go_num, hO5, z3, (hc3.ext (ext_alloc (ext_refl _) _)).below hb5 hg0, (hd.trans hd3).then_below (Below.trans ((ext_alloc (ext_refl _) _).mono (by omega)) hb5)⟩
      · obtain rfl : n = k := by omega
        go_wp2_with fail
        go_ret
        exact ⟨n, sa, sc, A', C', X, hna, by omega, rfl, hO, hX, hc, hd⟩
  · go_wp2_with fail
    refine (l01Below_c g 4 _ hc1 (by omega) (by omega)).mono ?_
    rintro e w2 ⟨kk, hk, rfl, hc2, hw2⟩
    have hz2 := hw2.size
    have hd2 : Drew g w w2 := hd1.within hw2
    go_wp2_with fail
    refine (spec_SylvesterMatrix kk w2).mono ?_
    obtain ⟨n, hn⟩ : ∃ n, n = sylN kk := ⟨_, rfl⟩
    have hnb : 1 ≤ n ∧ n ≤ 8 := by
      rw [hn]
      obtain rfl | rfl | rfl | rfl : kk = 0 ∨ kk = 1 ∨ kk = 2 ∨ kk = 3 := by omega
      all_goals decide
    rw [← hn]
    clear hn
    rintro e w3 ⟨sa, sc, A, C, rfl, hO3, hx3⟩
    have hX3 : In1 n (sylF (kk : Int).toNat) := In1.syl
    generalize sylF (kk : Int).toNat = X at hO3 hX3
    have hO3 := hO3.mono (show w.heap.size ≤ w2.heap.size by omega) (Nat.le_refl _)
    have hc3 := hc2.ext hx3
    have hd3 := hd2.trans (Drew.ext hx3)
    have hs3 := hd3.size
    go_wp2_with fail
    refine (l01Below_c g 4 _ hc3 (by omega) (by omega)).mono ?_
    rintro e w4 ⟨y, hy, rfl, hc4, hw4⟩
    have hz4 := hw4.size
    have hO4 := (hO3.within hw4 (.inr (by omega))).now
    have hd4 := hd3.within hw4
    obtain ⟨gm, rfl, gm1, gm2, gm3⟩ := hO4.head (by omega)
    have HGM := Lib.hid gm1
    clear hO3 hc3 hd3
    go_wp2_with fail
    go_loopg [7] y (fun gk k wr => ∃ (t : Nat) (A : Nat → Option Addr) (C : Nat → Nat) (X : Nat → Nat → Int), t ≤ y ∧ t = gk ∧ k = .int .i64 t ∧ OR wr w.heap.size wr.heap.size (.slice (some ⟨gm, 0, none⟩) n sc) n A (fun _ => n) C X ∧ In1 n X ∧ Cur wr g ∧ Drew g w wr)
    · exact ⟨y, _, _, _, Nat.le_refl _, rfl, rfl, hO4, hX3, hc4, hd4⟩
    · clear hO4 hX3 hc4 hd4
      obtain ⟨t, A, C, X, ht, rfl, rfl, hO, hX, hc, hd⟩ := hrel
      obtain ⟨wo_, rfl⟩ : ∃ wo_ : World, wo_ = wr := ⟨_, rfl⟩
      have hs := hd.size
      rcases Nat.lt_or_ge 0 t with tlt | tge
      · have t1 : (0 : Int) < t := by omega
        go_wp2_with fail
        refine (l01Below_c g n _ hc (by omega) (by omega)).mono ?_
        rintro e w5 ⟨i, hi, rfl, hc5, hw5⟩
        have hz5 := hw5.size
        have i1 : (i : Int) < n := by omega
        have hO5 := hO.within hw5 (.inr (by omega))
        have e1 := hO5.cell hi
        have hr5 := (hO5.row i hi).reads
        have hd5 := hd.within hw5
        go_wp2_with fail
        refine (spec_TurnLoad _ _ _ _ _ hr5 (by omega) (fun j hj => hX i hi j hj)).mono ?_
        rintro e w6 ⟨ra, rc, rfl, hI6, hx6⟩
        have hs6 := ext_size hx6
        have hO6 := hO5.ext hx6
        have f1 := hO6.frozen i
        have e3 := hO6.cell hi
        obtain ⟨A2, C2, X2, hO7, hX7⟩ : ∃ (A2 : Nat → Option Addr) (C2 : Nat → Nat) (X2 : Nat → Nat → Int), OR (w6.setCell ⟨gm, i, none⟩ (.slice ra n rc)) w.heap.size w6.heap.size (.slice (some ⟨gm, 0, none⟩) n sc) n A2 (fun _ => n) C2 X2 ∧ In1 n X2 :=
          ⟨_, _, _, ((OR.put (k := i) (hO6.mono (Nat.le_refl _) (by omega)) hI6 (by omega) hs6).congrL (fun p _ => by simp)), hX.turn i hi⟩
        have hc7 : Cur (w6.setCell ⟨gm, i, none⟩ (.slice ra n rc)) g := (hc5.ext hx6).below ((Below.refl _ _).setCell HGM.out _) hg0
        have hd7 : Drew g w (w6.setCell ⟨gm, i, none⟩ (.slice ra n rc)) := (hd5.trans (Drew.ext hx6)).then_below ((Below.refl _ _).setCell HGM.out _)
        have hz7 : (w6.setCell ⟨gm, i, none⟩ (.slice ra n rc)).heap.size = w6.heap.size := by simp
        have HZ7 := Lib.hid hz7
        have hO7' := hO7.now
        clear hz7 hO5 hO6 hI6 hr5 hO7 hc hd hc5 hd5 hO
        go_wp2_with fail
        clear f1 e1 e3
        generalize w6.setCell ⟨gm, i, none⟩ (.slice ra n rc) = w7 at hO7' hc7 hd7 HZ7 ⊢
        refine (l01Below_c g n _ hc7 (by omega) (by omega)).mono ?_
        rintro e w8 ⟨j, hj, rfl, hc8, hw8⟩
        have hz8 := hw8.size
        have hs7 := hd7.size
        have j1 : (j : Int) < n := by omega
        have hO8 := (hO7'.within hw8 (.inr (by omega))).now
        have hd8 := hd7.within hw8
        have e1 := hO8.cell hi
        have e2 := hO8.cell hj
        have f1 := hO8.frozen i
        have f2 := hO8.frozen2 (i := i) (j := j) (.slice (A2 j) n (C2 j))
        obtain ⟨y2, e3⟩ := hO8.cell2 (i := i) hj (.slice (A2 j) n (C2 j))
        have hO9 := (hO8.swap hi hj).now
        have hB9 : Below w.heap.size w8 ((w8.setCell ⟨gm, i, none⟩ (.slice (A2 j) n (C2 j))).setCell ⟨gm, j, none⟩ (.slice (A2 i) n (C2 i))) := ((Below.refl _ _).setCell HGM.out _).setCell HGM.out _
        have hc9 := hc8.below hB9 hg0
        have hd9 := hd8.then_below hB9
        clear hO7' hO8 hc7 hc8 hd7 hd8 hz8
        go_wp2_with fail
        clear e1 e2 e3 f1 f2
        go_roundg (t - 1)
        case measure => omega
        case rel => exact ⟨t - 1, _, _, _, by omega, rfl, by go_num, hO9, hX7.swap hi hj, hc9, hd9⟩
      · obtain rfl : t = 0 := by omega
        go_wp2_with fail
        go_ret
        exact ⟨n, _, sc, A, C, X, by omega, by omega, rfl, hO, hX, hc, hd⟩
  · go_wp2_with fail
    refine (l01Below_c g 3 _ hc1 (by omega) (by omega)).mono ?_
    rintro e w2 ⟨kk, hk, rfl, hc2, hw2⟩
    have hz2 := hw2.size
    have hd2 : Drew g w w2 := hd1.within hw2
    go_wp2_with fail
    refine (spec_ConferenceMatrix (3 + 2 * (kk : Int)) w2).mono ?_
    obtain ⟨n, hn⟩ : ∃ n, n = confN (3 + 2 * (kk : Int)) := ⟨_, rfl⟩
    have hnb : 1 ≤ n ∧ n ≤ 8 := by
      rw [hn]
      obtain rfl | rfl | rfl : kk = 0 ∨ kk = 1 ∨ kk = 2 := by omega
      all_goals decide
    rw [← hn]
    clear hn
    rintro e w3 ⟨sa, sc, A, C, rfl, hO3, hx3⟩
    have hX3 : In1 n (confI (3 + 2 * (kk : Int))) := In1.conf
    generalize confI (3 + 2 * (kk : Int)) = X at hO3 hX3
    have hO3 := hO3.mono (show w.heap.size ≤ w2.heap.size by omega) (Nat.le_refl _)
    have hc3 := hc2.ext hx3
    have hd3 := hd2.trans (Drew.ext hx3)
    have hs3 := hd3.size
    go_wp2_with fail
    refine (l01Below_c g 4 _ hc3 (by omega) (by omega)).mono ?_
    rintro e w4 ⟨y, hy, rfl, hc4, hw4⟩
    have hz4 := hw4.size
    have hO4 := (hO3.within hw4 (.inr (by omega))).now
    have hd4 := hd3.within hw4
    obtain ⟨gm, rfl, gm1, gm2, gm3⟩ := hO4.head (by omega)
    have HGM := Lib.hid gm1
    clear hO3 hc3 hd3
    go_wp2_with fail
    go_loopg [7] y (fun gk k wr => ∃ (t : Nat) (A : Nat → Option Addr) (C : Nat → Nat) (X : Nat → Nat → Int), t ≤ y ∧ t = gk ∧ k = .int .i64 t ∧ OR wr w.heap.size wr.heap.size (.slice (some ⟨gm, 0, none⟩) n sc) n A (fun _ => n) C X ∧ In1 n X ∧ Cur wr g ∧ Drew g w wr)
    · exact ⟨y, _, _, _, Nat.le_refl _, rfl, rfl, hO4, hX3, hc4, hd4⟩
    · clear hO4 hX3 hc4 hd4
      obtain ⟨t, A, C, X, ht, rfl, rfl, hO, hX, hc, hd⟩ := hrel
      obtain ⟨wo_, rfl⟩ : ∃ wo_ : World, wo_ = wr := ⟨_, rfl⟩
      have hs := hd.size
      rcases Nat.lt_or_ge 0 t with tlt | tge
      · have t1 : (0 : Int) < t := by omega
        go_wp2_with fail
        refine (l01Below_c g n _ hc (by omega) (by omega)).mono ?_
        rintro e w5 ⟨i, hi, rfl, hc5, hw5⟩
        have hz5 := hw5.size
        have i1 : (i : Int) < n := by omega
        have hO5 := hO.within hw5 (.inr (by omega))
        have e1 := hO5.cell hi
        have hr5 := (hO5.row i hi).reads
        have hd5 := hd.within hw5
        go_wp2_with fail
        refine (spec_TurnLoad _ _ _ _ _ hr5 (by omega) (fun j hj => hX i hi j hj)).mono ?_
        rintro e w6 ⟨ra, rc, rfl, hI6, hx6⟩
        have hs6 := ext_size hx6
        have hO6 := hO5.ext hx6
        have f1 := hO6.frozen i
        have e3 := hO6.cell hi
        obtain ⟨A2, C2, X2, hO7, hX7⟩ : ∃ (A2 : Nat → Option Addr) (C2 : Nat → Nat) (X2 : Nat → Nat → Int), OR (w6.setCell ⟨gm, i, none⟩ (.slice ra n rc)) w.heap.size w6.heap.size (.slice (some ⟨gm, 0, none⟩) n sc) n A2 (fun _ => n) C2 X2 ∧ In1 n X2 :=
          ⟨_, _, _, ((OR.put (k := i) (hO6.mono (Nat.le_refl _) (by omega)) hI6 (by omega) hs6).congrL (fun p _ => by simp)), hX.turn i hi⟩
        have hc7 : Cur (w6.setCell ⟨gm, i, none⟩ (.slice ra n rc)) g := (hc5.ext hx6).below ((Below.refl _ _).setCell HGM.out _) hg0
        have hd7 : Drew g w (w6.setCell ⟨gm, i, none⟩ (.slice ra n rc)) := (hd5.trans (Drew.ext hx6)).then_below ((Below.refl _ _).setCell HGM.out _)
        have hz7 : (w6.setCell ⟨gm, i, none⟩ (.slice ra n rc)).heap.size = w6.heap.size := by simp
        have HZ7 := Lib.hid hz7
        have hO7' := hO7.now
        clear hz7 hO5 hO6 hI6 hr5 hO7 hc hd hc5 hd5 hO
        go_wp2_with fail
        clear f1 e1 e3
        generalize w6.setCell ⟨gm, i, none⟩ (.slice ra n rc) = w7 at hO7' hc7 hd7 HZ7 ⊢
        refine (l01Below_c g n _ hc7 (by omega) (by omega)).mono ?_
        rintro e w8 ⟨j, hj, rfl, hc8, hw8⟩
        have hz8 := hw8.size
        have hs7 := hd7.size
        have j1 : (j : Int) < n := by omega
        have hO8 := (hO7'.within hw8 (.inr (by omega))).now
        have hd8 := hd7.within hw8
        have e1 := hO8.cell hi
        have e2 := hO8.cell hj
        have f1 := hO8.frozen i
        have f2 := hO8.frozen2 (i := i) (j := j) (.slice (A2 j) n (C2 j))
        obtain ⟨y2, e3⟩ := hO8.cell2 (i := i) hj (.slice (A2 j) n (C2 j))
        have hO9 := (hO8.swap hi hj).now
        have hB9 : Below w.heap.size w8 ((w8.setCell ⟨gm, i, none⟩ (.slice (A2 j) n (C2 j))).setCell ⟨gm, j, none⟩ (.slice (A2 i) n (C2 i))) := ((Below.refl _ _).setCell HGM.out _).setCell HGM.out _
        have hc9 := hc8.below hB9 hg0
        have hd9 := hd8.then_below hB9
        clear hO7' hO8 hc7 hc8 hd7 hd8 hz8
        go_wp2_with fail
        clear e1 e2 e3 f1 f2
        go_roundg (t - 1)
        case measure => omega
        case rel => exact ⟨t - 1, _, _, _, by omega, rfl, by go_num, hO9, hX7.swap hi hj, hc9, hd9⟩
      · obtain rfl : t = 0 := by omega
        go_wp2_with fail
        go_ret
        exact ⟨n, _, sc, A, C, X, by omega, by omega, rfl, hO, hX, hc, hd⟩

set_option maxHeartbeats 800000 in
theorem spec_DrawSigns (a : Option Addr) (n0 c : Nat) (X0 : Nat → Int) (w : World) (h : BytesAt w a n0 X0) (hn : n0 ≤ 1048576) :
    Calls Try.prog 44 #[.slice a n0 c] w fun e w' => ∃ (n : Nat) (sa : Option Addr) (sc : Nat) (A : Nat → Option Addr) (C : Nat → Nat) (X : Nat → Nat → Int), 1 ≤ n ∧ n ≤ 8 ∧ e = .returned (.slice sa n sc) ∧ RowsAt w' sa n A (fun _ => n) C X ∧ In1 n X ∧ Ext w w' := by
  go_enter Try.func44, Try.ntmps44
  go_wp2_with fail
  refine (l01New_c _ _ _ _ _ h hn).mono ?_
  rintro e w1 ⟨g, rfl, hc1, hg, hx1⟩
  have hg1 := hc1.lt
  go_wp2_with fail
  refine (l23Signs_c g _ hc1).mono ?_
  rintro e w2 ⟨n, sa, sc, A, C, X, n1, n2, rfl, hO, hX, hc2, hd2⟩
  go_wp2_with fail
  go_ret
  exact ⟨n, sa, sc, A, C, X, n1, n2, rfl, hO.rows, hX, Below.trans hx1 ((hd2.below (by omega)).mono hg)⟩
end Go.Proofs.Ytefgdkjcoeikmaa
