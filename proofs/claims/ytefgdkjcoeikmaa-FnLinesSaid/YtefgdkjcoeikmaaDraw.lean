/- The draws of the statements: a cursor over bytes, a byte, a number below a bound. No condition but those of each contract. -/
import Derived.Test.YtefgdkjcoeikmaaRows
import Derived.Test.YtefgdkjcoeikmaaMem
import Derived.Test.YtefgdkjcoeikmaaMath
import Derived.Laws.BitsAllLaws
import Derived.Test.YtefgdkjcoeikmaaList1
import Derived.WalkSpells
namespace Go.Proofs.Ytefgdkjcoeikmaa
open Go.ChangeShapes Go.WideShapes Go.ChangeAt Go.RowKit
set_option linter.unusedVariables false
set_option linter.unusedSimpArgs false

/-- block g is a cursor over bytes that came in -/
def Cur (w : World) (g : Nat) : Prop := ∃ (a : Option Addr) (n c i : Nat) (h : Int) (X : Nat → Int), n ≤ 1048576 ∧ BytesAt w a n X ∧ (0 < n → ∀ b off, a = some ⟨b, off, none⟩ → b < g) ∧ w.heap[g]? = some (.cells #[.slice a n c, .int .i64 i, .int .i64 h] 81 (0, 0)) ∧ i ≤ n
theorem Cur.ext {w w' : World} {g : Nat} (h : Cur w g) (e : Ext w w') : Cur w' g := by
  obtain ⟨a, n, c, i, hh, X, h1, h2, h0, h3, h4⟩ := h
  exact ⟨a, n, c, i, hh, X, h1, h2.ext e, h0, ext_heap e h3, h4⟩
theorem Cur.below {w w' : World} {g B : Nat} (h : Cur w g) (e : Below B w w') (hb : g < B) : Cur w' g := by
  obtain ⟨a, n, c, i, hh, X, h1, h2, h0, h3, h4⟩ := h
  refine ⟨a, n, c, i, hh, X, h1, fun hn => ?_, h0, (e.block g hb).trans h3, h4⟩
  obtain ⟨b, off, ha, hc⟩ := h2 hn
  refine ⟨b, off, ha, fun k hk => ⟨?_, (hc k hk).2⟩⟩
  have := h0 hn b off ha
  rw [World.cell?_of_block (w := w) (a := ⟨b, off + k, none⟩) (e.block b (by omega))]
  exact (hc k hk).1
theorem Cur.lt {w : World} {g : Nat} (h : Cur w g) : g < w.heap.size := by
  obtain ⟨a, n, c, i, hh, X, h1, h2, h0, h3, h4⟩ := h
  exact (Array.getElem?_eq_some_iff.1 h3).1
theorem BytesAt.at_ {w : World} {a : Option Addr} {n k : Nat} {X : Nat → Int} (h : BytesAt w a n X) (hk : k < n) :
    ∃ b off, a = some ⟨b, off, none⟩ ∧ w.cell? ⟨b, off + k, none⟩ = some (.int .u8 (X k)) ∧ 0 ≤ X k ∧ X k ≤ 255 := by
  obtain ⟨b, off, ha, hc⟩ := h (by omega)
  exact ⟨b, off, ha, (hc k hk).1, (hc k hk).2⟩
/-- the bytes lie elsewhere -/
theorem bytes_apart {w : World} {g b off n : Nat} {a' : Option Addr} {m c : Nat} {i h : Int} {X : Nat → Int} (hg : w.heap[g]? = some (.cells #[.slice a' m c, .int .i64 i, .int .i64 h] 81 (0, 0)))
    (hc : w.cell? ⟨b, off, none⟩ = some (.int .u8 (X n))) : b ≠ g := by
  rintro rfl
  rw [cell_of_row w b off _ _ (0, 0) hg] at hc
  match off, hc with
  | 0, hc => simp at hc
  | 1, hc => simp at hc
  | 2, hc => simp at hc
  | k + 3, hc => simp at hc
theorem BytesAt.within {w w' : World} {a : Option Addr} {n g : Nat} {X : Nat → Int} (h : BytesAt w a n X) (e : Within g (g + 1) w w') (hb : 0 < n → ∀ b off, a = some ⟨b, off, none⟩ → b ≠ g) : BytesAt w' a n X := fun hn => by
  obtain ⟨b, off, ha, hc⟩ := h hn
  refine ⟨b, off, ha, fun i hi => ⟨?_, (hc i hi).2⟩⟩
  have := hb hn b off ha
  rw [World.cell?_of_block (w := w) (a := ⟨b, off + i, none⟩) (e.block b (by omega))]
  exact (hc i hi).1
theorem heap_last (w : World) (o : Obj) : (w.alloc o).heap[w.heap.size]? = some o := by
  show (w.heap.push o)[w.heap.size]? = some o
  simp
theorem bytes_lt {w : World} {a : Option Addr} {n : Nat} {X : Nat → Int} (h : BytesAt w a n X) : 0 < n → ∀ b off, a = some ⟨b, off, none⟩ → b < w.heap.size := by
  intro hn b off ha
  obtain ⟨b', off', ha', hc⟩ := h hn
  rw [ha] at ha'; cases ha'
  exact World.block_lt_of_cell? _ _ (hc 0 hn).1
theorem Within.ext_of {w w' : World} {lo hi : Nat} (e : Within lo hi w w') : Below lo w w' := e.below
/-- a store into the cursor -/
theorem cur_store {w : World} {g : Nat} {cs : Array Value} {t : TypeId} (h : w.heap[g]? = some (.cells cs t (0, 0))) (i : Nat) (u : Value) : (w.setCell ⟨g, i, none⟩ u).heap[g]? = some (.cells (cs.setIfInBounds i u) t (0, 0)) := by
  simp [World.setCell, Array.getElem?_modify, h]
theorem and255 (x : Int) : 0 ≤ bits .and .i64 x 255 ∧ bits .and .i64 x 255 ≤ 255 := by
  have h : bits .and .i64 x 255 = IntKind.i64.wrap ((BitVec.ofInt 64 x &&& BitVec.ofInt 64 255).toNat : Int) := rfl
  rw [h, BitVec.toNat_and]
  have h2 : (BitVec.ofInt 64 255).toNat = 255 := by decide
  rw [h2]
  have h3 : (BitVec.ofInt 64 x).toNat &&& 255 ≤ 255 := Nat.and_le_right
  generalize (BitVec.ofInt 64 x).toNat &&& 255 = q at h3
  have : IntKind.i64.wrap (q : Int) = q := by simp [IntKind.wrap, IntKind.bits, IntKind.signed]; omega
  omega
/-- a new cursor -/
theorem l01New_c (a : Option Addr) (n c : Nat) (X : Nat → Int) (w : World) (h : BytesAt w a n X) (hn : n ≤ 1048576) :
    Calls Try.prog 63 #[.slice a n c] w fun e w' => ∃ g, e = .returned (.pointer (some ⟨g, 0, none⟩)) ∧ Cur w' g ∧ w.heap.size ≤ g ∧ Ext w w' := by
  go_enter Try.func63, Try.ntmps63
  go_wp2
  go_loopg [3, 4] n (fun g hh i wr => ∃ (k : Nat) (z : Int), k ≤ n ∧ g = n - k ∧ i = .int .i64 k ∧ hh = .int .i64 z ∧ wr = w)
  · exact ⟨0, _, Nat.zero_le _, by omega, rfl, rfl, rfl⟩
  · obtain ⟨k, z, h1, h2, rfl, rfl, rfl⟩ := hrel
    rcases Nat.lt_or_ge k n with hlt | hge
    · obtain ⟨b, off, rfl, hc, hx0, hx1⟩ := h.at_ hlt
      by_cases h4 : k < 4000
      · have q1 : (k : Int) < n := by omega
        have q2 : (k : Int) < 4000 := by omega
        go_wp2
        go_roundg (n - (k + 1))
        case measure => omega
        case rel => exact ⟨k + 1, _, by omega, rfl, by go_num, rfl, rfl⟩
      · have q1 : (k : Int) < n := by omega
        have q2 : ¬ ((k : Int) < 4000) := by omega
        go_wp2
        go_ret
        exact ⟨_, rfl, ⟨_, _, c, 0, z, X, hn, h.ext (by repeat (first | (with_reducible exact ext_refl _) | (with_reducible refine ext_setCell ?_ ?_ _) | (with_reducible refine ext_alloc ?_ _) | (with_reducible refine ext_drewN ?_ _) | (with_reducible refine ext_drew ?_) | (with_reducible refine ext_trans ?_ (by assumption)) | (dsimp only; omega) | omega | (simp; omega))), bytes_lt h, heap_last _ _, by omega⟩, by simp, (by repeat (first | (with_reducible exact ext_refl _) | (with_reducible refine ext_setCell ?_ ?_ _) | (with_reducible refine ext_alloc ?_ _) | (with_reducible refine ext_drewN ?_ _) | (with_reducible refine ext_drew ?_) | (with_reducible refine ext_trans ?_ (by assumption)) | (dsimp only; omega) | omega | (simp; omega)))⟩
    · obtain rfl : k = n := by omega
      go_wp2
      go_ret
      exact ⟨_, rfl, ⟨_, _, c, 0, z, X, hn, h.ext (by repeat (first | (with_reducible exact ext_refl _) | (with_reducible refine ext_setCell ?_ ?_ _) | (with_reducible refine ext_alloc ?_ _) | (with_reducible refine ext_drewN ?_ _) | (with_reducible refine ext_drew ?_) | (with_reducible refine ext_trans ?_ (by assumption)) | (dsimp only; omega) | omega | (simp; omega))), bytes_lt h, heap_last _ _, by omega⟩, by simp, (by repeat (first | (with_reducible exact ext_refl _) | (with_reducible refine ext_setCell ?_ ?_ _) | (with_reducible refine ext_alloc ?_ _) | (with_reducible refine ext_drewN ?_ _) | (with_reducible refine ext_drew ?_) | (with_reducible refine ext_trans ?_ (by assumption)) | (dsimp only; omega) | omega | (simp; omega)))⟩
theorem byte_end {e : Ending} {y : Int} {C W : Prop} (he : e = .returned (.int .i64 (bits .and .i64 y 255))) (hc : C) (hw : W) : ∃ x : Nat, x ≤ 255 ∧ e = .returned (.int .i64 x) ∧ C ∧ W := by
  have h := and255 y
  exact ⟨(bits .and .i64 y 255).toNat, by omega, by rw [he, Int.toNat_of_nonneg h.1], hc, hw⟩
theorem Within.drewN {lo hi : Nat} {a w : World} (h : Within lo hi a w) (n : Nat) : Within lo hi a (w.drewN n) := ⟨h.os, h.tape, h.output, h.size, h.block⟩
theorem frozen_of_row (w : World) (b i : Nat) (cs : Array Value) (t : TypeId) (h : w.heap[b]? = some (.cells cs t (0, 0))) : w.frozen? ⟨b, i, none⟩ = false := by
  simp [World.frozen?, h]
set_option maxHeartbeats 800000 in
theorem l01Byte_c (g : Nat) (w : World) (h : Cur w g) :
    Calls Try.prog 99 #[.pointer (some ⟨g, 0, none⟩)] w fun e w' => ∃ x : Nat, x ≤ 255 ∧ e = .returned (.int .i64 x) ∧ Cur w' g ∧ Within g (g + 1) w w' := by
  have hlt := h.lt
  obtain ⟨a, n, c, i, z, X, hn, hb, h0, hg, hi⟩ := h
  have c0 : w.cell? ⟨g, 0, none⟩ = some (.slice a n c) := by rw [cell_of_row w g 0 _ _ (0, 0) hg]; rfl
  have c1 : w.cell? ⟨g, 1, none⟩ = some (.int .i64 i) := by rw [cell_of_row w g 1 _ _ (0, 0) hg]; rfl
  have c2 : w.cell? ⟨g, 2, none⟩ = some (.int .i64 z) := by rw [cell_of_row w g 2 _ _ (0, 0) hg]; rfl
  have fz : ∀ j, w.frozen? ⟨g, j, none⟩ = false := fun j => frozen_of_row w g j _ _ hg
  have hg2 : ∀ u, (w.setCell ⟨g, 2, none⟩ u).heap[g]? = some (.cells #[.slice a n c, .int .i64 i, u] 81 (0, 0)) := fun u => cur_store hg 2 u
  have t0 : ∀ u, (w.setCell ⟨g, 2, none⟩ u).cell? ⟨g, 0, none⟩ = some (.slice a n c) := fun u => by rw [cell_of_row _ g 0 _ _ (0, 0) (hg2 u)]; rfl
  have t1 : ∀ u, (w.setCell ⟨g, 2, none⟩ u).cell? ⟨g, 1, none⟩ = some (.int .i64 i) := fun u => by rw [cell_of_row _ g 1 _ _ (0, 0) (hg2 u)]; rfl
  have t2 : ∀ u, (w.setCell ⟨g, 2, none⟩ u).cell? ⟨g, 2, none⟩ = some u := fun u => by rw [cell_of_row _ g 2 _ _ (0, 0) (hg2 u)]; rfl
  have fz2 : ∀ u j, (w.setCell ⟨g, 2, none⟩ u).frozen? ⟨g, j, none⟩ = false := fun u j => frozen_of_row _ g j _ _ (hg2 u)
  rcases Nat.lt_or_ge i n with hlt2 | hge
  · obtain ⟨b, off, rfl, hc, hx0, hx1⟩ := hb.at_ hlt2
    have hne := bytes_apart hg hc
    have hcu : ∀ u, (w.setCell ⟨g, 2, none⟩ u).cell? ⟨b, off + i, none⟩ = some (.int .u8 (X i)) := fun u => by rw [World.cell?_of_block (a := ⟨b, off + i, none⟩) (Below.heap_setCell _ _ _ _ hne)]; exact hc
    have q1 : (i : Int) < n := by omega
    have W1 : IntKind.i64.wrap ((i : Int) + 1) = i + 1 := by have := IntWalk.i64_in ((i : Int) + 1) (by omega); exact this
    go_enter Try.func99, Try.ntmps99
    go_wp2
    go_quiet (fail)
    go_wp2
    go_quiet (fail)
    go_wp2
    go_quiet (fail)
    go_wp2
    go_ret
    have hw : ∀ u v k, Within g (g + 1) w (((w.setCell ⟨g, 2, none⟩ u).setCell ⟨g, 1, none⟩ v).drewN k) := fun u v k => Within.drewN (Within.setCell (Within.setCell (Within.refl _ _ _) (by simp) (by simp) _) (by simp) (by simp) _) _
    refine byte_end rfl ⟨some ⟨b, off, none⟩, n, c, i + 1, _, X, hn, hb.within (hw _ _ _) (fun _ b' off' he => by cases he; exact hne), h0, cur_store (hg2 _) 1 _, by omega⟩ (hw _ _ _)
  · have q1 : ¬ (i : Int) < n := by omega
    go_enter Try.func99, Try.ntmps99
    go_wp2
    go_quiet (fail)
    go_wp2
    go_quiet (fail)
    go_wp2
    go_ret
    have hw : ∀ u k k', Within g (g + 1) w (((w.setCell ⟨g, 2, none⟩ u).drewN k).drewN k') := fun u k k' => Within.drewN (Within.drewN (Within.setCell (Within.refl _ _ _) (by simp) (by simp) _) _) _
    refine byte_end rfl ⟨a, n, c, i, _, X, hn, hb.within (hw _ _ _) (fun hp b' off' he => ?_), h0, hg2 _, hi⟩ (hw _ _ _)
    obtain ⟨b, off, ha, hc, _, _⟩ := hb.at_ hp
    rw [ha] at he; cases he
    exact bytes_apart hg hc
set_option maxHeartbeats 800000 in
theorem l01Below_c (g : Nat) (m : Nat) (w : World) (h : Cur w g) (hm : 0 < m) (hm2 : m ≤ 1048576) :
    Calls Try.prog 92 #[.pointer (some ⟨g, 0, none⟩), .int .i64 m] w fun e w' => ∃ x : Nat, x < m ∧ e = .returned (.int .i64 x) ∧ Cur w' g ∧ Within g (g + 1) w w' := by
  have q0 : ¬ (m : Int) ≤ 0 := by omega
  by_cases h2 : m ≤ 256
  · have q1 : (m : Int) ≤ 256 := by omega
    have q2 : (m : Int) ≠ 0 := by omega
    go_enter Try.func92, Try.ntmps92
    go_wp2_with fail
    refine (l01Byte_c g _ h).mono ?_
    rintro e w1 ⟨x, hx, rfl, hc, hw⟩
    go_wp2_with fail
    go_ret
    exact ⟨x % m, Nat.mod_lt _ hm, by go_num, hc, hw⟩
  · have q1 : ¬ (m : Int) ≤ 256 := by omega
    have q2 : (m : Int) ≠ 0 := by omega
    go_enter Try.func92, Try.ntmps92
    go_wp2_with fail
    refine (l01Byte_c g _ h).mono ?_
    rintro e w1 ⟨x1, hx1, rfl, hc1, hw1⟩
    go_wp2_with fail
    refine (l01Byte_c g _ hc1).mono ?_
    rintro e w2 ⟨x2, hx2, rfl, hc2, hw2⟩
    go_wp2_with fail
    refine (l01Byte_c g _ hc2).mono ?_
    rintro e w3 ⟨x3, hx3, rfl, hc3, hw3⟩
    go_wp2_with fail
    refine (l01Byte_c g _ hc3).mono ?_
    rintro e w4 ⟨x4, hx4, rfl, hc4, hw4⟩
    go_wp2_with fail
    go_ret
    exact ⟨(x1 * 16777216 + x2 * 65536 + x3 * 256 + x4) % m, Nat.mod_lt _ hm, by go_num, hc4, ((hw1.trans hw2).trans hw3).trans hw4⟩
end Go.Proofs.Ytefgdkjcoeikmaa
