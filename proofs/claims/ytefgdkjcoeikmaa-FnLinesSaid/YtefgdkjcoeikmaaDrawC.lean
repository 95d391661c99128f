/- The draws of designs (seat B). No condition but those of each contract. -/
import Derived.Test.YtefgdkjcoeikmaaDrawB
namespace Go.Proofs.Ytefgdkjcoeikmaa
open Go.ChangeShapes Go.WideShapes Go.ChangeAt Go.RowKit
set_option linter.unusedVariables false
set_option linter.unusedSimpArgs false

/-- of what lay there only block g may have changed -/
structure Drew (g : Nat) (w w' : World) : Prop where
  os : w'.os = w.os
  tape : w'.tape = w.tape
  output : w'.output = w.output
  size : w.heap.size ≤ w'.heap.size
  block : ∀ b, b ≠ g → b < w.heap.size → w'.heap[b]? = w.heap[b]?
theorem Drew.ext {g : Nat} {w w' : World} (h : Ext w w') : Drew g w w' := ⟨h.os, h.tape, h.output, h.size, fun b _ hb => h.block b hb⟩
theorem Drew.trans {g : Nat} {a b c : World} (h : Drew g a b) (k : Drew g b c) : Drew g a c :=
  ⟨k.os.trans h.os, k.tape.trans h.tape, k.output.trans h.output, Nat.le_trans h.size k.size, fun x hx hl => (k.block x hx (Nat.lt_of_lt_of_le hl h.size)).trans (h.block x hx hl)⟩
theorem Drew.of_within {g : Nat} {w w' : World} (h : Within g (g + 1) w w') : Drew g w w' := ⟨h.os, h.tape, h.output, by rw [h.size]; exact Nat.le_refl _, fun b hb _ => h.block b (by omega)⟩
theorem Drew.within {g : Nat} {a w w' : World} (h : Drew g a w) (k : Within g (g + 1) w w') : Drew g a w' := h.trans (Drew.of_within k)
theorem Drew.then_below {g : Nat} {a w w' : World} (h : Drew g a w) (k : Below a.heap.size w w') : Drew g a w' :=
  ⟨k.os.trans h.os, k.tape.trans h.tape, k.output.trans h.output, Nat.le_trans h.size k.size, fun b hb hl => (k.block b hl).trans (h.block b hb hl)⟩
theorem Drew.below {g : Nat} {w w' : World} (h : Drew g w w') (hg : g ≤ w.heap.size) : Below g w w' := ⟨h.os, h.tape, h.output, h.size, fun b hb => h.block b (by omega) (by omega)⟩
theorem OR.drewn {g : Nat} {w w' : World} {lo hi n : Nat} {v : Value} {A : Nat → Option Addr} {L C : Nat → Nat} {X : Nat → Nat → Int} (h : OR w lo hi v n A L C X) (k : Drew g w w') (hl : g < lo) (hh : hi ≤ w.heap.size) : OR w' lo hi v n A L C X :=
  h.keep fun b h1 h2 => k.block b (by omega) (by omega)
theorem OI.drewn {g : Nat} {w w' : World} {lo hi n : Nat} {v : Value} {X : Nat → Int} (h : OI w lo hi v n X) (k : Drew g w w') (hl : g < lo) (hh : hi ≤ w.heap.size) : OI w' lo hi v n X :=
  h.keep fun b h1 h2 => k.block b (by omega) (by omega)

set_option maxHeartbeats 1600000 in
theorem l03Load_d (g : Nat) (n : Nat) (hn : n ≤ 1048576) (w : World) (h : Cur w g) :
    Calls Try.prog 94 #[.pointer (some ⟨g, 0, none⟩), .int .i64 n] w fun e w' => ∃ (sa : Option Addr) (sc : Nat) (X : Nat → Int), e = .returned (.slice sa n sc) ∧ OI w' w.heap.size w'.heap.size (.slice sa n sc) n X ∧ (∀ i, i < n → -1 ≤ X i ∧ X i ≤ 1) ∧ Cur w' g ∧ Drew g w w' := by
  have hg0 := h.lt
  go_enter Try.func94, Try.ntmps94
  go_wp2_with fail
  go_loopg [5, 6] n (fun gk o i wr => ∃ (k : Nat) (sa : Option Addr) (sc : Nat) (X : Nat → Int), k ≤ n ∧ gk = n - k ∧ o = .slice sa k sc ∧ i = .int .i64 k ∧ OI wr w.heap.size wr.heap.size (.slice sa k sc) k X ∧ (∀ i, i < k → -1 ≤ X i ∧ X i ≤ 1) ∧ Cur wr g ∧ Drew g w wr ∧ w.heap.size ≤ wr.heap.size)
  · exact ⟨0, _, _, fun _ => 0, Nat.zero_le _, by omega, rfl, rfl, (OI.lit w [] (fun _ => 0) 0 (by simp [maxLen]) rfl).now, fun i hi => by omega, h.ext (ext_alloc (ext_refl _) _), Drew.ext (ext_alloc (ext_refl w) _), by simp⟩
  · obtain ⟨k, sa, sc, X, h1, h2, rfl, rfl, hO, hX, hc, hb, hs⟩ := hrel
    rcases Nat.lt_or_ge k n with hlt | hge
    · have q1 : (k : Int) < n := by omega
      go_wp2_with fail
      refine (l01Below_c g 3 _ hc (by omega) (by omega)).mono ?_
      rintro e w2 ⟨y, hy, rfl, hc2, hw2⟩
      have hz2 := hw2.size
      have hO2 := hO.within hw2 (.inr (by omega))
      obtain ⟨Y, hY⟩ : ∃ Y : Nat → Int, Y = fun j => if j = k then (y : Int) - 1 else X j := ⟨_, rfl⟩
      have hO3 : OI w2 w.heap.size wr.heap.size (.slice sa k sc) k Y := hO2.congr (fun j hj => by rw [hY]; simp; omega)
      have hYk : Y k = (y : Int) - 1 := by rw [hY]; simp
      have hYb : ∀ i, i < k + 1 → -1 ≤ Y i ∧ Y i ≤ 1 := by
        intro i hi
        rw [hY]
        by_cases he : i = k
        · simp [he]; omega
        · simp [he]; exact hX i (by omega)
      clear hY
      go_wp2_with (at_builtin; refine wpList_push_int rfl _ _ 23 rfl Try.underlying23 info_int _ w.heap.size k Y ((y : Int) - 1) _ _ _ rfl (hO3.ext (ext_alloc (ext_refl _) _)) ⟨wr.heap.size, 0, none⟩ 1 rfl (by rw [← hz2]; exact cell_new1 _ _ _) hYk (by omega) (by simp; omega) ?_; intro g' c' w3 hO4 hb3)
      go_roundg (n - (k + 1))
      case measure => omega
      case rel => exact ⟨k + 1, some ⟨g', 0, none⟩, c', Y, by omega, rfl, rfl, by go_num, hO4, hYb, (hc2.ext (ext_alloc (ext_refl _) _)).below hb3 hg0, ((hb.within hw2).then_below (Below.trans ((ext_alloc (ext_refl w2) _).mono (by omega)) hb3)), by have q := hb3.size; simp at q; omega⟩
    · obtain rfl : k = n := by omega
      go_wp2_with fail
      go_ret
      exact ⟨sa, sc, X, rfl, hO, hX, hc, hb⟩


set_option maxHeartbeats 800000 in
theorem l01Once_c (g : Nat) (m : Nat) (w : World) (h : Cur w g) (hm : 0 < m) (hm2 : m ≤ 1048576) :
    Calls Try.prog 95 #[.pointer (some ⟨g, 0, none⟩), .int .i64 m] w fun e w' => ∃ b : Bool, e = .returned (.bool b) ∧ Cur w' g ∧ Within g (g + 1) w w' := by
  go_enter Try.func95, Try.ntmps95
  go_wp2_with fail
  refine (l01Below_c g m _ h hm hm2).mono ?_
  rintro e w1 ⟨x, hx, rfl, hc, hw⟩
  go_wp2_with fail
  go_ret
  exact ⟨_, rfl, hc, hw⟩
end Go.Proofs.Ytefgdkjcoeikmaa
