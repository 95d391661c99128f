/- Words for memory, more: a row put into a slice of rows, a row marked. No condition: plain lemmas. -/
import Derived.Test.YtefgdkjcoeikmaaMem
namespace Go.Proofs.Ytefgdkjcoeikmaa
open Go.RowKit
set_option linter.unusedVariables false

/-- only the block at a may have turned -/
structure OnlyAt (a : Option Addr) (w w' : World) : Prop where
  os : w'.os = w.os
  tape : w'.tape = w.tape
  output : w'.output = w.output
  size : w'.heap.size = w.heap.size
  block : ∀ k, (∀ p, a = some p → p.block ≠ k) → w'.heap[k]? = w.heap[k]?
theorem OnlyAt.refl (a : Option Addr) (w : World) : OnlyAt a w w := ⟨rfl, rfl, rfl, rfl, fun _ _ => rfl⟩
theorem OnlyAt.setCell {w w' : World} {g : Nat} (h : OnlyAt (some ⟨g, 0, none⟩) w w') (k : Nat) (u : Value) : OnlyAt (some ⟨g, 0, none⟩) w (w'.setCell ⟨g, k, none⟩ u) :=
  ⟨h.os, h.tape, h.output, by simp [World.setCell]; exact h.size, fun i hi => (Below.heap_setCell _ _ _ _ (by have := hi _ rfl; simp at this; exact fun e => this e.symm)).trans (h.block i hi)⟩
theorem OnlyAt.within {w w' : World} {a : Option Addr} {lo hi : Nat} (h : OnlyAt a w w') (hb : ∀ p, a = some p → lo ≤ p.block ∧ p.block < hi) : Within lo hi w w' :=
  ⟨h.os, h.tape, h.output, h.size, fun k hk => h.block k (fun p hp => by have := hb p hp; omega)⟩

/-- the outer block and the rows' blocks are of two types -/
theorem OR.outer_ne {w : World} {lo hi n g cap : Nat} {A : Nat → Option Addr} {L C : Nat → Nat} {X : Nat → Nat → Int} (h : OR w lo hi (.slice (some ⟨g, 0, none⟩) n cap) n A L C X) :
    lo ≤ g ∧ g < hi ∧ ∃ cur, w.heap[g]? = some (.cells cur 23 (0, 0)) ∧ cur.size = cap ∧ n ≤ cap := by
  rcases h.top.2 with ⟨hv, _⟩ | ⟨g', cap', cur, hv, hb, hg, hnc, hcm, hcs, htake⟩
  · simp at hv
  · simp only [Value.slice.injEq, Option.some.injEq, Addr.mk.injEq, and_true, true_and] at hv
    obtain ⟨rfl, rfl⟩ := hv
    exact ⟨hb, h.bound g rfl, cur, hg, by omega, hnc⟩
theorem OI.blockType {w : World} {lo hi n c g : Nat} {a : Option Addr} {X : Nat → Int} {cur : Array Value} {t : TypeId} (h : OI w lo hi (.slice a n c) n X) (hg : w.heap[g]? = some (.cells cur t (0, 0))) (ht : t ≠ 3) : ∀ p, a = some p → p.block ≠ g := by
  intro p hp e
  rcases h.1.2 with ⟨hv, _⟩ | ⟨g', cap', cur', hv, hb, hg', _⟩
  · simp only [Value.slice.injEq] at hv
    rw [hv.1] at hp; cases hp
  · simp only [Value.slice.injEq] at hv
    rw [hv.1] at hp
    simp only [Option.some.injEq] at hp
    subst hp
    simp at e
    subst e
    rw [hg'] at hg
    simp at hg
    exact ht hg.2.symm
theorem OI.only {w w' : World} {lo hi n c : Nat} {a b : Option Addr} {X : Nat → Int} (h : OI w lo hi (.slice a n c) n X) (e : OnlyAt b w w') (hb : ∀ p q, a = some p → b = some q → p.block ≠ q.block) : OI w' lo hi (.slice a n c) n X := by
  refine ⟨⟨h.1.1, ?_⟩, h.2⟩
  rcases h.1.2 with h0 | ⟨g, cap, cur, hv, hbb, hg, r⟩
  · exact .inl h0
  · refine .inr ⟨g, cap, cur, hv, hbb, ?_, r⟩
    rw [e.block g]
    · exact hg
    · intro q hq
      simp only [Value.slice.injEq] at hv
      exact fun e => hb _ q hv.1 hq e.symm

theorem rowsV_set {n k : Nat} {A : Nat → Option Addr} {L C : Nat → Nat} (ra : Option Addr) (rl rc : Nat) :
    (rowsV n A L C).set k (.slice ra rl rc) = rowsV n (fun i => if i = k then ra else A i) (fun i => if i = k then rl else L i) (fun i => if i = k then rc else C i) := by
  apply List.ext_getElem?
  intro j
  rw [List.getElem?_set]
  by_cases hj : j < n
  · by_cases e : k = j
    · subst e; simp [rowsV, hj]
    · rw [if_neg e, rowsV_get _ _ _ hj, rowsV_get _ _ _ hj, if_neg (fun q => e q.symm), if_neg (fun q => e q.symm), if_neg (fun q => e q.symm)]
  · by_cases e : k = j
    · subst e; simp [rowsV, hj]
    · simp [rowsV, hj, e]
/-- a new row is put at k -/
theorem OR.put {w : World} {lo mid hi n g cap k rl rc : Nat} {A : Nat → Option Addr} {L C : Nat → Nat} {X : Nat → Nat → Int} {ra : Option Addr} {Y : Nat → Int}
    (h : OR w lo mid (.slice (some ⟨g, 0, none⟩) n cap) n A L C X) (hr : OI w mid hi (.slice ra rl rc) rl Y) (h1 : lo ≤ mid) (h2 : mid ≤ hi) :
    OR (w.setCell ⟨g, k, none⟩ (.slice ra rl rc)) lo hi (.slice (some ⟨g, 0, none⟩) n cap) n (fun i => if i = k then ra else A i) (fun i => if i = k then rl else L i) (fun i => if i = k then rc else C i) (fun i => if i = k then Y else X i) := by
  obtain ⟨g1, g2, cur, g3, g4, g5⟩ := h.outer_ne
  have ho : OnlyAt (some ⟨g, 0, none⟩) w (w.setCell ⟨g, k, none⟩ (.slice ra rl rc)) := (OnlyAt.refl _ _).setCell _ _
  have hkeep : ∀ (a : Option Addr) (m c l h' : Nat) (Y : Nat → Int), OI w l h' (.slice a m c) m Y → OI (w.setCell ⟨g, k, none⟩ (.slice ra rl rc)) l h' (.slice a m c) m Y := by
    intro a m c l h' Y hO
    refine hO.only ho ?_
    intro p q hp hq
    simp only [Option.some.injEq] at hq
    subst hq
    exact hO.blockType g3 (by decide) p hp
  refine ⟨?_, fun b hb => Nat.lt_of_lt_of_le (h.bound b hb) h2, fun i hi => ?_, fun i j hi hj hij p q hp hq => ?_⟩
  · have := (World.ownsRow.stored h.top k (.slice ra rl rc)).1
    rw [rowsV_set] at this; exact this
  · by_cases e : i = k
    · simp only [e, if_true]
      exact (hkeep _ _ _ _ _ _ hr).mono h1 (Nat.le_refl _)
    · simp only [e, if_false]
      exact (hkeep _ _ _ _ _ _ (h.row i hi)).mono (Nat.le_refl _) h2
  · by_cases e1 : i = k
    · by_cases e2 : j = k
      · omega
      · rw [if_pos e1] at hp; rw [if_neg e2] at hq
        have b1 := (hr.lt p hp).1
        have b2 := ((h.row j hj).lt q hq).2.2.1
        omega
    · by_cases e2 : j = k
      · rw [if_neg e1] at hp; rw [if_pos e2] at hq
        have b1 := (hr.lt q hq).1
        have b2 := ((h.row i hi).lt p hp).2.2.1
        omega
      · rw [if_neg e1] at hp; rw [if_neg e2] at hq
        exact h.apart i j hi hj hij p q hp hq
/-- row k turns -/
theorem OR.mark {w w' : World} {lo hi n c k : Nat} {a : Option Addr} {A : Nat → Option Addr} {L C : Nat → Nat} {X : Nat → Nat → Int} {Y : Nat → Int}
    (h : OR w lo hi (.slice a n c) n A L C X) (hk : k < n) (e : OnlyAt (A k) w w') (hr : OI w' lo hi (.slice (A k) (L k) (C k)) (L k) Y) : OR w' lo hi (.slice a n c) n A L C (fun i => if i = k then Y else X i) := by
  refine ⟨⟨h.top.1, ?_⟩, h.bound, fun i hi => ?_, h.apart⟩
  · rcases h.top.2 with h0 | ⟨g, cap, cur, hv, hbb, hg, r⟩
    · exact .inl h0
    · refine .inr ⟨g, cap, cur, hv, hbb, ?_, r⟩
      rw [e.block g]
      · exact hg
      · intro p hp
        exact (h.row k hk).blockType hg (by decide) p hp
  · by_cases e1 : i = k
    · subst e1; simp only [if_true]; exact hr
    · simp only [e1, if_false]
      exact (h.row i hi).only e fun p q hp hq => h.apart i k hi hk e1 p q hp hq
/-- a slice of rows of which none is laid yet -/
theorem rowsV_nil (n : Nat) : (madeCells #[Value.slice none 0 0] n).toList = rowsV n (fun _ => none) (fun _ => 0) (fun _ => 0) := by
  rw [toList_madeCells_one]; apply List.ext_getElem?; intro j
  by_cases hj : j < n <;> simp [rowsV, hj]
theorem OR.made (w : World) (n : Nat) (X : Nat → Nat → Int) (hm : n ≤ maxLen) : OR (w.alloc (.cells (madeCells #[.slice none 0 0] n) 23)) w.heap.size (w.heap.size + 1) (.slice (some ⟨w.heap.size, 0, none⟩) n n) n (fun _ => none) (fun _ => 0) (fun _ => 0) X := by
  have := World.ownsRow_lit (base := w.heap.size) (e := 23) (size := 1) w (madeCells #[.slice none 0 0] n) n (Nat.le_refl _) hm (by simp [size_madeCells])
  rw [rowsV_nil] at this
  exact ⟨this, by simp [Value.ownBlock], fun i hi => OI.nil _ _ _ _, fun i j hi hj hij p q hp => by cases hp⟩
theorem OR.frozen {w : World} {lo hi g n cap : Nat} {A : Nat → Option Addr} {L C : Nat → Nat} {X : Nat → Nat → Int} (h : OR w lo hi (.slice (some ⟨g, 0, none⟩) n cap) n A L C X) (k : Nat) : w.frozen? ⟨g, k, none⟩ = false :=
  World.ownsRow.frozenAt h.top k
theorem OR.cell {w : World} {lo hi g n cap k : Nat} {A : Nat → Option Addr} {L C : Nat → Nat} {X : Nat → Nat → Int} (h : OR w lo hi (.slice (some ⟨g, 0, none⟩) n cap) n A L C X) (hk : k < n) : w.cell? ⟨g, k, none⟩ = some (.slice (A k) (L k) (C k)) := by
  rw [World.ownsRow.cellAt h.top k (by omega)]; exact rowsV_get A L C hk
theorem OR.head {w : World} {lo hi n c : Nat} {a : Option Addr} {A : Nat → Option Addr} {L C : Nat → Nat} {X : Nat → Nat → Int} (h : OR w lo hi (.slice a n c) n A L C X) (hn : 0 < n) : ∃ g, a = some ⟨g, 0, none⟩ ∧ lo ≤ g ∧ g < hi ∧ g < w.heap.size := by
  rcases h.top.2 with ⟨hv, h0⟩ | ⟨g, cap, cur, hv, hb, hg, r⟩
  · omega
  · simp only [Value.slice.injEq] at hv
    exact ⟨g, hv.1, hb, h.bound g (by rw [hv.1]; rfl), (Array.getElem?_eq_some_iff.1 hg).1⟩
end Go.Proofs.Ytefgdkjcoeikmaa
