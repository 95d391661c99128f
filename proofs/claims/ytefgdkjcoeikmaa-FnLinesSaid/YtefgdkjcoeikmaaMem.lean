/- Words for memory, more: a slice of integers, and a slice of such slices, that the call itself has made, with the blocks among which they lie; one more element; marks. No condition: plain lemmas. -/
import Derived.Test.YtefgdkjcoeikmaaRows
import Derived.Test.YtefgdkjcoeikmaaOpen
import Derived.Deep.OwnRows
import Derived.RegionTactic
namespace Go.Proofs.Ytefgdkjcoeikmaa
open Go.RowKit
set_option linter.unusedVariables false

theorem info_int : (Try.prog.info? 3).map (fun i => (i.zero, i.size, i.bytes)) = some (some (.int .i64 0), 1, 8) := by kernel_rfl

/-- n integers X lie in a block of the call's own, from lo on and below hi; or there are none. -/
def OI (w : World) (lo hi : Nat) (v : Value) (n : Nat) (X : Nat → Int) : Prop := w.ownsRow lo 3 1 v n (ints n X) ∧ ∀ g, v.ownBlock = some g → g < hi

theorem OI.congr {w : World} {lo hi n : Nat} {v : Value} {X Y : Nat → Int} (h : OI w lo hi v n X) (e : ∀ i, i < n → X i = Y i) : OI w lo hi v n Y := by
  unfold OI at *; rw [← ints_congr e]; exact h
theorem OI.nil (w : World) (lo hi : Nat) (X : Nat → Int) : OI w lo hi (.slice none 0 0) 0 X := ⟨World.ownsRow_nil _ _ _ _, by simp [Value.ownBlock]⟩
/-- what it reads as -/
theorem OI.reads {w : World} {lo hi n c : Nat} {a : Option Addr} {X : Nat → Int} (h : OI w lo hi (.slice a n c) n X) : IntsAt w a n X := by
  rcases h.1.2 with ⟨hv, rfl⟩ | ⟨g, cap, cur, hv, hb, hg, hnc, hcm, hcs, htake⟩
  · intro hn; omega
  · simp only [Value.slice.injEq] at hv
    obtain ⟨rfl, _, rfl⟩ := hv
    refine fun _ => ⟨g, 0, rfl, fun i hi => ?_⟩
    have := h.1.cells (g := g) rfl i (.int .i64 (X i)) (ints_get X hi)
    rwa [Addr.add_lit] at this
theorem OI.cap {w : World} {lo hi n c : Nat} {a : Option Addr} {X : Nat → Int} (h : OI w lo hi (.slice a n c) n X) : n ≤ c ∧ c ≤ maxLen := by
  rcases h.1.2 with ⟨hv, rfl⟩ | ⟨g, cap, cur, hv, hb, hg, hnc, hcm, hcs, htake⟩
  · simp only [Value.slice.injEq] at hv
    obtain ⟨_, _, rfl⟩ := hv
    exact ⟨Nat.le_refl _, by simp [maxLen]⟩
  · simp only [Value.slice.injEq] at hv
    obtain ⟨_, _, rfl⟩ := hv
    exact ⟨hnc, hcm⟩
/-- its shape -/
theorem OI.form {w : World} {lo hi n : Nat} {v : Value} {X : Nat → Int} (h : OI w lo hi v n X) : ∃ a c, v = .slice a n c := by
  rcases h.1.2 with ⟨rfl, rfl⟩ | ⟨g, cap, cur, rfl, _⟩
  · exact ⟨_, _, rfl⟩
  · exact ⟨_, _, rfl⟩
theorem OI.form1 {w : World} {lo hi n : Nat} {v : Value} {X : Nat → Int} (h : OI w lo hi v (n + 1) X) : ∃ g c, v = .slice (some ⟨g, 0, none⟩) (n + 1) c := by
  rcases h.1.2 with ⟨rfl, h0⟩ | ⟨g, cap, cur, rfl, _⟩
  · omega
  · exact ⟨_, _, rfl⟩
/-- where there is one there is a block -/
theorem OI.head {w : World} {lo hi n c : Nat} {a : Option Addr} {X : Nat → Int} (h : OI w lo hi (.slice a n c) n X) (hn : 0 < n) : ∃ g, a = some ⟨g, 0, none⟩ ∧ lo ≤ g ∧ g < hi ∧ g < w.heap.size := by
  rcases h.1.2 with ⟨hv, h0⟩ | ⟨g, cap, cur, hv, hb, hg, r⟩
  · omega
  · simp only [Value.slice.injEq] at hv
    exact ⟨g, hv.1, hb, h.2 g (by rw [hv.1]; rfl), (Array.getElem?_eq_some_iff.1 hg).1⟩
theorem OI.keep {w w' : World} {lo hi n : Nat} {v : Value} {X : Nat → Int} (h : OI w lo hi v n X) (e : ∀ k, lo ≤ k → k < hi → w'.heap[k]? = w.heap[k]?) : OI w' lo hi v n X := by
  refine ⟨⟨h.1.1, ?_⟩, h.2⟩
  rcases h.1.2 with h0 | ⟨g, cap, cur, hv, hb, hg, r⟩
  · exact .inl h0
  · exact .inr ⟨g, cap, cur, hv, hb, by rw [e g hb (h.2 g (by rw [hv]; rfl))]; exact hg, r⟩
theorem OI.ext {w w' : World} {lo hi n : Nat} {v : Value} {X : Nat → Int} (h : OI w lo hi v n X) (e : Ext w w') : OI w' lo hi v n X := by
  refine ⟨⟨h.1.1, ?_⟩, h.2⟩
  rcases h.1.2 with h0 | ⟨g, cap, cur, hv, hb, hg, r⟩
  · exact .inl h0
  · exact .inr ⟨g, cap, cur, hv, hb, ext_heap e hg, r⟩
theorem OI.mono {w : World} {lo hi lo' hi' n : Nat} {v : Value} {X : Nat → Int} (h : OI w lo hi v n X) (h1 : lo' ≤ lo) (h2 : hi ≤ hi') : OI w lo' hi' v n X := by
  refine ⟨⟨h.1.1, ?_⟩, fun g hg => Nat.lt_of_lt_of_le (h.2 g hg) h2⟩
  rcases h.1.2 with h0 | ⟨g, cap, cur, hv, hb, hg, r⟩
  · exact .inl h0
  · exact .inr ⟨g, cap, cur, hv, by omega, hg, r⟩
/-- its block is there -/
theorem OI.lt {w : World} {lo hi n c : Nat} {a : Option Addr} {X : Nat → Int} (h : OI w lo hi (.slice a n c) n X) : ∀ p, a = some p → lo ≤ p.block ∧ p.block < w.heap.size ∧ p.block < hi ∧ p = ⟨p.block, 0, none⟩ := by
  rcases h.1.2 with ⟨hv, _⟩ | ⟨g, cap, cur, hv, hb, hg, r⟩
  · simp only [Value.slice.injEq] at hv
    obtain ⟨rfl, _, _⟩ := hv
    intro p hp; cases hp
  · simp only [Value.slice.injEq] at hv
    obtain ⟨rfl, _, rfl⟩ := hv
    intro p hp
    simp only [Option.some.injEq] at hp
    subst hp
    exact ⟨hb, (Array.getElem?_eq_some_iff.1 hg).1, h.2 g rfl, rfl⟩
/-- the bound may be the heap's size -/
theorem OI.now {w : World} {lo hi n : Nat} {v : Value} {X : Nat → Int} (h : OI w lo hi v n X) : OI w lo w.heap.size v n X := by
  refine ⟨h.1, fun g hg => ?_⟩
  exact (h.1.lt g hg).2
theorem OI.within {w w' : World} {lo hi lo' hi' n : Nat} {v : Value} {X : Nat → Int} (h : OI w lo hi v n X) (e : Within lo' hi' w w') (hb : hi ≤ lo' ∨ hi' ≤ lo) : OI w' lo hi v n X :=
  h.keep fun k h1 h2 => e.block k (by omega)
theorem OI.below {w w' : World} {lo hi B n : Nat} {v : Value} {X : Nat → Int} (h : OI w lo hi v n X) (e : Below B w w') (hb : hi ≤ B) : OI w' lo hi v n X :=
  h.keep fun k h1 h2 => e.block k (by omega)

theorem ints_set {n k : Nat} {X : Nat → Int} (x : Int) : (ints n X).set k (.int .i64 x) = ints n (fun j => if j = k then x else X j) := by
  apply List.ext_getElem?
  intro j
  rw [List.getElem?_set]
  by_cases hj : j < n
  · by_cases e : k = j
    · subst e; simp [ints, hj]
    · rw [if_neg e, ints_get _ hj, ints_get _ hj, if_neg (fun q => e q.symm)]
  · by_cases e : k = j
    · subst e; simp [ints, hj]
    · simp [ints, hj, e]
theorem ints_zero (n : Nat) : (madeCells #[Value.int .i64 0] n).toList = ints n (fun _ => 0) := by
  rw [toList_madeCells_one]; apply List.ext_getElem?; intro j
  by_cases hj : j < n <;> simp [ints, hj]
theorem OI.made (w : World) (n : Nat) (hm : n ≤ maxLen) : OI (w.alloc (.cells (madeCells #[.int .i64 0] n) 3)) w.heap.size (w.heap.size + 1) (.slice (some ⟨w.heap.size, 0, none⟩) n n) n (fun _ => 0) := by
  have := World.ownsRow_lit (base := w.heap.size) (e := 3) (size := 1) w (madeCells #[.int .i64 0] n) n (Nat.le_refl _) hm (by simp [size_madeCells])
  rw [ints_zero] at this; exact ⟨this, by simp [Value.ownBlock]⟩
theorem OI.cell {w : World} {lo hi g n cap k : Nat} {X : Nat → Int} (h : OI w lo hi (.slice (some ⟨g, 0, none⟩) n cap) n X) (hk : k < n) : w.cell? ⟨g, k, none⟩ = some (.int .i64 (X k)) := by
  rw [World.ownsRow.cellAt h.1 k (by omega)]; exact ints_get X hk
theorem OI.frozen {w : World} {lo hi g n cap : Nat} {X : Nat → Int} (h : OI w lo hi (.slice (some ⟨g, 0, none⟩) n cap) n X) (k : Nat) : w.frozen? ⟨g, k, none⟩ = false :=
  World.ownsRow.frozenAt h.1 k
theorem OI.store {w : World} {lo hi g n cap : Nat} {X : Nat → Int} (h : OI w lo hi (.slice (some ⟨g, 0, none⟩) n cap) n X) (k : Nat) (x : Int) :
    OI (w.setCell ⟨g, k, none⟩ (.int .i64 x)) lo hi (.slice (some ⟨g, 0, none⟩) n cap) n (fun j => if j = k then x else X j) := by
  have := (World.ownsRow.stored h.1 k (.int .i64 x)).1
  rw [ints_set] at this; exact ⟨this, h.2⟩
/-- a literal of integers -/
theorem OI.lit (w : World) (cs : List Value) (X : Nat → Int) (n : Nat) (hm : n ≤ maxLen) (he : cs = ints n X) : OI (w.alloc (.cells cs.toArray 3)) w.heap.size (w.heap.size + 1) (.slice (some ⟨w.heap.size, 0, none⟩) n n) n X := by
  have := World.ownsRow_lit (base := w.heap.size) (e := 3) (size := 1) w cs.toArray n (Nat.le_refl _) hm (by simp [he, ints_len])
  refine ⟨by simpa [he] using this, by simp [Value.ownBlock]⟩

section
variable {P : Program} {ops : Array Oper} {rest : List Oper} {o : Oper} {a : Act} {Q : Exit → Act → World → Prop}
/-- 'out = append(out, x)' -/
theorem wp_push_int {K : Act → World → Prop} (s x : Operand) (t : TypeId) (ho : o.op = .call { callee := .builtin .append, args := #[s, x], argTypes := #[t, t] })
    (ht : P.underlying t = some (.slice 3)) (hinfo : (P.info? 3).map (fun i => (i.zero, i.size, i.bytes)) = some (some (.int .i64 0), 1, 8))
    (w : World) (lo n : Nat) (X : Nat → Int) (y : Int) (sa : Option Addr) (sc hi : Nat) (hs : a.eval s = .slice sa n sc) (hown : OI w lo hi (.slice sa n sc) n X)
    (ad : Addr) (c : Nat) (hx : a.eval x = .slice (some ad) 1 c) (hc : w.cell? ad = some (.int .i64 y)) (hy : X n = y) (hn : n ≤ 1099511627776) (hb : lo ≤ w.heap.size)
    (h : ∀ g' c' w', OI w' lo w'.heap.size (.slice (some ⟨g', 0, none⟩) (n + 1) c') (n + 1) X → Below lo w w' → K (a.put o.dst (.slice (some ⟨g', 0, none⟩) (n + 1) c')) w') : o.wp P a w K Q := by
  obtain ⟨i, hi1, hi2, hi3, hi4⟩ := info_parts hinfo
  refine wp_append_own w s x t ho lo 3 i (.int .i64 0) 1 8 ht hi1 hi2 hi3 hi4 rfl (by decide) (.slice sa n sc) n (ints n X) hs hown.1 ad 1 c [.int .i64 y] hx rfl ?_ ?_ (by simp only [maxLen]; omega) (by omega) hb ?_
  · intro j u hj
    match j, hj with
    | 0, hj =>
      simp at hj; subst hj
      have : ad.add 0 = ad := by unfold Addr.add; simp
      rw [this]; exact hc
  · intro u hu; simp at hu; subst hu; rfl
  · intro v' w' ho' hg _
    have hO : OI w' lo w'.heap.size v' (n + 1) X := by
      refine ⟨?_, fun g hgg => (ho'.lt g hgg).2⟩
      rw [ints_succ, hy]; exact ho'
    obtain ⟨g', c', rfl⟩ := hO.form1
    refine h g' c' w' hO ?_
    exact (Below.refl _ _).grown hg hb (fun k hk => by
      have := hown.1.lt k hk; exact this.1)
theorem wpList_push_int (hgd : o.guard = none) (s x : Operand) (t : TypeId) (ho : o.op = .call { callee := .builtin .append, args := #[s, x], argTypes := #[t, t] })
    (ht : P.underlying t = some (.slice 3)) (hinfo : (P.info? 3).map (fun i => (i.zero, i.size, i.bytes)) = some (some (.int .i64 0), 1, 8))
    (w : World) (lo n : Nat) (X : Nat → Int) (y : Int) (sa : Option Addr) (sc hi : Nat) (hs : a.eval s = .slice sa n sc) (hown : OI w lo hi (.slice sa n sc) n X)
    (ad : Addr) (c : Nat) (hx : a.eval x = .slice (some ad) 1 c) (hc : w.cell? ad = some (.int .i64 y)) (hy : X n = y) (hn : n ≤ 1099511627776) (hb : lo ≤ w.heap.size)
    (h : ∀ g' c' w', OI w' lo w'.heap.size (.slice (some ⟨g', 0, none⟩) (n + 1) c') (n + 1) X → Below lo w w' → wpList P ops Q rest (a.put o.dst (.slice (some ⟨g', 0, none⟩) (n + 1) c')) w') : wpList P ops Q (o :: rest) a w :=
  wpList_plain hgd fun _ hK => wp_push_int s x t ho ht hinfo w lo n X y sa sc hi hs hown ad c hx hc hy hn hb fun g' c' w' h1 h2 => hK _ _ (h g' c' w' h1 h2)
/-- .. at a step of a region that draws its order -/
theorem step_push_int {K : Act → World → Prop} {E : Prop} (hgd : o.guard = none) (s x : Operand) (t : TypeId) (ho : o.op = .call { callee := .builtin .append, args := #[s, x], argTypes := #[t, t] })
    (ht : P.underlying t = some (.slice 3)) (hinfo : (P.info? 3).map (fun i => (i.zero, i.size, i.bytes)) = some (some (.int .i64 0), 1, 8))
    (w : World) (lo n : Nat) (X : Nat → Int) (y : Int) (sa : Option Addr) (sc hi : Nat) (hs : a.eval s = .slice sa n sc) (hown : OI w lo hi (.slice sa n sc) n X)
    (ad : Addr) (c : Nat) (hx : a.eval x = .slice (some ad) 1 c) (hc : w.cell? ad = some (.int .i64 y)) (hy : X n = y) (hn : n ≤ 1099511627776) (hb : lo ≤ w.heap.size)
    (h : ∀ g' c' w', OI w' lo w'.heap.size (.slice (some ⟨g', 0, none⟩) (n + 1) c') (n + 1) X → Below lo w w' → K (a.put o.dst (.slice (some ⟨g', 0, none⟩) (n + 1) c')) w') :
    if Region.wanted o (yielded ops a.tmps) = true then Oper.wp P o a w K Q else E := by
  have hw : Region.wanted o (yielded ops a.tmps) = true := by simp [Region.wanted, hgd]
  rw [if_pos hw]
  exact wp_push_int s x t ho ht hinfo w lo n X y sa sc hi hs hown ad c hx hc hy hn hb h
end

theorem cell_new1 (w : World) (v : Value) (t : TypeId) : (w.alloc (.cells #[v] t)).cell? ⟨w.heap.size, 0, none⟩ = some v := by simp [World.cell?_alloc_new]
/-- the function makes a list of n integers X -/
def MakesI (w : World) (n : Nat) (X : Nat → Int) (e : Ending) (w' : World) : Prop := ∃ a c, e = .returned (.slice a n c) ∧ OI w' w.heap.size w'.heap.size (.slice a n c) n X ∧ Ext w w'

/-! ### rows -/
theorem info_ints : (Try.prog.info? 23).map (fun i => (i.zero, i.size, i.bytes)) = some (some (.slice none 0 0), 1, 24) := by kernel_rfl
def rowsV (n : Nat) (A : Nat → Option Addr) (L C : Nat → Nat) : List Value := (List.range n).map fun i => .slice (A i) (L i) (C i)
theorem rowsV_len (n : Nat) (A : Nat → Option Addr) (L C : Nat → Nat) : (rowsV n A L C).length = n := by simp [rowsV]
theorem rowsV_succ (n : Nat) (A : Nat → Option Addr) (L C : Nat → Nat) : rowsV (n + 1) A L C = rowsV n A L C ++ [.slice (A n) (L n) (C n)] := by simp [rowsV, List.range_succ]
theorem rowsV_get {n i : Nat} (A : Nat → Option Addr) (L C : Nat → Nat) (hi : i < n) : (rowsV n A L C)[i]? = some (.slice (A i) (L i) (C i)) := by simp [rowsV, hi]
theorem rowsV_congr {n : Nat} {A A' : Nat → Option Addr} {L L' C C' : Nat → Nat} (h : ∀ i, i < n → A i = A' i ∧ L i = L' i ∧ C i = C' i) : rowsV n A L C = rowsV n A' L' C' := by
  unfold rowsV
  exact List.map_congr_left fun i hi => by obtain ⟨h1, h2, h3⟩ := h i (List.mem_range.1 hi); rw [h1, h2, h3]

/-- n rows of the call's own, in blocks from lo on and below hi, no two in one block -/
structure OR (w : World) (lo hi : Nat) (v : Value) (n : Nat) (A : Nat → Option Addr) (L C : Nat → Nat) (X : Nat → Nat → Int) : Prop where
  top : w.ownsRow lo 23 1 v n (rowsV n A L C)
  bound : ∀ g, v.ownBlock = some g → g < hi
  row : ∀ i, i < n → OI w lo hi (.slice (A i) (L i) (C i)) (L i) (X i)
  apart : ∀ i j, i < n → j < n → i ≠ j → ∀ p q, A i = some p → A j = some q → p.block ≠ q.block

theorem OR.nil (w : World) (lo hi : Nat) (A : Nat → Option Addr) (L C : Nat → Nat) (X : Nat → Nat → Int) : OR w lo hi (.slice none 0 0) 0 A L C X :=
  ⟨World.ownsRow_nil _ _ _ _, by simp [Value.ownBlock], fun i hi => by omega, fun i j hi => by omega⟩
theorem OR.congr {w : World} {lo hi n : Nat} {v : Value} {A : Nat → Option Addr} {L C : Nat → Nat} {X Y : Nat → Nat → Int} (h : OR w lo hi v n A L C X) (e : ∀ i, i < n → ∀ j, j < L i → X i j = Y i j) : OR w lo hi v n A L C Y :=
  ⟨h.top, h.bound, fun i hi => (h.row i hi).congr (e i hi), h.apart⟩
theorem OR.congrL {w : World} {lo hi n : Nat} {v : Value} {A : Nat → Option Addr} {L L' C : Nat → Nat} {X : Nat → Nat → Int} (h : OR w lo hi v n A L C X) (e : ∀ i, i < n → L i = L' i) : OR w lo hi v n A L' C X :=
  ⟨by have := h.top; rw [rowsV_congr (A' := A) (L' := L') (C' := C) (fun i hi => ⟨rfl, e i hi, rfl⟩)] at this; exact this, h.bound, fun i hi => by rw [← e i hi]; exact h.row i hi, h.apart⟩
theorem OR.form {w : World} {lo hi n : Nat} {v : Value} {A : Nat → Option Addr} {L C : Nat → Nat} {X : Nat → Nat → Int} (h : OR w lo hi v n A L C X) : ∃ a c, v = .slice a n c := by
  rcases h.top.2 with ⟨rfl, rfl⟩ | ⟨g, cap, cur, rfl, _⟩
  · exact ⟨_, _, rfl⟩
  · exact ⟨_, _, rfl⟩
theorem OR.form1 {w : World} {lo hi n : Nat} {v : Value} {A : Nat → Option Addr} {L C : Nat → Nat} {X : Nat → Nat → Int} (h : OR w lo hi v (n + 1) A L C X) : ∃ g c, v = .slice (some ⟨g, 0, none⟩) (n + 1) c := by
  rcases h.top.2 with ⟨rfl, h0⟩ | ⟨g, cap, cur, rfl, _⟩
  · omega
  · exact ⟨_, _, rfl⟩
theorem OR.cap {w : World} {lo hi n c : Nat} {a : Option Addr} {A : Nat → Option Addr} {L C : Nat → Nat} {X : Nat → Nat → Int} (h : OR w lo hi (.slice a n c) n A L C X) : n ≤ c ∧ c ≤ maxLen := by
  rcases h.top.2 with ⟨hv, rfl⟩ | ⟨g, cap, cur, hv, hb, hg, hnc, hcm, hcs, htake⟩
  · simp only [Value.slice.injEq] at hv
    obtain ⟨_, _, rfl⟩ := hv
    exact ⟨Nat.le_refl _, by simp [maxLen]⟩
  · simp only [Value.slice.injEq] at hv
    obtain ⟨_, _, rfl⟩ := hv
    exact ⟨hnc, hcm⟩
theorem OR.rows {w : World} {lo hi n c : Nat} {a : Option Addr} {A : Nat → Option Addr} {L C : Nat → Nat} {X : Nat → Nat → Int} (h : OR w lo hi (.slice a n c) n A L C X) : RowsAt w a n A L C X := by
  refine ⟨?_, fun i hi => (h.row i hi).reads, fun i hi => (h.row i hi).cap⟩
  rcases h.top.2 with ⟨hv, rfl⟩ | ⟨g, cap, cur, hv, hb, hg, hnc, hcm, hcs, htake⟩
  · intro hn; omega
  · simp only [Value.slice.injEq] at hv
    obtain ⟨rfl, _, rfl⟩ := hv
    refine fun _ => ⟨g, 0, rfl, fun i hi => ?_⟩
    have := h.top.cells (g := g) rfl i (.slice (A i) (L i) (C i)) (rowsV_get A L C hi)
    rwa [Addr.add_lit] at this
theorem OR.keep {w w' : World} {lo hi n : Nat} {v : Value} {A : Nat → Option Addr} {L C : Nat → Nat} {X : Nat → Nat → Int} (h : OR w lo hi v n A L C X) (e : ∀ k, lo ≤ k → k < hi → w'.heap[k]? = w.heap[k]?) : OR w' lo hi v n A L C X := by
  refine ⟨⟨h.top.1, ?_⟩, h.bound, fun i hi => (h.row i hi).keep e, h.apart⟩
  rcases h.top.2 with h0 | ⟨g, cap, cur, hv, hb, hg, r⟩
  · exact .inl h0
  · exact .inr ⟨g, cap, cur, hv, hb, by rw [e g hb (h.bound g (by rw [hv]; rfl))]; exact hg, r⟩
theorem OR.ext {w w' : World} {lo hi n : Nat} {v : Value} {A : Nat → Option Addr} {L C : Nat → Nat} {X : Nat → Nat → Int} (h : OR w lo hi v n A L C X) (e : Ext w w') : OR w' lo hi v n A L C X := by
  refine ⟨⟨h.top.1, ?_⟩, h.bound, fun i hi => (h.row i hi).ext e, h.apart⟩
  rcases h.top.2 with h0 | ⟨g, cap, cur, hv, hb, hg, r⟩
  · exact .inl h0
  · exact .inr ⟨g, cap, cur, hv, hb, ext_heap e hg, r⟩
theorem OR.mono {w : World} {lo hi lo' hi' n : Nat} {v : Value} {A : Nat → Option Addr} {L C : Nat → Nat} {X : Nat → Nat → Int} (h : OR w lo hi v n A L C X) (h1 : lo' ≤ lo) (h2 : hi ≤ hi') : OR w lo' hi' v n A L C X := by
  refine ⟨⟨h.top.1, ?_⟩, fun g hg => Nat.lt_of_lt_of_le (h.bound g hg) h2, fun i hi => (h.row i hi).mono h1 h2, h.apart⟩
  rcases h.top.2 with h0 | ⟨g, cap, cur, hv, hb, hg, r⟩
  · exact .inl h0
  · exact .inr ⟨g, cap, cur, hv, by omega, hg, r⟩
theorem OR.now {w : World} {lo hi n : Nat} {v : Value} {A : Nat → Option Addr} {L C : Nat → Nat} {X : Nat → Nat → Int} (h : OR w lo hi v n A L C X) : OR w lo w.heap.size v n A L C X :=
  ⟨h.top, fun g hg => (h.top.lt g hg).2, fun i hi => (h.row i hi).now, h.apart⟩
theorem OR.within {w w' : World} {lo hi lo' hi' n : Nat} {v : Value} {A : Nat → Option Addr} {L C : Nat → Nat} {X : Nat → Nat → Int} (h : OR w lo hi v n A L C X) (e : Within lo' hi' w w') (hb : hi ≤ lo' ∨ hi' ≤ lo) : OR w' lo hi v n A L C X :=
  h.keep fun k h1 h2 => e.block k (by omega)
theorem OR.below {w w' : World} {lo hi B n : Nat} {v : Value} {A : Nat → Option Addr} {L C : Nat → Nat} {X : Nat → Nat → Int} (h : OR w lo hi v n A L C X) (e : Below B w w') (hb : hi ≤ B) : OR w' lo hi v n A L C X :=
  h.keep fun k h1 h2 => e.block k (by omega)

section
variable {P : Program} {ops : Array Oper} {rest : List Oper} {o : Oper} {a : Act} {Q : Exit → Act → World → Prop}
/-- 'out = append(out, r)', r a row of the call's own that was made behind block mid; all earlier rows lie below mid -/
theorem wp_push_row {K : Act → World → Prop} (s x : Operand) (t : TypeId) (ho : o.op = .call { callee := .builtin .append, args := #[s, x], argTypes := #[t, t] })
    (ht : P.underlying t = some (.slice 23)) (hinfo : (P.info? 23).map (fun i => (i.zero, i.size, i.bytes)) = some (some (.slice none 0 0), 1, 24))
    (w : World) (lo mid n : Nat) (A : Nat → Option Addr) (L C : Nat → Nat) (X : Nat → Nat → Int) (ra : Option Addr) (rc : Nat) (sa : Option Addr) (sc hi : Nat) (hs : a.eval s = .slice sa n sc) (hown : OR w lo mid (.slice sa n sc) n A L C X)
    (hrow : OI w mid hi (.slice ra (L n) rc) (L n) (X n))
    (ad : Addr) (c : Nat) (hx : a.eval x = .slice (some ad) 1 c) (hc : w.cell? ad = some (.slice ra (L n) rc)) (hn : n ≤ 1099511627776) (hb : lo ≤ mid) (hm : mid ≤ w.heap.size)
    (h : ∀ g' c' A' C' w', OR w' lo w'.heap.size (.slice (some ⟨g', 0, none⟩) (n + 1) c') (n + 1) A' L C' X → Below lo w w' → K (a.put o.dst (.slice (some ⟨g', 0, none⟩) (n + 1) c')) w') : o.wp P a w K Q := by
  obtain ⟨i, hi1, hi2, hi3, hi4⟩ := info_parts hinfo
  refine wp_append_own w s x t ho lo 23 i (.slice none 0 0) 1 24 ht hi1 hi2 hi3 hi4 rfl (by decide) (.slice sa n sc) n (rowsV n A L C) hs hown.top ad 1 c [.slice ra (L n) rc] hx rfl ?_ ?_ (by simp only [maxLen]; omega) (by omega) (by omega) ?_
  · intro j u hj
    match j, hj with
    | 0, hj =>
      simp at hj; subst hj
      have : ad.add 0 = ad := by unfold Addr.add; simp
      rw [this]; exact hc
  · intro u hu; simp at hu; subst hu; rfl
  · intro v' w' ho' hg _
    -- the blocks of the rows are none of the outer one's
    have hkeep : ∀ (v : Value) (m : Nat) (Y : Nat → Int) (l h' : Nat), OI w l h' v m Y → OI w' l h' v m Y := by
      intro v m Y l h' hO
      refine ⟨⟨hO.1.1, ?_⟩, hO.2⟩
      rcases hO.1.2 with h0 | ⟨g, cap, cur, hv, hbb, hgg, r⟩
      · exact .inl h0
      · refine .inr ⟨g, cap, cur, hv, hbb, ?_, r⟩
        rw [hg.block g (Array.getElem?_eq_some_iff.1 hgg).1 ?_]
        · exact hgg
        · intro e
          rcases hown.top.2 with ⟨h0, _⟩ | ⟨g2, cap2, cur2, hv2, _, hgg2, _⟩
          · rw [h0] at e; simp [Value.ownBlock] at e
          · rw [hv2] at e
            simp [Value.ownBlock] at e
            subst e
            rw [hgg] at hgg2
            simp at hgg2
    have hO : OR w' lo w'.heap.size v' (n + 1) (fun i => if i < n then A i else ra) L (fun i => if i < n then C i else rc) X := by
      refine ⟨?_, fun g hgg => (ho'.lt g hgg).2, fun i hi => ?_, fun i j hi hj hij p q hp hq => ?_⟩
      · rw [rowsV_succ]
        rw [rowsV_congr (n := n) (A' := A) (L' := L) (C' := C) (fun i hi => by simp [hi])]
        simpa using ho'
      · by_cases e : i < n
        · simp only [e, if_true]
          exact (hkeep _ _ _ _ _ (hown.row i e)).now
        · obtain rfl : i = n := by omega
          simp only [Nat.lt_irrefl, if_false]
          exact ((hkeep _ _ _ _ _ hrow).now).mono hb (Nat.le_refl _)
      · by_cases e1 : i < n
        · by_cases e2 : j < n
          · rw [if_pos e1] at hp; rw [if_pos e2] at hq
            exact hown.apart i j e1 e2 hij p q hp hq
          · rw [if_pos e1] at hp; rw [if_neg e2] at hq
            have b1 := ((hown.row i e1).lt p hp).2.2.1
            have b2 := (hrow.lt q hq).1
            omega
        · by_cases e2 : j < n
          · rw [if_neg e1] at hp; rw [if_pos e2] at hq
            have b1 := ((hown.row j e2).lt q hq).2.2.1
            have b2 := (hrow.lt p hp).1
            omega
          · omega
    obtain ⟨g', c', rfl⟩ := hO.form1
    refine h g' c' _ _ w' hO ?_
    exact (Below.refl _ _).grown hg (by omega) (fun k hk => (hown.top.lt k hk).1)
theorem wpList_push_row (hgd : o.guard = none) (s x : Operand) (t : TypeId) (ho : o.op = .call { callee := .builtin .append, args := #[s, x], argTypes := #[t, t] })
    (ht : P.underlying t = some (.slice 23)) (hinfo : (P.info? 23).map (fun i => (i.zero, i.size, i.bytes)) = some (some (.slice none 0 0), 1, 24))
    (w : World) (lo mid n : Nat) (A : Nat → Option Addr) (L C : Nat → Nat) (X : Nat → Nat → Int) (ra : Option Addr) (rc : Nat) (sa : Option Addr) (sc hi : Nat) (hs : a.eval s = .slice sa n sc) (hown : OR w lo mid (.slice sa n sc) n A L C X)
    (hrow : OI w mid hi (.slice ra (L n) rc) (L n) (X n))
    (ad : Addr) (c : Nat) (hx : a.eval x = .slice (some ad) 1 c) (hc : w.cell? ad = some (.slice ra (L n) rc)) (hn : n ≤ 1099511627776) (hb : lo ≤ mid) (hm : mid ≤ w.heap.size)
    (h : ∀ g' c' A' C' w', OR w' lo w'.heap.size (.slice (some ⟨g', 0, none⟩) (n + 1) c') (n + 1) A' L C' X → Below lo w w' → wpList P ops Q rest (a.put o.dst (.slice (some ⟨g', 0, none⟩) (n + 1) c')) w') : wpList P ops Q (o :: rest) a w :=
  wpList_plain hgd fun _ hK => wp_push_row s x t ho ht hinfo w lo mid n A L C X ra rc sa sc hi hs hown hrow ad c hx hc hn hb hm fun g' c' A' C' w' h1 h2 => hK _ _ (h g' c' A' C' w' h1 h2)
end
/-- the function makes n rows -/
def MakesR (w : World) (n : Nat) (L : Nat → Nat) (X : Nat → Nat → Int) (e : Ending) (w' : World) : Prop := ∃ a c A C, e = .returned (.slice a n c) ∧ OR w' w.heap.size w'.heap.size (.slice a n c) n A L C X ∧ Ext w w'
end Go.Proofs.Ytefgdkjcoeikmaa
