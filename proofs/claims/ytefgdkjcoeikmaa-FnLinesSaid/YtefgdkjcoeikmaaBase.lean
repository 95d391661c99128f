/- Words for memory: what a slice of integers, and a slice of such slices, reads as, and what stays under new blocks. No condition: plain lemmas. -/
import Derived.WalkKit
import Derived.ProofKit
import Derived.OpenShut
import Derived.Below
import Derived.Laws.OwnMore
import Derived.Deep.AppendLies
import Derived.Deep.Draws
import Derived.Deep.Matrix
import Derived.Lib.Hide
import Derived.Deep.QuietTactic
import Derived.BigQuiet
import Derived.RegionTactic
import Derived.Deep.LoopGhost
import Derived.Deep.CutRange
import Derived.Deep.DeepCutAuto
import Derived.Deep.Light
namespace Go.Proofs.Ytefgdkjcoeikmaa
open Go.RowKit

theorem ret_int {k : IntKind} {a b : Int} (h : a = b) : Ending.returned (.int k a) = .returned (.int k b) := by rw [h]
theorem ret_bool {a b : Bool} (h : a = b) : Ending.returned (.bool a) = .returned (.bool b) := by rw [h]

/-- draws are written outermost -/
@[go_sem] theorem alloc_drewN (w : World) (k : Nat) (o : Obj) : (w.drewN k).alloc o = (w.alloc o).drewN k := rfl
@[go_sem] theorem setCell_drewN (w : World) (k : Nat) (p : Addr) (u : Value) : (w.drewN k).setCell p u = (w.setCell p u).drewN k := rfl

/-- Nothing that was there has turned. -/
abbrev Ext (w w' : World) : Prop := Below w.heap.size w w'
theorem ext_refl (w : World) : Ext w w := Below.refl _ _
theorem ext_trans {a b c : World} (h : Ext a b) (k : Ext b c) : Ext a c := Below.trans h (k.mono h.size)
theorem ext_alloc {a b : World} (h : Ext a b) (o : Obj) : Ext a (b.alloc o) := h.alloc h.size o
theorem ext_drew {a b : World} (h : Ext a b) : Ext a b.drew := h.drew
theorem ext_drewN {a b : World} (h : Ext a b) (n : Nat) : Ext a (b.drewN n) := ⟨h.os, h.tape, h.output, h.size, h.block⟩
theorem ext_cell {w w' : World} (h : Ext w w') {b off : Nat} {v : Value} (hc : w.cell? ⟨b, off, none⟩ = some v) : w'.cell? ⟨b, off, none⟩ = some v := by
  rw [h.cell (p := ⟨b, off, none⟩) (World.block_lt_of_cell? w _ hc)]; exact hc
theorem ext_heap {w w' : World} (h : Ext w w') {b : Nat} {o : Obj} (hc : w.heap[b]? = some o) : w'.heap[b]? = some o := by
  rw [h.block b (Array.getElem?_eq_some_iff.1 hc).1]; exact hc

theorem ext_of_drewN (w : World) (n : Nat) : Ext w (w.drewN n) := ext_drewN (ext_refl w) n
/-- a callee that leaves the world alone, met in a region that draws -/
theorem quiet_eq {P : Program} {f : FuncId} {args : Array Value} {w : World} {n : Nat} {v : Value}
    (h : Calls P f args (w.drewN n) fun e w' => e = .returned v ∧ w.drewN n = w') : Calls P f args (w.drewN n) fun e w'' => e = .returned v ∧ ∃ m, w'' = w.drewN m :=
  h.mono fun _ _ ⟨he, hm⟩ => ⟨he, n, hm.symm⟩

/-- what was there reads on: two rules for the walk -/
theorem bcell {W w1 : World} (hb : Ext W w1) : (∀ b o, b < W.heap.size → w1.cell? ⟨b, o, none⟩ = W.cell? ⟨b, o, none⟩) ∧ (∀ b o, b < W.heap.size → w1.frozen? ⟨b, o, none⟩ = W.frozen? ⟨b, o, none⟩) :=
  ⟨fun b o h => hb.cell (p := ⟨b, o, none⟩) h, fun b o h => hb.frozen (p := ⟨b, o, none⟩) h⟩
theorem ext_setCell {a b : World} (h : Ext a b) {p : Addr} (hp : a.heap.size ≤ p.block) (u : Value) : Ext a (b.setCell p u) := h.setCell hp u

/-- .. and a third: what is below the old size is below the new one -/
theorem bcell3 {W w1 : World} (hb : Ext W w1) : (∀ b o, b < W.heap.size → w1.cell? ⟨b, o, none⟩ = W.cell? ⟨b, o, none⟩) ∧ (∀ b o, b < W.heap.size → w1.frozen? ⟨b, o, none⟩ = W.frozen? ⟨b, o, none⟩) ∧ (∀ n, n < W.heap.size → n < w1.heap.size) :=
  ⟨fun b o h => hb.cell (p := ⟨b, o, none⟩) h, fun b o h => hb.frozen (p := ⟨b, o, none⟩) h, fun _ h => Nat.lt_of_lt_of_le h hb.size⟩
theorem ext_size {a b : World} (h : Ext a b) : a.heap.size ≤ b.heap.size := h.size

/-- n integers X lie at a. -/
def IntsAt (w : World) (a : Option Addr) (n : Nat) (X : Nat → Int) : Prop :=
  0 < n → ∃ b off, a = some ⟨b, off, none⟩ ∧ ∀ i, i < n → w.cell? ⟨b, off + i, none⟩ = some (.int .i64 (X i))
theorem IntsAt.ext {w w' : World} {a : Option Addr} {n : Nat} {X : Nat → Int} (h : IntsAt w a n X) (e : Ext w w') : IntsAt w' a n X := fun hn => by
  obtain ⟨b, off, ha, hc⟩ := h hn
  exact ⟨b, off, ha, fun i hi => ext_cell e (hc i hi)⟩
theorem IntsAt.congr {w : World} {a : Option Addr} {n : Nat} {X Y : Nat → Int} (h : IntsAt w a n X) (e : ∀ i, i < n → X i = Y i) : IntsAt w a n Y := fun hn => by
  obtain ⟨b, off, ha, hc⟩ := h hn
  exact ⟨b, off, ha, fun i hi => by rw [← e i hi]; exact hc i hi⟩
theorem IntsAt.at_ {w : World} {a : Option Addr} {n k : Nat} {X : Nat → Int} (h : IntsAt w a n X) (hk : k < n) :
    ∃ b off, a = some ⟨b, off, none⟩ ∧ w.cell? ⟨b, off + k, none⟩ = some (.int .i64 (X k)) := by
  obtain ⟨b, off, ha, hc⟩ := h (by omega)
  exact ⟨b, off, ha, hc k hk⟩

/-- A row of the call's own: n integers X. -/
def ints (n : Nat) (X : Nat → Int) : List Value := (List.range n).map fun i => .int .i64 (X i)
theorem ints_len (n : Nat) (X : Nat → Int) : (ints n X).length = n := by simp [ints]
theorem ints_succ (n : Nat) (X : Nat → Int) : ints (n + 1) X = ints n X ++ [.int .i64 (X n)] := by simp [ints, List.range_succ]
theorem ints_congr {n : Nat} {X Y : Nat → Int} (h : ∀ i, i < n → X i = Y i) : ints n X = ints n Y := by
  unfold ints
  exact List.map_congr_left fun i hi => by rw [h i (List.mem_range.1 hi)]
theorem ints_get {n i : Nat} (X : Nat → Int) (hi : i < n) : (ints n X)[i]? = some (.int .i64 (X i)) := by simp [ints, hi]
theorem ints_one {n : Nat} {X : Nat → Int} : ∀ u ∈ ints n X, u.oneCell' = true := by
  intro u hu
  obtain ⟨_, _, rfl⟩ := List.mem_map.1 hu
  rfl

def OwnI (w : World) (base : Nat) (v : Value) (n : Nat) (X : Nat → Int) : Prop := w.ownsRow base 3 1 v n (ints n X)

theorem OwnI.congr {w : World} {base n : Nat} {v : Value} {X Y : Nat → Int} (h : OwnI w base v n X) (e : ∀ i, i < n → X i = Y i) : OwnI w base v n Y := by
  unfold OwnI at *; rw [← ints_congr e]; exact h
theorem OwnI.nil (w : World) (base : Nat) (X : Nat → Int) : OwnI w base (.slice none 0 0) 0 X := World.ownsRow_nil _ _ _ _
/-- what it reads as -/
theorem OwnI.form {w : World} {base n : Nat} {v : Value} {X : Nat → Int} (h : OwnI w base v n X) : ∃ a cap, v = .slice a n cap ∧ IntsAt w a n X ∧ n ≤ cap ∧ cap ≤ maxLen := by
  rcases h.2 with ⟨rfl, rfl⟩ | ⟨g, cap, cur, rfl, hb, hg, hnc, hcm, hcs, htake⟩
  · exact ⟨none, 0, rfl, fun hn => by omega, Nat.le_refl _, by simp [maxLen]⟩
  · refine ⟨_, cap, rfl, fun _ => ⟨g, 0, rfl, fun i hi => ?_⟩, hnc, hcm⟩
    have := h.cells (g := g) rfl i (.int .i64 (X i)) (ints_get X hi)
    rwa [Addr.add_lit] at this
theorem OwnI.ext {w w' : World} {base n : Nat} {v : Value} {X : Nat → Int} (h : OwnI w base v n X) (e : Ext w w') : OwnI w' base v n X := by
  refine ⟨h.1, ?_⟩
  rcases h.2 with h0 | ⟨g, cap, cur, hv, hb, hg, r⟩
  · exact .inl h0
  · exact .inr ⟨g, cap, cur, hv, hb, ext_heap e hg, r⟩
theorem OwnI.le {w : World} {base base' n : Nat} {v : Value} {X : Nat → Int} (h : OwnI w base v n X) (hb : base' ≤ base) : OwnI w base' v n X := by
  refine ⟨h.1, ?_⟩
  rcases h.2 with h0 | ⟨g, cap, cur, hv, hg, r⟩
  · exact .inl h0
  · exact .inr ⟨g, cap, cur, hv, by omega, r⟩
/-- one more -/
theorem OwnI.push {w : World} {base n : Nat} {v : Value} {X : Nat → Int} {x : Int} (h : w.ownsRow base 3 1 v (n + 1) (ints n X ++ [.int .i64 x])) (e : x = X n) : OwnI w base v (n + 1) X := by
  unfold OwnI; rw [ints_succ, ← e]; exact h

/-- Of the blocks from lo to hi alone something may have turned; no block is new. -/
structure Within (lo hi : Nat) (w w' : World) : Prop where
  os : w'.os = w.os
  tape : w'.tape = w.tape
  output : w'.output = w.output
  size : w'.heap.size = w.heap.size
  block : ∀ k, (k < lo ∨ hi ≤ k) → w'.heap[k]? = w.heap[k]?
theorem Within.refl (lo hi : Nat) (w : World) : Within lo hi w w := ⟨rfl, rfl, rfl, rfl, fun _ _ => rfl⟩
theorem Within.trans {lo hi : Nat} {a b c : World} (h : Within lo hi a b) (k : Within lo hi b c) : Within lo hi a c :=
  ⟨k.os.trans h.os, k.tape.trans h.tape, k.output.trans h.output, k.size.trans h.size, fun i hi => (k.block i hi).trans (h.block i hi)⟩
theorem Within.below {lo hi : Nat} {w w' : World} (h : Within lo hi w w') : Below lo w w' := ⟨h.os, h.tape, h.output, by rw [h.size]; exact Nat.le_refl _, fun k hk => h.block k (.inl hk)⟩
theorem Within.mono {lo hi lo' hi' : Nat} {w w' : World} (h : Within lo hi w w') (h1 : lo' ≤ lo) (h2 : hi ≤ hi') : Within lo' hi' w w' :=
  ⟨h.os, h.tape, h.output, h.size, fun k hk => h.block k (by omega)⟩
theorem Within.drew {lo hi : Nat} {a w : World} (h : Within lo hi a w) : Within lo hi a w.drew := ⟨h.os, h.tape, h.output, h.size, h.block⟩
theorem Within.setCell {lo hi : Nat} {a w : World} (h : Within lo hi a w) {p : Addr} (h1 : lo ≤ p.block) (h2 : p.block < hi) (u : Value) : Within lo hi a (w.setCell p u) :=
  h.trans ⟨rfl, rfl, rfl, by simp [World.setCell], fun k hk => Below.heap_setCell _ _ _ _ (by omega)⟩
/-- what lies elsewhere stays -/
theorem OwnI.above {w w' : World} {lo hi base n : Nat} {v : Value} {X : Nat → Int} (h : OwnI w base v n X) (e : Within lo hi w w') (hb : hi ≤ base) : OwnI w' base v n X := by
  refine ⟨h.1, ?_⟩
  rcases h.2 with h0 | ⟨g, cap, cur, hv, hg, hh, r⟩
  · exact .inl h0
  · exact .inr ⟨g, cap, cur, hv, hg, by rw [e.block g (.inr (by omega))]; exact hh, r⟩
theorem IntsAt.below {w w' : World} {B : Nat} {a : Option Addr} {n : Nat} {X : Nat → Int} (h : IntsAt w a n X) (e : Below B w w') (hB : ∀ p, a = some p → p.block < B) : IntsAt w' a n X := fun hn => by
  obtain ⟨b, off, ha, hc⟩ := h hn
  refine ⟨b, off, ha, fun i hi => ?_⟩
  have hb : b < B := hB ⟨b, off, none⟩ ha
  rw [e.cell (p := ⟨b, off + i, none⟩) hb]; exact hc i hi
end Go.Proofs.Ytefgdkjcoeikmaa
