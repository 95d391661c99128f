/- Opening a law's arguments: what the given reading of an argument says, in the words of the walks. No condition. -/
import Derived.Test.YtefgdkjcoeikmaaBase
import Derived.Lib.SmallJoins
namespace Go.Proofs.Ytefgdkjcoeikmaa
open Go.ChangeShapes Go.WideShapes Go.RowKit Go.Deep Go.Joins

section
variable {H : Type} {enc : TypeId × Value → H} {P : Program} {w : World}

/-- the whole reading of a slice of ints that came in -/
theorem open_ints_arg {t e : TypeId} {a : Option Addr} {n c : Nat} {d : DataW H} {p : List MemPlace} (ht : P.underlying t = some (.slice e)) (he : P.underlying e = some (.int .i64)) (hc : P.cellsOf e = 1)
    (h : DataW.Trod enc P w 0 (fun _ => true) true t (.slice a n c) d p) : ∃ X : Nat → Int, IntsAt w a n X ∧ n ≤ c ∧ c ≤ maxLen ∧ ∀ i, i < n → (Lit.int .i64 (X i)).wf = true := by
  obtain ⟨fuel, hf⟩ := h
  rcases open_ints ht he hc hf with ⟨hcs, _⟩ | ⟨x, l, c', zs, hcs, _, hl, hm, hz, _, hcell, hwz⟩
  · simp [Value.cells] at hcs
    obtain ⟨rfl, rfl, rfl⟩ := hcs
    exact ⟨fun _ => 0, fun hn => by omega, Nat.le_refl _, by simp [maxLen], fun i hi => by omega⟩
  · simp [Value.cells] at hcs
    obtain ⟨rfl, rfl, rfl⟩ := hcs
    simp only [if_true] at hz
    refine ⟨fun i => zs.getD i 0, fun hn => ?_, hl, hm, fun i hi => hwz _ ?_⟩
    · obtain ⟨b, off, spot⟩ := x
      have h0 := hcell 0 (by omega)
      have hspot : spot = none := by simpa [Addr.add] using World.cell?_spot h0
      subst hspot
      refine ⟨b, off, rfl, fun i hi => ?_⟩
      have := hcell i (by omega)
      rwa [Addr.add_lit] at this
    · have hi' : i < zs.length := by omega
      simp [List.getD, hi']

/-- the same of bytes -/
def BytesAt (w : World) (a : Option Addr) (n : Nat) (X : Nat → Int) : Prop :=
  0 < n → ∃ b off, a = some ⟨b, off, none⟩ ∧ ∀ i, i < n → w.cell? ⟨b, off + i, none⟩ = some (.int .u8 (X i)) ∧ 0 ≤ X i ∧ X i ≤ 255
theorem BytesAt.ext {w w' : World} {a : Option Addr} {n : Nat} {X : Nat → Int} (h : BytesAt w a n X) (e : Ext w w') : BytesAt w' a n X := fun hn => by
  obtain ⟨b, off, ha, hc⟩ := h hn
  exact ⟨b, off, ha, fun i hi => ⟨ext_cell e (hc i hi).1, (hc i hi).2⟩⟩
theorem open_bytes_arg {t e : TypeId} {a : Option Addr} {n c : Nat} {d : DataW H} {p : List MemPlace} (ht : P.underlying t = some (.slice e)) (he : P.underlying e = some (.int .u8)) (hc : P.cellsOf e = 1)
    (h : DataW.Trod enc P w 0 (fun _ => true) true t (.slice a n c) d p) : ∃ X : Nat → Int, BytesAt w a n X ∧ n ≤ c ∧ c ≤ maxLen := by
  obtain ⟨fuel, hf⟩ := h
  rcases open_ints ht he hc hf with ⟨hcs, _⟩ | ⟨x, l, c', zs, hcs, _, hl, hm, hz, _, hcell, hwz⟩
  · simp [Value.cells] at hcs
    obtain ⟨rfl, rfl, rfl⟩ := hcs
    exact ⟨fun _ => 0, fun hn => by omega, Nat.le_refl _, by simp [maxLen]⟩
  · simp [Value.cells] at hcs
    obtain ⟨rfl, rfl, rfl⟩ := hcs
    simp only [if_true] at hz
    refine ⟨fun i => zs.getD i 0, fun hn => ?_, hl, hm⟩
    obtain ⟨b, off, spot⟩ := x
    have h0 := hcell 0 (by omega)
    have hspot : spot = none := by simpa [Addr.add] using World.cell?_spot h0
    subst hspot
    refine ⟨b, off, rfl, fun i hi => ?_⟩
    have h1 := hcell i (by omega)
    have hi' : i < zs.length := by omega
    have h2 := hwz (zs.getD i 0) (by simp [List.getD, hi'])
    rw [Addr.add_lit] at h1
    refine ⟨h1, ?_⟩
    simp [Lit.wf, IntKind.min, IntKind.max, IntKind.signed, IntKind.bits] at h2
    simpa using h2

/-- a slice of slices of ints -/
structure RowsAt (w : World) (a : Option Addr) (n : Nat) (A : Nat → Option Addr) (L C : Nat → Nat) (X : Nat → Nat → Int) : Prop where
  top : 0 < n → ∃ b off, a = some ⟨b, off, none⟩ ∧ ∀ i, i < n → w.cell? ⟨b, off + i, none⟩ = some (.slice (A i) (L i) (C i))
  row : ∀ i, i < n → IntsAt w (A i) (L i) (X i)
  le : ∀ i, i < n → L i ≤ C i ∧ C i ≤ maxLen
theorem RowsAt.ext {w w' : World} {a : Option Addr} {n : Nat} {A : Nat → Option Addr} {L C : Nat → Nat} {X : Nat → Nat → Int} (h : RowsAt w a n A L C X) (e : Ext w w') : RowsAt w' a n A L C X :=
  ⟨fun hn => by
    obtain ⟨b, off, ha, hc⟩ := h.top hn
    exact ⟨b, off, ha, fun i hi => ext_cell e (hc i hi)⟩, fun i hi => (h.row i hi).ext e, h.le⟩
theorem RowsAt.at_ {w : World} {a : Option Addr} {n k : Nat} {A : Nat → Option Addr} {L C : Nat → Nat} {X : Nat → Nat → Int} (h : RowsAt w a n A L C X) (hk : k < n) :
    ∃ b off, a = some ⟨b, off, none⟩ ∧ w.cell? ⟨b, off + k, none⟩ = some (.slice (A k) (L k) (C k)) := by
  obtain ⟨b, off, ha, hc⟩ := h.top (by omega)
  exact ⟨b, off, ha, hc k hk⟩

theorem open_rows_arg {t e q : TypeId} {a : Option Addr} {n c : Nat} {d : DataW H} {p : List MemPlace} (ht : P.underlying t = some (.slice e)) (he : P.underlying e = some (.slice q)) (hq : P.underlying q = some (.int .i64)) (ce : P.cellsOf e = 1) (cq : P.cellsOf q = 1)
    (h : DataW.Trod enc P w 0 (fun _ => true) true t (.slice a n c) d p) : ∃ A L C X, RowsAt w a n A L C X ∧ n ≤ c ∧ c ≤ maxLen ∧ ∀ i, i < n → ∀ j, j < L i → (Lit.int .i64 (X i j)).wf = true := by
  obtain ⟨fuel, hf⟩ := h
  rcases open_int_rows ht he hq ce cq hf with ⟨hcs, _⟩ | ⟨x, l, c', A, L, C, Z, hcs, _, hl, hm, _, hcell⟩
  · simp [Value.cells] at hcs
    obtain ⟨rfl, rfl, rfl⟩ := hcs
    exact ⟨fun _ => none, fun _ => 0, fun _ => 0, fun _ _ => 0, ⟨fun hn => by omega, fun i hi => by omega, fun i hi => by omega⟩, Nat.le_refl _, by simp [maxLen], fun i hi => by omega⟩
  · simp [Value.cells] at hcs
    obtain ⟨rfl, rfl, rfl⟩ := hcs
    refine ⟨A, L, C, fun i j => (Z i).getD j 0, ⟨fun hn => ?_, fun i hi hn => ?_, fun i hi => ?_⟩, hl, hm, fun i hi j hj => ?_⟩
    · obtain ⟨b, off, spot⟩ := x
      have h0 := (hcell 0 (by omega)).1
      have hspot : spot = none := by simpa [Addr.add] using World.cell?_spot h0
      subst hspot
      refine ⟨b, off, rfl, fun i hi => ?_⟩
      have := (hcell i (by omega)).1
      rwa [Addr.add_lit] at this
    · obtain ⟨_, h2, h3, h4, h5, h6, h7⟩ := hcell i (by omega)
      cases hA : A i with
      | none => have := h6 hA; omega
      | some x' =>
        obtain ⟨_, hc⟩ := h7 x' hA
        obtain ⟨b, off, spot⟩ := x'
        have h0 := hc 0 (by omega)
        have hspot : spot = none := by simpa [Addr.add] using World.cell?_spot h0
        subst hspot
        refine ⟨b, off, rfl, fun j hj => ?_⟩
        have := hc j (by omega)
        rwa [Addr.add_lit] at this
    · obtain ⟨_, h2, h3, _⟩ := hcell i (by omega)
      exact ⟨h2, h3⟩
    · obtain ⟨_, h2, h3, h4, h5, _⟩ := hcell i (by omega)
      have hj' : j < (Z i).length := by omega
      exact h5 _ (by simp [List.getD, hj'])

/-- a struct of two ints, by value -/
theorem open_pair_arg {r : Reach} {b0 : Nat} {t e : TypeId} {f0 f1 : Field} {v : Value} {d : DataW H} {p : List MemPlace} (hs : P.underlying t = some (.struct #[f0, f1])) (hone : oneCellFields P #[f0, f1] = true) (hC : P.cellsOf t = 2)
    (h0 : f0.type = e) (h1 : f1.type = e) (he : P.underlying e = some (.int .i64))
    (hv : Value.okWide P w r b0 t v) (h : DataW.Trod enc P w 0 (fun _ => true) true t v d p) :
    ∃ x y : Int, v = .agg #[.int .i64 x, .int .i64 y] ∧ (Lit.int .i64 x).wf = true ∧ (Lit.int .i64 y).wf = true := by
  obtain ⟨c0, c1, y0, y1, m, rfl, rfl, rfl, hy0, hy1⟩ := open_agg2 hs hone hC hv h
  subst h0
  obtain ⟨x, e0, _, wx⟩ := DataW.trod_int he hy0
  rw [h1] at hy1
  obtain ⟨y, e1, _, wy⟩ := DataW.trod_int he hy1
  simp at e0 e1
  subst e0 e1
  exact ⟨x, y, rfl, wx, wy⟩
/-- a struct of two structs of two ints, by value -/
theorem open_line_arg {r : Reach} {b0 : Nat} {t ft e : TypeId} {f0 f1 g0 g1 : Field} {v : Value} {d : DataW H} {p : List MemPlace} (hs : P.underlying t = some (.struct #[f0, f1])) (hf : P.underlying ft = some (.struct #[g0, g1])) (hC : P.cellsOf t = 4) (hCf : P.cellsOf ft = 2) (ce : P.cellsOf e = 1)
    (k0 : f0.type = ft ∧ f0.offset = 0) (k1 : f1.type = ft ∧ f1.offset = 2) (q0 : g0.type = e ∧ g0.offset = 0) (q1 : g1.type = e ∧ g1.offset = 1) (he : P.underlying e = some (.int .i64))
    (hv : Value.okWide P w r b0 t v) (h : DataW.Trod enc P w 0 (fun _ => true) true t v d p) :
    ∃ a b c d' : Int, v = .agg #[.int .i64 a, .int .i64 b, .int .i64 c, .int .i64 d'] ∧ (Lit.int .i64 a).wf = true ∧ (Lit.int .i64 b).wf = true ∧ (Lit.int .i64 c).wf = true ∧ (Lit.int .i64 d').wf = true := by
  obtain ⟨cs, rfl, hsz⟩ := okWide_struct hs hv
  obtain ⟨c0, c1, c2, c3, rfl⟩ := array4 (hsz.trans hC)
  obtain ⟨fuel, hfu⟩ := h
  obtain ⟨y0, y1, n, _, _, h0, h1⟩ := trod_struct2 hs hfu
  rw [k0.1, k0.2, hCf] at h0
  rw [k1.1, k1.2, hCf] at h1
  simp [Value.cells] at h0 h1
  obtain ⟨z0, z1, m, _, _, i0, i1⟩ := trod_struct2 hf h0
  obtain ⟨z2, z3, m', _, _, i2, i3⟩ := trod_struct2 hf h1
  rw [q0.1, q0.2, ce] at i0 i2
  rw [q1.1, q1.2, ce] at i1 i3
  obtain ⟨a, e0, _, wa⟩ := DataW.trod_int he i0
  obtain ⟨b, e1, _, wb⟩ := DataW.trod_int he i1
  obtain ⟨c, e2, _, wc⟩ := DataW.trod_int he i2
  obtain ⟨d', e3, _, wd⟩ := DataW.trod_int he i3
  simp at e0 e1 e2 e3
  subst e0 e1 e2 e3
  exact ⟨a, b, c, d', rfl, wa, wb, wc, wd⟩
end
end Go.Proofs.Ytefgdkjcoeikmaa
