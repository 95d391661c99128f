/- Appending one slice of integers to another, and cutting a slice. No condition but those of each lemma. -/
import Derived.Test.YtefgdkjcoeikmaaMem2
namespace Go.Proofs.Ytefgdkjcoeikmaa
open Go.RowKit
set_option linter.unusedVariables false

/-- X, then Y -/
def joinF (n : Nat) (X Y : Nat → Int) : Nat → Int := fun i => if i < n then X i else Y (i - n)
theorem ints_append (n m : Nat) (X Y : Nat → Int) : ints n X ++ ints m Y = ints (n + m) (joinF n X Y) := by
  apply List.ext_getElem?
  intro j
  by_cases h1 : j < n
  · rw [List.getElem?_append_left (by rw [ints_len]; exact h1), ints_get _ h1, ints_get _ (by omega)]
    simp [joinF, h1]
  · rw [List.getElem?_append_right (by rw [ints_len]; omega), ints_len]
    by_cases h2 : j < n + m
    · rw [ints_get _ (by omega), ints_get _ h2]
      simp [joinF, h1]
    · rw [List.getElem?_eq_none (by rw [ints_len]; omega), List.getElem?_eq_none (by rw [ints_len]; omega)]
/-- the head of a slice -/
theorem IntsAt.take {w : World} {a : Option Addr} {n k : Nat} {X : Nat → Int} (h : IntsAt w a n X) (hk : k ≤ n) : IntsAt w a k X := fun h0 => by
  obtain ⟨b, off, ha, hc⟩ := h (by omega)
  exact ⟨b, off, ha, fun i hi => hc i (by omega)⟩
/-- what follows element k -/
theorem IntsAt.drop {w : World} {b off n k : Nat} {X : Nat → Int} (h : IntsAt w (some ⟨b, off, none⟩) n X) : IntsAt w (some ⟨b, off + k, none⟩) (n - k) (fun i => X (k + i)) := fun h0 => by
  obtain ⟨b', off', ha, hc⟩ := h (by omega)
  simp only [Option.some.injEq, Addr.mk.injEq, and_true] at ha
  obtain ⟨rfl, rfl⟩ := ha
  exact ⟨b, off + k, rfl, fun i hi => by rw [Nat.add_assoc]; exact hc (k + i) (by omega)⟩

section
variable {P : Program}
theorem run_append_none (w : World) (lo hi : Nat) (t ty : TypeId) (i : TypeInfo) (ht : P.underlying t = some (.slice 3)) (hi' : P.info? 3 = some i)
    (v : Value) (n c : Nat) (X : Nat → Int) (hown : OI w lo hi v n X) : (Builtin.append_ #[t, t] ty #[v, .slice none 0 c]).run P w = .ok v w := by
  rcases hown.1.2 with ⟨rfl, rfl⟩ | ⟨g, cap, cur, rfl, _, _, hnc, _⟩
  · simp [Builtin.append_, run_underlying ht, sizeOf, typeInfo, hi', Builtin.lenOf, Builtin.firstCells]
  · simp [Builtin.append_, run_underlying ht, sizeOf, typeInfo, hi', Builtin.lenOf, Builtin.firstCells, hnc, storeCells]
theorem run_append_ints (w : World) (lo hi : Nat) (t ty : TypeId) (ht : P.underlying t = some (.slice 3)) (hinfo : (P.info? 3).map (fun i => (i.zero, i.size, i.bytes)) = some (some (.int .i64 0), 1, 8))
    (sa : Option Addr) (n sc : Nat) (X : Nat → Int) (hown : OI w lo hi (.slice sa n sc) n X) (A : Option Addr) (m c : Nat) (Y : Nat → Int) (hr : IntsAt w A m Y) (hn : n + m ≤ 1099511627776) (hb : lo ≤ w.heap.size) :
    ∃ a' c' w', (Builtin.append_ #[t, t] ty #[.slice sa n sc, .slice A m c]).run P w = .ok (.slice a' (n + m) c') w' ∧ OI w' lo w'.heap.size (.slice a' (n + m) c') (n + m) (joinF n X Y) ∧ Below lo w w' := by
  obtain ⟨i, hi1, hi2, hi3, hi4⟩ := info_parts hinfo
  rcases A with _ | ad
  · have hm : m = 0 := by
      rcases Nat.eq_zero_or_pos m with h0 | h0
      · exact h0
      · obtain ⟨b, off, h, _⟩ := hr h0; cases h
    subst hm
    refine ⟨sa, sc, w, run_append_none w lo hi t ty i ht hi1 _ n c X hown, ?_, Below.refl _ _⟩
    exact (hown.congr (fun i hi => by simp [joinF, hi])).now
  · have hcells : ∀ j u, (ints m Y)[j]? = some u → w.cell? (ad.add j) = some u := by
      intro j u hu
      have hj : j < m := by
        have := (List.getElem?_eq_some_iff.1 hu).1
        rwa [ints_len] at this
      obtain ⟨b, off, h, hc⟩ := hr (by omega)
      simp only [Option.some.injEq] at h
      subst h
      rw [ints_get _ hj] at hu
      rw [Addr.add_lit, hc j hj]; exact hu
    obtain ⟨v', w', hrun, h2, h3, _⟩ := run_append_own (P := P) w lo t ty 3 i (.int .i64 0) 1 8 ht hi1 hi2 hi3 hi4 rfl (by decide) (.slice sa n sc) n (ints n X) hown.1 ad m c (ints m Y) (by rw [ints_len]; omega) hcells ints_one (by simp only [maxLen]; omega) (by omega) hb
    rw [ints_append] at h2
    have hO : OI w' lo w'.heap.size v' (n + m) (joinF n X Y) := ⟨h2, fun g hg => (h2.lt g hg).2⟩
    obtain ⟨a', c', rfl⟩ := hO.form
    exact ⟨a', c', w', hrun, hO, (Below.refl _ _).grown h3 hb (fun k hk => (hown.1.lt k hk).1)⟩
variable {ops : Array Oper} {rest : List Oper} {o : Oper} {a : Act} {Q : Exit → Act → World → Prop}
theorem wp_append_ints {K : Act → World → Prop} (s x : Operand) (t : TypeId) (ho : o.op = .call { callee := .builtin .append, args := #[s, x], argTypes := #[t, t] })
    (ht : P.underlying t = some (.slice 3)) (hinfo : (P.info? 3).map (fun i => (i.zero, i.size, i.bytes)) = some (some (.int .i64 0), 1, 8))
    (w : World) (lo hi n : Nat) (X : Nat → Int) (sa : Option Addr) (sc : Nat) (hs : a.eval s = .slice sa n sc) (hown : OI w lo hi (.slice sa n sc) n X)
    (A : Option Addr) (m c : Nat) (Y : Nat → Int) (hx : a.eval x = .slice A m c) (hr : IntsAt w A m Y) (hn : n + m ≤ 1099511627776) (hb : lo ≤ w.heap.size)
    (h : ∀ a' c' w', OI w' lo w'.heap.size (.slice a' (n + m) c') (n + m) (joinF n X Y) → Below lo w w' → K (a.put o.dst (.slice a' (n + m) c')) w') : o.wp P a w K Q := by
  obtain ⟨a', c', w', hrun, h2, h3⟩ := run_append_ints (P := P) w lo hi t o.type ht hinfo sa n sc X hown A m c Y hr hn hb
  unfold Oper.wp execOp
  simp only [ho, resolve, invoke, builtin, Sem.run_bind, Sem.run_pure, Result.andThen_ok, List.map_toArray, List.map_cons, List.map_nil, hs, hx, hrun]
  exact h a' c' w' h2 h3
theorem wpList_append_ints (hgd : o.guard = none) (s x : Operand) (t : TypeId) (ho : o.op = .call { callee := .builtin .append, args := #[s, x], argTypes := #[t, t] })
    (ht : P.underlying t = some (.slice 3)) (hinfo : (P.info? 3).map (fun i => (i.zero, i.size, i.bytes)) = some (some (.int .i64 0), 1, 8))
    (w : World) (lo hi n : Nat) (X : Nat → Int) (sa : Option Addr) (sc : Nat) (hs : a.eval s = .slice sa n sc) (hown : OI w lo hi (.slice sa n sc) n X)
    (A : Option Addr) (m c : Nat) (Y : Nat → Int) (hx : a.eval x = .slice A m c) (hr : IntsAt w A m Y) (hn : n + m ≤ 1099511627776) (hb : lo ≤ w.heap.size)
    (h : ∀ a' c' w', OI w' lo w'.heap.size (.slice a' (n + m) c') (n + m) (joinF n X Y) → Below lo w w' → wpList P ops Q rest (a.put o.dst (.slice a' (n + m) c')) w') : wpList P ops Q (o :: rest) a w :=
  wpList_plain hgd fun _ hK => wp_append_ints s x t ho ht hinfo w lo hi n X sa sc hs hown A m c Y hx hr hn hb fun a' c' w' h1 h2 => hK _ _ (h a' c' w' h1 h2)
theorem step_append_ints {K : Act → World → Prop} {E : Prop} (hgd : o.guard = none) (s x : Operand) (t : TypeId) (ho : o.op = .call { callee := .builtin .append, args := #[s, x], argTypes := #[t, t] })
    (ht : P.underlying t = some (.slice 3)) (hinfo : (P.info? 3).map (fun i => (i.zero, i.size, i.bytes)) = some (some (.int .i64 0), 1, 8))
    (w : World) (lo hi n : Nat) (X : Nat → Int) (sa : Option Addr) (sc : Nat) (hs : a.eval s = .slice sa n sc) (hown : OI w lo hi (.slice sa n sc) n X)
    (A : Option Addr) (m c : Nat) (Y : Nat → Int) (hx : a.eval x = .slice A m c) (hr : IntsAt w A m Y) (hn : n + m ≤ 1099511627776) (hb : lo ≤ w.heap.size)
    (h : ∀ a' c' w', OI w' lo w'.heap.size (.slice a' (n + m) c') (n + m) (joinF n X Y) → Below lo w w' → K (a.put o.dst (.slice a' (n + m) c')) w') :
    if Region.wanted o (yielded ops a.tmps) = true then Oper.wp P o a w K Q else E := by
  have hw : Region.wanted o (yielded ops a.tmps) = true := by simp [Region.wanted, hgd]
  rw [if_pos hw]
  exact wp_append_ints s x t ho ht hinfo w lo hi n X sa sc hs hown A m c Y hx hr hn hb h
end

/-- what follows element k, as the model cuts it -/
theorem IntsAt.cut {w : World} {b off n k cap : Nat} {X : Nat → Int} (h : IntsAt w (some ⟨b, off, none⟩) n X) (hc : n ≤ cap) : IntsAt w (if cap = k then some ⟨b, off, none⟩ else some ⟨b, off + k, none⟩) (n - k) (fun i => X (k + i)) := by
  by_cases e : cap = k
  · rw [if_pos e]; intro h0; omega
  · rw [if_neg e]; exact h.drop
section
variable {P : Program} {ops : Array Oper} {rest : List Oper} {o : Oper} {a : Act} {Q : Exit → Act → World → Prop}
/-- 'out = append(out, r)' at a step of a region that draws its order -/
theorem step_push_row {K : Act → World → Prop} {E : Prop} (hgd : o.guard = none) (s x : Operand) (t : TypeId) (ho : o.op = .call { callee := .builtin .append, args := #[s, x], argTypes := #[t, t] })
    (ht : P.underlying t = some (.slice 23)) (hinfo : (P.info? 23).map (fun i => (i.zero, i.size, i.bytes)) = some (some (.slice none 0 0), 1, 24))
    (w : World) (lo mid n : Nat) (A : Nat → Option Addr) (L C : Nat → Nat) (X : Nat → Nat → Int) (ra : Option Addr) (rc : Nat) (sa : Option Addr) (sc hi : Nat) (hs : a.eval s = .slice sa n sc) (hown : OR w lo mid (.slice sa n sc) n A L C X)
    (hrow : OI w mid hi (.slice ra (L n) rc) (L n) (X n))
    (ad : Addr) (c : Nat) (hx : a.eval x = .slice (some ad) 1 c) (hc : w.cell? ad = some (.slice ra (L n) rc)) (hn : n ≤ 1099511627776) (hb : lo ≤ mid) (hm : mid ≤ w.heap.size)
    (h : ∀ g' c' A' C' w', OR w' lo w'.heap.size (.slice (some ⟨g', 0, none⟩) (n + 1) c') (n + 1) A' L C' X → Below lo w w' → K (a.put o.dst (.slice (some ⟨g', 0, none⟩) (n + 1) c')) w') :
    if Region.wanted o (yielded ops a.tmps) = true then Oper.wp P o a w K Q else E := by
  have hw : Region.wanted o (yielded ops a.tmps) = true := by simp [Region.wanted, hgd]
  rw [if_pos hw]
  exact wp_push_row s x t ho ht hinfo w lo mid n A L C X ra rc sa sc hi hs hown hrow ad c hx hc hn hb hm h
end
end Go.Proofs.Ytefgdkjcoeikmaa
