/- Rows appended to rows. No condition but those of each lemma. -/
import Derived.Test.YtefgdkjcoeikmaaGrow
namespace Go.Proofs.Ytefgdkjcoeikmaa
open Go.RowKit
set_option linter.unusedVariables false

def joinA {α : Type} (n : Nat) (f g : Nat → α) : Nat → α := fun i => if i < n then f i else g (i - n)
theorem joinA_lt {α : Type} {n : Nat} {f g : Nat → α} {i : Nat} (h : i < n) : joinA n f g i = f i := by simp [joinA, h]
theorem joinA_ge {α : Type} {n : Nat} {f g : Nat → α} {i : Nat} (h : ¬ i < n) : joinA n f g i = g (i - n) := by simp [joinA, h]
theorem rowsV_append (n m : Nat) (A B : Nat → Option Addr) (L M C D : Nat → Nat) : rowsV n A L C ++ rowsV m B M D = rowsV (n + m) (joinA n A B) (joinA n L M) (joinA n C D) := by
  apply List.ext_getElem?
  intro j
  by_cases h1 : j < n
  · rw [List.getElem?_append_left (by rw [rowsV_len]; exact h1), rowsV_get _ _ _ h1, rowsV_get _ _ _ (by omega), joinA_lt h1, joinA_lt h1, joinA_lt h1]
  · rw [List.getElem?_append_right (by rw [rowsV_len]; omega), rowsV_len]
    by_cases h2 : j < n + m
    · rw [rowsV_get _ _ _ (by omega), rowsV_get _ _ _ h2, joinA_ge h1, joinA_ge h1, joinA_ge h1]
    · rw [List.getElem?_eq_none (by rw [rowsV_len]; omega), List.getElem?_eq_none (by rw [rowsV_len]; omega)]
theorem rows_one {n : Nat} {A : Nat → Option Addr} {L C : Nat → Nat} : ∀ u ∈ rowsV n A L C, u.oneCell' = true := by
  intro u hu
  obtain ⟨i, _, rfl⟩ := List.mem_map.1 hu
  rfl
section
variable {P : Program}
theorem run_append_rows (w : World) (t ty : TypeId) (ht : P.underlying t = some (.slice 23)) (hinfo : (P.info? 23).map (fun i => (i.zero, i.size, i.bytes)) = some (some (.slice none 0 0), 1, 24))
    (lo hi hi2 n m : Nat) (A B : Nat → Option Addr) (L M C D : Nat → Nat) (X Y : Nat → Nat → Int) (sa : Option Addr) (sc : Nat) (hown : OR w lo hi (.slice sa n sc) n A L C X)
    (ad : Addr) (c : Nat) (hsrc : OR w lo hi2 (.slice (some ad) m c) m B M D Y) (hap : ∀ i j, i < n → j < m → ∀ p q, A i = some p → B j = some q → p.block ≠ q.block) (hn : n + m ≤ 1099511627776) (hb : lo ≤ w.heap.size) :
    ∃ a' c' w', (Builtin.append_ #[t, t] ty #[.slice sa n sc, .slice (some ad) m c]).run P w = .ok (.slice a' (n + m) c') w' ∧ OR w' lo w'.heap.size (.slice a' (n + m) c') (n + m) (joinA n A B) (joinA n L M) (joinA n C D) (joinA n X Y) ∧ Grew (.slice sa n sc) (.slice a' (n + m) c') w w' := by
  obtain ⟨i, hi1, hi2', hi3, hi4⟩ := info_parts hinfo
  have hcells : ∀ j u, (rowsV m B M D)[j]? = some u → w.cell? (ad.add j) = some u := by
    rcases hsrc.top.2 with ⟨h0, _⟩ | ⟨g, cap, cur, hv, _⟩
    · cases h0
    · simp only [Value.slice.injEq, Option.some.injEq] at hv
      obtain ⟨rfl, _, rfl⟩ := hv
      exact hsrc.top.cells (g := g) rfl
  obtain ⟨v', w', hr, h2, h3⟩ := run_append2 (P := P) w lo t ty 23 i (.slice none 0 0) 1 24 ht hi1 hi2' hi3 hi4 rfl (by decide) (.slice sa n sc) n (rowsV n A L C) hown.top ad m c (rowsV m B M D) (by rw [rowsV_len]; omega) hcells rows_one (by simp only [maxLen]; omega) (by omega) hb
  rw [rowsV_append] at h2
  have hO : OR w' lo w'.heap.size v' (n + m) (joinA n A B) (joinA n L M) (joinA n C D) (joinA n X Y) := by
    refine ⟨h2, fun g hg => (h2.lt g hg).2, fun k hk => ?_, fun k j hk hj hkj p q hp hq => ?_⟩
    · by_cases e : k < n
      · rw [joinA_lt e, joinA_lt e, joinA_lt e, joinA_lt e]
        exact ((hown.row k e).grown h3.1 (fun b hb' hv => hown.top_ne (hown.row k e) b hv hb')).now
      · rw [joinA_ge e, joinA_ge e, joinA_ge e, joinA_ge e]
        exact ((hsrc.row (k - n) (by omega)).grown h3.1 (fun b hb' hv => hown.top_ne (hsrc.row (k - n) (by omega)) b hv hb')).now
    · by_cases e1 : k < n
      · rw [joinA_lt e1] at hp
        by_cases e2 : j < n
        · rw [joinA_lt e2] at hq
          exact hown.apart k j e1 e2 hkj p q hp hq
        · rw [joinA_ge e2] at hq
          exact hap k (j - n) e1 (by omega) p q hp hq
      · rw [joinA_ge e1] at hp
        by_cases e2 : j < n
        · rw [joinA_lt e2] at hq
          exact (hap j (k - n) e2 (by omega) q p hq hp).symm
        · rw [joinA_ge e2] at hq
          exact hsrc.apart (k - n) (j - n) (by omega) (by omega) (by omega) p q hp hq
  obtain ⟨a', c', rfl⟩ := hO.form
  exact ⟨a', c', w', hr, hO, h3⟩
variable {ops : Array Oper} {rest : List Oper} {o : Oper} {a : Act} {Q : Exit → Act → World → Prop}
theorem wp_append_rows {K : Act → World → Prop} (s x : Operand) (t : TypeId) (ho : o.op = .call { callee := .builtin .append, args := #[s, x], argTypes := #[t, t] })
    (ht : P.underlying t = some (.slice 23)) (hinfo : (P.info? 23).map (fun i => (i.zero, i.size, i.bytes)) = some (some (.slice none 0 0), 1, 24))
    (w : World) (lo hi hi2 n m : Nat) (A B : Nat → Option Addr) (L M C D : Nat → Nat) (X Y : Nat → Nat → Int) (sa : Option Addr) (sc : Nat) (hs : a.eval s = .slice sa n sc) (hown : OR w lo hi (.slice sa n sc) n A L C X)
    (ad : Addr) (c : Nat) (hx : a.eval x = .slice (some ad) m c) (hsrc : OR w lo hi2 (.slice (some ad) m c) m B M D Y) (hap : ∀ i j, i < n → j < m → ∀ p q, A i = some p → B j = some q → p.block ≠ q.block) (hn : n + m ≤ 1099511627776) (hb : lo ≤ w.heap.size)
    (h : ∀ a' c' w', OR w' lo w'.heap.size (.slice a' (n + m) c') (n + m) (joinA n A B) (joinA n L M) (joinA n C D) (joinA n X Y) → Grew (.slice sa n sc) (.slice a' (n + m) c') w w' → K (a.put o.dst (.slice a' (n + m) c')) w') : o.wp P a w K Q := by
  obtain ⟨a', c', w', hr, h2, h3⟩ := run_append_rows (P := P) w t o.type ht hinfo lo hi hi2 n m A B L M C D X Y sa sc hown ad c hsrc hap hn hb
  unfold Oper.wp execOp
  simp only [ho, resolve, invoke, builtin, Sem.run_bind, Sem.run_pure, Result.andThen_ok, List.map_toArray, List.map_cons, List.map_nil, hs, hx, hr]
  exact h a' c' w' h2 h3
theorem wpList_append_rows (hgd : o.guard = none) (s x : Operand) (t : TypeId) (ho : o.op = .call { callee := .builtin .append, args := #[s, x], argTypes := #[t, t] })
    (ht : P.underlying t = some (.slice 23)) (hinfo : (P.info? 23).map (fun i => (i.zero, i.size, i.bytes)) = some (some (.slice none 0 0), 1, 24))
    (w : World) (lo hi hi2 n m : Nat) (A B : Nat → Option Addr) (L M C D : Nat → Nat) (X Y : Nat → Nat → Int) (sa : Option Addr) (sc : Nat) (hs : a.eval s = .slice sa n sc) (hown : OR w lo hi (.slice sa n sc) n A L C X)
    (ad : Addr) (c : Nat) (hx : a.eval x = .slice (some ad) m c) (hsrc : OR w lo hi2 (.slice (some ad) m c) m B M D Y) (hap : ∀ i j, i < n → j < m → ∀ p q, A i = some p → B j = some q → p.block ≠ q.block) (hn : n + m ≤ 1099511627776) (hb : lo ≤ w.heap.size)
    (h : ∀ a' c' w', OR w' lo w'.heap.size (.slice a' (n + m) c') (n + m) (joinA n A B) (joinA n L M) (joinA n C D) (joinA n X Y) → Grew (.slice sa n sc) (.slice a' (n + m) c') w w' → wpList P ops Q rest (a.put o.dst (.slice a' (n + m) c')) w') : wpList P ops Q (o :: rest) a w :=
  wpList_plain hgd fun _ hK => wp_append_rows s x t ho ht hinfo w lo hi hi2 n m A B L M C D X Y sa sc hs hown ad c hx hsrc hap hn hb fun a' c' w' h1 h2 => hK _ _ (h a' c' w' h1 h2)
end
/-- a literal of one row -/
theorem OR.lit1 {w : World} {lo hi n rc : Nat} {ra : Option Addr} {X : Nat → Int} (h : OI w lo hi (.slice ra n rc) n X) (hh : hi ≤ w.heap.size) (hl : lo ≤ w.heap.size) :
    OR (w.alloc (.cells #[.slice ra n rc] 23)) lo (w.heap.size + 1) (.slice (some ⟨w.heap.size, 0, none⟩) 1 1) 1 (fun _ => ra) (fun _ => n) (fun _ => rc) (fun _ => X) := by
  have ht := World.ownsRow_lit (base := lo) (e := 23) (size := 1) w #[.slice ra n rc] 1 hl (by simp [maxLen]) (by simp)
  refine ⟨by simpa [rowsV] using ht, by simp [Value.ownBlock], fun i _ => (h.ext (ext_alloc (ext_refl _) _)).mono (Nat.le_refl _) (by omega), fun i j hi hj hij => by omega⟩
end Go.Proofs.Ytefgdkjcoeikmaa
