/- A slice of fractions that grows while another slice lies beside it. No condition but those of each lemma. -/
import Derived.Test.YtefgdkjcoeikmaaGrow
import Derived.Test.YtefgdkjcoeikmaaFracS
namespace Go.Proofs.Ytefgdkjcoeikmaa
open Go.RowKit
set_option linter.unusedVariables false
section
variable {P : Program} {ops : Array Oper} {rest : List Oper} {o : Oper} {a : Act} {Q : Exit → Act → World → Prop}
theorem wp_push_frac2 {K : Act → World → Prop} (s x : Operand) (t : TypeId) (ho : o.op = .call { callee := .builtin .append, args := #[s, x], argTypes := #[t, t] })
    (ht : P.underlying t = some (.slice 41)) (hinfo : (P.info? 41).map (fun i => (i.zero, i.size, i.bytes)) = some (some (.agg #[.int .i64 0, .int .i64 0]), 2, 16))
    (w : World) (lo n : Nat) (T B : Nat → Int) (y z : Int) (sa : Option Addr) (sc hi : Nat) (hs : a.eval s = .slice sa n sc) (hown : OF w lo hi (.slice sa n sc) n T B)
    (ad : Addr) (c : Nat) (hx : a.eval x = .slice (some ad) 1 c) (hc : w.cell? ad = some (.int .i64 y)) (hc1 : w.cell? (ad.add 1) = some (.int .i64 z)) (hy : T n = y) (hz : B n = z) (hn : n ≤ 1099511627776) (hb : lo ≤ w.heap.size)
    (h : ∀ g' c' w', OF w' lo w'.heap.size (.slice (some ⟨g', 0, none⟩) (n + 1) c') (n + 1) T B → Grew (.slice sa n sc) (.slice (some ⟨g', 0, none⟩) (n + 1) c') w w' → K (a.put o.dst (.slice (some ⟨g', 0, none⟩) (n + 1) c')) w') : o.wp P a w K Q := by
  obtain ⟨i, hi1, hi2, hi3, hi4⟩ := info_parts hinfo
  obtain ⟨v', w', hr, h2, h3⟩ := run_append2 (P := P) w lo t o.type 41 i (.agg #[.int .i64 0, .int .i64 0]) 2 16 ht hi1 hi2 hi3 hi4 rfl (by decide) (.slice sa n sc) n (fr2 T B n) hown.1 ad 1 c [.int .i64 y, .int .i64 z] rfl (by
    intro j u hj
    match j, hj with
    | 0, hj =>
      simp at hj; subst hj
      have : ad.add 0 = ad := by unfold Addr.add; simp
      rw [this]; exact hc
    | 1, hj => simp at hj; subst hj; exact hc1) (by intro u hu; simp at hu; rcases hu with rfl | rfl <;> rfl) (by simp only [maxLen]; omega) (by omega) hb
  have hO : OF w' lo w'.heap.size v' (n + 1) T B := by
    refine ⟨?_, fun g hgg => (h2.lt g hgg).2⟩
    simp only [fr2]; rw [hy, hz]; exact h2
  obtain ⟨g', c', rfl⟩ := hO.form1
  unfold Oper.wp execOp
  simp only [ho, resolve, invoke, builtin, Sem.run_bind, Sem.run_pure, Result.andThen_ok, List.map_toArray, List.map_cons, List.map_nil, hs, hx, hr]
  exact h g' c' w' hO h3
theorem wpList_push_frac2 (hgd : o.guard = none) (s x : Operand) (t : TypeId) (ho : o.op = .call { callee := .builtin .append, args := #[s, x], argTypes := #[t, t] })
    (ht : P.underlying t = some (.slice 41)) (hinfo : (P.info? 41).map (fun i => (i.zero, i.size, i.bytes)) = some (some (.agg #[.int .i64 0, .int .i64 0]), 2, 16))
    (w : World) (lo n : Nat) (T B : Nat → Int) (y z : Int) (sa : Option Addr) (sc hi : Nat) (hs : a.eval s = .slice sa n sc) (hown : OF w lo hi (.slice sa n sc) n T B)
    (ad : Addr) (c : Nat) (hx : a.eval x = .slice (some ad) 1 c) (hc : w.cell? ad = some (.int .i64 y)) (hc1 : w.cell? (ad.add 1) = some (.int .i64 z)) (hy : T n = y) (hz : B n = z) (hn : n ≤ 1099511627776) (hb : lo ≤ w.heap.size)
    (h : ∀ g' c' w', OF w' lo w'.heap.size (.slice (some ⟨g', 0, none⟩) (n + 1) c') (n + 1) T B → Grew (.slice sa n sc) (.slice (some ⟨g', 0, none⟩) (n + 1) c') w w' → wpList P ops Q rest (a.put o.dst (.slice (some ⟨g', 0, none⟩) (n + 1) c')) w') : wpList P ops Q (o :: rest) a w :=
  wpList_plain hgd fun _ hK => wp_push_frac2 s x t ho ht hinfo w lo n T B y z sa sc hi hs hown ad c hx hc hc1 hy hz hn hb fun g' c' w' h1 h2 => hK _ _ (h g' c' w' h1 h2)
end
end Go.Proofs.Ytefgdkjcoeikmaa
