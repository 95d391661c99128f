/- Two slices that grow side by side; rows appended to rows. No condition but those of each lemma. -/
import Derived.Test.YtefgdkjcoeikmaaMem2
import Derived.Test.YtefgdkjcoeikmaaApp
import Derived.ArgAppend
import Derived.Laws.OwnMore
namespace Go.Proofs.Ytefgdkjcoeikmaa
open Go.RowKit
set_option linter.unusedVariables false

/-- v grew into v': no other block changed, and v' lies where v lay or in a new block -/
def Grew (v v' : Value) (w w' : World) : Prop := w.grownBy w' v.ownBlock ∧ (v'.ownBlock = v.ownBlock ∨ ∀ k, v'.ownBlock = some k → w.heap.size ≤ k)
section
variable {P : Program}
theorem run_append2 (w : World) (base : Nat) (t ty e : TypeId) (i : TypeInfo) (z : Value) (size bytes : Nat) (ht : P.underlying t = some (.slice e)) (hi : P.info? e = some i) (hz : i.zero = some z)
    (hsize : i.size = size) (hby : i.bytes = bytes) (hzs : z.cells.size = size) (hsz : 0 < size)
    (v : Value) (n : Nat) (xs : List Value) (hown : w.ownsRow base e size v n xs)
    (a : Addr) (m c : Nat) (news : List Value) (hl : news.length = m * size) (hnews : ∀ j u, news[j]? = some u → w.cell? (a.add j) = some u) (h1 : ∀ u ∈ news, u.oneCell' = true)
    (h63 : n + m ≤ maxLen) (hbytes : (n + m) * bytes ≤ 140737488355328) (hbase : base ≤ w.heap.size) :
    ∃ v' w', (Builtin.append_ #[t, t] ty #[v, .slice (some a) m c]).run P w = .ok v' w' ∧ w'.ownsRow base e size v' (n + m) (xs ++ news) ∧ Grew v v' w w' := by
  have hlow : ∀ {w' : World} {v' : Value} {l : List Value} {q : Nat}, w'.ownsRow w.heap.size e size v' q l → w'.ownsRow base e size v' q l := by
    intro w' v' l q h
    refine ⟨h.1, ?_⟩
    rcases h.2 with h0 | ⟨g, cap, cur, hv, hb, r⟩
    · exact .inl h0
    · exact .inr ⟨g, cap, cur, hv, by omega, r⟩
  rcases hown.2 with ⟨rfl, rfl⟩ | ⟨g, cap, cur, rfl, hbg, hg, hnc, hcm, hcs, htake⟩
  · have hx : xs = [] := List.eq_nil_of_length_eq_zero (by simpa using hown.1)
    subst hx
    obtain ⟨v', w', hr, h2, h3, _⟩ := run_append_own (P := P) w w.heap.size t ty e i z size bytes ht hi hz hsize hby hzs hsz (.slice none 0 0) 0 [] (World.ownsRow_nil w w.heap.size e size) a m c news hl hnews h1 h63 hbytes (Nat.le_refl _)
    exact ⟨v', w', hr, hlow h2, h3, .inr fun k hk => (h2.lt k hk).1⟩
  · by_cases hroom : n + m ≤ cap
    · obtain ⟨w', hr, h2, h3⟩ := run_append_fits (P := P) w base t ty e i size ht hi hsize g n cap xs hown a m c news hl hnews h1 hroom
      exact ⟨_, w', hr, h2, h3, .inl rfl⟩
    · obtain ⟨v', w', hr, h2, h3⟩ := run_append_arg_grows (P := P) w t ty e i z size bytes ht hi hz hsize hby hzs hsz ⟨g, 0, none⟩ n cap xs hown.1 (hown.cells (g := g) rfl) a m c news hl hnews (by omega) h63 hbytes
      exact ⟨v', w', hr, hlow h2, ⟨h3.os, h3.tape, h3.output, h3.size, fun k hk _ => h3.block k hk (by simp)⟩, .inr fun k hk => (h2.lt k hk).1⟩
theorem Grew.below {v v' : Value} {w w' : World} {lo : Nat} (h : Grew v v' w w') (hb : lo ≤ w.heap.size) (hv : ∀ k, v.ownBlock = some k → lo ≤ k) : Below lo w w' := (Below.refl _ _).grown h.1 hb hv

theorem run_push_int2 (w : World) (t ty : TypeId) (ht : P.underlying t = some (.slice 3)) (hinfo : (P.info? 3).map (fun i => (i.zero, i.size, i.bytes)) = some (some (.int .i64 0), 1, 8))
    (lo n : Nat) (X : Nat → Int) (y : Int) (sa : Option Addr) (sc hi : Nat) (hown : OI w lo hi (.slice sa n sc) n X)
    (ad : Addr) (c : Nat) (hc : w.cell? ad = some (.int .i64 y)) (hy : X n = y) (hn : n ≤ 1099511627776) (hb : lo ≤ w.heap.size) :
    ∃ g' c' w', (Builtin.append_ #[t, t] ty #[.slice sa n sc, .slice (some ad) 1 c]).run P w = .ok (.slice (some ⟨g', 0, none⟩) (n + 1) c') w' ∧ OI w' lo w'.heap.size (.slice (some ⟨g', 0, none⟩) (n + 1) c') (n + 1) X ∧ Grew (.slice sa n sc) (.slice (some ⟨g', 0, none⟩) (n + 1) c') w w' := by
  obtain ⟨i, hi1, hi2, hi3, hi4⟩ := info_parts hinfo
  obtain ⟨v', w', hr, h2, h3⟩ := run_append2 (P := P) w lo t ty 3 i (.int .i64 0) 1 8 ht hi1 hi2 hi3 hi4 rfl (by decide) (.slice sa n sc) n (ints n X) hown.1 ad 1 c [.int .i64 y] rfl (by
    intro j u hj
    match j, hj with
    | 0, hj =>
      simp at hj; subst hj
      have : ad.add 0 = ad := by unfold Addr.add; simp
      rw [this]; exact hc) (by intro u hu; simp at hu; subst hu; rfl) (by simp only [maxLen]; omega) (by omega) hb
  have hO : OI w' lo w'.heap.size v' (n + 1) X := by
    refine ⟨?_, fun g hgg => (h2.lt g hgg).2⟩
    rw [ints_succ, hy]; exact h2
  obtain ⟨g', c', rfl⟩ := hO.form1
  exact ⟨g', c', w', hr, hO, h3⟩
variable {ops : Array Oper} {rest : List Oper} {o : Oper} {a : Act} {Q : Exit → Act → World → Prop}
theorem wp_push_int2 {K : Act → World → Prop} (s x : Operand) (t : TypeId) (ho : o.op = .call { callee := .builtin .append, args := #[s, x], argTypes := #[t, t] })
    (ht : P.underlying t = some (.slice 3)) (hinfo : (P.info? 3).map (fun i => (i.zero, i.size, i.bytes)) = some (some (.int .i64 0), 1, 8))
    (w : World) (lo n : Nat) (X : Nat → Int) (y : Int) (sa : Option Addr) (sc hi : Nat) (hs : a.eval s = .slice sa n sc) (hown : OI w lo hi (.slice sa n sc) n X)
    (ad : Addr) (c : Nat) (hx : a.eval x = .slice (some ad) 1 c) (hc : w.cell? ad = some (.int .i64 y)) (hy : X n = y) (hn : n ≤ 1099511627776) (hb : lo ≤ w.heap.size)
    (h : ∀ g' c' w', OI w' lo w'.heap.size (.slice (some ⟨g', 0, none⟩) (n + 1) c') (n + 1) X → Grew (.slice sa n sc) (.slice (some ⟨g', 0, none⟩) (n + 1) c') w w' → K (a.put o.dst (.slice (some ⟨g', 0, none⟩) (n + 1) c')) w') : o.wp P a w K Q := by
  obtain ⟨g', c', w', hr, h2, h3⟩ := run_push_int2 (P := P) w t o.type ht hinfo lo n X y sa sc hi hown ad c hc hy hn hb
  unfold Oper.wp execOp
  simp only [ho, resolve, invoke, builtin, Sem.run_bind, Sem.run_pure, Result.andThen_ok, List.map_toArray, List.map_cons, List.map_nil, hs, hx, hr]
  exact h g' c' w' h2 h3
theorem wpList_push_int2 (hgd : o.guard = none) (s x : Operand) (t : TypeId) (ho : o.op = .call { callee := .builtin .append, args := #[s, x], argTypes := #[t, t] })
    (ht : P.underlying t = some (.slice 3)) (hinfo : (P.info? 3).map (fun i => (i.zero, i.size, i.bytes)) = some (some (.int .i64 0), 1, 8))
    (w : World) (lo n : Nat) (X : Nat → Int) (y : Int) (sa : Option Addr) (sc hi : Nat) (hs : a.eval s = .slice sa n sc) (hown : OI w lo hi (.slice sa n sc) n X)
    (ad : Addr) (c : Nat) (hx : a.eval x = .slice (some ad) 1 c) (hc : w.cell? ad = some (.int .i64 y)) (hy : X n = y) (hn : n ≤ 1099511627776) (hb : lo ≤ w.heap.size)
    (h : ∀ g' c' w', OI w' lo w'.heap.size (.slice (some ⟨g', 0, none⟩) (n + 1) c') (n + 1) X → Grew (.slice sa n sc) (.slice (some ⟨g', 0, none⟩) (n + 1) c') w w' → wpList P ops Q rest (a.put o.dst (.slice (some ⟨g', 0, none⟩) (n + 1) c')) w') : wpList P ops Q (o :: rest) a w :=
  wpList_plain hgd fun _ hK => wp_push_int2 s x t ho ht hinfo w lo n X y sa sc hi hs hown ad c hx hc hy hn hb fun g' c' w' h1 h2 => hK _ _ (h g' c' w' h1 h2)
end

/-! ### what else lies there stays -/
theorem OI.grown {w w' : World} {lo hi n : Nat} {v : Value} {X : Nat → Int} {row : Option Nat} (h : OI w lo hi v n X) (g : w.grownBy w' row) (hne : ∀ k, v.ownBlock = some k → row ≠ some k) : OI w' lo hi v n X := by
  refine ⟨⟨h.1.1, ?_⟩, h.2⟩
  rcases h.1.2 with h0 | ⟨b, cap, cur, hv, hb, hg, r⟩
  · exact .inl h0
  · refine .inr ⟨b, cap, cur, hv, hb, ?_, r⟩
    rw [g.block b (Array.getElem?_eq_some_iff.1 hg).1 (fun e => hne b (by rw [hv]; rfl) e.symm)]
    exact hg
/-- an outer block is no block of integers -/
theorem OR.top_ne {w : World} {lo hi lo' hi' n m : Nat} {v u : Value} {A : Nat → Option Addr} {L C : Nat → Nat} {X : Nat → Nat → Int} {Y : Nat → Int} (h : OR w lo hi v n A L C X) (hu : OI w lo' hi' u m Y) : ∀ k, v.ownBlock = some k → u.ownBlock ≠ some k := by
  intro k hk hk'
  rcases h.top.2 with ⟨h0, _⟩ | ⟨g, cap, cur, hv, _, hg, _⟩
  · rw [h0] at hk; simp [Value.ownBlock] at hk
  · rcases hu.1.2 with ⟨h0, _⟩ | ⟨g2, cap2, cur2, hv2, _, hg2, _⟩
    · rw [h0] at hk'; simp [Value.ownBlock] at hk'
    · rw [hv] at hk; rw [hv2] at hk'
      simp [Value.ownBlock] at hk hk'
      subst hk; subst hk'
      rw [hg] at hg2
      simp at hg2
theorem OR.grown {w w' : World} {lo hi n : Nat} {v : Value} {A : Nat → Option Addr} {L C : Nat → Nat} {X : Nat → Nat → Int} {row : Option Nat} (h : OR w lo hi v n A L C X) (g : w.grownBy w' row)
    (hne : ∀ k, v.ownBlock = some k → row ≠ some k) (hrow : ∀ i, i < n → ∀ p, A i = some p → row ≠ some p.block) : OR w' lo hi v n A L C X := by
  refine ⟨⟨h.top.1, ?_⟩, h.bound, fun i hi => (h.row i hi).grown g (fun k hk => ?_), h.apart⟩
  · rcases h.top.2 with h0 | ⟨b, cap, cur, hv, hb, hg, r⟩
    · exact .inl h0
    · refine .inr ⟨b, cap, cur, hv, hb, ?_, r⟩
      rw [g.block b (Array.getElem?_eq_some_iff.1 hg).1 (fun e => hne b (by rw [hv]; rfl) e.symm)]
      exact hg
  · cases hA : A i with
    | none => rw [hA] at hk; simp [Value.ownBlock] at hk
    | some p => rw [hA] at hk; simp [Value.ownBlock] at hk; subst hk; exact hrow i hi p hA
end Go.Proofs.Ytefgdkjcoeikmaa
