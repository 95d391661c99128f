/- Words for slices of fractions (two cells each) that the call itself has made; the statements' own functions on them. No condition but those of each contract. -/
import Derived.Test.YtefgdkjcoeikmaaMem2
import Derived.Test.YtefgdkjcoeikmaaRows1
import Derived.Test.YtefgdkjcoeikmaaFrac5
import Derived.Deep.RegionLaw
namespace Go.Proofs.Ytefgdkjcoeikmaa
open Go.ChangeShapes Go.WideShapes Go.ChangeAt Go.RowKit
set_option linter.unusedVariables false
set_option linter.unusedSimpArgs false

theorem info_frac : (Try.prog.info? 41).map (fun i => (i.zero, i.size, i.bytes)) = some (some (.agg #[.int .i64 0, .int .i64 0]), 2, 16) := by kernel_rfl
def fr2 (T B : Nat → Int) : Nat → List Value
  | 0 => []
  | n + 1 => fr2 T B n ++ [.int .i64 (T n), .int .i64 (B n)]
theorem fr2_len (T B : Nat → Int) (n : Nat) : (fr2 T B n).length = n * 2 := by
  induction n with
  | zero => rfl
  | succ n ih => simp [fr2, ih]; omega
theorem fr2_top (T B : Nat → Int) {n i : Nat} (h : i < n) : (fr2 T B n)[i * 2]? = some (.int .i64 (T i)) := by
  induction n with
  | zero => omega
  | succ n ih =>
    simp only [fr2]
    by_cases e : i < n
    · rw [List.getElem?_append_left (by rw [fr2_len]; omega)]; exact ih e
    · obtain rfl : i = n := by omega
      rw [List.getElem?_append_right (by rw [fr2_len]; omega), fr2_len]; simp
theorem fr2_bot (T B : Nat → Int) {n i : Nat} (h : i < n) : (fr2 T B n)[i * 2 + 1]? = some (.int .i64 (B i)) := by
  induction n with
  | zero => omega
  | succ n ih =>
    simp only [fr2]
    by_cases e : i < n
    · rw [List.getElem?_append_left (by rw [fr2_len]; omega)]; exact ih e
    · obtain rfl : i = n := by omega
      rw [List.getElem?_append_right (by rw [fr2_len]; omega), fr2_len]
      rw [show i * 2 + 1 - i * 2 = 1 by omega]; rfl
theorem fr2_congr {T B T' B' : Nat → Int} {n : Nat} (h : ∀ i, i < n → T i = T' i ∧ B i = B' i) : fr2 T B n = fr2 T' B' n := by
  induction n with
  | zero => rfl
  | succ n ih => simp only [fr2]; rw [ih (fun i hi => h i (by omega)), (h n (by omega)).1, (h n (by omega)).2]
theorem fr2_ext {l : List Value} {T B : Nat → Int} {n : Nat} (hl : l.length = n * 2) (h1 : ∀ i, i < n → l[i * 2]? = some (.int .i64 (T i))) (h2 : ∀ i, i < n → l[i * 2 + 1]? = some (.int .i64 (B i))) : l = fr2 T B n := by
  apply List.ext_getElem?
  intro j
  by_cases hj : j < n * 2
  · obtain ⟨i, hi | hi⟩ : ∃ i, j = i * 2 ∨ j = i * 2 + 1 := ⟨j / 2, by omega⟩
    · subst hi; rw [h1 i (by omega), fr2_top T B (by omega)]
    · subst hi; rw [h2 i (by omega), fr2_bot T B (by omega)]
  · rw [List.getElem?_eq_none (by omega), List.getElem?_eq_none (by rw [fr2_len]; omega)]
theorem fr2_setT {T B : Nat → Int} {n k : Nat} (x : Int) : (fr2 T B n).set (k * 2) (.int .i64 x) = fr2 (fun j => if j = k then x else T j) B n := by
  refine fr2_ext (by rw [List.length_set, fr2_len]) (fun i hi => ?_) (fun i hi => ?_)
  · rw [List.getElem?_set]
    by_cases e : k = i
    · subst e; simp [fr2_len]; omega
    · rw [if_neg (by omega), fr2_top T B hi, if_neg (fun q => e q.symm)]
  · rw [List.getElem?_set, if_neg (by omega), fr2_bot T B hi]
theorem fr2_setB {T B : Nat → Int} {n k : Nat} (x : Int) : (fr2 T B n).set (k * 2 + 1) (.int .i64 x) = fr2 T (fun j => if j = k then x else B j) n := by
  refine fr2_ext (by rw [List.length_set, fr2_len]) (fun i hi => ?_) (fun i hi => ?_)
  · rw [List.getElem?_set, if_neg (by omega), fr2_top T B hi]
  · rw [List.getElem?_set]
    by_cases e : k = i
    · subst e; simp [fr2_len]; omega
    · rw [if_neg (by omega), fr2_bot T B hi, if_neg (fun q => e q.symm)]

/-- n fractions lie in a block of the call's own, from lo on and below hi; or there are none. -/
def OF (w : World) (lo hi : Nat) (v : Value) (n : Nat) (T B : Nat → Int) : Prop := w.ownsRow lo 41 2 v n (fr2 T B n) ∧ ∀ g, v.ownBlock = some g → g < hi
theorem OF.congr {w : World} {lo hi n : Nat} {v : Value} {T B T' B' : Nat → Int} (h : OF w lo hi v n T B) (e : ∀ i, i < n → T i = T' i ∧ B i = B' i) : OF w lo hi v n T' B' := by
  unfold OF at *; rw [← fr2_congr e]; exact h
theorem OF.nil (w : World) (lo hi : Nat) (T B : Nat → Int) : OF w lo hi (.slice none 0 0) 0 T B := ⟨World.ownsRow_nil _ _ _ _, by simp [Value.ownBlock]⟩
theorem OF.empty (w : World) (T B : Nat → Int) : OF (w.alloc (.cells #[] 41)) w.heap.size (w.heap.size + 1) (.slice (some ⟨w.heap.size, 0, none⟩) 0 0) 0 T B :=
  ⟨World.ownsRow_lit (base := w.heap.size) (e := 41) (size := 2) w #[] 0 (Nat.le_refl _) (by simp [maxLen]) (by simp), by simp [Value.ownBlock]⟩
theorem OF.form1 {w : World} {lo hi n : Nat} {v : Value} {T B : Nat → Int} (h : OF w lo hi v (n + 1) T B) : ∃ g c, v = .slice (some ⟨g, 0, none⟩) (n + 1) c := by
  rcases h.1.2 with ⟨rfl, h0⟩ | ⟨g, cap, cur, rfl, _⟩
  · omega
  · exact ⟨_, _, rfl⟩
theorem OF.head {w : World} {lo hi n c : Nat} {a : Option Addr} {T B : Nat → Int} (h : OF w lo hi (.slice a n c) n T B) (hn : 0 < n) : ∃ g, a = some ⟨g, 0, none⟩ ∧ lo ≤ g ∧ g < hi ∧ g < w.heap.size := by
  rcases h.1.2 with ⟨hv, h0⟩ | ⟨g, cap, cur, hv, hb, hg, r⟩
  · omega
  · simp only [Value.slice.injEq] at hv
    exact ⟨g, hv.1, hb, h.2 g (by rw [hv.1]; rfl), (Array.getElem?_eq_some_iff.1 hg).1⟩
theorem OF.keep {w w' : World} {lo hi n : Nat} {v : Value} {T B : Nat → Int} (h : OF w lo hi v n T B) (e : ∀ k, lo ≤ k → k < hi → w'.heap[k]? = w.heap[k]?) : OF w' lo hi v n T B := by
  refine ⟨⟨h.1.1, ?_⟩, h.2⟩
  rcases h.1.2 with h0 | ⟨g, cap, cur, hv, hb, hg, r⟩
  · exact .inl h0
  · refine .inr ⟨g, cap, cur, hv, hb, ?_, r⟩
    rw [e g hb (h.2 g (by rw [hv]; rfl))]; exact hg
theorem OF.ext {w w' : World} {lo hi n : Nat} {v : Value} {T B : Nat → Int} (h : OF w lo hi v n T B) (e : Ext w w') : OF w' lo hi v n T B := by
  refine ⟨⟨h.1.1, ?_⟩, h.2⟩
  rcases h.1.2 with h0 | ⟨g, cap, cur, hv, hb, hg, r⟩
  · exact .inl h0
  · refine .inr ⟨g, cap, cur, hv, hb, ?_, r⟩
    rw [e.block g (Array.getElem?_eq_some_iff.1 hg).1]; exact hg
theorem OF.mono {w : World} {lo hi lo' hi' n : Nat} {v : Value} {T B : Nat → Int} (h : OF w lo hi v n T B) (h1 : lo' ≤ lo) (h2 : hi ≤ hi') : OF w lo' hi' v n T B := by
  refine ⟨⟨h.1.1, ?_⟩, fun g hg => Nat.lt_of_lt_of_le (h.2 g hg) h2⟩
  rcases h.1.2 with h0 | ⟨g, cap, cur, hv, hb, hg, r⟩
  · exact .inl h0
  · exact .inr ⟨g, cap, cur, hv, by omega, hg, r⟩
theorem OF.now {w : World} {lo hi n : Nat} {v : Value} {T B : Nat → Int} (h : OF w lo hi v n T B) : OF w lo w.heap.size v n T B := ⟨h.1, fun g hg => (h.1.lt g hg).2⟩
theorem OF.within {w w' : World} {lo hi lo' hi' n : Nat} {v : Value} {T B : Nat → Int} (h : OF w lo hi v n T B) (e : Within lo' hi' w w') (hb : hi ≤ lo' ∨ hi' ≤ lo) : OF w' lo hi v n T B :=
  h.keep fun k h1 h2 => e.block k (by omega)
theorem OF.top {w : World} {lo hi g n cap k : Nat} {T B : Nat → Int} (h : OF w lo hi (.slice (some ⟨g, 0, none⟩) n cap) n T B) (hk : k < n) : w.cell? ⟨g, k * 2, none⟩ = some (.int .i64 (T k)) := by
  rw [World.ownsRow.cellAt h.1 (k * 2) (by omega)]; exact fr2_top T B hk
theorem OF.bot {w : World} {lo hi g n cap k : Nat} {T B : Nat → Int} (h : OF w lo hi (.slice (some ⟨g, 0, none⟩) n cap) n T B) (hk : k < n) : w.cell? ⟨g, k * 2 + 1, none⟩ = some (.int .i64 (B k)) := by
  rw [World.ownsRow.cellAt h.1 (k * 2 + 1) (by omega)]; exact fr2_bot T B hk
theorem OF.frozen {w : World} {lo hi g n cap : Nat} {T B : Nat → Int} (h : OF w lo hi (.slice (some ⟨g, 0, none⟩) n cap) n T B) (k : Nat) : w.frozen? ⟨g, k, none⟩ = false :=
  World.ownsRow.frozenAt h.1 k
theorem OF.storeT {w : World} {lo hi g n cap : Nat} {T B : Nat → Int} (h : OF w lo hi (.slice (some ⟨g, 0, none⟩) n cap) n T B) (k : Nat) (x : Int) :
    OF (w.setCell ⟨g, k * 2, none⟩ (.int .i64 x)) lo hi (.slice (some ⟨g, 0, none⟩) n cap) n (fun j => if j = k then x else T j) B := by
  have := (World.ownsRow.stored h.1 (k * 2) (.int .i64 x)).1
  rw [fr2_setT] at this; exact ⟨this, h.2⟩
theorem OF.storeB {w : World} {lo hi g n cap : Nat} {T B : Nat → Int} (h : OF w lo hi (.slice (some ⟨g, 0, none⟩) n cap) n T B) (k : Nat) (x : Int) :
    OF (w.setCell ⟨g, k * 2 + 1, none⟩ (.int .i64 x)) lo hi (.slice (some ⟨g, 0, none⟩) n cap) n T (fun j => if j = k then x else B j) := by
  have := (World.ownsRow.stored h.1 (k * 2 + 1) (.int .i64 x)).1
  rw [fr2_setB] at this; exact ⟨this, h.2⟩

section
variable {P : Program} {ops : Array Oper} {rest : List Oper} {o : Oper} {a : Act} {Q : Exit → Act → World → Prop}
/-- 'out = append(out, f)', f a fraction -/
theorem wpList_push_frac (hgd : o.guard = none) (s x : Operand) (t : TypeId) (ho : o.op = .call { callee := .builtin .append, args := #[s, x], argTypes := #[t, t] })
    (ht : P.underlying t = some (.slice 41)) (hinfo : (P.info? 41).map (fun i => (i.zero, i.size, i.bytes)) = some (some (.agg #[.int .i64 0, .int .i64 0]), 2, 16))
    (w : World) (lo n : Nat) (T B : Nat → Int) (y z : Int) (sa : Option Addr) (sc hi : Nat) (hs : a.eval s = .slice sa n sc) (hown : OF w lo hi (.slice sa n sc) n T B)
    (ad : Addr) (c : Nat) (hx : a.eval x = .slice (some ad) 1 c) (hc : w.cell? ad = some (.int .i64 y)) (hc1 : w.cell? (ad.add 1) = some (.int .i64 z)) (hy : T n = y) (hz : B n = z) (hn : n ≤ 1099511627776) (hb : lo ≤ w.heap.size)
    (h : ∀ g' c' w', OF w' lo w'.heap.size (.slice (some ⟨g', 0, none⟩) (n + 1) c') (n + 1) T B → Below lo w w' → wpList P ops Q rest (a.put o.dst (.slice (some ⟨g', 0, none⟩) (n + 1) c')) w') : wpList P ops Q (o :: rest) a w := by
  obtain ⟨i, hi1, hi2, hi3, hi4⟩ := info_parts hinfo
  refine wpList_append_own w hgd s x t ho lo 41 i (.agg #[.int .i64 0, .int .i64 0]) 2 16 ht hi1 hi2 hi3 hi4 rfl (by decide) (.slice sa n sc) n (fr2 T B n) hs hown.1 ad 1 c [.int .i64 y, .int .i64 z] hx rfl ?_ ?_ (by simp only [maxLen]; omega) (by omega) hb ?_
  · intro j u hj
    match j, hj with
    | 0, hj =>
      simp at hj; subst hj
      have : ad.add 0 = ad := by unfold Addr.add; simp
      rw [this]; exact hc
    | 1, hj => simp at hj; subst hj; exact hc1
  · intro u hu; simp at hu; rcases hu with rfl | rfl <;> rfl
  · intro v' w' ho' hg _
    have hO : OF w' lo w'.heap.size v' (n + 1) T B := by
      refine ⟨?_, fun g hgg => (ho'.lt g hgg).2⟩
      simp only [fr2]; rw [hy, hz]; exact ho'
    obtain ⟨g', c', rfl⟩ := hO.form1
    refine h g' c' w' hO ?_
    exact (Below.refl _ _).grown hg hb (fun k hk => (hown.1.lt k hk).1)
end
theorem cell_new2 (w : World) (v u : Value) (t : TypeId) : (w.alloc (.cells #[v, u] t)).cell? ⟨w.heap.size, 0, none⟩ = some v := by simp [World.cell?_alloc_new]
theorem cell_new2' (w : World) (v u : Value) (t : TypeId) : (w.alloc (.cells #[v, u] t)).cell? ⟨w.heap.size, 1, none⟩ = some u := by simp [World.cell?_alloc_new]

/-! ### the statements' own functions -/
set_option maxHeartbeats 1600000 in
theorem laws_eqFractionS (a b : Option Addr) (n c d lo1 hi1 lo2 hi2 : Nat) (T B : Nat → Int) (w : World) (h1 : OF w lo1 hi1 (.slice a n c) n T B) (h2 : OF w lo2 hi2 (.slice b n d) n T B) (hn : n ≤ 1099511627776) :
    Calls Try.prog 14 #[.slice a n c, .slice b n d] w fun e w' => e = .returned (.bool true) ∧ Ext w w' := by
  have H1 := Lib.hid h1
  have H2 := Lib.hid h2
  clear h1 h2
  go_enter Try.func14, Try.ntmps14
  go_wp2_with fail
  go_loopg [5] n (fun g i wr => ∃ k : Nat, k ≤ n ∧ g = n - k ∧ i = .int .i64 k ∧ Ext w wr)
  case atStart => exact ⟨0, Nat.zero_le _, rfl, rfl, ext_refl _⟩
  case round =>
    obtain ⟨k, hk, rfl, rfl, hx⟩ := hrel
    rcases Nat.lt_or_ge k n with hlt | hge
    · have q1 : (k : Int) < n := by omega
      obtain ⟨g1, rfl, _, _, _⟩ := H1.out.head (by omega)
      obtain ⟨g2, rfl, _, _, _⟩ := H2.out.head (by omega)
      have c1 := (H1.out.ext hx).top hlt
      have c2 := (H1.out.ext hx).bot hlt
      have c3 := (H2.out.ext hx).top hlt
      have c4 := (H2.out.ext hx).bot hlt
      have HE := Lib.hid (show eqP (T k) (B k) (T k) (B k) = true by simp [eqP])
      go_wp2_with fail
      go_region_law (first
        | (go_simp
           go_at_call 61
           refine (laws_eqFraction _ _ _ _ _).mono ?_
           rw [HE.out]
           rintro e w1 ⟨rfl, hx1⟩))
      all_goals
        go_wp2_with fail
        go_roundg (n - (k + 1))
        case measure => omega
        case rel => exact ⟨k + 1, by omega, rfl, by go_num, ext_trans hx (ext_trans (ext_drew (ext_refl _)) hx1)⟩
    · obtain rfl : n = k := by omega
      go_wp2_with fail
      go_ret
      exact ⟨rfl, hx⟩
def mT (m : Int) : Nat → Int := fun j => m + 2 * j
def mB (m : Int) : Nat → Int := fun j => m + 2 * j + 1
set_option maxHeartbeats 1600000 in
theorem laws_markFractionS (a : Option Addr) (n c lo hi : Nat) (m : Int) (T B : Nat → Int) (w : World) (hn : n ≤ 1099511627776) (hm : 0 ≤ m) (hm2 : m ≤ 1099511627776) (h : OF w lo hi (.slice a n c) n T B) :
    Calls Try.prog 19 #[.slice a n c, .int .i64 m] w fun e w' => e = .returned (.int .i64 (m + 2 * n)) ∧ OF w' lo hi (.slice a n c) n (mT m) (mB m) ∧ Within lo hi w w' := by
  have H := Lib.hid h
  clear h
  go_enter Try.func19, Try.ntmps19
  go_wp2_with fail
  go_loopg [1, 5] n (fun g q i wr => ∃ k : Nat, k ≤ n ∧ g = n - k ∧ q = .int .i64 (m + 2 * k) ∧ i = .int .i64 k ∧ OF wr lo hi (.slice a n c) n (fun j => if j < k then mT m j else T j) (fun j => if j < k then mB m j else B j) ∧ Within lo hi w wr)
  case atStart => exact ⟨0, Nat.zero_le _, rfl, by simp, rfl, H.out.congr (fun i _ => by simp), Within.refl _ _ _⟩
  case round =>
    obtain ⟨k, hk, rfl, rfl, rfl, hO, hx⟩ := hrel
    rcases Nat.lt_or_ge k n with hlt | hge
    · obtain ⟨g, rfl, b1, b2, b3⟩ := hO.head (by omega)
      have q1 : (k : Int) < n := by omega
      have h1 := hO.top hlt
      have h2 := hO.frozen (k * 2)
      have hO1 := hO.storeT k (m + 2 * k)
      have h3 := hO1.bot hlt
      have h4 := hO1.frozen (k * 2 + 1)
      have HO := Lib.hid ((hO1.storeB k (m + 2 * k + 1)).congr (T' := fun j => if j < k + 1 then mT m j else T j) (B' := fun j => if j < k + 1 then mB m j else B j) (fun i hi => by
        by_cases e : i = k
        · subst e; simp [mT, mB]
        · by_cases e2 : i < k
          · simp [e, e2, show i < k + 1 by omega]
          · simp [e, e2, show ¬ i < k + 1 by omega]))
      have HB1 := Lib.hid b1
      have HB2 := Lib.hid b2
      clear hO hO1
      go_wp2_with fail
      go_roundg (n - (k + 1))
      case measure => omega
      case rel => exact ⟨k + 1, by omega, rfl, by go_num, by go_num, HO.out, (hx.setCell HB1.out HB2.out _).setCell HB1.out HB2.out _⟩
    · obtain rfl : n = k := by omega
      have hO' := Lib.hid (hO.congr (T' := mT m) (B' := mB m) (fun i hi => by simp [hi]))
      clear hO
      go_wp2_with fail
      go_ret
      exact ⟨rfl, hO'.out, hx⟩
set_option maxHeartbeats 1600000 in
theorem laws_heldFractionS (a : Option Addr) (n c lo hi : Nat) (m : Int) (w : World) (hn : n ≤ 1099511627776) (hm : 0 ≤ m) (hm2 : m ≤ 1099511627776) (h : OF w lo hi (.slice a n c) n (mT m) (mB m)) :
    Calls Try.prog 20 #[.slice a n c, .int .i64 m] w fun e w' => e = .returned (.int .i64 (m + 2 * n)) ∧ w = w' := by
  have H := Lib.hid h
  clear h
  go_enter Try.func20, Try.ntmps20
  go_wp2_with fail
  go_loopg [1, 5] n (fun g q i wr => ∃ k : Nat, k ≤ n ∧ g = n - k ∧ q = .int .i64 (m + 2 * k) ∧ i = .int .i64 k ∧ w = wr)
  case atStart => exact ⟨0, Nat.zero_le _, rfl, by simp, rfl, rfl⟩
  case round =>
    obtain ⟨k, hk, rfl, rfl, rfl, rfl⟩ := hrel
    rcases Nat.lt_or_ge k n with hlt | hge
    · obtain ⟨g, rfl, b1, b2, b3⟩ := H.out.head (by omega)
      have q1 : (k : Int) < n := by omega
      have h1 := H.out.top hlt
      have h2 := H.out.bot hlt
      simp only [mT, mB] at h1 h2
      go_wp2_with fail
      go_roundg (n - (k + 1))
      case measure => omega
      case rel => exact ⟨k + 1, by omega, rfl, by go_num, by go_num, rfl⟩
    · obtain rfl : n = k := by omega
      go_wp2_with fail
      go_ret
      exact ⟨rfl, rfl⟩
end Go.Proofs.Ytefgdkjcoeikmaa
