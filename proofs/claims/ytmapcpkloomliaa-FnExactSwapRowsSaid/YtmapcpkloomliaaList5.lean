/- The contracts of copying a list and of swapping two of its elements. No condition but those of each contract. -/
import Derived.Test.YtmapcpkloomliaaList2
import Derived.Test.YtmapcpkloomliaaApp
namespace Go.Proofs.Ytmapcpkloomliaa
open Go.ChangeShapes Go.WideShapes Go.ChangeAt Go.RowKit
set_option linter.unusedVariables false
set_option linter.unusedSimpArgs false

theorem impl_copyInts (a : Option Addr) (n c : Nat) (X : Nat → Int) (w : World) (h : IntsAt w a n X) (hn : n ≤ 1099511627776) :
    Calls Try.prog 61 #[.slice a n c] w (MakesI w n X) := by
  go_enter Try.func61, Try.ntmps61
  go_wp2_with (at_builtin; refine wpList_append_ints rfl _ _ 22 rfl Try.underlying22 info_int _ w.heap.size w.heap.size 0 X none 0 rfl (OI.nil _ _ _ _) a n c X rfl h (by omega) (Nat.le_refl _) ?_; intro g' c' w1 hO1 hb1; rw [Nat.zero_add] at hO1 ⊢)
  go_ret
  exact ⟨_, _, rfl, hO1.congr (fun i _ => by simp [joinF]), hb1⟩

def swapOk (n : Nat) (i k : Int) : Bool := inB i 0 ((n : Int) - 1) && inB k 0 ((n : Int) - 1)
def swapF (n : Nat) (i k : Int) (X : Nat → Int) : Nat → Int := fun j => if swapOk n i k then (if (j : Int) = k then X i.toNat else if (j : Int) = i then X k.toNat else X j) else X j

set_option maxHeartbeats 1600000 in
theorem impl_SwapRows (a : Option Addr) (n c : Nat) (i k : Int) (X : Nat → Int) (w : World) (h : IntsAt w a n X) (hn : n ≤ 1099511627776) :
    Calls Try.prog 16 #[.slice a n c, .int .i64 i, .int .i64 k] w (MakesI w n (swapF n i k X)) := by
  cases h1 : inB i 0 ((n : Int) - 1)
  · have HF := Lib.hid (show ∀ j, swapF n i k X j = X j from fun j => by simp [swapF, swapOk, h1])
    go_enter Try.func16, Try.ntmps16
    go_wp2_with fail
    refine (impl_copyInts _ _ _ X _ h hn).mono ?_
    rintro e w1 ⟨p, q, rfl, hO, hx⟩
    go_wp2_with (go_at_call 62; refine (impl_in _ _ _ _).mono ?_; rintro e w' ⟨rfl, rfl⟩)
    go_ret
    exact ⟨_, _, rfl, hO.congr (fun j _ => (HF.out j).symm), hx⟩
  · cases h2 : inB k 0 ((n : Int) - 1)
    · have HF := Lib.hid (show ∀ j, swapF n i k X j = X j from fun j => by simp [swapF, swapOk, h2])
      go_enter Try.func16, Try.ntmps16
      go_wp2_with fail
      refine (impl_copyInts _ _ _ X _ h hn).mono ?_
      rintro e w1 ⟨p, q, rfl, hO, hx⟩
      go_wp2_with (go_at_call 62; refine (impl_in _ _ _ _).mono ?_; rintro e w' ⟨rfl, rfl⟩)
      go_ret
      exact ⟨_, _, rfl, hO.congr (fun j _ => (HF.out j).symm), hx⟩
    · obtain ⟨b1, b2⟩ := inB_true.1 h1
      obtain ⟨b3, b4⟩ := inB_true.1 h2
      obtain ⟨i', rfl⟩ := Int.eq_ofNat_of_zero_le b1
      obtain ⟨k', rfl⟩ := Int.eq_ofNat_of_zero_le b3
      have HF := Lib.hid (show ∀ j, swapF n i' k' X j = if j = k' then X i' else if j = i' then X k' else X j from fun j => by
        have e1 : ((j : Int) = (k' : Int)) ↔ j = k' := by omega
        have e2 : ((j : Int) = (i' : Int)) ↔ j = i' := by omega
        simp [swapF, swapOk, h1, h2, e1, e2])
      have i1 : i' < n := by omega
      have k1 : k' < n := by omega
      have i2 : (i' : Int) < (n : Int) := by omega
      have k2 : (k' : Int) < (n : Int) := by omega
      go_enter Try.func16, Try.ntmps16
      go_wp2_with fail
      refine (impl_copyInts _ _ _ X _ h hn).mono ?_
      rintro e w1 ⟨p, q, rfl, hO, hx⟩
      obtain ⟨g, rfl, g1, g2, g3⟩ := hO.head (by omega)
      go_wp2_with (go_at_call 62; refine (impl_in _ _ _ _).mono ?_; rintro e w' ⟨rfl, rfl⟩)
      have c1 := hO.cell i1
      have c2 := hO.cell k1
      have f1 := hO.frozen i'
      have f2 := hO.frozen k'
      obtain ⟨y, s1⟩ : ∃ y, (w1.setCell ⟨g, i', none⟩ (.int .i64 (X k'))).cell? ⟨g, k', none⟩ = some y := ⟨_, (hO.store i' (X k')).cell k1⟩
      have s2 := (hO.store i' (X k')).frozen k'
      have HS := Lib.hid ((hO.store i' (X k')).store k' (X i'))
      clear hO
      go_region
      all_goals
        go_wp2
        go_ret
        refine ⟨_, _, rfl, ((HS.out.congr (fun j _ => ?_)).ext (ext_drew (ext_refl _))).now, ?_⟩
        · rw [HF.out j]
        · exact ext_drew ((hx.setCell g1 _).setCell g1 _)

set_option maxHeartbeats 1600000 in
theorem spec_SwapRows (a : Option Addr) (n c : Nat) (i k : Int) (X : Nat → Int) (w : World) (h : IntsAt w a n X) (hn : n ≤ 1099511627776) :
    Calls Try.prog 14 #[.slice a n c, .int .i64 i, .int .i64 k] w (MakesI w n (swapF n i k X)) := by
  have h' := h.ext (ext_alloc (ext_refl w) (.cells #[] 3))
  have hE := OI.lit w [] X 0 (by simp [maxLen]) rfl
  cases h1 : inB i 0 ((n : Int) - 1)
  · have HF := Lib.hid (show ∀ j, swapF n i k X j = X j from fun j => by simp [swapF, swapOk, h1])
    go_enter Try.func14, Try.ntmps14
    go_wp2_with (first
      | (at_builtin; refine wpList_append_ints rfl _ _ 22 rfl Try.underlying22 info_int _ w.heap.size _ 0 X _ _ rfl hE a n c X rfl h' (by omega) (by simp) ?_; intro g' c' w1 hO1 hb1; rw [Nat.zero_add] at hO1 ⊢)
      | (go_at_call 60; refine (spec_in _ _ _ _).mono ?_; rintro e w' ⟨rfl, rfl⟩))
    go_ret
    exact ⟨_, _, rfl, hO1.congr (fun j _ => by rw [HF.out j]; simp [joinF]), Below.trans (ext_alloc (ext_refl _) _) hb1⟩
  · cases h2 : inB k 0 ((n : Int) - 1)
    · have HF := Lib.hid (show ∀ j, swapF n i k X j = X j from fun j => by simp [swapF, swapOk, h2])
      go_enter Try.func14, Try.ntmps14
      go_wp2_with (first
        | (at_builtin; refine wpList_append_ints rfl _ _ 22 rfl Try.underlying22 info_int _ w.heap.size _ 0 X _ _ rfl hE a n c X rfl h' (by omega) (by simp) ?_; intro g' c' w1 hO1 hb1; rw [Nat.zero_add] at hO1 ⊢)
        | (go_at_call 60; refine (spec_in _ _ _ _).mono ?_; rintro e w' ⟨rfl, rfl⟩))
      go_ret
      exact ⟨_, _, rfl, hO1.congr (fun j _ => by rw [HF.out j]; simp [joinF]), Below.trans (ext_alloc (ext_refl _) _) hb1⟩
    · obtain ⟨b1, b2⟩ := inB_true.1 h1
      obtain ⟨b3, b4⟩ := inB_true.1 h2
      obtain ⟨i', rfl⟩ := Int.eq_ofNat_of_zero_le b1
      obtain ⟨k', rfl⟩ := Int.eq_ofNat_of_zero_le b3
      have HF := Lib.hid (show ∀ j, swapF n i' k' X j = if j = k' then X i' else if j = i' then X k' else X j from fun j => by
        have e1 : ((j : Int) = (k' : Int)) ↔ j = k' := by omega
        have e2 : ((j : Int) = (i' : Int)) ↔ j = i' := by omega
        simp [swapF, swapOk, h1, h2, e1, e2])
      have i1 : i' < n := by omega
      have k1 : k' < n := by omega
      have i2 : (i' : Int) < (n : Int) := by omega
      have k2 : (k' : Int) < (n : Int) := by omega
      obtain ⟨b, off, rfl, hc⟩ := h (by omega)
      have ci := hc i' i1
      have ck := hc k' k1
      have HE := Lib.hid hE
      have H' := Lib.hid h'
      clear hc h h' hE
      go_enter Try.func14, Try.ntmps14
      go_wp2_with (first
        | (at_builtin
           refine wpList_append_ints rfl _ _ 22 rfl Try.underlying22 info_int _ w.heap.size _ 0 X _ _ rfl HE.out (some ⟨b, off, none⟩) n c X rfl H'.out (by omega) (by simp) ?_
           intro g' c' w1 hO1 hb1
           rw [Nat.zero_add] at hO1 ⊢
           have hO := hO1.congr (Y := X) (fun j _ => by simp [joinF])
           have hx : Ext w w1 := Below.trans (ext_alloc (ext_refl _) _) hb1
           obtain ⟨g, hg, g1, g2, g3⟩ := hO.head (by omega)
           rw [hg] at hO ⊢
           have d1 := ext_cell hx ci
           have d2 := ext_cell hx ck
           have c1 := hO.cell i1
           have f1 := hO.frozen i'
           obtain ⟨y, s1⟩ : ∃ y, (w1.setCell ⟨g, i', none⟩ (.int .i64 (X k'))).cell? ⟨g, k', none⟩ = some y := ⟨_, (hO.store i' (X k')).cell k1⟩
           have s2 := (hO.store i' (X k')).frozen k'
           have d3 : (w1.setCell ⟨g, i', none⟩ (.int .i64 (X k'))).cell? ⟨b, off + i', none⟩ = some (.int .i64 (X i')) := ext_cell (hx.setCell g1 _) ci
           have HS := Lib.hid ((hO.store i' (X k')).store k' (X i'))
           have HX := Lib.hid (And.intro g1 hx)
           clear hO hb1 hg hO1 hx)
        | (go_at_call 60; refine (spec_in _ _ _ _).mono ?_; rintro e w' ⟨rfl, rfl⟩))
      go_ret
      refine ⟨_, _, rfl, (HS.out.congr (fun j _ => ?_)).now, ?_⟩
      · rw [HF.out j]
      · exact (HX.out.2.setCell HX.out.1 _).setCell HX.out.1 _
end Go.Proofs.Ytmapcpkloomliaa
