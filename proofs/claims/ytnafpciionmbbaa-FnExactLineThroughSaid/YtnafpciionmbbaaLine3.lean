/- The contract of the reference's correcting. No condition. -/
import Derived.Test.YtnafpciionmbbaaLine2
import Derived.Deep.RegionHeld3
import Derived.Deep.DeepCutAuto
namespace Go.Proofs.Ytnafpciionmbbaa
open Go.ChangeShapes Go.WideShapes Go.ChangeAt Go.RowKit
set_option linter.unusedVariables false
set_option linter.unusedSimpArgs false

theorem add_valid {t1 b1 t2 b2 : Int} (h : addOk t1 b1 t2 b2 = true) : fracOk (addT t1 b1 t2 b2) (addB t1 b1 t2 b2) = true := by
  unfold addOk at h
  simp only [Bool.and_eq_true] at h
  unfold addT addB
  rw [h.1, if_pos rfl, if_pos rfl]
  exact (red_ok h.2).1
theorem line_valid {zt zb ut ub : Int} (h : lineOkB zt zb ut ub = true) : fracOk zt zb = true ∧ fracOk ut ub = true ∧ 0 < ut := by
  simp [lineOkB] at h
  exact ⟨h.1.1, h.1.2, h.2⟩
set_option maxHeartbeats 3200000 in
theorem spec_Corrected (zt zb ut ub st sb : Int) (w : World) :
    Calls Try.prog 96 #[lineV zt zb ut ub, .agg #[.int .i64 st, .int .i64 sb]] w fun e w' => e = frac (coT zt zb ut ub st sb) (coB zt zb ut ub st sb) (coOk zt zb ut ub st sb) ∧ Ext w w' := by
  cases h1 : lineOkB zt zb ut ub
  · have hm : coIn zt zb ut ub st sb = false := by simp [coIn, h1]
    go_enter Try.func96, Try.ntmps96
    go_wp2_with fail
    refine (spec_LineOk _ _ _ _ _).mono ?_
    rintro e w1 ⟨rfl, hx1⟩
    obtain ⟨hc1, hf1⟩ := bcell hx1
    have hy12 : w.heap.size + 1 + 1 < w1.heap.size := by have := hx1.size; simp at this; omega
    have hy11 : w.heap.size + 1 < w1.heap.size := by omega
    have hy10 : w.heap.size < w1.heap.size := by omega
    go_wp2_with fail
    have c0 := ext_cell hx1 (b := w.heap.size + 2) (off := 0) (v := .int .i64 0) (by go_simp)
    have c1 := ext_cell hx1 (b := w.heap.size + 2) (off := 1) (v := .int .i64 0) (by go_simp)
    exact bodyPost_ret (v := .tuple #[.agg #[.int .i64 (0), .int .i64 (0)], .bool (false)]) (by simp [results, Try.results96, go_sem, c0, c1]) rfl ⟨by simp [frac, coT, coB, coOk, hm], (by repeat (first | (with_reducible exact ext_refl _) | (with_reducible refine ext_setCell ?_ ?_ _) | (with_reducible refine ext_alloc ?_ _) | (with_reducible refine ext_drewN ?_ _) | (with_reducible refine ext_drew ?_) | (with_reducible refine ext_trans ?_ (by assumption)) | (dsimp only; omega) | omega | (simp; omega)))⟩
  · cases h2 : fracOk st sb
    · have hm : coIn zt zb ut ub st sb = false := by simp [coIn, addOk, addIn, h2]
      go_enter Try.func96, Try.ntmps96
      go_wp2_with fail
      refine (spec_LineOk _ _ _ _ _).mono ?_
      rintro e w1 ⟨rfl, hx1⟩
      obtain ⟨hc1, hf1⟩ := bcell hx1
      have hy12 : w.heap.size + 1 + 1 < w1.heap.size := by have := hx1.size; simp at this; omega
      have hy11 : w.heap.size + 1 < w1.heap.size := by omega
      have hy10 : w.heap.size < w1.heap.size := by omega
      go_wp2_with fail
      refine (spec_FractionOk _ _ _).mono ?_
      rintro e w2 ⟨rfl, hx2⟩
      obtain ⟨hc2, hf2⟩ := bcell hx2
      have hy22 : w.heap.size + 1 + 1 < w2.heap.size := by have := hx2.size; omega
      have hy21 : w.heap.size + 1 < w2.heap.size := by omega
      have hy20 : w.heap.size < w2.heap.size := by omega
      go_wp2_with fail
      have c0 := ext_cell hx2 (ext_cell hx1 (b := w.heap.size + 2) (off := 0) (v := .int .i64 0) (by go_simp))
      have c1 := ext_cell hx2 (ext_cell hx1 (b := w.heap.size + 2) (off := 1) (v := .int .i64 0) (by go_simp))
      exact bodyPost_ret (v := .tuple #[.agg #[.int .i64 (0), .int .i64 (0)], .bool (false)]) (by simp [results, Try.results96, go_sem, c0, c1]) rfl ⟨by simp [frac, coT, coB, coOk, hm], (by repeat (first | (with_reducible exact ext_refl _) | (with_reducible refine ext_setCell ?_ ?_ _) | (with_reducible refine ext_alloc ?_ _) | (with_reducible refine ext_drewN ?_ _) | (with_reducible refine ext_drew ?_) | (with_reducible refine ext_trans ?_ (by assumption)) | (dsimp only; omega) | omega | (simp; omega)))⟩
    · obtain ⟨hv1, hv2, hv3⟩ := line_valid h1
      go_enter Try.func96, Try.ntmps96
      go_wp2_with fail
      refine (spec_LineOk _ _ _ _ _).mono ?_
      rintro e w1 ⟨rfl, hx1⟩
      obtain ⟨hc1, hf1⟩ := bcell hx1
      have hy12 : w.heap.size + 1 + 1 < w1.heap.size := by have := hx1.size; simp at this; omega
      have hy11 : w.heap.size + 1 < w1.heap.size := by omega
      have hy10 : w.heap.size < w1.heap.size := by omega
      go_wp2_with fail
      refine (spec_FractionOk _ _ _).mono ?_
      rintro e w2 ⟨rfl, hx2⟩
      obtain ⟨hc2, hf2⟩ := bcell hx2
      have hy22 : w.heap.size + 1 + 1 < w2.heap.size := by have := hx2.size; omega
      have hy21 : w.heap.size + 1 < w2.heap.size := by omega
      have hy20 : w.heap.size < w2.heap.size := by omega
      have a0 := ext_cell hx2 (ext_cell hx1 (b := w.heap.size) (off := 0) (v := .int .i64 zt) (by go_simp))
      have a1 := ext_cell hx2 (ext_cell hx1 (b := w.heap.size) (off := 1) (v := .int .i64 zb) (by go_simp))
      have a2 := ext_cell hx2 (ext_cell hx1 (b := w.heap.size) (off := 2) (v := .int .i64 ut) (by go_simp))
      have a3 := ext_cell hx2 (ext_cell hx1 (b := w.heap.size) (off := 3) (v := .int .i64 ub) (by go_simp))
      have b0 := ext_cell hx2 (ext_cell hx1 (b := w.heap.size + 1) (off := 0) (v := .int .i64 st) (by go_simp))
      have b1 := ext_cell hx2 (ext_cell hx1 (b := w.heap.size + 1) (off := 1) (v := .int .i64 sb) (by go_simp))
      have c0 := ext_cell hx2 (ext_cell hx1 (b := w.heap.size + 2) (off := 0) (v := .int .i64 0) (by go_simp))
      have f0 : w2.frozen? ⟨w.heap.size + 1 + 1, 0, none⟩ = false := by rw [hf2 _ _ hy12, hf1 _ _ (by simp)]; go_simp
      have c1 := ext_cell hx2 (ext_cell hx1 (b := w.heap.size + 2) (off := 1) (v := .int .i64 0) (by go_simp))
      have f1 : w2.frozen? ⟨w.heap.size + 1 + 1, 1, none⟩ = false := by rw [hf2 _ _ hy12, hf1 _ _ (by simp)]; go_simp
      clear hc1 hf1 hc2 hf2
      have HKS : Hid (∀ wb, Ext w2 wb → (Ext w2 wb ∧ wb.cell? ⟨w.heap.size, 0, none⟩ = some (.int .i64 (zt)) ∧ wb.cell? ⟨w.heap.size, 1, none⟩ = some (.int .i64 (zb)) ∧ wb.cell? ⟨w.heap.size, 2, none⟩ = some (.int .i64 (ut)) ∧ wb.cell? ⟨w.heap.size, 3, none⟩ = some (.int .i64 (ub)) ∧ wb.cell? ⟨w.heap.size + 1, 0, none⟩ = some (.int .i64 (st)) ∧ wb.cell? ⟨w.heap.size + 1, 1, none⟩ = some (.int .i64 (sb)))) := fun wb h => ⟨h, ext_cell h a0, ext_cell h a1, ext_cell h a2, ext_cell h a3, ext_cell h b0, ext_cell h b1⟩
      go_upto_region 3 with fail
      go_cut [6, 7] (fun s6 s7 wx => ∃ g : Nat, s6 = .pointer (some ⟨g, 0, none⟩) ∧ s7 = .bool (addOk st sb (wrap64 (-zt)) zb) ∧ wx.cell? ⟨g, 0, none⟩ = some (.int .i64 (addT st sb (wrap64 (-zt)) zb)) ∧ wx.cell? ⟨g, 1, none⟩ = some (.int .i64 (addB st sb (wrap64 (-zt)) zb)) ∧ Ext w2 wx)
      case first =>
        go_region_held3 (fun w' => Ext w2 w' ∧ w'.cell? ⟨w.heap.size, 0, none⟩ = some (.int .i64 (zt)) ∧ w'.cell? ⟨w.heap.size, 1, none⟩ = some (.int .i64 (zb)) ∧ w'.cell? ⟨w.heap.size, 2, none⟩ = some (.int .i64 (ut)) ∧ w'.cell? ⟨w.heap.size, 3, none⟩ = some (.int .i64 (ub)) ∧ w'.cell? ⟨w.heap.size + 1, 0, none⟩ = some (.int .i64 (st)) ∧ w'.cell? ⟨w.heap.size + 1, 1, none⟩ = some (.int .i64 (sb)))
          ((refine HKS.out _ ?_; repeat (first | (with_reducible exact ext_refl _) | (with_reducible refine ext_drew ?_) | (with_reducible refine ext_setCell ?_ ?_ _) | (with_reducible refine ext_alloc ?_ _) | (with_reducible refine ext_trans ?_ (by assumption)) | ((try dsimp only); with_reducible exact Nat.le_refl _) | ((try dsimp only); with_reducible refine ext_size ?_))))
          (first
            | (go_at_call 124; refine (spec_l17Minus _ _ _).mono ?_; rintro e w3 ⟨rfl, hx3⟩; obtain ⟨hc3, hf3, hn3⟩ := bcell3 hx3; first | (have hz4 := hn3 _ hz4) | (have hz := ext_size hx3; simp at hz; have hz4 := Nat.lt_of_succ_le hz) | skip)
            | (go_at_call 123; refine (spec_AddFractions _ _ _ _ _).mono ?_; rintro e w3 ⟨rfl, hx3⟩; obtain ⟨hc3, hf3, hn3⟩ := bcell3 hx3; first | (have hz4 := hn3 _ hz4) | (have hz := ext_size hx3; simp at hz; have hz4 := Nat.lt_of_succ_le hz) | skip))
        all_goals
          go_wp2_with fail
          go_meet
          refine ⟨_, rfl, rfl, ?_, ?_, ?_⟩
          · go_simp
          · go_simp
          · repeat (first | (with_reducible exact ext_refl _) | (with_reducible refine ext_drew ?_) | (with_reducible refine ext_setCell ?_ ?_ _) | (with_reducible refine ext_alloc ?_ _) | (with_reducible refine ext_trans ?_ (by assumption)) | ((try dsimp only); with_reducible exact Nat.le_refl _) | ((try dsimp only); with_reducible refine ext_size ?_))
      case rest =>
        obtain ⟨g, rfl, rfl, p0, p1, hxc⟩ := hcut
        obtain ⟨w5, rfl⟩ : ∃ x : World, x = wc := ⟨_, rfl⟩
        have A0 := ext_cell hxc a0
        have A1 := ext_cell hxc a1
        have A2 := ext_cell hxc a2
        have A3 := ext_cell hxc a3
        have C0 := ext_cell hxc c0
        have G0 : w5.frozen? ⟨w.heap.size + 1 + 1, 0, none⟩ = false := (hxc.frozen (p := ⟨w.heap.size + 1 + 1, 0, none⟩) hy22).trans f0
        have C1 := ext_cell hxc c1
        have G1 : w5.frozen? ⟨w.heap.size + 1 + 1, 1, none⟩ = false := (hxc.frozen (p := ⟨w.heap.size + 1 + 1, 1, none⟩) hy22).trans f1
        clear a0 a1 a2 a3 b0 b1 c0 c1 f0 f1
        have hg : g < w5.heap.size := World.block_lt_of_cell? _ _ p0
        have hy52 : w.heap.size + 1 + 1 < w5.heap.size := Nat.lt_of_lt_of_le hy22 hxc.size
        cases h3 : addOk st sb (wrap64 (-zt)) zb
        · have hm : coIn zt zb ut ub st sb = false := by simp [coIn, h3]
          go_wp2_with fail
          exact bodyPost_ret (v := .tuple #[.agg #[.int .i64 (0), .int .i64 (0)], .bool (false)]) (by simp [results, Try.results96, go_sem, C0, C1]) rfl ⟨by simp [frac, coT, coB, coOk, hm], (by repeat (first | (with_reducible exact ext_refl _) | (with_reducible refine ext_setCell ?_ ?_ _) | (with_reducible refine ext_alloc ?_ _) | (with_reducible refine ext_drewN ?_ _) | (with_reducible refine ext_drew ?_) | (with_reducible refine ext_trans ?_ (by assumption)) | (dsimp only; omega) | omega | (simp; omega)))⟩
        · have hm : coIn zt zb ut ub st sb = true := by simp [coIn, h1, h3]
          have hv := add_valid h3
          go_wp2_with fail
          refine (spec_l17Over _ _ _ _ _ hv hv2).mono ?_
          rintro e w6 ⟨rfl, hx6⟩
          have D0 := ext_cell hx6 C0
          have D1 := ext_cell hx6 C1
          have K0 : w6.frozen? ⟨w.heap.size + 1 + 1, 0, none⟩ = false := (hx6.frozen (p := ⟨w.heap.size + 1 + 1, 0, none⟩) hy52).trans G0
          have K1 : w6.frozen? ⟨w.heap.size + 1 + 1, 1, none⟩ = false := (hx6.frozen (p := ⟨w.heap.size + 1 + 1, 1, none⟩) hy52).trans G1
          go_wp2_with fail
          exact bodyPost_ret (v := .tuple #[.agg #[.int .i64 (ovT (addT st sb (wrap64 (-zt)) zb) (addB st sb (wrap64 (-zt)) zb) ut ub), .int .i64 (ovB (addT st sb (wrap64 (-zt)) zb) (addB st sb (wrap64 (-zt)) zb) ut ub)], .bool (ovOk (addT st sb (wrap64 (-zt)) zb) (addB st sb (wrap64 (-zt)) zb) ut ub)]) (by simp [results, Try.results96, go_sem, D0, D1]) rfl ⟨by simp [frac, coT, coB, coOk, hm], (by repeat (first | (with_reducible exact ext_refl _) | (with_reducible refine ext_setCell ?_ ?_ _) | (with_reducible refine ext_alloc ?_ _) | (with_reducible refine ext_drewN ?_ _) | (with_reducible refine ext_drew ?_) | (with_reducible refine ext_trans ?_ (by assumption)) | (dsimp only; omega) | omega | (simp; omega)))⟩
end Go.Proofs.Ytnafpciionmbbaa
