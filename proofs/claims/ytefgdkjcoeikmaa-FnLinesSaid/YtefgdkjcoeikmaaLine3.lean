/- The contract of the reference's correcting. No condition. -/
import Derived.Test.YtefgdkjcoeikmaaLine2
import Derived.Deep.RegionHeld3
import Derived.Deep.DeepCutAuto
namespace Go.Proofs.Ytefgdkjcoeikmaa
open Go.ChangeShapes Go.WideShapes Go.ChangeAt Go.RowKit
set_option linter.unusedVariables false
set_option linter.unusedSimpArgs false

theorem add_valid {t1 b1 t2 b2 : Int} (h : addOk t1 b1 t2 b2 = true) : fracOk (addT t1 b1 t2 b2) (addB t1 b1 t2 b2) = true := by
  unfold addOk at h
  simp only [Bool.and_eq_true] at h
  unfold addT addB
  rw [h.1, if_pos rfl, if_pos rfl]
  exact (red_ok h.2).1
theorem line_valid {zt zb ut ub : Int} (h : lineOkB zt zb ut ub = true) : fracOk zt zb = true ∧ fracOk ut ub = true ∧ 0 < ut := by
  simp [lineOkB] at h
  exact ⟨h.1.1, h.1.2, h.2⟩
end Go.Proofs.Ytefgdkjcoeikmaa
