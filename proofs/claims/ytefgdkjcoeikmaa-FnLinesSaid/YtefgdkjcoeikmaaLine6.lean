/- The contract of the program's line through two points, joined from its ways. No condition. -/
import Derived.Test.YtefgdkjcoeikmaaLine5a
import Derived.Test.YtefgdkjcoeikmaaLine5b
namespace Go.Proofs.Ytefgdkjcoeikmaa
open Go.ChangeShapes Go.WideShapes Go.ChangeAt Go.RowKit
set_option linter.unusedVariables false
set_option linter.unusedSimpArgs false

abbrev ltEnd (a b c d e f g h : Int) : Ending := lineR (ltv (ltIn a b c d e f g h) (ltZT a b c d e f g h)) (ltv (ltIn a b c d e f g h) (ltZB a b c d e f g h)) (ltv (ltIn a b c d e f g h) (ltUT a b c d e f g h)) (ltv (ltIn a b c d e f g h) (ltUB a b c d e f g h)) (ltIn a b c d e f g h)
theorem lt_no {a b c d e f g h : Int} (hm : ltIn a b c d e f g h = false) : ltEnd a b c d e f g h = lineR 0 0 0 0 false := by simp [ltEnd, ltv, hm]
theorem lt_yes {a b c d e f g h : Int} (hm : ltIn a b c d e f g h = true) : ltEnd a b c d e f g h = lineR (ltZT a b c d e f g h) (ltZB a b c d e f g h) (ltUT a b c d e f g h) (ltUB a b c d e f g h) true := by simp [ltEnd, ltv, hm]
theorem impl_LineThrough (a b c d e f g h : Int) (w : World) :
    Calls Try.prog 28 #[.agg #[.int .i64 a, .int .i64 b], .agg #[.int .i64 c, .int .i64 d], .agg #[.int .i64 e, .int .i64 f], .agg #[.int .i64 g, .int .i64 h]] w fun en w' => en = ltEnd a b c d e f g h ∧ Ext w w' := by
  cases h0 : fracOk a b
  · rw [lt_no (by simp [ltIn, h0])]; exact impl_LT_bad0 a b c d e f g h w h0
  · skip
    cases h1 : fracOk c d
    · rw [lt_no (by simp [ltIn, h1])]; exact impl_LT_bad1 a b c d e f g h w h0 h1
    · skip
      cases h2 : fracOk e f
      · rw [lt_no (by simp [ltIn, h2])]; exact impl_LT_bad2 a b c d e f g h w h0 h1 h2
      · skip
        cases h3 : fracOk g h
        · rw [lt_no (by simp [ltIn, h3])]; exact impl_LT_bad3 a b c d e f g h w h0 h1 h2 h3
        · skip
          by_cases ha : a = e
          · subst ha
            by_cases h4 : b = f
            · subst h4
              rw [lt_no (by simp [ltIn, eqP])]; exact impl_LT_same a b c d g h w h0 h1 h3
            · have heq : eqP a b a f = false := by simp [eqP, h4]
              cases q0 : suOk a f a b
              · rw [lt_no (by simp [ltIn, q0])]; exact impl_LT_d1c0 b c d a f g h w h0 h1 h2 h3 h4 q0
              · skip
                cases q1 : suOk g h c d
                · rw [lt_no (by simp [ltIn, q1])]; exact impl_LT_d1c1 b c d a f g h w h0 h1 h2 h3 h4 q0 q1
                · skip
                  cases q2 : ltUOk a b c d a f g h
                  · rw [lt_no (by simp [ltIn, q2])]; exact impl_LT_d1c2 b c d a f g h w h0 h1 h2 h3 h4 q0 q1 q2
                  · skip
                    cases q3 : ltPOk a b c d a f g h
                    · rw [lt_no (by simp [ltIn, q3])]; exact impl_LT_d1c3 b c d a f g h w h0 h1 h2 h3 h4 q0 q1 q2 q3
                    · skip
                      cases q4 : ltZOk a b c d a f g h
                      · rw [lt_no (by simp [ltIn, q4])]; exact impl_LT_d1c4 b c d a f g h w h0 h1 h2 h3 h4 q0 q1 q2 q3 q4
                      · skip
                        cases q5 : lineOkB (ltZT a b c d a f g h) (ltZB a b c d a f g h) (ltUT a b c d a f g h) (ltUB a b c d a f g h)
                        · rw [lt_no (by simp [ltIn, q5])]; exact impl_LT_d1c5 b c d a f g h w h0 h1 h2 h3 h4 q0 q1 q2 q3 q4 q5
                        · rw [lt_yes (by simp [ltIn, h0, h1, h2, h3, heq, q0, q1, q2, q3, q4, q5])]; exact impl_LT_d1c6 b c d a f g h w h0 h1 h2 h3 h4 q0 q1 q2 q3 q4 q5
          · have h4 := ha
            have heq : eqP a b e f = false := by simp [eqP, h4]
            cases q0 : suOk e f a b
            · rw [lt_no (by simp [ltIn, q0])]; exact impl_LT_d2c0 a b c d e f g h w h0 h1 h2 h3 h4 q0
            · skip
              cases q1 : suOk g h c d
              · rw [lt_no (by simp [ltIn, q1])]; exact impl_LT_d2c1 a b c d e f g h w h0 h1 h2 h3 h4 q0 q1
              · skip
                cases q2 : ltUOk a b c d e f g h
                · rw [lt_no (by simp [ltIn, q2])]; exact impl_LT_d2c2 a b c d e f g h w h0 h1 h2 h3 h4 q0 q1 q2
                · skip
                  cases q3 : ltPOk a b c d e f g h
                  · rw [lt_no (by simp [ltIn, q3])]; exact impl_LT_d2c3 a b c d e f g h w h0 h1 h2 h3 h4 q0 q1 q2 q3
                  · skip
                    cases q4 : ltZOk a b c d e f g h
                    · rw [lt_no (by simp [ltIn, q4])]; exact impl_LT_d2c4 a b c d e f g h w h0 h1 h2 h3 h4 q0 q1 q2 q3 q4
                    · skip
                      cases q5 : lineOkB (ltZT a b c d e f g h) (ltZB a b c d e f g h) (ltUT a b c d e f g h) (ltUB a b c d e f g h)
                      · rw [lt_no (by simp [ltIn, q5])]; exact impl_LT_d2c5 a b c d e f g h w h0 h1 h2 h3 h4 q0 q1 q2 q3 q4 q5
                      · rw [lt_yes (by simp [ltIn, h0, h1, h2, h3, heq, q0, q1, q2, q3, q4, q5])]; exact impl_LT_d2c6 a b c d e f g h w h0 h1 h2 h3 h4 q0 q1 q2 q3 q4 q5
end Go.Proofs.Ytefgdkjcoeikmaa
