/- Closed facts of the translated program that each law's row asks; the long head word is read once, as a list of characters. -/
import Derived.Test.YtefgdkjcoeikmaaRows
import Derived.Test.YtefgdkjcoeikmaaOpen
import Derived.ShutString
import Derived.ChangeOld
namespace Go.Proofs.Ytefgdkjcoeikmaa
theorem own : ownKnob Try.prog.godebug = none := by kernel_rfl
theorem laidOut : laidOutB Try.prog = true := by kernel_rfl

set_option maxRecDepth 1000000 in
theorem headWord : ∃ l : List Char, Try.prog.initOrder = String.ofList l ∧ (behindMainWord (wordsSigns l)).head? = some "cut".toList := ⟨_, rfl, by kernel_rfl⟩
theorem cutWord : ∃ rest, behindMainWord (wordsSigns Try.prog.initOrder.toList) = "cut".toList :: rest := by
  obtain ⟨l, h1, h2⟩ := headWord
  rw [h1, String.toList_ofList]
  cases hb : behindMainWord (wordsSigns l) with
  | nil => rw [hb] at h2; cases h2
  | cons c r =>
    rw [hb] at h2
    simp only [List.head?_cons, Option.some.injEq] at h2
    exact ⟨r, by rw [h2]⟩
theorem make_of {P : Program} {rest : List (List Char)} (h : behindMainWord (wordsSigns P.initOrder.toList) = "cut".toList :: rest) : P.make = some .cut := by
  unfold Program.make
  rw [h]
  rfl
theorem strip_of (rest : List (List Char)) : stripLifts liftWords ("cut".toList :: rest) = ([], "cut".toList :: rest) := by rfl
theorem liftsFinal_of {P : Program} {rest : List (List Char)} (h : behindMainWord (wordsSigns P.initOrder.toList) = "cut".toList :: rest) : P.liftsFinal = false := by
  unfold Program.liftsFinal Program.headLifts
  rw [h, strip_of]
  rfl
theorem mayEnter_of {P : Program} {rest : List (List Char)} (h : behindMainWord (wordsSigns P.initOrder.toList) = "cut".toList :: rest) (h1 : P.laysLater = false) (h2 : P.bearsReflect = false) (h3 : P.doorFits [] = true) : P.mayEnter = true := by
  unfold Program.mayEnter
  rw [h]
  simp only []
  rw [strip_of, h1, h2]
  simp only [h3]
  rfl
theorem make_eq : Try.prog.make = some .cut := by obtain ⟨r, h⟩ := cutWord; exact make_of h
theorem liftsFinal_eq : Try.prog.liftsFinal = false := by obtain ⟨r, h⟩ := cutWord; exact liftsFinal_of h
theorem mayEnter_eq : Try.prog.mayEnter = true := by obtain ⟨r, h⟩ := cutWord; exact mayEnter_of h (by kernel_rfl) (by kernel_rfl) (by kernel_rfl)
end Go.Proofs.Ytefgdkjcoeikmaa
