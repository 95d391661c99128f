/-
  No cell of these rows narrows 'for every input' (looked for: loops, veiled, ifaces, maps, wideKeys, modest, calm, conditions, laid).
  DERIVED. THE GIVEN ROWS OF THIS SEAT. 31 by the template 'for every input the law returns true; each argument reads behind the call as it read before'; 0 by the template 'total and deterministic' (their statements: YtnafpciionmbbaaTotals.lean).
  GIVEN WITH THE SEED: the statements are not yours to turn. If you find one false, say at which input.
  Laid BY PROGRAM, IN A SANDBOX (cutbox-rows.mjs): the forced cells as the released guide's own fill.sh prints them over the translation 50b6392803d7e3fd… (all of the seat's roots in one cut). By AI agents, Wed Nov 11 2026. No macro, syntax, notation, axiom, sorry.
-/
import Derived.Test.YtnafpciionmbbaaChecked
import GoSem.Claim
import GoSem.ClaimJoined
import GoSem.ClaimMapViews
import Derived.JoinedTies
import Derived.KernelRfl
namespace Go.Proofs.Ytnafpciionmbbaa
/- THE CELL 'sum', in the pinned program and in every row, IS THE sha256 OF THE DUMP (.gsa) THAT YtnafpciionmbbaaProg.lean LOADS. Nothing in Lean hashes anything: it is a label: what it is worth is what the hold of that sum in a sandbox is worth. -/
noncomputable def Try.pinned : Pinned := { name := "ytnafpciionmbbaa", sum := "50b6392803d7e3fd4a20b84f4d954a4417443c4a5d9fa4b08808c04f38c42df4", checked := Try.checked }
namespace Rows
def none {H : Type} : Left H := { results := [], args := [] }

/-- 'laws.FnExactPlayOk': WHATEVER THE INPUT: true; the input reads as it did. -/
def fnExactPlayOkSpec : ChangeSpec := { name := "fnExactPlayOk", fn := fun _ => fun
  | [d1, d2] => { results := [.lit (.bool true)], args := [d1, d2] }
  | _ => none }
def fnExactPlayOkRow : OpenClaim := { program := "ytnafpciionmbbaa", sum := "50b6392803d7e3fd4a20b84f4d954a4417443c4a5d9fa4b08808c04f38c42df4", func := "loop.example/g00992/laws.FnExactPlayOk", spec := "fnExactPlayOk", apart := false }
def FnExactPlayOkSaid : Prop := fnExactPlayOkRow.holds Try.pinned (OpenSpec.ofChange fnExactPlayOkSpec)

/-- ITS FALSE NEIGHBOUR: 'it returns false'. Refute it at one input. -/
def fnExactPlayOkWrong : ChangeSpec := { name := "fnExactPlayOk", fn := fun _ => fun
  | [d1, d2] => { results := [.lit (.bool false)], args := [d1, d2] }
  | _ => none }
def FnExactPlayOkWrongFalsely : Prop := fnExactPlayOkRow.holds Try.pinned (OpenSpec.ofChange fnExactPlayOkWrong)

/-- 'laws.FnExactVernierOk': WHATEVER THE INPUT: true; the input reads as it did. -/
def fnExactVernierOkSpec : ChangeSpec := { name := "fnExactVernierOk", fn := fun _ => fun
  | [d1, d2] => { results := [.lit (.bool true)], args := [d1, d2] }
  | _ => none }
def fnExactVernierOkRow : OpenClaim := { program := "ytnafpciionmbbaa", sum := "50b6392803d7e3fd4a20b84f4d954a4417443c4a5d9fa4b08808c04f38c42df4", func := "loop.example/g00992/laws.FnExactVernierOk", spec := "fnExactVernierOk", apart := false }
def FnExactVernierOkSaid : Prop := fnExactVernierOkRow.holds Try.pinned (OpenSpec.ofChange fnExactVernierOkSpec)

/-- ITS FALSE NEIGHBOUR: 'it returns false'. Refute it at one input. -/
def fnExactVernierOkWrong : ChangeSpec := { name := "fnExactVernierOk", fn := fun _ => fun
  | [d1, d2] => { results := [.lit (.bool false)], args := [d1, d2] }
  | _ => none }
def FnExactVernierOkWrongFalsely : Prop := fnExactVernierOkRow.holds Try.pinned (OpenSpec.ofChange fnExactVernierOkWrong)

/-- 'laws.FnExactMarkGap': WHATEVER THE INPUT: true; the input reads as it did. -/
def fnExactMarkGapSpec : ChangeSpec := { name := "fnExactMarkGap", fn := fun _ => fun
  | [d1, d2, d3] => { results := [.lit (.bool true)], args := [d1, d2, d3] }
  | _ => none }
def fnExactMarkGapRow : OpenClaim := { program := "ytnafpciionmbbaa", sum := "50b6392803d7e3fd4a20b84f4d954a4417443c4a5d9fa4b08808c04f38c42df4", func := "loop.example/g00992/laws.FnExactMarkGap", spec := "fnExactMarkGap", apart := false }
def FnExactMarkGapSaid : Prop := fnExactMarkGapRow.holds Try.pinned (OpenSpec.ofChange fnExactMarkGapSpec)

/-- ITS FALSE NEIGHBOUR: 'it returns false'. Refute it at one input. -/
def fnExactMarkGapWrong : ChangeSpec := { name := "fnExactMarkGap", fn := fun _ => fun
  | [d1, d2, d3] => { results := [.lit (.bool false)], args := [d1, d2, d3] }
  | _ => none }
def FnExactMarkGapWrongFalsely : Prop := fnExactMarkGapRow.holds Try.pinned (OpenSpec.ofChange fnExactMarkGapWrong)

/-- 'laws.FnExactLegendreOf': WHATEVER THE INPUT: true; the input reads as it did. -/
def fnExactLegendreOfSpec : ChangeSpec := { name := "fnExactLegendreOf", fn := fun _ => fun
  | [d1, d2] => { results := [.lit (.bool true)], args := [d1, d2] }
  | _ => none }
def fnExactLegendreOfRow : OpenClaim := { program := "ytnafpciionmbbaa", sum := "50b6392803d7e3fd4a20b84f4d954a4417443c4a5d9fa4b08808c04f38c42df4", func := "loop.example/g00992/laws.FnExactLegendreOf", spec := "fnExactLegendreOf", apart := false }
def FnExactLegendreOfSaid : Prop := fnExactLegendreOfRow.holds Try.pinned (OpenSpec.ofChange fnExactLegendreOfSpec)

/-- ITS FALSE NEIGHBOUR: 'it returns false'. Refute it at one input. -/
def fnExactLegendreOfWrong : ChangeSpec := { name := "fnExactLegendreOf", fn := fun _ => fun
  | [d1, d2] => { results := [.lit (.bool false)], args := [d1, d2] }
  | _ => none }
def FnExactLegendreOfWrongFalsely : Prop := fnExactLegendreOfRow.holds Try.pinned (OpenSpec.ofChange fnExactLegendreOfWrong)

/-- 'laws.FnExactPlayStep': WHATEVER THE INPUT: true; the input reads as it did. -/
def fnExactPlayStepSpec : ChangeSpec := { name := "fnExactPlayStep", fn := fun _ => fun
  | [d1, d2, d3] => { results := [.lit (.bool true)], args := [d1, d2, d3] }
  | _ => none }
def fnExactPlayStepRow : OpenClaim := { program := "ytnafpciionmbbaa", sum := "50b6392803d7e3fd4a20b84f4d954a4417443c4a5d9fa4b08808c04f38c42df4", func := "loop.example/g00992/laws.FnExactPlayStep", spec := "fnExactPlayStep", apart := false }
def FnExactPlayStepSaid : Prop := fnExactPlayStepRow.holds Try.pinned (OpenSpec.ofChange fnExactPlayStepSpec)

/-- ITS FALSE NEIGHBOUR: 'it returns false'. Refute it at one input. -/
def fnExactPlayStepWrong : ChangeSpec := { name := "fnExactPlayStep", fn := fun _ => fun
  | [d1, d2, d3] => { results := [.lit (.bool false)], args := [d1, d2, d3] }
  | _ => none }
def FnExactPlayStepWrongFalsely : Prop := fnExactPlayStepRow.holds Try.pinned (OpenSpec.ofChange fnExactPlayStepWrong)

/-- 'laws.FnExactCoincidingMark': WHATEVER THE INPUT: true; the input reads as it did. -/
def fnExactCoincidingMarkSpec : ChangeSpec := { name := "fnExactCoincidingMark", fn := fun _ => fun
  | [d1, d2] => { results := [.lit (.bool true)], args := [d1, d2] }
  | _ => none }
def fnExactCoincidingMarkRow : OpenClaim := { program := "ytnafpciionmbbaa", sum := "50b6392803d7e3fd4a20b84f4d954a4417443c4a5d9fa4b08808c04f38c42df4", func := "loop.example/g00992/laws.FnExactCoincidingMark", spec := "fnExactCoincidingMark", apart := false }
def FnExactCoincidingMarkSaid : Prop := fnExactCoincidingMarkRow.holds Try.pinned (OpenSpec.ofChange fnExactCoincidingMarkSpec)

/-- ITS FALSE NEIGHBOUR: 'it returns false'. Refute it at one input. -/
def fnExactCoincidingMarkWrong : ChangeSpec := { name := "fnExactCoincidingMark", fn := fun _ => fun
  | [d1, d2] => { results := [.lit (.bool false)], args := [d1, d2] }
  | _ => none }
def FnExactCoincidingMarkWrongFalsely : Prop := fnExactCoincidingMarkRow.holds Try.pinned (OpenSpec.ofChange fnExactCoincidingMarkWrong)

/-- 'laws.FnExactRoundTo': WHATEVER THE INPUT: true; the input reads as it did. -/
def fnExactRoundToSpec : ChangeSpec := { name := "fnExactRoundTo", fn := fun _ => fun
  | [d1, d2] => { results := [.lit (.bool true)], args := [d1, d2] }
  | _ => none }
def fnExactRoundToRow : OpenClaim := { program := "ytnafpciionmbbaa", sum := "50b6392803d7e3fd4a20b84f4d954a4417443c4a5d9fa4b08808c04f38c42df4", func := "loop.example/g00992/laws.FnExactRoundTo", spec := "fnExactRoundTo", apart := false }
def FnExactRoundToSaid : Prop := fnExactRoundToRow.holds Try.pinned (OpenSpec.ofChange fnExactRoundToSpec)

/-- ITS FALSE NEIGHBOUR: 'it returns false'. Refute it at one input. -/
def fnExactRoundToWrong : ChangeSpec := { name := "fnExactRoundTo", fn := fun _ => fun
  | [d1, d2] => { results := [.lit (.bool false)], args := [d1, d2] }
  | _ => none }
def FnExactRoundToWrongFalsely : Prop := fnExactRoundToRow.holds Try.pinned (OpenSpec.ofChange fnExactRoundToWrong)

/-- 'laws.FnExactRoundError': WHATEVER THE INPUT: true; the input reads as it did. -/
def fnExactRoundErrorSpec : ChangeSpec := { name := "fnExactRoundError", fn := fun _ => fun
  | [d1, d2] => { results := [.lit (.bool true)], args := [d1, d2] }
  | _ => none }
def fnExactRoundErrorRow : OpenClaim := { program := "ytnafpciionmbbaa", sum := "50b6392803d7e3fd4a20b84f4d954a4417443c4a5d9fa4b08808c04f38c42df4", func := "loop.example/g00992/laws.FnExactRoundError", spec := "fnExactRoundError", apart := false }
def FnExactRoundErrorSaid : Prop := fnExactRoundErrorRow.holds Try.pinned (OpenSpec.ofChange fnExactRoundErrorSpec)

/-- ITS FALSE NEIGHBOUR: 'it returns false'. Refute it at one input. -/
def fnExactRoundErrorWrong : ChangeSpec := { name := "fnExactRoundError", fn := fun _ => fun
  | [d1, d2] => { results := [.lit (.bool false)], args := [d1, d2] }
  | _ => none }
def FnExactRoundErrorWrongFalsely : Prop := fnExactRoundErrorRow.holds Try.pinned (OpenSpec.ofChange fnExactRoundErrorWrong)

/-- 'laws.FnExactRoundTwice': WHATEVER THE INPUT: true; the input reads as it did. -/
def fnExactRoundTwiceSpec : ChangeSpec := { name := "fnExactRoundTwice", fn := fun _ => fun
  | [d1, d2, d3] => { results := [.lit (.bool true)], args := [d1, d2, d3] }
  | _ => none }
def fnExactRoundTwiceRow : OpenClaim := { program := "ytnafpciionmbbaa", sum := "50b6392803d7e3fd4a20b84f4d954a4417443c4a5d9fa4b08808c04f38c42df4", func := "loop.example/g00992/laws.FnExactRoundTwice", spec := "fnExactRoundTwice", apart := false }
def FnExactRoundTwiceSaid : Prop := fnExactRoundTwiceRow.holds Try.pinned (OpenSpec.ofChange fnExactRoundTwiceSpec)

/-- ITS FALSE NEIGHBOUR: 'it returns false'. Refute it at one input. -/
def fnExactRoundTwiceWrong : ChangeSpec := { name := "fnExactRoundTwice", fn := fun _ => fun
  | [d1, d2, d3] => { results := [.lit (.bool false)], args := [d1, d2, d3] }
  | _ => none }
def FnExactRoundTwiceWrongFalsely : Prop := fnExactRoundTwiceRow.holds Try.pinned (OpenSpec.ofChange fnExactRoundTwiceWrong)

/-- 'laws.FnExactNearestMark': WHATEVER THE INPUT: true; the input reads as it did. -/
def fnExactNearestMarkSpec : ChangeSpec := { name := "fnExactNearestMark", fn := fun _ => fun
  | [d1, d2] => { results := [.lit (.bool true)], args := [d1, d2] }
  | _ => none }
def fnExactNearestMarkRow : OpenClaim := { program := "ytnafpciionmbbaa", sum := "50b6392803d7e3fd4a20b84f4d954a4417443c4a5d9fa4b08808c04f38c42df4", func := "loop.example/g00992/laws.FnExactNearestMark", spec := "fnExactNearestMark", apart := false }
def FnExactNearestMarkSaid : Prop := fnExactNearestMarkRow.holds Try.pinned (OpenSpec.ofChange fnExactNearestMarkSpec)

/-- ITS FALSE NEIGHBOUR: 'it returns false'. Refute it at one input. -/
def fnExactNearestMarkWrong : ChangeSpec := { name := "fnExactNearestMark", fn := fun _ => fun
  | [d1, d2] => { results := [.lit (.bool false)], args := [d1, d2] }
  | _ => none }
def FnExactNearestMarkWrongFalsely : Prop := fnExactNearestMarkRow.holds Try.pinned (OpenSpec.ofChange fnExactNearestMarkWrong)

/-- 'laws.FnExactLineOk': WHATEVER THE INPUT: true; the input reads as it did. -/
def fnExactLineOkSpec : ChangeSpec := { name := "fnExactLineOk", fn := fun _ => fun
  | [d] => { results := [.lit (.bool true)], args := [d] }
  | _ => none }
def fnExactLineOkRow : OpenClaim := { program := "ytnafpciionmbbaa", sum := "50b6392803d7e3fd4a20b84f4d954a4417443c4a5d9fa4b08808c04f38c42df4", func := "loop.example/g00992/laws.FnExactLineOk", spec := "fnExactLineOk", apart := false }
def FnExactLineOkSaid : Prop := fnExactLineOkRow.holds Try.pinned (OpenSpec.ofChange fnExactLineOkSpec)

/-- ITS FALSE NEIGHBOUR: 'it returns false'. Refute it at one input. -/
def fnExactLineOkWrong : ChangeSpec := { name := "fnExactLineOk", fn := fun _ => fun
  | [d] => { results := [.lit (.bool false)], args := [d] }
  | _ => none }
def FnExactLineOkWrongFalsely : Prop := fnExactLineOkRow.holds Try.pinned (OpenSpec.ofChange fnExactLineOkWrong)

/-- 'laws.FnExactReadVernier': WHATEVER THE INPUT: true; the input reads as it did. -/
def fnExactReadVernierSpec : ChangeSpec := { name := "fnExactReadVernier", fn := fun _ => fun
  | [d1, d2] => { results := [.lit (.bool true)], args := [d1, d2] }
  | _ => none }
def fnExactReadVernierRow : OpenClaim := { program := "ytnafpciionmbbaa", sum := "50b6392803d7e3fd4a20b84f4d954a4417443c4a5d9fa4b08808c04f38c42df4", func := "loop.example/g00992/laws.FnExactReadVernier", spec := "fnExactReadVernier", apart := false }
def FnExactReadVernierSaid : Prop := fnExactReadVernierRow.holds Try.pinned (OpenSpec.ofChange fnExactReadVernierSpec)

/-- ITS FALSE NEIGHBOUR: 'it returns false'. Refute it at one input. -/
def fnExactReadVernierWrong : ChangeSpec := { name := "fnExactReadVernier", fn := fun _ => fun
  | [d1, d2] => { results := [.lit (.bool false)], args := [d1, d2] }
  | _ => none }
def FnExactReadVernierWrongFalsely : Prop := fnExactReadVernierRow.holds Try.pinned (OpenSpec.ofChange fnExactReadVernierWrong)

/-- 'laws.FnExactSwapRows': WHATEVER THE INPUT: true; the input reads as it did. -/
def fnExactSwapRowsSpec : ChangeSpec := { name := "fnExactSwapRows", fn := fun _ => fun
  | [d1, d2, d3] => { results := [.lit (.bool true)], args := [d1, d2, d3] }
  | _ => none }
def fnExactSwapRowsRow : OpenClaim := { program := "ytnafpciionmbbaa", sum := "50b6392803d7e3fd4a20b84f4d954a4417443c4a5d9fa4b08808c04f38c42df4", func := "loop.example/g00992/laws.FnExactSwapRows", spec := "fnExactSwapRows", apart := false }
def FnExactSwapRowsSaid : Prop := fnExactSwapRowsRow.holds Try.pinned (OpenSpec.ofChange fnExactSwapRowsSpec)

/-- ITS FALSE NEIGHBOUR: 'it returns false'. Refute it at one input. -/
def fnExactSwapRowsWrong : ChangeSpec := { name := "fnExactSwapRows", fn := fun _ => fun
  | [d1, d2, d3] => { results := [.lit (.bool false)], args := [d1, d2, d3] }
  | _ => none }
def FnExactSwapRowsWrongFalsely : Prop := fnExactSwapRowsRow.holds Try.pinned (OpenSpec.ofChange fnExactSwapRowsWrong)

/-- 'laws.FnVerniers': WHATEVER THE INPUT: true; the input reads as it did. -/
def fnVerniersSpec : ChangeSpec := { name := "fnVerniers", fn := fun _ => fun
  | [d] => { results := [.lit (.bool true)], args := [d] }
  | _ => none }
def fnVerniersRow : OpenClaim := { program := "ytnafpciionmbbaa", sum := "50b6392803d7e3fd4a20b84f4d954a4417443c4a5d9fa4b08808c04f38c42df4", func := "loop.example/g00992/laws.FnVerniers", spec := "fnVerniers", apart := false }
def FnVerniersSaid : Prop := fnVerniersRow.holds Try.pinned (OpenSpec.ofChange fnVerniersSpec)

/-- ITS FALSE NEIGHBOUR: 'it returns false'. Refute it at one input. -/
def fnVerniersWrong : ChangeSpec := { name := "fnVerniers", fn := fun _ => fun
  | [d] => { results := [.lit (.bool false)], args := [d] }
  | _ => none }
def FnVerniersWrongFalsely : Prop := fnVerniersRow.holds Try.pinned (OpenSpec.ofChange fnVerniersWrong)

/-- 'laws.FnExactSumOfRounded': WHATEVER THE INPUT: true; the input reads as it did. -/
def fnExactSumOfRoundedSpec : ChangeSpec := { name := "fnExactSumOfRounded", fn := fun _ => fun
  | [d1, d2] => { results := [.lit (.bool true)], args := [d1, d2] }
  | _ => none }
def fnExactSumOfRoundedRow : OpenClaim := { program := "ytnafpciionmbbaa", sum := "50b6392803d7e3fd4a20b84f4d954a4417443c4a5d9fa4b08808c04f38c42df4", func := "loop.example/g00992/laws.FnExactSumOfRounded", spec := "fnExactSumOfRounded", apart := false }
def FnExactSumOfRoundedSaid : Prop := fnExactSumOfRoundedRow.holds Try.pinned (OpenSpec.ofChange fnExactSumOfRoundedSpec)

/-- ITS FALSE NEIGHBOUR: 'it returns false'. Refute it at one input. -/
def fnExactSumOfRoundedWrong : ChangeSpec := { name := "fnExactSumOfRounded", fn := fun _ => fun
  | [d1, d2] => { results := [.lit (.bool false)], args := [d1, d2] }
  | _ => none }
def FnExactSumOfRoundedWrongFalsely : Prop := fnExactSumOfRoundedRow.holds Try.pinned (OpenSpec.ofChange fnExactSumOfRoundedWrong)

/-- 'laws.FnExactReadLeft': WHATEVER THE INPUT: true; the input reads as it did. -/
def fnExactReadLeftSpec : ChangeSpec := { name := "fnExactReadLeft", fn := fun _ => fun
  | [d1, d2, d3] => { results := [.lit (.bool true)], args := [d1, d2, d3] }
  | _ => none }
def fnExactReadLeftRow : OpenClaim := { program := "ytnafpciionmbbaa", sum := "50b6392803d7e3fd4a20b84f4d954a4417443c4a5d9fa4b08808c04f38c42df4", func := "loop.example/g00992/laws.FnExactReadLeft", spec := "fnExactReadLeft", apart := false }
def FnExactReadLeftSaid : Prop := fnExactReadLeftRow.holds Try.pinned (OpenSpec.ofChange fnExactReadLeftSpec)

/-- ITS FALSE NEIGHBOUR: 'it returns false'. Refute it at one input. -/
def fnExactReadLeftWrong : ChangeSpec := { name := "fnExactReadLeft", fn := fun _ => fun
  | [d1, d2, d3] => { results := [.lit (.bool false)], args := [d1, d2, d3] }
  | _ => none }
def FnExactReadLeftWrongFalsely : Prop := fnExactReadLeftRow.holds Try.pinned (OpenSpec.ofChange fnExactReadLeftWrong)

/-- 'laws.FnExactSquareFrom': WHATEVER THE INPUT: true; the input reads as it did. -/
def fnExactSquareFromSpec : ChangeSpec := { name := "fnExactSquareFrom", fn := fun _ => fun
  | [d1, d2] => { results := [.lit (.bool true)], args := [d1, d2] }
  | _ => none }
def fnExactSquareFromRow : OpenClaim := { program := "ytnafpciionmbbaa", sum := "50b6392803d7e3fd4a20b84f4d954a4417443c4a5d9fa4b08808c04f38c42df4", func := "loop.example/g00992/laws.FnExactSquareFrom", spec := "fnExactSquareFrom", apart := false }
def FnExactSquareFromSaid : Prop := fnExactSquareFromRow.holds Try.pinned (OpenSpec.ofChange fnExactSquareFromSpec)

/-- ITS FALSE NEIGHBOUR: 'it returns false'. Refute it at one input. -/
def fnExactSquareFromWrong : ChangeSpec := { name := "fnExactSquareFrom", fn := fun _ => fun
  | [d1, d2] => { results := [.lit (.bool false)], args := [d1, d2] }
  | _ => none }
def FnExactSquareFromWrongFalsely : Prop := fnExactSquareFromRow.holds Try.pinned (OpenSpec.ofChange fnExactSquareFromWrong)

/-- 'laws.FnExactReadRight': WHATEVER THE INPUT: true; the input reads as it did. -/
def fnExactReadRightSpec : ChangeSpec := { name := "fnExactReadRight", fn := fun _ => fun
  | [d1, d2, d3] => { results := [.lit (.bool true)], args := [d1, d2, d3] }
  | _ => none }
def fnExactReadRightRow : OpenClaim := { program := "ytnafpciionmbbaa", sum := "50b6392803d7e3fd4a20b84f4d954a4417443c4a5d9fa4b08808c04f38c42df4", func := "loop.example/g00992/laws.FnExactReadRight", spec := "fnExactReadRight", apart := false }
def FnExactReadRightSaid : Prop := fnExactReadRightRow.holds Try.pinned (OpenSpec.ofChange fnExactReadRightSpec)

/-- ITS FALSE NEIGHBOUR: 'it returns false'. Refute it at one input. -/
def fnExactReadRightWrong : ChangeSpec := { name := "fnExactReadRight", fn := fun _ => fun
  | [d1, d2, d3] => { results := [.lit (.bool false)], args := [d1, d2, d3] }
  | _ => none }
def FnExactReadRightWrongFalsely : Prop := fnExactReadRightRow.holds Try.pinned (OpenSpec.ofChange fnExactReadRightWrong)

/-- 'laws.FnExactPlayAll': WHATEVER THE INPUT: true; the input reads as it did. -/
def fnExactPlayAllSpec : ChangeSpec := { name := "fnExactPlayAll", fn := fun _ => fun
  | [d1, d2, d3] => { results := [.lit (.bool true)], args := [d1, d2, d3] }
  | _ => none }
def fnExactPlayAllRow : OpenClaim := { program := "ytnafpciionmbbaa", sum := "50b6392803d7e3fd4a20b84f4d954a4417443c4a5d9fa4b08808c04f38c42df4", func := "loop.example/g00992/laws.FnExactPlayAll", spec := "fnExactPlayAll", apart := false }
def FnExactPlayAllSaid : Prop := fnExactPlayAllRow.holds Try.pinned (OpenSpec.ofChange fnExactPlayAllSpec)

/-- ITS FALSE NEIGHBOUR: 'it returns false'. Refute it at one input. -/
def fnExactPlayAllWrong : ChangeSpec := { name := "fnExactPlayAll", fn := fun _ => fun
  | [d1, d2, d3] => { results := [.lit (.bool false)], args := [d1, d2, d3] }
  | _ => none }
def FnExactPlayAllWrongFalsely : Prop := fnExactPlayAllRow.holds Try.pinned (OpenSpec.ofChange fnExactPlayAllWrong)

/-- 'laws.FnSteps': WHATEVER THE INPUT: true; the input reads as it did. -/
def fnStepsSpec : ChangeSpec := { name := "fnSteps", fn := fun _ => fun
  | [d] => { results := [.lit (.bool true)], args := [d] }
  | _ => none }
def fnStepsRow : OpenClaim := { program := "ytnafpciionmbbaa", sum := "50b6392803d7e3fd4a20b84f4d954a4417443c4a5d9fa4b08808c04f38c42df4", func := "loop.example/g00992/laws.FnSteps", spec := "fnSteps", apart := false }
def FnStepsSaid : Prop := fnStepsRow.holds Try.pinned (OpenSpec.ofChange fnStepsSpec)

/-- ITS FALSE NEIGHBOUR: 'it returns false'. Refute it at one input. -/
def fnStepsWrong : ChangeSpec := { name := "fnSteps", fn := fun _ => fun
  | [d] => { results := [.lit (.bool false)], args := [d] }
  | _ => none }
def FnStepsWrongFalsely : Prop := fnStepsRow.holds Try.pinned (OpenSpec.ofChange fnStepsWrong)

/-- 'laws.FnExactGreatestLag': WHATEVER THE INPUT: true; the input reads as it did. -/
def fnExactGreatestLagSpec : ChangeSpec := { name := "fnExactGreatestLag", fn := fun _ => fun
  | [d1, d2, d3] => { results := [.lit (.bool true)], args := [d1, d2, d3] }
  | _ => none }
def fnExactGreatestLagRow : OpenClaim := { program := "ytnafpciionmbbaa", sum := "50b6392803d7e3fd4a20b84f4d954a4417443c4a5d9fa4b08808c04f38c42df4", func := "loop.example/g00992/laws.FnExactGreatestLag", spec := "fnExactGreatestLag", apart := false }
def FnExactGreatestLagSaid : Prop := fnExactGreatestLagRow.holds Try.pinned (OpenSpec.ofChange fnExactGreatestLagSpec)

/-- ITS FALSE NEIGHBOUR: 'it returns false'. Refute it at one input. -/
def fnExactGreatestLagWrong : ChangeSpec := { name := "fnExactGreatestLag", fn := fun _ => fun
  | [d1, d2, d3] => { results := [.lit (.bool false)], args := [d1, d2, d3] }
  | _ => none }
def FnExactGreatestLagWrongFalsely : Prop := fnExactGreatestLagRow.holds Try.pinned (OpenSpec.ofChange fnExactGreatestLagWrong)

/-- 'laws.FnExactCountMoves': WHATEVER THE INPUT: true; the input reads as it did. -/
def fnExactCountMovesSpec : ChangeSpec := { name := "fnExactCountMoves", fn := fun _ => fun
  | [d1, d2, d3] => { results := [.lit (.bool true)], args := [d1, d2, d3] }
  | _ => none }
def fnExactCountMovesRow : OpenClaim := { program := "ytnafpciionmbbaa", sum := "50b6392803d7e3fd4a20b84f4d954a4417443c4a5d9fa4b08808c04f38c42df4", func := "loop.example/g00992/laws.FnExactCountMoves", spec := "fnExactCountMoves", apart := false }
def FnExactCountMovesSaid : Prop := fnExactCountMovesRow.holds Try.pinned (OpenSpec.ofChange fnExactCountMovesSpec)

/-- ITS FALSE NEIGHBOUR: 'it returns false'. Refute it at one input. -/
def fnExactCountMovesWrong : ChangeSpec := { name := "fnExactCountMoves", fn := fun _ => fun
  | [d1, d2, d3] => { results := [.lit (.bool false)], args := [d1, d2, d3] }
  | _ => none }
def FnExactCountMovesWrongFalsely : Prop := fnExactCountMovesRow.holds Try.pinned (OpenSpec.ofChange fnExactCountMovesWrong)

/-- 'laws.FnArms': WHATEVER THE INPUT: true; the input reads as it did. -/
def fnArmsSpec : ChangeSpec := { name := "fnArms", fn := fun _ => fun
  | [d] => { results := [.lit (.bool true)], args := [d] }
  | _ => none }
def fnArmsRow : OpenClaim := { program := "ytnafpciionmbbaa", sum := "50b6392803d7e3fd4a20b84f4d954a4417443c4a5d9fa4b08808c04f38c42df4", func := "loop.example/g00992/laws.FnArms", spec := "fnArms", apart := false }
def FnArmsSaid : Prop := fnArmsRow.holds Try.pinned (OpenSpec.ofChange fnArmsSpec)

/-- ITS FALSE NEIGHBOUR: 'it returns false'. Refute it at one input. -/
def fnArmsWrong : ChangeSpec := { name := "fnArms", fn := fun _ => fun
  | [d] => { results := [.lit (.bool false)], args := [d] }
  | _ => none }
def FnArmsWrongFalsely : Prop := fnArmsRow.holds Try.pinned (OpenSpec.ofChange fnArmsWrong)

/-- 'laws.FnExactCarryRounding': WHATEVER THE INPUT: true; the input reads as it did. -/
def fnExactCarryRoundingSpec : ChangeSpec := { name := "fnExactCarryRounding", fn := fun _ => fun
  | [d1, d2] => { results := [.lit (.bool true)], args := [d1, d2] }
  | _ => none }
def fnExactCarryRoundingRow : OpenClaim := { program := "ytnafpciionmbbaa", sum := "50b6392803d7e3fd4a20b84f4d954a4417443c4a5d9fa4b08808c04f38c42df4", func := "loop.example/g00992/laws.FnExactCarryRounding", spec := "fnExactCarryRounding", apart := false }
def FnExactCarryRoundingSaid : Prop := fnExactCarryRoundingRow.holds Try.pinned (OpenSpec.ofChange fnExactCarryRoundingSpec)

/-- ITS FALSE NEIGHBOUR: 'it returns false'. Refute it at one input. -/
def fnExactCarryRoundingWrong : ChangeSpec := { name := "fnExactCarryRounding", fn := fun _ => fun
  | [d1, d2] => { results := [.lit (.bool false)], args := [d1, d2] }
  | _ => none }
def FnExactCarryRoundingWrongFalsely : Prop := fnExactCarryRoundingRow.holds Try.pinned (OpenSpec.ofChange fnExactCarryRoundingWrong)

/-- 'laws.FnExactSubstitute': WHATEVER THE INPUT: true; the input reads as it did. -/
def fnExactSubstituteSpec : ChangeSpec := { name := "fnExactSubstitute", fn := fun _ => fun
  | [d1, d2, d3, d4] => { results := [.lit (.bool true)], args := [d1, d2, d3, d4] }
  | _ => none }
def fnExactSubstituteRow : OpenClaim := { program := "ytnafpciionmbbaa", sum := "50b6392803d7e3fd4a20b84f4d954a4417443c4a5d9fa4b08808c04f38c42df4", func := "loop.example/g00992/laws.FnExactSubstitute", spec := "fnExactSubstitute", apart := false }
def FnExactSubstituteSaid : Prop := fnExactSubstituteRow.holds Try.pinned (OpenSpec.ofChange fnExactSubstituteSpec)

/-- ITS FALSE NEIGHBOUR: 'it returns false'. Refute it at one input. -/
def fnExactSubstituteWrong : ChangeSpec := { name := "fnExactSubstitute", fn := fun _ => fun
  | [d1, d2, d3, d4] => { results := [.lit (.bool false)], args := [d1, d2, d3, d4] }
  | _ => none }
def FnExactSubstituteWrongFalsely : Prop := fnExactSubstituteRow.holds Try.pinned (OpenSpec.ofChange fnExactSubstituteWrong)

/-- 'laws.FnPlays': WHATEVER THE INPUT: true; the input reads as it did. -/
def fnPlaysSpec : ChangeSpec := { name := "fnPlays", fn := fun _ => fun
  | [d] => { results := [.lit (.bool true)], args := [d] }
  | _ => none }
def fnPlaysRow : OpenClaim := { program := "ytnafpciionmbbaa", sum := "50b6392803d7e3fd4a20b84f4d954a4417443c4a5d9fa4b08808c04f38c42df4", func := "loop.example/g00992/laws.FnPlays", spec := "fnPlays", apart := false }
def FnPlaysSaid : Prop := fnPlaysRow.holds Try.pinned (OpenSpec.ofChange fnPlaysSpec)

/-- ITS FALSE NEIGHBOUR: 'it returns false'. Refute it at one input. -/
def fnPlaysWrong : ChangeSpec := { name := "fnPlays", fn := fun _ => fun
  | [d] => { results := [.lit (.bool false)], args := [d] }
  | _ => none }
def FnPlaysWrongFalsely : Prop := fnPlaysRow.holds Try.pinned (OpenSpec.ofChange fnPlaysWrong)

/-- 'laws.FnExactShown': WHATEVER THE INPUT: true; the input reads as it did. -/
def fnExactShownSpec : ChangeSpec := { name := "fnExactShown", fn := fun _ => fun
  | [d1, d2] => { results := [.lit (.bool true)], args := [d1, d2] }
  | _ => none }
def fnExactShownRow : OpenClaim := { program := "ytnafpciionmbbaa", sum := "50b6392803d7e3fd4a20b84f4d954a4417443c4a5d9fa4b08808c04f38c42df4", func := "loop.example/g00992/laws.FnExactShown", spec := "fnExactShown", apart := false }
def FnExactShownSaid : Prop := fnExactShownRow.holds Try.pinned (OpenSpec.ofChange fnExactShownSpec)

/-- ITS FALSE NEIGHBOUR: 'it returns false'. Refute it at one input. -/
def fnExactShownWrong : ChangeSpec := { name := "fnExactShown", fn := fun _ => fun
  | [d1, d2] => { results := [.lit (.bool false)], args := [d1, d2] }
  | _ => none }
def FnExactShownWrongFalsely : Prop := fnExactShownRow.holds Try.pinned (OpenSpec.ofChange fnExactShownWrong)

/-- 'laws.FnExactCorrected': WHATEVER THE INPUT: true; the input reads as it did. -/
def fnExactCorrectedSpec : ChangeSpec := { name := "fnExactCorrected", fn := fun _ => fun
  | [d1, d2] => { results := [.lit (.bool true)], args := [d1, d2] }
  | _ => none }
def fnExactCorrectedRow : OpenClaim := { program := "ytnafpciionmbbaa", sum := "50b6392803d7e3fd4a20b84f4d954a4417443c4a5d9fa4b08808c04f38c42df4", func := "loop.example/g00992/laws.FnExactCorrected", spec := "fnExactCorrected", apart := false }
def FnExactCorrectedSaid : Prop := fnExactCorrectedRow.holds Try.pinned (OpenSpec.ofChange fnExactCorrectedSpec)

/-- ITS FALSE NEIGHBOUR: 'it returns false'. Refute it at one input. -/
def fnExactCorrectedWrong : ChangeSpec := { name := "fnExactCorrected", fn := fun _ => fun
  | [d1, d2] => { results := [.lit (.bool false)], args := [d1, d2] }
  | _ => none }
def FnExactCorrectedWrongFalsely : Prop := fnExactCorrectedRow.holds Try.pinned (OpenSpec.ofChange fnExactCorrectedWrong)

/-- 'laws.FnExactChainLines': WHATEVER THE INPUT: true; the input reads as it did. -/
def fnExactChainLinesSpec : ChangeSpec := { name := "fnExactChainLines", fn := fun _ => fun
  | [d1, d2] => { results := [.lit (.bool true)], args := [d1, d2] }
  | _ => none }
def fnExactChainLinesRow : OpenClaim := { program := "ytnafpciionmbbaa", sum := "50b6392803d7e3fd4a20b84f4d954a4417443c4a5d9fa4b08808c04f38c42df4", func := "loop.example/g00992/laws.FnExactChainLines", spec := "fnExactChainLines", apart := false }
def FnExactChainLinesSaid : Prop := fnExactChainLinesRow.holds Try.pinned (OpenSpec.ofChange fnExactChainLinesSpec)

/-- ITS FALSE NEIGHBOUR: 'it returns false'. Refute it at one input. -/
def fnExactChainLinesWrong : ChangeSpec := { name := "fnExactChainLines", fn := fun _ => fun
  | [d1, d2] => { results := [.lit (.bool false)], args := [d1, d2] }
  | _ => none }
def FnExactChainLinesWrongFalsely : Prop := fnExactChainLinesRow.holds Try.pinned (OpenSpec.ofChange fnExactChainLinesWrong)

/-- 'laws.FnExactLineThrough': WHATEVER THE INPUT: true; the input reads as it did. -/
def fnExactLineThroughSpec : ChangeSpec := { name := "fnExactLineThrough", fn := fun _ => fun
  | [d1, d2, d3, d4] => { results := [.lit (.bool true)], args := [d1, d2, d3, d4] }
  | _ => none }
def fnExactLineThroughRow : OpenClaim := { program := "ytnafpciionmbbaa", sum := "50b6392803d7e3fd4a20b84f4d954a4417443c4a5d9fa4b08808c04f38c42df4", func := "loop.example/g00992/laws.FnExactLineThrough", spec := "fnExactLineThrough", apart := false }
def FnExactLineThroughSaid : Prop := fnExactLineThroughRow.holds Try.pinned (OpenSpec.ofChange fnExactLineThroughSpec)

/-- ITS FALSE NEIGHBOUR: 'it returns false'. Refute it at one input. -/
def fnExactLineThroughWrong : ChangeSpec := { name := "fnExactLineThrough", fn := fun _ => fun
  | [d1, d2, d3, d4] => { results := [.lit (.bool false)], args := [d1, d2, d3, d4] }
  | _ => none }
def FnExactLineThroughWrongFalsely : Prop := fnExactLineThroughRow.holds Try.pinned (OpenSpec.ofChange fnExactLineThroughWrong)

/-- 'laws.FnLines': WHATEVER THE INPUT: true; the input reads as it did. -/
def fnLinesSpec : ChangeSpec := { name := "fnLines", fn := fun _ => fun
  | [d] => { results := [.lit (.bool true)], args := [d] }
  | _ => none }
def fnLinesRow : OpenClaim := { program := "ytnafpciionmbbaa", sum := "50b6392803d7e3fd4a20b84f4d954a4417443c4a5d9fa4b08808c04f38c42df4", func := "loop.example/g00992/laws.FnLines", spec := "fnLines", apart := false }
def FnLinesSaid : Prop := fnLinesRow.holds Try.pinned (OpenSpec.ofChange fnLinesSpec)

/-- ITS FALSE NEIGHBOUR: 'it returns false'. Refute it at one input. -/
def fnLinesWrong : ChangeSpec := { name := "fnLines", fn := fun _ => fun
  | [d] => { results := [.lit (.bool false)], args := [d] }
  | _ => none }
def FnLinesWrongFalsely : Prop := fnLinesRow.holds Try.pinned (OpenSpec.ofChange fnLinesWrong)

/- THE SECOND FORM. 'bulk': how many values and letters a reading holds, each counted each time it is reached (what is shared counts as often as it is met; a slice's spare places count too). A statement '..UptoSaid' is the law's where the arguments, and the package variables that the reading takes, are together of bulk at most 1048576: NARROWER than '..Said'. Prove '..Said' where nothing that the law and all that it calls make is longer than what came in: it says more and counts as full. Else prove '..UptoSaid'. A law counts once. -/
mutual
def uptoBulk {H : Type} : DataW H → Nat
  | .lit (.string bytes) => bytes.length + 1
  | .lit _ => 1
  | .nil => 1
  | .ptr d => uptoBulk d + 1
  | .slice elems spare => uptoBulkAll elems + uptoBulkAll spare + 1
  | .agg parts => uptoBulkAll parts + 1
  | .iface _ d => uptoBulk d + 1
  | .map entries => uptoBulkEntries entries + 1
  | .held _ => 1
def uptoBulkAll {H : Type} : List (DataW H) → Nat
  | [] => 0
  | d :: r => uptoBulk d + uptoBulkAll r
def uptoBulkEntries {H : Type} : List (Lit × DataW H) → Nat
  | [] => 0
  | x :: r => uptoBulkEntry x + uptoBulkEntries r
def uptoBulkEntry {H : Type} : Lit × DataW H → Nat
  | (.string bytes, d) => bytes.length + uptoBulk d + 1
  | (_, d) => uptoBulk d + 1
 end
def uptoSmall : (H : Type) → List (DataW H) → Bool := fun _ ds => decide (uptoBulkAll ds ≤ 1048576)
def OpenSpec.upto (s : _root_.Go.ChangeSpec) : _root_.Go.OpenSpec := { _root_.Go.OpenSpec.ofChange s with cond := some uptoSmall }

/-- 'laws.FnExactPlayOk', WHERE WHAT IT READS IS OF BULK AT MOST 1048576: true; the input reads as it did. -/
def fnExactPlayOkUptoRow : OpenClaim := { program := "ytnafpciionmbbaa", sum := "50b6392803d7e3fd4a20b84f4d954a4417443c4a5d9fa4b08808c04f38c42df4", func := "loop.example/g00992/laws.FnExactPlayOk", spec := "fnExactPlayOk", apart := false, narrowed := true }
def FnExactPlayOkUptoSaid : Prop := fnExactPlayOkUptoRow.holds Try.pinned (OpenSpec.upto fnExactPlayOkSpec)

/-- 'laws.FnExactVernierOk', WHERE WHAT IT READS IS OF BULK AT MOST 1048576: true; the input reads as it did. -/
def fnExactVernierOkUptoRow : OpenClaim := { program := "ytnafpciionmbbaa", sum := "50b6392803d7e3fd4a20b84f4d954a4417443c4a5d9fa4b08808c04f38c42df4", func := "loop.example/g00992/laws.FnExactVernierOk", spec := "fnExactVernierOk", apart := false, narrowed := true }
def FnExactVernierOkUptoSaid : Prop := fnExactVernierOkUptoRow.holds Try.pinned (OpenSpec.upto fnExactVernierOkSpec)

/-- 'laws.FnExactMarkGap', WHERE WHAT IT READS IS OF BULK AT MOST 1048576: true; the input reads as it did. -/
def fnExactMarkGapUptoRow : OpenClaim := { program := "ytnafpciionmbbaa", sum := "50b6392803d7e3fd4a20b84f4d954a4417443c4a5d9fa4b08808c04f38c42df4", func := "loop.example/g00992/laws.FnExactMarkGap", spec := "fnExactMarkGap", apart := false, narrowed := true }
def FnExactMarkGapUptoSaid : Prop := fnExactMarkGapUptoRow.holds Try.pinned (OpenSpec.upto fnExactMarkGapSpec)

/-- 'laws.FnExactLegendreOf', WHERE WHAT IT READS IS OF BULK AT MOST 1048576: true; the input reads as it did. -/
def fnExactLegendreOfUptoRow : OpenClaim := { program := "ytnafpciionmbbaa", sum := "50b6392803d7e3fd4a20b84f4d954a4417443c4a5d9fa4b08808c04f38c42df4", func := "loop.example/g00992/laws.FnExactLegendreOf", spec := "fnExactLegendreOf", apart := false, narrowed := true }
def FnExactLegendreOfUptoSaid : Prop := fnExactLegendreOfUptoRow.holds Try.pinned (OpenSpec.upto fnExactLegendreOfSpec)

/-- 'laws.FnExactPlayStep', WHERE WHAT IT READS IS OF BULK AT MOST 1048576: true; the input reads as it did. -/
def fnExactPlayStepUptoRow : OpenClaim := { program := "ytnafpciionmbbaa", sum := "50b6392803d7e3fd4a20b84f4d954a4417443c4a5d9fa4b08808c04f38c42df4", func := "loop.example/g00992/laws.FnExactPlayStep", spec := "fnExactPlayStep", apart := false, narrowed := true }
def FnExactPlayStepUptoSaid : Prop := fnExactPlayStepUptoRow.holds Try.pinned (OpenSpec.upto fnExactPlayStepSpec)

/-- 'laws.FnExactCoincidingMark', WHERE WHAT IT READS IS OF BULK AT MOST 1048576: true; the input reads as it did. -/
def fnExactCoincidingMarkUptoRow : OpenClaim := { program := "ytnafpciionmbbaa", sum := "50b6392803d7e3fd4a20b84f4d954a4417443c4a5d9fa4b08808c04f38c42df4", func := "loop.example/g00992/laws.FnExactCoincidingMark", spec := "fnExactCoincidingMark", apart := false, narrowed := true }
def FnExactCoincidingMarkUptoSaid : Prop := fnExactCoincidingMarkUptoRow.holds Try.pinned (OpenSpec.upto fnExactCoincidingMarkSpec)

/-- 'laws.FnExactRoundTo', WHERE WHAT IT READS IS OF BULK AT MOST 1048576: true; the input reads as it did. -/
def fnExactRoundToUptoRow : OpenClaim := { program := "ytnafpciionmbbaa", sum := "50b6392803d7e3fd4a20b84f4d954a4417443c4a5d9fa4b08808c04f38c42df4", func := "loop.example/g00992/laws.FnExactRoundTo", spec := "fnExactRoundTo", apart := false, narrowed := true }
def FnExactRoundToUptoSaid : Prop := fnExactRoundToUptoRow.holds Try.pinned (OpenSpec.upto fnExactRoundToSpec)

/-- 'laws.FnExactRoundError', WHERE WHAT IT READS IS OF BULK AT MOST 1048576: true; the input reads as it did. -/
def fnExactRoundErrorUptoRow : OpenClaim := { program := "ytnafpciionmbbaa", sum := "50b6392803d7e3fd4a20b84f4d954a4417443c4a5d9fa4b08808c04f38c42df4", func := "loop.example/g00992/laws.FnExactRoundError", spec := "fnExactRoundError", apart := false, narrowed := true }
def FnExactRoundErrorUptoSaid : Prop := fnExactRoundErrorUptoRow.holds Try.pinned (OpenSpec.upto fnExactRoundErrorSpec)

/-- 'laws.FnExactRoundTwice', WHERE WHAT IT READS IS OF BULK AT MOST 1048576: true; the input reads as it did. -/
def fnExactRoundTwiceUptoRow : OpenClaim := { program := "ytnafpciionmbbaa", sum := "50b6392803d7e3fd4a20b84f4d954a4417443c4a5d9fa4b08808c04f38c42df4", func := "loop.example/g00992/laws.FnExactRoundTwice", spec := "fnExactRoundTwice", apart := false, narrowed := true }
def FnExactRoundTwiceUptoSaid : Prop := fnExactRoundTwiceUptoRow.holds Try.pinned (OpenSpec.upto fnExactRoundTwiceSpec)

/-- 'laws.FnExactNearestMark', WHERE WHAT IT READS IS OF BULK AT MOST 1048576: true; the input reads as it did. -/
def fnExactNearestMarkUptoRow : OpenClaim := { program := "ytnafpciionmbbaa", sum := "50b6392803d7e3fd4a20b84f4d954a4417443c4a5d9fa4b08808c04f38c42df4", func := "loop.example/g00992/laws.FnExactNearestMark", spec := "fnExactNearestMark", apart := false, narrowed := true }
def FnExactNearestMarkUptoSaid : Prop := fnExactNearestMarkUptoRow.holds Try.pinned (OpenSpec.upto fnExactNearestMarkSpec)

/-- 'laws.FnExactLineOk', WHERE WHAT IT READS IS OF BULK AT MOST 1048576: true; the input reads as it did. -/
def fnExactLineOkUptoRow : OpenClaim := { program := "ytnafpciionmbbaa", sum := "50b6392803d7e3fd4a20b84f4d954a4417443c4a5d9fa4b08808c04f38c42df4", func := "loop.example/g00992/laws.FnExactLineOk", spec := "fnExactLineOk", apart := false, narrowed := true }
def FnExactLineOkUptoSaid : Prop := fnExactLineOkUptoRow.holds Try.pinned (OpenSpec.upto fnExactLineOkSpec)

/-- 'laws.FnExactReadVernier', WHERE WHAT IT READS IS OF BULK AT MOST 1048576: true; the input reads as it did. -/
def fnExactReadVernierUptoRow : OpenClaim := { program := "ytnafpciionmbbaa", sum := "50b6392803d7e3fd4a20b84f4d954a4417443c4a5d9fa4b08808c04f38c42df4", func := "loop.example/g00992/laws.FnExactReadVernier", spec := "fnExactReadVernier", apart := false, narrowed := true }
def FnExactReadVernierUptoSaid : Prop := fnExactReadVernierUptoRow.holds Try.pinned (OpenSpec.upto fnExactReadVernierSpec)

/-- 'laws.FnExactSwapRows', WHERE WHAT IT READS IS OF BULK AT MOST 1048576: true; the input reads as it did. -/
def fnExactSwapRowsUptoRow : OpenClaim := { program := "ytnafpciionmbbaa", sum := "50b6392803d7e3fd4a20b84f4d954a4417443c4a5d9fa4b08808c04f38c42df4", func := "loop.example/g00992/laws.FnExactSwapRows", spec := "fnExactSwapRows", apart := false, narrowed := true }
def FnExactSwapRowsUptoSaid : Prop := fnExactSwapRowsUptoRow.holds Try.pinned (OpenSpec.upto fnExactSwapRowsSpec)

/-- 'laws.FnVerniers', WHERE WHAT IT READS IS OF BULK AT MOST 1048576: true; the input reads as it did. -/
def fnVerniersUptoRow : OpenClaim := { program := "ytnafpciionmbbaa", sum := "50b6392803d7e3fd4a20b84f4d954a4417443c4a5d9fa4b08808c04f38c42df4", func := "loop.example/g00992/laws.FnVerniers", spec := "fnVerniers", apart := false, narrowed := true }
def FnVerniersUptoSaid : Prop := fnVerniersUptoRow.holds Try.pinned (OpenSpec.upto fnVerniersSpec)

/-- 'laws.FnExactSumOfRounded', WHERE WHAT IT READS IS OF BULK AT MOST 1048576: true; the input reads as it did. -/
def fnExactSumOfRoundedUptoRow : OpenClaim := { program := "ytnafpciionmbbaa", sum := "50b6392803d7e3fd4a20b84f4d954a4417443c4a5d9fa4b08808c04f38c42df4", func := "loop.example/g00992/laws.FnExactSumOfRounded", spec := "fnExactSumOfRounded", apart := false, narrowed := true }
def FnExactSumOfRoundedUptoSaid : Prop := fnExactSumOfRoundedUptoRow.holds Try.pinned (OpenSpec.upto fnExactSumOfRoundedSpec)

/-- 'laws.FnExactReadLeft', WHERE WHAT IT READS IS OF BULK AT MOST 1048576: true; the input reads as it did. -/
def fnExactReadLeftUptoRow : OpenClaim := { program := "ytnafpciionmbbaa", sum := "50b6392803d7e3fd4a20b84f4d954a4417443c4a5d9fa4b08808c04f38c42df4", func := "loop.example/g00992/laws.FnExactReadLeft", spec := "fnExactReadLeft", apart := false, narrowed := true }
def FnExactReadLeftUptoSaid : Prop := fnExactReadLeftUptoRow.holds Try.pinned (OpenSpec.upto fnExactReadLeftSpec)

/-- 'laws.FnExactSquareFrom', WHERE WHAT IT READS IS OF BULK AT MOST 1048576: true; the input reads as it did. -/
def fnExactSquareFromUptoRow : OpenClaim := { program := "ytnafpciionmbbaa", sum := "50b6392803d7e3fd4a20b84f4d954a4417443c4a5d9fa4b08808c04f38c42df4", func := "loop.example/g00992/laws.FnExactSquareFrom", spec := "fnExactSquareFrom", apart := false, narrowed := true }
def FnExactSquareFromUptoSaid : Prop := fnExactSquareFromUptoRow.holds Try.pinned (OpenSpec.upto fnExactSquareFromSpec)

/-- 'laws.FnExactReadRight', WHERE WHAT IT READS IS OF BULK AT MOST 1048576: true; the input reads as it did. -/
def fnExactReadRightUptoRow : OpenClaim := { program := "ytnafpciionmbbaa", sum := "50b6392803d7e3fd4a20b84f4d954a4417443c4a5d9fa4b08808c04f38c42df4", func := "loop.example/g00992/laws.FnExactReadRight", spec := "fnExactReadRight", apart := false, narrowed := true }
def FnExactReadRightUptoSaid : Prop := fnExactReadRightUptoRow.holds Try.pinned (OpenSpec.upto fnExactReadRightSpec)

/-- 'laws.FnExactPlayAll', WHERE WHAT IT READS IS OF BULK AT MOST 1048576: true; the input reads as it did. -/
def fnExactPlayAllUptoRow : OpenClaim := { program := "ytnafpciionmbbaa", sum := "50b6392803d7e3fd4a20b84f4d954a4417443c4a5d9fa4b08808c04f38c42df4", func := "loop.example/g00992/laws.FnExactPlayAll", spec := "fnExactPlayAll", apart := false, narrowed := true }
def FnExactPlayAllUptoSaid : Prop := fnExactPlayAllUptoRow.holds Try.pinned (OpenSpec.upto fnExactPlayAllSpec)

/-- 'laws.FnSteps', WHERE WHAT IT READS IS OF BULK AT MOST 1048576: true; the input reads as it did. -/
def fnStepsUptoRow : OpenClaim := { program := "ytnafpciionmbbaa", sum := "50b6392803d7e3fd4a20b84f4d954a4417443c4a5d9fa4b08808c04f38c42df4", func := "loop.example/g00992/laws.FnSteps", spec := "fnSteps", apart := false, narrowed := true }
def FnStepsUptoSaid : Prop := fnStepsUptoRow.holds Try.pinned (OpenSpec.upto fnStepsSpec)

/-- 'laws.FnExactGreatestLag', WHERE WHAT IT READS IS OF BULK AT MOST 1048576: true; the input reads as it did. -/
def fnExactGreatestLagUptoRow : OpenClaim := { program := "ytnafpciionmbbaa", sum := "50b6392803d7e3fd4a20b84f4d954a4417443c4a5d9fa4b08808c04f38c42df4", func := "loop.example/g00992/laws.FnExactGreatestLag", spec := "fnExactGreatestLag", apart := false, narrowed := true }
def FnExactGreatestLagUptoSaid : Prop := fnExactGreatestLagUptoRow.holds Try.pinned (OpenSpec.upto fnExactGreatestLagSpec)

/-- 'laws.FnExactCountMoves', WHERE WHAT IT READS IS OF BULK AT MOST 1048576: true; the input reads as it did. -/
def fnExactCountMovesUptoRow : OpenClaim := { program := "ytnafpciionmbbaa", sum := "50b6392803d7e3fd4a20b84f4d954a4417443c4a5d9fa4b08808c04f38c42df4", func := "loop.example/g00992/laws.FnExactCountMoves", spec := "fnExactCountMoves", apart := false, narrowed := true }
def FnExactCountMovesUptoSaid : Prop := fnExactCountMovesUptoRow.holds Try.pinned (OpenSpec.upto fnExactCountMovesSpec)

/-- 'laws.FnArms', WHERE WHAT IT READS IS OF BULK AT MOST 1048576: true; the input reads as it did. -/
def fnArmsUptoRow : OpenClaim := { program := "ytnafpciionmbbaa", sum := "50b6392803d7e3fd4a20b84f4d954a4417443c4a5d9fa4b08808c04f38c42df4", func := "loop.example/g00992/laws.FnArms", spec := "fnArms", apart := false, narrowed := true }
def FnArmsUptoSaid : Prop := fnArmsUptoRow.holds Try.pinned (OpenSpec.upto fnArmsSpec)

/-- 'laws.FnExactCarryRounding', WHERE WHAT IT READS IS OF BULK AT MOST 1048576: true; the input reads as it did. -/
def fnExactCarryRoundingUptoRow : OpenClaim := { program := "ytnafpciionmbbaa", sum := "50b6392803d7e3fd4a20b84f4d954a4417443c4a5d9fa4b08808c04f38c42df4", func := "loop.example/g00992/laws.FnExactCarryRounding", spec := "fnExactCarryRounding", apart := false, narrowed := true }
def FnExactCarryRoundingUptoSaid : Prop := fnExactCarryRoundingUptoRow.holds Try.pinned (OpenSpec.upto fnExactCarryRoundingSpec)

/-- 'laws.FnExactSubstitute', WHERE WHAT IT READS IS OF BULK AT MOST 1048576: true; the input reads as it did. -/
def fnExactSubstituteUptoRow : OpenClaim := { program := "ytnafpciionmbbaa", sum := "50b6392803d7e3fd4a20b84f4d954a4417443c4a5d9fa4b08808c04f38c42df4", func := "loop.example/g00992/laws.FnExactSubstitute", spec := "fnExactSubstitute", apart := false, narrowed := true }
def FnExactSubstituteUptoSaid : Prop := fnExactSubstituteUptoRow.holds Try.pinned (OpenSpec.upto fnExactSubstituteSpec)

/-- 'laws.FnPlays', WHERE WHAT IT READS IS OF BULK AT MOST 1048576: true; the input reads as it did. -/
def fnPlaysUptoRow : OpenClaim := { program := "ytnafpciionmbbaa", sum := "50b6392803d7e3fd4a20b84f4d954a4417443c4a5d9fa4b08808c04f38c42df4", func := "loop.example/g00992/laws.FnPlays", spec := "fnPlays", apart := false, narrowed := true }
def FnPlaysUptoSaid : Prop := fnPlaysUptoRow.holds Try.pinned (OpenSpec.upto fnPlaysSpec)

/-- 'laws.FnExactShown', WHERE WHAT IT READS IS OF BULK AT MOST 1048576: true; the input reads as it did. -/
def fnExactShownUptoRow : OpenClaim := { program := "ytnafpciionmbbaa", sum := "50b6392803d7e3fd4a20b84f4d954a4417443c4a5d9fa4b08808c04f38c42df4", func := "loop.example/g00992/laws.FnExactShown", spec := "fnExactShown", apart := false, narrowed := true }
def FnExactShownUptoSaid : Prop := fnExactShownUptoRow.holds Try.pinned (OpenSpec.upto fnExactShownSpec)

/-- 'laws.FnExactCorrected', WHERE WHAT IT READS IS OF BULK AT MOST 1048576: true; the input reads as it did. -/
def fnExactCorrectedUptoRow : OpenClaim := { program := "ytnafpciionmbbaa", sum := "50b6392803d7e3fd4a20b84f4d954a4417443c4a5d9fa4b08808c04f38c42df4", func := "loop.example/g00992/laws.FnExactCorrected", spec := "fnExactCorrected", apart := false, narrowed := true }
def FnExactCorrectedUptoSaid : Prop := fnExactCorrectedUptoRow.holds Try.pinned (OpenSpec.upto fnExactCorrectedSpec)

/-- 'laws.FnExactChainLines', WHERE WHAT IT READS IS OF BULK AT MOST 1048576: true; the input reads as it did. -/
def fnExactChainLinesUptoRow : OpenClaim := { program := "ytnafpciionmbbaa", sum := "50b6392803d7e3fd4a20b84f4d954a4417443c4a5d9fa4b08808c04f38c42df4", func := "loop.example/g00992/laws.FnExactChainLines", spec := "fnExactChainLines", apart := false, narrowed := true }
def FnExactChainLinesUptoSaid : Prop := fnExactChainLinesUptoRow.holds Try.pinned (OpenSpec.upto fnExactChainLinesSpec)

/-- 'laws.FnExactLineThrough', WHERE WHAT IT READS IS OF BULK AT MOST 1048576: true; the input reads as it did. -/
def fnExactLineThroughUptoRow : OpenClaim := { program := "ytnafpciionmbbaa", sum := "50b6392803d7e3fd4a20b84f4d954a4417443c4a5d9fa4b08808c04f38c42df4", func := "loop.example/g00992/laws.FnExactLineThrough", spec := "fnExactLineThrough", apart := false, narrowed := true }
def FnExactLineThroughUptoSaid : Prop := fnExactLineThroughUptoRow.holds Try.pinned (OpenSpec.upto fnExactLineThroughSpec)

/-- 'laws.FnLines', WHERE WHAT IT READS IS OF BULK AT MOST 1048576: true; the input reads as it did. -/
def fnLinesUptoRow : OpenClaim := { program := "ytnafpciionmbbaa", sum := "50b6392803d7e3fd4a20b84f4d954a4417443c4a5d9fa4b08808c04f38c42df4", func := "loop.example/g00992/laws.FnLines", spec := "fnLines", apart := false, narrowed := true }
def FnLinesUptoSaid : Prop := fnLinesUptoRow.holds Try.pinned (OpenSpec.upto fnLinesSpec)

end Rows
end Go.Proofs.Ytnafpciionmbbaa
