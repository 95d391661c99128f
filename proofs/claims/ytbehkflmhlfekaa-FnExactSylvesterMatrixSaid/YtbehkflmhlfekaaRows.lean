/-
  No cell of these rows narrows 'for every input' (looked for: loops, veiled, ifaces, maps, wideKeys, modest, calm, conditions, laid).
  DERIVED. THE GIVEN ROWS OF THIS SEAT. 24 by the template 'for every input the law returns true; each argument reads behind the call as it read before'; 0 by the template 'total and deterministic' (their statements: YtbehkflmhlfekaaTotals.lean).
  GIVEN WITH THE SEED: the statements are not yours to turn. If you find one false, say at which input.
  Laid BY PROGRAM, IN A SANDBOX (cutbox-rows.mjs): the forced cells as the released guide's own fill.sh prints them over the translation adc2305feae6e214… (all of the seat's roots in one cut). By AI agents, Wed Nov 11 2026. No macro, syntax, notation, axiom, sorry.
-/
import Derived.Test.YtbehkflmhlfekaaChecked
import GoSem.Claim
import GoSem.ClaimJoined
import GoSem.ClaimMapViews
import Derived.JoinedTies
import Derived.KernelRfl
namespace Go.Proofs.Ytbehkflmhlfekaa
/- THE CELL 'sum', in the pinned program and in every row, IS THE sha256 OF THE DUMP (.gsa) THAT YtbehkflmhlfekaaProg.lean LOADS. Nothing in Lean hashes anything: it is a label: what it is worth is what the hold of that sum in a sandbox is worth. -/
noncomputable def Try.pinned : Pinned := { name := "ytbehkflmhlfekaa", sum := "adc2305feae6e2146e5f6d1ea3f8cb5a6d84d9579a3f418ccbd8f1d28a0753f8", checked := Try.checked }
namespace Rows
def none {H : Type} : Left H := { results := [], args := [] }

/-- 'laws.FnExactSpreadOf': WHATEVER THE INPUT: true; the input reads as it did. -/
def fnExactSpreadOfSpec : ChangeSpec := { name := "fnExactSpreadOf", fn := fun _ => fun
  | [d1, d2] => { results := [.lit (.bool true)], args := [d1, d2] }
  | _ => none }
def fnExactSpreadOfRow : OpenClaim := { program := "ytbehkflmhlfekaa", sum := "adc2305feae6e2146e5f6d1ea3f8cb5a6d84d9579a3f418ccbd8f1d28a0753f8", func := "loop.example/g00992/laws.FnExactSpreadOf", spec := "fnExactSpreadOf", recurses := true, apart := false }
def FnExactSpreadOfSaid : Prop := fnExactSpreadOfRow.holds Try.pinned (OpenSpec.ofChange fnExactSpreadOfSpec)

/-- ITS FALSE NEIGHBOUR: 'it returns false'. Refute it at one input. -/
def fnExactSpreadOfWrong : ChangeSpec := { name := "fnExactSpreadOf", fn := fun _ => fun
  | [d1, d2] => { results := [.lit (.bool false)], args := [d1, d2] }
  | _ => none }
def FnExactSpreadOfWrongFalsely : Prop := fnExactSpreadOfRow.holds Try.pinned (OpenSpec.ofChange fnExactSpreadOfWrong)

/-- 'laws.FnExactTotalSpread': WHATEVER THE INPUT: true; the input reads as it did. -/
def fnExactTotalSpreadSpec : ChangeSpec := { name := "fnExactTotalSpread", fn := fun _ => fun
  | [d] => { results := [.lit (.bool true)], args := [d] }
  | _ => none }
def fnExactTotalSpreadRow : OpenClaim := { program := "ytbehkflmhlfekaa", sum := "adc2305feae6e2146e5f6d1ea3f8cb5a6d84d9579a3f418ccbd8f1d28a0753f8", func := "loop.example/g00992/laws.FnExactTotalSpread", spec := "fnExactTotalSpread", recurses := true, apart := false }
def FnExactTotalSpreadSaid : Prop := fnExactTotalSpreadRow.holds Try.pinned (OpenSpec.ofChange fnExactTotalSpreadSpec)

/-- ITS FALSE NEIGHBOUR: 'it returns false'. Refute it at one input. -/
def fnExactTotalSpreadWrong : ChangeSpec := { name := "fnExactTotalSpread", fn := fun _ => fun
  | [d] => { results := [.lit (.bool false)], args := [d] }
  | _ => none }
def FnExactTotalSpreadWrongFalsely : Prop := fnExactTotalSpreadRow.holds Try.pinned (OpenSpec.ofChange fnExactTotalSpreadWrong)

/-- 'laws.FnExactSolveDesign': WHATEVER THE INPUT: true; the input reads as it did. -/
def fnExactSolveDesignSpec : ChangeSpec := { name := "fnExactSolveDesign", fn := fun _ => fun
  | [d1, d2] => { results := [.lit (.bool true)], args := [d1, d2] }
  | _ => none }
def fnExactSolveDesignRow : OpenClaim := { program := "ytbehkflmhlfekaa", sum := "adc2305feae6e2146e5f6d1ea3f8cb5a6d84d9579a3f418ccbd8f1d28a0753f8", func := "loop.example/g00992/laws.FnExactSolveDesign", spec := "fnExactSolveDesign", recurses := true, apart := false }
def FnExactSolveDesignSaid : Prop := fnExactSolveDesignRow.holds Try.pinned (OpenSpec.ofChange fnExactSolveDesignSpec)

/-- ITS FALSE NEIGHBOUR: 'it returns false'. Refute it at one input. -/
def fnExactSolveDesignWrong : ChangeSpec := { name := "fnExactSolveDesign", fn := fun _ => fun
  | [d1, d2] => { results := [.lit (.bool false)], args := [d1, d2] }
  | _ => none }
def FnExactSolveDesignWrongFalsely : Prop := fnExactSolveDesignRow.holds Try.pinned (OpenSpec.ofChange fnExactSolveDesignWrong)

/-- 'laws.FnExactSquareOk': WHATEVER THE INPUT: true; the input reads as it did. -/
def fnExactSquareOkSpec : ChangeSpec := { name := "fnExactSquareOk", fn := fun _ => fun
  | [d] => { results := [.lit (.bool true)], args := [d] }
  | _ => none }
def fnExactSquareOkRow : OpenClaim := { program := "ytbehkflmhlfekaa", sum := "adc2305feae6e2146e5f6d1ea3f8cb5a6d84d9579a3f418ccbd8f1d28a0753f8", func := "loop.example/g00992/laws.FnExactSquareOk", spec := "fnExactSquareOk", apart := false }
def FnExactSquareOkSaid : Prop := fnExactSquareOkRow.holds Try.pinned (OpenSpec.ofChange fnExactSquareOkSpec)

/-- ITS FALSE NEIGHBOUR: 'it returns false'. Refute it at one input. -/
def fnExactSquareOkWrong : ChangeSpec := { name := "fnExactSquareOk", fn := fun _ => fun
  | [d] => { results := [.lit (.bool false)], args := [d] }
  | _ => none }
def FnExactSquareOkWrongFalsely : Prop := fnExactSquareOkRow.holds Try.pinned (OpenSpec.ofChange fnExactSquareOkWrong)

/-- 'laws.FnExactDesignOk': WHATEVER THE INPUT: true; the input reads as it did. -/
def fnExactDesignOkSpec : ChangeSpec := { name := "fnExactDesignOk", fn := fun _ => fun
  | [d] => { results := [.lit (.bool true)], args := [d] }
  | _ => none }
def fnExactDesignOkRow : OpenClaim := { program := "ytbehkflmhlfekaa", sum := "adc2305feae6e2146e5f6d1ea3f8cb5a6d84d9579a3f418ccbd8f1d28a0753f8", func := "loop.example/g00992/laws.FnExactDesignOk", spec := "fnExactDesignOk", apart := false }
def FnExactDesignOkSaid : Prop := fnExactDesignOkRow.holds Try.pinned (OpenSpec.ofChange fnExactDesignOkSpec)

/-- ITS FALSE NEIGHBOUR: 'it returns false'. Refute it at one input. -/
def fnExactDesignOkWrong : ChangeSpec := { name := "fnExactDesignOk", fn := fun _ => fun
  | [d] => { results := [.lit (.bool false)], args := [d] }
  | _ => none }
def FnExactDesignOkWrongFalsely : Prop := fnExactDesignOkRow.holds Try.pinned (OpenSpec.ofChange fnExactDesignOkWrong)

/-- 'laws.FnExactSignsOk': WHATEVER THE INPUT: true; the input reads as it did. -/
def fnExactSignsOkSpec : ChangeSpec := { name := "fnExactSignsOk", fn := fun _ => fun
  | [d] => { results := [.lit (.bool true)], args := [d] }
  | _ => none }
def fnExactSignsOkRow : OpenClaim := { program := "ytbehkflmhlfekaa", sum := "adc2305feae6e2146e5f6d1ea3f8cb5a6d84d9579a3f418ccbd8f1d28a0753f8", func := "loop.example/g00992/laws.FnExactSignsOk", spec := "fnExactSignsOk", apart := false }
def FnExactSignsOkSaid : Prop := fnExactSignsOkRow.holds Try.pinned (OpenSpec.ofChange fnExactSignsOkSpec)

/-- ITS FALSE NEIGHBOUR: 'it returns false'. Refute it at one input. -/
def fnExactSignsOkWrong : ChangeSpec := { name := "fnExactSignsOk", fn := fun _ => fun
  | [d] => { results := [.lit (.bool false)], args := [d] }
  | _ => none }
def FnExactSignsOkWrongFalsely : Prop := fnExactSignsOkRow.holds Try.pinned (OpenSpec.ofChange fnExactSignsOkWrong)

/-- 'laws.FnExactSylvesterMatrix': WHATEVER THE INPUT: true; the input reads as it did. -/
def fnExactSylvesterMatrixSpec : ChangeSpec := { name := "fnExactSylvesterMatrix", fn := fun _ => fun
  | [d] => { results := [.lit (.bool true)], args := [d] }
  | _ => none }
def fnExactSylvesterMatrixRow : OpenClaim := { program := "ytbehkflmhlfekaa", sum := "adc2305feae6e2146e5f6d1ea3f8cb5a6d84d9579a3f418ccbd8f1d28a0753f8", func := "loop.example/g00992/laws.FnExactSylvesterMatrix", spec := "fnExactSylvesterMatrix", apart := false }
def FnExactSylvesterMatrixSaid : Prop := fnExactSylvesterMatrixRow.holds Try.pinned (OpenSpec.ofChange fnExactSylvesterMatrixSpec)

/-- ITS FALSE NEIGHBOUR: 'it returns false'. Refute it at one input. -/
def fnExactSylvesterMatrixWrong : ChangeSpec := { name := "fnExactSylvesterMatrix", fn := fun _ => fun
  | [d] => { results := [.lit (.bool false)], args := [d] }
  | _ => none }
def FnExactSylvesterMatrixWrongFalsely : Prop := fnExactSylvesterMatrixRow.holds Try.pinned (OpenSpec.ofChange fnExactSylvesterMatrixWrong)

/-- 'laws.FnExactRowProduct': WHATEVER THE INPUT: true; the input reads as it did. -/
def fnExactRowProductSpec : ChangeSpec := { name := "fnExactRowProduct", fn := fun _ => fun
  | [d1, d2, d3] => { results := [.lit (.bool true)], args := [d1, d2, d3] }
  | _ => none }
def fnExactRowProductRow : OpenClaim := { program := "ytbehkflmhlfekaa", sum := "adc2305feae6e2146e5f6d1ea3f8cb5a6d84d9579a3f418ccbd8f1d28a0753f8", func := "loop.example/g00992/laws.FnExactRowProduct", spec := "fnExactRowProduct", apart := false }
def FnExactRowProductSaid : Prop := fnExactRowProductRow.holds Try.pinned (OpenSpec.ofChange fnExactRowProductSpec)

/-- ITS FALSE NEIGHBOUR: 'it returns false'. Refute it at one input. -/
def fnExactRowProductWrong : ChangeSpec := { name := "fnExactRowProduct", fn := fun _ => fun
  | [d1, d2, d3] => { results := [.lit (.bool false)], args := [d1, d2, d3] }
  | _ => none }
def FnExactRowProductWrongFalsely : Prop := fnExactRowProductRow.holds Try.pinned (OpenSpec.ofChange fnExactRowProductWrong)

/-- 'laws.FnExactConferenceMatrix': WHATEVER THE INPUT: true; the input reads as it did. -/
def fnExactConferenceMatrixSpec : ChangeSpec := { name := "fnExactConferenceMatrix", fn := fun _ => fun
  | [d] => { results := [.lit (.bool true)], args := [d] }
  | _ => none }
def fnExactConferenceMatrixRow : OpenClaim := { program := "ytbehkflmhlfekaa", sum := "adc2305feae6e2146e5f6d1ea3f8cb5a6d84d9579a3f418ccbd8f1d28a0753f8", func := "loop.example/g00992/laws.FnExactConferenceMatrix", spec := "fnExactConferenceMatrix", apart := false }
def FnExactConferenceMatrixSaid : Prop := fnExactConferenceMatrixRow.holds Try.pinned (OpenSpec.ofChange fnExactConferenceMatrixSpec)

/-- ITS FALSE NEIGHBOUR: 'it returns false'. Refute it at one input. -/
def fnExactConferenceMatrixWrong : ChangeSpec := { name := "fnExactConferenceMatrix", fn := fun _ => fun
  | [d] => { results := [.lit (.bool false)], args := [d] }
  | _ => none }
def FnExactConferenceMatrixWrongFalsely : Prop := fnExactConferenceMatrixRow.holds Try.pinned (OpenSpec.ofChange fnExactConferenceMatrixWrong)

/-- 'laws.FnExactIsDifferential': WHATEVER THE INPUT: true; the input reads as it did. -/
def fnExactIsDifferentialSpec : ChangeSpec := { name := "fnExactIsDifferential", fn := fun _ => fun
  | [d] => { results := [.lit (.bool true)], args := [d] }
  | _ => none }
def fnExactIsDifferentialRow : OpenClaim := { program := "ytbehkflmhlfekaa", sum := "adc2305feae6e2146e5f6d1ea3f8cb5a6d84d9579a3f418ccbd8f1d28a0753f8", func := "loop.example/g00992/laws.FnExactIsDifferential", spec := "fnExactIsDifferential", apart := false }
def FnExactIsDifferentialSaid : Prop := fnExactIsDifferentialRow.holds Try.pinned (OpenSpec.ofChange fnExactIsDifferentialSpec)

/-- ITS FALSE NEIGHBOUR: 'it returns false'. Refute it at one input. -/
def fnExactIsDifferentialWrong : ChangeSpec := { name := "fnExactIsDifferential", fn := fun _ => fun
  | [d] => { results := [.lit (.bool false)], args := [d] }
  | _ => none }
def FnExactIsDifferentialWrongFalsely : Prop := fnExactIsDifferentialRow.holds Try.pinned (OpenSpec.ofChange fnExactIsDifferentialWrong)

/-- 'laws.FnExactOrthogonalWeight': WHATEVER THE INPUT: true; the input reads as it did. -/
def fnExactOrthogonalWeightSpec : ChangeSpec := { name := "fnExactOrthogonalWeight", fn := fun _ => fun
  | [d] => { results := [.lit (.bool true)], args := [d] }
  | _ => none }
def fnExactOrthogonalWeightRow : OpenClaim := { program := "ytbehkflmhlfekaa", sum := "adc2305feae6e2146e5f6d1ea3f8cb5a6d84d9579a3f418ccbd8f1d28a0753f8", func := "loop.example/g00992/laws.FnExactOrthogonalWeight", spec := "fnExactOrthogonalWeight", apart := false }
def FnExactOrthogonalWeightSaid : Prop := fnExactOrthogonalWeightRow.holds Try.pinned (OpenSpec.ofChange fnExactOrthogonalWeightSpec)

/-- ITS FALSE NEIGHBOUR: 'it returns false'. Refute it at one input. -/
def fnExactOrthogonalWeightWrong : ChangeSpec := { name := "fnExactOrthogonalWeight", fn := fun _ => fun
  | [d] => { results := [.lit (.bool false)], args := [d] }
  | _ => none }
def FnExactOrthogonalWeightWrongFalsely : Prop := fnExactOrthogonalWeightRow.holds Try.pinned (OpenSpec.ofChange fnExactOrthogonalWeightWrong)

/-- 'laws.FnExactDeterminantOf': WHATEVER THE INPUT: true; the input reads as it did. -/
def fnExactDeterminantOfSpec : ChangeSpec := { name := "fnExactDeterminantOf", fn := fun _ => fun
  | [d] => { results := [.lit (.bool true)], args := [d] }
  | _ => none }
def fnExactDeterminantOfRow : OpenClaim := { program := "ytbehkflmhlfekaa", sum := "adc2305feae6e2146e5f6d1ea3f8cb5a6d84d9579a3f418ccbd8f1d28a0753f8", func := "loop.example/g00992/laws.FnExactDeterminantOf", spec := "fnExactDeterminantOf", recurses := true, apart := false }
def FnExactDeterminantOfSaid : Prop := fnExactDeterminantOfRow.holds Try.pinned (OpenSpec.ofChange fnExactDeterminantOfSpec)

/-- ITS FALSE NEIGHBOUR: 'it returns false'. Refute it at one input. -/
def fnExactDeterminantOfWrong : ChangeSpec := { name := "fnExactDeterminantOf", fn := fun _ => fun
  | [d] => { results := [.lit (.bool false)], args := [d] }
  | _ => none }
def FnExactDeterminantOfWrongFalsely : Prop := fnExactDeterminantOfRow.holds Try.pinned (OpenSpec.ofChange fnExactDeterminantOfWrong)

/-- 'laws.FnExactMinorOf': WHATEVER THE INPUT: true; the input reads as it did. -/
def fnExactMinorOfSpec : ChangeSpec := { name := "fnExactMinorOf", fn := fun _ => fun
  | [d1, d2, d3] => { results := [.lit (.bool true)], args := [d1, d2, d3] }
  | _ => none }
def fnExactMinorOfRow : OpenClaim := { program := "ytbehkflmhlfekaa", sum := "adc2305feae6e2146e5f6d1ea3f8cb5a6d84d9579a3f418ccbd8f1d28a0753f8", func := "loop.example/g00992/laws.FnExactMinorOf", spec := "fnExactMinorOf", recurses := true, apart := false }
def FnExactMinorOfSaid : Prop := fnExactMinorOfRow.holds Try.pinned (OpenSpec.ofChange fnExactMinorOfSpec)

/-- ITS FALSE NEIGHBOUR: 'it returns false'. Refute it at one input. -/
def fnExactMinorOfWrong : ChangeSpec := { name := "fnExactMinorOf", fn := fun _ => fun
  | [d1, d2, d3] => { results := [.lit (.bool false)], args := [d1, d2, d3] }
  | _ => none }
def FnExactMinorOfWrongFalsely : Prop := fnExactMinorOfRow.holds Try.pinned (OpenSpec.ofChange fnExactMinorOfWrong)

/-- 'laws.FnExactTransposeSigns': WHATEVER THE INPUT: true; the input reads as it did. -/
def fnExactTransposeSignsSpec : ChangeSpec := { name := "fnExactTransposeSigns", fn := fun _ => fun
  | [d] => { results := [.lit (.bool true)], args := [d] }
  | _ => none }
def fnExactTransposeSignsRow : OpenClaim := { program := "ytbehkflmhlfekaa", sum := "adc2305feae6e2146e5f6d1ea3f8cb5a6d84d9579a3f418ccbd8f1d28a0753f8", func := "loop.example/g00992/laws.FnExactTransposeSigns", spec := "fnExactTransposeSigns", apart := false }
def FnExactTransposeSignsSaid : Prop := fnExactTransposeSignsRow.holds Try.pinned (OpenSpec.ofChange fnExactTransposeSignsSpec)

/-- ITS FALSE NEIGHBOUR: 'it returns false'. Refute it at one input. -/
def fnExactTransposeSignsWrong : ChangeSpec := { name := "fnExactTransposeSigns", fn := fun _ => fun
  | [d] => { results := [.lit (.bool false)], args := [d] }
  | _ => none }
def FnExactTransposeSignsWrongFalsely : Prop := fnExactTransposeSignsRow.holds Try.pinned (OpenSpec.ofChange fnExactTransposeSignsWrong)

/-- 'laws.FnExactReadDesign': WHATEVER THE INPUT: true; the input reads as it did. -/
def fnExactReadDesignSpec : ChangeSpec := { name := "fnExactReadDesign", fn := fun _ => fun
  | [d1, d2] => { results := [.lit (.bool true)], args := [d1, d2] }
  | _ => none }
def fnExactReadDesignRow : OpenClaim := { program := "ytbehkflmhlfekaa", sum := "adc2305feae6e2146e5f6d1ea3f8cb5a6d84d9579a3f418ccbd8f1d28a0753f8", func := "loop.example/g00992/laws.FnExactReadDesign", spec := "fnExactReadDesign", apart := false }
def FnExactReadDesignSaid : Prop := fnExactReadDesignRow.holds Try.pinned (OpenSpec.ofChange fnExactReadDesignSpec)

/-- ITS FALSE NEIGHBOUR: 'it returns false'. Refute it at one input. -/
def fnExactReadDesignWrong : ChangeSpec := { name := "fnExactReadDesign", fn := fun _ => fun
  | [d1, d2] => { results := [.lit (.bool false)], args := [d1, d2] }
  | _ => none }
def FnExactReadDesignWrongFalsely : Prop := fnExactReadDesignRow.holds Try.pinned (OpenSpec.ofChange fnExactReadDesignWrong)

/-- 'laws.FnExactCountLinked': WHATEVER THE INPUT: true; the input reads as it did. -/
def fnExactCountLinkedSpec : ChangeSpec := { name := "fnExactCountLinked", fn := fun _ => fun
  | [d] => { results := [.lit (.bool true)], args := [d] }
  | _ => none }
def fnExactCountLinkedRow : OpenClaim := { program := "ytbehkflmhlfekaa", sum := "adc2305feae6e2146e5f6d1ea3f8cb5a6d84d9579a3f418ccbd8f1d28a0753f8", func := "loop.example/g00992/laws.FnExactCountLinked", spec := "fnExactCountLinked", apart := false }
def FnExactCountLinkedSaid : Prop := fnExactCountLinkedRow.holds Try.pinned (OpenSpec.ofChange fnExactCountLinkedSpec)

/-- ITS FALSE NEIGHBOUR: 'it returns false'. Refute it at one input. -/
def fnExactCountLinkedWrong : ChangeSpec := { name := "fnExactCountLinked", fn := fun _ => fun
  | [d] => { results := [.lit (.bool false)], args := [d] }
  | _ => none }
def FnExactCountLinkedWrongFalsely : Prop := fnExactCountLinkedRow.holds Try.pinned (OpenSpec.ofChange fnExactCountLinkedWrong)

/-- 'laws.FnExactSameReadings': WHATEVER THE INPUT: true; the input reads as it did. -/
def fnExactSameReadingsSpec : ChangeSpec := { name := "fnExactSameReadings", fn := fun _ => fun
  | [d1, d2, d3] => { results := [.lit (.bool true)], args := [d1, d2, d3] }
  | _ => none }
def fnExactSameReadingsRow : OpenClaim := { program := "ytbehkflmhlfekaa", sum := "adc2305feae6e2146e5f6d1ea3f8cb5a6d84d9579a3f418ccbd8f1d28a0753f8", func := "loop.example/g00992/laws.FnExactSameReadings", spec := "fnExactSameReadings", apart := false }
def FnExactSameReadingsSaid : Prop := fnExactSameReadingsRow.holds Try.pinned (OpenSpec.ofChange fnExactSameReadingsSpec)

/-- ITS FALSE NEIGHBOUR: 'it returns false'. Refute it at one input. -/
def fnExactSameReadingsWrong : ChangeSpec := { name := "fnExactSameReadings", fn := fun _ => fun
  | [d1, d2, d3] => { results := [.lit (.bool false)], args := [d1, d2, d3] }
  | _ => none }
def FnExactSameReadingsWrongFalsely : Prop := fnExactSameReadingsRow.holds Try.pinned (OpenSpec.ofChange fnExactSameReadingsWrong)

/-- 'laws.FnExactGramOf': WHATEVER THE INPUT: true; the input reads as it did. -/
def fnExactGramOfSpec : ChangeSpec := { name := "fnExactGramOf", fn := fun _ => fun
  | [d] => { results := [.lit (.bool true)], args := [d] }
  | _ => none }
def fnExactGramOfRow : OpenClaim := { program := "ytbehkflmhlfekaa", sum := "adc2305feae6e2146e5f6d1ea3f8cb5a6d84d9579a3f418ccbd8f1d28a0753f8", func := "loop.example/g00992/laws.FnExactGramOf", spec := "fnExactGramOf", apart := false }
def FnExactGramOfSaid : Prop := fnExactGramOfRow.holds Try.pinned (OpenSpec.ofChange fnExactGramOfSpec)

/-- ITS FALSE NEIGHBOUR: 'it returns false'. Refute it at one input. -/
def fnExactGramOfWrong : ChangeSpec := { name := "fnExactGramOf", fn := fun _ => fun
  | [d] => { results := [.lit (.bool false)], args := [d] }
  | _ => none }
def FnExactGramOfWrongFalsely : Prop := fnExactGramOfRow.holds Try.pinned (OpenSpec.ofChange fnExactGramOfWrong)

/-- 'laws.FnExactIsDetermined': WHATEVER THE INPUT: true; the input reads as it did. -/
def fnExactIsDeterminedSpec : ChangeSpec := { name := "fnExactIsDetermined", fn := fun _ => fun
  | [d] => { results := [.lit (.bool true)], args := [d] }
  | _ => none }
def fnExactIsDeterminedRow : OpenClaim := { program := "ytbehkflmhlfekaa", sum := "adc2305feae6e2146e5f6d1ea3f8cb5a6d84d9579a3f418ccbd8f1d28a0753f8", func := "loop.example/g00992/laws.FnExactIsDetermined", spec := "fnExactIsDetermined", recurses := true, apart := false }
def FnExactIsDeterminedSaid : Prop := fnExactIsDeterminedRow.holds Try.pinned (OpenSpec.ofChange fnExactIsDeterminedSpec)

/-- ITS FALSE NEIGHBOUR: 'it returns false'. Refute it at one input. -/
def fnExactIsDeterminedWrong : ChangeSpec := { name := "fnExactIsDetermined", fn := fun _ => fun
  | [d] => { results := [.lit (.bool false)], args := [d] }
  | _ => none }
def FnExactIsDeterminedWrongFalsely : Prop := fnExactIsDeterminedRow.holds Try.pinned (OpenSpec.ofChange fnExactIsDeterminedWrong)

/-- 'laws.FnExactAdjugateOf': WHATEVER THE INPUT: true; the input reads as it did. -/
def fnExactAdjugateOfSpec : ChangeSpec := { name := "fnExactAdjugateOf", fn := fun _ => fun
  | [d] => { results := [.lit (.bool true)], args := [d] }
  | _ => none }
def fnExactAdjugateOfRow : OpenClaim := { program := "ytbehkflmhlfekaa", sum := "adc2305feae6e2146e5f6d1ea3f8cb5a6d84d9579a3f418ccbd8f1d28a0753f8", func := "loop.example/g00992/laws.FnExactAdjugateOf", spec := "fnExactAdjugateOf", recurses := true, apart := false }
def FnExactAdjugateOfSaid : Prop := fnExactAdjugateOfRow.holds Try.pinned (OpenSpec.ofChange fnExactAdjugateOfSpec)

/-- ITS FALSE NEIGHBOUR: 'it returns false'. Refute it at one input. -/
def fnExactAdjugateOfWrong : ChangeSpec := { name := "fnExactAdjugateOf", fn := fun _ => fun
  | [d] => { results := [.lit (.bool false)], args := [d] }
  | _ => none }
def FnExactAdjugateOfWrongFalsely : Prop := fnExactAdjugateOfRow.holds Try.pinned (OpenSpec.ofChange fnExactAdjugateOfWrong)

/-- 'laws.FnExactReadingsOk': WHATEVER THE INPUT: true; the input reads as it did. -/
def fnExactReadingsOkSpec : ChangeSpec := { name := "fnExactReadingsOk", fn := fun _ => fun
  | [d1, d2] => { results := [.lit (.bool true)], args := [d1, d2] }
  | _ => none }
def fnExactReadingsOkRow : OpenClaim := { program := "ytbehkflmhlfekaa", sum := "adc2305feae6e2146e5f6d1ea3f8cb5a6d84d9579a3f418ccbd8f1d28a0753f8", func := "loop.example/g00992/laws.FnExactReadingsOk", spec := "fnExactReadingsOk", recurses := true, apart := false }
def FnExactReadingsOkSaid : Prop := fnExactReadingsOkRow.holds Try.pinned (OpenSpec.ofChange fnExactReadingsOkSpec)

/-- ITS FALSE NEIGHBOUR: 'it returns false'. Refute it at one input. -/
def fnExactReadingsOkWrong : ChangeSpec := { name := "fnExactReadingsOk", fn := fun _ => fun
  | [d1, d2] => { results := [.lit (.bool false)], args := [d1, d2] }
  | _ => none }
def FnExactReadingsOkWrongFalsely : Prop := fnExactReadingsOkRow.holds Try.pinned (OpenSpec.ofChange fnExactReadingsOkWrong)

/-- 'laws.FnDeterminants': WHATEVER THE INPUT: true; the input reads as it did. -/
def fnDeterminantsSpec : ChangeSpec := { name := "fnDeterminants", fn := fun _ => fun
  | [d] => { results := [.lit (.bool true)], args := [d] }
  | _ => none }
def fnDeterminantsRow : OpenClaim := { program := "ytbehkflmhlfekaa", sum := "adc2305feae6e2146e5f6d1ea3f8cb5a6d84d9579a3f418ccbd8f1d28a0753f8", func := "loop.example/g00992/laws.FnDeterminants", spec := "fnDeterminants", recurses := true, apart := false }
def FnDeterminantsSaid : Prop := fnDeterminantsRow.holds Try.pinned (OpenSpec.ofChange fnDeterminantsSpec)

/-- ITS FALSE NEIGHBOUR: 'it returns false'. Refute it at one input. -/
def fnDeterminantsWrong : ChangeSpec := { name := "fnDeterminants", fn := fun _ => fun
  | [d] => { results := [.lit (.bool false)], args := [d] }
  | _ => none }
def FnDeterminantsWrongFalsely : Prop := fnDeterminantsRow.holds Try.pinned (OpenSpec.ofChange fnDeterminantsWrong)

/-- 'laws.FnDesigns': WHATEVER THE INPUT: true; the input reads as it did. -/
def fnDesignsSpec : ChangeSpec := { name := "fnDesigns", fn := fun _ => fun
  | [d] => { results := [.lit (.bool true)], args := [d] }
  | _ => none }
def fnDesignsRow : OpenClaim := { program := "ytbehkflmhlfekaa", sum := "adc2305feae6e2146e5f6d1ea3f8cb5a6d84d9579a3f418ccbd8f1d28a0753f8", func := "loop.example/g00992/laws.FnDesigns", spec := "fnDesigns", recurses := true, apart := false }
def FnDesignsSaid : Prop := fnDesignsRow.holds Try.pinned (OpenSpec.ofChange fnDesignsSpec)

/-- ITS FALSE NEIGHBOUR: 'it returns false'. Refute it at one input. -/
def fnDesignsWrong : ChangeSpec := { name := "fnDesigns", fn := fun _ => fun
  | [d] => { results := [.lit (.bool false)], args := [d] }
  | _ => none }
def FnDesignsWrongFalsely : Prop := fnDesignsRow.holds Try.pinned (OpenSpec.ofChange fnDesignsWrong)

/-- 'laws.FnOrthogonal': WHATEVER THE INPUT: true; the input reads as it did. -/
def fnOrthogonalSpec : ChangeSpec := { name := "fnOrthogonal", fn := fun _ => fun
  | [d] => { results := [.lit (.bool true)], args := [d] }
  | _ => none }
def fnOrthogonalRow : OpenClaim := { program := "ytbehkflmhlfekaa", sum := "adc2305feae6e2146e5f6d1ea3f8cb5a6d84d9579a3f418ccbd8f1d28a0753f8", func := "loop.example/g00992/laws.FnOrthogonal", spec := "fnOrthogonal", apart := false }
def FnOrthogonalSaid : Prop := fnOrthogonalRow.holds Try.pinned (OpenSpec.ofChange fnOrthogonalSpec)

/-- ITS FALSE NEIGHBOUR: 'it returns false'. Refute it at one input. -/
def fnOrthogonalWrong : ChangeSpec := { name := "fnOrthogonal", fn := fun _ => fun
  | [d] => { results := [.lit (.bool false)], args := [d] }
  | _ => none }
def FnOrthogonalWrongFalsely : Prop := fnOrthogonalRow.holds Try.pinned (OpenSpec.ofChange fnOrthogonalWrong)

/- THE SECOND FORM. 'bulk': how many values and letters a reading holds, each counted each time it is reached (what is shared counts as often as it is met; a slice's spare places count too). A statement '..UptoSaid' is the law's where the arguments, and the package variables that the reading takes, are together of bulk at most 1048576: NARROWER than '..Said'. Prove '..Said' where nothing that the law and all that it calls make is longer than what came in: it says more and counts as full. Else prove '..UptoSaid'. A law counts once. -/
mutual
def uptoBulk {H : Type} : DataW H → Nat
  | .lit (.string bytes) => bytes.length + 1
  | .lit _ => 1
  | .nil => 1
  | .ptr d => uptoBulk d + 1
  | .slice elems spare => uptoBulkAll elems + uptoBulkAll spare + 1
  | .agg parts => uptoBulkAll parts + 1
  | .iface _ d => uptoBulk d + 1
  | .map entries => uptoBulkEntries entries + 1
  | .held _ => 1
def uptoBulkAll {H : Type} : List (DataW H) → Nat
  | [] => 0
  | d :: r => uptoBulk d + uptoBulkAll r
def uptoBulkEntries {H : Type} : List (Lit × DataW H) → Nat
  | [] => 0
  | x :: r => uptoBulkEntry x + uptoBulkEntries r
def uptoBulkEntry {H : Type} : Lit × DataW H → Nat
  | (.string bytes, d) => bytes.length + uptoBulk d + 1
  | (_, d) => uptoBulk d + 1
 end
def uptoSmall : (H : Type) → List (DataW H) → Bool := fun _ ds => decide (uptoBulkAll ds ≤ 1048576)
def OpenSpec.upto (s : _root_.Go.ChangeSpec) : _root_.Go.OpenSpec := { _root_.Go.OpenSpec.ofChange s with cond := some uptoSmall }

/-- 'laws.FnExactSpreadOf', WHERE WHAT IT READS IS OF BULK AT MOST 1048576: true; the input reads as it did. -/
def fnExactSpreadOfUptoRow : OpenClaim := { program := "ytbehkflmhlfekaa", sum := "adc2305feae6e2146e5f6d1ea3f8cb5a6d84d9579a3f418ccbd8f1d28a0753f8", func := "loop.example/g00992/laws.FnExactSpreadOf", spec := "fnExactSpreadOf", recurses := true, apart := false, narrowed := true }
def FnExactSpreadOfUptoSaid : Prop := fnExactSpreadOfUptoRow.holds Try.pinned (OpenSpec.upto fnExactSpreadOfSpec)

/-- 'laws.FnExactTotalSpread', WHERE WHAT IT READS IS OF BULK AT MOST 1048576: true; the input reads as it did. -/
def fnExactTotalSpreadUptoRow : OpenClaim := { program := "ytbehkflmhlfekaa", sum := "adc2305feae6e2146e5f6d1ea3f8cb5a6d84d9579a3f418ccbd8f1d28a0753f8", func := "loop.example/g00992/laws.FnExactTotalSpread", spec := "fnExactTotalSpread", recurses := true, apart := false, narrowed := true }
def FnExactTotalSpreadUptoSaid : Prop := fnExactTotalSpreadUptoRow.holds Try.pinned (OpenSpec.upto fnExactTotalSpreadSpec)

/-- 'laws.FnExactSolveDesign', WHERE WHAT IT READS IS OF BULK AT MOST 1048576: true; the input reads as it did. -/
def fnExactSolveDesignUptoRow : OpenClaim := { program := "ytbehkflmhlfekaa", sum := "adc2305feae6e2146e5f6d1ea3f8cb5a6d84d9579a3f418ccbd8f1d28a0753f8", func := "loop.example/g00992/laws.FnExactSolveDesign", spec := "fnExactSolveDesign", recurses := true, apart := false, narrowed := true }
def FnExactSolveDesignUptoSaid : Prop := fnExactSolveDesignUptoRow.holds Try.pinned (OpenSpec.upto fnExactSolveDesignSpec)

/-- 'laws.FnExactSquareOk', WHERE WHAT IT READS IS OF BULK AT MOST 1048576: true; the input reads as it did. -/
def fnExactSquareOkUptoRow : OpenClaim := { program := "ytbehkflmhlfekaa", sum := "adc2305feae6e2146e5f6d1ea3f8cb5a6d84d9579a3f418ccbd8f1d28a0753f8", func := "loop.example/g00992/laws.FnExactSquareOk", spec := "fnExactSquareOk", apart := false, narrowed := true }
def FnExactSquareOkUptoSaid : Prop := fnExactSquareOkUptoRow.holds Try.pinned (OpenSpec.upto fnExactSquareOkSpec)

/-- 'laws.FnExactDesignOk', WHERE WHAT IT READS IS OF BULK AT MOST 1048576: true; the input reads as it did. -/
def fnExactDesignOkUptoRow : OpenClaim := { program := "ytbehkflmhlfekaa", sum := "adc2305feae6e2146e5f6d1ea3f8cb5a6d84d9579a3f418ccbd8f1d28a0753f8", func := "loop.example/g00992/laws.FnExactDesignOk", spec := "fnExactDesignOk", apart := false, narrowed := true }
def FnExactDesignOkUptoSaid : Prop := fnExactDesignOkUptoRow.holds Try.pinned (OpenSpec.upto fnExactDesignOkSpec)

/-- 'laws.FnExactSignsOk', WHERE WHAT IT READS IS OF BULK AT MOST 1048576: true; the input reads as it did. -/
def fnExactSignsOkUptoRow : OpenClaim := { program := "ytbehkflmhlfekaa", sum := "adc2305feae6e2146e5f6d1ea3f8cb5a6d84d9579a3f418ccbd8f1d28a0753f8", func := "loop.example/g00992/laws.FnExactSignsOk", spec := "fnExactSignsOk", apart := false, narrowed := true }
def FnExactSignsOkUptoSaid : Prop := fnExactSignsOkUptoRow.holds Try.pinned (OpenSpec.upto fnExactSignsOkSpec)

/-- 'laws.FnExactSylvesterMatrix', WHERE WHAT IT READS IS OF BULK AT MOST 1048576: true; the input reads as it did. -/
def fnExactSylvesterMatrixUptoRow : OpenClaim := { program := "ytbehkflmhlfekaa", sum := "adc2305feae6e2146e5f6d1ea3f8cb5a6d84d9579a3f418ccbd8f1d28a0753f8", func := "loop.example/g00992/laws.FnExactSylvesterMatrix", spec := "fnExactSylvesterMatrix", apart := false, narrowed := true }
def FnExactSylvesterMatrixUptoSaid : Prop := fnExactSylvesterMatrixUptoRow.holds Try.pinned (OpenSpec.upto fnExactSylvesterMatrixSpec)

/-- 'laws.FnExactRowProduct', WHERE WHAT IT READS IS OF BULK AT MOST 1048576: true; the input reads as it did. -/
def fnExactRowProductUptoRow : OpenClaim := { program := "ytbehkflmhlfekaa", sum := "adc2305feae6e2146e5f6d1ea3f8cb5a6d84d9579a3f418ccbd8f1d28a0753f8", func := "loop.example/g00992/laws.FnExactRowProduct", spec := "fnExactRowProduct", apart := false, narrowed := true }
def FnExactRowProductUptoSaid : Prop := fnExactRowProductUptoRow.holds Try.pinned (OpenSpec.upto fnExactRowProductSpec)

/-- 'laws.FnExactConferenceMatrix', WHERE WHAT IT READS IS OF BULK AT MOST 1048576: true; the input reads as it did. -/
def fnExactConferenceMatrixUptoRow : OpenClaim := { program := "ytbehkflmhlfekaa", sum := "adc2305feae6e2146e5f6d1ea3f8cb5a6d84d9579a3f418ccbd8f1d28a0753f8", func := "loop.example/g00992/laws.FnExactConferenceMatrix", spec := "fnExactConferenceMatrix", apart := false, narrowed := true }
def FnExactConferenceMatrixUptoSaid : Prop := fnExactConferenceMatrixUptoRow.holds Try.pinned (OpenSpec.upto fnExactConferenceMatrixSpec)

/-- 'laws.FnExactIsDifferential', WHERE WHAT IT READS IS OF BULK AT MOST 1048576: true; the input reads as it did. -/
def fnExactIsDifferentialUptoRow : OpenClaim := { program := "ytbehkflmhlfekaa", sum := "adc2305feae6e2146e5f6d1ea3f8cb5a6d84d9579a3f418ccbd8f1d28a0753f8", func := "loop.example/g00992/laws.FnExactIsDifferential", spec := "fnExactIsDifferential", apart := false, narrowed := true }
def FnExactIsDifferentialUptoSaid : Prop := fnExactIsDifferentialUptoRow.holds Try.pinned (OpenSpec.upto fnExactIsDifferentialSpec)

/-- 'laws.FnExactOrthogonalWeight', WHERE WHAT IT READS IS OF BULK AT MOST 1048576: true; the input reads as it did. -/
def fnExactOrthogonalWeightUptoRow : OpenClaim := { program := "ytbehkflmhlfekaa", sum := "adc2305feae6e2146e5f6d1ea3f8cb5a6d84d9579a3f418ccbd8f1d28a0753f8", func := "loop.example/g00992/laws.FnExactOrthogonalWeight", spec := "fnExactOrthogonalWeight", apart := false, narrowed := true }
def FnExactOrthogonalWeightUptoSaid : Prop := fnExactOrthogonalWeightUptoRow.holds Try.pinned (OpenSpec.upto fnExactOrthogonalWeightSpec)

/-- 'laws.FnExactDeterminantOf', WHERE WHAT IT READS IS OF BULK AT MOST 1048576: true; the input reads as it did. -/
def fnExactDeterminantOfUptoRow : OpenClaim := { program := "ytbehkflmhlfekaa", sum := "adc2305feae6e2146e5f6d1ea3f8cb5a6d84d9579a3f418ccbd8f1d28a0753f8", func := "loop.example/g00992/laws.FnExactDeterminantOf", spec := "fnExactDeterminantOf", recurses := true, apart := false, narrowed := true }
def FnExactDeterminantOfUptoSaid : Prop := fnExactDeterminantOfUptoRow.holds Try.pinned (OpenSpec.upto fnExactDeterminantOfSpec)

/-- 'laws.FnExactMinorOf', WHERE WHAT IT READS IS OF BULK AT MOST 1048576: true; the input reads as it did. -/
def fnExactMinorOfUptoRow : OpenClaim := { program := "ytbehkflmhlfekaa", sum := "adc2305feae6e2146e5f6d1ea3f8cb5a6d84d9579a3f418ccbd8f1d28a0753f8", func := "loop.example/g00992/laws.FnExactMinorOf", spec := "fnExactMinorOf", recurses := true, apart := false, narrowed := true }
def FnExactMinorOfUptoSaid : Prop := fnExactMinorOfUptoRow.holds Try.pinned (OpenSpec.upto fnExactMinorOfSpec)

/-- 'laws.FnExactTransposeSigns', WHERE WHAT IT READS IS OF BULK AT MOST 1048576: true; the input reads as it did. -/
def fnExactTransposeSignsUptoRow : OpenClaim := { program := "ytbehkflmhlfekaa", sum := "adc2305feae6e2146e5f6d1ea3f8cb5a6d84d9579a3f418ccbd8f1d28a0753f8", func := "loop.example/g00992/laws.FnExactTransposeSigns", spec := "fnExactTransposeSigns", apart := false, narrowed := true }
def FnExactTransposeSignsUptoSaid : Prop := fnExactTransposeSignsUptoRow.holds Try.pinned (OpenSpec.upto fnExactTransposeSignsSpec)

/-- 'laws.FnExactReadDesign', WHERE WHAT IT READS IS OF BULK AT MOST 1048576: true; the input reads as it did. -/
def fnExactReadDesignUptoRow : OpenClaim := { program := "ytbehkflmhlfekaa", sum := "adc2305feae6e2146e5f6d1ea3f8cb5a6d84d9579a3f418ccbd8f1d28a0753f8", func := "loop.example/g00992/laws.FnExactReadDesign", spec := "fnExactReadDesign", apart := false, narrowed := true }
def FnExactReadDesignUptoSaid : Prop := fnExactReadDesignUptoRow.holds Try.pinned (OpenSpec.upto fnExactReadDesignSpec)

/-- 'laws.FnExactCountLinked', WHERE WHAT IT READS IS OF BULK AT MOST 1048576: true; the input reads as it did. -/
def fnExactCountLinkedUptoRow : OpenClaim := { program := "ytbehkflmhlfekaa", sum := "adc2305feae6e2146e5f6d1ea3f8cb5a6d84d9579a3f418ccbd8f1d28a0753f8", func := "loop.example/g00992/laws.FnExactCountLinked", spec := "fnExactCountLinked", apart := false, narrowed := true }
def FnExactCountLinkedUptoSaid : Prop := fnExactCountLinkedUptoRow.holds Try.pinned (OpenSpec.upto fnExactCountLinkedSpec)

/-- 'laws.FnExactSameReadings', WHERE WHAT IT READS IS OF BULK AT MOST 1048576: true; the input reads as it did. -/
def fnExactSameReadingsUptoRow : OpenClaim := { program := "ytbehkflmhlfekaa", sum := "adc2305feae6e2146e5f6d1ea3f8cb5a6d84d9579a3f418ccbd8f1d28a0753f8", func := "loop.example/g00992/laws.FnExactSameReadings", spec := "fnExactSameReadings", apart := false, narrowed := true }
def FnExactSameReadingsUptoSaid : Prop := fnExactSameReadingsUptoRow.holds Try.pinned (OpenSpec.upto fnExactSameReadingsSpec)

/-- 'laws.FnExactGramOf', WHERE WHAT IT READS IS OF BULK AT MOST 1048576: true; the input reads as it did. -/
def fnExactGramOfUptoRow : OpenClaim := { program := "ytbehkflmhlfekaa", sum := "adc2305feae6e2146e5f6d1ea3f8cb5a6d84d9579a3f418ccbd8f1d28a0753f8", func := "loop.example/g00992/laws.FnExactGramOf", spec := "fnExactGramOf", apart := false, narrowed := true }
def FnExactGramOfUptoSaid : Prop := fnExactGramOfUptoRow.holds Try.pinned (OpenSpec.upto fnExactGramOfSpec)

/-- 'laws.FnExactIsDetermined', WHERE WHAT IT READS IS OF BULK AT MOST 1048576: true; the input reads as it did. -/
def fnExactIsDeterminedUptoRow : OpenClaim := { program := "ytbehkflmhlfekaa", sum := "adc2305feae6e2146e5f6d1ea3f8cb5a6d84d9579a3f418ccbd8f1d28a0753f8", func := "loop.example/g00992/laws.FnExactIsDetermined", spec := "fnExactIsDetermined", recurses := true, apart := false, narrowed := true }
def FnExactIsDeterminedUptoSaid : Prop := fnExactIsDeterminedUptoRow.holds Try.pinned (OpenSpec.upto fnExactIsDeterminedSpec)

/-- 'laws.FnExactAdjugateOf', WHERE WHAT IT READS IS OF BULK AT MOST 1048576: true; the input reads as it did. -/
def fnExactAdjugateOfUptoRow : OpenClaim := { program := "ytbehkflmhlfekaa", sum := "adc2305feae6e2146e5f6d1ea3f8cb5a6d84d9579a3f418ccbd8f1d28a0753f8", func := "loop.example/g00992/laws.FnExactAdjugateOf", spec := "fnExactAdjugateOf", recurses := true, apart := false, narrowed := true }
def FnExactAdjugateOfUptoSaid : Prop := fnExactAdjugateOfUptoRow.holds Try.pinned (OpenSpec.upto fnExactAdjugateOfSpec)

/-- 'laws.FnExactReadingsOk', WHERE WHAT IT READS IS OF BULK AT MOST 1048576: true; the input reads as it did. -/
def fnExactReadingsOkUptoRow : OpenClaim := { program := "ytbehkflmhlfekaa", sum := "adc2305feae6e2146e5f6d1ea3f8cb5a6d84d9579a3f418ccbd8f1d28a0753f8", func := "loop.example/g00992/laws.FnExactReadingsOk", spec := "fnExactReadingsOk", recurses := true, apart := false, narrowed := true }
def FnExactReadingsOkUptoSaid : Prop := fnExactReadingsOkUptoRow.holds Try.pinned (OpenSpec.upto fnExactReadingsOkSpec)

/-- 'laws.FnDeterminants', WHERE WHAT IT READS IS OF BULK AT MOST 1048576: true; the input reads as it did. -/
def fnDeterminantsUptoRow : OpenClaim := { program := "ytbehkflmhlfekaa", sum := "adc2305feae6e2146e5f6d1ea3f8cb5a6d84d9579a3f418ccbd8f1d28a0753f8", func := "loop.example/g00992/laws.FnDeterminants", spec := "fnDeterminants", recurses := true, apart := false, narrowed := true }
def FnDeterminantsUptoSaid : Prop := fnDeterminantsUptoRow.holds Try.pinned (OpenSpec.upto fnDeterminantsSpec)

/-- 'laws.FnDesigns', WHERE WHAT IT READS IS OF BULK AT MOST 1048576: true; the input reads as it did. -/
def fnDesignsUptoRow : OpenClaim := { program := "ytbehkflmhlfekaa", sum := "adc2305feae6e2146e5f6d1ea3f8cb5a6d84d9579a3f418ccbd8f1d28a0753f8", func := "loop.example/g00992/laws.FnDesigns", spec := "fnDesigns", recurses := true, apart := false, narrowed := true }
def FnDesignsUptoSaid : Prop := fnDesignsUptoRow.holds Try.pinned (OpenSpec.upto fnDesignsSpec)

/-- 'laws.FnOrthogonal', WHERE WHAT IT READS IS OF BULK AT MOST 1048576: true; the input reads as it did. -/
def fnOrthogonalUptoRow : OpenClaim := { program := "ytbehkflmhlfekaa", sum := "adc2305feae6e2146e5f6d1ea3f8cb5a6d84d9579a3f418ccbd8f1d28a0753f8", func := "loop.example/g00992/laws.FnOrthogonal", spec := "fnOrthogonal", apart := false, narrowed := true }
def FnOrthogonalUptoSaid : Prop := fnOrthogonalUptoRow.holds Try.pinned (OpenSpec.upto fnOrthogonalSpec)

end Rows
end Go.Proofs.Ytbehkflmhlfekaa
