/-
  No cell of these rows narrows 'for every input' (looked for: loops, veiled, ifaces, maps, wideKeys, modest, calm, conditions, laid).
  DERIVED. THE GIVEN ROWS OF THIS SEAT. 11 by the template 'for every input the law returns true; each argument reads behind the call as it read before'; 0 by the template 'total and deterministic' (their statements: YtmapcpkloomliaaTotals.lean).
  GIVEN WITH THE SEED: the statements are not yours to turn. If you find one false, say at which input.
  Laid BY PROGRAM, IN A SANDBOX (cutbox-rows.mjs): the forced cells as the released guide's own fill.sh prints them over the translation 1bc1f2ce34a764b7… (all of the seat's roots in one cut). By AI agents, Wed Nov 11 2026. No macro, syntax, notation, axiom, sorry.
-/
import Derived.Test.YtmapcpkloomliaaChecked
import GoSem.Claim
import GoSem.ClaimJoined
import GoSem.ClaimMapViews
import Derived.JoinedTies
import Derived.KernelRfl
namespace Go.Proofs.Ytmapcpkloomliaa
/- THE CELL 'sum', in the pinned program and in every row, IS THE sha256 OF THE DUMP (.gsa) THAT YtmapcpkloomliaaProg.lean LOADS. Nothing in Lean hashes anything: it is a label: what it is worth is what the hold of that sum in a sandbox is worth. -/
noncomputable def Try.pinned : Pinned := { name := "ytmapcpkloomliaa", sum := "1bc1f2ce34a764b768fa64160673360d87fcd12c21fa92c339111971cd49f552", checked := Try.checked }
namespace Rows
def none {H : Type} : Left H := { results := [], args := [] }

/-- 'laws.FnExactSwapRows': WHATEVER THE INPUT: true; the input reads as it did. -/
def fnExactSwapRowsSpec : ChangeSpec := { name := "fnExactSwapRows", fn := fun _ => fun
  | [d1, d2, d3] => { results := [.lit (.bool true)], args := [d1, d2, d3] }
  | _ => none }
def fnExactSwapRowsRow : OpenClaim := { program := "ytmapcpkloomliaa", sum := "1bc1f2ce34a764b768fa64160673360d87fcd12c21fa92c339111971cd49f552", func := "loop.example/g00992/laws.FnExactSwapRows", spec := "fnExactSwapRows", apart := false }
def FnExactSwapRowsSaid : Prop := fnExactSwapRowsRow.holds Try.pinned (OpenSpec.ofChange fnExactSwapRowsSpec)

/-- ITS FALSE NEIGHBOUR: 'it returns false'. Refute it at one input. -/
def fnExactSwapRowsWrong : ChangeSpec := { name := "fnExactSwapRows", fn := fun _ => fun
  | [d1, d2, d3] => { results := [.lit (.bool false)], args := [d1, d2, d3] }
  | _ => none }
def FnExactSwapRowsWrongFalsely : Prop := fnExactSwapRowsRow.holds Try.pinned (OpenSpec.ofChange fnExactSwapRowsWrong)

/-- 'laws.FnVerniers': WHATEVER THE INPUT: true; the input reads as it did. -/
def fnVerniersSpec : ChangeSpec := { name := "fnVerniers", fn := fun _ => fun
  | [d] => { results := [.lit (.bool true)], args := [d] }
  | _ => none }
def fnVerniersRow : OpenClaim := { program := "ytmapcpkloomliaa", sum := "1bc1f2ce34a764b768fa64160673360d87fcd12c21fa92c339111971cd49f552", func := "loop.example/g00992/laws.FnVerniers", spec := "fnVerniers", apart := false }
def FnVerniersSaid : Prop := fnVerniersRow.holds Try.pinned (OpenSpec.ofChange fnVerniersSpec)

/-- ITS FALSE NEIGHBOUR: 'it returns false'. Refute it at one input. -/
def fnVerniersWrong : ChangeSpec := { name := "fnVerniers", fn := fun _ => fun
  | [d] => { results := [.lit (.bool false)], args := [d] }
  | _ => none }
def FnVerniersWrongFalsely : Prop := fnVerniersRow.holds Try.pinned (OpenSpec.ofChange fnVerniersWrong)

/-- 'laws.FnExactSumOfRounded': WHATEVER THE INPUT: true; the input reads as it did. -/
def fnExactSumOfRoundedSpec : ChangeSpec := { name := "fnExactSumOfRounded", fn := fun _ => fun
  | [d1, d2] => { results := [.lit (.bool true)], args := [d1, d2] }
  | _ => none }
def fnExactSumOfRoundedRow : OpenClaim := { program := "ytmapcpkloomliaa", sum := "1bc1f2ce34a764b768fa64160673360d87fcd12c21fa92c339111971cd49f552", func := "loop.example/g00992/laws.FnExactSumOfRounded", spec := "fnExactSumOfRounded", apart := false }
def FnExactSumOfRoundedSaid : Prop := fnExactSumOfRoundedRow.holds Try.pinned (OpenSpec.ofChange fnExactSumOfRoundedSpec)

/-- ITS FALSE NEIGHBOUR: 'it returns false'. Refute it at one input. -/
def fnExactSumOfRoundedWrong : ChangeSpec := { name := "fnExactSumOfRounded", fn := fun _ => fun
  | [d1, d2] => { results := [.lit (.bool false)], args := [d1, d2] }
  | _ => none }
def FnExactSumOfRoundedWrongFalsely : Prop := fnExactSumOfRoundedRow.holds Try.pinned (OpenSpec.ofChange fnExactSumOfRoundedWrong)

/-- 'laws.FnExactPlayAll': WHATEVER THE INPUT: true; the input reads as it did. -/
def fnExactPlayAllSpec : ChangeSpec := { name := "fnExactPlayAll", fn := fun _ => fun
  | [d1, d2, d3] => { results := [.lit (.bool true)], args := [d1, d2, d3] }
  | _ => none }
def fnExactPlayAllRow : OpenClaim := { program := "ytmapcpkloomliaa", sum := "1bc1f2ce34a764b768fa64160673360d87fcd12c21fa92c339111971cd49f552", func := "loop.example/g00992/laws.FnExactPlayAll", spec := "fnExactPlayAll", apart := false }
def FnExactPlayAllSaid : Prop := fnExactPlayAllRow.holds Try.pinned (OpenSpec.ofChange fnExactPlayAllSpec)

/-- ITS FALSE NEIGHBOUR: 'it returns false'. Refute it at one input. -/
def fnExactPlayAllWrong : ChangeSpec := { name := "fnExactPlayAll", fn := fun _ => fun
  | [d1, d2, d3] => { results := [.lit (.bool false)], args := [d1, d2, d3] }
  | _ => none }
def FnExactPlayAllWrongFalsely : Prop := fnExactPlayAllRow.holds Try.pinned (OpenSpec.ofChange fnExactPlayAllWrong)

/-- 'laws.FnSteps': WHATEVER THE INPUT: true; the input reads as it did. -/
def fnStepsSpec : ChangeSpec := { name := "fnSteps", fn := fun _ => fun
  | [d] => { results := [.lit (.bool true)], args := [d] }
  | _ => none }
def fnStepsRow : OpenClaim := { program := "ytmapcpkloomliaa", sum := "1bc1f2ce34a764b768fa64160673360d87fcd12c21fa92c339111971cd49f552", func := "loop.example/g00992/laws.FnSteps", spec := "fnSteps", apart := false }
def FnStepsSaid : Prop := fnStepsRow.holds Try.pinned (OpenSpec.ofChange fnStepsSpec)

/-- ITS FALSE NEIGHBOUR: 'it returns false'. Refute it at one input. -/
def fnStepsWrong : ChangeSpec := { name := "fnSteps", fn := fun _ => fun
  | [d] => { results := [.lit (.bool false)], args := [d] }
  | _ => none }
def FnStepsWrongFalsely : Prop := fnStepsRow.holds Try.pinned (OpenSpec.ofChange fnStepsWrong)

/-- 'laws.FnExactGreatestLag': WHATEVER THE INPUT: true; the input reads as it did. -/
def fnExactGreatestLagSpec : ChangeSpec := { name := "fnExactGreatestLag", fn := fun _ => fun
  | [d1, d2, d3] => { results := [.lit (.bool true)], args := [d1, d2, d3] }
  | _ => none }
def fnExactGreatestLagRow : OpenClaim := { program := "ytmapcpkloomliaa", sum := "1bc1f2ce34a764b768fa64160673360d87fcd12c21fa92c339111971cd49f552", func := "loop.example/g00992/laws.FnExactGreatestLag", spec := "fnExactGreatestLag", apart := false }
def FnExactGreatestLagSaid : Prop := fnExactGreatestLagRow.holds Try.pinned (OpenSpec.ofChange fnExactGreatestLagSpec)

/-- ITS FALSE NEIGHBOUR: 'it returns false'. Refute it at one input. -/
def fnExactGreatestLagWrong : ChangeSpec := { name := "fnExactGreatestLag", fn := fun _ => fun
  | [d1, d2, d3] => { results := [.lit (.bool false)], args := [d1, d2, d3] }
  | _ => none }
def FnExactGreatestLagWrongFalsely : Prop := fnExactGreatestLagRow.holds Try.pinned (OpenSpec.ofChange fnExactGreatestLagWrong)

/-- 'laws.FnExactCountMoves': WHATEVER THE INPUT: true; the input reads as it did. -/
def fnExactCountMovesSpec : ChangeSpec := { name := "fnExactCountMoves", fn := fun _ => fun
  | [d1, d2, d3] => { results := [.lit (.bool true)], args := [d1, d2, d3] }
  | _ => none }
def fnExactCountMovesRow : OpenClaim := { program := "ytmapcpkloomliaa", sum := "1bc1f2ce34a764b768fa64160673360d87fcd12c21fa92c339111971cd49f552", func := "loop.example/g00992/laws.FnExactCountMoves", spec := "fnExactCountMoves", apart := false }
def FnExactCountMovesSaid : Prop := fnExactCountMovesRow.holds Try.pinned (OpenSpec.ofChange fnExactCountMovesSpec)

/-- ITS FALSE NEIGHBOUR: 'it returns false'. Refute it at one input. -/
def fnExactCountMovesWrong : ChangeSpec := { name := "fnExactCountMoves", fn := fun _ => fun
  | [d1, d2, d3] => { results := [.lit (.bool false)], args := [d1, d2, d3] }
  | _ => none }
def FnExactCountMovesWrongFalsely : Prop := fnExactCountMovesRow.holds Try.pinned (OpenSpec.ofChange fnExactCountMovesWrong)

/-- 'laws.FnArms': WHATEVER THE INPUT: true; the input reads as it did. -/
def fnArmsSpec : ChangeSpec := { name := "fnArms", fn := fun _ => fun
  | [d] => { results := [.lit (.bool true)], args := [d] }
  | _ => none }
def fnArmsRow : OpenClaim := { program := "ytmapcpkloomliaa", sum := "1bc1f2ce34a764b768fa64160673360d87fcd12c21fa92c339111971cd49f552", func := "loop.example/g00992/laws.FnArms", spec := "fnArms", apart := false }
def FnArmsSaid : Prop := fnArmsRow.holds Try.pinned (OpenSpec.ofChange fnArmsSpec)

/-- ITS FALSE NEIGHBOUR: 'it returns false'. Refute it at one input. -/
def fnArmsWrong : ChangeSpec := { name := "fnArms", fn := fun _ => fun
  | [d] => { results := [.lit (.bool false)], args := [d] }
  | _ => none }
def FnArmsWrongFalsely : Prop := fnArmsRow.holds Try.pinned (OpenSpec.ofChange fnArmsWrong)

/-- 'laws.FnExactCarryRounding': WHATEVER THE INPUT: true; the input reads as it did. -/
def fnExactCarryRoundingSpec : ChangeSpec := { name := "fnExactCarryRounding", fn := fun _ => fun
  | [d1, d2] => { results := [.lit (.bool true)], args := [d1, d2] }
  | _ => none }
def fnExactCarryRoundingRow : OpenClaim := { program := "ytmapcpkloomliaa", sum := "1bc1f2ce34a764b768fa64160673360d87fcd12c21fa92c339111971cd49f552", func := "loop.example/g00992/laws.FnExactCarryRounding", spec := "fnExactCarryRounding", apart := false }
def FnExactCarryRoundingSaid : Prop := fnExactCarryRoundingRow.holds Try.pinned (OpenSpec.ofChange fnExactCarryRoundingSpec)

/-- ITS FALSE NEIGHBOUR: 'it returns false'. Refute it at one input. -/
def fnExactCarryRoundingWrong : ChangeSpec := { name := "fnExactCarryRounding", fn := fun _ => fun
  | [d1, d2] => { results := [.lit (.bool false)], args := [d1, d2] }
  | _ => none }
def FnExactCarryRoundingWrongFalsely : Prop := fnExactCarryRoundingRow.holds Try.pinned (OpenSpec.ofChange fnExactCarryRoundingWrong)

/-- 'laws.FnPlays': WHATEVER THE INPUT: true; the input reads as it did. -/
def fnPlaysSpec : ChangeSpec := { name := "fnPlays", fn := fun _ => fun
  | [d] => { results := [.lit (.bool true)], args := [d] }
  | _ => none }
def fnPlaysRow : OpenClaim := { program := "ytmapcpkloomliaa", sum := "1bc1f2ce34a764b768fa64160673360d87fcd12c21fa92c339111971cd49f552", func := "loop.example/g00992/laws.FnPlays", spec := "fnPlays", apart := false }
def FnPlaysSaid : Prop := fnPlaysRow.holds Try.pinned (OpenSpec.ofChange fnPlaysSpec)

/-- ITS FALSE NEIGHBOUR: 'it returns false'. Refute it at one input. -/
def fnPlaysWrong : ChangeSpec := { name := "fnPlays", fn := fun _ => fun
  | [d] => { results := [.lit (.bool false)], args := [d] }
  | _ => none }
def FnPlaysWrongFalsely : Prop := fnPlaysRow.holds Try.pinned (OpenSpec.ofChange fnPlaysWrong)

/-- 'laws.FnLines': WHATEVER THE INPUT: true; the input reads as it did. -/
def fnLinesSpec : ChangeSpec := { name := "fnLines", fn := fun _ => fun
  | [d] => { results := [.lit (.bool true)], args := [d] }
  | _ => none }
def fnLinesRow : OpenClaim := { program := "ytmapcpkloomliaa", sum := "1bc1f2ce34a764b768fa64160673360d87fcd12c21fa92c339111971cd49f552", func := "loop.example/g00992/laws.FnLines", spec := "fnLines", apart := false }
def FnLinesSaid : Prop := fnLinesRow.holds Try.pinned (OpenSpec.ofChange fnLinesSpec)

/-- ITS FALSE NEIGHBOUR: 'it returns false'. Refute it at one input. -/
def fnLinesWrong : ChangeSpec := { name := "fnLines", fn := fun _ => fun
  | [d] => { results := [.lit (.bool false)], args := [d] }
  | _ => none }
def FnLinesWrongFalsely : Prop := fnLinesRow.holds Try.pinned (OpenSpec.ofChange fnLinesWrong)

/- THE SECOND FORM. 'bulk': how many values and letters a reading holds, each counted each time it is reached (what is shared counts as often as it is met; a slice's spare places count too). A statement '..UptoSaid' is the law's where the arguments, and the package variables that the reading takes, are together of bulk at most 1048576: NARROWER than '..Said'. Prove '..Said' where nothing that the law and all that it calls make is longer than what came in: it says more and counts as full. Else prove '..UptoSaid'. A law counts once. -/
mutual
def uptoBulk {H : Type} : DataW H → Nat
  | .lit (.string bytes) => bytes.length + 1
  | .lit _ => 1
  | .nil => 1
  | .ptr d => uptoBulk d + 1
  | .slice elems spare => uptoBulkAll elems + uptoBulkAll spare + 1
  | .agg parts => uptoBulkAll parts + 1
  | .iface _ d => uptoBulk d + 1
  | .map entries => uptoBulkEntries entries + 1
  | .held _ => 1
def uptoBulkAll {H : Type} : List (DataW H) → Nat
  | [] => 0
  | d :: r => uptoBulk d + uptoBulkAll r
def uptoBulkEntries {H : Type} : List (Lit × DataW H) → Nat
  | [] => 0
  | x :: r => uptoBulkEntry x + uptoBulkEntries r
def uptoBulkEntry {H : Type} : Lit × DataW H → Nat
  | (.string bytes, d) => bytes.length + uptoBulk d + 1
  | (_, d) => uptoBulk d + 1
 end
def uptoSmall : (H : Type) → List (DataW H) → Bool := fun _ ds => decide (uptoBulkAll ds ≤ 1048576)
def OpenSpec.upto (s : _root_.Go.ChangeSpec) : _root_.Go.OpenSpec := { _root_.Go.OpenSpec.ofChange s with cond := some uptoSmall }

/-- 'laws.FnExactSwapRows', WHERE WHAT IT READS IS OF BULK AT MOST 1048576: true; the input reads as it did. -/
def fnExactSwapRowsUptoRow : OpenClaim := { program := "ytmapcpkloomliaa", sum := "1bc1f2ce34a764b768fa64160673360d87fcd12c21fa92c339111971cd49f552", func := "loop.example/g00992/laws.FnExactSwapRows", spec := "fnExactSwapRows", apart := false, narrowed := true }
def FnExactSwapRowsUptoSaid : Prop := fnExactSwapRowsUptoRow.holds Try.pinned (OpenSpec.upto fnExactSwapRowsSpec)

/-- 'laws.FnVerniers', WHERE WHAT IT READS IS OF BULK AT MOST 1048576: true; the input reads as it did. -/
def fnVerniersUptoRow : OpenClaim := { program := "ytmapcpkloomliaa", sum := "1bc1f2ce34a764b768fa64160673360d87fcd12c21fa92c339111971cd49f552", func := "loop.example/g00992/laws.FnVerniers", spec := "fnVerniers", apart := false, narrowed := true }
def FnVerniersUptoSaid : Prop := fnVerniersUptoRow.holds Try.pinned (OpenSpec.upto fnVerniersSpec)

/-- 'laws.FnExactSumOfRounded', WHERE WHAT IT READS IS OF BULK AT MOST 1048576: true; the input reads as it did. -/
def fnExactSumOfRoundedUptoRow : OpenClaim := { program := "ytmapcpkloomliaa", sum := "1bc1f2ce34a764b768fa64160673360d87fcd12c21fa92c339111971cd49f552", func := "loop.example/g00992/laws.FnExactSumOfRounded", spec := "fnExactSumOfRounded", apart := false, narrowed := true }
def FnExactSumOfRoundedUptoSaid : Prop := fnExactSumOfRoundedUptoRow.holds Try.pinned (OpenSpec.upto fnExactSumOfRoundedSpec)

/-- 'laws.FnExactPlayAll', WHERE WHAT IT READS IS OF BULK AT MOST 1048576: true; the input reads as it did. -/
def fnExactPlayAllUptoRow : OpenClaim := { program := "ytmapcpkloomliaa", sum := "1bc1f2ce34a764b768fa64160673360d87fcd12c21fa92c339111971cd49f552", func := "loop.example/g00992/laws.FnExactPlayAll", spec := "fnExactPlayAll", apart := false, narrowed := true }
def FnExactPlayAllUptoSaid : Prop := fnExactPlayAllUptoRow.holds Try.pinned (OpenSpec.upto fnExactPlayAllSpec)

/-- 'laws.FnSteps', WHERE WHAT IT READS IS OF BULK AT MOST 1048576: true; the input reads as it did. -/
def fnStepsUptoRow : OpenClaim := { program := "ytmapcpkloomliaa", sum := "1bc1f2ce34a764b768fa64160673360d87fcd12c21fa92c339111971cd49f552", func := "loop.example/g00992/laws.FnSteps", spec := "fnSteps", apart := false, narrowed := true }
def FnStepsUptoSaid : Prop := fnStepsUptoRow.holds Try.pinned (OpenSpec.upto fnStepsSpec)

/-- 'laws.FnExactGreatestLag', WHERE WHAT IT READS IS OF BULK AT MOST 1048576: true; the input reads as it did. -/
def fnExactGreatestLagUptoRow : OpenClaim := { program := "ytmapcpkloomliaa", sum := "1bc1f2ce34a764b768fa64160673360d87fcd12c21fa92c339111971cd49f552", func := "loop.example/g00992/laws.FnExactGreatestLag", spec := "fnExactGreatestLag", apart := false, narrowed := true }
def FnExactGreatestLagUptoSaid : Prop := fnExactGreatestLagUptoRow.holds Try.pinned (OpenSpec.upto fnExactGreatestLagSpec)

/-- 'laws.FnExactCountMoves', WHERE WHAT IT READS IS OF BULK AT MOST 1048576: true; the input reads as it did. -/
def fnExactCountMovesUptoRow : OpenClaim := { program := "ytmapcpkloomliaa", sum := "1bc1f2ce34a764b768fa64160673360d87fcd12c21fa92c339111971cd49f552", func := "loop.example/g00992/laws.FnExactCountMoves", spec := "fnExactCountMoves", apart := false, narrowed := true }
def FnExactCountMovesUptoSaid : Prop := fnExactCountMovesUptoRow.holds Try.pinned (OpenSpec.upto fnExactCountMovesSpec)

/-- 'laws.FnArms', WHERE WHAT IT READS IS OF BULK AT MOST 1048576: true; the input reads as it did. -/
def fnArmsUptoRow : OpenClaim := { program := "ytmapcpkloomliaa", sum := "1bc1f2ce34a764b768fa64160673360d87fcd12c21fa92c339111971cd49f552", func := "loop.example/g00992/laws.FnArms", spec := "fnArms", apart := false, narrowed := true }
def FnArmsUptoSaid : Prop := fnArmsUptoRow.holds Try.pinned (OpenSpec.upto fnArmsSpec)

/-- 'laws.FnExactCarryRounding', WHERE WHAT IT READS IS OF BULK AT MOST 1048576: true; the input reads as it did. -/
def fnExactCarryRoundingUptoRow : OpenClaim := { program := "ytmapcpkloomliaa", sum := "1bc1f2ce34a764b768fa64160673360d87fcd12c21fa92c339111971cd49f552", func := "loop.example/g00992/laws.FnExactCarryRounding", spec := "fnExactCarryRounding", apart := false, narrowed := true }
def FnExactCarryRoundingUptoSaid : Prop := fnExactCarryRoundingUptoRow.holds Try.pinned (OpenSpec.upto fnExactCarryRoundingSpec)

/-- 'laws.FnPlays', WHERE WHAT IT READS IS OF BULK AT MOST 1048576: true; the input reads as it did. -/
def fnPlaysUptoRow : OpenClaim := { program := "ytmapcpkloomliaa", sum := "1bc1f2ce34a764b768fa64160673360d87fcd12c21fa92c339111971cd49f552", func := "loop.example/g00992/laws.FnPlays", spec := "fnPlays", apart := false, narrowed := true }
def FnPlaysUptoSaid : Prop := fnPlaysUptoRow.holds Try.pinned (OpenSpec.upto fnPlaysSpec)

/-- 'laws.FnLines', WHERE WHAT IT READS IS OF BULK AT MOST 1048576: true; the input reads as it did. -/
def fnLinesUptoRow : OpenClaim := { program := "ytmapcpkloomliaa", sum := "1bc1f2ce34a764b768fa64160673360d87fcd12c21fa92c339111971cd49f552", func := "loop.example/g00992/laws.FnLines", spec := "fnLines", apart := false, narrowed := true }
def FnLinesUptoSaid : Prop := fnLinesUptoRow.holds Try.pinned (OpenSpec.upto fnLinesSpec)

end Rows
end Go.Proofs.Ytmapcpkloomliaa
