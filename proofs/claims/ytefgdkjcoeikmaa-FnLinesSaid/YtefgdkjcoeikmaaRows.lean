/-
  No cell of these rows narrows 'for every input' (looked for: loops, veiled, ifaces, maps, wideKeys, modest, calm, conditions, laid).
  DERIVED. THE GIVEN ROWS OF THIS SEAT. 6 by the template 'for every input the law returns true; each argument reads behind the call as it read before'; 0 by the template 'total and deterministic' (their statements: YtefgdkjcoeikmaaTotals.lean).
  GIVEN WITH THE SEED: the statements are not yours to turn. If you find one false, say at which input.
  Laid BY PROGRAM, IN A SANDBOX (cutbox-rows.mjs): the forced cells as the released guide's own fill.sh prints them over the translation 94135021c52d7add… (all of the seat's roots in one cut). By AI agents, Wed Nov 11 2026. No macro, syntax, notation, axiom, sorry.
-/
import Derived.Test.YtefgdkjcoeikmaaChecked
import GoSem.Claim
import GoSem.ClaimJoined
import GoSem.ClaimMapViews
import Derived.JoinedTies
import Derived.KernelRfl
namespace Go.Proofs.Ytefgdkjcoeikmaa
/- THE CELL 'sum', in the pinned program and in every row, IS THE sha256 OF THE DUMP (.gsa) THAT YtefgdkjcoeikmaaProg.lean LOADS. Nothing in Lean hashes anything: it is a label: what it is worth is what the hold of that sum in a sandbox is worth. -/
noncomputable def Try.pinned : Pinned := { name := "ytefgdkjcoeikmaa", sum := "94135021c52d7add50ecef7bbeb5105151e12d74ec04665fea63a8981a032313", checked := Try.checked }
namespace Rows
def none {H : Type} : Left H := { results := [], args := [] }

/-- 'laws.FnExactSolveDesign': WHATEVER THE INPUT: true; the input reads as it did. -/
def fnExactSolveDesignSpec : ChangeSpec := { name := "fnExactSolveDesign", fn := fun _ => fun
  | [d1, d2] => { results := [.lit (.bool true)], args := [d1, d2] }
  | _ => none }
def fnExactSolveDesignRow : OpenClaim := { program := "ytefgdkjcoeikmaa", sum := "94135021c52d7add50ecef7bbeb5105151e12d74ec04665fea63a8981a032313", func := "loop.example/g00992/laws.FnExactSolveDesign", spec := "fnExactSolveDesign", recurses := true, apart := false }
def FnExactSolveDesignSaid : Prop := fnExactSolveDesignRow.holds Try.pinned (OpenSpec.ofChange fnExactSolveDesignSpec)

/-- ITS FALSE NEIGHBOUR: 'it returns false'. Refute it at one input. -/
def fnExactSolveDesignWrong : ChangeSpec := { name := "fnExactSolveDesign", fn := fun _ => fun
  | [d1, d2] => { results := [.lit (.bool false)], args := [d1, d2] }
  | _ => none }
def FnExactSolveDesignWrongFalsely : Prop := fnExactSolveDesignRow.holds Try.pinned (OpenSpec.ofChange fnExactSolveDesignWrong)

/-- 'laws.FnExactCountLinked': WHATEVER THE INPUT: true; the input reads as it did. -/
def fnExactCountLinkedSpec : ChangeSpec := { name := "fnExactCountLinked", fn := fun _ => fun
  | [d] => { results := [.lit (.bool true)], args := [d] }
  | _ => none }
def fnExactCountLinkedRow : OpenClaim := { program := "ytefgdkjcoeikmaa", sum := "94135021c52d7add50ecef7bbeb5105151e12d74ec04665fea63a8981a032313", func := "loop.example/g00992/laws.FnExactCountLinked", spec := "fnExactCountLinked", apart := false }
def FnExactCountLinkedSaid : Prop := fnExactCountLinkedRow.holds Try.pinned (OpenSpec.ofChange fnExactCountLinkedSpec)

/-- ITS FALSE NEIGHBOUR: 'it returns false'. Refute it at one input. -/
def fnExactCountLinkedWrong : ChangeSpec := { name := "fnExactCountLinked", fn := fun _ => fun
  | [d] => { results := [.lit (.bool false)], args := [d] }
  | _ => none }
def FnExactCountLinkedWrongFalsely : Prop := fnExactCountLinkedRow.holds Try.pinned (OpenSpec.ofChange fnExactCountLinkedWrong)

/-- 'laws.FnLines': WHATEVER THE INPUT: true; the input reads as it did. -/
def fnLinesSpec : ChangeSpec := { name := "fnLines", fn := fun _ => fun
  | [d] => { results := [.lit (.bool true)], args := [d] }
  | _ => none }
def fnLinesRow : OpenClaim := { program := "ytefgdkjcoeikmaa", sum := "94135021c52d7add50ecef7bbeb5105151e12d74ec04665fea63a8981a032313", func := "loop.example/g00992/laws.FnLines", spec := "fnLines", apart := false }
def FnLinesSaid : Prop := fnLinesRow.holds Try.pinned (OpenSpec.ofChange fnLinesSpec)

/-- ITS FALSE NEIGHBOUR: 'it returns false'. Refute it at one input. -/
def fnLinesWrong : ChangeSpec := { name := "fnLines", fn := fun _ => fun
  | [d] => { results := [.lit (.bool false)], args := [d] }
  | _ => none }
def FnLinesWrongFalsely : Prop := fnLinesRow.holds Try.pinned (OpenSpec.ofChange fnLinesWrong)

/-- 'laws.FnDeterminants': WHATEVER THE INPUT: true; the input reads as it did. -/
def fnDeterminantsSpec : ChangeSpec := { name := "fnDeterminants", fn := fun _ => fun
  | [d] => { results := [.lit (.bool true)], args := [d] }
  | _ => none }
def fnDeterminantsRow : OpenClaim := { program := "ytefgdkjcoeikmaa", sum := "94135021c52d7add50ecef7bbeb5105151e12d74ec04665fea63a8981a032313", func := "loop.example/g00992/laws.FnDeterminants", spec := "fnDeterminants", recurses := true, apart := false }
def FnDeterminantsSaid : Prop := fnDeterminantsRow.holds Try.pinned (OpenSpec.ofChange fnDeterminantsSpec)

/-- ITS FALSE NEIGHBOUR: 'it returns false'. Refute it at one input. -/
def fnDeterminantsWrong : ChangeSpec := { name := "fnDeterminants", fn := fun _ => fun
  | [d] => { results := [.lit (.bool false)], args := [d] }
  | _ => none }
def FnDeterminantsWrongFalsely : Prop := fnDeterminantsRow.holds Try.pinned (OpenSpec.ofChange fnDeterminantsWrong)

/-- 'laws.FnDesigns': WHATEVER THE INPUT: true; the input reads as it did. -/
def fnDesignsSpec : ChangeSpec := { name := "fnDesigns", fn := fun _ => fun
  | [d] => { results := [.lit (.bool true)], args := [d] }
  | _ => none }
def fnDesignsRow : OpenClaim := { program := "ytefgdkjcoeikmaa", sum := "94135021c52d7add50ecef7bbeb5105151e12d74ec04665fea63a8981a032313", func := "loop.example/g00992/laws.FnDesigns", spec := "fnDesigns", recurses := true, apart := false }
def FnDesignsSaid : Prop := fnDesignsRow.holds Try.pinned (OpenSpec.ofChange fnDesignsSpec)

/-- ITS FALSE NEIGHBOUR: 'it returns false'. Refute it at one input. -/
def fnDesignsWrong : ChangeSpec := { name := "fnDesigns", fn := fun _ => fun
  | [d] => { results := [.lit (.bool false)], args := [d] }
  | _ => none }
def FnDesignsWrongFalsely : Prop := fnDesignsRow.holds Try.pinned (OpenSpec.ofChange fnDesignsWrong)

/-- 'laws.FnOrthogonal': WHATEVER THE INPUT: true; the input reads as it did. -/
def fnOrthogonalSpec : ChangeSpec := { name := "fnOrthogonal", fn := fun _ => fun
  | [d] => { results := [.lit (.bool true)], args := [d] }
  | _ => none }
def fnOrthogonalRow : OpenClaim := { program := "ytefgdkjcoeikmaa", sum := "94135021c52d7add50ecef7bbeb5105151e12d74ec04665fea63a8981a032313", func := "loop.example/g00992/laws.FnOrthogonal", spec := "fnOrthogonal", apart := false }
def FnOrthogonalSaid : Prop := fnOrthogonalRow.holds Try.pinned (OpenSpec.ofChange fnOrthogonalSpec)

/-- ITS FALSE NEIGHBOUR: 'it returns false'. Refute it at one input. -/
def fnOrthogonalWrong : ChangeSpec := { name := "fnOrthogonal", fn := fun _ => fun
  | [d] => { results := [.lit (.bool false)], args := [d] }
  | _ => none }
def FnOrthogonalWrongFalsely : Prop := fnOrthogonalRow.holds Try.pinned (OpenSpec.ofChange fnOrthogonalWrong)

/- THE SECOND FORM. 'bulk': how many values and letters a reading holds, each counted each time it is reached (what is shared counts as often as it is met; a slice's spare places count too). A statement '..UptoSaid' is the law's where the arguments, and the package variables that the reading takes, are together of bulk at most 1048576: NARROWER than '..Said'. Prove '..Said' where nothing that the law and all that it calls make is longer than what came in: it says more and counts as full. Else prove '..UptoSaid'. A law counts once. -/
mutual
def uptoBulk {H : Type} : DataW H → Nat
  | .lit (.string bytes) => bytes.length + 1
  | .lit _ => 1
  | .nil => 1
  | .ptr d => uptoBulk d + 1
  | .slice elems spare => uptoBulkAll elems + uptoBulkAll spare + 1
  | .agg parts => uptoBulkAll parts + 1
  | .iface _ d => uptoBulk d + 1
  | .map entries => uptoBulkEntries entries + 1
  | .held _ => 1
def uptoBulkAll {H : Type} : List (DataW H) → Nat
  | [] => 0
  | d :: r => uptoBulk d + uptoBulkAll r
def uptoBulkEntries {H : Type} : List (Lit × DataW H) → Nat
  | [] => 0
  | x :: r => uptoBulkEntry x + uptoBulkEntries r
def uptoBulkEntry {H : Type} : Lit × DataW H → Nat
  | (.string bytes, d) => bytes.length + uptoBulk d + 1
  | (_, d) => uptoBulk d + 1
 end
def uptoSmall : (H : Type) → List (DataW H) → Bool := fun _ ds => decide (uptoBulkAll ds ≤ 1048576)
def OpenSpec.upto (s : _root_.Go.ChangeSpec) : _root_.Go.OpenSpec := { _root_.Go.OpenSpec.ofChange s with cond := some uptoSmall }

/-- 'laws.FnExactSolveDesign', WHERE WHAT IT READS IS OF BULK AT MOST 1048576: true; the input reads as it did. -/
def fnExactSolveDesignUptoRow : OpenClaim := { program := "ytefgdkjcoeikmaa", sum := "94135021c52d7add50ecef7bbeb5105151e12d74ec04665fea63a8981a032313", func := "loop.example/g00992/laws.FnExactSolveDesign", spec := "fnExactSolveDesign", recurses := true, apart := false, narrowed := true }
def FnExactSolveDesignUptoSaid : Prop := fnExactSolveDesignUptoRow.holds Try.pinned (OpenSpec.upto fnExactSolveDesignSpec)

/-- 'laws.FnExactCountLinked', WHERE WHAT IT READS IS OF BULK AT MOST 1048576: true; the input reads as it did. -/
def fnExactCountLinkedUptoRow : OpenClaim := { program := "ytefgdkjcoeikmaa", sum := "94135021c52d7add50ecef7bbeb5105151e12d74ec04665fea63a8981a032313", func := "loop.example/g00992/laws.FnExactCountLinked", spec := "fnExactCountLinked", apart := false, narrowed := true }
def FnExactCountLinkedUptoSaid : Prop := fnExactCountLinkedUptoRow.holds Try.pinned (OpenSpec.upto fnExactCountLinkedSpec)

/-- 'laws.FnLines', WHERE WHAT IT READS IS OF BULK AT MOST 1048576: true; the input reads as it did. -/
def fnLinesUptoRow : OpenClaim := { program := "ytefgdkjcoeikmaa", sum := "94135021c52d7add50ecef7bbeb5105151e12d74ec04665fea63a8981a032313", func := "loop.example/g00992/laws.FnLines", spec := "fnLines", apart := false, narrowed := true }
def FnLinesUptoSaid : Prop := fnLinesUptoRow.holds Try.pinned (OpenSpec.upto fnLinesSpec)

/-- 'laws.FnDeterminants', WHERE WHAT IT READS IS OF BULK AT MOST 1048576: true; the input reads as it did. -/
def fnDeterminantsUptoRow : OpenClaim := { program := "ytefgdkjcoeikmaa", sum := "94135021c52d7add50ecef7bbeb5105151e12d74ec04665fea63a8981a032313", func := "loop.example/g00992/laws.FnDeterminants", spec := "fnDeterminants", recurses := true, apart := false, narrowed := true }
def FnDeterminantsUptoSaid : Prop := fnDeterminantsUptoRow.holds Try.pinned (OpenSpec.upto fnDeterminantsSpec)

/-- 'laws.FnDesigns', WHERE WHAT IT READS IS OF BULK AT MOST 1048576: true; the input reads as it did. -/
def fnDesignsUptoRow : OpenClaim := { program := "ytefgdkjcoeikmaa", sum := "94135021c52d7add50ecef7bbeb5105151e12d74ec04665fea63a8981a032313", func := "loop.example/g00992/laws.FnDesigns", spec := "fnDesigns", recurses := true, apart := false, narrowed := true }
def FnDesignsUptoSaid : Prop := fnDesignsUptoRow.holds Try.pinned (OpenSpec.upto fnDesignsSpec)

/-- 'laws.FnOrthogonal', WHERE WHAT IT READS IS OF BULK AT MOST 1048576: true; the input reads as it did. -/
def fnOrthogonalUptoRow : OpenClaim := { program := "ytefgdkjcoeikmaa", sum := "94135021c52d7add50ecef7bbeb5105151e12d74ec04665fea63a8981a032313", func := "loop.example/g00992/laws.FnOrthogonal", spec := "fnOrthogonal", apart := false, narrowed := true }
def FnOrthogonalUptoSaid : Prop := fnOrthogonalUptoRow.holds Try.pinned (OpenSpec.upto fnOrthogonalSpec)

end Rows
end Go.Proofs.Ytefgdkjcoeikmaa
