/-
  No cell of these rows narrows 'for every input' (looked for: loops, veiled, ifaces, maps, wideKeys, modest, calm, conditions, laid).
  DERIVED. THE GIVEN ROWS OF THIS SEAT. 12 by the template 'for every input the law returns true; each argument reads behind the call as it read before'; 0 by the template 'total and deterministic' (their statements: YthdfladfokccdaaTotals.lean).
  GIVEN WITH THE SEED: the statements are not yours to turn. If you find one false, say at which input.
  Laid BY PROGRAM, IN A SANDBOX (cutbox-rows.mjs): the forced cells as the released guide's own fill.sh prints them over the translation f7f4312d6478321e… (all of the seat's roots in one cut). By AI agents, Wed Nov 11 2026. No macro, syntax, notation, axiom, sorry.
-/
import Derived.Test.YthdfladfokccdaaChecked
import GoSem.Claim
import GoSem.ClaimJoined
import GoSem.ClaimMapViews
import Derived.JoinedTies
import Derived.KernelRfl
namespace Go.Proofs.Ythdfladfokccdaa
/- THE CELL 'sum', in the pinned program and in every row, IS THE sha256 OF THE DUMP (.gsa) THAT YthdfladfokccdaaProg.lean LOADS. Nothing in Lean hashes anything: it is a label: what it is worth is what the hold of that sum in a sandbox is worth. -/
noncomputable def Try.pinned : Pinned := { name := "ythdfladfokccdaa", sum := "f7f4312d6478321e80f7180891f19e29417c98b8d622d852d08281d20f779684", checked := Try.checked }
namespace Rows
def none {H : Type} : Left H := { results := [], args := [] }

/-- 'laws.FnExactKindOfMatrix': WHATEVER THE INPUT: true; the input reads as it did. -/
def fnExactKindOfMatrixSpec : ChangeSpec := { name := "fnExactKindOfMatrix", fn := fun _ => fun
  | [d] => { results := [.lit (.bool true)], args := [d] }
  | _ => none }
def fnExactKindOfMatrixRow : OpenClaim := { program := "ythdfladfokccdaa", sum := "f7f4312d6478321e80f7180891f19e29417c98b8d622d852d08281d20f779684", func := "loop.example/g01066/laws.FnExactKindOfMatrix", spec := "fnExactKindOfMatrix", apart := false }
def FnExactKindOfMatrixSaid : Prop := fnExactKindOfMatrixRow.holds Try.pinned (OpenSpec.ofChange fnExactKindOfMatrixSpec)

/-- ITS FALSE NEIGHBOUR: 'it returns false'. Refute it at one input. -/
def fnExactKindOfMatrixWrong : ChangeSpec := { name := "fnExactKindOfMatrix", fn := fun _ => fun
  | [d] => { results := [.lit (.bool false)], args := [d] }
  | _ => none }
def FnExactKindOfMatrixWrongFalsely : Prop := fnExactKindOfMatrixRow.holds Try.pinned (OpenSpec.ofChange fnExactKindOfMatrixWrong)

/-- 'laws.FnExactConjugateMatrix': WHATEVER THE INPUT: true; the input reads as it did. -/
def fnExactConjugateMatrixSpec : ChangeSpec := { name := "fnExactConjugateMatrix", fn := fun _ => fun
  | [d1, d2] => { results := [.lit (.bool true)], args := [d1, d2] }
  | _ => none }
def fnExactConjugateMatrixRow : OpenClaim := { program := "ythdfladfokccdaa", sum := "f7f4312d6478321e80f7180891f19e29417c98b8d622d852d08281d20f779684", func := "loop.example/g01066/laws.FnExactConjugateMatrix", spec := "fnExactConjugateMatrix", apart := false }
def FnExactConjugateMatrixSaid : Prop := fnExactConjugateMatrixRow.holds Try.pinned (OpenSpec.ofChange fnExactConjugateMatrixSpec)

/-- ITS FALSE NEIGHBOUR: 'it returns false'. Refute it at one input. -/
def fnExactConjugateMatrixWrong : ChangeSpec := { name := "fnExactConjugateMatrix", fn := fun _ => fun
  | [d1, d2] => { results := [.lit (.bool false)], args := [d1, d2] }
  | _ => none }
def FnExactConjugateMatrixWrongFalsely : Prop := fnExactConjugateMatrixRow.holds Try.pinned (OpenSpec.ofChange fnExactConjugateMatrixWrong)

/-- 'laws.FnExactMatrixOrder': WHATEVER THE INPUT: true; the input reads as it did. -/
def fnExactMatrixOrderSpec : ChangeSpec := { name := "fnExactMatrixOrder", fn := fun _ => fun
  | [d] => { results := [.lit (.bool true)], args := [d] }
  | _ => none }
def fnExactMatrixOrderRow : OpenClaim := { program := "ythdfladfokccdaa", sum := "f7f4312d6478321e80f7180891f19e29417c98b8d622d852d08281d20f779684", func := "loop.example/g01066/laws.FnExactMatrixOrder", spec := "fnExactMatrixOrder", apart := false }
def FnExactMatrixOrderSaid : Prop := fnExactMatrixOrderRow.holds Try.pinned (OpenSpec.ofChange fnExactMatrixOrderSpec)

/-- ITS FALSE NEIGHBOUR: 'it returns false'. Refute it at one input. -/
def fnExactMatrixOrderWrong : ChangeSpec := { name := "fnExactMatrixOrder", fn := fun _ => fun
  | [d] => { results := [.lit (.bool false)], args := [d] }
  | _ => none }
def FnExactMatrixOrderWrongFalsely : Prop := fnExactMatrixOrderRow.holds Try.pinned (OpenSpec.ofChange fnExactMatrixOrderWrong)

/-- 'laws.FnExactIsWord': WHATEVER THE INPUT: true; the input reads as it did. -/
def fnExactIsWordSpec : ChangeSpec := { name := "fnExactIsWord", fn := fun _ => fun
  | [d] => { results := [.lit (.bool true)], args := [d] }
  | _ => none }
def fnExactIsWordRow : OpenClaim := { program := "ythdfladfokccdaa", sum := "f7f4312d6478321e80f7180891f19e29417c98b8d622d852d08281d20f779684", func := "loop.example/g01066/laws.FnExactIsWord", spec := "fnExactIsWord", apart := false }
def FnExactIsWordSaid : Prop := fnExactIsWordRow.holds Try.pinned (OpenSpec.ofChange fnExactIsWordSpec)

/-- ITS FALSE NEIGHBOUR: 'it returns false'. Refute it at one input. -/
def fnExactIsWordWrong : ChangeSpec := { name := "fnExactIsWord", fn := fun _ => fun
  | [d] => { results := [.lit (.bool false)], args := [d] }
  | _ => none }
def FnExactIsWordWrongFalsely : Prop := fnExactIsWordRow.holds Try.pinned (OpenSpec.ofChange fnExactIsWordWrong)

/-- 'laws.FnExactInverseWord': WHATEVER THE INPUT: true; the input reads as it did. -/
def fnExactInverseWordSpec : ChangeSpec := { name := "fnExactInverseWord", fn := fun _ => fun
  | [d] => { results := [.lit (.bool true)], args := [d] }
  | _ => none }
def fnExactInverseWordRow : OpenClaim := { program := "ythdfladfokccdaa", sum := "f7f4312d6478321e80f7180891f19e29417c98b8d622d852d08281d20f779684", func := "loop.example/g01066/laws.FnExactInverseWord", spec := "fnExactInverseWord", apart := false }
def FnExactInverseWordSaid : Prop := fnExactInverseWordRow.holds Try.pinned (OpenSpec.ofChange fnExactInverseWordSpec)

/-- ITS FALSE NEIGHBOUR: 'it returns false'. Refute it at one input. -/
def fnExactInverseWordWrong : ChangeSpec := { name := "fnExactInverseWord", fn := fun _ => fun
  | [d] => { results := [.lit (.bool false)], args := [d] }
  | _ => none }
def FnExactInverseWordWrongFalsely : Prop := fnExactInverseWordRow.holds Try.pinned (OpenSpec.ofChange fnExactInverseWordWrong)

/-- 'laws.FnExactWordProduct': WHATEVER THE INPUT: true; the input reads as it did. -/
def fnExactWordProductSpec : ChangeSpec := { name := "fnExactWordProduct", fn := fun _ => fun
  | [d1, d2] => { results := [.lit (.bool true)], args := [d1, d2] }
  | _ => none }
def fnExactWordProductRow : OpenClaim := { program := "ythdfladfokccdaa", sum := "f7f4312d6478321e80f7180891f19e29417c98b8d622d852d08281d20f779684", func := "loop.example/g01066/laws.FnExactWordProduct", spec := "fnExactWordProduct", apart := false }
def FnExactWordProductSaid : Prop := fnExactWordProductRow.holds Try.pinned (OpenSpec.ofChange fnExactWordProductSpec)

/-- ITS FALSE NEIGHBOUR: 'it returns false'. Refute it at one input. -/
def fnExactWordProductWrong : ChangeSpec := { name := "fnExactWordProduct", fn := fun _ => fun
  | [d1, d2] => { results := [.lit (.bool false)], args := [d1, d2] }
  | _ => none }
def FnExactWordProductWrongFalsely : Prop := fnExactWordProductRow.holds Try.pinned (OpenSpec.ofChange fnExactWordProductWrong)

/-- 'laws.FnExactWordMatrix': WHATEVER THE INPUT: true; the input reads as it did. -/
def fnExactWordMatrixSpec : ChangeSpec := { name := "fnExactWordMatrix", fn := fun _ => fun
  | [d] => { results := [.lit (.bool true)], args := [d] }
  | _ => none }
def fnExactWordMatrixRow : OpenClaim := { program := "ythdfladfokccdaa", sum := "f7f4312d6478321e80f7180891f19e29417c98b8d622d852d08281d20f779684", func := "loop.example/g01066/laws.FnExactWordMatrix", spec := "fnExactWordMatrix", apart := false }
def FnExactWordMatrixSaid : Prop := fnExactWordMatrixRow.holds Try.pinned (OpenSpec.ofChange fnExactWordMatrixSpec)

/-- ITS FALSE NEIGHBOUR: 'it returns false'. Refute it at one input. -/
def fnExactWordMatrixWrong : ChangeSpec := { name := "fnExactWordMatrix", fn := fun _ => fun
  | [d] => { results := [.lit (.bool false)], args := [d] }
  | _ => none }
def FnExactWordMatrixWrongFalsely : Prop := fnExactWordMatrixRow.holds Try.pinned (OpenSpec.ofChange fnExactWordMatrixWrong)

/-- 'laws.FnExactMatrixWord': WHATEVER THE INPUT: true; the input reads as it did. -/
def fnExactMatrixWordSpec : ChangeSpec := { name := "fnExactMatrixWord", fn := fun _ => fun
  | [d] => { results := [.lit (.bool true)], args := [d] }
  | _ => none }
def fnExactMatrixWordRow : OpenClaim := { program := "ythdfladfokccdaa", sum := "f7f4312d6478321e80f7180891f19e29417c98b8d622d852d08281d20f779684", func := "loop.example/g01066/laws.FnExactMatrixWord", spec := "fnExactMatrixWord", apart := false }
def FnExactMatrixWordSaid : Prop := fnExactMatrixWordRow.holds Try.pinned (OpenSpec.ofChange fnExactMatrixWordSpec)

/-- ITS FALSE NEIGHBOUR: 'it returns false'. Refute it at one input. -/
def fnExactMatrixWordWrong : ChangeSpec := { name := "fnExactMatrixWord", fn := fun _ => fun
  | [d] => { results := [.lit (.bool false)], args := [d] }
  | _ => none }
def FnExactMatrixWordWrongFalsely : Prop := fnExactMatrixWordRow.holds Try.pinned (OpenSpec.ofChange fnExactMatrixWordWrong)

/-- 'laws.FnExactNormalWord': WHATEVER THE INPUT: true; the input reads as it did. -/
def fnExactNormalWordSpec : ChangeSpec := { name := "fnExactNormalWord", fn := fun _ => fun
  | [d] => { results := [.lit (.bool true)], args := [d] }
  | _ => none }
def fnExactNormalWordRow : OpenClaim := { program := "ythdfladfokccdaa", sum := "f7f4312d6478321e80f7180891f19e29417c98b8d622d852d08281d20f779684", func := "loop.example/g01066/laws.FnExactNormalWord", spec := "fnExactNormalWord", apart := false }
def FnExactNormalWordSaid : Prop := fnExactNormalWordRow.holds Try.pinned (OpenSpec.ofChange fnExactNormalWordSpec)

/-- ITS FALSE NEIGHBOUR: 'it returns false'. Refute it at one input. -/
def fnExactNormalWordWrong : ChangeSpec := { name := "fnExactNormalWord", fn := fun _ => fun
  | [d] => { results := [.lit (.bool false)], args := [d] }
  | _ => none }
def FnExactNormalWordWrongFalsely : Prop := fnExactNormalWordRow.holds Try.pinned (OpenSpec.ofChange fnExactNormalWordWrong)

/-- 'laws.FnExactSecondPoint': WHATEVER THE INPUT: true; the input reads as it did. -/
def fnExactSecondPointSpec : ChangeSpec := { name := "fnExactSecondPoint", fn := fun _ => fun
  | [d1, d2, d3, d4] => { results := [.lit (.bool true)], args := [d1, d2, d3, d4] }
  | _ => none }
def fnExactSecondPointRow : OpenClaim := { program := "ythdfladfokccdaa", sum := "f7f4312d6478321e80f7180891f19e29417c98b8d622d852d08281d20f779684", func := "loop.example/g01066/laws.FnExactSecondPoint", spec := "fnExactSecondPoint", apart := false }
def FnExactSecondPointSaid : Prop := fnExactSecondPointRow.holds Try.pinned (OpenSpec.ofChange fnExactSecondPointSpec)

/-- ITS FALSE NEIGHBOUR: 'it returns false'. Refute it at one input. -/
def fnExactSecondPointWrong : ChangeSpec := { name := "fnExactSecondPoint", fn := fun _ => fun
  | [d1, d2, d3, d4] => { results := [.lit (.bool false)], args := [d1, d2, d3, d4] }
  | _ => none }
def FnExactSecondPointWrongFalsely : Prop := fnExactSecondPointRow.holds Try.pinned (OpenSpec.ofChange fnExactSecondPointWrong)

/-- 'laws.FnExactStepNode': WHATEVER THE INPUT: true; the input reads as it did. -/
def fnExactStepNodeSpec : ChangeSpec := { name := "fnExactStepNode", fn := fun _ => fun
  | [d1, d2] => { results := [.lit (.bool true)], args := [d1, d2] }
  | _ => none }
def fnExactStepNodeRow : OpenClaim := { program := "ythdfladfokccdaa", sum := "f7f4312d6478321e80f7180891f19e29417c98b8d622d852d08281d20f779684", func := "loop.example/g01066/laws.FnExactStepNode", spec := "fnExactStepNode", apart := false }
def FnExactStepNodeSaid : Prop := fnExactStepNodeRow.holds Try.pinned (OpenSpec.ofChange fnExactStepNodeSpec)

/-- ITS FALSE NEIGHBOUR: 'it returns false'. Refute it at one input. -/
def fnExactStepNodeWrong : ChangeSpec := { name := "fnExactStepNode", fn := fun _ => fun
  | [d1, d2] => { results := [.lit (.bool false)], args := [d1, d2] }
  | _ => none }
def FnExactStepNodeWrongFalsely : Prop := fnExactStepNodeRow.holds Try.pinned (OpenSpec.ofChange fnExactStepNodeWrong)

/-- 'laws.FnExactWalkNodes': WHATEVER THE INPUT: true; the input reads as it did. -/
def fnExactWalkNodesSpec : ChangeSpec := { name := "fnExactWalkNodes", fn := fun _ => fun
  | [d] => { results := [.lit (.bool true)], args := [d] }
  | _ => none }
def fnExactWalkNodesRow : OpenClaim := { program := "ythdfladfokccdaa", sum := "f7f4312d6478321e80f7180891f19e29417c98b8d622d852d08281d20f779684", func := "loop.example/g01066/laws.FnExactWalkNodes", spec := "fnExactWalkNodes", apart := false }
def FnExactWalkNodesSaid : Prop := fnExactWalkNodesRow.holds Try.pinned (OpenSpec.ofChange fnExactWalkNodesSpec)

/-- ITS FALSE NEIGHBOUR: 'it returns false'. Refute it at one input. -/
def fnExactWalkNodesWrong : ChangeSpec := { name := "fnExactWalkNodes", fn := fun _ => fun
  | [d] => { results := [.lit (.bool false)], args := [d] }
  | _ => none }
def FnExactWalkNodesWrongFalsely : Prop := fnExactWalkNodesRow.holds Try.pinned (OpenSpec.ofChange fnExactWalkNodesWrong)

/- THE SECOND FORM. 'bulk': how many values and letters a reading holds, each counted each time it is reached (what is shared counts as often as it is met; a slice's spare places count too). A statement '..UptoSaid' is the law's where the arguments, and the package variables that the reading takes, are together of bulk at most 1048576: NARROWER than '..Said'. Prove '..Said' where nothing that the law and all that it calls make is longer than what came in: it says more and counts as full. Else prove '..UptoSaid'. A law counts once. -/
mutual
def uptoBulk {H : Type} : DataW H → Nat
  | .lit (.string bytes) => bytes.length + 1
  | .lit _ => 1
  | .nil => 1
  | .ptr d => uptoBulk d + 1
  | .slice elems spare => uptoBulkAll elems + uptoBulkAll spare + 1
  | .agg parts => uptoBulkAll parts + 1
  | .iface _ d => uptoBulk d + 1
  | .map entries => uptoBulkEntries entries + 1
  | .held _ => 1
def uptoBulkAll {H : Type} : List (DataW H) → Nat
  | [] => 0
  | d :: r => uptoBulk d + uptoBulkAll r
def uptoBulkEntries {H : Type} : List (Lit × DataW H) → Nat
  | [] => 0
  | x :: r => uptoBulkEntry x + uptoBulkEntries r
def uptoBulkEntry {H : Type} : Lit × DataW H → Nat
  | (.string bytes, d) => bytes.length + uptoBulk d + 1
  | (_, d) => uptoBulk d + 1
 end
def uptoSmall : (H : Type) → List (DataW H) → Bool := fun _ ds => decide (uptoBulkAll ds ≤ 1048576)
def OpenSpec.upto (s : _root_.Go.ChangeSpec) : _root_.Go.OpenSpec := { _root_.Go.OpenSpec.ofChange s with cond := some uptoSmall }

/-- 'laws.FnExactKindOfMatrix', WHERE WHAT IT READS IS OF BULK AT MOST 1048576: true; the input reads as it did. -/
def fnExactKindOfMatrixUptoRow : OpenClaim := { program := "ythdfladfokccdaa", sum := "f7f4312d6478321e80f7180891f19e29417c98b8d622d852d08281d20f779684", func := "loop.example/g01066/laws.FnExactKindOfMatrix", spec := "fnExactKindOfMatrix", apart := false, narrowed := true }
def FnExactKindOfMatrixUptoSaid : Prop := fnExactKindOfMatrixUptoRow.holds Try.pinned (OpenSpec.upto fnExactKindOfMatrixSpec)

/-- 'laws.FnExactConjugateMatrix', WHERE WHAT IT READS IS OF BULK AT MOST 1048576: true; the input reads as it did. -/
def fnExactConjugateMatrixUptoRow : OpenClaim := { program := "ythdfladfokccdaa", sum := "f7f4312d6478321e80f7180891f19e29417c98b8d622d852d08281d20f779684", func := "loop.example/g01066/laws.FnExactConjugateMatrix", spec := "fnExactConjugateMatrix", apart := false, narrowed := true }
def FnExactConjugateMatrixUptoSaid : Prop := fnExactConjugateMatrixUptoRow.holds Try.pinned (OpenSpec.upto fnExactConjugateMatrixSpec)

/-- 'laws.FnExactMatrixOrder', WHERE WHAT IT READS IS OF BULK AT MOST 1048576: true; the input reads as it did. -/
def fnExactMatrixOrderUptoRow : OpenClaim := { program := "ythdfladfokccdaa", sum := "f7f4312d6478321e80f7180891f19e29417c98b8d622d852d08281d20f779684", func := "loop.example/g01066/laws.FnExactMatrixOrder", spec := "fnExactMatrixOrder", apart := false, narrowed := true }
def FnExactMatrixOrderUptoSaid : Prop := fnExactMatrixOrderUptoRow.holds Try.pinned (OpenSpec.upto fnExactMatrixOrderSpec)

/-- 'laws.FnExactIsWord', WHERE WHAT IT READS IS OF BULK AT MOST 1048576: true; the input reads as it did. -/
def fnExactIsWordUptoRow : OpenClaim := { program := "ythdfladfokccdaa", sum := "f7f4312d6478321e80f7180891f19e29417c98b8d622d852d08281d20f779684", func := "loop.example/g01066/laws.FnExactIsWord", spec := "fnExactIsWord", apart := false, narrowed := true }
def FnExactIsWordUptoSaid : Prop := fnExactIsWordUptoRow.holds Try.pinned (OpenSpec.upto fnExactIsWordSpec)

/-- 'laws.FnExactInverseWord', WHERE WHAT IT READS IS OF BULK AT MOST 1048576: true; the input reads as it did. -/
def fnExactInverseWordUptoRow : OpenClaim := { program := "ythdfladfokccdaa", sum := "f7f4312d6478321e80f7180891f19e29417c98b8d622d852d08281d20f779684", func := "loop.example/g01066/laws.FnExactInverseWord", spec := "fnExactInverseWord", apart := false, narrowed := true }
def FnExactInverseWordUptoSaid : Prop := fnExactInverseWordUptoRow.holds Try.pinned (OpenSpec.upto fnExactInverseWordSpec)

/-- 'laws.FnExactWordProduct', WHERE WHAT IT READS IS OF BULK AT MOST 1048576: true; the input reads as it did. -/
def fnExactWordProductUptoRow : OpenClaim := { program := "ythdfladfokccdaa", sum := "f7f4312d6478321e80f7180891f19e29417c98b8d622d852d08281d20f779684", func := "loop.example/g01066/laws.FnExactWordProduct", spec := "fnExactWordProduct", apart := false, narrowed := true }
def FnExactWordProductUptoSaid : Prop := fnExactWordProductUptoRow.holds Try.pinned (OpenSpec.upto fnExactWordProductSpec)

/-- 'laws.FnExactWordMatrix', WHERE WHAT IT READS IS OF BULK AT MOST 1048576: true; the input reads as it did. -/
def fnExactWordMatrixUptoRow : OpenClaim := { program := "ythdfladfokccdaa", sum := "f7f4312d6478321e80f7180891f19e29417c98b8d622d852d08281d20f779684", func := "loop.example/g01066/laws.FnExactWordMatrix", spec := "fnExactWordMatrix", apart := false, narrowed := true }
def FnExactWordMatrixUptoSaid : Prop := fnExactWordMatrixUptoRow.holds Try.pinned (OpenSpec.upto fnExactWordMatrixSpec)

/-- 'laws.FnExactMatrixWord', WHERE WHAT IT READS IS OF BULK AT MOST 1048576: true; the input reads as it did. -/
def fnExactMatrixWordUptoRow : OpenClaim := { program := "ythdfladfokccdaa", sum := "f7f4312d6478321e80f7180891f19e29417c98b8d622d852d08281d20f779684", func := "loop.example/g01066/laws.FnExactMatrixWord", spec := "fnExactMatrixWord", apart := false, narrowed := true }
def FnExactMatrixWordUptoSaid : Prop := fnExactMatrixWordUptoRow.holds Try.pinned (OpenSpec.upto fnExactMatrixWordSpec)

/-- 'laws.FnExactNormalWord', WHERE WHAT IT READS IS OF BULK AT MOST 1048576: true; the input reads as it did. -/
def fnExactNormalWordUptoRow : OpenClaim := { program := "ythdfladfokccdaa", sum := "f7f4312d6478321e80f7180891f19e29417c98b8d622d852d08281d20f779684", func := "loop.example/g01066/laws.FnExactNormalWord", spec := "fnExactNormalWord", apart := false, narrowed := true }
def FnExactNormalWordUptoSaid : Prop := fnExactNormalWordUptoRow.holds Try.pinned (OpenSpec.upto fnExactNormalWordSpec)

/-- 'laws.FnExactSecondPoint', WHERE WHAT IT READS IS OF BULK AT MOST 1048576: true; the input reads as it did. -/
def fnExactSecondPointUptoRow : OpenClaim := { program := "ythdfladfokccdaa", sum := "f7f4312d6478321e80f7180891f19e29417c98b8d622d852d08281d20f779684", func := "loop.example/g01066/laws.FnExactSecondPoint", spec := "fnExactSecondPoint", apart := false, narrowed := true }
def FnExactSecondPointUptoSaid : Prop := fnExactSecondPointUptoRow.holds Try.pinned (OpenSpec.upto fnExactSecondPointSpec)

/-- 'laws.FnExactStepNode', WHERE WHAT IT READS IS OF BULK AT MOST 1048576: true; the input reads as it did. -/
def fnExactStepNodeUptoRow : OpenClaim := { program := "ythdfladfokccdaa", sum := "f7f4312d6478321e80f7180891f19e29417c98b8d622d852d08281d20f779684", func := "loop.example/g01066/laws.FnExactStepNode", spec := "fnExactStepNode", apart := false, narrowed := true }
def FnExactStepNodeUptoSaid : Prop := fnExactStepNodeUptoRow.holds Try.pinned (OpenSpec.upto fnExactStepNodeSpec)

/-- 'laws.FnExactWalkNodes', WHERE WHAT IT READS IS OF BULK AT MOST 1048576: true; the input reads as it did. -/
def fnExactWalkNodesUptoRow : OpenClaim := { program := "ythdfladfokccdaa", sum := "f7f4312d6478321e80f7180891f19e29417c98b8d622d852d08281d20f779684", func := "loop.example/g01066/laws.FnExactWalkNodes", spec := "fnExactWalkNodes", apart := false, narrowed := true }
def FnExactWalkNodesUptoSaid : Prop := fnExactWalkNodesUptoRow.holds Try.pinned (OpenSpec.upto fnExactWalkNodesSpec)

end Rows
end Go.Proofs.Ythdfladfokccdaa
